/- The walk of gyrelaw.WireCuts. Conditions: what the variable errors.errorType holds. -/
import Derived.Test.YtnkinnfpebploaaDoorCut2
import Derived.Test.YtnkinnfpebploaaDoorBare
import Derived.Test.YtnkinnfpebploaaDoorBoth
namespace Go.Proofs.YtnkinnfpebploaaDoor
open Go.ChangeShapes Go.WideShapes Go.ChangeAt Go.RowKit Go.BigFrame
open B
theorem Src.of_row {w : World} {base : Nat} {v : Value} {l : List Nat} (h : w.ownsRow base 5 1 v l.length (u8s l)) : Src w v l := by
  rcases id h.2 with ⟨rfl, h0⟩ | ⟨g, cap, cur, rfl, _⟩
  · exact .inl ⟨rfl, by simpa using h0⟩
  · exact .inr ⟨_, cap, rfl, fun j u hu => row_cells h j u hu⟩
theorem row_cap {w : World} {base : Nat} {A : Option Addr} {n cap m : Nat} {e : TypeId} {s : Nat} {xs : List Value} (h : w.ownsRow base e s (.slice A n cap) m xs) : n ≤ cap := by
  rcases h.2 with ⟨e, h0⟩ | ⟨g, c, cur, e, _, _, h1, _⟩
  · cases e; omega
  · cases e; exact h1
set_option maxRecDepth 100000 in
set_option maxHeartbeats 1000000 in
theorem samePiece_c (st ba ix ma : Int) (A1 A2 : Option Addr) (N c1 c2 : Nat) (L : List Nat) (w : World) (h1 : Rdb w (.slice A1 N c1) L) (h2 : Rdb w (.slice A2 N c2) L) :
    Calls Tryd.prog 17 #[.agg #[.int .i64 st, .int .i64 ba, .int .i64 ix, .int .i64 ma, .slice A1 N c1], .agg #[.int .i64 st, .int .i64 ba, .int .i64 ix, .int .i64 ma, .slice A2 N c2]] w fun e w' => e = .returned (.bool true) ∧ Below w.heap.size w w' := by
  have hb : Below w.heap.size w ((w.alloc (.cells #[.int .i64 st, .int .i64 ba, .int .i64 ix, .int .i64 ma, .slice A1 N c1] 36)).alloc (.cells #[.int .i64 st, .int .i64 ba, .int .i64 ix, .int .i64 ma, .slice A2 N c2] 37)) := (balloc _ _).trans ((balloc _ _).mono (by simp))
  have hc1 := conv_rdb (h1.below hb)
  have hc2 := conv_rdb (h2.below hb)
  have HB := Lib.hid hb
  clear h1 h2 hb
  go_enter Tryd.func17, Tryd.ntmps17
  go_wp2
  go_ret
  exact ⟨rfl, HB.out⟩
theorem u8s_app (l m : List Nat) : u8s (l ++ m) = u8s l ++ u8s m := u8s_append l m
/-- times, turned into how often -/
theorem often (a : Int) : wrap64 ((IntKind.u64.wrap a).tmod 4) = (((a % 18446744073709551616).toNat % 4 : Nat) : Int) := by
  rw [IntKind.wrap_u64, Int.tmod_eq_emod_of_nonneg (by omega)]
  rw [IntWalk.wrap64_in _ (by omega)]
  omega

theorem own_lower {w : World} {B B' : Nat} {e : TypeId} {s n : Nat} {v : Value} {xs : List Value} (h : w.ownsRow B e s v n xs) (hb : B' ≤ B) : w.ownsRow B' e s v n xs := by
  obtain ⟨h1, h2 | ⟨g, cap, cur, a, b, c⟩⟩ := h
  · exact ⟨h1, .inl h2⟩
  · exact ⟨h1, .inr ⟨g, cap, cur, a, by omega, c⟩⟩
theorem grow_cell {wr w1 : World} {T : TypeId} {cs : Array Value} {a : Addr} (h : (wr.alloc (.cells cs T)).grownBy w1 (Value.slice (some ⟨wr.heap.size, 0, none⟩) 0 0).ownBlock) (ha : a.block < wr.heap.size) : w1.cell? a = wr.cell? a := by
  have hb : Below wr.heap.size wr w1 := (balloc _ _).trans ((mod_grown h).toBelow (by simp) (fun b hb e => by simp only [Value.ownBlock, Option.some.injEq] at e; omega))
  exact hb.cell (p := a) ha

set_option maxRecDepth 100000 in
set_option maxHeartbeats 4000000 in
theorem wireCuts_w (st ba : Int) (v : Value) (l : List Nat) (times : Int) (w : World) (hH : Handle w) (hS : Src w v l) (_h8 : ∀ b ∈ l, b < 256) (hl : l.length ≤ maxLen) (hcap : ∀ A N cap, v = .slice A N cap → N ≤ cap) :
    Calls Tryd.prog 3 #[.int .i64 st, .int .i64 ba, v, .int .i64 times] w fun e w' => e = .returned (.bool true) ∧ Below w.heap.size w w' := by
  obtain ⟨A, N, cap, rfl, hN⟩ : ∃ A N cap, v = .slice A N cap ∧ N = l.length := by
    rcases id hS with ⟨e, e2⟩ | ⟨ad, c, e, _⟩
    · exact ⟨none, 0, 0, e, by rw [e2]; rfl⟩
    · exact ⟨_, _, c, e, rfl⟩
  have hcp := hcap A N cap rfl
  rw [← hN] at hl
  unfold maxLen at hl
  clear hcap
  by_cases h2000 : N > 2000
  · clear hS hN
    go_enter Tryd.func3, Tryd.ntmps3
    go_wp2
    go_ret
    exact ⟨rfl, Below.refl _ _⟩
  have h2000' : ¬ (N : Int) > 2000 := by omega
  have hN2 : N ≤ 2000 := by omega
  obtain ⟨kk, hkk⟩ : ∃ kk, kk = (times % 18446744073709551616).toNat % 4 := ⟨_, rfl⟩
  have hk4 : kk < 4 := by rw [hkk]; exact Nat.mod_lt _ (by decide)
  have hof := often times
  rw [← hkk] at hof
  have HSR := Lib.hid hS
  have HN := Lib.hid hN
  clear h2000 hkk hS hN
  go_enter Tryd.func3, Tryd.ntmps3
  go_wp2
  clear h2000'
  go_loopw [2, 9] (fun tv i wr => ∃ (j : Nat) (A : Option Addr) (N cap : Nat) (l : List Nat), j ≤ kk ∧ i = .int .i64 j ∧ tv = .slice A N cap ∧ N = l.length ∧ N ≤ cap ∧ Src wr (.slice A N cap) l ∧ N ≤ 2000 * 2 ^ j ∧ Below w.heap.size w wr) (fun _ i _ => kk - (intOf i).toNat)
  case atStart => exact ⟨0, A, N, cap, l, by omega, rfl, rfl, HN.out, hcp, HSR.out, by simp; omega, Below.refl _ _⟩
  case round =>
    clear hcp HSR HN hl
    obtain ⟨j, A, N, cap, l, hj, rfl, rfl, hN, hcp, hS, hpw, hB⟩ := hrel
    have hN16 : N ≤ 16000 := by
      have : 2 ^ j ≤ 2 ^ 3 := Nat.pow_le_pow_right (by decide) (by omega)
      omega
    have HN := Lib.hid hN
    have HCP := Lib.hid hcp
    have HPW := Lib.hid hpw
    have HSR := Lib.hid hS
    by_cases hlt : j < kk
    · obtain ⟨i0, hi, hz0, hz1, hz2⟩ := info_parts byteInfo
      have HI := Lib.hid hi
      have HZ0 := Lib.hid hz0
      have HZ1 := Lib.hid hz1
      have HZ2 := Lib.hid hz2
      clear hi hz0 hz1 hz2 hpw hcp hN
      have hBZ : Hid (w.heap.size ≤ wr.heap.size) := Lib.hid hB.size
      have hbase : Hid (w.heap.size ≤ (wr.alloc (.cells #[] 5)).heap.size) := Lib.hid (by have := hB.size; simp; omega)
      rcases hS with ⟨hv, hl0⟩ | ⟨ad, c, hv, hc⟩
      · cases hv
        subst hl0
        have he : (wr.alloc (.cells #[] 5)).ownsRow wr.heap.size 5 1 (.slice (some ⟨wr.heap.size, 0, none⟩) 0 0) 0 [] := own_empty 5 1
        have HE := Lib.hid he
        clear he
        go_wp2_with (at_builtin; first | (refine wpList_append_own_none _ rfl (.tmp 26) (.tmp 27) 22 rfl wr.heap.size 5 i0 1 Tryd.underlying22 HI.out (.slice (some ⟨wr.heap.size, 0, none⟩) 0 0) 0 [] rfl HE.out rfl ?_) | (refine wpList_append_own_none _ rfl (.tmp 28) (.tmp 29) 22 rfl wr.heap.size 5 i0 1 Tryd.underlying22 HI.out (.slice (some ⟨wr.heap.size, 0, none⟩) 0 0) 0 [] rfl HE.out rfl ?_))
        go_roundw
        case rel => exact ⟨j + 1, _, 0, 0, [], by omega, by go_num, rfl, rfl, by omega, Src.of_row (row_below (show (wr.alloc (.cells #[] 5)).ownsRow wr.heap.size 5 1 (.slice (some ⟨wr.heap.size, 0, none⟩) 0 0) ([] : List Nat).length (u8s []) from HE.out) (Below.refl _ _)), by omega, hB.trans ((balloc _ _).mono hB.size)⟩
        case measure => first | (simp [intOf]; done) | (simp [intOf]; omega)
      · cases hv
        have hcH := Lib.hid hc
        clear hc
        have HC1 : Hid (∀ q u, (u8s l)[q]? = some u → (wr.alloc (.cells #[] 5)).cell? (ad.add q) = some u) := Lib.hid (fun q u hu => (World.cell?_alloc_lt _ _ _ (lt_cell (hcH.out q u hu))).trans (hcH.out q u hu))
        have HC2 : Hid (∀ w1, (wr.alloc (.cells #[] 5)).grownBy w1 (Value.slice (some ⟨wr.heap.size, 0, none⟩) 0 0).ownBlock → ∀ q u, (u8s l)[q]? = some u → w1.cell? (ad.add q) = some u) := Lib.hid (fun w1 hg q u hu => (grow_cell hg (lt_cell (hcH.out q u hu))).trans (hcH.out q u hu))
        have HZB : Hid (∀ w1, (wr.alloc (.cells #[] 5)).grownBy w1 (Value.slice (some ⟨wr.heap.size, 0, none⟩) 0 0).ownBlock → w.heap.size ≤ w1.heap.size) := Lib.hid (fun w1 hg => Nat.le_trans hbase.out hg.size)
        have HU : Hid ((u8s l).length = l.length * 1) := Lib.hid (by rw [u8s_length]; omega)
        have HM1 : Hid (0 + l.length ≤ maxLen ∧ (0 + l.length) * 1 ≤ 140737488355328 ∧ 0 + l.length + l.length ≤ maxLen ∧ (0 + l.length + l.length) * 1 ≤ 140737488355328) := Lib.hid (by unfold maxLen; omega)
        have HE0 : Hid ((wr.alloc (.cells #[] 5)).ownsRow w.heap.size 5 1 (.slice (some ⟨wr.heap.size, 0, none⟩) 0 0) 0 []) := Lib.hid (own_lower (own_empty 5 1) hBZ.out)
        go_wp2_with (at_builtin; first
          | (refine wpList_append_own_at _ rfl (.tmp 26) (.tmp 27) 22 rfl w.heap.size 5 i0 (.int .u8 0) 1 1 Tryd.underlying22 HI.out HZ0.out HZ1.out HZ2.out rfl (by decide) (.slice (some ⟨wr.heap.size, 0, none⟩) 0 0) 0 [] rfl HE0.out ad l.length _ (u8s l) rfl HU.out HC1.out (u8s_one _) HM1.out.1 HM1.out.2.1 hbase.out ?_; intro v1 w1 hown1 hgr1 _ hwh1; have HO1 := Lib.hid hown1; have HG1 := Lib.hid hgr1; clear hown1 hgr1 hwh1)
          | (refine wpList_append_own_at _ rfl (.tmp 28) (.tmp 29) 22 rfl w.heap.size 5 i0 (.int .u8 0) 1 1 Tryd.underlying22 HI.out HZ0.out HZ1.out HZ2.out rfl (by decide) v1 (0 + l.length) ([] ++ u8s l) rfl HO1.out ad l.length _ (u8s l) rfl HU.out (HC2.out _ HG1.out) (u8s_one _) HM1.out.2.2.1 HM1.out.2.2.2 (HZB.out _ HG1.out) ?_; intro v2 w2 hown2 hgr2 _ hwh2; have HO2 := Lib.hid hown2; have HG2 := Lib.hid hgr2; clear hown2 hgr2 hwh2))
        have hrow : w2.ownsRow w.heap.size 5 1 v2 (l ++ l).length (u8s (l ++ l)) := by
          have := HO2.out
          rw [u8s_append, List.length_append]
          simpa using this
        obtain ⟨A2, cap2, hv2⟩ := row_form hrow
        subst hv2
        have hBB : Below w.heap.size w w2 := by
          have e1 : Below w.heap.size wr (wr.alloc (.cells #[] 5)) := (balloc _ _).mono hBZ.out
          have e2 : Below w.heap.size (wr.alloc (.cells #[] 5)) w1 := (mod_grown HG1.out).toBelow hbase.out (fun b hb e => by have e' : some wr.heap.size = some b := e; have := Option.some.inj e'; have := hBZ.out; omega)
          have e3 : Below w.heap.size w1 w2 := (mod_grown HG2.out).toBelow (HZB.out _ HG1.out) (fun b hb e => by have := (row_lt HO1.out e).2; omega)
          exact ((hB.trans e1).trans e2).trans e3
        obtain ⟨M, hM⟩ : ∃ M, M = (l ++ l).length := ⟨_, rfl⟩
        rw [← hM] at hrow
        rw [← hM]
        have HM := Lib.hid hM
        have HR := Lib.hid hrow
        clear HO1 HG1 HO2 HG2 HC1 HC2 HZB HU HM1 HE0 HI HZ0 HZ1 HZ2 hM hrow hB
        go_wp2
        go_roundw
        case rel =>
          refine ⟨j + 1, A2, M, cap2, l ++ l, by omega, by go_num, rfl, HM.out, row_cap HR.out, ?_, ?_, hBB⟩
          · have := HR.out
            rw [HM.out] at this
            rw [HM.out]
            exact Src.of_row this
          · have h1 := HM.out; have h2 := HPW.out; have h3 := HN.out
            rw [List.length_append] at h1
            rw [Nat.pow_succ]
            omega
        case measure => first | (simp [intOf]; done) | (simp [intOf]; omega)
    · obtain rfl : j = kk := by omega
      clear hpw hN hcp hS
      by_cases h5000 : N > 5000
      · have h5' : (N : Int) > 5000 := by omega
        go_wp2
        go_ret
        exact ⟨rfl, hB⟩
      have h5' : ¬ (N : Int) > 5000 := by omega
      have hHr := hH.below hB
      by_cases hbad : CutBad st ba
      · have HBD := Lib.hid hbad
        clear hbad
        go_wp2_with fail
        with_reducible refine (rcuts_bad st ba _ _ HBD.out).mono ?_
        rintro e w' ⟨rfl, rfl⟩
        go_wp2_with fail
        with_reducible refine (cut_bad st ba _ _ HBD.out).mono ?_
        rintro e w' ⟨rfl, rfl⟩
        go_wp2_with fail
        with_reducible refine (lbare_hit 2 2 true _ hHr rfl).mono ?_
        rintro e w3 ⟨rfl, hb3⟩
        clear h5'
        go_wp2
        go_loop [14] (fun i => i = .int .i64 0) (fun _ => 0)
        case atStart => rfl
        case round =>
          subst hrel
          go_wp2
          go_ret
          exact ⟨rfl, hB.trans (hb3.mono hB.size)⟩
      · have HBD := Lib.hid hbad
        clear hbad
        go_wp2_with fail
        refine (rcuts_c st ba A N cap l _ HBD.out HSR.out HCP.out (by omega)).mono ?_
        rintro e w1 (⟨h40, rfl, hb1⟩ | ⟨h40, A1, c1, vs1, rfl, hv1, hrow1, hpt1, hb1⟩)
        · have h4000 : 4000 < N := by have := HN.out; unfold manyP at h40; rw [← this] at h40; split at h40 <;> omega
          go_wp2_with fail
          with_reducible refine (cut_many st ba A N cap _ HBD.out (by omega) h4000).mono ?_
          rintro e w' ⟨rfl, rfl⟩
          go_wp2_with fail
          with_reducible refine (lbare_hit 4 4 true _ (hHr.below hb1) rfl).mono ?_
          rintro e w3 ⟨rfl, hb3⟩
          clear h5'
          go_wp2
          go_loop [14] (fun i => i = .int .i64 0) (fun _ => 0)
          case atStart => rfl
          case round =>
            subst hrel
            go_wp2
            go_ret
            exact ⟨rfl, (hB.trans (hb1.mono hB.size)).trans (hb3.mono (by have := hB.size; have := hb1.size; omega))⟩
        · have h4000 : N ≤ 4000 := by have := HN.out; unfold manyP at h40; rw [← this] at h40; split at h40 <;> omega
          obtain ⟨J, hJ⟩ : ∃ J, J = manyP l.length := ⟨_, rfl⟩
          rw [← hJ] at hrow1 hv1 h40
          rw [← hJ]
          have HJ := Lib.hid hJ
          have HV1 := Lib.hid hv1
          have HP1 := Lib.hid hpt1
          have hB1 := hB.trans (hb1.mono hB.size)
          have hb1z := hb1.size
          clear hJ hv1 hpt1
          go_wp2_with fail
          refine (cut_c st ba A N cap l _ HBD.out (HSR.out.below hb1) HCP.out h4000).mono ?_
          rintro e w2 ⟨A2, c2, vs2, rfl, hv2, hP2, hb2⟩
          rw [← HJ.out] at hP2 hv2
          rw [← HJ.out]
          have hrow12 := row_below hrow1 hb2
          have hB2 := hB1.trans (hb2.mono hB1.size)
          have HV2 := Lib.hid hv2
          clear hrow1 hv2
          go_wp2_with fail
          with_reducible refine (lbare_nil 0 true _ rfl).mono ?_
          rintro e w' ⟨rfl, rfl⟩
          have hPS : Hid (∀ w', Below w1.heap.size w1 w' → Below wr.heap.size wr w') := Lib.hid (fun w' k => hb1.trans (k.mono hb1.size))
          clear h5'
          go_wp2
          go_loopw [14] (fun i wx => ∃ k : Nat, k ≤ J ∧ i = .int .i64 k ∧ wx.ownsRow wr.heap.size 37 5 (.slice A1 J c1) J (piecesF st ba (fun _ => (J : Nat)) vs1) ∧ Pcs wx w1.heap.size (.slice A2 J c2) st ba (J : Nat) l vs2 ∧ Below w1.heap.size w1 wx) (fun i _ => J - (intOf i).toNat)
          case atStart => exact ⟨0, by omega, rfl, hrow12, hP2, hb2⟩
          case round =>
            clear hrow12 hP2 hb2 hB2
            obtain ⟨k, hk, rfl, hrow, hP, hbx⟩ := hrel
            by_cases hlt : k < J
            · obtain ⟨g1, cap1, hge1, _, _, r3, r4, _, r6, _⟩ := row_at hrow (by omega)
              cases hge1
              have hPr := hP.row
              rw [HV2.out] at hPr
              obtain ⟨g2, cap2, hge2, _, _, s3, s4, _, s6, _⟩ := row_at hPr (by omega)
              cases hge2
              unfold maxLen at r4 s4
              obtain ⟨u1, hu1⟩ : ∃ u, vs1[k]? = some u := ⟨_, List.getElem?_eq_getElem (by have := HV1.out; omega)⟩
              obtain ⟨u2, hu2⟩ : ∃ u, vs2[k]? = some u := ⟨_, List.getElem?_eq_getElem (by have := HV2.out; omega)⟩
              obtain ⟨⟨B1, d1, rfl⟩, hs1⟩ := HP1.out k u1 hu1
              obtain ⟨⟨⟨B2, d2, rfl⟩, hs2, _⟩⟩ := (⟨hP.part k u2 hu2⟩ : PLift _)
              obtain ⟨M, hM⟩ : ∃ M, M = (chunk l k).length := ⟨_, rfl⟩
              rw [← hM] at hu1 hu2 hs1
              have a0 := r6 (k * 5 + 0) _ (by rw [piecesF_get st ba _ vs1 k _ hu1 0 (by omega)]; rfl)
              have a1 := r6 (k * 5 + 1) _ (by rw [piecesF_get st ba _ vs1 k _ hu1 1 (by omega)]; rfl)
              have a2 := r6 (k * 5 + 2) _ (by rw [piecesF_get st ba _ vs1 k _ hu1 2 (by omega)]; rfl)
              have a3 := r6 (k * 5 + 3) _ (by rw [piecesF_get st ba _ vs1 k _ hu1 3 (by omega)]; rfl)
              have a4 := r6 (k * 5 + 4) _ (by rw [piecesF_get st ba _ vs1 k _ hu1 4 (by omega)]; rfl)
              have b0 := s6 (k * 5 + 0) _ (by rw [piecesC_get st ba _ vs2 k _ hu2 0 (by omega)]; rfl)
              have b1 := s6 (k * 5 + 1) _ (by rw [piecesC_get st ba _ vs2 k _ hu2 1 (by omega)]; rfl)
              have b2 := s6 (k * 5 + 2) _ (by rw [piecesC_get st ba _ vs2 k _ hu2 2 (by omega)]; rfl)
              have b3 := s6 (k * 5 + 3) _ (by rw [piecesC_get st ba _ vs2 k _ hu2 3 (by omega)]; rfl)
              have b4 := s6 (k * 5 + 4) _ (by rw [piecesC_get st ba _ vs2 k _ hu2 4 (by omega)]; rfl)
              simp only [Nat.add_zero] at a0 b0
              have x1 := lt_cell a0
              have x2 := lt_cell b0
              simp only at x1 x2
              have HM := Lib.hid hM
              have HS1 : Hid (Rdb wr (.slice B1 M d1) (chunk l k)) := Lib.hid (Rdb.of_src (hs1 _ (hPS.out _ hbx)))
              have HS2 : Hid (Rdb wr (.slice B2 M d2) (chunk l k)) := Lib.hid (by have := Rdb.of_row hs2; rw [hM]; exact this)
              have hmc := more_cell
              have hmf := more_frozen
              have hml := more_lt
              clear hM hs1 hs2 hu1 hu2 r6 s6 hPr
              go_wp2
              refine region_quiet_all (by kernel_rfl) (by kernel_rfl) ?_
              repeat (go_big_quiet_step ((go_at_call 17; exact calls_after (samePiece_c st ba k J B2 B1 M d2 d1 (chunk l k) _ (HS2.out.below (more_below _ _)) (HS1.out.below (more_below _ _))))))
              refine wpQuiet_nil ?_
              rintro wz hwz
              have hbz := after_below hwz
              clear hwz
              go_wp2
              go_roundw
              case rel => exact ⟨k + 1, by omega, by go_num, row_below hrow hbz, hP.below hbz, hbx.trans (hbz.mono hbx.size)⟩
              case measure => first | (simp [intOf]; done) | (simp [intOf]; omega)
            · obtain rfl : k = J := by omega
              go_wp2
              go_ret
              exact ⟨rfl, hB1.trans (hbx.mono hB1.size)⟩

end Go.Proofs.YtnkinnfpebploaaDoor
