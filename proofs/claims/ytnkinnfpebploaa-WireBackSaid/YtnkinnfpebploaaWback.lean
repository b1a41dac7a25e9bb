/- The walk of WireBack. Conditions: none. -/
import Derived.Test.YtnkinnfpebploaaWback0
import Derived.Test.YtnkinnfpebploaaTold
import Derived.Test.YtnkinnfpebploaaCut1
namespace Go.Proofs.Ytnkinnfpebploaa
open Go.ChangeShapes Go.WideShapes Go.ChangeAt Go.RowKit Go.BigFrame
open B
theorem wasked_back (v : Value) {t n s k b x y z : Int} (h : AskOk t n s k b x y z) (h0 : 0 ≤ k) (h2 : k ≤ 2) (w : World) (hS : Src w v (pack (askL t n s k b x y z))) :
    Calls Try.prog 6 #[v] w fun e w' => e = .returned (.tuple #[.agg #[.int .i64 t, .int .i64 n, .int .i64 s, .int .i64 k, .int .i64 (cb k b), .int .i64 (cx k x), .int .i64 (cx k y), .int .i64 (cx k z)], .nilIface]) ∧ Below w.heap.size w w' := by
  obtain ⟨n5, e5, n6, e6, n7, e7, n8, e8, a1, a2, a3, a4, a5, a6, a7, a8, hpr, hG, r5, r6, r7, r8⟩ := asked_back h h0 h2
  have hPn : (pack (askL t n s k b x y z)).length ≤ 1000000 := by rw [pack_length]; unfold bytesOf; have := askL_le t n s k b x y z; omega
  refine (wasked_c v _ t 0 n 0 s 0 k 0 n5 e5 n6 e6 n7 e7 n8 e8 a1 a2 a3 a4 a5 a6 a7 a8 w hS (pack_lt (askL_bin _ _ _ _ _ _ _ _)) hPn hpr).mono fun e w' hp => ?_
  rcases hp with ⟨_, he, hb⟩ | ⟨hno, _⟩
  · rw [r5, r6, r7, r8] at he
    exact ⟨he, hb⟩
  · exact absurd hG hno
theorem ask_again {t n s k b x y z : Int} (h : AskOk t n s k b x y z) (h0 : 0 ≤ k) (h2 : k ≤ 2) : AskOk t n s k (cb k b) (cx k x) (cx k y) (cx k z) ∧ pack (askL t n s k (cb k b) (cx k x) (cx k y) (cx k z)) = pack (askL t n s k b x y z) := by
  obtain ⟨n5, e5, n6, e6, n7, e7, n8, e8, a1, a2, a3, a4, a5, a6, a7, a8, hpr, hG, r5, r6, r7, r8⟩ := asked_back h h0 h2
  have h1 := hG.2.2
  rw [r5, r6, r7, r8] at h1
  exact h1
theorem wtold_back (v : Value) {st ba ix ma : Nat} {l : List Nat} (h : RightP st ba ix ma l.length) (h8 : ∀ b ∈ l, b < 256) (w : World) (hS : Src w v (pack (tellL st ba ix ma l))) :
    Calls Try.prog 9 #[v] w fun e w' => ∃ A c, e = .returned (.tuple #[.agg #[.int .i64 st, .int .i64 ba, .int .i64 ix, .int .i64 ma, .slice A l.length c], .nilIface]) ∧ BsOf w' w.heap.size (.slice A l.length c) l ∧ Below w.heap.size w w' := by
  obtain ⟨a1, a2, a3, a4, a5, hpt, hG, hb⟩ := told_back h h8
  have hPn : (pack (tellL st ba ix ma l)).length ≤ 1000000 := by rw [pack_length]; unfold bytesOf; have := tellL_le st ba ix ma l; have h1 := varL_le (st : Int).toNat; have h2 := varL_le (ba : Int).toNat; have h3 := h.2.2.2.2.2.2.2.2; omega
  refine (wtold_c v _ st ba ma ix l.length 0 0 0 0 0 a1 a2 a3 a4 a5 w hS (pack_lt (tellL_bin _ _ _ _ _)) hPn hpt).mono fun e w' hp => ?_
  rcases hp with ⟨_, A, c, he, hr, hbb⟩ | ⟨hno, _⟩
  · rw [hb] at hr
    exact ⟨A, c, he, hr, hbb⟩
  · exact absurd hG hno
theorem ask_no {t n s k b x y z : Int} (h : ¬ (AskOk t n s k b x y z ∧ 0 ≤ k ∧ k ≤ 2)) (w : World) : Calls Try.prog 5 #[.agg #[.int .i64 t, .int .i64 n, .int .i64 s, .int .i64 k, .int .i64 b, .int .i64 x, .int .i64 y, .int .i64 z]] w fun e w' => ∃ x, e = .returned (.tuple #[.slice none 0 0, .iface 43 (.int .i64 x)]) ∧ Below w.heap.size w w' := by
  by_cases hk : k < 0 ∨ 2 < k
  · exact (ask_kind t n s k b x y z w hk).mono fun e w' ⟨he, hb⟩ => ⟨1, he, hb⟩
  · refine (ask_c t n s k b x y z w (by omega) (by omega)).mono fun e w' hp => ?_
    rcases hp with ⟨hok, _⟩ | ⟨_, he, hb⟩
    · exact absurd ⟨hok, by omega, by omega⟩ h
    · exact ⟨2, he, hb⟩
theorem ask_yes {t n s k b x y z : Int} (h : AskOk t n s k b x y z) (h0 : 0 ≤ k) (h2 : k ≤ 2) (P : List Nat) (hP : pack (askL t n s k b x y z) = P) (w : World) : Calls Try.prog 5 #[.agg #[.int .i64 t, .int .i64 n, .int .i64 s, .int .i64 k, .int .i64 b, .int .i64 x, .int .i64 y, .int .i64 z]] w fun e w' => ∃ A c, e = .returned (.tuple #[.slice A P.length c, .nilIface]) ∧ BsOf w' w.heap.size (.slice A P.length c) P ∧ Below w.heap.size w w' := by
  subst hP
  refine (ask_c t n s k b x y z w h0 h2).mono fun e w' hp => ?_
  rcases hp with ⟨_, A, c, he, hs, hb⟩ | ⟨hno, _⟩
  · exact ⟨A, c, he, hs, hb⟩
  · exact absurd h hno
set_option maxRecDepth 100000 in
set_option maxHeartbeats 2000000 in
theorem sent_c (w : World) : Calls Try.prog 4 #[] w fun e w' => e = .returned (.bool true) ∧ Below w.heap.size w w' := by
  have hok : AskOk 1 2 3 1 4 0 (-9) 0 := by
    refine ⟨?_, fun _ => by unfold InTop; omega, fun _ => ?_⟩
    · intro i hi; unfold InTop; simp only [List.mem_cons, List.mem_nil_iff, or_false] at hi; omega
    · intro i hi; unfold InSp; simp only [List.mem_cons, List.mem_nil_iff, or_false] at hi; omega
  have HOK := Lib.hid hok
  clear hok
  obtain ⟨P, hP⟩ : ∃ P, pack (askL 1 2 3 1 4 0 (-9) 0) = P := ⟨_, rfl⟩
  have HP := Lib.hid hP
  clear hP
  go_enter Try.func4, Try.ntmps4
  go_wp2_with fail
  refine (ask_yes HOK.out (by decide) (by decide) P HP.out _).mono ?_
  rintro e w1 ⟨A1, c1, rfl, hs1, hb1⟩
  go_wp2_with fail
  refine (wasked_back _ HOK.out (by decide) (by decide) _ (by rw [HP.out]; exact Src.of_row hs1)).mono ?_
  rintro e w2 ⟨rfl, hb2⟩
  have hB := hb1.trans (hb2.mono hb1.size)
  have e1 : cb 1 4 = 4 := rfl
  have e2 : cx 1 (-9) = -9 := rfl
  have e3 : cx 1 0 = 0 := rfl
  rw [e1, e2, e3]
  clear hs1 hb1 hb2
  go_wp2
  go_ret
  exact ⟨rfl, (by repeat (with_reducible (first | assumption | apply ext_alloc | (refine ext_setCell ?_ (by simp <;> omega) _))))⟩
theorem take_chunk (l : List Nat) (k : Nat) : l.take (100 * (k + 1)) = l.take (100 * k) ++ chunk l k := by
  unfold chunk
  rw [Nat.mul_succ, List.take_add]
set_option maxRecDepth 100000 in
set_option maxHeartbeats 8000000 in
theorem wireBack_w (t n s k b x y z st ba : Int) (v : Value) (l : List Nat) (w : World) (hS : Src w v l) (h8 : ∀ b ∈ l, b < 256) (_hl : l.length ≤ maxLen) (hcap : ∀ A N cap, v = .slice A N cap → N ≤ cap) :
    Calls Try.prog 3 #[.agg #[.int .i64 t, .int .i64 n, .int .i64 s, .int .i64 k, .int .i64 b, .int .i64 x, .int .i64 y, .int .i64 z], .int .i64 st, .int .i64 ba, v] w fun e w' => e = .returned (.bool true) ∧ Below w.heap.size w w' := by
  obtain ⟨VA, VC, rfl⟩ : ∃ A c, v = .slice A l.length c := by
    rcases hS with ⟨rfl, rfl⟩ | ⟨a, c, rfl, _⟩
    · exact ⟨none, 0, rfl⟩
    · exact ⟨_, c, rfl⟩
  have hvc := hcap _ _ _ rfl
  have HVC := Lib.hid hvc
  have HSR : Hid (∀ w', Below w.heap.size w w' → Src w' (.slice VA l.length VC) l) := Lib.hid (fun w' k => hS.below k)
  have H8 := Lib.hid h8
  unfold maxLen at _hl
  clear hS h8 hcap hvc
  by_cases h3 : 3000 < l.length
  · go_enter Try.func3, Try.ntmps3
    go_wp2
    go_ret
    exact ⟨rfl, (by repeat (with_reducible (first | exact Below.refl _ _ | assumption | apply ext_drew | apply ext_drewN | apply ext_alloc | apply ext_more | (refine ext_setCell ?_ (by simp <;> omega) _) | (refine ext_below ?_ (by assumption)))))⟩
  · have h3' : l.length ≤ 3000 := by omega
    clear _hl
    by_cases hA : AskOk t n s k b x y z ∧ 0 ≤ k ∧ k ≤ 2
    · obtain ⟨hok, h0, h2⟩ := hA
      have hag := ask_again hok h0 h2
      obtain ⟨P, hP⟩ : ∃ P, pack (askL t n s k b x y z) = P := ⟨_, rfl⟩
      rw [hP] at hag
      have HOK := Lib.hid hok
      have H0 := Lib.hid h0
      have H2 := Lib.hid h2
      have HAG := Lib.hid hag
      have HP := Lib.hid hP
      clear hok h0 h2 hag hP
      go_enter Try.func3, Try.ntmps3
      go_wp2_with fail
      refine calls_anew ?_
      intro w1 hb1
      have hC1 : Blk w1 w.heap.size #[.int .i64 t, .int .i64 n, .int .i64 s, .int .i64 k, .int .i64 b, .int .i64 x, .int .i64 y, .int .i64 z] := Blk.below (by repeat (with_reducible (first | assumption | (apply Blk.at; simp; done) | apply Blk.alloc | apply Blk.drew | apply Blk.drewN | apply Blk.more | apply Blk.put | (apply Blk.far; focus (first | assumption | (apply Ne.symm; assumption) | (simp; done) | (simp <;> omega)))))) hb1
      have hB1 : Below w.heap.size w w1 := (by repeat (with_reducible (first | exact Below.refl _ _ | assumption | apply ext_drew | apply ext_drewN | apply ext_alloc | apply ext_more | (refine ext_setCell ?_ (by simp <;> omega) _) | (refine ext_below ?_ (by assumption)))))
      clear hb1
      refine (sent_c _).mono ?_
      rintro e w2 ⟨rfl, hb2⟩
      have hC2 := hC1.below hb2
      have hB2 := hB1.trans (hb2.mono hB1.size)
      obtain ⟨z2, c2, f2⟩ := id hC2
      clear hC1 hb2 hB1
      go_wp2_with fail
      refine (ask_yes HOK.out H0.out H2.out P HP.out _).mono ?_
      rintro e w3 ⟨A1, c1, rfl, hs1, hb3⟩
      have hB3 := hB2.trans (hb3.mono hB2.size)
      clear hC2 z2 c2 f2 hB2 hb3
      go_wp2_with fail
      refine (wasked_back _ HOK.out H0.out H2.out _ (by rw [HP.out]; exact Src.of_row hs1)).mono ?_
      rintro e w4 ⟨rfl, hb4⟩
      have hB4 := hB3.trans (hb4.mono hB3.size)
      have hs4 := row_below hs1 hb4
      clear hs1 hB3 hb4
      go_wp2_with fail
      refine calls_anew ?_
      intro w5 hb5
      have hq5 : Below w4.heap.size w4 w5 := (by repeat (with_reducible (first | exact Below.refl _ _ | assumption | apply ext_drew | apply ext_drewN | apply ext_alloc | apply ext_more | (refine ext_setCell ?_ (by simp <;> omega) _) | (refine ext_below ?_ (by assumption)))))
      have hB5 := hB4.trans (hq5.mono hB4.size)
      have hs5 := row_below hs4 hq5
      clear hb5 hq5 hs4 hB4
      refine (ask_yes HAG.out.1 H0.out H2.out P HAG.out.2 _).mono ?_
      rintro e w6 ⟨A6, c6, rfl, hs6, hb6⟩
      have hB6 := hB5.trans (hb6.mono hB5.size)
      have hc1 := conv_rdb (Rdb.of_row (row_below hs5 hb6))
      have hc2 := conv_rdb (Rdb.of_row hs6)
      clear hs5 hs6 hB5 hb6
      by_cases hbad : CutBad st ba
      · have HBD := Lib.hid hbad
        clear hbad
        go_wp2_with fail
        with_reducible refine (cut_bad st ba _ _ HBD.out).mono ?_
        rintro e w' ⟨rfl, rfl⟩
        go_wp2
        go_ret
        exact ⟨rfl, hB6⟩
      · have hst := hbad
        unfold CutBad at hst
        obtain ⟨sn, rfl⟩ : ∃ n : Nat, st = n := ⟨st.toNat, by omega⟩
        obtain ⟨bn, rfl⟩ : ∃ n : Nat, ba = n := ⟨ba.toNat, by omega⟩
        have HST := Lib.hid hst
        have HBD := Lib.hid hbad
        clear hbad hst
        go_wp2_with fail
        refine (cut_c sn bn VA l.length VC l _ HBD.out (HSR.out _ hB6) HVC.out (by omega)).mono ?_
        rintro e wq ⟨A2, c2, vs, rfl, hv, hP, hbq⟩
        have hBq := hB6.trans (hbq.mono hB6.size)
        obtain ⟨B0, hB0⟩ : ∃ B0, B0 = w6.heap.size := ⟨_, rfl⟩
        rw [← hB0] at hP
        obtain ⟨J, hJ⟩ : ∃ J, J = manyP l.length := ⟨_, rfl⟩
        rw [← hJ] at hP hv
        rw [← hJ]
        have hJ2 : l.length ≤ 100 * J ∧ J ≤ 30 := by rw [hJ]; unfold manyP; split <;> omega
        have HJ := Lib.hid hJ2
        have HV := Lib.hid hv
        have HPC : Hid (∀ w', Below wq.heap.size wq w' → Pcs w' B0 (.slice A2 J c2) sn bn (J : Nat) l vs) := Lib.hid (fun w' k => hP.below k)
        have HBQ := Lib.hid hBq
        clear hv hP hbq hBq hB0 hJ hJ2 hB6
        go_wp2
        go_loopw [17, 18] (fun tv i wx => ∃ (k : Nat), k ≤ J ∧ i = .int .i64 k ∧ wx.ownsRow wq.heap.size 5 1 tv (l.take (100 * k)).length (u8s (l.take (100 * k))) ∧ Below wq.heap.size wq wx) (fun _ i _ => J - (intOf i).toNat)
        case atStart => exact ⟨0, by omega, rfl, ⟨by simp [u8s], .inl ⟨rfl, by simp⟩⟩, Below.refl _ _⟩
        case round =>
          obtain ⟨k, hk, rfl, hrow, hbx⟩ := hrel
          obtain ⟨TL, hTL⟩ : ∃ TL, TL = l.take (100 * k) := ⟨_, rfl⟩
          rw [← hTL] at hrow
          obtain ⟨A9, c9, hv9⟩ := row_form hrow
          subst hv9
          have htk : TL.length ≤ 3000 := by rw [hTL, List.length_take]; omega
          have HTL := Lib.hid hTL
          clear hTL
          have HBX := Lib.hid hbx
          by_cases hlt : k < J
          · have hP := HPC.out _ hbx
            have hPr := hP.row
            rw [HV.out] at hPr
            obtain ⟨g2, cap2, hge2, _, _, s3, s4, _, s6, _⟩ := row_at hPr (by omega)
            cases hge2
            unfold maxLen at s4
            obtain ⟨u2, hu2⟩ : ∃ u, vs[k]? = some u := ⟨_, List.getElem?_eq_getElem (by have := HV.out; omega)⟩
            obtain ⟨⟨⟨B2, d2, rfl⟩, hs2, _⟩⟩ := (⟨hP.part k u2 hu2⟩ : PLift _)
            have b0 := s6 (k * 5 + 0) _ (by rw [piecesC_get sn bn _ vs k _ hu2 0 (by omega)]; rfl)
            have b1 := s6 (k * 5 + 1) _ (by rw [piecesC_get sn bn _ vs k _ hu2 1 (by omega)]; rfl)
            have b2 := s6 (k * 5 + 2) _ (by rw [piecesC_get sn bn _ vs k _ hu2 2 (by omega)]; rfl)
            have b3 := s6 (k * 5 + 3) _ (by rw [piecesC_get sn bn _ vs k _ hu2 3 (by omega)]; rfl)
            have b4 := s6 (k * 5 + 4) _ (by rw [piecesC_get sn bn _ vs k _ hu2 4 (by omega)]; rfl)
            simp only [Nat.add_zero] at b0
            have x2 := lt_cell b0
            simp only at x2
            have h8c : ∀ b ∈ chunk l k, b < 256 := fun b hb => H8.out b (List.mem_of_mem_drop (List.mem_of_mem_take hb))
            have hRP : RightP sn bn k J (chunk l k).length := by
              have h1 := HST.out
              have h2 := chunk_le l k
              have h3 := HJ.out
              unfold RightP
              omega
            have HRP := Lib.hid hRP
            have H8C := Lib.hid h8c
            have HS2 := Lib.hid (Src.of_row hs2)
            have HROW := Lib.hid hrow
            clear hs2 hu2 s6 hPr hP hRP h8c hrow
            go_wp2_with fail
            refine (tell_yes sn bn k J B2 (chunk l k).length d2 (chunk l k) _ HS2.out rfl H8C.out HRP.out).mono ?_
            rintro e w3 ⟨A3, c3, rfl, hBs, hb3⟩
            clear b0 b1 b2 b3 b4 x2
            go_wp2_with fail
            refine (wtold_back _ HRP.out H8C.out _ (Src.of_row hBs)).mono ?_
            rintro e w4 ⟨A4, c4, rfl, hBs4, hb4⟩
            go_upto_region 20 with fail
            refine wp_fresh ?_
            intro w5 hb5
            have hC5 : Blk w5 w4.heap.size #[.int .i64 sn, .int .i64 bn, .int .i64 k, .int .i64 J, .slice A4 (chunk l k).length c4] := Blk.below (by repeat (with_reducible (first | assumption | (apply Blk.at; simp; done) | apply Blk.alloc | apply Blk.drew | apply Blk.drewN | apply Blk.more | apply Blk.put | (apply Blk.far; focus (first | assumption | (apply Ne.symm; assumption) | (simp; done) | (simp <;> omega)))))) hb5
            have hq5 : Below w4.heap.size w4 w5 := (by repeat (with_reducible (first | exact Below.refl _ _ | assumption | apply ext_drew | apply ext_drewN | apply ext_alloc | apply ext_more | (refine ext_setCell ?_ (by simp <;> omega) _) | (refine ext_below ?_ (by assumption)))))
            have h35 : Below wr.heap.size wr w5 := (hb3.trans (hb4.mono hb3.size)).trans (hq5.mono (Nat.le_trans hb3.size hb4.size))
            have hrow5 := row_below HROW.out h35
            have hB5 := hbx.trans (h35.mono hbx.size)
            have hsrc := Src.of_row (row_below hBs4 hq5)
            obtain ⟨i0, hi, hz0, hz1, hz2⟩ := info_parts byteInfo
            have HI := Lib.hid hi
            have HZ0 := Lib.hid hz0
            have HZ1 := Lib.hid hz1
            have HZ2 := Lib.hid hz2
            have HR5 := Lib.hid hrow5
            have hcl := chunk_le l k
            obtain ⟨z5, c5, f5⟩ := id hC5
            have hbz : wq.heap.size ≤ w5.heap.size := Nat.le_trans HBX.out.size h35.size
            have HBZ := Lib.hid hbz
            obtain ⟨M, hM⟩ : ∃ M, M = (chunk l k).length := ⟨_, rfl⟩
            rw [← hM] at hsrc c5 hcl
            rw [← hM]
            have HM := Lib.hid hM
            clear hbx hb3 hb4 hBs hBs4 hq5 hrow5 hi hz0 hz1 hz2 hM h35 hC5 hbz
            rcases hsrc with ⟨hv, hl0⟩ | ⟨ad, c, hv, hc⟩
            · cases hv
              have HL0 := Lib.hid hl0
              clear hl0
              go_wp2_with (at_builtin; refine wpList_append_own_none rfl (.tmp 117) (.tmp 119) 26 rfl wq.heap.size 5 i0 1 Try.underlying26 HI.out (.slice A9 TL.length c9) TL.length (u8s TL) rfl HR5.out rfl ?_)
              go_roundw
              case rel => exact ⟨k + 1, by omega, by go_num, by rw [take_chunk, HL0.out, List.append_nil, ← HTL.out]; exact HR5.out, hB5⟩
              case measure => first | (simp [intOf]; done) | (simp [intOf]; omega)
            · cases hv
              have hcH := Lib.hid hc
              clear hc
              have HU : Hid ((u8s (chunk l k)).length = (chunk l k).length * 1) := Lib.hid (by rw [u8s_length]; omega)
              have HM1 : Hid (TL.length + (chunk l k).length ≤ maxLen ∧ (TL.length + (chunk l k).length) * 1 ≤ 140737488355328) := Lib.hid (by unfold maxLen; have := HM.out; omega)
              go_wp2_with (at_builtin; refine wpList_append_own_at _ rfl (.tmp 117) (.tmp 119) 26 rfl wq.heap.size 5 i0 (.int .u8 0) 1 1 Try.underlying26 HI.out HZ0.out HZ1.out HZ2.out rfl (by decide) (.slice A9 TL.length c9) TL.length (u8s TL) rfl HR5.out ad (chunk l k).length _ (u8s (chunk l k)) rfl HU.out hcH.out (u8s_one _) HM1.out.1 HM1.out.2 HBZ.out ?_; intro v1 w6 hown1 hgr1 _ hwh1; have HO1 := Lib.hid hown1; have HG1 := Lib.hid hgr1; clear hown1 hgr1 hwh1)
              go_roundw
              case rel =>
                refine ⟨k + 1, by omega, by go_num, ?_, hB5.trans ((mod_grown HG1.out).toBelow HBZ.out (fun b hb e => by have := (row_lt HR5.out e).2; omega))⟩
                rw [take_chunk, ← HTL.out, List.length_append, u8s_append]
                exact HO1.out
              case measure => first | (simp [intOf]; done) | (simp [intOf]; omega)
          · obtain rfl : k = J := by omega
            have htl : TL = l := HTL.out.trans (List.take_of_length_le HJ.out.1)
            subst htl
            have hc1 := conv_rdb (Rdb.of_row hrow)
            have hc2 := conv_rdb (Rdb.of_src (HSR.out _ (HBQ.out.trans (hbx.mono HBQ.out.size))))
            clear hrow
            go_wp2
            go_ret
            exact ⟨rfl, HBQ.out.trans (hbx.mono HBQ.out.size)⟩
    · have HA := Lib.hid hA
      clear hA
      go_enter Try.func3, Try.ntmps3
      go_wp2_with fail
      refine calls_anew ?_
      intro w1 hb1
      have hC1 : Blk w1 w.heap.size #[.int .i64 t, .int .i64 n, .int .i64 s, .int .i64 k, .int .i64 b, .int .i64 x, .int .i64 y, .int .i64 z] := Blk.below (by repeat (with_reducible (first | assumption | (apply Blk.at; simp; done) | apply Blk.alloc | apply Blk.drew | apply Blk.drewN | apply Blk.more | apply Blk.put | (apply Blk.far; focus (first | assumption | (apply Ne.symm; assumption) | (simp; done) | (simp <;> omega)))))) hb1
      have hB1 : Below w.heap.size w w1 := (by repeat (with_reducible (first | exact Below.refl _ _ | assumption | apply ext_drew | apply ext_drewN | apply ext_alloc | apply ext_more | (refine ext_setCell ?_ (by simp <;> omega) _) | (refine ext_below ?_ (by assumption)))))
      clear hb1
      refine (sent_c _).mono ?_
      rintro e w2 ⟨rfl, hb2⟩
      have hC2 := hC1.below hb2
      have hB2 := hB1.trans (hb2.mono hB1.size)
      obtain ⟨z2, c2, f2⟩ := id hC2
      clear hC1 hb2 hB1
      go_wp2_with fail
      refine (ask_no HA.out _).mono ?_
      rintro e w6 ⟨x6, rfl, hb6⟩
      have hB6 := hB2.trans (hb6.mono hB2.size)
      clear hC2 z2 c2 f2 hB2 hb6
      by_cases hbad : CutBad st ba
      · have HBD := Lib.hid hbad
        clear hbad
        go_wp2_with fail
        with_reducible refine (cut_bad st ba _ _ HBD.out).mono ?_
        rintro e w' ⟨rfl, rfl⟩
        go_wp2
        go_ret
        exact ⟨rfl, hB6⟩
      · have hst := hbad
        unfold CutBad at hst
        obtain ⟨sn, rfl⟩ : ∃ n : Nat, st = n := ⟨st.toNat, by omega⟩
        obtain ⟨bn, rfl⟩ : ∃ n : Nat, ba = n := ⟨ba.toNat, by omega⟩
        have HST := Lib.hid hst
        have HBD := Lib.hid hbad
        clear hbad hst
        go_wp2_with fail
        refine (cut_c sn bn VA l.length VC l _ HBD.out (HSR.out _ hB6) HVC.out (by omega)).mono ?_
        rintro e wq ⟨A2, c2, vs, rfl, hv, hP, hbq⟩
        have hBq := hB6.trans (hbq.mono hB6.size)
        obtain ⟨B0, hB0⟩ : ∃ B0, B0 = w6.heap.size := ⟨_, rfl⟩
        rw [← hB0] at hP
        obtain ⟨J, hJ⟩ : ∃ J, J = manyP l.length := ⟨_, rfl⟩
        rw [← hJ] at hP hv
        rw [← hJ]
        have hJ2 : l.length ≤ 100 * J ∧ J ≤ 30 := by rw [hJ]; unfold manyP; split <;> omega
        have HJ := Lib.hid hJ2
        have HV := Lib.hid hv
        have HPC : Hid (∀ w', Below wq.heap.size wq w' → Pcs w' B0 (.slice A2 J c2) sn bn (J : Nat) l vs) := Lib.hid (fun w' k => hP.below k)
        have HBQ := Lib.hid hBq
        clear hv hP hbq hBq hB0 hJ hJ2 hB6
        go_wp2
        go_loopw [17, 18] (fun tv i wx => ∃ (k : Nat), k ≤ J ∧ i = .int .i64 k ∧ wx.ownsRow wq.heap.size 5 1 tv (l.take (100 * k)).length (u8s (l.take (100 * k))) ∧ Below wq.heap.size wq wx) (fun _ i _ => J - (intOf i).toNat)
        case atStart => exact ⟨0, by omega, rfl, ⟨by simp [u8s], .inl ⟨rfl, by simp⟩⟩, Below.refl _ _⟩
        case round =>
          obtain ⟨k, hk, rfl, hrow, hbx⟩ := hrel
          obtain ⟨TL, hTL⟩ : ∃ TL, TL = l.take (100 * k) := ⟨_, rfl⟩
          rw [← hTL] at hrow
          obtain ⟨A9, c9, hv9⟩ := row_form hrow
          subst hv9
          have htk : TL.length ≤ 3000 := by rw [hTL, List.length_take]; omega
          have HTL := Lib.hid hTL
          clear hTL
          have HBX := Lib.hid hbx
          by_cases hlt : k < J
          · have hP := HPC.out _ hbx
            have hPr := hP.row
            rw [HV.out] at hPr
            obtain ⟨g2, cap2, hge2, _, _, s3, s4, _, s6, _⟩ := row_at hPr (by omega)
            cases hge2
            unfold maxLen at s4
            obtain ⟨u2, hu2⟩ : ∃ u, vs[k]? = some u := ⟨_, List.getElem?_eq_getElem (by have := HV.out; omega)⟩
            obtain ⟨⟨⟨B2, d2, rfl⟩, hs2, _⟩⟩ := (⟨hP.part k u2 hu2⟩ : PLift _)
            have b0 := s6 (k * 5 + 0) _ (by rw [piecesC_get sn bn _ vs k _ hu2 0 (by omega)]; rfl)
            have b1 := s6 (k * 5 + 1) _ (by rw [piecesC_get sn bn _ vs k _ hu2 1 (by omega)]; rfl)
            have b2 := s6 (k * 5 + 2) _ (by rw [piecesC_get sn bn _ vs k _ hu2 2 (by omega)]; rfl)
            have b3 := s6 (k * 5 + 3) _ (by rw [piecesC_get sn bn _ vs k _ hu2 3 (by omega)]; rfl)
            have b4 := s6 (k * 5 + 4) _ (by rw [piecesC_get sn bn _ vs k _ hu2 4 (by omega)]; rfl)
            simp only [Nat.add_zero] at b0
            have x2 := lt_cell b0
            simp only at x2
            have h8c : ∀ b ∈ chunk l k, b < 256 := fun b hb => H8.out b (List.mem_of_mem_drop (List.mem_of_mem_take hb))
            have hRP : RightP sn bn k J (chunk l k).length := by
              have h1 := HST.out
              have h2 := chunk_le l k
              have h3 := HJ.out
              unfold RightP
              omega
            have HRP := Lib.hid hRP
            have H8C := Lib.hid h8c
            have HS2 := Lib.hid (Src.of_row hs2)
            have HROW := Lib.hid hrow
            clear hs2 hu2 s6 hPr hP hRP h8c hrow
            go_wp2_with fail
            refine (tell_yes sn bn k J B2 (chunk l k).length d2 (chunk l k) _ HS2.out rfl H8C.out HRP.out).mono ?_
            rintro e w3 ⟨A3, c3, rfl, hBs, hb3⟩
            clear b0 b1 b2 b3 b4 x2
            go_wp2_with fail
            refine (wtold_back _ HRP.out H8C.out _ (Src.of_row hBs)).mono ?_
            rintro e w4 ⟨A4, c4, rfl, hBs4, hb4⟩
            go_upto_region 20 with fail
            refine wp_fresh ?_
            intro w5 hb5
            have hC5 : Blk w5 w4.heap.size #[.int .i64 sn, .int .i64 bn, .int .i64 k, .int .i64 J, .slice A4 (chunk l k).length c4] := Blk.below (by repeat (with_reducible (first | assumption | (apply Blk.at; simp; done) | apply Blk.alloc | apply Blk.drew | apply Blk.drewN | apply Blk.more | apply Blk.put | (apply Blk.far; focus (first | assumption | (apply Ne.symm; assumption) | (simp; done) | (simp <;> omega)))))) hb5
            have hq5 : Below w4.heap.size w4 w5 := (by repeat (with_reducible (first | exact Below.refl _ _ | assumption | apply ext_drew | apply ext_drewN | apply ext_alloc | apply ext_more | (refine ext_setCell ?_ (by simp <;> omega) _) | (refine ext_below ?_ (by assumption)))))
            have h35 : Below wr.heap.size wr w5 := (hb3.trans (hb4.mono hb3.size)).trans (hq5.mono (Nat.le_trans hb3.size hb4.size))
            have hrow5 := row_below HROW.out h35
            have hB5 := hbx.trans (h35.mono hbx.size)
            have hsrc := Src.of_row (row_below hBs4 hq5)
            obtain ⟨i0, hi, hz0, hz1, hz2⟩ := info_parts byteInfo
            have HI := Lib.hid hi
            have HZ0 := Lib.hid hz0
            have HZ1 := Lib.hid hz1
            have HZ2 := Lib.hid hz2
            have HR5 := Lib.hid hrow5
            have hcl := chunk_le l k
            obtain ⟨z5, c5, f5⟩ := id hC5
            have hbz : wq.heap.size ≤ w5.heap.size := Nat.le_trans HBX.out.size h35.size
            have HBZ := Lib.hid hbz
            obtain ⟨M, hM⟩ : ∃ M, M = (chunk l k).length := ⟨_, rfl⟩
            rw [← hM] at hsrc c5 hcl
            rw [← hM]
            have HM := Lib.hid hM
            clear hbx hb3 hb4 hBs hBs4 hq5 hrow5 hi hz0 hz1 hz2 hM h35 hC5 hbz
            rcases hsrc with ⟨hv, hl0⟩ | ⟨ad, c, hv, hc⟩
            · cases hv
              have HL0 := Lib.hid hl0
              clear hl0
              go_wp2_with (at_builtin; refine wpList_append_own_none rfl (.tmp 117) (.tmp 119) 26 rfl wq.heap.size 5 i0 1 Try.underlying26 HI.out (.slice A9 TL.length c9) TL.length (u8s TL) rfl HR5.out rfl ?_)
              go_roundw
              case rel => exact ⟨k + 1, by omega, by go_num, by rw [take_chunk, HL0.out, List.append_nil, ← HTL.out]; exact HR5.out, hB5⟩
              case measure => first | (simp [intOf]; done) | (simp [intOf]; omega)
            · cases hv
              have hcH := Lib.hid hc
              clear hc
              have HU : Hid ((u8s (chunk l k)).length = (chunk l k).length * 1) := Lib.hid (by rw [u8s_length]; omega)
              have HM1 : Hid (TL.length + (chunk l k).length ≤ maxLen ∧ (TL.length + (chunk l k).length) * 1 ≤ 140737488355328) := Lib.hid (by unfold maxLen; have := HM.out; omega)
              go_wp2_with (at_builtin; refine wpList_append_own_at _ rfl (.tmp 117) (.tmp 119) 26 rfl wq.heap.size 5 i0 (.int .u8 0) 1 1 Try.underlying26 HI.out HZ0.out HZ1.out HZ2.out rfl (by decide) (.slice A9 TL.length c9) TL.length (u8s TL) rfl HR5.out ad (chunk l k).length _ (u8s (chunk l k)) rfl HU.out hcH.out (u8s_one _) HM1.out.1 HM1.out.2 HBZ.out ?_; intro v1 w6 hown1 hgr1 _ hwh1; have HO1 := Lib.hid hown1; have HG1 := Lib.hid hgr1; clear hown1 hgr1 hwh1)
              go_roundw
              case rel =>
                refine ⟨k + 1, by omega, by go_num, ?_, hB5.trans ((mod_grown HG1.out).toBelow HBZ.out (fun b hb e => by have := (row_lt HR5.out e).2; omega))⟩
                rw [take_chunk, ← HTL.out, List.length_append, u8s_append]
                exact HO1.out
              case measure => first | (simp [intOf]; done) | (simp [intOf]; omega)
          · obtain rfl : k = J := by omega
            have htl : TL = l := HTL.out.trans (List.take_of_length_le HJ.out.1)
            subst htl
            have hc1 := conv_rdb (Rdb.of_row hrow)
            have hc2 := conv_rdb (Rdb.of_src (HSR.out _ (HBQ.out.trans (hbx.mono HBQ.out.size))))
            clear hrow
            go_wp2
            go_ret
            exact ⟨rfl, HBQ.out.trans (hbx.mono HBQ.out.size)⟩
end Go.Proofs.Ytnkinnfpebploaa
