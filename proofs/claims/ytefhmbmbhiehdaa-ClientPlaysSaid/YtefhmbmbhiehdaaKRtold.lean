/- The contract of gyreref.Told. Conditions: none. -/
import Derived.Test.YtefhmbmbhiehdaaKTold
import Derived.Test.YtefhmbmbhiehdaaKClE
namespace Go.Proofs.Ytefhmbmbhiehdaa
open Go.ChangeShapes Go.WideShapes Go.ChangeAt Go.RowKit Go.BigFrame
open B
theorem rtell_any (st ba ix ma : Nat) (A : Option Addr) (N cap : Nat) (l : List Nat) (w : World) (hS : Src w (.slice A N cap) l) (hN : N = l.length) (h8 : ∀ b ∈ l, b < 256) : Calls Try.prog 10 #[.agg #[.int .i64 (st : Int), .int .i64 (ba : Int), .int .i64 (ix : Int), .int .i64 (ma : Int), .slice A N cap]] w fun e w' => ∃ v e2, e = .returned (.tuple #[v, .int .i64 e2]) ∧ Below w.heap.size w w' := by
  by_cases h : RightP st ba ix ma N
  · exact (rtell_yes st ba ix ma A N cap l w hS hN h8 h).mono fun e w' ⟨_, _, he, _, hb⟩ => ⟨_, _, he, hb⟩
  · exact (rtell_no st ba ix ma A N cap w h).mono fun e w' ⟨he, hb⟩ => ⟨_, _, he, hb⟩
set_option maxRecDepth 100000 in
set_option maxHeartbeats 8000000 in
theorem rtold_c (v : Value) (l : List Nat) (n1 n2 n3 n4 n5 : Nat) (e1 e2 e3 e4 e5 : Int) (a1 a2 a3 a4 a5 : Nat) (w : World) (hS : Src w v l) (h8 : ∀ b ∈ l, b < 256) (hl : l.length ≤ 100000) (hpr : Pt (openL l) n1 n2 n3 n4 n5 e1 e2 e3 e4 e5 a1 a2 a3 a4 a5) :
    Calls Try.prog 42 #[v] w (PostT (.int .i64 3) (.int .i64 0) l n1 n2 n3 n4 n5 e1 e2 e3 e4 e5 a5 w) := by
  have HPR := Lib.hid hpr
  have HSR : Hid (∀ w', Below w.heap.size w w' → Src w' v l) := Lib.hid (fun w' k => hS.below k)
  have H8 := Lib.hid h8
  have hn5 := hpr.lt (openL_bin l)
  clear hpr hS h8
  go_enter Try.func42, Try.ntmps42
  go_wp2_with fail
  refine (ropen_o v l _ (Rdb.of_src (HSR.out _ (balloc _ _))) H8.out hl).mono ?_
  rintro e w1 ⟨tA, N, tc, rfl, hN, hrow, hb1⟩
  have hX1 := (Blk.fresh w #[.int .i64 0, .int .i64 0, .int .i64 0, .int .i64 0, .slice none 0 0] 45).below hb1
  have hB1 : Below w.heap.size w w1 := (balloc _ _).trans (hb1.mono (by simp))
  have hrow1 : w1.ownsRow w.heap.size 5 1 (.slice tA N tc) (openL l).length (u8s (openL l)) := by obtain ⟨h1, h2 | ⟨g, cap, cur, a, b, c⟩⟩ := hrow; exact ⟨h1, .inl h2⟩; exact ⟨h1, .inr ⟨g, cap, cur, a, by simp at b; omega, c⟩⟩
  have hrx : (Value.slice tA N tc).ownBlock ≠ some w.heap.size := fun e => by have := (row_lt hrow e).2; simp at this; omega
  have HN := Lib.hid hN
  clear hrow hb1 hN
  go_wp2_with fail
  refine calls_anew ?_
  intro w2 hb2
  have hT2b : Blk w2 w1.heap.size #[.slice tA N tc, .int .i64 0] := Blk.below (by repeat (with_reducible (first | assumption | (apply Blk.at; simp; done) | apply Blk.alloc | apply Blk.drew | apply Blk.drewN | apply Blk.more | apply Blk.put | (apply Blk.far; focus (first | assumption | (apply Ne.symm; assumption) | (simp; done) | (simp <;> omega)))))) hb2
  have hQ2 : Blk w2 (w1.heap.size + 1) #[.bool false] := Blk.below (by repeat (with_reducible (first | assumption | (apply Blk.at; simp; done) | apply Blk.alloc | apply Blk.drew | apply Blk.drewN | apply Blk.more | apply Blk.put | (apply Blk.far; focus (first | assumption | (apply Ne.symm; assumption) | (simp; done) | (simp <;> omega)))))) hb2
  have hq2 : Below w1.heap.size w1 w2 := (by repeat (with_reducible (first | exact Below.refl _ _ | assumption | apply ext_drew | apply ext_drewN | apply ext_alloc | apply ext_more | (refine ext_setCell ?_ (by simp <;> omega) _) | (refine ext_below ?_ (by assumption)))))
  have hT2 : Tp w2 w.heap.size w1.heap.size (.slice tA N tc) (openL l) 0 := ⟨hT2b, row_below hrow1 hq2, fun e => by have := (row_lt hrow1 e).1; omega, openL_bin l, by rw [openL_length]; omega, by omega⟩
  have hX2 := hX1.below hq2
  have hB2 := hB1.trans (hq2.mono hB1.size)
  have hlt1 : w.heap.size < w1.heap.size := hX1.lt
  have hown1 : (Value.slice tA N tc).ownBlock ≠ some (w1.heap.size + 1) := fun e => by have := (row_lt hrow1 e).1; omega
  obtain ⟨x0, hx0⟩ : ∃ x0, x0 = w.heap.size := ⟨_, rfl⟩
  obtain ⟨tp, htp⟩ : ∃ tp, tp = w1.heap.size := ⟨_, rfl⟩
  rw [← htp] at hQ2 hT2 hown1 hlt1
  rw [← hx0] at hX2 hrx hlt1
  rw [← hx0, ← htp]
  obtain ⟨bq, hbq⟩ : ∃ bq, bq = tp + 1 := ⟨_, rfl⟩
  rw [← hbq] at hQ2 hown1
  rw [← hbq]
  have HPW : Hid (w.heap.size ≤ tp) := Lib.hid (by omega)
  have HQW : Hid (w.heap.size ≤ bq) := Lib.hid (by omega)
  have HXW : Hid (w.heap.size ≤ x0) := Lib.hid (by omega)
  have hxt : x0 ≠ tp := by omega
  have hxq : x0 ≠ bq := by omega
  have htq : tp ≠ bq := by omega
  have HTQ := Lib.hid hown1
  obtain ⟨b2, hb2'⟩ : ∃ b : Bool, b = false := ⟨_, rfl⟩
  rw [← hb2'] at hQ2
  have HB2 : Hid (b2 = true ↔ False) := Lib.hid (by rw [hb2']; simp)
  clear hb2 hq2 hX1 hB1 hT2b hrow1 hx0 htp hbq hlt1 hown1 hrx hb2'

  go_wp2_with fail
  refine (tdet_of (tvar_c w.heap.size tp 0 (.slice tA N tc) (openL l) _ hT2) HPR.out.h1).mono ?_
  rintro e w3 ⟨rfl, hT3, hM3⟩
  have hQ3 := hQ2.mod hM3 (by omega)
  have hX3 := hX2.mod hM3 (by omega)
  have hB3 := hB2.trans (mod_base hM3 hB2.size HPW.out)
  clear hT2 hM3 hQ2 hB2 hX2
  go_wp2_with fail
  refine (rnumT_c bq b2 n1 e1 _ hQ3).mono ?_
  rintro e w4 ⟨b4, rfl, hQ4, hM4, hb4⟩
  have hT4 := hT3.mod hM4 (by omega) (fun b hb e => HTQ.out (e ▸ hb))
  have hX4 := hX3.mod hM4 (by omega)
  have hB4 := hB3.trans (mod_base hM4 hB3.size HQW.out)
  have HB4 := Lib.hid hb4
  clear hT3 hM4 hQ3 hB3 hb4 hX3
  go_wp2_with fail
  refine (tdet_of (tvar_c w.heap.size tp a1 (.slice tA N tc) (openL l) _ hT4) HPR.out.h2).mono ?_
  rintro e w5 ⟨rfl, hT5, hM5⟩
  have hQ5 := hQ4.mod hM5 (by omega)
  have hX5 := hX4.mod hM5 (by omega)
  have hB5 := hB4.trans (mod_base hM5 hB4.size HPW.out)
  clear hT4 hM5 hQ4 hB4 hX4
  go_wp2_with fail
  refine (rnumT_c bq b4 n2 e2 _ hQ5).mono ?_
  rintro e w6 ⟨b6, rfl, hQ6, hM6, hb6⟩
  have hT6 := hT5.mod hM6 (by omega) (fun b hb e => HTQ.out (e ▸ hb))
  have hX6 := hX5.mod hM6 (by omega)
  have hB6 := hB5.trans (mod_base hM6 hB5.size HQW.out)
  have HB6 := Lib.hid hb6
  clear hT5 hM6 hQ5 hB5 hb6 hX5
  go_wp2_with fail
  refine (tdet_of (tget_c w.heap.size tp a2 6 (.slice tA N tc) (openL l) _ hT6) HPR.out.h3).mono ?_
  rintro e w7 ⟨rfl, hT7, hM7⟩
  have hQ7 := hQ6.mod hM7 (by omega)
  have hX7 := hX6.mod hM7 (by omega)
  have hB7 := hB6.trans (mod_base hM7 hB6.size HPW.out)
  clear hT6 hM7 hQ6 hB6 hX6
  go_wp2_with fail
  refine (rnumT_c bq b6 n3 e3 _ hQ7).mono ?_
  rintro e w8 ⟨b8, rfl, hQ8, hM8, hb8⟩
  have hT8 := hT7.mod hM8 (by omega) (fun b hb e => HTQ.out (e ▸ hb))
  have hX8 := hX7.mod hM8 (by omega)
  have hB8 := hB7.trans (mod_base hM8 hB7.size HQW.out)
  have HB8 := Lib.hid hb8
  clear hT7 hM8 hQ7 hB7 hb8 hX7
  go_wp2_with fail
  refine (tdet_of (tget_c w.heap.size tp a3 6 (.slice tA N tc) (openL l) _ hT8) HPR.out.h4).mono ?_
  rintro e w9 ⟨rfl, hT9, hM9⟩
  have hQ9 := hQ8.mod hM9 (by omega)
  have hX9 := hX8.mod hM9 (by omega)
  have hB9 := hB8.trans (mod_base hM9 hB8.size HPW.out)
  clear hT8 hM9 hQ8 hB8 hX8
  go_wp2_with fail
  refine (rnumT_c bq b8 n4 e4 _ hQ9).mono ?_
  rintro e w10 ⟨b10, rfl, hQ10, hM10, hb10⟩
  have hT10 := hT9.mod hM10 (by omega) (fun b hb e => HTQ.out (e ▸ hb))
  have hX10 := hX9.mod hM10 (by omega)
  have hB10 := hB9.trans (mod_base hM10 hB9.size HQW.out)
  have HB10 := Lib.hid hb10
  clear hT9 hM10 hQ9 hB9 hb10 hX9
  go_wp2_with fail
  refine calls_anew ?_
  intro w11 hb11
  have hC11 : Blk w11 w10.heap.size #[.int .i64 n1, .int .i64 n2, .int .i64 n4, .int .i64 n3, .slice none 0 0] := Blk.below (by repeat (with_reducible (first | assumption | (apply Blk.at; simp; done) | apply Blk.alloc | apply Blk.drew | apply Blk.drewN | apply Blk.more | apply Blk.put | (apply Blk.far; focus (first | assumption | (apply Ne.symm; assumption) | (simp; done) | (simp <;> omega)))))) hb11
  have hq11 : Below w10.heap.size w10 w11 := (by repeat (with_reducible (first | exact Below.refl _ _ | assumption | apply ext_drew | apply ext_drewN | apply ext_alloc | apply ext_more | (refine ext_setCell ?_ (by simp <;> omega) _) | (refine ext_below ?_ (by assumption)))))
  have hT11 := hT10.below hq11
  have hQ11 := hQ10.below hq11
  have hX11 := hX10.below hq11
  have hB11 := hB10.trans (hq11.mono hB10.size)
  have hlt5 : tp < w10.heap.size ∧ bq < w10.heap.size ∧ x0 < w10.heap.size := ⟨hT10.blk.lt, hQ10.lt, hX10.lt⟩
  have hrlt : ∀ b, (Value.slice tA N tc).ownBlock = some b → b < w10.heap.size := fun b e => (row_lt hT10.row e).1
  have HCW : Hid (w.heap.size ≤ w10.heap.size) := Lib.hid hB10.size
  obtain ⟨cc, hcc⟩ : ∃ cc, cc = w10.heap.size := ⟨_, rfl⟩
  rw [← hcc] at hC11 hlt5 HCW hrlt
  rw [← hcc]
  obtain ⟨hpc, hqc, hxc⟩ := hlt5
  have HRL := Lib.hid hrlt
  have HTS : Hid (∀ b, b = tp → b < cc ∧ b ≠ x0 ∧ w.heap.size ≤ b) := Lib.hid (by have := HPW.out; rintro b rfl; omega)
  have HBS : Hid (∀ b, b = bq → b < cc ∧ b ≠ x0 ∧ w.heap.size ≤ b) := Lib.hid (by have := HQW.out; rintro b rfl; omega)
  have hP11 : Pc w w11 cc x0 n1 n2 n4 n3 (.slice none 0 0) [] := ⟨hC11, hX11, ⟨by decide, .inl ⟨rfl, rfl⟩⟩, hB11, hxc, HXW.out⟩
  clear hb11 hq11 hT10 hQ10 hX10 hB10 hcc hrlt hX11 hB11 hC11
  refine (tdet_of (tget_c w.heap.size tp a4 7 (.slice tA N tc) (openL l) _ hT11) HPR.out.h5).mono ?_
  rintro e w12 ⟨rfl, hT12, hM12⟩
  have hQ12 := hQ11.mod hM12 (by omega)
  have hP12 := hP11.mod hM12 HTS.out
  clear hT11 hM12 hQ11 hP11
  go_wp2_with fail
  refine (rnumT_c bq b10 n5 e5 _ hQ12).mono ?_
  rintro e w13 ⟨b13, rfl, hQ13, hM13, hb13⟩
  have hT13 := hT12.mod hM13 (by omega) (fun b hb e => HTQ.out (e ▸ hb))
  have hP13 := hP12.mod hM13 HBS.out
  have HB13 := Lib.hid hb13
  clear hT12 hM13 hQ12 hP12 hb13
  have hbad : b13 = true ↔ BadTR e1 e2 e3 e4 e5 := by
    have h1 := HB13.out; have h2 := HB10.out; have h3 := HB8.out; have h4 := HB6.out; have h5 := HB4.out; have h6 := HB2.out
    simp only [h2, h3, h4, h5, h6] at h1
    exact h1
  have hRel := relT_start (n5 := n5) (a5 := a5) (T := openL l) hbad (badTR (l := l) (n1 := n1) (n2 := n2) (n3 := n3) (n4 := n4) (n5 := n5) (a5 := a5))
  have HPP := Lib.hid hP13
  have HRE := Lib.hid hRel
  clear hbad hP13 hRel HB13 HB10 HB8 HB6 HB4 HB2
  go_upto_block 0 with fail
  go_cut [] (fun wx => ∃ (j : Nat) (L : List Nat) (v : Value) (a : Nat) (bad : Bool), (bad = false → j = 0) ∧ Tp wx w.heap.size tp (.slice tA N tc) (openL l) a ∧ Blk wx bq #[.bool bad] ∧ Pc w wx cc x0 n1 n2 n4 n3 v L ∧ RelT (BadTR e1 e2 e3 e4 e5) (GoodT l n1 n2 n3 n4 n5 e1 e2 e3 e4 e5 a5) (openL l) a5 n5 j L a bad)
  case first =>
    go_wp2
    go_loopw [8] (fun x wr => ∃ (j : Nat) (L : List Nat) (v : Value) (a : Nat) (bad : Bool), x = .int .i64 (j : Int) ∧ Tp wr w.heap.size tp (.slice tA N tc) (openL l) a ∧ Blk wr bq #[.bool bad] ∧ Pc w wr cc x0 n1 n2 n4 n3 v L ∧ RelT (BadTR e1 e2 e3 e4 e5) (GoodT l n1 n2 n3 n4 n5 e1 e2 e3 e4 e5 a5) (openL l) a5 n5 j L a bad) (fun x _ => (intOf x).toNat)
    case atStart => exact ⟨n5, [], .slice none 0 0, a5, b13, rfl, hT13, hQ13, HPP.out, HRE.out⟩
    case round =>
      obtain ⟨j, L, v1, a, bad, rfl, hT, hQ, hP, hRE⟩ := hrel
      clear hT13 hQ13 HPP HRE
      have hlen := hRE.len
      have HRE := Lib.hid hRE
      have HT := Lib.hid hT
      have HQ := Lib.hid hQ
      have HP := Lib.hid hP
      have k1 : wr.cell? ⟨bq, 0, none⟩ = some (.bool bad) := hQ.cell 0
      cases j with
      | zero =>
        cases bad with
        | true =>
          go_wp2
          go_meet
          exact ⟨0, L, v1, a, true, fun _ => rfl, HT.out, HQ.out, HP.out, HRE.out⟩
        | false =>
          go_wp2
          go_meet
          exact ⟨0, L, v1, a, false, fun _ => rfl, HT.out, HQ.out, HP.out, HRE.out⟩
      | succ j =>
        cases bad with
        | true =>
          go_wp2
          go_meet
          exact ⟨j + 1, L, v1, a, true, (fun h => by cases h), HT.out, HQ.out, HP.out, HRE.out⟩
        | false =>
          obtain ⟨x, e8, a8, hgd, hx, hnx⟩ := relT_step (openL_bin l) HRE.out (fun g => g.2.1)
          have hux : IntKind.u8.wrap (x : Int) = (x : Int) := by rw [IntKind.wrap_u8']; omega
          have k4 : wr.cell? ⟨cc, 4, none⟩ = some v1 := hP.blk.cell 4
          obtain ⟨i0, hi, hz0, hz1, hz2⟩ := info_parts byteInfo
          have HGD := Lib.hid hgd
          have HNX := Lib.hid hnx
          have HI := Lib.hid hi
          have HZ0 := Lib.hid hz0
          have HZ1 := Lib.hid hz1
          have HZ2 := Lib.hid hz2
          have hone : ∀ u ∈ [Value.int .u8 (x : Int)], u.oneCell' = true := by intro u hu; simp at hu; subst hu; rfl
          have HO := Lib.hid hone
          have HM3 : Hid (L.length + 1 ≤ maxLen) := Lib.hid (by unfold maxLen; omega)
          have HBY : Hid ((L.length + 1) * 1 ≤ 140737488355328) := Lib.hid (by omega)
          have hj128 : j < 128 := by omega
          clear hgd hnx hi hz0 hz1 hz2 hone hP hRE hn5 hlen hT hQ
          go_wp2
          go_region_law (first
            | (refine step_append_own rfl (.tmp 56) (.tmp 64) 29 rfl (cc + 1) 5 i0 (.int .u8 0) 1 1 Try.underlying29 HI.out HZ0.out HZ1.out HZ2.out rfl (by decide) v1 L.length (u8s L) (by simp [Act.eval]) (HROW.out _) ⟨w15.heap.size, 0, none⟩ 1 1 [.int .u8 (x : Int)] (by simp [Act.eval]) rfl HC.out HO.out HM3.out HBY.out HSZ.out ?_; intro v' w1 hown hgrow _ hwhere; obtain ⟨g, cap, hv1, _⟩ := row_at hown (by omega); subst hv1; have HO1 := Lib.hid hown; have HG1 := Lib.hid hgrow; have HPA := Lib.hid (HP15.out.app hgrow hown); have hmid := HP15.out.mid hgrow; have j0 : w1.cell? ⟨cc, 4, none⟩ = some v1 := hmid.cell 4; have jf := hmid.free; have jz := hmid.lt; clear hmid; clear hown hgrow hwhere)
            | (go_simp; go_at_call 80; refine (rnumT_c bq false x e8 _ HQ14.out).mono ?_; rintro e w15 ⟨b15, rfl, hQ15, hM15, hb15⟩; have hT15 := HT14.out.mod hM15 (fun e => htq e) (fun b hb e => HTQ.out (e ▸ hb)); have hP15 := HP14.out.mod hM15 HBS.out; have k415 : w15.cell? ⟨cc, 4, none⟩ = some v1 := hP15.blk.cell 4; have HROW := Lib.hid (fun o => row_below hP15.row (balloc w15 o)); have HC := Lib.hid (cell_one_new w15 (.int .u8 (x : Int)) 5); have z415 := hP15.blk.lt; have HSZ : Hid (cc + 1 ≤ (w15.alloc (.cells #[.int .u8 (x : Int)] 5)).heap.size) := Lib.hid (by simp; omega); have HP15 := Lib.hid hP15; have HT15 := Lib.hid hT15; have HQ15 := Lib.hid hQ15; have HB15 := Lib.hid hb15; clear hP15 hT15 hQ15 hM15 hb15)
            | (go_simp; go_at_call 82; refine (tdet_of (tget_c w.heap.size tp a 8 (.slice tA N tc) (openL l) _ (HT.out.below (by repeat (with_reducible (first | exact Below.refl _ _ | assumption | apply ext_drew | apply ext_drewN))))) HGD.out).mono ?_; rintro e w14 ⟨rfl, hT14, hM14⟩; have hQ14 := (HQ.out.below (by repeat (with_reducible (first | exact Below.refl _ _ | assumption | apply ext_drew | apply ext_drewN)))).mod hM14 (fun e => htq e.symm); have hP14 := (HP.out.below (by repeat (with_reducible (first | exact Below.refl _ _ | assumption | apply ext_drew | apply ext_drewN)))).mod hM14 HTS.out; have k414 : w14.cell? ⟨cc, 4, none⟩ = some v1 := hP14.blk.cell 4; have HT14 := Lib.hid hT14; have HQ14 := Lib.hid hQ14; have HP14 := Lib.hid hP14; clear hT14 hQ14 hP14 hM14))
          all_goals
            go_wp2
            go_roundw
            case rel => exact ⟨j, L ++ [x], .slice (some ⟨g, 0, none⟩) (L.length + 1) cap, a8, b15, by go_num, HT15.out.mod (grow_mod HG1.out) (HP15.out.out hpc) (fun b hb => HP15.out.out (HRL.out b hb)), HQ15.out.mod (grow_mod HG1.out) (HP15.out.out hqc), HPA.out, HNX.out b15 (by simpa using HB15.out)⟩
            case measure => first | (simp [intOf]; done) | (simp [intOf]; omega)
  case rest =>
    clear hT13 hQ13
    obtain ⟨j, L, v1, a, bad, hj, hT, hQ, hP, hRE⟩ := hcut
    have HLT := Lib.hid hRE.lt
    obtain ⟨A, cap, hv⟩ := row_form hP.row
    subst hv
    cases bad with
    | true =>
      have HNG : Hid (¬ GoodT l n1 n2 n3 n4 n5 e1 e2 e3 e4 e5 a5) := Lib.hid (hRE.yes rfl)
      obtain ⟨zc, cc0, fc⟩ := id hP.blk
      have HP := Lib.hid hP
      have HQ := Lib.hid hQ
      clear hP hRE hT hQ hj HPP HRE
      go_wp2_with fail
      refine (rtell_any n1 n2 n4 n3 A L.length cap L _ (Src.of_row HP.out.row) rfl HLT.out).mono ?_
      rintro e w16 ⟨v16, e16, rfl, hb16⟩
      have hP16 := HP.out.below hb16
      have kq : w16.cell? ⟨bq, 0, none⟩ = some (.bool true) := (HQ.out.below hb16).cell 0
      obtain ⟨zx, cx0, fx⟩ := id hP16.x
      have HP16 := Lib.hid hP16
      clear hb16 hP16 zc cc0 fc
      go_wp2
      exact bodyPost_ret (v := .tuple #[.agg #[.int .i64 0, .int .i64 0, .int .i64 0, .int .i64 0, .slice none 0 0], .int .i64 3]) (by simp [results, Try.results42, go_sem, *]) rfl (.inr ⟨HNG.out, rfl, (by have := HP16.out.bel; repeat (with_reducible (first | assumption | (refine ext_setCell ?_ (HXW.out) _))))⟩)
    | false =>
      obtain rfl := hj rfl
      have hlen : L.length = n5 := hRE.len
      obtain ⟨ha, hL, hnb⟩ := hRE.no rfl
      rw [hlen] at hL ha
      have hal : a ≤ (openL l).length := hT.le
      have hbd : e1 = 0 ∧ e2 = 0 ∧ e3 = 0 ∧ e4 = 0 ∧ e5 = 0 := by
        unfold BadTR at hnb
        omega
      have hG : ∀ (_ : RightP n1 n2 n4 n3 n5), pack (tellL n1 n2 n4 n3 L) = l → GoodT l n1 n2 n3 n4 n5 e1 e2 e3 e4 e5 a5 := fun hr hp => ⟨hbd, by omega, hr, by rw [← hL]; exact hp⟩
      have hG2 : GoodT l n1 n2 n3 n4 n5 e1 e2 e3 e4 e5 a5 → RightP n1 n2 n4 n3 n5 ∧ pack (tellL n1 n2 n4 n3 L) = l := fun h => ⟨h.2.2.1, by rw [hL]; exact h.2.2.2⟩
      have HG := Lib.hid hG
      have HG2 := Lib.hid hG2
      have HL := Lib.hid hL
      have HQ := Lib.hid hQ
      have HP := Lib.hid hP
      clear hP hRE hT hQ hj HPP hG hG2 hL ha hal hbd hnb hn5
      subst hlen
      obtain ⟨zc, cc0, fc⟩ := id HP.out.blk
      by_cases hr : RightP n1 n2 n4 n3 L.length
      · have HRP := Lib.hid hr
        clear hr
        go_wp2_with fail
        refine (rtell_yes n1 n2 n4 n3 A L.length cap L _ (Src.of_row HP.out.row) rfl HLT.out HRP.out).mono ?_
        rintro e w16 ⟨A', c', rfl, hBs, hb16⟩
        obtain ⟨PL, hPL⟩ : ∃ PL, PL = pack (tellL n1 n2 n4 n3 L) := ⟨_, rfl⟩
        have hP8 : ∀ x ∈ PL, x < 256 := by rw [hPL]; exact pack_lt (tellL_bin _ _ _ _ _)
        rw [← hPL] at hBs
        rw [← hPL]
        have HPL := Lib.hid hPL
        have HP8 := Lib.hid hP8
        have hP16 := HP.out.below hb16
        have kq : w16.cell? ⟨bq, 0, none⟩ = some (.bool false) := (HQ.out.below hb16).cell 0
        have hc1 := conv_rdb (Rdb.of_row hBs)
        have hc2 := conv_rdb (Rdb.of_src (HSR.out _ hP16.bel))
        clear hPL hP8 hb16 hBs zc cc0 fc
        obtain ⟨zc, cc0, fc⟩ := id hP16.blk
        obtain ⟨zx, cx0, fx⟩ := id hP16.x
        have HP16 := Lib.hid hP16
        clear hP16
        by_cases heq : PL = l
        · have HGO := Lib.hid (HG.out HRP.out (by rw [← HPL.out]; exact heq))
          subst heq
          go_wp2
          refine bodyPost_ret (v := .tuple #[.agg #[.int .i64 n1, .int .i64 n2, .int .i64 n4, .int .i64 n3, .slice A L.length cap], .int .i64 0]) (by simp [results, Try.results42, go_sem, *]) rfl (.inl ⟨HGO.out, A, cap, rfl, ?_, (by have := HP16.out.bel; repeat (with_reducible (first | assumption | (refine ext_setCell ?_ (HXW.out) _))))⟩)
          have hrow := HP16.out.row
          have hx0 : (Value.slice A L.length cap).ownBlock ≠ some x0 := fun e => by have := (row_lt hrow e).2; omega
          have hbw := HXW.out
          refine bsOf_mono (B := cc + 1) ?_ (by omega)
          unfold BsOf
          rw [byts_len, ← HL.out]
          repeat (first | exact hrow | (refine row_far ?_ hx0))
        · have HNG : Hid (¬ GoodT l n1 n2 n3 n4 L.length e1 e2 e3 e4 e5 a5) := Lib.hid (fun h => heq (by rw [HPL.out]; exact (HG2.out h).2))
          have hne : ((strB PL).toList == (strB l).toList) = false := bne_str (fun h => heq (strB_inj HP8.out H8.out h))
          clear heq
          go_wp2
          exact bodyPost_ret (v := .tuple #[.agg #[.int .i64 0, .int .i64 0, .int .i64 0, .int .i64 0, .slice none 0 0], .int .i64 3]) (by simp [results, Try.results42, go_sem, *]) rfl (.inr ⟨HNG.out, rfl, (by have := HP16.out.bel; repeat (with_reducible (first | assumption | (refine ext_setCell ?_ (HXW.out) _))))⟩)
      · have HNG : Hid (¬ GoodT l n1 n2 n3 n4 L.length e1 e2 e3 e4 e5 a5) := Lib.hid (fun h => hr (HG2.out h).1)
        have HRP := Lib.hid hr
        clear hr
        go_wp2_with fail
        refine (rtell_no n1 n2 n4 n3 A L.length cap _ HRP.out).mono ?_
        rintro e w16 ⟨rfl, hb16⟩
        have hP16 := HP.out.below hb16
        have kq : w16.cell? ⟨bq, 0, none⟩ = some (.bool false) := (HQ.out.below hb16).cell 0
        clear zc cc0 fc hb16
        obtain ⟨zx, cx0, fx⟩ := id hP16.x
        have HP16 := Lib.hid hP16
        clear hP16
        go_wp2
        exact bodyPost_ret (v := .tuple #[.agg #[.int .i64 0, .int .i64 0, .int .i64 0, .int .i64 0, .slice none 0 0], .int .i64 3]) (by simp [results, Try.results42, go_sem, *]) rfl (.inr ⟨HNG.out, rfl, (by have := HP16.out.bel; repeat (with_reducible (first | assumption | (refine ext_setCell ?_ (HXW.out) _))))⟩)

end Go.Proofs.Ytefhmbmbhiehdaa
