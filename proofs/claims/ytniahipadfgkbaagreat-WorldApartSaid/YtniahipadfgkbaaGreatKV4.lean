/- A world of bodies; a fact about a body that falls. Conditions: none. -/
import Derived.Test.YtniahipadfgkbaaGreatKW6
import Derived.Test.YtniahipadfgkbaaGreatKS4
namespace Go.Proofs.YtniahipadfgkbaaGreat
open Go Go.Maps Go.RowKit Go.BigFrame Go.ChangeShapes Go.WideShapes Go.ChangeAt
theorem bodiesW_c (w : World) (b : Nat) (c : Cf) (n : Nat) (M : Nat → Nat → Int) (nx st : Int) (p : Nat) (S : Nat → Prop) (hW : WM w b c n M nx st p S) :
    Calls Tryz.prog 10 #[.pointer (some ⟨b, 0, none⟩)] w fun e w' => ∃ A cap, e = .returned (.slice A n cap) ∧ RowQ w.heap.size w' A n cap M ∧ Below w.heap.size w w' := by
  obtain ⟨A, cap, t, D, R, hW⟩ := hW
  have HW := Lib.hid hW
  obtain ⟨zt, ct, ft⟩ := id hW.blk
  unfold wcells at ct
  clear hW
  go_enter Tryz.func10, Tryz.ntmps10
  go_wp2_with fail
  refine (clone_r M A n cap w HW.out.reads HW.out.row.nil (by have := HW.out.few; omega)).mono ?_
  rintro e w1 ⟨A', cap', rfl, hR, hb⟩
  go_wp2
  go_ret
  exact ⟨A', cap', rfl, hR, hb⟩
theorem some1_v (x v : Int) (w : World) (hv : (pickP x 327680 : Int) + 1 = v) : Calls Tryz.prog 18 #[.int .i64 x] w fun e w' => e = .returned (.int .i64 v) ∧ w = w' := by
  have hp := pickP_lt x 327680 (by decide)
  obtain ⟨q, hq⟩ : ∃ q : Int, (pickP x 327680 : Int) = q := ⟨_, rfl⟩
  have hw : wrap64 (1 + q) = v := by unfold wrap64; omega
  have HQ := Lib.hid hq
  clear hq hv hp
  go_enter Tryz.func18, Tryz.ntmps18
  go_wp2_with fail
  refine (pick_v x 327680 327680 q w rfl (by decide) (by decide) HQ.out).mono ?_
  rintro e w1 ⟨rfl, rfl⟩
  go_wp2
  go_ret
  exact ⟨congrArg (fun z => Ending.returned (.int .i64 z)) hw, rfl⟩
/-- the first k of some -/
def SomeI (w wr : World) (j : Nat) (v : Value) : Prop := Below w.heap.size w wr ∧ ∃ L : Nat → Nat → Int, wr.ownsRow w.heap.size 37 17 v j (rowsL L 17 j) ∧ ∀ a, a < j → BodyOk (L a)
theorem one17 (x : Nat → Int) : ∀ u ∈ (#[.int .i64 (x 0), .int .i64 (x 1), .int .i64 (x 2), .int .i64 (x 3), .int .i64 (x 4), .int .i64 (x 5), .int .i64 (x 6), .int .i64 (x 7), .int .i64 (x 8), .int .i64 (x 9), .int .i64 (x 10), .int .i64 (x 11), .int .i64 (x 12), .int .i64 (x 13), .int .i64 (x 14), .int .i64 (x 15), .int .i64 (x 16)] : Array Value).toList, u.oneCell' = true := by
  intro u hu
  simp at hu
  rcases hu with rfl | rfl | rfl | rfl | rfl | rfl | rfl | rfl | rfl | rfl | rfl | rfl | rfl | rfl | rfl | rfl | rfl <;> rfl
theorem szB_ok {z : Int} (h1 : 1 ≤ z) (h2 : z ≤ 3276800) : szB z = true := by simp [szB, h1, h2]
/-- a row of seventeen numbers -/
def row17 (a0 a1 a2 a3 a4 a5 a6 a7 a8 a9 a10 a11 a12 a13 a14 a15 a16 : Int) : Nat → Int := fun j => match j with
  | 0 => a0 | 1 => a1 | 2 => a2 | 3 => a3 | 4 => a4 | 5 => a5 | 6 => a6 | 7 => a7 | 8 => a8 | 9 => a9 | 10 => a10 | 11 => a11 | 12 => a12 | 13 => a13 | 14 => a14 | 15 => a15 | 16 => a16 | _ => 0
theorem body17 {a0 o k s1 s2 s3 m a16 x6 x7 x8 x9 x10 x11 x12 x13 x14 : Int} (hs : shapeB k s1 s2 s3 = true) (ho : 0 ≤ o ∧ o ≤ 3) (hm : 0 ≤ m ∧ m ≤ 1310720) :
    BodyOk (row17 a0 o k s1 s2 s3 (clamp 65536000 x6) (clamp 65536000 x7) (clamp 65536000 x8) (clamp 6553600 x9) (clamp 6553600 x10) (clamp 6553600 x11) (clamp 6553600 x12) (clamp 6553600 x13) (clamp 6553600 x14) m a16) where
  shape := hs
  owner := ⟨ho.1, by show o ≤ 8; omega⟩
  mass := ⟨hm.1, by show m ≤ 65536000; omega⟩
  at_ := ⟨clamp_bd9 (by decide), clamp_bd9 (by decide), clamp_bd9 (by decide)⟩
  speed := ⟨clamp_bd9 (by decide), clamp_bd9 (by decide), clamp_bd9 (by decide)⟩
  push := ⟨clamp_bd9 (by decide), clamp_bd9 (by decide), clamp_bd9 (by decide)⟩
set_option maxRecDepth 100000 in
set_option maxHeartbeats 8000000 in
theorem some_c (L : Nat → Nat → Int) (A : Option Addr) (n cap : Nat) (w : World) (hR : Reads w A n 17 L) (hn : n ≤ 9223372036854775807) :
    Calls Tryz.prog 6 #[.slice A n cap] w fun e w' => ∃ A' m cap', e = .returned (.slice A' m cap') ∧ m ≤ 20 ∧ Below w.heap.size w w' ∧ ∃ L', RowQ w.heap.size w' A' m cap' L' ∧ ∀ a, a < m → BodyOk (L' a) := by
  have HR := Lib.hid hR
  obtain ⟨m, hm⟩ : ∃ m, m = min n 20 := ⟨_, rfl⟩
  have hm20 : m ≤ 20 := by omega
  have HM := Lib.hid hm
  have HI0 : Hid (SomeI w w 0 (.slice none 0 0)) := Lib.hid ⟨Below.refl _ _, fun _ _ => 0, ⟨by simp [rowsL], .inl ⟨rfl, rfl⟩⟩, fun a h => absurd h (Nat.not_lt_zero a)⟩
  clear hR hm
  have hmc := more_cell
  have hmf := more_frozen
  have hml := more_lt
  go_enter Tryz.func6, Tryz.ntmps6
  go_wp2
  go_loopg [3, 4] m (fun k v3 v4 wr => ∃ j : Nat, v4 = .int .i64 (j : Int) ∧ j ≤ m ∧ k = m - j ∧ SomeI w wr j v3)
  case atStart => exact ⟨0, rfl, Nat.zero_le _, rfl, HI0.out⟩
  case round =>
    obtain ⟨j, rfl, hj, hk, hSB, L', hSR, hOK⟩ := hrel
    have HSB := Lib.hid hSB
    have HSR := Lib.hid hSR
    have HOK := Lib.hid hOK
    have HK := Lib.hid hk
    clear hSB hSR hOK hk
    by_cases hl : j < m
    · have d0 : decide ((j : Int) < (n : Int)) = true := decide_eq_true (by have := HM.out; omega)
      have d1 : decide ((j : Int) < 20) = true := decide_eq_true (by omega)
      have hw1 : wrap64 ((j : Int) + 1) = (j : Int) + 1 := by unfold wrap64; omega
      have hjn : j < n := by have := HM.out; omega
      obtain ⟨bb, oo, eA, hbb, hcl⟩ := HR.out (by omega)
      subst eA
      have HRG : Hid (wr.rangeAt bb (oo + j * 17) (rowL17 L j)) := Lib.hid (reads_range HSB.out hbb hcl hjn)
      have HJ20 : Hid (j < 20) := Lib.hid (by omega)
      obtain ⟨o1, ho1⟩ : ∃ o : Int, (pickP (L j 1) 4 : Int) = o := ⟨_, rfl⟩
      have HO1b : Hid (0 ≤ o1 ∧ o1 ≤ 3) := Lib.hid (by have := pickP_lt (L j 1) 4 (by decide); omega)
      obtain ⟨ms, hms⟩ : ∃ o : Int, (pickP (L j 15) 1310720 : Int) = o := ⟨_, rfl⟩
      have HMSb : Hid (0 ≤ ms ∧ ms ≤ 1310720) := Lib.hid (by have := pickP_lt (L j 15) 1310720 (by decide); omega)
      obtain ⟨z1, hz1⟩ : ∃ o : Int, (pickP (L j 3) 327680 : Int) + 1 = o := ⟨_, rfl⟩
      obtain ⟨z2, hz2⟩ : ∃ o : Int, (pickP (L j 4) 327680 : Int) + 1 = o := ⟨_, rfl⟩
      obtain ⟨z3, hz3⟩ : ∃ o : Int, (pickP (L j 5) 327680 : Int) + 1 = o := ⟨_, rfl⟩
      have HZB : Hid (shapeB 2 z1 z2 z3 = true) := Lib.hid (by
        have h1 := pickP_lt (L j 3) 327680 (by decide)
        have h2 := pickP_lt (L j 4) 327680 (by decide)
        have h3 := pickP_lt (L j 5) 327680 (by decide)
        unfold shapeB
        rw [if_neg (by decide), if_pos rfl, szB_ok (by omega) (by omega), szB_ok (by omega) (by omega), szB_ok (by omega) (by omega)]
        rfl)
      have HZA : Hid (shapeB 1 z1 0 0 = true) := Lib.hid (by
        have h1 := pickP_lt (L j 3) 327680 (by decide)
        unfold shapeB
        rw [if_pos rfl, szB_ok (by omega) (by omega)]
        rfl)
      have HO1 := Lib.hid ho1
      have HMS := Lib.hid hms
      have HZ1 := Lib.hid hz1
      have HZ2 := Lib.hid hz2
      have HZ3 := Lib.hid hz3
      clear ho1 hms hz1 hz2 hz3 hcl hbb
      have hj20 : j < 20 := HJ20.out
      go_upto_region 6 with (first | (refine wpList_load_mid rfl 37 (.tmp 19) rfl bb (oo + j * 17) rfl (rowL17 L j) _ HRG.out Tryz.underlying37 rfl bodyInfoW ?_) | (refine at_store_blk (b := wr.heap.size) (c' := (rowL17 L j).toArray) rfl 37 (.tmp 5) (.tmp 20) rfl rfl rfl (Blk.at _ _ _ _ rfl) rfl bodyInfoW (rowL17_one L j) ?_; intro w1 hp1 hm1))
      have HV1 : Hid (Below wr.heap.size wr w1) := Lib.hid ((below_alloc _ _).trans (hm1.toBelow (by simp) (fun x h1 (h2 : x = wr.heap.size) => by omega)))
      have HX1 : Hid (Blk w1 wr.heap.size #[.int .i64 (L j 0), .int .i64 (L j 1), .int .i64 (L j 2), .int .i64 (L j 3), .int .i64 (L j 4), .int .i64 (L j 5), .int .i64 (L j 6), .int .i64 (L j 7), .int .i64 (L j 8), .int .i64 (L j 9), .int .i64 (L j 10), .int .i64 (L j 11), .int .i64 (L j 12), .int .i64 (L j 13), .int .i64 (L j 14), .int .i64 (L j 15), .int .i64 (L j 16)]) := Lib.hid hp1
      clear hp1 hm1
      obtain ⟨zp, cp, fp⟩ := id HX1.out
      go_upto_region 7 with (go_at_call 9; refine (pick_v (L j 1) 4 4 o1 _ rfl (by decide) (by decide) HO1.out).mono ?_; rintro e w2 ⟨rfl, rfl⟩)
      refine wp_named ?_
      rintro w2 hw2
      have HX2 : Hid (Blk w2 wr.heap.size #[.int .i64 (L j 0), .int .i64 (o1), .int .i64 (L j 2), .int .i64 (L j 3), .int .i64 (L j 4), .int .i64 (L j 5), .int .i64 (L j 6), .int .i64 (L j 7), .int .i64 (L j 8), .int .i64 (L j 9), .int .i64 (L j 10), .int .i64 (L j 11), .int .i64 (L j 12), .int .i64 (L j 13), .int .i64 (L j 14), .int .i64 (L j 15), .int .i64 (L j 16)]) := Lib.hid (by rw [hw2]; exact blk_as (Blk.put HX1.out) (by simp))
      have HV2 : Hid (Below wr.heap.size wr w2) := Lib.hid (by rw [hw2]; have hv := HV1.out; exact (by repeat (with_reducible (first | exact Below.refl _ _ | assumption | apply ext_drew | apply ext_drewN | apply ext_alloc | apply ext_more | (refine ext_setCell ?_ (by first | assumption | (simp <;> omega)) _) | (refine ext_below ?_ (by assumption))))))
      clear hw2 zp cp fp
      obtain ⟨zp, cp, fp⟩ := id HX2.out
      by_cases hpar : (L j 2).tmod 2 = 0
      · have d2 : ((L j 2).tmod 2 == 0) = true := by simpa using hpar
        clear hpar
        go_upto_region 9 with fail
        refine region_quiet_but 20 (by kernel_rfl) (by kernel_rfl) ?_
        simp only [List.take_succ_cons, List.take_zero, List.drop_succ_cons, List.drop_zero]
        repeat (go_big_quiet_step (first | (go_at_call 18; first | with_reducible exact calls_after_same (some1_v _ _ _ HZ1.out) | with_reducible exact calls_after_same (some1_v _ _ _ HZ2.out) | with_reducible exact calls_after_same (some1_v _ _ _ HZ3.out))))
        refine wpQuiet_nil ?_
        rintro w3 hw3
        have hb3 := after_below hw3
        have HXq := Lib.hid (HX2.out.below hb3)
        have HVq := Lib.hid (HV2.out.trans (hb3.mono HV2.out.size))
        clear hb3 hw3 zp cp fp d2
        obtain ⟨zp, cp, fp⟩ := id HXq.out
        go_upto_region 11 with fail
        refine wp_named ?_
        rintro w8 hw8
        have HX3 : Hid (Blk w8 wr.heap.size #[.int .i64 (L j 0), .int .i64 (o1), .int .i64 (2), .int .i64 (z1), .int .i64 (z2), .int .i64 (z3), .int .i64 (L j 6), .int .i64 (L j 7), .int .i64 (L j 8), .int .i64 (L j 9), .int .i64 (L j 10), .int .i64 (L j 11), .int .i64 (L j 12), .int .i64 (L j 13), .int .i64 (L j 14), .int .i64 (L j 15), .int .i64 (L j 16)]) := Lib.hid (by rw [hw8]; have hx := HXq.out; exact blk_as ((by repeat (with_reducible (first | assumption | (apply Blk.at; simp; done) | apply Blk.alloc | apply Blk.drew | apply Blk.drewN | apply Blk.more | apply Blk.put | (apply Blk.far; focus (first | assumption | (apply Ne.symm; assumption) | (simp; done) | (simp <;> omega))))))) (by simp))
        have HV3 : Hid (Below wr.heap.size wr w8) := Lib.hid (by rw [hw8]; have hv := HVq.out; exact (by repeat (with_reducible (first | exact Below.refl _ _ | assumption | apply ext_drew | apply ext_drewN | apply ext_alloc | apply ext_more | (refine ext_setCell ?_ (by first | assumption | (simp <;> omega)) _) | (refine ext_below ?_ (by assumption))))))
        have HSH := HZB
        clear hw8 zp cp fp
        obtain ⟨zp, cp, fp⟩ := id HX3.out
        refine region_quiet_but 10 (by kernel_rfl) (by kernel_rfl) ?_
        simp only [List.take_succ_cons, List.take_zero, List.drop_succ_cons, List.drop_zero]
        repeat (go_big_quiet_step (first | (go_at_call 12; first | with_reducible exact calls_after (clampP_c (L j 6) (L j 7) (L j 8) _) | with_reducible exact calls_after (clampS_c (L j 9) (L j 10) (L j 11) _) | with_reducible exact calls_after (clampS_c (L j 12) (L j 13) (L j 14) _))))
        refine wpQuiet_nil ?_
        rintro w4 hw4
        have hb4 := after_below hw4
        have HX4 := Lib.hid (HX3.out.below hb4)
        have HV4 := Lib.hid (HV3.out.trans (hb4.mono HV3.out.size))
        clear hb4 hw4 zp cp fp
        obtain ⟨zp, cp, fp⟩ := id HX4.out
        go_upto_region 12 with fail
        refine wp_named ?_
        rintro w5 hw5
        have HX5 : Hid (Blk w5 wr.heap.size #[.int .i64 (L j 0), .int .i64 (o1), .int .i64 (2), .int .i64 (z1), .int .i64 (z2), .int .i64 (z3), .int .i64 (clamp 65536000 (L j 6)), .int .i64 (clamp 65536000 (L j 7)), .int .i64 (clamp 65536000 (L j 8)), .int .i64 (clamp 6553600 (L j 9)), .int .i64 (clamp 6553600 (L j 10)), .int .i64 (clamp 6553600 (L j 11)), .int .i64 (clamp 6553600 (L j 12)), .int .i64 (clamp 6553600 (L j 13)), .int .i64 (clamp 6553600 (L j 14)), .int .i64 (L j 15), .int .i64 (L j 16)]) := Lib.hid (by rw [hw5]; have hx := HX4.out; exact blk_as ((by repeat (with_reducible (first | assumption | (apply Blk.at; simp; done) | apply Blk.alloc | apply Blk.drew | apply Blk.drewN | apply Blk.more | apply Blk.put | (apply Blk.far; focus (first | assumption | (apply Ne.symm; assumption) | (simp; done) | (simp <;> omega))))))) (by simp))
        have HV5 : Hid (Below wr.heap.size wr w5) := Lib.hid (by rw [hw5]; have hv := HV4.out; exact (by repeat (with_reducible (first | exact Below.refl _ _ | assumption | apply ext_drew | apply ext_drewN | apply ext_alloc | apply ext_more | (refine ext_setCell ?_ (by first | assumption | (simp <;> omega)) _) | (refine ext_below ?_ (by assumption))))))
        clear hw5 zp cp fp
        obtain ⟨zp, cp, fp⟩ := id HX5.out
        go_upto_region 13 with (go_at_call 9; refine (pick_v (L j 15) 1310720 1310720 ms _ rfl (by decide) (by decide) HMS.out).mono ?_; rintro e w6 ⟨rfl, rfl⟩)
        refine wp_named ?_
        rintro w6 hw6
        have HX6 : Hid (Blk w6 wr.heap.size #[.int .i64 (L j 0), .int .i64 (o1), .int .i64 (2), .int .i64 (z1), .int .i64 (z2), .int .i64 (z3), .int .i64 (clamp 65536000 (L j 6)), .int .i64 (clamp 65536000 (L j 7)), .int .i64 (clamp 65536000 (L j 8)), .int .i64 (clamp 6553600 (L j 9)), .int .i64 (clamp 6553600 (L j 10)), .int .i64 (clamp 6553600 (L j 11)), .int .i64 (clamp 6553600 (L j 12)), .int .i64 (clamp 6553600 (L j 13)), .int .i64 (clamp 6553600 (L j 14)), .int .i64 (ms), .int .i64 (L j 16)]) := Lib.hid (by rw [hw6]; exact blk_as (Blk.put HX5.out) (by simp))
        have HV6 : Hid (Below wr.heap.size wr w6) := Lib.hid (by rw [hw6]; have hv := HV5.out; exact (by repeat (with_reducible (first | exact Below.refl _ _ | assumption | apply ext_drew | apply ext_drewN | apply ext_alloc | apply ext_more | (refine ext_setCell ?_ (by first | assumption | (simp <;> omega)) _) | (refine ext_below ?_ (by assumption))))))
        clear hw6 zp cp fp
        have HRP : Hid (w6.rangeAt wr.heap.size 0 [.int .i64 (L j 0), .int .i64 (o1), .int .i64 (2), .int .i64 (z1), .int .i64 (z2), .int .i64 (z3), .int .i64 (clamp 65536000 (L j 6)), .int .i64 (clamp 65536000 (L j 7)), .int .i64 (clamp 65536000 (L j 8)), .int .i64 (clamp 6553600 (L j 9)), .int .i64 (clamp 6553600 (L j 10)), .int .i64 (clamp 6553600 (L j 11)), .int .i64 (clamp 6553600 (L j 12)), .int .i64 (clamp 6553600 (L j 13)), .int .i64 (clamp 6553600 (L j 14)), .int .i64 (ms), .int .i64 (L j 16)]) := Lib.hid (blk_range HX6.out)
        have hrow6 := row_below HSR.out HV6.out
        have HR6 := Lib.hid hrow6
        have HE6 : Hid (w.heap.size ≤ w6.heap.size) := Lib.hid (Nat.le_trans HSB.out.size HV6.out.size)
        clear hrow6
        go_wp2_with (first | (refine wpList_load_mid rfl 37 (.tmp 5) rfl wr.heap.size 0 rfl [.int .i64 (L j 0), .int .i64 (o1), .int .i64 (2), .int .i64 (z1), .int .i64 (z2), .int .i64 (z3), .int .i64 (clamp 65536000 (L j 6)), .int .i64 (clamp 65536000 (L j 7)), .int .i64 (clamp 65536000 (L j 8)), .int .i64 (clamp 6553600 (L j 9)), .int .i64 (clamp 6553600 (L j 10)), .int .i64 (clamp 6553600 (L j 11)), .int .i64 (clamp 6553600 (L j 12)), .int .i64 (clamp 6553600 (L j 13)), .int .i64 (clamp 6553600 (L j 14)), .int .i64 (ms), .int .i64 (L j 16)] _ HRP.out Tryz.underlying37 rfl bodyInfoW ?_) | (at_builtin; go_must (refine app_one rfl (.tmp 76) (.tmp 78) 22 rfl Tryz.underlying22 bodyInfo2 rfl (by decide) (by decide) w.heap.size _ j _ rfl HR6.out #[.int .i64 (L j 0), .int .i64 (o1), .int .i64 (2), .int .i64 (z1), .int .i64 (z2), .int .i64 (z3), .int .i64 (clamp 65536000 (L j 6)), .int .i64 (clamp 65536000 (L j 7)), .int .i64 (clamp 65536000 (L j 8)), .int .i64 (clamp 6553600 (L j 9)), .int .i64 (clamp 6553600 (L j 10)), .int .i64 (clamp 6553600 (L j 11)), .int .i64 (clamp 6553600 (L j 12)), .int .i64 (clamp 6553600 (L j 13)), .int .i64 (clamp 6553600 (L j 14)), .int .i64 (ms), .int .i64 (L j 16)] rfl rfl rfl (one17 (row17 (L j 0) (o1) (2) (z1) (z2) (z3) (clamp 65536000 (L j 6)) (clamp 65536000 (L j 7)) (clamp 65536000 (L j 8)) (clamp 6553600 (L j 9)) (clamp 6553600 (L j 10)) (clamp 6553600 (L j 11)) (clamp 6553600 (L j 12)) (clamp 6553600 (L j 13)) (clamp 6553600 (L j 14)) (ms) (L j 16))) (by have := HJ20.out; omega) HE6.out ?_; intro g' c' w7 hown hmod hwh hbg; have HO7 := Lib.hid hown; have HM7 := Lib.hid hmod; clear hown hmod hwh hbg)))
        have hE7 : Below w.heap.size w w7 := (HSB.out.trans (HV6.out.mono HSB.out.size)).trans (HM7.out.toBelow HE6.out fun x hx e => by have := (row_lt HR6.out e).2; omega)
        go_roundg (m - (j + 1))
        case measure => have := HK.out; omega
        case rel =>
          refine ⟨j + 1, by first | (simp; done) | (simp; exact hw1) | rfl, by omega, rfl, ⟨hE7, setRow L' j (row17 (L j 0) (o1) (2) (z1) (z2) (z3) (clamp 65536000 (L j 6)) (clamp 65536000 (L j 7)) (clamp 65536000 (L j 8)) (clamp 6553600 (L j 9)) (clamp 6553600 (L j 10)) (clamp 6553600 (L j 11)) (clamp 6553600 (L j 12)) (clamp 6553600 (L j 13)) (clamp 6553600 (L j 14)) (ms) (L j 16)), ?_, fun a ha => ?_⟩⟩
          · rw [rowsL_push17]
            exact HO7.out
          · by_cases e : a = j
            · rw [e]
              have : setRow L' j (row17 (L j 0) (o1) (2) (z1) (z2) (z3) (clamp 65536000 (L j 6)) (clamp 65536000 (L j 7)) (clamp 65536000 (L j 8)) (clamp 6553600 (L j 9)) (clamp 6553600 (L j 10)) (clamp 6553600 (L j 11)) (clamp 6553600 (L j 12)) (clamp 6553600 (L j 13)) (clamp 6553600 (L j 14)) (ms) (L j 16)) j = row17 (L j 0) (o1) (2) (z1) (z2) (z3) (clamp 65536000 (L j 6)) (clamp 65536000 (L j 7)) (clamp 65536000 (L j 8)) (clamp 6553600 (L j 9)) (clamp 6553600 (L j 10)) (clamp 6553600 (L j 11)) (clamp 6553600 (L j 12)) (clamp 6553600 (L j 13)) (clamp 6553600 (L j 14)) (ms) (L j 16) := funext fun q => if_pos rfl
              rw [this]
              exact body17 HSH.out HO1b.out HMSb.out
            · have : setRow L' j (row17 (L j 0) (o1) (2) (z1) (z2) (z3) (clamp 65536000 (L j 6)) (clamp 65536000 (L j 7)) (clamp 65536000 (L j 8)) (clamp 6553600 (L j 9)) (clamp 6553600 (L j 10)) (clamp 6553600 (L j 11)) (clamp 6553600 (L j 12)) (clamp 6553600 (L j 13)) (clamp 6553600 (L j 14)) (ms) (L j 16)) a = L' a := funext fun q => if_neg e
              rw [this]
              exact HOK.out a (by omega)
      · have d2 : ((L j 2).tmod 2 == 0) = false := by simpa using hpar
        clear hpar
        go_upto_region 10 with fail
        go_upto_region 11 with (go_at_call 18; refine (some1_v _ _ _ HZ1.out).mono ?_; rintro e w3 ⟨rfl, rfl⟩)
        refine wp_named ?_
        rintro w8 hw8
        have HX3 : Hid (Blk w8 wr.heap.size #[.int .i64 (L j 0), .int .i64 (o1), .int .i64 (1), .int .i64 (z1), .int .i64 (0), .int .i64 (0), .int .i64 (L j 6), .int .i64 (L j 7), .int .i64 (L j 8), .int .i64 (L j 9), .int .i64 (L j 10), .int .i64 (L j 11), .int .i64 (L j 12), .int .i64 (L j 13), .int .i64 (L j 14), .int .i64 (L j 15), .int .i64 (L j 16)]) := Lib.hid (by rw [hw8]; have hx := HX2.out; exact blk_as ((by repeat (with_reducible (first | assumption | (apply Blk.at; simp; done) | apply Blk.alloc | apply Blk.drew | apply Blk.drewN | apply Blk.more | apply Blk.put | (apply Blk.far; focus (first | assumption | (apply Ne.symm; assumption) | (simp; done) | (simp <;> omega))))))) (by simp))
        have HV3 : Hid (Below wr.heap.size wr w8) := Lib.hid (by rw [hw8]; have hv := HV2.out; exact (by repeat (with_reducible (first | exact Below.refl _ _ | assumption | apply ext_drew | apply ext_drewN | apply ext_alloc | apply ext_more | (refine ext_setCell ?_ (by first | assumption | (simp <;> omega)) _) | (refine ext_below ?_ (by assumption))))))
        have HSH := HZA
        clear hw8 zp cp fp d2
        obtain ⟨zp, cp, fp⟩ := id HX3.out
        refine region_quiet_but 10 (by kernel_rfl) (by kernel_rfl) ?_
        simp only [List.take_succ_cons, List.take_zero, List.drop_succ_cons, List.drop_zero]
        repeat (go_big_quiet_step (first | (go_at_call 12; first | with_reducible exact calls_after (clampP_c (L j 6) (L j 7) (L j 8) _) | with_reducible exact calls_after (clampS_c (L j 9) (L j 10) (L j 11) _) | with_reducible exact calls_after (clampS_c (L j 12) (L j 13) (L j 14) _))))
        refine wpQuiet_nil ?_
        rintro w4 hw4
        have hb4 := after_below hw4
        have HX4 := Lib.hid (HX3.out.below hb4)
        have HV4 := Lib.hid (HV3.out.trans (hb4.mono HV3.out.size))
        clear hb4 hw4 zp cp fp
        obtain ⟨zp, cp, fp⟩ := id HX4.out
        go_upto_region 12 with fail
        refine wp_named ?_
        rintro w5 hw5
        have HX5 : Hid (Blk w5 wr.heap.size #[.int .i64 (L j 0), .int .i64 (o1), .int .i64 (1), .int .i64 (z1), .int .i64 (0), .int .i64 (0), .int .i64 (clamp 65536000 (L j 6)), .int .i64 (clamp 65536000 (L j 7)), .int .i64 (clamp 65536000 (L j 8)), .int .i64 (clamp 6553600 (L j 9)), .int .i64 (clamp 6553600 (L j 10)), .int .i64 (clamp 6553600 (L j 11)), .int .i64 (clamp 6553600 (L j 12)), .int .i64 (clamp 6553600 (L j 13)), .int .i64 (clamp 6553600 (L j 14)), .int .i64 (L j 15), .int .i64 (L j 16)]) := Lib.hid (by rw [hw5]; have hx := HX4.out; exact blk_as ((by repeat (with_reducible (first | assumption | (apply Blk.at; simp; done) | apply Blk.alloc | apply Blk.drew | apply Blk.drewN | apply Blk.more | apply Blk.put | (apply Blk.far; focus (first | assumption | (apply Ne.symm; assumption) | (simp; done) | (simp <;> omega))))))) (by simp))
        have HV5 : Hid (Below wr.heap.size wr w5) := Lib.hid (by rw [hw5]; have hv := HV4.out; exact (by repeat (with_reducible (first | exact Below.refl _ _ | assumption | apply ext_drew | apply ext_drewN | apply ext_alloc | apply ext_more | (refine ext_setCell ?_ (by first | assumption | (simp <;> omega)) _) | (refine ext_below ?_ (by assumption))))))
        clear hw5 zp cp fp
        obtain ⟨zp, cp, fp⟩ := id HX5.out
        go_upto_region 13 with (go_at_call 9; refine (pick_v (L j 15) 1310720 1310720 ms _ rfl (by decide) (by decide) HMS.out).mono ?_; rintro e w6 ⟨rfl, rfl⟩)
        refine wp_named ?_
        rintro w6 hw6
        have HX6 : Hid (Blk w6 wr.heap.size #[.int .i64 (L j 0), .int .i64 (o1), .int .i64 (1), .int .i64 (z1), .int .i64 (0), .int .i64 (0), .int .i64 (clamp 65536000 (L j 6)), .int .i64 (clamp 65536000 (L j 7)), .int .i64 (clamp 65536000 (L j 8)), .int .i64 (clamp 6553600 (L j 9)), .int .i64 (clamp 6553600 (L j 10)), .int .i64 (clamp 6553600 (L j 11)), .int .i64 (clamp 6553600 (L j 12)), .int .i64 (clamp 6553600 (L j 13)), .int .i64 (clamp 6553600 (L j 14)), .int .i64 (ms), .int .i64 (L j 16)]) := Lib.hid (by rw [hw6]; exact blk_as (Blk.put HX5.out) (by simp))
        have HV6 : Hid (Below wr.heap.size wr w6) := Lib.hid (by rw [hw6]; have hv := HV5.out; exact (by repeat (with_reducible (first | exact Below.refl _ _ | assumption | apply ext_drew | apply ext_drewN | apply ext_alloc | apply ext_more | (refine ext_setCell ?_ (by first | assumption | (simp <;> omega)) _) | (refine ext_below ?_ (by assumption))))))
        clear hw6 zp cp fp
        have HRP : Hid (w6.rangeAt wr.heap.size 0 [.int .i64 (L j 0), .int .i64 (o1), .int .i64 (1), .int .i64 (z1), .int .i64 (0), .int .i64 (0), .int .i64 (clamp 65536000 (L j 6)), .int .i64 (clamp 65536000 (L j 7)), .int .i64 (clamp 65536000 (L j 8)), .int .i64 (clamp 6553600 (L j 9)), .int .i64 (clamp 6553600 (L j 10)), .int .i64 (clamp 6553600 (L j 11)), .int .i64 (clamp 6553600 (L j 12)), .int .i64 (clamp 6553600 (L j 13)), .int .i64 (clamp 6553600 (L j 14)), .int .i64 (ms), .int .i64 (L j 16)]) := Lib.hid (blk_range HX6.out)
        have hrow6 := row_below HSR.out HV6.out
        have HR6 := Lib.hid hrow6
        have HE6 : Hid (w.heap.size ≤ w6.heap.size) := Lib.hid (Nat.le_trans HSB.out.size HV6.out.size)
        clear hrow6
        go_wp2_with (first | (refine wpList_load_mid rfl 37 (.tmp 5) rfl wr.heap.size 0 rfl [.int .i64 (L j 0), .int .i64 (o1), .int .i64 (1), .int .i64 (z1), .int .i64 (0), .int .i64 (0), .int .i64 (clamp 65536000 (L j 6)), .int .i64 (clamp 65536000 (L j 7)), .int .i64 (clamp 65536000 (L j 8)), .int .i64 (clamp 6553600 (L j 9)), .int .i64 (clamp 6553600 (L j 10)), .int .i64 (clamp 6553600 (L j 11)), .int .i64 (clamp 6553600 (L j 12)), .int .i64 (clamp 6553600 (L j 13)), .int .i64 (clamp 6553600 (L j 14)), .int .i64 (ms), .int .i64 (L j 16)] _ HRP.out Tryz.underlying37 rfl bodyInfoW ?_) | (at_builtin; go_must (refine app_one rfl (.tmp 76) (.tmp 78) 22 rfl Tryz.underlying22 bodyInfo2 rfl (by decide) (by decide) w.heap.size _ j _ rfl HR6.out #[.int .i64 (L j 0), .int .i64 (o1), .int .i64 (1), .int .i64 (z1), .int .i64 (0), .int .i64 (0), .int .i64 (clamp 65536000 (L j 6)), .int .i64 (clamp 65536000 (L j 7)), .int .i64 (clamp 65536000 (L j 8)), .int .i64 (clamp 6553600 (L j 9)), .int .i64 (clamp 6553600 (L j 10)), .int .i64 (clamp 6553600 (L j 11)), .int .i64 (clamp 6553600 (L j 12)), .int .i64 (clamp 6553600 (L j 13)), .int .i64 (clamp 6553600 (L j 14)), .int .i64 (ms), .int .i64 (L j 16)] rfl rfl rfl (one17 (row17 (L j 0) (o1) (1) (z1) (0) (0) (clamp 65536000 (L j 6)) (clamp 65536000 (L j 7)) (clamp 65536000 (L j 8)) (clamp 6553600 (L j 9)) (clamp 6553600 (L j 10)) (clamp 6553600 (L j 11)) (clamp 6553600 (L j 12)) (clamp 6553600 (L j 13)) (clamp 6553600 (L j 14)) (ms) (L j 16))) (by have := HJ20.out; omega) HE6.out ?_; intro g' c' w7 hown hmod hwh hbg; have HO7 := Lib.hid hown; have HM7 := Lib.hid hmod; clear hown hmod hwh hbg)))
        have hE7 : Below w.heap.size w w7 := (HSB.out.trans (HV6.out.mono HSB.out.size)).trans (HM7.out.toBelow HE6.out fun x hx e => by have := (row_lt HR6.out e).2; omega)
        go_roundg (m - (j + 1))
        case measure => have := HK.out; omega
        case rel =>
          refine ⟨j + 1, by first | (simp; done) | (simp; exact hw1) | rfl, by omega, rfl, ⟨hE7, setRow L' j (row17 (L j 0) (o1) (1) (z1) (0) (0) (clamp 65536000 (L j 6)) (clamp 65536000 (L j 7)) (clamp 65536000 (L j 8)) (clamp 6553600 (L j 9)) (clamp 6553600 (L j 10)) (clamp 6553600 (L j 11)) (clamp 6553600 (L j 12)) (clamp 6553600 (L j 13)) (clamp 6553600 (L j 14)) (ms) (L j 16)), ?_, fun a ha => ?_⟩⟩
          · rw [rowsL_push17]
            exact HO7.out
          · by_cases e : a = j
            · rw [e]
              have : setRow L' j (row17 (L j 0) (o1) (1) (z1) (0) (0) (clamp 65536000 (L j 6)) (clamp 65536000 (L j 7)) (clamp 65536000 (L j 8)) (clamp 6553600 (L j 9)) (clamp 6553600 (L j 10)) (clamp 6553600 (L j 11)) (clamp 6553600 (L j 12)) (clamp 6553600 (L j 13)) (clamp 6553600 (L j 14)) (ms) (L j 16)) j = row17 (L j 0) (o1) (1) (z1) (0) (0) (clamp 65536000 (L j 6)) (clamp 65536000 (L j 7)) (clamp 65536000 (L j 8)) (clamp 6553600 (L j 9)) (clamp 6553600 (L j 10)) (clamp 6553600 (L j 11)) (clamp 6553600 (L j 12)) (clamp 6553600 (L j 13)) (clamp 6553600 (L j 14)) (ms) (L j 16) := funext fun q => if_pos rfl
              rw [this]
              exact body17 HSH.out HO1b.out HMSb.out
            · have : setRow L' j (row17 (L j 0) (o1) (1) (z1) (0) (0) (clamp 65536000 (L j 6)) (clamp 65536000 (L j 7)) (clamp 65536000 (L j 8)) (clamp 6553600 (L j 9)) (clamp 6553600 (L j 10)) (clamp 6553600 (L j 11)) (clamp 6553600 (L j 12)) (clamp 6553600 (L j 13)) (clamp 6553600 (L j 14)) (ms) (L j 16)) a = L' a := funext fun q => if_neg e
              rw [this]
              exact HOK.out a (by omega)
    · have ej : j = m := by omega
      rw [ej] at HSR HOK
      have HJM := Lib.hid ej
      clear hl
      by_cases hjn : j < n
      · have d0 : decide ((j : Int) < (n : Int)) = true := decide_eq_true (by omega)
        have d1 : decide ((j : Int) < 20) = false := decide_eq_false (by have := HM.out; omega)
        have hj20 : ¬ j < 20 := by have := HM.out; omega
        clear ej
        go_wp2
        go_ret
        obtain ⟨A', C', rfl, _⟩ := row_any HSR.out
        exact ⟨A', m, C', rfl, hm20, HSB.out, L', HSR.out, HOK.out⟩
      · have d0 : decide ((j : Int) < (n : Int)) = false := decide_eq_false (by omega)
        clear ej
        go_wp2
        go_ret
        obtain ⟨A', C', rfl, _⟩ := row_any HSR.out
        exact ⟨A', m, C', rfl, hm20, HSB.out, L', HSR.out, HOK.out⟩
end Go.Proofs.YtniahipadfgkbaaGreat
namespace Go.Proofs.YtniahipadfgkbaaGreat
open Go Go.Maps Go.RowKit Go.BigFrame Go.ChangeShapes Go.WideShapes Go.ChangeAt
/-- the first k bodies, by their numbers -/
def fillM (L : Nat → Nat → Int) (k : Nat) : Nat → Nat → Int := fun a j => if a < k then (if j = 0 then (a : Int) + 1 else L a j) else 0
theorem fillM_succ (L : Nat → Nat → Int) (k : Nat) : pushR (fillM L k) k (L k) ((k : Int) + 1) = fillM L (k + 1) := by
  funext a j
  by_cases e : a = k
  · subst e
    rw [pushR_new]
    unfold fillM
    rw [if_pos (Nat.lt_succ_self _)]
  · unfold pushR setRow fillM
    rw [if_neg e]
    by_cases h : a < k
    · rw [if_pos h, if_pos (show a < k + 1 by omega)]
    · rw [if_neg h, if_neg (show ¬ a < k + 1 by omega)]
/-- a new world in memory -/
theorem newWM {w' : World} {b t : Nat} {S : Nat → Prop} {c : Cf} (hS : ¬ S b) (hb : Blk w' b #[.int .i64 c.f1, .int .i64 c.f2, .int .i64 c.f3, .int .i64 c.bo, .int .i64 c.ru, .int .i64 c.ro, .int .i64 c.qu, .slice none 0 0, .pointer (some ⟨t, 0, none⟩), .int .i64 1, .int .i64 0]) (hT : BW w' t 65536 0 (fun _ => none) 0 S) (hr : RightL c.bo c.ru c.ro) :
    WM w' b c 0 (fun _ _ => 0) 1 0 0 (fun x => x = b ∨ S x) :=
  ⟨none, 0, t, fun _ => none, S, { blk := hb, row := ⟨by simp [rowsL], .inl ⟨rfl, rfl⟩⟩, tree := hT, td := ⟨fun i h => absurd h (Nat.not_lt_zero i), fun _ _ => rfl⟩, rise := fun i j _ h => absurd h (Nat.not_lt_zero j), ok := fun i h => absurd h (Nat.not_lt_zero i), low := fun i h => absurd h (Nat.not_lt_zero i), nxb := by decide, few := by decide, law := hr, lt := fun x h => h.elim (fun e => e ▸ hb.lt) (hT.2 x), sb := .inl rfl, sr := fun x h => .inr h, sa := fun g e => (by cases e), rb := hS, ra := fun g e => (by cases e) }⟩
theorem bodyW_c (w : World) (b : Nat) (c : Cf) (n : Nat) (M : Nat → Nat → Int) (nx st : Int) (p : Nat) (S : Nat → Prop) (hW : WM w b c n M nx st p S) (i : Nat) (hi : i < n) {x : Int} (hx : M i 0 = x) :
    Calls Tryz.prog 17 #[.pointer (some ⟨b, 0, none⟩), .int .i64 x] w fun e w' => e = .returned (.tuple #[rowV M i, .bool true]) ∧ Below w.heap.size w w' := by
  obtain ⟨A, cap, t, D, R, hW⟩ := hW
  subst hx
  exact body_yes c.f1 c.f2 c.f3 c.bo c.ru c.ro c.qu nx st A n cap (.pointer (some ⟨t, 0, none⟩)) M i hi w b hW.blk (by have := hW.few; omega) hW.reads hW.rise
/-- the first j bodies are put there -/
def FillI (w wr : World) (b : Nat) (c : Cf) (L : Nat → Nat → Int) (j : Nat) : Prop := Below w.heap.size w wr ∧ ∃ S, WM wr b c j (fillM L j) ((j : Int) + 1) 0 j S ∧ ∀ x, S x → w.heap.size ≤ x
theorem fillM_zero (L : Nat → Nat → Int) : fillM L 0 = fun _ _ => 0 := funext fun a => funext fun _ => if_neg (Nat.not_lt_zero a)
set_option maxRecDepth 100000 in
set_option maxHeartbeats 8000000 in
theorem filled_c (L : Nat → Nat → Int) (A : Option Addr) (n cap : Nat) (f1 f2 f3 bo ru ro : Int) (w : World) (hR : Reads w A n 17 L) (hn : n ≤ 40) (hok : ∀ a, a < n → BodyOk (L a)) (hl : RightL bo ru ro) :
    Calls Tryz.prog 7 #[.slice A n cap, .agg #[.int .i64 f1, .int .i64 f2, .int .i64 f3], .agg #[.int .i64 bo, .int .i64 ru, .int .i64 ro]] w fun e w' => ∃ b S, e = .returned (.pointer (some ⟨b, 0, none⟩)) ∧ Below w.heap.size w w' ∧ WM w' b ⟨clamp 6553600 f1, clamp 6553600 f2, clamp 6553600 f3, bo, ru, ro, 60⟩ n (fillM L n) ((n : Int) + 1) 0 n S ∧ ∀ x, S x → w.heap.size ≤ x := by
  have HR := Lib.hid hR
  have HN := Lib.hid hn
  have HOK := Lib.hid hok
  have HL := Lib.hid hl
  obtain ⟨c1, hc1⟩ : ∃ x, x = clamp 6553600 f1 := ⟨_, rfl⟩
  obtain ⟨c2, hc2⟩ : ∃ x, x = clamp 6553600 f2 := ⟨_, rfl⟩
  obtain ⟨c3, hc3⟩ : ∃ x, x = clamp 6553600 f3 := ⟨_, rfl⟩
  rw [← hc1, ← hc2, ← hc3]
  have HCB : Hid ((-6553600 ≤ c1 ∧ c1 ≤ 6553600) ∧ (-6553600 ≤ c2 ∧ c2 ≤ 6553600) ∧ (-6553600 ≤ c3 ∧ c3 ≤ 6553600)) := Lib.hid (by rw [hc1, hc2, hc3]; exact ⟨clamp_bd9 (by decide), clamp_bd9 (by decide), clamp_bd9 (by decide)⟩)
  have HCL : Hid (∀ w, Calls Tryz.prog 12 #[.agg #[.int .i64 f1, .int .i64 f2, .int .i64 f3], .int .i64 6553600] w fun e w' => e = .returned (.agg #[.int .i64 c1, .int .i64 c2, .int .i64 c3]) ∧ Below w.heap.size w w') := Lib.hid (fun w => by rw [hc1, hc2, hc3]; exact clampS_c f1 f2 f3 w)
  clear hR hn hok hl hc1 hc2 hc3
  have hmc := more_cell
  have hml := more_lt
  go_enter Tryz.func7, Tryz.ntmps7
  go_upto_region 1 with fail
  refine wp_named ?_
  rintro w1 hw1
  have HX1 : Hid (Blk w1 w.heap.size #[.int .i64 f1, .int .i64 f2, .int .i64 f3]) := Lib.hid (by rw [hw1]; exact (by repeat (with_reducible (first | assumption | (apply Blk.at; simp; done) | apply Blk.alloc | apply Blk.drew | apply Blk.drewN | apply Blk.more | apply Blk.put | (apply Blk.far; focus (first | assumption | (apply Ne.symm; assumption) | (simp; done) | (simp <;> omega)))))))
  have HY1 : Hid (Blk w1 (w.heap.size + 1) #[.int .i64 bo, .int .i64 ru, .int .i64 ro]) := Lib.hid (by rw [hw1]; exact (by repeat (with_reducible (first | assumption | (apply Blk.at; simp; done) | apply Blk.alloc | apply Blk.drew | apply Blk.drewN | apply Blk.more | apply Blk.put | (apply Blk.far; focus (first | assumption | (apply Ne.symm; assumption) | (simp; done) | (simp <;> omega)))))))
  have HV1 : Hid (Below w.heap.size w w1) := Lib.hid (by rw [hw1]; exact (by repeat (with_reducible (first | exact Below.refl _ _ | assumption | apply ext_drew | apply ext_drewN | apply ext_alloc | apply ext_more | (refine ext_setCell ?_ (by first | assumption | (simp <;> omega)) _) | (refine ext_below ?_ (by assumption))))))
  clear hw1
  refine wp_region_any (by kernel_rfl) ?_
  have hS0 : Blk w1.drew w.heap.size #[.int .i64 f1, .int .i64 f2, .int .i64 f3] ∧ Blk w1.drew (w.heap.size + 1) #[.int .i64 bo, .int .i64 ru, .int .i64 ro] := ⟨HX1.out.drew, HY1.out.drew⟩
  refine any_held_tailA (fun w' => Blk w' w.heap.size #[.int .i64 f1, .int .i64 f2, .int .i64 f3] ∧ Blk w' (w.heap.size + 1) #[.int .i64 bo, .int .i64 ru, .int .i64 ro]) 5 (by kernel_rfl) hS0 (fun hHeld => ?_)
  clear hS0
  simp only [List.take_succ_cons, List.take_zero]
  refine wpAnyH_take (i := 0) (v := .agg #[.int .i64 f1, .int .i64 f2, .int .i64 f3]) rfl (by kernel_rfl) (by kernel_rfl) (by kernel_rfl) (fun _ _ _ h => h) (Or.inl ⟨by kernel_rfl, ?ys_0⟩) hHeld ?rs_0
  case ys_0 =>
    intro w hSw
    obtain ⟨⟨zs, cs, fs⟩, _⟩ := hSw
    go_simp
    try with_reducible rfl
  try simp only [Act.put, List.getElem_toArray, List.getElem_cons_zero, List.setIfInBounds_toArray, List.set_cons_zero, List.set_cons_succ]
  refine wpAnyH_take (i := 2) (v := .agg #[.int .i64 bo, .int .i64 ru, .int .i64 ro]) rfl (by kernel_rfl) (by kernel_rfl) (by kernel_rfl) (fun _ _ _ h => h) (Or.inl ⟨by kernel_rfl, ?ys_2⟩) hHeld ?rs_2
  case ys_2 =>
    intro w hSw
    obtain ⟨_, zs, cs, fs⟩ := hSw
    go_simp
    try with_reducible rfl
  try simp only [Act.put, List.getElem_toArray, List.getElem_cons_zero, List.getElem_cons_succ, List.setIfInBounds_toArray, List.set_cons_zero, List.set_cons_succ]
  refine any_freshT ?_ hHeld
  clear hHeld
  rintro w2 hb2 hHeld
  have HV2 : Hid (Below w.heap.size w w2) := Lib.hid (HV1.out.trans (Below.mono (show Below w1.heap.size w1 w2 from (Below.refl _ _).drew.trans hb2) HV1.out.size))
  clear hb2
  refine wpAnyH_ready (rs := [1]) (by kernel_rfl) (by simp) ?_
  refine AllReadyH.cons (o := _) rfl (fun K hK => ?_) AllReadyH.nil
  go_simp
  refine (HCL.out _).mono ?_
  rintro e w3 ⟨rfl, hb3⟩
  try dsimp only
  refine hK.out _ _ ⟨hHeld.1.below hb3, hHeld.2.below hb3⟩ (fun hHeld => ?_)
  clear hK K
  try simp only [Act.put, List.getElem_toArray, List.getElem_cons_zero, List.getElem_cons_succ, List.setIfInBounds_toArray, List.set_cons_zero, List.set_cons_succ]
  have HV3 := Lib.hid (HV2.out.trans (hb3.mono HV2.out.size))
  clear hb3
  refine wpAnyH_take (i := 3) (v := .agg #[.int .i64 c1, .int .i64 c2, .int .i64 c3, .int .i64 bo, .int .i64 ru, .int .i64 ro, .int .i64 60]) rfl (by kernel_rfl) (by kernel_rfl) (by kernel_rfl) (fun _ _ _ h => h) (Or.inl ⟨by kernel_rfl, ?yt_3⟩) hHeld ?rt_3
  case yt_3 =>
    intro w hSw
    go_simp
    try with_reducible rfl
  try simp only [Act.put, List.getElem_toArray, List.getElem_cons_zero, List.getElem_cons_succ, List.setIfInBounds_toArray, List.set_cons_zero, List.set_cons_succ]
  refine wpAnyH_ready (rs := [4]) (by kernel_rfl) (by simp) ?_
  refine AllReadyH.cons (o := _) rfl (fun K hK => ?_) AllReadyH.nil
  go_simp
  refine (newW_c c1 c2 c3 bo ru ro 60 w3 HCB.out (by decide) HL.out).mono ?_
  rintro e w4 ⟨b, t, S, rfl, hb4, hbs, hSb, hblk, hT, hSx⟩
  try dsimp only
  refine hK.out _ _ ⟨hHeld.1.below hb4, hHeld.2.below hb4⟩ (fun hHeld => ?_)
  clear hK K
  try simp only [Act.put, List.getElem_toArray, List.getElem_cons_zero, List.getElem_cons_succ, List.setIfInBounds_toArray, List.set_cons_zero, List.set_cons_succ]
  have hWM : WM w4 b ⟨c1, c2, c3, bo, ru, ro, 60⟩ 0 (fillM L 0) 1 0 0 (fun x => x = b ∨ S x) := by rw [fillM_zero]; exact newWM (c := ⟨c1, c2, c3, bo, ru, ro, 60⟩) hSb hblk hT HL.out
  have HI4 : Hid (FillI w w4 b ⟨c1, c2, c3, bo, ru, ro, 60⟩ L 0) := Lib.hid ⟨HV3.out.trans (hb4.mono HV3.out.size), _, hWM, fun x h => h.elim (fun e => e ▸ Nat.le_trans HV3.out.size hbs) fun h => Nat.le_trans HV3.out.size (hSx x h)⟩
  clear hb4 hbs hSb hblk hT hSx hWM
  refine wpAnyH_done (by kernel_rfl) ?_ _
  clear hHeld
  simp only [TailA]
  refine wpAny_of_held (S := fun _ => True) _ _ _ _ ?_
  have hHeld : True := trivial
  refine wpAnyH_take (i := 5) (v := .tuple #[.pointer (some ⟨b, 0, none⟩), .nilIface]) rfl (by kernel_rfl) (by kernel_rfl) (by kernel_rfl) (fun _ _ _ h => h) (Or.inl ⟨by kernel_rfl, ?yu_5⟩) hHeld ?ru_5
  case yu_5 =>
    intro w hSw
    go_simp
    try with_reducible rfl
  try simp only [Act.put, List.getElem_toArray, List.getElem_cons_zero, List.getElem_cons_succ, List.setIfInBounds_toArray, List.set_cons_zero, List.set_cons_succ]
  refine wpAnyH_take (i := 6) (v := .pointer (some ⟨b, 0, none⟩)) rfl (by kernel_rfl) (by kernel_rfl) (by kernel_rfl) (fun _ _ _ h => h) (Or.inl ⟨by kernel_rfl, ?yu_6⟩) hHeld ?ru_6
  case yu_6 =>
    intro w hSw
    go_simp
    try with_reducible rfl
  try simp only [Act.put, List.getElem_toArray, List.getElem_cons_zero, List.getElem_cons_succ, List.setIfInBounds_toArray, List.set_cons_zero, List.set_cons_succ]
  refine wpAnyH_take (i := 7) (v := .nilIface) rfl (by kernel_rfl) (by kernel_rfl) (by kernel_rfl) (fun _ _ _ h => h) (Or.inl ⟨by kernel_rfl, ?yu_7⟩) hHeld ?ru_7
  case yu_7 =>
    intro w hSw
    go_simp
    try with_reducible rfl
  try simp only [Act.put, List.getElem_toArray, List.getElem_cons_zero, List.getElem_cons_succ, List.setIfInBounds_toArray, List.set_cons_zero, List.set_cons_succ]
  refine wpAnyH_ready (rs := [8]) (by kernel_rfl) (by simp) ?_
  refine AllReadyH.cons (o := _) rfl (fun K hK => ?_) AllReadyH.nil
  go_simp
  refine hK.out _ _ trivial (fun hHeld => ?_)
  clear hK K
  try simp only [Act.put, List.getElem_toArray, List.getElem_cons_zero, List.getElem_cons_succ, List.setIfInBounds_toArray, List.set_cons_zero, List.set_cons_succ]
  refine wpAnyH_ready (rs := [9]) (by kernel_rfl) (by simp) ?_
  refine AllReadyH.cons (o := _) rfl (fun K hK => ?_) AllReadyH.nil
  go_simp
  refine hK.out _ _ trivial (fun hHeld => ?_)
  clear hK K
  try simp only [Act.put, List.getElem_toArray, List.getElem_cons_zero, List.getElem_cons_succ, List.setIfInBounds_toArray, List.set_cons_zero, List.set_cons_succ]
  refine wpAnyH_done (by kernel_rfl) ?_ _
  clear hHeld
  go_wp2
  go_loopg [9] n (fun k v9 wr => ∃ j : Nat, v9 = .int .i64 (j : Int) ∧ j ≤ n ∧ k = n - j ∧ FillI w wr b ⟨c1, c2, c3, bo, ru, ro, 60⟩ L j)
  case atStart => exact ⟨0, rfl, Nat.zero_le _, rfl, HI4.out⟩
  case round =>
    obtain ⟨j, rfl, hj, hk, hB, S', hWM, hS'⟩ := hrel
    have HB := Lib.hid hB
    have HWM := Lib.hid hWM
    have HS' := Lib.hid hS'
    have HK := Lib.hid hk
    clear hB hWM hS' hk
    by_cases hl : j < n
    · have d0 : decide ((j : Int) < (n : Int)) = true := decide_eq_true (by omega)
      have hw1 : wrap64 ((j : Int) + 1) = (j : Int) + 1 := by have := HN.out; unfold wrap64; omega
      obtain ⟨bb, oo, eA, hbb, hcl⟩ := HR.out (by omega)
      subst eA
      have HRG : Hid (wr.rangeAt bb (oo + j * 17) (rowL17 L j)) := Lib.hid (reads_range HB.out hbb hcl hl)
      have HJN := Lib.hid hl
      clear hcl hbb
      go_wp2_with (first | (refine wpList_load_mid rfl 37 (.tmp 36) rfl bb (oo + j * 17) rfl (rowL17 L j) _ HRG.out Tryz.underlying37 rfl bodyInfoW ?_; show wpList _ _ _ _ (Act.put _ _ (rowV L j)) _; rw [rowV_lit]))
      with_reducible refine (spawn_ok wr b ⟨c1, c2, c3, bo, ru, ro, 60⟩ j (fillM L j) ((j : Int) + 1) 0 j S' (L j) HWM.out (HOK.out j HJN.out) (by have := HN.out; have := HJN.out; omega) (.inr (by have := ownsN_le (fillM L j) (L j 1) j; have := HN.out; have := HJN.out; show (_ : Int) < 60; omega)) (by have := HN.out; have := HJN.out; omega) (by have := HN.out; have := HJN.out; omega)).mono ?_
      rintro e w5 ⟨rfl, hm5, S5, hW5, hS5⟩
      have HI5 : Hid (FillI w w5 b ⟨c1, c2, c3, bo, ru, ro, 60⟩ L (j + 1)) := Lib.hid ⟨HB.out.trans (hm5.toBelow HB.out.size fun x hx h => by have := HS'.out x h; omega), S5, by rw [fillM_succ] at hW5; exact hW5, fun x h => (hS5 x h).elim (HS'.out x) fun h => Nat.le_trans HB.out.size h⟩
      clear hm5 hW5 hS5
      go_wp2
      go_roundg (n - (j + 1))
      case measure => have := HK.out; have := HJN.out; omega
      case rel => exact ⟨j + 1, by first | (simp; done) | (simp; exact hw1) | rfl, by have := HJN.out; omega, rfl, HI5.out⟩
    · have d0 : decide ((j : Int) < (n : Int)) = false := decide_eq_false (by omega)
      have ej : j = n := by omega
      rw [ej] at HWM
      clear ej
      go_wp2
      go_ret
      exact ⟨b, S', rfl, HB.out, HWM.out, HS'.out⟩

/-- the body that falls -/
def movedM : Nat → Nat → Int := stepM ⟨0, -5, 0, 0, 0, 1, 0⟩ (stepM ⟨0, -5, 0, 0, 0, 1, 0⟩ (pushR (fun _ _ => 0) 0 (row17 0 0 1 9 0 0 0 0 0 0 0 0 0 0 0 1 0) 1) 1) 1
theorem movedM_is : movedM 0 0 = 1 ∧ movedM 0 7 = -15 ∧ movedM 0 10 = -10 := by decide
set_option maxRecDepth 100000 in
set_option maxHeartbeats 8000000 in
theorem moved_c (w : World) : Calls Tryz.prog 5 #[] w fun e w' => e = .returned (.bool true) ∧ Below w.heap.size w w' := by
  have hl : RightL 0 0 1 := by unfold RightL; decide
  go_enter Tryz.func5, Tryz.ntmps5
  go_wp2_with fail
  refine (newW_c 0 (-5) 0 0 0 1 0 w (by decide) (by decide) hl).mono ?_
  rintro e w4 ⟨b, t, S, rfl, hb4, hbs, hSb, hblk, hT, hSx⟩
  have hWM := newWM (c := ⟨0, -5, 0, 0, 0, 1, 0⟩) hSb hblk hT hl
  have HW := Lib.hid hWM
  have HB := Lib.hid hb4
  have HS : Hid (∀ x, (fun x => x = b ∨ S x) x → w.heap.size ≤ x) := Lib.hid (fun x h => h.elim (fun e => e ▸ hbs) (hSx x))
  clear hb4 hbs hSb hblk hT hSx hWM hl
  go_wp2_with fail
  have hsp := spawn_ok w4 b ⟨0, -5, 0, 0, 0, 1, 0⟩ 0 (fun _ _ => 0) 1 0 0 _ (row17 0 0 1 9 0 0 0 0 0 0 0 0 0 0 0 1 0) HW.out ⟨by decide, by decide, by decide, by decide, by decide, by decide⟩ (by decide) (.inl (by decide)) (by decide) (by decide)
  refine hsp.mono ?_
  clear hsp
  rintro e w5 ⟨rfl, hm5, S5, hW5, hS5⟩
  have HW5 := Lib.hid hW5
  have HB5 := Lib.hid (HB.out.trans (hm5.toBelow HB.out.size fun x hx h => by have := HS.out x h; omega))
  have HS5 : Hid (∀ x, S5 x → w.heap.size ≤ x) := Lib.hid (fun x h => (hS5 x h).elim (HS.out x) fun h => Nat.le_trans HB.out.size h)
  clear hm5 hW5 hS5
  go_wp2_with fail
  refine (step_c w5 b ⟨0, -5, 0, 0, 0, 1, 0⟩ 1 _ _ 0 _ S5 HW5.out (by decide) (by decide)).mono ?_
  rintro e w6 ⟨rfl, hm6, S6, hW6, hS6⟩
  have HW6 := Lib.hid hW6
  have HB6 := Lib.hid (HB5.out.trans (hm6.toBelow HB5.out.size fun x hx h => by have := HS5.out x h; omega))
  have HS6 : Hid (∀ x, S6 x → w.heap.size ≤ x) := Lib.hid (fun x h => (hS6 x h).elim (HS5.out x) fun h => Nat.le_trans HB5.out.size h)
  clear hm6 hW6 hS6
  go_wp2_with fail
  refine (step_c w6 b ⟨0, -5, 0, 0, 0, 1, 0⟩ 1 _ _ _ _ S6 HW6.out (by decide) (by decide)).mono ?_
  rintro e w7 ⟨rfl, hm7, S7, hW7, hS7⟩
  have HW7 := Lib.hid hW7
  have HB7 := Lib.hid (HB6.out.trans (hm7.toBelow HB6.out.size fun x hx h => by have := HS6.out x h; omega))
  clear hm7 hW7 hS7
  go_wp2_with fail
  refine (bodyW_c w7 b _ 1 movedM _ _ _ S7 HW7.out 0 (by decide) movedM_is.1).mono ?_
  rintro e w8 ⟨rfl, hb8⟩
  have h7 := movedM_is.2.1
  have h10 := movedM_is.2.2
  have HB8 := Lib.hid (HB7.out.trans (hb8.mono HB7.out.size))
  clear hb8
  obtain ⟨N, hN⟩ : ∃ N, N = movedM := ⟨_, rfl⟩
  rw [← hN] at h7 h10
  rw [← hN]
  clear hN
  go_upto_region 8 with (refine at_store_blk (b := w8.heap.size) (c' := (rowL17 N 0).toArray) rfl 37 (.tmp 4) (.tmp 34) rfl rfl rfl (Blk.at _ _ _ _ rfl) rfl bodyInfoW (rowL17_one N 0) ?_; intro w9 hp9 hm9)
  have HX9 : Hid (Blk w9 w8.heap.size #[.int .i64 (N 0 0), .int .i64 (N 0 1), .int .i64 (N 0 2), .int .i64 (N 0 3), .int .i64 (N 0 4), .int .i64 (N 0 5), .int .i64 (N 0 6), .int .i64 (N 0 7), .int .i64 (N 0 8), .int .i64 (N 0 9), .int .i64 (N 0 10), .int .i64 (N 0 11), .int .i64 (N 0 12), .int .i64 (N 0 13), .int .i64 (N 0 14), .int .i64 (N 0 15), .int .i64 (N 0 16)]) := Lib.hid hp9
  have HB9 : Hid (Below w.heap.size w w9) := Lib.hid (HB8.out.trans (Below.mono ((below_alloc w8 _).trans (hm9.toBelow (by simp) (fun x h1 (h2 : x = w8.heap.size) => by omega))) HB8.out.size))
  clear hp9 hm9
  obtain ⟨zp, cp, fp⟩ := id HX9.out
  go_wp2
  go_ret
  exact ⟨rfl, HB9.out⟩
end Go.Proofs.YtniahipadfgkbaaGreat
