/- The walk of WireReads. Conditions: none. -/
import Derived.Test.YtnkinnfpebploaaDoorRtold
namespace Go.Proofs.YtnkinnfpebploaaDoor
open Go.ChangeShapes Go.WideShapes Go.ChangeAt Go.RowKit Go.BigFrame
open B
theorem pr_ex (T : List Nat) : ∃ (n1 e1 n2 e2 n3 e3 k e4 n5 e5 n6 e6 n7 e7 n8 e8 : Int) (a1 a2 a3 a4 a5 a6 a7 a8 : Nat), Pr T n1 e1 n2 e2 n3 e3 k e4 n5 e5 n6 e6 n7 e7 n8 e8 a1 a2 a3 a4 a5 a6 a7 a8 :=
  ⟨_, _, _, _, _, _, _, _, _, _, _, _, _, _, _, _, _, _, _, _, _, _, _, _, rfl, rfl, rfl, rfl, rfl, rfl, rfl, rfl⟩
theorem asked_both (v : Value) (l : List Nat) (h8 : ∀ b ∈ l, b < 256) (hl : l.length ≤ 300) : ∃ (c1 c2 c3 c4 c5 c6 c7 c8 x : Int) (xv : Value), errV x = xv ∧
    (∀ w, Src w v l → Calls Tryd.prog 55 #[v] w fun e w' => e = .returned (.tuple #[.agg #[.int .i64 c1, .int .i64 c2, .int .i64 c3, .int .i64 c4, .int .i64 c5, .int .i64 c6, .int .i64 c7, .int .i64 c8], .int .i64 x]) ∧ Below w.heap.size w w') ∧
    (∀ w, Src w v l → Calls Tryd.prog 56 #[v] w fun e w' => e = .returned (.tuple #[.agg #[.int .i64 c1, .int .i64 c2, .int .i64 c3, .int .i64 c4, .int .i64 c5, .int .i64 c6, .int .i64 c7, .int .i64 c8], xv]) ∧ Below w.heap.size w w') := by
  obtain ⟨n1, e1, n2, e2, n3, e3, k, e4, n5, e5, n6, e6, n7, e7, n8, e8, a1, a2, a3, a4, a5, a6, a7, a8, hpr⟩ := pr_ex (openL l)
  by_cases hG : Good l n1 e1 n2 e2 n3 e3 k e4 n5 e5 n6 e6 n7 e7 n8 e8
  · refine ⟨n1, n2, n3, k, cb k n5, cx k n6, cx k n7, cx k n8, 0, .nilIface, rfl, fun w hS => ?_, fun w hS => ?_⟩
    · refine (rasked_c v l n1 e1 n2 e2 n3 e3 k e4 n5 e5 n6 e6 n7 e7 n8 e8 a1 a2 a3 a4 a5 a6 a7 a8 w hS h8 (by omega) hpr).mono fun e w' h => ?_
      rcases h with ⟨_, he, hb⟩ | ⟨hno, _⟩
      · exact ⟨he, hb⟩
      · exact absurd hG hno
    · refine (wasked_c v l n1 e1 n2 e2 n3 e3 k e4 n5 e5 n6 e6 n7 e7 n8 e8 a1 a2 a3 a4 a5 a6 a7 a8 w hS h8 (by omega) hpr).mono fun e w' h => ?_
      rcases h with ⟨_, he, hb⟩ | ⟨hno, _⟩
      · exact ⟨he, hb⟩
      · exact absurd hG hno
  · refine ⟨0, 0, 0, 0, 0, 0, 0, 0, 3, _, rfl, fun w hS => ?_, fun w hS => ?_⟩
    · refine (rasked_c v l n1 e1 n2 e2 n3 e3 k e4 n5 e5 n6 e6 n7 e7 n8 e8 a1 a2 a3 a4 a5 a6 a7 a8 w hS h8 (by omega) hpr).mono fun e w' h => ?_
      rcases h with ⟨hyes, _⟩ | ⟨_, he, hb⟩
      · exact absurd hyes hG
      · exact ⟨he, hb⟩
    · refine (wasked_c v l n1 e1 n2 e2 n3 e3 k e4 n5 e5 n6 e6 n7 e7 n8 e8 a1 a2 a3 a4 a5 a6 a7 a8 w hS h8 (by omega) hpr).mono fun e w' h => ?_
      rcases h with ⟨hyes, _⟩ | ⟨_, he, hb⟩
      · exact absurd hyes hG
      · exact ⟨he, hb⟩
theorem rdb_nil (w : World) : Rdb w (.slice none 0 0) [] := Rdb.of_src (.inl ⟨rfl, rfl⟩)
theorem told_both (v : Value) (l : List Nat) (h8 : ∀ b ∈ l, b < 256) (hl : l.length ≤ 300) : ∃ (t1 t2 t3 t4 x : Int) (B : List Nat) (xv : Value), errV x = xv ∧
    (∀ w, Src w v l → Calls Tryd.prog 57 #[v] w fun e w' => ∃ A c, e = .returned (.tuple #[.agg #[.int .i64 t1, .int .i64 t2, .int .i64 t3, .int .i64 t4, .slice A B.length c], .int .i64 x]) ∧ Rdb w' (.slice A B.length c) B ∧ Below w.heap.size w w') ∧
    (∀ w, Src w v l → Calls Tryd.prog 58 #[v] w fun e w' => ∃ A c, e = .returned (.tuple #[.agg #[.int .i64 t1, .int .i64 t2, .int .i64 t3, .int .i64 t4, .slice A B.length c], xv]) ∧ Rdb w' (.slice A B.length c) B ∧ Below w.heap.size w w') := by
  obtain ⟨n1, n2, n3, n4, n5, e1, e2, e3, e4, e5, a1, a2, a3, a4, a5, hpt⟩ := pt_ex (openL_bin l)
  have hB := byts_len (openL l) a5 n5
  by_cases hG : GoodT l n1 n2 n3 n4 n5 e1 e2 e3 e4 e5 a5
  · refine ⟨n1, n2, n4, n3, 0, byts (openL l) a5 n5, .nilIface, rfl, fun w hS => ?_, fun w hS => ?_⟩
    · refine (rtold_c v l n1 n2 n3 n4 n5 e1 e2 e3 e4 e5 a1 a2 a3 a4 a5 w hS h8 (by omega) hpt).mono fun e w' h => ?_
      rw [hB]
      rcases h with ⟨_, A, c, he, hr, hb⟩ | ⟨hno, _⟩
      · exact ⟨A, c, he, Rdb.of_row hr, hb⟩
      · exact absurd hG hno
    · refine (wtold_c v l n1 n2 n3 n4 n5 e1 e2 e3 e4 e5 a1 a2 a3 a4 a5 w hS h8 (by omega) hpt).mono fun e w' h => ?_
      rw [hB]
      rcases h with ⟨_, A, c, he, hr, hb⟩ | ⟨hno, _⟩
      · exact ⟨A, c, he, Rdb.of_row hr, hb⟩
      · exact absurd hG hno
  · refine ⟨0, 0, 0, 0, 3, [], _, rfl, fun w hS => ?_, fun w hS => ?_⟩
    · refine (rtold_c v l n1 n2 n3 n4 n5 e1 e2 e3 e4 e5 a1 a2 a3 a4 a5 w hS h8 (by omega) hpt).mono fun e w' h => ?_
      rcases h with ⟨hyes, _⟩ | ⟨_, he, hb⟩
      · exact absurd hyes hG
      · exact ⟨none, 0, he, rdb_nil _, hb⟩
    · refine (wtold_c v l n1 n2 n3 n4 n5 e1 e2 e3 e4 e5 a1 a2 a3 a4 a5 w hS h8 (by omega) hpt).mono fun e w' h => ?_
      rcases h with ⟨hyes, _⟩ | ⟨_, he, hb⟩
      · exact absurd hyes hG
      · exact ⟨none, 0, he, rdb_nil _, hb⟩
set_option maxRecDepth 100000 in
set_option maxHeartbeats 4000000 in
theorem wireReads_w (v : Value) (l : List Nat) (w : World) (hH : Handle w) (hS : Src w v l) (h8 : ∀ b ∈ l, b < 256) (hl : l.length ≤ maxLen) :
    Calls Tryd.prog 11 #[v] w fun e w' => e = .returned (.bool true) ∧ Below w.heap.size w w' := by
  obtain ⟨VA, VC, rfl⟩ : ∃ A c, v = .slice A l.length c := by
    rcases hS with ⟨rfl, rfl⟩ | ⟨a, c, rfl, _⟩
    · exact ⟨none, 0, rfl⟩
    · exact ⟨_, c, rfl⟩
  unfold maxLen at hl
  by_cases h3 : 300 < l.length
  · clear hS h8 hH
    go_enter Tryd.func11, Tryd.ntmps11
    go_wp2
    go_ret
    exact ⟨rfl, Below.refl _ _⟩
  · obtain ⟨c1, c2, c3, c4, c5, c6, c7, c8, x, xv, hx, hra, hwa⟩ := asked_both (.slice VA l.length VC) l h8 (by omega)
    obtain ⟨t1, t2, t3, t4, y, B, yv, hy, hrt, hwt⟩ := told_both (.slice VA l.length VC) l h8 (by omega)
    have HRA := Lib.hid hra
    have HWA := Lib.hid hwa
    have HRT := Lib.hid hrt
    have HWT := Lib.hid hwt
    have HX := Lib.hid hx
    have HY := Lib.hid hy
    have HSR : Hid (∀ w', Below w.heap.size w w' → Src w' (.slice VA l.length VC) l) := Lib.hid (fun w' k => hS.below k)
    have HHR : Hid (∀ w', Below w.heap.size w w' → Handle w') := Lib.hid (fun w' k => hH.below k)
    clear hra hwa hrt hwt hx hy hS hH h8 hl
    go_enter Tryd.func11, Tryd.ntmps11
    go_wp2_with fail
    refine (HRA.out _ (HSR.out _ (Below.refl _ _))).mono ?_
    rintro e w1 ⟨rfl, hb1⟩
    go_wp2_with fail
    refine calls_anew ?_
    intro w2 hb2
    have hC1 : Blk w2 w1.heap.size #[.int .i64 c1, .int .i64 c2, .int .i64 c3, .int .i64 c4, .int .i64 c5, .int .i64 c6, .int .i64 c7, .int .i64 c8] := Blk.below (by repeat (with_reducible (first | assumption | (apply Blk.at; simp; done) | apply Blk.alloc | apply Blk.drew | apply Blk.drewN | apply Blk.more | apply Blk.put | (apply Blk.far; focus (first | assumption | (apply Ne.symm; assumption) | (simp; done) | (simp <;> omega)))))) hb2
    have hB2 : Below w.heap.size w w2 := hb1.trans ((show Below w1.heap.size w1 w2 from (by repeat (with_reducible (first | exact Below.refl _ _ | assumption | apply ext_drew | apply ext_drewN | apply ext_alloc | apply ext_more | (refine ext_setCell ?_ (by simp <;> omega) _) | (refine ext_below ?_ (by assumption)))))).mono hb1.size)
    obtain ⟨q1, hq1⟩ : ∃ q, q = w1.heap.size := ⟨_, rfl⟩
    rw [← hq1] at hC1
    rw [← hq1]
    clear hb1 hb2 hq1
    refine (HWA.out _ (HSR.out _ hB2)).mono ?_
    rintro e w3 ⟨rfl, hb3⟩
    have hC13 := hC1.below hb3
    have hB3 := hB2.trans (hb3.mono hB2.size)
    clear hC1 hB2 hb3
    go_wp2_with fail
    refine calls_anew ?_
    intro w4 hb4
    have hC2 : Blk w4 w3.heap.size #[.int .i64 c1, .int .i64 c2, .int .i64 c3, .int .i64 c4, .int .i64 c5, .int .i64 c6, .int .i64 c7, .int .i64 c8] := Blk.below (by repeat (with_reducible (first | assumption | (apply Blk.at; simp; done) | apply Blk.alloc | apply Blk.drew | apply Blk.drewN | apply Blk.more | apply Blk.put | (apply Blk.far; focus (first | assumption | (apply Ne.symm; assumption) | (simp; done) | (simp <;> omega)))))) hb4
    have hq4 : Below w3.heap.size w3 w4 := (by repeat (with_reducible (first | exact Below.refl _ _ | assumption | apply ext_drew | apply ext_drewN | apply ext_alloc | apply ext_more | (refine ext_setCell ?_ (by simp <;> omega) _) | (refine ext_below ?_ (by assumption)))))
    have hC14 := hC13.below hq4
    have hB4 := hB3.trans (hq4.mono hB3.size)
    obtain ⟨q2, hq2⟩ : ∃ q, q = w3.heap.size := ⟨_, rfl⟩
    rw [← hq2] at hC2
    rw [← hq2]
    clear hC13 hB3 hq4 hb4 hq2
    refine (HRT.out _ (HSR.out _ hB4)).mono ?_
    rintro e w5 ⟨A1, d1, rfl, hR1, hb5⟩
    have hC15 := hC14.below hb5
    have hC25 := hC2.below hb5
    have hB5 := hB4.trans (hb5.mono hB4.size)
    clear hC14 hC2 hB4 hb5
    go_wp2_with fail
    refine calls_anew ?_
    intro w6 hb6
    have hC3 : Blk w6 w5.heap.size #[.int .i64 t1, .int .i64 t2, .int .i64 t3, .int .i64 t4, .slice A1 B.length d1] := Blk.below (by repeat (with_reducible (first | assumption | (apply Blk.at; simp; done) | apply Blk.alloc | apply Blk.drew | apply Blk.drewN | apply Blk.more | apply Blk.put | (apply Blk.far; focus (first | assumption | (apply Ne.symm; assumption) | (simp; done) | (simp <;> omega)))))) hb6
    have hq6 : Below w5.heap.size w5 w6 := (by repeat (with_reducible (first | exact Below.refl _ _ | assumption | apply ext_drew | apply ext_drewN | apply ext_alloc | apply ext_more | (refine ext_setCell ?_ (by simp <;> omega) _) | (refine ext_below ?_ (by assumption)))))
    have hC16 := hC15.below hq6
    have hC26 := hC25.below hq6
    have hR16 := hR1.below hq6
    have hB6 := hB5.trans (hq6.mono hB5.size)
    obtain ⟨q3, hq3⟩ : ∃ q, q = w5.heap.size := ⟨_, rfl⟩
    rw [← hq3] at hC3
    rw [← hq3]
    clear hC15 hC25 hR1 hB5 hq6 hb6 hq3
    refine (HWT.out _ (HSR.out _ hB6)).mono ?_
    rintro e w7 ⟨A2, d2, rfl, hR2, hb7⟩
    have hC17 := hC16.below hb7
    have hC27 := hC26.below hb7
    have hC37 := hC3.below hb7
    have hR17 := hR16.below hb7
    have hB7 := hB6.trans (hb7.mono hB6.size)
    clear hC16 hC26 hC3 hR16 hB6 hb7
    go_upto_region 7 with fail
    refine wp_fresh ?_
    intro w8 hb8
    have hC4 : Blk w8 w7.heap.size #[.int .i64 t1, .int .i64 t2, .int .i64 t3, .int .i64 t4, .slice A2 B.length d2] := Blk.below (by repeat (with_reducible (first | assumption | (apply Blk.at; simp; done) | apply Blk.alloc | apply Blk.drew | apply Blk.drewN | apply Blk.more | apply Blk.put | (apply Blk.far; focus (first | assumption | (apply Ne.symm; assumption) | (simp; done) | (simp <;> omega)))))) hb8
    have hq8 : Below w7.heap.size w7 w8 := (by repeat (with_reducible (first | exact Below.refl _ _ | assumption | apply ext_drew | apply ext_drewN | apply ext_alloc | apply ext_more | (refine ext_setCell ?_ (by simp <;> omega) _) | (refine ext_below ?_ (by assumption)))))
    have hC18 := hC17.below hq8
    have hC28 := hC27.below hq8
    have hC38 := hC37.below hq8
    have hR18 := hR17.below hq8
    have hR28 := hR2.below hq8
    have hB8 := hB7.trans (hq8.mono hB7.size)
    obtain ⟨q4, hq4⟩ : ∃ q, q = w7.heap.size := ⟨_, rfl⟩
    rw [← hq4] at hC4
    rw [← hq4]
    clear hC17 hC27 hC37 hR17 hR2 hB7 hq8 hb8 hq4
    have hmc := more_cell
    have hmf := more_frozen
    have hml := more_lt
    have HHM : Hid (∀ m, Handle (more w8 m)) := Lib.hid (fun m => (HHR.out _ hB8).below (more_below _ _))
    have HR1 : Hid (∀ m, Rdb (more w8 m) (.slice A1 B.length d1) B) := Lib.hid (fun m => hR18.below (more_below _ _))
    have HR2 : Hid (∀ m, Rdb (more w8 m) (.slice A2 B.length d2) B) := Lib.hid (fun m => hR28.below (more_below _ _))
    obtain ⟨z1, k1, f1⟩ := id hC18
    obtain ⟨z2, k2, f2⟩ := id hC28
    obtain ⟨z3, k3, f3⟩ := id hC38
    obtain ⟨z4, k4, f4⟩ := id hC4
    clear hR18 hR28
    go_wp2
    refine region_quiet_all (by kernel_rfl) (by kernel_rfl) ?_
    repeat (go_big_quiet_step (first | (go_at_call 16; with_reducible exact calls_after (lbare_eq2 x x xv _ (HHM.out _) HX.out rfl)) | (go_at_call 16; with_reducible exact calls_after (lbare_eq2 y y yv _ (HHM.out _) HY.out rfl)) | (go_at_call 48; with_reducible exact calls_after (command_c c1 c2 c3 c4 c5 c6 c7 c8 _)) | (go_at_call 17; with_reducible exact calls_after (samePiece_c t1 t2 t3 t4 A2 A1 B.length d2 d1 B _ (HR2.out _) (HR1.out _)))))
    refine wpQuiet_nil ?_
    rintro w9 hw9
    have hb9 := after_below hw9
    clear hw9
    go_wp2
    go_ret
    exact ⟨rfl, hB8.trans (hb9.mono hB8.size)⟩
end Go.Proofs.YtnkinnfpebploaaDoor
