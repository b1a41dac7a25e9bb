/- The contract of geom.Touches. Conditions: shapes that may be. -/
import Derived.Test.YtniahipadfgkbaaGreatKT1
import Derived.Test.YtniahipadfgkbaaGreatKH
import Derived.Test.YtniahipadfgkbaaGreatKA
import Derived.Test.YtniahipadfgkbaaGreatKY2
namespace Go.Proofs.YtniahipadfgkbaaGreat
open Go.ChangeShapes Go.WideShapes Go.ChangeAt Go.RowKit Go.BigFrame

set_option maxHeartbeats 2000000 in
theorem ball_c00 (r p1 p2 p3 b1 b2 b3 b4 b5 b6 n1 n2 n3 : Int) (H1 : Hid ((sub (max b1 (min b4 p1)) p1) = n1)) (H2 : Hid ((sub (max b2 (min b5 p2)) p2) = n2)) (H3 : Hid ((sub (max b3 (min b6 p3)) p3) = n3)) (hz : ¬ n1 = 0) (hd : sub r (long n1 n2 n3) ≤ 0) (w : World) : Calls Tryz.prog 57 #[.int .i64 r, .agg #[.int .i64 p1, .int .i64 p2, .int .i64 p3], .agg #[.int .i64 b1, .int .i64 b2, .int .i64 b3, .int .i64 b4, .int .i64 b5, .int .i64 b6]] w fun e w' => e = .returned (.tuple #[.agg #[.int .i64 0, .int .i64 0, .int .i64 0], .int .i64 0, .bool false]) ∧ Below w.heap.size w w' := by
  have hmc := more_cell
  have hmf := more_frozen
  have hml := more_lt
  go_enter Tryz.func57, Tryz.ntmps57
  go_wp2_with fail
  refine wp_fresh ?_
  rintro w1 hb1
  have B1_0 : Blk w1 (w.heap.size) _ := Blk.below (by repeat (with_reducible (first | assumption | (apply Blk.at; simp; done) | apply Blk.alloc | apply Blk.drew | apply Blk.drewN | apply Blk.more | apply Blk.put | (apply Blk.far; focus (first | assumption | (apply Ne.symm; assumption) | (simp; done) | (simp <;> omega)))))) hb1
  obtain ⟨z1_0, c1_0, f1_0⟩ := id B1_0
  have B1_1 : Blk w1 (w.heap.size + 1) _ := Blk.below (by repeat (with_reducible (first | assumption | (apply Blk.at; simp; done) | apply Blk.alloc | apply Blk.drew | apply Blk.drewN | apply Blk.more | apply Blk.put | (apply Blk.far; focus (first | assumption | (apply Ne.symm; assumption) | (simp; done) | (simp <;> omega)))))) hb1
  obtain ⟨z1_1, c1_1, f1_1⟩ := id B1_1
  have B1_2 : Blk w1 (w.heap.size + 1 + 1) _ := Blk.below (by repeat (with_reducible (first | assumption | (apply Blk.at; simp; done) | apply Blk.alloc | apply Blk.drew | apply Blk.drewN | apply Blk.more | apply Blk.put | (apply Blk.far; focus (first | assumption | (apply Ne.symm; assumption) | (simp; done) | (simp <;> omega)))))) hb1
  obtain ⟨z1_2, c1_2, f1_2⟩ := id B1_2
  refine region_grow (A := ?A2) 5 [9] (fun _ => #[.int .i64 0, .int .i64 0, .int .i64 0]) (by kernel_rfl) (by kernel_rfl) ?hrun2 ?hq2 ?htail2
  case hq2 =>
    intro w0 hb0
    simp only [List.take_succ_cons, List.take_zero]
    have B0_0 : Blk w0 _ _ := B1_0.below hb0
    obtain ⟨z0_0, c0_0, f0_0⟩ := id B0_0
    have B0_1 : Blk w0 _ _ := B1_1.below hb0
    obtain ⟨z0_1, c0_1, f0_1⟩ := id B0_1
    have B0_2 : Blk w0 _ _ := B1_2.below hb0
    obtain ⟨z0_2, c0_2, f0_2⟩ := id B0_2
    repeat (go_big_quiet_step ((first | (go_at_call 82; exact calls_after (near_c _ _ _ _ _ _ _ _ _ _)) | (go_at_call 39; exact calls_after (minus_c _ _ _ _ _ _ _)))))
    refine wpQuiet_nil ?_
    rfl
  case hrun2 =>
    intro j hj
    match j, hj with
    | 0, _ => exact ⟨_, _, rfl, fun a w => by simp [go_sem]; rfl⟩
  case htail2 =>
    intro gs w2 hb2 hblk hne
    obtain ⟨G2_0, hg2_0⟩ := hblk 0 (by decide)
    simp only [List.drop_succ_cons, List.drop_zero, List.length_cons, List.length_nil, laySlots]
    clear hblk hne
    generalize gs 0 = g2_0 at *
    have B2_0 : Blk w2 _ _ := B1_0.below hb2
    obtain ⟨z2_0, c2_0, f2_0⟩ := id B2_0
    have B2_1 : Blk w2 _ _ := B1_1.below hb2
    obtain ⟨z2_1, c2_1, f2_1⟩ := id B2_1
    have B2_2 : Blk w2 _ _ := B1_2.below hb2
    obtain ⟨z2_2, c2_2, f2_2⟩ := id B2_2
    obtain ⟨zg2_0, cg2_0, fg2_0⟩ := id G2_0
    have ne2_0_0 : g2_0 ≠ w.heap.size := by omega
    have ne2_0_1 : g2_0 ≠ w.heap.size + 1 := by omega
    have ne2_0_2 : g2_0 ≠ w.heap.size + 1 + 1 := by omega
    simp only [H1.out, H2.out, H3.out]
    go_wp2_with fail
    refine (long_c _ _ _ _).mono ?_
    rintro e w3 ⟨rfl, hb3⟩
    have B3_0 : Blk w3 (w.heap.size) _ := Blk.below (by repeat (with_reducible (first | assumption | (apply Blk.at; simp; done) | apply Blk.alloc | apply Blk.drew | apply Blk.drewN | apply Blk.more | apply Blk.put | (apply Blk.far; focus (first | assumption | (apply Ne.symm; assumption) | (simp; done) | (simp <;> omega)))))) hb3
    obtain ⟨z3_0, c3_0, f3_0⟩ := id B3_0
    have B3_1 : Blk w3 (w.heap.size + 1) _ := Blk.below (by repeat (with_reducible (first | assumption | (apply Blk.at; simp; done) | apply Blk.alloc | apply Blk.drew | apply Blk.drewN | apply Blk.more | apply Blk.put | (apply Blk.far; focus (first | assumption | (apply Ne.symm; assumption) | (simp; done) | (simp <;> omega)))))) hb3
    obtain ⟨z3_1, c3_1, f3_1⟩ := id B3_1
    have B3_2 : Blk w3 (w.heap.size + 1 + 1) _ := Blk.below (by repeat (with_reducible (first | assumption | (apply Blk.at; simp; done) | apply Blk.alloc | apply Blk.drew | apply Blk.drewN | apply Blk.more | apply Blk.put | (apply Blk.far; focus (first | assumption | (apply Ne.symm; assumption) | (simp; done) | (simp <;> omega)))))) hb3
    obtain ⟨z3_2, c3_2, f3_2⟩ := id B3_2
    have B3_3 : Blk w3 (g2_0) _ := Blk.below (by repeat (with_reducible (first | assumption | (apply Blk.at; simp; done) | apply Blk.alloc | apply Blk.drew | apply Blk.drewN | apply Blk.more | apply Blk.put | (apply Blk.far; focus (first | assumption | (apply Ne.symm; assumption) | (simp; done) | (simp <;> omega)))))) hb3
    try simp only [List.setIfInBounds_toArray, List.set_cons_zero, List.set_cons_succ] at B3_3
    obtain ⟨z3_3, c3_3, f3_3⟩ := id B3_3
    go_wp2_with fail
    refine (sub_c _ _ _).mono ?_
    rintro e w' ⟨rfl, rfl⟩
    go_wp2
    exact bodyPost_ret (v := .tuple #[.agg #[.int .i64 0, .int .i64 0, .int .i64 0], .int .i64 0, .bool false]) (by simp [results, Tryz.results57, go_sem, *]) rfl ⟨rfl, (by repeat (with_reducible (first | exact Below.refl _ _ | assumption | apply ext_drew | apply ext_drewN | apply ext_alloc | apply ext_more | (refine ext_setCell ?_ (by simp <;> omega) _) | (refine ext_below ?_ (by assumption)))))⟩

set_option maxHeartbeats 2000000 in
theorem ball_c01 (r p1 p2 p3 b1 b2 b3 b4 b5 b6 n1 n2 n3 : Int) (H1 : Hid ((sub (max b1 (min b4 p1)) p1) = n1)) (H2 : Hid ((sub (max b2 (min b5 p2)) p2) = n2)) (H3 : Hid ((sub (max b3 (min b6 p3)) p3) = n3)) (hz : ¬ n1 = 0) (hd : 0 < sub r (long n1 n2 n3)) (w : World) : Calls Tryz.prog 57 #[.int .i64 r, .agg #[.int .i64 p1, .int .i64 p2, .int .i64 p3], .agg #[.int .i64 b1, .int .i64 b2, .int .i64 b3, .int .i64 b4, .int .i64 b5, .int .i64 b6]] w fun e w' => e = .returned (.tuple #[.agg #[.int .i64 (unit1 n1 n2 n3), .int .i64 (unit2 n1 n2 n3), .int .i64 (unit3 n1 n2 n3)], .int .i64 (sub r (long n1 n2 n3)), .bool true]) ∧ Below w.heap.size w w' := by
  have hmc := more_cell
  have hmf := more_frozen
  have hml := more_lt
  go_enter Tryz.func57, Tryz.ntmps57
  go_wp2_with fail
  refine wp_fresh ?_
  rintro w1 hb1
  have B1_0 : Blk w1 (w.heap.size) _ := Blk.below (by repeat (with_reducible (first | assumption | (apply Blk.at; simp; done) | apply Blk.alloc | apply Blk.drew | apply Blk.drewN | apply Blk.more | apply Blk.put | (apply Blk.far; focus (first | assumption | (apply Ne.symm; assumption) | (simp; done) | (simp <;> omega)))))) hb1
  obtain ⟨z1_0, c1_0, f1_0⟩ := id B1_0
  have B1_1 : Blk w1 (w.heap.size + 1) _ := Blk.below (by repeat (with_reducible (first | assumption | (apply Blk.at; simp; done) | apply Blk.alloc | apply Blk.drew | apply Blk.drewN | apply Blk.more | apply Blk.put | (apply Blk.far; focus (first | assumption | (apply Ne.symm; assumption) | (simp; done) | (simp <;> omega)))))) hb1
  obtain ⟨z1_1, c1_1, f1_1⟩ := id B1_1
  have B1_2 : Blk w1 (w.heap.size + 1 + 1) _ := Blk.below (by repeat (with_reducible (first | assumption | (apply Blk.at; simp; done) | apply Blk.alloc | apply Blk.drew | apply Blk.drewN | apply Blk.more | apply Blk.put | (apply Blk.far; focus (first | assumption | (apply Ne.symm; assumption) | (simp; done) | (simp <;> omega)))))) hb1
  obtain ⟨z1_2, c1_2, f1_2⟩ := id B1_2
  refine region_grow (A := ?A2) 5 [9] (fun _ => #[.int .i64 0, .int .i64 0, .int .i64 0]) (by kernel_rfl) (by kernel_rfl) ?hrun2 ?hq2 ?htail2
  case hq2 =>
    intro w0 hb0
    simp only [List.take_succ_cons, List.take_zero]
    have B0_0 : Blk w0 _ _ := B1_0.below hb0
    obtain ⟨z0_0, c0_0, f0_0⟩ := id B0_0
    have B0_1 : Blk w0 _ _ := B1_1.below hb0
    obtain ⟨z0_1, c0_1, f0_1⟩ := id B0_1
    have B0_2 : Blk w0 _ _ := B1_2.below hb0
    obtain ⟨z0_2, c0_2, f0_2⟩ := id B0_2
    repeat (go_big_quiet_step ((first | (go_at_call 82; exact calls_after (near_c _ _ _ _ _ _ _ _ _ _)) | (go_at_call 39; exact calls_after (minus_c _ _ _ _ _ _ _)))))
    refine wpQuiet_nil ?_
    rfl
  case hrun2 =>
    intro j hj
    match j, hj with
    | 0, _ => exact ⟨_, _, rfl, fun a w => by simp [go_sem]; rfl⟩
  case htail2 =>
    intro gs w2 hb2 hblk hne
    obtain ⟨G2_0, hg2_0⟩ := hblk 0 (by decide)
    simp only [List.drop_succ_cons, List.drop_zero, List.length_cons, List.length_nil, laySlots]
    clear hblk hne
    generalize gs 0 = g2_0 at *
    have B2_0 : Blk w2 _ _ := B1_0.below hb2
    obtain ⟨z2_0, c2_0, f2_0⟩ := id B2_0
    have B2_1 : Blk w2 _ _ := B1_1.below hb2
    obtain ⟨z2_1, c2_1, f2_1⟩ := id B2_1
    have B2_2 : Blk w2 _ _ := B1_2.below hb2
    obtain ⟨z2_2, c2_2, f2_2⟩ := id B2_2
    obtain ⟨zg2_0, cg2_0, fg2_0⟩ := id G2_0
    have ne2_0_0 : g2_0 ≠ w.heap.size := by omega
    have ne2_0_1 : g2_0 ≠ w.heap.size + 1 := by omega
    have ne2_0_2 : g2_0 ≠ w.heap.size + 1 + 1 := by omega
    simp only [H1.out, H2.out, H3.out]
    go_wp2_with fail
    refine (long_c _ _ _ _).mono ?_
    rintro e w3 ⟨rfl, hb3⟩
    have B3_0 : Blk w3 (w.heap.size) _ := Blk.below (by repeat (with_reducible (first | assumption | (apply Blk.at; simp; done) | apply Blk.alloc | apply Blk.drew | apply Blk.drewN | apply Blk.more | apply Blk.put | (apply Blk.far; focus (first | assumption | (apply Ne.symm; assumption) | (simp; done) | (simp <;> omega)))))) hb3
    obtain ⟨z3_0, c3_0, f3_0⟩ := id B3_0
    have B3_1 : Blk w3 (w.heap.size + 1) _ := Blk.below (by repeat (with_reducible (first | assumption | (apply Blk.at; simp; done) | apply Blk.alloc | apply Blk.drew | apply Blk.drewN | apply Blk.more | apply Blk.put | (apply Blk.far; focus (first | assumption | (apply Ne.symm; assumption) | (simp; done) | (simp <;> omega)))))) hb3
    obtain ⟨z3_1, c3_1, f3_1⟩ := id B3_1
    have B3_2 : Blk w3 (w.heap.size + 1 + 1) _ := Blk.below (by repeat (with_reducible (first | assumption | (apply Blk.at; simp; done) | apply Blk.alloc | apply Blk.drew | apply Blk.drewN | apply Blk.more | apply Blk.put | (apply Blk.far; focus (first | assumption | (apply Ne.symm; assumption) | (simp; done) | (simp <;> omega)))))) hb3
    obtain ⟨z3_2, c3_2, f3_2⟩ := id B3_2
    have B3_3 : Blk w3 (g2_0) _ := Blk.below (by repeat (with_reducible (first | assumption | (apply Blk.at; simp; done) | apply Blk.alloc | apply Blk.drew | apply Blk.drewN | apply Blk.more | apply Blk.put | (apply Blk.far; focus (first | assumption | (apply Ne.symm; assumption) | (simp; done) | (simp <;> omega)))))) hb3
    try simp only [List.setIfInBounds_toArray, List.set_cons_zero, List.set_cons_succ] at B3_3
    obtain ⟨z3_3, c3_3, f3_3⟩ := id B3_3
    go_wp2_with fail
    refine (sub_c _ _ _).mono ?_
    rintro e w' ⟨rfl, rfl⟩
    go_wp2_with fail
    refine (unit_c _ _ _ _).mono ?_
    rintro e w4 ⟨rfl, hb4⟩
    have B4_0 : Blk w4 (w.heap.size) _ := Blk.below (by repeat (with_reducible (first | assumption | (apply Blk.at; simp; done) | apply Blk.alloc | apply Blk.drew | apply Blk.drewN | apply Blk.more | apply Blk.put | (apply Blk.far; focus (first | assumption | (apply Ne.symm; assumption) | (simp; done) | (simp <;> omega)))))) hb4
    obtain ⟨z4_0, c4_0, f4_0⟩ := id B4_0
    have B4_1 : Blk w4 (w.heap.size + 1) _ := Blk.below (by repeat (with_reducible (first | assumption | (apply Blk.at; simp; done) | apply Blk.alloc | apply Blk.drew | apply Blk.drewN | apply Blk.more | apply Blk.put | (apply Blk.far; focus (first | assumption | (apply Ne.symm; assumption) | (simp; done) | (simp <;> omega)))))) hb4
    obtain ⟨z4_1, c4_1, f4_1⟩ := id B4_1
    have B4_2 : Blk w4 (w.heap.size + 1 + 1) _ := Blk.below (by repeat (with_reducible (first | assumption | (apply Blk.at; simp; done) | apply Blk.alloc | apply Blk.drew | apply Blk.drewN | apply Blk.more | apply Blk.put | (apply Blk.far; focus (first | assumption | (apply Ne.symm; assumption) | (simp; done) | (simp <;> omega)))))) hb4
    obtain ⟨z4_2, c4_2, f4_2⟩ := id B4_2
    have B4_3 : Blk w4 (g2_0) _ := Blk.below (by repeat (with_reducible (first | assumption | (apply Blk.at; simp; done) | apply Blk.alloc | apply Blk.drew | apply Blk.drewN | apply Blk.more | apply Blk.put | (apply Blk.far; focus (first | assumption | (apply Ne.symm; assumption) | (simp; done) | (simp <;> omega)))))) hb4
    obtain ⟨z4_3, c4_3, f4_3⟩ := id B4_3
    go_wp2
    exact bodyPost_ret (v := .tuple #[.agg #[.int .i64 (unit1 n1 n2 n3), .int .i64 (unit2 n1 n2 n3), .int .i64 (unit3 n1 n2 n3)], .int .i64 (sub r (long n1 n2 n3)), .bool true]) (by simp [results, Tryz.results57, go_sem, *]) rfl ⟨rfl, (by repeat (with_reducible (first | exact Below.refl _ _ | assumption | apply ext_drew | apply ext_drewN | apply ext_alloc | apply ext_more | (refine ext_setCell ?_ (by simp <;> omega) _) | (refine ext_below ?_ (by assumption)))))⟩

set_option maxHeartbeats 2000000 in
theorem ball_c10 (r p1 p2 p3 b1 b2 b3 b4 b5 b6 n2 n3 : Int) (H1 : Hid ((sub (max b1 (min b4 p1)) p1) = 0)) (H2 : Hid ((sub (max b2 (min b5 p2)) p2) = n2)) (H3 : Hid ((sub (max b3 (min b6 p3)) p3) = n3)) (hz : ¬ n2 = 0) (hd : sub r (long 0 n2 n3) ≤ 0) (w : World) : Calls Tryz.prog 57 #[.int .i64 r, .agg #[.int .i64 p1, .int .i64 p2, .int .i64 p3], .agg #[.int .i64 b1, .int .i64 b2, .int .i64 b3, .int .i64 b4, .int .i64 b5, .int .i64 b6]] w fun e w' => e = .returned (.tuple #[.agg #[.int .i64 0, .int .i64 0, .int .i64 0], .int .i64 0, .bool false]) ∧ Below w.heap.size w w' := by
  have hmc := more_cell
  have hmf := more_frozen
  have hml := more_lt
  go_enter Tryz.func57, Tryz.ntmps57
  go_wp2_with fail
  refine wp_fresh ?_
  rintro w1 hb1
  have B1_0 : Blk w1 (w.heap.size) _ := Blk.below (by repeat (with_reducible (first | assumption | (apply Blk.at; simp; done) | apply Blk.alloc | apply Blk.drew | apply Blk.drewN | apply Blk.more | apply Blk.put | (apply Blk.far; focus (first | assumption | (apply Ne.symm; assumption) | (simp; done) | (simp <;> omega)))))) hb1
  obtain ⟨z1_0, c1_0, f1_0⟩ := id B1_0
  have B1_1 : Blk w1 (w.heap.size + 1) _ := Blk.below (by repeat (with_reducible (first | assumption | (apply Blk.at; simp; done) | apply Blk.alloc | apply Blk.drew | apply Blk.drewN | apply Blk.more | apply Blk.put | (apply Blk.far; focus (first | assumption | (apply Ne.symm; assumption) | (simp; done) | (simp <;> omega)))))) hb1
  obtain ⟨z1_1, c1_1, f1_1⟩ := id B1_1
  have B1_2 : Blk w1 (w.heap.size + 1 + 1) _ := Blk.below (by repeat (with_reducible (first | assumption | (apply Blk.at; simp; done) | apply Blk.alloc | apply Blk.drew | apply Blk.drewN | apply Blk.more | apply Blk.put | (apply Blk.far; focus (first | assumption | (apply Ne.symm; assumption) | (simp; done) | (simp <;> omega)))))) hb1
  obtain ⟨z1_2, c1_2, f1_2⟩ := id B1_2
  refine region_grow (A := ?A2) 5 [9] (fun _ => #[.int .i64 0, .int .i64 0, .int .i64 0]) (by kernel_rfl) (by kernel_rfl) ?hrun2 ?hq2 ?htail2
  case hq2 =>
    intro w0 hb0
    simp only [List.take_succ_cons, List.take_zero]
    have B0_0 : Blk w0 _ _ := B1_0.below hb0
    obtain ⟨z0_0, c0_0, f0_0⟩ := id B0_0
    have B0_1 : Blk w0 _ _ := B1_1.below hb0
    obtain ⟨z0_1, c0_1, f0_1⟩ := id B0_1
    have B0_2 : Blk w0 _ _ := B1_2.below hb0
    obtain ⟨z0_2, c0_2, f0_2⟩ := id B0_2
    repeat (go_big_quiet_step ((first | (go_at_call 82; exact calls_after (near_c _ _ _ _ _ _ _ _ _ _)) | (go_at_call 39; exact calls_after (minus_c _ _ _ _ _ _ _)))))
    refine wpQuiet_nil ?_
    rfl
  case hrun2 =>
    intro j hj
    match j, hj with
    | 0, _ => exact ⟨_, _, rfl, fun a w => by simp [go_sem]; rfl⟩
  case htail2 =>
    intro gs w2 hb2 hblk hne
    obtain ⟨G2_0, hg2_0⟩ := hblk 0 (by decide)
    simp only [List.drop_succ_cons, List.drop_zero, List.length_cons, List.length_nil, laySlots]
    clear hblk hne
    generalize gs 0 = g2_0 at *
    have B2_0 : Blk w2 _ _ := B1_0.below hb2
    obtain ⟨z2_0, c2_0, f2_0⟩ := id B2_0
    have B2_1 : Blk w2 _ _ := B1_1.below hb2
    obtain ⟨z2_1, c2_1, f2_1⟩ := id B2_1
    have B2_2 : Blk w2 _ _ := B1_2.below hb2
    obtain ⟨z2_2, c2_2, f2_2⟩ := id B2_2
    obtain ⟨zg2_0, cg2_0, fg2_0⟩ := id G2_0
    have ne2_0_0 : g2_0 ≠ w.heap.size := by omega
    have ne2_0_1 : g2_0 ≠ w.heap.size + 1 := by omega
    have ne2_0_2 : g2_0 ≠ w.heap.size + 1 + 1 := by omega
    simp only [H1.out, H2.out, H3.out]
    go_wp2_with fail
    refine (long_c _ _ _ _).mono ?_
    rintro e w3 ⟨rfl, hb3⟩
    have B3_0 : Blk w3 (w.heap.size) _ := Blk.below (by repeat (with_reducible (first | assumption | (apply Blk.at; simp; done) | apply Blk.alloc | apply Blk.drew | apply Blk.drewN | apply Blk.more | apply Blk.put | (apply Blk.far; focus (first | assumption | (apply Ne.symm; assumption) | (simp; done) | (simp <;> omega)))))) hb3
    obtain ⟨z3_0, c3_0, f3_0⟩ := id B3_0
    have B3_1 : Blk w3 (w.heap.size + 1) _ := Blk.below (by repeat (with_reducible (first | assumption | (apply Blk.at; simp; done) | apply Blk.alloc | apply Blk.drew | apply Blk.drewN | apply Blk.more | apply Blk.put | (apply Blk.far; focus (first | assumption | (apply Ne.symm; assumption) | (simp; done) | (simp <;> omega)))))) hb3
    obtain ⟨z3_1, c3_1, f3_1⟩ := id B3_1
    have B3_2 : Blk w3 (w.heap.size + 1 + 1) _ := Blk.below (by repeat (with_reducible (first | assumption | (apply Blk.at; simp; done) | apply Blk.alloc | apply Blk.drew | apply Blk.drewN | apply Blk.more | apply Blk.put | (apply Blk.far; focus (first | assumption | (apply Ne.symm; assumption) | (simp; done) | (simp <;> omega)))))) hb3
    obtain ⟨z3_2, c3_2, f3_2⟩ := id B3_2
    have B3_3 : Blk w3 (g2_0) _ := Blk.below (by repeat (with_reducible (first | assumption | (apply Blk.at; simp; done) | apply Blk.alloc | apply Blk.drew | apply Blk.drewN | apply Blk.more | apply Blk.put | (apply Blk.far; focus (first | assumption | (apply Ne.symm; assumption) | (simp; done) | (simp <;> omega)))))) hb3
    try simp only [List.setIfInBounds_toArray, List.set_cons_zero, List.set_cons_succ] at B3_3
    obtain ⟨z3_3, c3_3, f3_3⟩ := id B3_3
    go_wp2_with fail
    refine (sub_c _ _ _).mono ?_
    rintro e w' ⟨rfl, rfl⟩
    go_wp2
    exact bodyPost_ret (v := .tuple #[.agg #[.int .i64 0, .int .i64 0, .int .i64 0], .int .i64 0, .bool false]) (by simp [results, Tryz.results57, go_sem, *]) rfl ⟨rfl, (by repeat (with_reducible (first | exact Below.refl _ _ | assumption | apply ext_drew | apply ext_drewN | apply ext_alloc | apply ext_more | (refine ext_setCell ?_ (by simp <;> omega) _) | (refine ext_below ?_ (by assumption)))))⟩

set_option maxHeartbeats 2000000 in
theorem ball_c11 (r p1 p2 p3 b1 b2 b3 b4 b5 b6 n2 n3 : Int) (H1 : Hid ((sub (max b1 (min b4 p1)) p1) = 0)) (H2 : Hid ((sub (max b2 (min b5 p2)) p2) = n2)) (H3 : Hid ((sub (max b3 (min b6 p3)) p3) = n3)) (hz : ¬ n2 = 0) (hd : 0 < sub r (long 0 n2 n3)) (w : World) : Calls Tryz.prog 57 #[.int .i64 r, .agg #[.int .i64 p1, .int .i64 p2, .int .i64 p3], .agg #[.int .i64 b1, .int .i64 b2, .int .i64 b3, .int .i64 b4, .int .i64 b5, .int .i64 b6]] w fun e w' => e = .returned (.tuple #[.agg #[.int .i64 (unit1 0 n2 n3), .int .i64 (unit2 0 n2 n3), .int .i64 (unit3 0 n2 n3)], .int .i64 (sub r (long 0 n2 n3)), .bool true]) ∧ Below w.heap.size w w' := by
  have hmc := more_cell
  have hmf := more_frozen
  have hml := more_lt
  go_enter Tryz.func57, Tryz.ntmps57
  go_wp2_with fail
  refine wp_fresh ?_
  rintro w1 hb1
  have B1_0 : Blk w1 (w.heap.size) _ := Blk.below (by repeat (with_reducible (first | assumption | (apply Blk.at; simp; done) | apply Blk.alloc | apply Blk.drew | apply Blk.drewN | apply Blk.more | apply Blk.put | (apply Blk.far; focus (first | assumption | (apply Ne.symm; assumption) | (simp; done) | (simp <;> omega)))))) hb1
  obtain ⟨z1_0, c1_0, f1_0⟩ := id B1_0
  have B1_1 : Blk w1 (w.heap.size + 1) _ := Blk.below (by repeat (with_reducible (first | assumption | (apply Blk.at; simp; done) | apply Blk.alloc | apply Blk.drew | apply Blk.drewN | apply Blk.more | apply Blk.put | (apply Blk.far; focus (first | assumption | (apply Ne.symm; assumption) | (simp; done) | (simp <;> omega)))))) hb1
  obtain ⟨z1_1, c1_1, f1_1⟩ := id B1_1
  have B1_2 : Blk w1 (w.heap.size + 1 + 1) _ := Blk.below (by repeat (with_reducible (first | assumption | (apply Blk.at; simp; done) | apply Blk.alloc | apply Blk.drew | apply Blk.drewN | apply Blk.more | apply Blk.put | (apply Blk.far; focus (first | assumption | (apply Ne.symm; assumption) | (simp; done) | (simp <;> omega)))))) hb1
  obtain ⟨z1_2, c1_2, f1_2⟩ := id B1_2
  refine region_grow (A := ?A2) 5 [9] (fun _ => #[.int .i64 0, .int .i64 0, .int .i64 0]) (by kernel_rfl) (by kernel_rfl) ?hrun2 ?hq2 ?htail2
  case hq2 =>
    intro w0 hb0
    simp only [List.take_succ_cons, List.take_zero]
    have B0_0 : Blk w0 _ _ := B1_0.below hb0
    obtain ⟨z0_0, c0_0, f0_0⟩ := id B0_0
    have B0_1 : Blk w0 _ _ := B1_1.below hb0
    obtain ⟨z0_1, c0_1, f0_1⟩ := id B0_1
    have B0_2 : Blk w0 _ _ := B1_2.below hb0
    obtain ⟨z0_2, c0_2, f0_2⟩ := id B0_2
    repeat (go_big_quiet_step ((first | (go_at_call 82; exact calls_after (near_c _ _ _ _ _ _ _ _ _ _)) | (go_at_call 39; exact calls_after (minus_c _ _ _ _ _ _ _)))))
    refine wpQuiet_nil ?_
    rfl
  case hrun2 =>
    intro j hj
    match j, hj with
    | 0, _ => exact ⟨_, _, rfl, fun a w => by simp [go_sem]; rfl⟩
  case htail2 =>
    intro gs w2 hb2 hblk hne
    obtain ⟨G2_0, hg2_0⟩ := hblk 0 (by decide)
    simp only [List.drop_succ_cons, List.drop_zero, List.length_cons, List.length_nil, laySlots]
    clear hblk hne
    generalize gs 0 = g2_0 at *
    have B2_0 : Blk w2 _ _ := B1_0.below hb2
    obtain ⟨z2_0, c2_0, f2_0⟩ := id B2_0
    have B2_1 : Blk w2 _ _ := B1_1.below hb2
    obtain ⟨z2_1, c2_1, f2_1⟩ := id B2_1
    have B2_2 : Blk w2 _ _ := B1_2.below hb2
    obtain ⟨z2_2, c2_2, f2_2⟩ := id B2_2
    obtain ⟨zg2_0, cg2_0, fg2_0⟩ := id G2_0
    have ne2_0_0 : g2_0 ≠ w.heap.size := by omega
    have ne2_0_1 : g2_0 ≠ w.heap.size + 1 := by omega
    have ne2_0_2 : g2_0 ≠ w.heap.size + 1 + 1 := by omega
    simp only [H1.out, H2.out, H3.out]
    go_wp2_with fail
    refine (long_c _ _ _ _).mono ?_
    rintro e w3 ⟨rfl, hb3⟩
    have B3_0 : Blk w3 (w.heap.size) _ := Blk.below (by repeat (with_reducible (first | assumption | (apply Blk.at; simp; done) | apply Blk.alloc | apply Blk.drew | apply Blk.drewN | apply Blk.more | apply Blk.put | (apply Blk.far; focus (first | assumption | (apply Ne.symm; assumption) | (simp; done) | (simp <;> omega)))))) hb3
    obtain ⟨z3_0, c3_0, f3_0⟩ := id B3_0
    have B3_1 : Blk w3 (w.heap.size + 1) _ := Blk.below (by repeat (with_reducible (first | assumption | (apply Blk.at; simp; done) | apply Blk.alloc | apply Blk.drew | apply Blk.drewN | apply Blk.more | apply Blk.put | (apply Blk.far; focus (first | assumption | (apply Ne.symm; assumption) | (simp; done) | (simp <;> omega)))))) hb3
    obtain ⟨z3_1, c3_1, f3_1⟩ := id B3_1
    have B3_2 : Blk w3 (w.heap.size + 1 + 1) _ := Blk.below (by repeat (with_reducible (first | assumption | (apply Blk.at; simp; done) | apply Blk.alloc | apply Blk.drew | apply Blk.drewN | apply Blk.more | apply Blk.put | (apply Blk.far; focus (first | assumption | (apply Ne.symm; assumption) | (simp; done) | (simp <;> omega)))))) hb3
    obtain ⟨z3_2, c3_2, f3_2⟩ := id B3_2
    have B3_3 : Blk w3 (g2_0) _ := Blk.below (by repeat (with_reducible (first | assumption | (apply Blk.at; simp; done) | apply Blk.alloc | apply Blk.drew | apply Blk.drewN | apply Blk.more | apply Blk.put | (apply Blk.far; focus (first | assumption | (apply Ne.symm; assumption) | (simp; done) | (simp <;> omega)))))) hb3
    try simp only [List.setIfInBounds_toArray, List.set_cons_zero, List.set_cons_succ] at B3_3
    obtain ⟨z3_3, c3_3, f3_3⟩ := id B3_3
    go_wp2_with fail
    refine (sub_c _ _ _).mono ?_
    rintro e w' ⟨rfl, rfl⟩
    go_wp2_with fail
    refine (unit_c _ _ _ _).mono ?_
    rintro e w4 ⟨rfl, hb4⟩
    have B4_0 : Blk w4 (w.heap.size) _ := Blk.below (by repeat (with_reducible (first | assumption | (apply Blk.at; simp; done) | apply Blk.alloc | apply Blk.drew | apply Blk.drewN | apply Blk.more | apply Blk.put | (apply Blk.far; focus (first | assumption | (apply Ne.symm; assumption) | (simp; done) | (simp <;> omega)))))) hb4
    obtain ⟨z4_0, c4_0, f4_0⟩ := id B4_0
    have B4_1 : Blk w4 (w.heap.size + 1) _ := Blk.below (by repeat (with_reducible (first | assumption | (apply Blk.at; simp; done) | apply Blk.alloc | apply Blk.drew | apply Blk.drewN | apply Blk.more | apply Blk.put | (apply Blk.far; focus (first | assumption | (apply Ne.symm; assumption) | (simp; done) | (simp <;> omega)))))) hb4
    obtain ⟨z4_1, c4_1, f4_1⟩ := id B4_1
    have B4_2 : Blk w4 (w.heap.size + 1 + 1) _ := Blk.below (by repeat (with_reducible (first | assumption | (apply Blk.at; simp; done) | apply Blk.alloc | apply Blk.drew | apply Blk.drewN | apply Blk.more | apply Blk.put | (apply Blk.far; focus (first | assumption | (apply Ne.symm; assumption) | (simp; done) | (simp <;> omega)))))) hb4
    obtain ⟨z4_2, c4_2, f4_2⟩ := id B4_2
    have B4_3 : Blk w4 (g2_0) _ := Blk.below (by repeat (with_reducible (first | assumption | (apply Blk.at; simp; done) | apply Blk.alloc | apply Blk.drew | apply Blk.drewN | apply Blk.more | apply Blk.put | (apply Blk.far; focus (first | assumption | (apply Ne.symm; assumption) | (simp; done) | (simp <;> omega)))))) hb4
    obtain ⟨z4_3, c4_3, f4_3⟩ := id B4_3
    go_wp2
    exact bodyPost_ret (v := .tuple #[.agg #[.int .i64 (unit1 0 n2 n3), .int .i64 (unit2 0 n2 n3), .int .i64 (unit3 0 n2 n3)], .int .i64 (sub r (long 0 n2 n3)), .bool true]) (by simp [results, Tryz.results57, go_sem, *]) rfl ⟨rfl, (by repeat (with_reducible (first | exact Below.refl _ _ | assumption | apply ext_drew | apply ext_drewN | apply ext_alloc | apply ext_more | (refine ext_setCell ?_ (by simp <;> omega) _) | (refine ext_below ?_ (by assumption)))))⟩

set_option maxHeartbeats 2000000 in
theorem ball_c20 (r p1 p2 p3 b1 b2 b3 b4 b5 b6 n3 : Int) (H1 : Hid ((sub (max b1 (min b4 p1)) p1) = 0)) (H2 : Hid ((sub (max b2 (min b5 p2)) p2) = 0)) (H3 : Hid ((sub (max b3 (min b6 p3)) p3) = n3)) (hz : ¬ n3 = 0) (hd : sub r (long 0 0 n3) ≤ 0) (w : World) : Calls Tryz.prog 57 #[.int .i64 r, .agg #[.int .i64 p1, .int .i64 p2, .int .i64 p3], .agg #[.int .i64 b1, .int .i64 b2, .int .i64 b3, .int .i64 b4, .int .i64 b5, .int .i64 b6]] w fun e w' => e = .returned (.tuple #[.agg #[.int .i64 0, .int .i64 0, .int .i64 0], .int .i64 0, .bool false]) ∧ Below w.heap.size w w' := by
  have hmc := more_cell
  have hmf := more_frozen
  have hml := more_lt
  go_enter Tryz.func57, Tryz.ntmps57
  go_wp2_with fail
  refine wp_fresh ?_
  rintro w1 hb1
  have B1_0 : Blk w1 (w.heap.size) _ := Blk.below (by repeat (with_reducible (first | assumption | (apply Blk.at; simp; done) | apply Blk.alloc | apply Blk.drew | apply Blk.drewN | apply Blk.more | apply Blk.put | (apply Blk.far; focus (first | assumption | (apply Ne.symm; assumption) | (simp; done) | (simp <;> omega)))))) hb1
  obtain ⟨z1_0, c1_0, f1_0⟩ := id B1_0
  have B1_1 : Blk w1 (w.heap.size + 1) _ := Blk.below (by repeat (with_reducible (first | assumption | (apply Blk.at; simp; done) | apply Blk.alloc | apply Blk.drew | apply Blk.drewN | apply Blk.more | apply Blk.put | (apply Blk.far; focus (first | assumption | (apply Ne.symm; assumption) | (simp; done) | (simp <;> omega)))))) hb1
  obtain ⟨z1_1, c1_1, f1_1⟩ := id B1_1
  have B1_2 : Blk w1 (w.heap.size + 1 + 1) _ := Blk.below (by repeat (with_reducible (first | assumption | (apply Blk.at; simp; done) | apply Blk.alloc | apply Blk.drew | apply Blk.drewN | apply Blk.more | apply Blk.put | (apply Blk.far; focus (first | assumption | (apply Ne.symm; assumption) | (simp; done) | (simp <;> omega)))))) hb1
  obtain ⟨z1_2, c1_2, f1_2⟩ := id B1_2
  refine region_grow (A := ?A2) 5 [9] (fun _ => #[.int .i64 0, .int .i64 0, .int .i64 0]) (by kernel_rfl) (by kernel_rfl) ?hrun2 ?hq2 ?htail2
  case hq2 =>
    intro w0 hb0
    simp only [List.take_succ_cons, List.take_zero]
    have B0_0 : Blk w0 _ _ := B1_0.below hb0
    obtain ⟨z0_0, c0_0, f0_0⟩ := id B0_0
    have B0_1 : Blk w0 _ _ := B1_1.below hb0
    obtain ⟨z0_1, c0_1, f0_1⟩ := id B0_1
    have B0_2 : Blk w0 _ _ := B1_2.below hb0
    obtain ⟨z0_2, c0_2, f0_2⟩ := id B0_2
    repeat (go_big_quiet_step ((first | (go_at_call 82; exact calls_after (near_c _ _ _ _ _ _ _ _ _ _)) | (go_at_call 39; exact calls_after (minus_c _ _ _ _ _ _ _)))))
    refine wpQuiet_nil ?_
    rfl
  case hrun2 =>
    intro j hj
    match j, hj with
    | 0, _ => exact ⟨_, _, rfl, fun a w => by simp [go_sem]; rfl⟩
  case htail2 =>
    intro gs w2 hb2 hblk hne
    obtain ⟨G2_0, hg2_0⟩ := hblk 0 (by decide)
    simp only [List.drop_succ_cons, List.drop_zero, List.length_cons, List.length_nil, laySlots]
    clear hblk hne
    generalize gs 0 = g2_0 at *
    have B2_0 : Blk w2 _ _ := B1_0.below hb2
    obtain ⟨z2_0, c2_0, f2_0⟩ := id B2_0
    have B2_1 : Blk w2 _ _ := B1_1.below hb2
    obtain ⟨z2_1, c2_1, f2_1⟩ := id B2_1
    have B2_2 : Blk w2 _ _ := B1_2.below hb2
    obtain ⟨z2_2, c2_2, f2_2⟩ := id B2_2
    obtain ⟨zg2_0, cg2_0, fg2_0⟩ := id G2_0
    have ne2_0_0 : g2_0 ≠ w.heap.size := by omega
    have ne2_0_1 : g2_0 ≠ w.heap.size + 1 := by omega
    have ne2_0_2 : g2_0 ≠ w.heap.size + 1 + 1 := by omega
    simp only [H1.out, H2.out, H3.out]
    go_wp2_with fail
    refine (long_c _ _ _ _).mono ?_
    rintro e w3 ⟨rfl, hb3⟩
    have B3_0 : Blk w3 (w.heap.size) _ := Blk.below (by repeat (with_reducible (first | assumption | (apply Blk.at; simp; done) | apply Blk.alloc | apply Blk.drew | apply Blk.drewN | apply Blk.more | apply Blk.put | (apply Blk.far; focus (first | assumption | (apply Ne.symm; assumption) | (simp; done) | (simp <;> omega)))))) hb3
    obtain ⟨z3_0, c3_0, f3_0⟩ := id B3_0
    have B3_1 : Blk w3 (w.heap.size + 1) _ := Blk.below (by repeat (with_reducible (first | assumption | (apply Blk.at; simp; done) | apply Blk.alloc | apply Blk.drew | apply Blk.drewN | apply Blk.more | apply Blk.put | (apply Blk.far; focus (first | assumption | (apply Ne.symm; assumption) | (simp; done) | (simp <;> omega)))))) hb3
    obtain ⟨z3_1, c3_1, f3_1⟩ := id B3_1
    have B3_2 : Blk w3 (w.heap.size + 1 + 1) _ := Blk.below (by repeat (with_reducible (first | assumption | (apply Blk.at; simp; done) | apply Blk.alloc | apply Blk.drew | apply Blk.drewN | apply Blk.more | apply Blk.put | (apply Blk.far; focus (first | assumption | (apply Ne.symm; assumption) | (simp; done) | (simp <;> omega)))))) hb3
    obtain ⟨z3_2, c3_2, f3_2⟩ := id B3_2
    have B3_3 : Blk w3 (g2_0) _ := Blk.below (by repeat (with_reducible (first | assumption | (apply Blk.at; simp; done) | apply Blk.alloc | apply Blk.drew | apply Blk.drewN | apply Blk.more | apply Blk.put | (apply Blk.far; focus (first | assumption | (apply Ne.symm; assumption) | (simp; done) | (simp <;> omega)))))) hb3
    try simp only [List.setIfInBounds_toArray, List.set_cons_zero, List.set_cons_succ] at B3_3
    obtain ⟨z3_3, c3_3, f3_3⟩ := id B3_3
    go_wp2_with fail
    refine (sub_c _ _ _).mono ?_
    rintro e w' ⟨rfl, rfl⟩
    go_wp2
    exact bodyPost_ret (v := .tuple #[.agg #[.int .i64 0, .int .i64 0, .int .i64 0], .int .i64 0, .bool false]) (by simp [results, Tryz.results57, go_sem, *]) rfl ⟨rfl, (by repeat (with_reducible (first | exact Below.refl _ _ | assumption | apply ext_drew | apply ext_drewN | apply ext_alloc | apply ext_more | (refine ext_setCell ?_ (by simp <;> omega) _) | (refine ext_below ?_ (by assumption)))))⟩

set_option maxHeartbeats 2000000 in
theorem ball_c21 (r p1 p2 p3 b1 b2 b3 b4 b5 b6 n3 : Int) (H1 : Hid ((sub (max b1 (min b4 p1)) p1) = 0)) (H2 : Hid ((sub (max b2 (min b5 p2)) p2) = 0)) (H3 : Hid ((sub (max b3 (min b6 p3)) p3) = n3)) (hz : ¬ n3 = 0) (hd : 0 < sub r (long 0 0 n3)) (w : World) : Calls Tryz.prog 57 #[.int .i64 r, .agg #[.int .i64 p1, .int .i64 p2, .int .i64 p3], .agg #[.int .i64 b1, .int .i64 b2, .int .i64 b3, .int .i64 b4, .int .i64 b5, .int .i64 b6]] w fun e w' => e = .returned (.tuple #[.agg #[.int .i64 (unit1 0 0 n3), .int .i64 (unit2 0 0 n3), .int .i64 (unit3 0 0 n3)], .int .i64 (sub r (long 0 0 n3)), .bool true]) ∧ Below w.heap.size w w' := by
  have hmc := more_cell
  have hmf := more_frozen
  have hml := more_lt
  go_enter Tryz.func57, Tryz.ntmps57
  go_wp2_with fail
  refine wp_fresh ?_
  rintro w1 hb1
  have B1_0 : Blk w1 (w.heap.size) _ := Blk.below (by repeat (with_reducible (first | assumption | (apply Blk.at; simp; done) | apply Blk.alloc | apply Blk.drew | apply Blk.drewN | apply Blk.more | apply Blk.put | (apply Blk.far; focus (first | assumption | (apply Ne.symm; assumption) | (simp; done) | (simp <;> omega)))))) hb1
  obtain ⟨z1_0, c1_0, f1_0⟩ := id B1_0
  have B1_1 : Blk w1 (w.heap.size + 1) _ := Blk.below (by repeat (with_reducible (first | assumption | (apply Blk.at; simp; done) | apply Blk.alloc | apply Blk.drew | apply Blk.drewN | apply Blk.more | apply Blk.put | (apply Blk.far; focus (first | assumption | (apply Ne.symm; assumption) | (simp; done) | (simp <;> omega)))))) hb1
  obtain ⟨z1_1, c1_1, f1_1⟩ := id B1_1
  have B1_2 : Blk w1 (w.heap.size + 1 + 1) _ := Blk.below (by repeat (with_reducible (first | assumption | (apply Blk.at; simp; done) | apply Blk.alloc | apply Blk.drew | apply Blk.drewN | apply Blk.more | apply Blk.put | (apply Blk.far; focus (first | assumption | (apply Ne.symm; assumption) | (simp; done) | (simp <;> omega)))))) hb1
  obtain ⟨z1_2, c1_2, f1_2⟩ := id B1_2
  refine region_grow (A := ?A2) 5 [9] (fun _ => #[.int .i64 0, .int .i64 0, .int .i64 0]) (by kernel_rfl) (by kernel_rfl) ?hrun2 ?hq2 ?htail2
  case hq2 =>
    intro w0 hb0
    simp only [List.take_succ_cons, List.take_zero]
    have B0_0 : Blk w0 _ _ := B1_0.below hb0
    obtain ⟨z0_0, c0_0, f0_0⟩ := id B0_0
    have B0_1 : Blk w0 _ _ := B1_1.below hb0
    obtain ⟨z0_1, c0_1, f0_1⟩ := id B0_1
    have B0_2 : Blk w0 _ _ := B1_2.below hb0
    obtain ⟨z0_2, c0_2, f0_2⟩ := id B0_2
    repeat (go_big_quiet_step ((first | (go_at_call 82; exact calls_after (near_c _ _ _ _ _ _ _ _ _ _)) | (go_at_call 39; exact calls_after (minus_c _ _ _ _ _ _ _)))))
    refine wpQuiet_nil ?_
    rfl
  case hrun2 =>
    intro j hj
    match j, hj with
    | 0, _ => exact ⟨_, _, rfl, fun a w => by simp [go_sem]; rfl⟩
  case htail2 =>
    intro gs w2 hb2 hblk hne
    obtain ⟨G2_0, hg2_0⟩ := hblk 0 (by decide)
    simp only [List.drop_succ_cons, List.drop_zero, List.length_cons, List.length_nil, laySlots]
    clear hblk hne
    generalize gs 0 = g2_0 at *
    have B2_0 : Blk w2 _ _ := B1_0.below hb2
    obtain ⟨z2_0, c2_0, f2_0⟩ := id B2_0
    have B2_1 : Blk w2 _ _ := B1_1.below hb2
    obtain ⟨z2_1, c2_1, f2_1⟩ := id B2_1
    have B2_2 : Blk w2 _ _ := B1_2.below hb2
    obtain ⟨z2_2, c2_2, f2_2⟩ := id B2_2
    obtain ⟨zg2_0, cg2_0, fg2_0⟩ := id G2_0
    have ne2_0_0 : g2_0 ≠ w.heap.size := by omega
    have ne2_0_1 : g2_0 ≠ w.heap.size + 1 := by omega
    have ne2_0_2 : g2_0 ≠ w.heap.size + 1 + 1 := by omega
    simp only [H1.out, H2.out, H3.out]
    go_wp2_with fail
    refine (long_c _ _ _ _).mono ?_
    rintro e w3 ⟨rfl, hb3⟩
    have B3_0 : Blk w3 (w.heap.size) _ := Blk.below (by repeat (with_reducible (first | assumption | (apply Blk.at; simp; done) | apply Blk.alloc | apply Blk.drew | apply Blk.drewN | apply Blk.more | apply Blk.put | (apply Blk.far; focus (first | assumption | (apply Ne.symm; assumption) | (simp; done) | (simp <;> omega)))))) hb3
    obtain ⟨z3_0, c3_0, f3_0⟩ := id B3_0
    have B3_1 : Blk w3 (w.heap.size + 1) _ := Blk.below (by repeat (with_reducible (first | assumption | (apply Blk.at; simp; done) | apply Blk.alloc | apply Blk.drew | apply Blk.drewN | apply Blk.more | apply Blk.put | (apply Blk.far; focus (first | assumption | (apply Ne.symm; assumption) | (simp; done) | (simp <;> omega)))))) hb3
    obtain ⟨z3_1, c3_1, f3_1⟩ := id B3_1
    have B3_2 : Blk w3 (w.heap.size + 1 + 1) _ := Blk.below (by repeat (with_reducible (first | assumption | (apply Blk.at; simp; done) | apply Blk.alloc | apply Blk.drew | apply Blk.drewN | apply Blk.more | apply Blk.put | (apply Blk.far; focus (first | assumption | (apply Ne.symm; assumption) | (simp; done) | (simp <;> omega)))))) hb3
    obtain ⟨z3_2, c3_2, f3_2⟩ := id B3_2
    have B3_3 : Blk w3 (g2_0) _ := Blk.below (by repeat (with_reducible (first | assumption | (apply Blk.at; simp; done) | apply Blk.alloc | apply Blk.drew | apply Blk.drewN | apply Blk.more | apply Blk.put | (apply Blk.far; focus (first | assumption | (apply Ne.symm; assumption) | (simp; done) | (simp <;> omega)))))) hb3
    try simp only [List.setIfInBounds_toArray, List.set_cons_zero, List.set_cons_succ] at B3_3
    obtain ⟨z3_3, c3_3, f3_3⟩ := id B3_3
    go_wp2_with fail
    refine (sub_c _ _ _).mono ?_
    rintro e w' ⟨rfl, rfl⟩
    go_wp2_with fail
    refine (unit_c _ _ _ _).mono ?_
    rintro e w4 ⟨rfl, hb4⟩
    have B4_0 : Blk w4 (w.heap.size) _ := Blk.below (by repeat (with_reducible (first | assumption | (apply Blk.at; simp; done) | apply Blk.alloc | apply Blk.drew | apply Blk.drewN | apply Blk.more | apply Blk.put | (apply Blk.far; focus (first | assumption | (apply Ne.symm; assumption) | (simp; done) | (simp <;> omega)))))) hb4
    obtain ⟨z4_0, c4_0, f4_0⟩ := id B4_0
    have B4_1 : Blk w4 (w.heap.size + 1) _ := Blk.below (by repeat (with_reducible (first | assumption | (apply Blk.at; simp; done) | apply Blk.alloc | apply Blk.drew | apply Blk.drewN | apply Blk.more | apply Blk.put | (apply Blk.far; focus (first | assumption | (apply Ne.symm; assumption) | (simp; done) | (simp <;> omega)))))) hb4
    obtain ⟨z4_1, c4_1, f4_1⟩ := id B4_1
    have B4_2 : Blk w4 (w.heap.size + 1 + 1) _ := Blk.below (by repeat (with_reducible (first | assumption | (apply Blk.at; simp; done) | apply Blk.alloc | apply Blk.drew | apply Blk.drewN | apply Blk.more | apply Blk.put | (apply Blk.far; focus (first | assumption | (apply Ne.symm; assumption) | (simp; done) | (simp <;> omega)))))) hb4
    obtain ⟨z4_2, c4_2, f4_2⟩ := id B4_2
    have B4_3 : Blk w4 (g2_0) _ := Blk.below (by repeat (with_reducible (first | assumption | (apply Blk.at; simp; done) | apply Blk.alloc | apply Blk.drew | apply Blk.drewN | apply Blk.more | apply Blk.put | (apply Blk.far; focus (first | assumption | (apply Ne.symm; assumption) | (simp; done) | (simp <;> omega)))))) hb4
    obtain ⟨z4_3, c4_3, f4_3⟩ := id B4_3
    go_wp2
    exact bodyPost_ret (v := .tuple #[.agg #[.int .i64 (unit1 0 0 n3), .int .i64 (unit2 0 0 n3), .int .i64 (unit3 0 0 n3)], .int .i64 (sub r (long 0 0 n3)), .bool true]) (by simp [results, Tryz.results57, go_sem, *]) rfl ⟨rfl, (by repeat (with_reducible (first | exact Below.refl _ _ | assumption | apply ext_drew | apply ext_drewN | apply ext_alloc | apply ext_more | (refine ext_setCell ?_ (by simp <;> omega) _) | (refine ext_below ?_ (by assumption)))))⟩

set_option maxHeartbeats 2000000 in
theorem ball_c3 (r p1 p2 p3 b1 b2 b3 b4 b5 b6  : Int) (H1 : Hid ((sub (max b1 (min b4 p1)) p1) = 0)) (H2 : Hid ((sub (max b2 (min b5 p2)) p2) = 0)) (H3 : Hid ((sub (max b3 (min b6 p3)) p3) = 0))  (w : World) : Calls Tryz.prog 57 #[.int .i64 r, .agg #[.int .i64 p1, .int .i64 p2, .int .i64 p3], .agg #[.int .i64 b1, .int .i64 b2, .int .i64 b3, .int .i64 b4, .int .i64 b5, .int .i64 b6]] w fun e w' => e = .returned (.tuple #[.agg #[.int .i64 (outT p1 p2 p3 p1 p2 p3 b1 b2 b3 b4 b5 b6).1, .int .i64 (outT p1 p2 p3 p1 p2 p3 b1 b2 b3 b4 b5 b6).2.1, .int .i64 (outT p1 p2 p3 p1 p2 p3 b1 b2 b3 b4 b5 b6).2.2.1], .int .i64 (add (outT p1 p2 p3 p1 p2 p3 b1 b2 b3 b4 b5 b6).2.2.2 r), .bool true]) ∧ Below w.heap.size w w' := by
  have hmc := more_cell
  have hmf := more_frozen
  have hml := more_lt
  go_enter Tryz.func57, Tryz.ntmps57
  go_wp2_with fail
  refine wp_fresh ?_
  rintro w1 hb1
  have B1_0 : Blk w1 (w.heap.size) _ := Blk.below (by repeat (with_reducible (first | assumption | (apply Blk.at; simp; done) | apply Blk.alloc | apply Blk.drew | apply Blk.drewN | apply Blk.more | apply Blk.put | (apply Blk.far; focus (first | assumption | (apply Ne.symm; assumption) | (simp; done) | (simp <;> omega)))))) hb1
  obtain ⟨z1_0, c1_0, f1_0⟩ := id B1_0
  have B1_1 : Blk w1 (w.heap.size + 1) _ := Blk.below (by repeat (with_reducible (first | assumption | (apply Blk.at; simp; done) | apply Blk.alloc | apply Blk.drew | apply Blk.drewN | apply Blk.more | apply Blk.put | (apply Blk.far; focus (first | assumption | (apply Ne.symm; assumption) | (simp; done) | (simp <;> omega)))))) hb1
  obtain ⟨z1_1, c1_1, f1_1⟩ := id B1_1
  have B1_2 : Blk w1 (w.heap.size + 1 + 1) _ := Blk.below (by repeat (with_reducible (first | assumption | (apply Blk.at; simp; done) | apply Blk.alloc | apply Blk.drew | apply Blk.drewN | apply Blk.more | apply Blk.put | (apply Blk.far; focus (first | assumption | (apply Ne.symm; assumption) | (simp; done) | (simp <;> omega)))))) hb1
  obtain ⟨z1_2, c1_2, f1_2⟩ := id B1_2
  refine region_grow (A := ?A2) 5 [9] (fun _ => #[.int .i64 0, .int .i64 0, .int .i64 0]) (by kernel_rfl) (by kernel_rfl) ?hrun2 ?hq2 ?htail2
  case hq2 =>
    intro w0 hb0
    simp only [List.take_succ_cons, List.take_zero]
    have B0_0 : Blk w0 _ _ := B1_0.below hb0
    obtain ⟨z0_0, c0_0, f0_0⟩ := id B0_0
    have B0_1 : Blk w0 _ _ := B1_1.below hb0
    obtain ⟨z0_1, c0_1, f0_1⟩ := id B0_1
    have B0_2 : Blk w0 _ _ := B1_2.below hb0
    obtain ⟨z0_2, c0_2, f0_2⟩ := id B0_2
    repeat (go_big_quiet_step ((first | (go_at_call 82; exact calls_after (near_c _ _ _ _ _ _ _ _ _ _)) | (go_at_call 39; exact calls_after (minus_c _ _ _ _ _ _ _)))))
    refine wpQuiet_nil ?_
    rfl
  case hrun2 =>
    intro j hj
    match j, hj with
    | 0, _ => exact ⟨_, _, rfl, fun a w => by simp [go_sem]; rfl⟩
  case htail2 =>
    intro gs w2 hb2 hblk hne
    obtain ⟨G2_0, hg2_0⟩ := hblk 0 (by decide)
    simp only [List.drop_succ_cons, List.drop_zero, List.length_cons, List.length_nil, laySlots]
    clear hblk hne
    generalize gs 0 = g2_0 at *
    have B2_0 : Blk w2 _ _ := B1_0.below hb2
    obtain ⟨z2_0, c2_0, f2_0⟩ := id B2_0
    have B2_1 : Blk w2 _ _ := B1_1.below hb2
    obtain ⟨z2_1, c2_1, f2_1⟩ := id B2_1
    have B2_2 : Blk w2 _ _ := B1_2.below hb2
    obtain ⟨z2_2, c2_2, f2_2⟩ := id B2_2
    obtain ⟨zg2_0, cg2_0, fg2_0⟩ := id G2_0
    have ne2_0_0 : g2_0 ≠ w.heap.size := by omega
    have ne2_0_1 : g2_0 ≠ w.heap.size + 1 := by omega
    have ne2_0_2 : g2_0 ≠ w.heap.size + 1 + 1 := by omega
    simp only [H1.out, H2.out, H3.out]
    go_wp2_with fail
    refine (tout_c _ _ _ _ _ _ _ _ _ _ _ _ _).mono ?_
    rintro e w3 ⟨rfl, hb3⟩
    have B3_0 : Blk w3 (w.heap.size) _ := Blk.below (by repeat (with_reducible (first | assumption | (apply Blk.at; simp; done) | apply Blk.alloc | apply Blk.drew | apply Blk.drewN | apply Blk.more | apply Blk.put | (apply Blk.far; focus (first | assumption | (apply Ne.symm; assumption) | (simp; done) | (simp <;> omega)))))) hb3
    obtain ⟨z3_0, c3_0, f3_0⟩ := id B3_0
    have B3_1 : Blk w3 (w.heap.size + 1) _ := Blk.below (by repeat (with_reducible (first | assumption | (apply Blk.at; simp; done) | apply Blk.alloc | apply Blk.drew | apply Blk.drewN | apply Blk.more | apply Blk.put | (apply Blk.far; focus (first | assumption | (apply Ne.symm; assumption) | (simp; done) | (simp <;> omega)))))) hb3
    obtain ⟨z3_1, c3_1, f3_1⟩ := id B3_1
    have B3_2 : Blk w3 (w.heap.size + 1 + 1) _ := Blk.below (by repeat (with_reducible (first | assumption | (apply Blk.at; simp; done) | apply Blk.alloc | apply Blk.drew | apply Blk.drewN | apply Blk.more | apply Blk.put | (apply Blk.far; focus (first | assumption | (apply Ne.symm; assumption) | (simp; done) | (simp <;> omega)))))) hb3
    obtain ⟨z3_2, c3_2, f3_2⟩ := id B3_2
    have B3_3 : Blk w3 (g2_0) _ := Blk.below (by repeat (with_reducible (first | assumption | (apply Blk.at; simp; done) | apply Blk.alloc | apply Blk.drew | apply Blk.drewN | apply Blk.more | apply Blk.put | (apply Blk.far; focus (first | assumption | (apply Ne.symm; assumption) | (simp; done) | (simp <;> omega)))))) hb3
    try simp only [List.setIfInBounds_toArray, List.set_cons_zero, List.set_cons_succ] at B3_3
    obtain ⟨z3_3, c3_3, f3_3⟩ := id B3_3
    go_wp2_with fail
    refine region_quiet_but 4 (by kernel_rfl) (by kernel_rfl) ?_
    simp only [List.take_succ_cons, List.take_zero, List.drop_succ_cons, List.drop_zero]
    repeat (go_big_quiet_step ((go_at_call 26; exact calls_after_same (add_c _ _ _))))
    refine wpQuiet_nil ?_
    rintro w4 hw4
    have hb4 := after_below hw4
    clear hw4
    have B4_0 : Blk w4 (w.heap.size) _ := Blk.below (by repeat (with_reducible (first | assumption | (apply Blk.at; simp; done) | apply Blk.alloc | apply Blk.drew | apply Blk.drewN | apply Blk.more | apply Blk.put | (apply Blk.far; focus (first | assumption | (apply Ne.symm; assumption) | (simp; done) | (simp <;> omega)))))) hb4
    obtain ⟨z4_0, c4_0, f4_0⟩ := id B4_0
    have B4_1 : Blk w4 (w.heap.size + 1) _ := Blk.below (by repeat (with_reducible (first | assumption | (apply Blk.at; simp; done) | apply Blk.alloc | apply Blk.drew | apply Blk.drewN | apply Blk.more | apply Blk.put | (apply Blk.far; focus (first | assumption | (apply Ne.symm; assumption) | (simp; done) | (simp <;> omega)))))) hb4
    obtain ⟨z4_1, c4_1, f4_1⟩ := id B4_1
    have B4_2 : Blk w4 (w.heap.size + 1 + 1) _ := Blk.below (by repeat (with_reducible (first | assumption | (apply Blk.at; simp; done) | apply Blk.alloc | apply Blk.drew | apply Blk.drewN | apply Blk.more | apply Blk.put | (apply Blk.far; focus (first | assumption | (apply Ne.symm; assumption) | (simp; done) | (simp <;> omega)))))) hb4
    obtain ⟨z4_2, c4_2, f4_2⟩ := id B4_2
    have B4_3 : Blk w4 (g2_0) _ := Blk.below (by repeat (with_reducible (first | assumption | (apply Blk.at; simp; done) | apply Blk.alloc | apply Blk.drew | apply Blk.drewN | apply Blk.more | apply Blk.put | (apply Blk.far; focus (first | assumption | (apply Ne.symm; assumption) | (simp; done) | (simp <;> omega)))))) hb4
    obtain ⟨z4_3, c4_3, f4_3⟩ := id B4_3
    have B4_4 : Blk w4 (w3.heap.size) _ := Blk.below (by repeat (with_reducible (first | assumption | (apply Blk.at; simp; done) | apply Blk.alloc | apply Blk.drew | apply Blk.drewN | apply Blk.more | apply Blk.put | (apply Blk.far; focus (first | assumption | (apply Ne.symm; assumption) | (simp; done) | (simp <;> omega)))))) hb4
    try simp only [List.setIfInBounds_toArray, List.set_cons_zero, List.set_cons_succ] at B4_4
    obtain ⟨z4_4, c4_4, f4_4⟩ := id B4_4
    go_wp2
    exact bodyPost_ret (v := .tuple #[.agg #[.int .i64 (outT p1 p2 p3 p1 p2 p3 b1 b2 b3 b4 b5 b6).1, .int .i64 (outT p1 p2 p3 p1 p2 p3 b1 b2 b3 b4 b5 b6).2.1, .int .i64 (outT p1 p2 p3 p1 p2 p3 b1 b2 b3 b4 b5 b6).2.2.1], .int .i64 (add (outT p1 p2 p3 p1 p2 p3 b1 b2 b3 b4 b5 b6).2.2.2 r), .bool true]) (by simp [results, Tryz.results57, go_sem, *]) rfl ⟨rfl, (by repeat (with_reducible (first | exact Below.refl _ _ | assumption | apply ext_drew | apply ext_drewN | apply ext_alloc | apply ext_more | (refine ext_setCell ?_ (by simp <;> omega) _) | (refine ext_below ?_ (by assumption)))))⟩


/-- what a touch gives: which way, how deep; nothing where it is not deep -/
def tx (T : Int × Int × Int × Int) : Int := if T.2.2.2 ≤ 0 then 0 else T.1
def ty (T : Int × Int × Int × Int) : Int := if T.2.2.2 ≤ 0 then 0 else T.2.1
def tz (T : Int × Int × Int × Int) : Int := if T.2.2.2 ≤ 0 then 0 else T.2.2.1
def td (T : Int × Int × Int × Int) : Int := if T.2.2.2 ≤ 0 then 0 else T.2.2.2
def tk (T : Int × Int × Int × Int) : Bool := decide (0 < T.2.2.2)
def tup (T : Int × Int × Int × Int) : Value := .tuple #[.agg #[.int .i64 (tx T), .int .i64 (ty T), .int .i64 (tz T)], .int .i64 (td T), .bool (tk T)]
theorem tup_no {T : Int × Int × Int × Int} (h : T.2.2.2 ≤ 0) : tup T = .tuple #[.agg #[.int .i64 0, .int .i64 0, .int .i64 0], .int .i64 0, .bool false] := by
  unfold tup tx ty tz td tk; rw [if_pos h, if_pos h, if_pos h, if_pos h, decide_eq_false (by omega)]
theorem tup_yes {T : Int × Int × Int × Int} (h : 0 < T.2.2.2) : tup T = .tuple #[.agg #[.int .i64 T.1, .int .i64 T.2.1, .int .i64 T.2.2.1], .int .i64 T.2.2.2, .bool true] := by
  unfold tup tx ty tz td tk; rw [if_neg (by omega), if_neg (by omega), if_neg (by omega), if_neg (by omega), decide_eq_true h]
/-- the middle is in the box -/
def inB (p1 p2 p3 b1 b2 b3 b4 b5 b6 : Int) : Bool := ((sub (max b1 (min b4 p1)) p1) == 0) && ((sub (max b2 (min b5 p2)) p2) == 0) && ((sub (max b3 (min b6 p3)) p3) == 0)
/-- a ball and a box -/
def ballN (r n1 n2 n3 : Int) : Int × Int × Int × Int := (unit1 n1 n2 n3, unit2 n1 n2 n3, unit3 n1 n2 n3, sub r (long n1 n2 n3))
def ballT (r p1 p2 p3 b1 b2 b3 b4 b5 b6 : Int) : Int × Int × Int × Int := if inB p1 p2 p3 b1 b2 b3 b4 b5 b6 then ((outT p1 p2 p3 p1 p2 p3 b1 b2 b3 b4 b5 b6).1, (outT p1 p2 p3 p1 p2 p3 b1 b2 b3 b4 b5 b6).2.1, (outT p1 p2 p3 p1 p2 p3 b1 b2 b3 b4 b5 b6).2.2.1, add (outT p1 p2 p3 p1 p2 p3 b1 b2 b3 b4 b5 b6).2.2.2 r) else ballN r (sub (max b1 (min b4 p1)) p1) (sub (max b2 (min b5 p2)) p2) (sub (max b3 (min b6 p3)) p3)

theorem ball_c (r p1 p2 p3 b1 b2 b3 b4 b5 b6 : Int) (hin : inB p1 p2 p3 b1 b2 b3 b4 b5 b6 = true → 0 < add (outT p1 p2 p3 p1 p2 p3 b1 b2 b3 b4 b5 b6).2.2.2 r) (w : World) : Calls Tryz.prog 57 #[.int .i64 r, .agg #[.int .i64 p1, .int .i64 p2, .int .i64 p3], .agg #[.int .i64 b1, .int .i64 b2, .int .i64 b3, .int .i64 b4, .int .i64 b5, .int .i64 b6]] w fun e w' => e = .returned (tup (ballT r p1 p2 p3 b1 b2 b3 b4 b5 b6)) ∧ Below w.heap.size w w' := by
  by_cases h1 : (sub (max b1 (min b4 p1)) p1) = 0
  · by_cases h2 : (sub (max b2 (min b5 p2)) p2) = 0
    · by_cases h3 : (sub (max b3 (min b6 p3)) p3) = 0
      · have hi : inB p1 p2 p3 b1 b2 b3 b4 b5 b6 = true := by unfold inB; rw [h1, h2, h3]; rfl
        have hd := hin hi
        unfold ballT; rw [if_pos hi, tup_yes hd]
        exact ball_c3 r p1 p2 p3 b1 b2 b3 b4 b5 b6 h1 h2 h3 w
      · have hi : ¬ inB p1 p2 p3 b1 b2 b3 b4 b5 b6 = true := by unfold inB; simp [h3]
        unfold ballT; rw [if_neg hi]
        rw [h1]
        rw [h2]
        by_cases hd : sub r (long 0 0 (sub (max b3 (min b6 p3)) p3)) ≤ 0
        · rw [tup_no (T := ballN r 0 0 (sub (max b3 (min b6 p3)) p3)) hd]; exact ball_c20 r p1 p2 p3 b1 b2 b3 b4 b5 b6 (sub (max b3 (min b6 p3)) p3) h1 h2 rfl h3 hd w
        · rw [tup_yes (T := ballN r 0 0 (sub (max b3 (min b6 p3)) p3)) (by unfold ballN; simp only; omega)]; exact ball_c21 r p1 p2 p3 b1 b2 b3 b4 b5 b6 (sub (max b3 (min b6 p3)) p3) h1 h2 rfl h3 (by omega) w
    · have hi : ¬ inB p1 p2 p3 b1 b2 b3 b4 b5 b6 = true := by unfold inB; simp [h2]
      unfold ballT; rw [if_neg hi]
      rw [h1]
      by_cases hd : sub r (long 0 (sub (max b2 (min b5 p2)) p2) (sub (max b3 (min b6 p3)) p3)) ≤ 0
      · rw [tup_no (T := ballN r 0 (sub (max b2 (min b5 p2)) p2) (sub (max b3 (min b6 p3)) p3)) hd]; exact ball_c10 r p1 p2 p3 b1 b2 b3 b4 b5 b6 (sub (max b2 (min b5 p2)) p2) (sub (max b3 (min b6 p3)) p3) h1 rfl rfl h2 hd w
      · rw [tup_yes (T := ballN r 0 (sub (max b2 (min b5 p2)) p2) (sub (max b3 (min b6 p3)) p3)) (by unfold ballN; simp only; omega)]; exact ball_c11 r p1 p2 p3 b1 b2 b3 b4 b5 b6 (sub (max b2 (min b5 p2)) p2) (sub (max b3 (min b6 p3)) p3) h1 rfl rfl h2 (by omega) w
  · have hi : ¬ inB p1 p2 p3 b1 b2 b3 b4 b5 b6 = true := by unfold inB; simp [h1]
    unfold ballT; rw [if_neg hi]
    by_cases hd : sub r (long (sub (max b1 (min b4 p1)) p1) (sub (max b2 (min b5 p2)) p2) (sub (max b3 (min b6 p3)) p3)) ≤ 0
    · rw [tup_no (T := ballN r (sub (max b1 (min b4 p1)) p1) (sub (max b2 (min b5 p2)) p2) (sub (max b3 (min b6 p3)) p3)) hd]; exact ball_c00 r p1 p2 p3 b1 b2 b3 b4 b5 b6 (sub (max b1 (min b4 p1)) p1) (sub (max b2 (min b5 p2)) p2) (sub (max b3 (min b6 p3)) p3) rfl rfl rfl h1 hd w
    · rw [tup_yes (T := ballN r (sub (max b1 (min b4 p1)) p1) (sub (max b2 (min b5 p2)) p2) (sub (max b3 (min b6 p3)) p3)) (by unfold ballN; simp only; omega)]; exact ball_c01 r p1 p2 p3 b1 b2 b3 b4 b5 b6 (sub (max b1 (min b4 p1)) p1) (sub (max b2 (min b5 p2)) p2) (sub (max b3 (min b6 p3)) p3) rfl rfl rfl h1 (by omega) w

set_option maxHeartbeats 2000000 in
theorem blocks_c0 (a1 a2 a3 a4 a5 a6 b1 b2 b3 b4 b5 b6 : Int) (hm : meetB a1 a2 a3 a4 a5 a6 b1 b2 b3 b4 b5 b6 = false) (w : World) : Calls Tryz.prog 58 #[.agg #[.int .i64 a1, .int .i64 a2, .int .i64 a3, .int .i64 a4, .int .i64 a5, .int .i64 a6], .agg #[.int .i64 b1, .int .i64 b2, .int .i64 b3, .int .i64 b4, .int .i64 b5, .int .i64 b6]] w fun e w' => e = .returned (.tuple #[.agg #[.int .i64 0, .int .i64 0, .int .i64 0], .int .i64 0, .bool false]) ∧ Below w.heap.size w w' := by
  have hmc := more_cell
  have hmf := more_frozen
  have hml := more_lt
  go_enter Tryz.func58, Tryz.ntmps58
  go_wp2_with fail
  refine (meet_c _ _ _ _ _ _ _ _ _ _ _ _ _).mono ?_
  rintro e w1 ⟨rfl, hb1⟩
  have B1_0 : Blk w1 (w.heap.size) _ := Blk.below (by repeat (with_reducible (first | assumption | (apply Blk.at; simp; done) | apply Blk.alloc | apply Blk.drew | apply Blk.drewN | apply Blk.more | apply Blk.put | (apply Blk.far; focus (first | assumption | (apply Ne.symm; assumption) | (simp; done) | (simp <;> omega)))))) hb1
  obtain ⟨z1_0, c1_0, f1_0⟩ := id B1_0
  have B1_1 : Blk w1 (w.heap.size + 1) _ := Blk.below (by repeat (with_reducible (first | assumption | (apply Blk.at; simp; done) | apply Blk.alloc | apply Blk.drew | apply Blk.drewN | apply Blk.more | apply Blk.put | (apply Blk.far; focus (first | assumption | (apply Ne.symm; assumption) | (simp; done) | (simp <;> omega)))))) hb1
  obtain ⟨z1_1, c1_1, f1_1⟩ := id B1_1
  have B1_2 : Blk w1 (w.heap.size + 1 + 1) _ := Blk.below (by repeat (with_reducible (first | assumption | (apply Blk.at; simp; done) | apply Blk.alloc | apply Blk.drew | apply Blk.drewN | apply Blk.more | apply Blk.put | (apply Blk.far; focus (first | assumption | (apply Ne.symm; assumption) | (simp; done) | (simp <;> omega)))))) hb1
  obtain ⟨z1_2, c1_2, f1_2⟩ := id B1_2
  go_wp2
  exact bodyPost_ret (v := .tuple #[.agg #[.int .i64 0, .int .i64 0, .int .i64 0], .int .i64 0, .bool false]) (by simp [results, Tryz.results58, go_sem, *]) rfl ⟨rfl, (by repeat (with_reducible (first | exact Below.refl _ _ | assumption | apply ext_drew | apply ext_drewN | apply ext_alloc | apply ext_more | (refine ext_setCell ?_ (by simp <;> omega) _) | (refine ext_below ?_ (by assumption)))))⟩

set_option maxHeartbeats 2000000 in
theorem blocks_c1 (a1 a2 a3 a4 a5 a6 b1 b2 b3 b4 b5 b6 : Int) (hm : meetB a1 a2 a3 a4 a5 a6 b1 b2 b3 b4 b5 b6 = true) (hd : (outT a1 a2 a3 a4 a5 a6 b1 b2 b3 b4 b5 b6).2.2.2 ≤ 0) (w : World) : Calls Tryz.prog 58 #[.agg #[.int .i64 a1, .int .i64 a2, .int .i64 a3, .int .i64 a4, .int .i64 a5, .int .i64 a6], .agg #[.int .i64 b1, .int .i64 b2, .int .i64 b3, .int .i64 b4, .int .i64 b5, .int .i64 b6]] w fun e w' => e = .returned (.tuple #[.agg #[.int .i64 0, .int .i64 0, .int .i64 0], .int .i64 0, .bool false]) ∧ Below w.heap.size w w' := by
  have hmc := more_cell
  have hmf := more_frozen
  have hml := more_lt
  go_enter Tryz.func58, Tryz.ntmps58
  go_wp2_with fail
  refine (meet_c _ _ _ _ _ _ _ _ _ _ _ _ _).mono ?_
  rintro e w1 ⟨rfl, hb1⟩
  have B1_0 : Blk w1 (w.heap.size) _ := Blk.below (by repeat (with_reducible (first | assumption | (apply Blk.at; simp; done) | apply Blk.alloc | apply Blk.drew | apply Blk.drewN | apply Blk.more | apply Blk.put | (apply Blk.far; focus (first | assumption | (apply Ne.symm; assumption) | (simp; done) | (simp <;> omega)))))) hb1
  obtain ⟨z1_0, c1_0, f1_0⟩ := id B1_0
  have B1_1 : Blk w1 (w.heap.size + 1) _ := Blk.below (by repeat (with_reducible (first | assumption | (apply Blk.at; simp; done) | apply Blk.alloc | apply Blk.drew | apply Blk.drewN | apply Blk.more | apply Blk.put | (apply Blk.far; focus (first | assumption | (apply Ne.symm; assumption) | (simp; done) | (simp <;> omega)))))) hb1
  obtain ⟨z1_1, c1_1, f1_1⟩ := id B1_1
  have B1_2 : Blk w1 (w.heap.size + 1 + 1) _ := Blk.below (by repeat (with_reducible (first | assumption | (apply Blk.at; simp; done) | apply Blk.alloc | apply Blk.drew | apply Blk.drewN | apply Blk.more | apply Blk.put | (apply Blk.far; focus (first | assumption | (apply Ne.symm; assumption) | (simp; done) | (simp <;> omega)))))) hb1
  obtain ⟨z1_2, c1_2, f1_2⟩ := id B1_2
  go_wp2_with fail
  refine (tout_c _ _ _ _ _ _ _ _ _ _ _ _ _).mono ?_
  rintro e w2 ⟨rfl, hb2⟩
  have B2_0 : Blk w2 (w.heap.size) _ := Blk.below (by repeat (with_reducible (first | assumption | (apply Blk.at; simp; done) | apply Blk.alloc | apply Blk.drew | apply Blk.drewN | apply Blk.more | apply Blk.put | (apply Blk.far; focus (first | assumption | (apply Ne.symm; assumption) | (simp; done) | (simp <;> omega)))))) hb2
  obtain ⟨z2_0, c2_0, f2_0⟩ := id B2_0
  have B2_1 : Blk w2 (w.heap.size + 1) _ := Blk.below (by repeat (with_reducible (first | assumption | (apply Blk.at; simp; done) | apply Blk.alloc | apply Blk.drew | apply Blk.drewN | apply Blk.more | apply Blk.put | (apply Blk.far; focus (first | assumption | (apply Ne.symm; assumption) | (simp; done) | (simp <;> omega)))))) hb2
  obtain ⟨z2_1, c2_1, f2_1⟩ := id B2_1
  have B2_2 : Blk w2 (w.heap.size + 1 + 1) _ := Blk.below (by repeat (with_reducible (first | assumption | (apply Blk.at; simp; done) | apply Blk.alloc | apply Blk.drew | apply Blk.drewN | apply Blk.more | apply Blk.put | (apply Blk.far; focus (first | assumption | (apply Ne.symm; assumption) | (simp; done) | (simp <;> omega)))))) hb2
  obtain ⟨z2_2, c2_2, f2_2⟩ := id B2_2
  go_wp2
  exact bodyPost_ret (v := .tuple #[.agg #[.int .i64 0, .int .i64 0, .int .i64 0], .int .i64 0, .bool false]) (by simp [results, Tryz.results58, go_sem, *]) rfl ⟨rfl, (by repeat (with_reducible (first | exact Below.refl _ _ | assumption | apply ext_drew | apply ext_drewN | apply ext_alloc | apply ext_more | (refine ext_setCell ?_ (by simp <;> omega) _) | (refine ext_below ?_ (by assumption)))))⟩

set_option maxHeartbeats 2000000 in
theorem blocks_c2 (a1 a2 a3 a4 a5 a6 b1 b2 b3 b4 b5 b6 : Int) (hm : meetB a1 a2 a3 a4 a5 a6 b1 b2 b3 b4 b5 b6 = true) (hd : 0 < (outT a1 a2 a3 a4 a5 a6 b1 b2 b3 b4 b5 b6).2.2.2) (w : World) : Calls Tryz.prog 58 #[.agg #[.int .i64 a1, .int .i64 a2, .int .i64 a3, .int .i64 a4, .int .i64 a5, .int .i64 a6], .agg #[.int .i64 b1, .int .i64 b2, .int .i64 b3, .int .i64 b4, .int .i64 b5, .int .i64 b6]] w fun e w' => e = .returned (.tuple #[.agg #[.int .i64 (outT a1 a2 a3 a4 a5 a6 b1 b2 b3 b4 b5 b6).1, .int .i64 (outT a1 a2 a3 a4 a5 a6 b1 b2 b3 b4 b5 b6).2.1, .int .i64 (outT a1 a2 a3 a4 a5 a6 b1 b2 b3 b4 b5 b6).2.2.1], .int .i64 (outT a1 a2 a3 a4 a5 a6 b1 b2 b3 b4 b5 b6).2.2.2, .bool true]) ∧ Below w.heap.size w w' := by
  have hmc := more_cell
  have hmf := more_frozen
  have hml := more_lt
  go_enter Tryz.func58, Tryz.ntmps58
  go_wp2_with fail
  refine (meet_c _ _ _ _ _ _ _ _ _ _ _ _ _).mono ?_
  rintro e w1 ⟨rfl, hb1⟩
  have B1_0 : Blk w1 (w.heap.size) _ := Blk.below (by repeat (with_reducible (first | assumption | (apply Blk.at; simp; done) | apply Blk.alloc | apply Blk.drew | apply Blk.drewN | apply Blk.more | apply Blk.put | (apply Blk.far; focus (first | assumption | (apply Ne.symm; assumption) | (simp; done) | (simp <;> omega)))))) hb1
  obtain ⟨z1_0, c1_0, f1_0⟩ := id B1_0
  have B1_1 : Blk w1 (w.heap.size + 1) _ := Blk.below (by repeat (with_reducible (first | assumption | (apply Blk.at; simp; done) | apply Blk.alloc | apply Blk.drew | apply Blk.drewN | apply Blk.more | apply Blk.put | (apply Blk.far; focus (first | assumption | (apply Ne.symm; assumption) | (simp; done) | (simp <;> omega)))))) hb1
  obtain ⟨z1_1, c1_1, f1_1⟩ := id B1_1
  have B1_2 : Blk w1 (w.heap.size + 1 + 1) _ := Blk.below (by repeat (with_reducible (first | assumption | (apply Blk.at; simp; done) | apply Blk.alloc | apply Blk.drew | apply Blk.drewN | apply Blk.more | apply Blk.put | (apply Blk.far; focus (first | assumption | (apply Ne.symm; assumption) | (simp; done) | (simp <;> omega)))))) hb1
  obtain ⟨z1_2, c1_2, f1_2⟩ := id B1_2
  go_wp2_with fail
  refine (tout_c _ _ _ _ _ _ _ _ _ _ _ _ _).mono ?_
  rintro e w2 ⟨rfl, hb2⟩
  have B2_0 : Blk w2 (w.heap.size) _ := Blk.below (by repeat (with_reducible (first | assumption | (apply Blk.at; simp; done) | apply Blk.alloc | apply Blk.drew | apply Blk.drewN | apply Blk.more | apply Blk.put | (apply Blk.far; focus (first | assumption | (apply Ne.symm; assumption) | (simp; done) | (simp <;> omega)))))) hb2
  obtain ⟨z2_0, c2_0, f2_0⟩ := id B2_0
  have B2_1 : Blk w2 (w.heap.size + 1) _ := Blk.below (by repeat (with_reducible (first | assumption | (apply Blk.at; simp; done) | apply Blk.alloc | apply Blk.drew | apply Blk.drewN | apply Blk.more | apply Blk.put | (apply Blk.far; focus (first | assumption | (apply Ne.symm; assumption) | (simp; done) | (simp <;> omega)))))) hb2
  obtain ⟨z2_1, c2_1, f2_1⟩ := id B2_1
  have B2_2 : Blk w2 (w.heap.size + 1 + 1) _ := Blk.below (by repeat (with_reducible (first | assumption | (apply Blk.at; simp; done) | apply Blk.alloc | apply Blk.drew | apply Blk.drewN | apply Blk.more | apply Blk.put | (apply Blk.far; focus (first | assumption | (apply Ne.symm; assumption) | (simp; done) | (simp <;> omega)))))) hb2
  obtain ⟨z2_2, c2_2, f2_2⟩ := id B2_2
  go_wp2
  exact bodyPost_ret (v := .tuple #[.agg #[.int .i64 (outT a1 a2 a3 a4 a5 a6 b1 b2 b3 b4 b5 b6).1, .int .i64 (outT a1 a2 a3 a4 a5 a6 b1 b2 b3 b4 b5 b6).2.1, .int .i64 (outT a1 a2 a3 a4 a5 a6 b1 b2 b3 b4 b5 b6).2.2.1], .int .i64 (outT a1 a2 a3 a4 a5 a6 b1 b2 b3 b4 b5 b6).2.2.2, .bool true]) (by simp [results, Tryz.results58, go_sem, *]) rfl ⟨rfl, (by repeat (with_reducible (first | exact Below.refl _ _ | assumption | apply ext_drew | apply ext_drewN | apply ext_alloc | apply ext_more | (refine ext_setCell ?_ (by simp <;> omega) _) | (refine ext_below ?_ (by assumption)))))⟩

end Go.Proofs.YtniahipadfgkbaaGreat
namespace Go.Proofs.YtniahipadfgkbaaGreat
open Go.ChangeShapes Go.WideShapes Go.ChangeAt Go.RowKit Go.BigFrame
theorem cut_mono {a b : Int} (h : a ≤ b) : cut a ≤ cut b := by unfold cut; repeat' split <;> omega
theorem cut_zero {n : Int} (h : cut n = 0) : n = 0 := by unfold cut at h; repeat' split at h <;> omega
theorem cut_pos {n : Int} (h : 0 < n) : 0 < cut n := by unfold cut; repeat' split <;> omega
theorem cut_nn {n : Int} (h : 0 ≤ n) : 0 ≤ cut n := by unfold cut; repeat' split <;> omega

/-! ### bounds -/
theorem unit_bd (a b c : Int) : (-70368744177664 ≤ unit1 a b c ∧ unit1 a b c ≤ 70368744177664) ∧ (-70368744177664 ≤ unit2 a b c ∧ unit2 a b c ≤ 70368744177664) ∧ (-70368744177664 ≤ unit3 a b c ∧ unit3 a b c ≤ 70368744177664) := by
  unfold unit1 unit2 unit3
  have h1 := div_bd a (long a b c)
  have h2 := div_bd b (long a b c)
  have h3 := div_bd c (long a b c)
  split <;> omega
/-- a way within bounds -/
def WB (T : Int × Int × Int × Int) : Prop := (-70368744177664 ≤ T.1 ∧ T.1 ≤ 70368744177664) ∧ (-70368744177664 ≤ T.2.1 ∧ T.2.1 ≤ 70368744177664) ∧ (-70368744177664 ≤ T.2.2.1 ∧ T.2.2.1 ≤ 70368744177664)
theorem tryS_wb {v1 v2 v3 d : Int} {s : Int × Int × Int × Int} (h1 : -65536 ≤ v1 ∧ v1 ≤ 65536) (h2 : -65536 ≤ v2 ∧ v2 ≤ 65536) (h3 : -65536 ≤ v3 ∧ v3 ≤ 65536) (h : WB s) : WB (tryS v1 v2 v3 d s) := by
  unfold WB tryS pk at *
  obtain ⟨a, b, c⟩ := h
  simp only
  split <;> omega
theorem outT_wb (a1 a2 a3 a4 a5 a6 b1 b2 b3 b4 b5 b6 : Int) : WB (outT a1 a2 a3 a4 a5 a6 b1 b2 b3 b4 b5 b6) := by
  unfold outT
  repeat refine tryS_wb (by omega) (by omega) (by omega) ?_
  unfold WB; simp
theorem ballN_wb (r a b c : Int) : WB (ballN r a b c) := unit_bd a b c
theorem ballT_wb (r p1 p2 p3 b1 b2 b3 b4 b5 b6 : Int) : WB (ballT r p1 p2 p3 b1 b2 b3 b4 b5 b6) := by
  unfold ballT
  split
  · exact outT_wb p1 p2 p3 p1 p2 p3 b1 b2 b3 b4 b5 b6
  · exact ballN_wb _ _ _ _
theorem t_bd {T : Int × Int × Int × Int} (h : WB T) : (-70368744177664 ≤ tx T ∧ tx T ≤ 70368744177664) ∧ (-70368744177664 ≤ ty T ∧ ty T ≤ 70368744177664) ∧ (-70368744177664 ≤ tz T ∧ tz T ≤ 70368744177664) := by
  obtain ⟨a, b, c⟩ := h
  unfold tx ty tz
  split <;> omega

/-! ### the depth of the way out -/
theorem tryS_nn {v1 v2 v3 d : Int} {s : Int × Int × Int × Int} (hd : 0 ≤ d) (h : 0 ≤ s.2.2.2) : 0 ≤ (tryS v1 v2 v3 d s).2.2.2 := by unfold tryS pk; simp only; split <;> omega
theorem tryS_le {v1 v2 v3 d : Int} {s : Int × Int × Int × Int} : (tryS v1 v2 v3 d s).2.2.2 ≤ d ∧ (tryS v1 v2 v3 d s).2.2.2 ≤ s.2.2.2 := by unfold tryS pk; simp only; split <;> omega
theorem outT_le (a1 a2 a3 a4 a5 a6 b1 b2 b3 b4 b5 b6 : Int) : (outT a1 a2 a3 a4 a5 a6 b1 b2 b3 b4 b5 b6).2.2.2 ≤ 70368744177664 := by
  have h := (sub_bd a4 b1).2
  unfold outT
  exact Int.le_trans tryS_le.2 (Int.le_trans tryS_le.2 (Int.le_trans tryS_le.2 (Int.le_trans tryS_le.2 (Int.le_trans tryS_le.2 (Int.le_trans tryS_le.1 h)))))
/-- in one direction: the middle is between the sides, so both ways out are not below 0 -/
theorem in_dir {p l h : Int} (hl : -70368744177664 ≤ l ∧ l ≤ 70368744177664) (hh : -70368744177664 ≤ h ∧ h ≤ 70368744177664) (hlh : l ≤ h) (hz : sub (max l (min h p)) p = 0) : 0 ≤ sub p l ∧ 0 ≤ sub h p := by
  unfold sub at *
  have e := cut_zero hz
  have hm : cut (max l (min h p)) = max l (min h p) := cut_in (by omega) (by omega)
  have e1 : cut l = l := cut_in hl.1 hl.2
  have e2 : cut h = h := cut_in hh.1 hh.2
  rw [hm] at e
  rw [e1, e2]
  exact ⟨cut_nn (by omega), cut_nn (by omega)⟩
theorem box_dir {q h : Int} (hh : 1 ≤ h) : (-70368744177664 ≤ sub q h ∧ sub q h ≤ 70368744177664) ∧ (-70368744177664 ≤ add q h ∧ add q h ≤ 70368744177664) ∧ sub q h ≤ add q h := by
  refine ⟨sub_bd q h, add_bd q h, ?_⟩
  unfold sub add
  have := cut_pos (n := h) (by omega)
  exact cut_mono (by omega)
theorem szB_le {n : Int} (h : szB n = true) : 1 ≤ n ∧ n ≤ 3276800 := by unfold szB at h; simpa using h
/-- sizes that may be: each half is at least 1 -/
theorem shape_hf {k x y z : Int} (h : shapeB k x y z = true) : (k = 1 ∨ k = 2) ∧ 1 ≤ x ∧ x ≤ 3276800 ∧ 1 ≤ hf k x x ∧ 1 ≤ hf k x y ∧ 1 ≤ hf k x z := by
  unfold shapeB at h
  unfold hf
  by_cases h1 : k = 1
  · rw [if_pos h1] at h
    have hx := szB_le (n := x) (by simp only [Bool.and_eq_true] at h; exact h.1.1)
    simp only [if_pos h1]
    omega
  · rw [if_neg h1] at h
    by_cases h2 : k = 2
    · rw [if_pos h2] at h
      simp only [Bool.and_eq_true] at h
      have hx := szB_le h.1.1
      have hy := szB_le h.1.2
      have hz := szB_le h.2
      simp only [if_neg h1]
      omega
    · rw [if_neg h2] at h; cases h
/-- a middle in a box: the way out, and the radius, are more than 0 -/
theorem ball_deep {r p1 p2 p3 q1 q2 q3 h1 h2 h3 : Int} (hr : 1 ≤ r ∧ r ≤ 3276800) (g1 : 1 ≤ h1) (g2 : 1 ≤ h2) (g3 : 1 ≤ h3)
    (hin : inB p1 p2 p3 (sub q1 h1) (sub q2 h2) (sub q3 h3) (add q1 h1) (add q2 h2) (add q3 h3) = true) :
    0 < add (outT p1 p2 p3 p1 p2 p3 (sub q1 h1) (sub q2 h2) (sub q3 h3) (add q1 h1) (add q2 h2) (add q3 h3)).2.2.2 r := by
  unfold inB at hin
  simp only [Bool.and_eq_true, beq_iff_eq] at hin
  obtain ⟨⟨e1, e2⟩, e3⟩ := hin
  obtain ⟨a1, b1, c1⟩ := box_dir (q := q1) g1
  obtain ⟨a2, b2, c2⟩ := box_dir (q := q2) g2
  obtain ⟨a3, b3, c3⟩ := box_dir (q := q3) g3
  obtain ⟨x1, y1⟩ := in_dir a1 b1 c1 e1
  obtain ⟨x2, y2⟩ := in_dir a2 b2 c2 e2
  obtain ⟨x3, y3⟩ := in_dir a3 b3 c3 e3
  have hle := outT_le p1 p2 p3 p1 p2 p3 (sub q1 h1) (sub q2 h2) (sub q3 h3) (add q1 h1) (add q2 h2) (add q3 h3)
  have hnn : 0 ≤ (outT p1 p2 p3 p1 p2 p3 (sub q1 h1) (sub q2 h2) (sub q3 h3) (add q1 h1) (add q2 h2) (add q3 h3)).2.2.2 := by
    unfold outT
    exact tryS_nn y3 (tryS_nn x3 (tryS_nn y2 (tryS_nn x2 (tryS_nn y1 (tryS_nn x1 (by decide))))))
  generalize (outT p1 p2 p3 p1 p2 p3 (sub q1 h1) (sub q2 h2) (sub q3 h3) (add q1 h1) (add q2 h2) (add q3 h3)).2.2.2 = d at *
  unfold add
  exact cut_pos (by rw [cut_in (n := d) (by omega) (by omega), cut_in (n := r) (by omega) (by omega)]; omega)

/-! ### touches -/
def blocksT (a1 a2 a3 a4 a5 a6 b1 b2 b3 b4 b5 b6 : Int) : Int × Int × Int × Int := if meetB a1 a2 a3 a4 a5 a6 b1 b2 b3 b4 b5 b6 then outT a1 a2 a3 a4 a5 a6 b1 b2 b3 b4 b5 b6 else (0, 0, 0, 0)
def ballsT (r p1 p2 p3 s q1 q2 q3 : Int) : Int × Int × Int × Int := (unit1 (sub q1 p1) (sub q2 p2) (sub q3 p3), unit2 (sub q1 p1) (sub q2 p2) (sub q3 p3), unit3 (sub q1 p1) (sub q2 p2) (sub q3 p3), deepB r s (sub q1 p1) (sub q2 p2) (sub q3 p3))
/-- a ball and a shape -/
def ballAt (r p1 p2 p3 k x y z q1 q2 q3 : Int) : Int × Int × Int × Int := ballT r p1 p2 p3 (sub q1 (hf k x x)) (sub q2 (hf k x y)) (sub q3 (hf k x z)) (add q1 (hf k x x)) (add q2 (hf k x y)) (add q3 (hf k x z))
def blocksAt (k x y z p1 p2 p3 k' x' y' z' q1 q2 q3 : Int) : Int × Int × Int × Int := blocksT (sub p1 (hf k x x)) (sub p2 (hf k x y)) (sub p3 (hf k x z)) (add p1 (hf k x x)) (add p2 (hf k x y)) (add p3 (hf k x z)) (sub q1 (hf k' x' x')) (sub q2 (hf k' x' y')) (sub q3 (hf k' x' z')) (add q1 (hf k' x' x')) (add q2 (hf k' x' y')) (add q3 (hf k' x' z'))
def negT (T : Int × Int × Int × Int) : Int × Int × Int × Int := (-T.1, -T.2.1, -T.2.2.1, T.2.2.2)
theorem negT_t (T : Int × Int × Int × Int) : tx (negT T) = -tx T ∧ ty (negT T) = -ty T ∧ tz (negT T) = -tz T ∧ td (negT T) = td T ∧ tk (negT T) = tk T := by
  unfold tx ty tz td tk negT
  simp only
  split <;> simp
theorem tup_neg (T : Int × Int × Int × Int) : tup (negT T) = .tuple #[.agg #[.int .i64 (-tx T), .int .i64 (-ty T), .int .i64 (-tz T)], .int .i64 (td T), .bool (tk T)] := by
  obtain ⟨h1, h2, h3, h4, h5⟩ := negT_t T
  unfold tup
  rw [h1, h2, h3, h4, h5]
def touchT (k x y z p1 p2 p3 k' x' y' z' q1 q2 q3 : Int) : Int × Int × Int × Int :=
  if k = 1 then (if k' = 1 then ballsT x p1 p2 p3 x' q1 q2 q3 else ballAt x p1 p2 p3 k' x' y' z' q1 q2 q3) else (if k' = 1 then negT (ballAt x' q1 q2 q3 k x y z p1 p2 p3) else blocksAt k x y z p1 p2 p3 k' x' y' z' q1 q2 q3)
theorem tri_tup (x y z d : Int) : tri x y z d = tup (x, y, z, d) := by
  by_cases h : d ≤ 0
  · rw [tup_no h]; unfold tri; rw [if_pos h]
  · rw [tup_yes (by simp only; omega)]; unfold tri; rw [if_neg h]
theorem balls_t (r p1 p2 p3 s q1 q2 q3 : Int) (w : World) : Calls Tryz.prog 56 #[.int .i64 r, .agg #[.int .i64 p1, .int .i64 p2, .int .i64 p3], .int .i64 s, .agg #[.int .i64 q1, .int .i64 q2, .int .i64 q3]] w fun e w' => e = .returned (tup (ballsT r p1 p2 p3 s q1 q2 q3)) ∧ Below w.heap.size w w' := by
  have h := balls_c r p1 p2 p3 s q1 q2 q3 w
  unfold ballsV at h
  rw [tri_tup] at h
  exact h
theorem blocks_t (a1 a2 a3 a4 a5 a6 b1 b2 b3 b4 b5 b6 : Int) (w : World) : Calls Tryz.prog 58 #[.agg #[.int .i64 a1, .int .i64 a2, .int .i64 a3, .int .i64 a4, .int .i64 a5, .int .i64 a6], .agg #[.int .i64 b1, .int .i64 b2, .int .i64 b3, .int .i64 b4, .int .i64 b5, .int .i64 b6]] w fun e w' => e = .returned (tup (blocksT a1 a2 a3 a4 a5 a6 b1 b2 b3 b4 b5 b6)) ∧ Below w.heap.size w w' := by
  unfold blocksT
  by_cases hm : meetB a1 a2 a3 a4 a5 a6 b1 b2 b3 b4 b5 b6 = true
  · rw [if_pos hm]
    by_cases hd : (outT a1 a2 a3 a4 a5 a6 b1 b2 b3 b4 b5 b6).2.2.2 ≤ 0
    · rw [tup_no hd]; exact blocks_c1 _ _ _ _ _ _ _ _ _ _ _ _ hm hd w
    · rw [tup_yes (by omega)]; exact blocks_c2 _ _ _ _ _ _ _ _ _ _ _ _ hm (by omega) w
  · rw [if_neg hm, tup_no (by simp)]
    exact blocks_c0 _ _ _ _ _ _ _ _ _ _ _ _ (by simpa using hm) w
theorem ballAt_t (r p1 p2 p3 k x y z q1 q2 q3 : Int) (hr : 1 ≤ r ∧ r ≤ 3276800) (hs : shapeB k x y z = true) (w : World) : Calls Tryz.prog 57 #[.int .i64 r, .agg #[.int .i64 p1, .int .i64 p2, .int .i64 p3], .agg #[.int .i64 (sub q1 (hf k x x)), .int .i64 (sub q2 (hf k x y)), .int .i64 (sub q3 (hf k x z)), .int .i64 (add q1 (hf k x x)), .int .i64 (add q2 (hf k x y)), .int .i64 (add q3 (hf k x z))]] w fun e w' => e = .returned (tup (ballAt r p1 p2 p3 k x y z q1 q2 q3)) ∧ Below w.heap.size w w' := by
  obtain ⟨_, _, _, g1, g2, g3⟩ := shape_hf hs
  exact ball_c r p1 p2 p3 _ _ _ _ _ _ (fun hin => ball_deep hr g1 g2 g3 hin) w
end Go.Proofs.YtniahipadfgkbaaGreat
namespace Go.Proofs.YtniahipadfgkbaaGreat
open Go.ChangeShapes Go.WideShapes Go.ChangeAt Go.RowKit Go.BigFrame
theorem balls_l (r p1 p2 p3 s q1 q2 q3 : Int) (w : World) : Calls Tryz.prog 56 #[.int .i64 r, .agg #[.int .i64 p1, .int .i64 p2, .int .i64 p3], .int .i64 s, .agg #[.int .i64 q1, .int .i64 q2, .int .i64 q3]] w fun e w' => e = .returned (.tuple #[.agg #[.int .i64 (tx (ballsT r p1 p2 p3 s q1 q2 q3)), .int .i64 (ty (ballsT r p1 p2 p3 s q1 q2 q3)), .int .i64 (tz (ballsT r p1 p2 p3 s q1 q2 q3))], .int .i64 (td (ballsT r p1 p2 p3 s q1 q2 q3)), .bool (tk (ballsT r p1 p2 p3 s q1 q2 q3))]) ∧ Below w.heap.size w w' := balls_t r p1 p2 p3 s q1 q2 q3 w
theorem blocks_l (a1 a2 a3 a4 a5 a6 b1 b2 b3 b4 b5 b6 : Int) (w : World) : Calls Tryz.prog 58 #[.agg #[.int .i64 a1, .int .i64 a2, .int .i64 a3, .int .i64 a4, .int .i64 a5, .int .i64 a6], .agg #[.int .i64 b1, .int .i64 b2, .int .i64 b3, .int .i64 b4, .int .i64 b5, .int .i64 b6]] w fun e w' => e = .returned (.tuple #[.agg #[.int .i64 (tx (blocksT a1 a2 a3 a4 a5 a6 b1 b2 b3 b4 b5 b6)), .int .i64 (ty (blocksT a1 a2 a3 a4 a5 a6 b1 b2 b3 b4 b5 b6)), .int .i64 (tz (blocksT a1 a2 a3 a4 a5 a6 b1 b2 b3 b4 b5 b6))], .int .i64 (td (blocksT a1 a2 a3 a4 a5 a6 b1 b2 b3 b4 b5 b6)), .bool (tk (blocksT a1 a2 a3 a4 a5 a6 b1 b2 b3 b4 b5 b6))]) ∧ Below w.heap.size w w' := blocks_t a1 a2 a3 a4 a5 a6 b1 b2 b3 b4 b5 b6 w
theorem ballAt_l (r p1 p2 p3 k x y z q1 q2 q3 : Int) (hr : 1 ≤ r ∧ r ≤ 3276800) (hs : shapeB k x y z = true) (w : World) : Calls Tryz.prog 57 #[.int .i64 r, .agg #[.int .i64 p1, .int .i64 p2, .int .i64 p3], .agg #[.int .i64 (sub q1 (hf k x x)), .int .i64 (sub q2 (hf k x y)), .int .i64 (sub q3 (hf k x z)), .int .i64 (add q1 (hf k x x)), .int .i64 (add q2 (hf k x y)), .int .i64 (add q3 (hf k x z))]] w fun e w' => e = .returned (.tuple #[.agg #[.int .i64 (tx (ballAt r p1 p2 p3 k x y z q1 q2 q3)), .int .i64 (ty (ballAt r p1 p2 p3 k x y z q1 q2 q3)), .int .i64 (tz (ballAt r p1 p2 p3 k x y z q1 q2 q3))], .int .i64 (td (ballAt r p1 p2 p3 k x y z q1 q2 q3)), .bool (tk (ballAt r p1 p2 p3 k x y z q1 q2 q3))]) ∧ Below w.heap.size w w' := ballAt_t r p1 p2 p3 k x y z q1 q2 q3 hr hs w
set_option maxHeartbeats 2000000 in
theorem touches_bb (k x y z p1 p2 p3 k' x' y' z' q1 q2 q3 : Int) (e1 : (k == 1) = true) (e2 : (k' == 1) = true)  (w : World) : Calls Tryz.prog 28 #[.agg #[.int .i64 k, .int .i64 x, .int .i64 y, .int .i64 z], .agg #[.int .i64 p1, .int .i64 p2, .int .i64 p3], .agg #[.int .i64 k', .int .i64 x', .int .i64 y', .int .i64 z'], .agg #[.int .i64 q1, .int .i64 q2, .int .i64 q3]] w fun e w' => e = .returned (.tuple #[.agg #[.int .i64 (tx (ballsT x p1 p2 p3 x' q1 q2 q3)), .int .i64 (ty (ballsT x p1 p2 p3 x' q1 q2 q3)), .int .i64 (tz (ballsT x p1 p2 p3 x' q1 q2 q3))], .int .i64 (td (ballsT x p1 p2 p3 x' q1 q2 q3)), .bool (tk (ballsT x p1 p2 p3 x' q1 q2 q3))]) ∧ Below w.heap.size w w' := by
  have hmc := more_cell
  have hmf := more_frozen
  have hml := more_lt
  go_enter Tryz.func28, Tryz.ntmps28
  go_wp2_with fail
  refine (balls_l _ _ _ _ _ _ _ _ _).mono ?_
  rintro e w1 ⟨rfl, hb1⟩
  have B1_0 : Blk w1 (w.heap.size) _ := Blk.below (by repeat (with_reducible (first | assumption | (apply Blk.at; simp; done) | apply Blk.alloc | apply Blk.drew | apply Blk.drewN | apply Blk.more | apply Blk.put | (apply Blk.far; focus (first | assumption | (apply Ne.symm; assumption) | (simp; done) | (simp <;> omega)))))) hb1
  obtain ⟨z1_0, c1_0, f1_0⟩ := id B1_0
  have B1_1 : Blk w1 (w.heap.size + 1) _ := Blk.below (by repeat (with_reducible (first | assumption | (apply Blk.at; simp; done) | apply Blk.alloc | apply Blk.drew | apply Blk.drewN | apply Blk.more | apply Blk.put | (apply Blk.far; focus (first | assumption | (apply Ne.symm; assumption) | (simp; done) | (simp <;> omega)))))) hb1
  obtain ⟨z1_1, c1_1, f1_1⟩ := id B1_1
  have B1_2 : Blk w1 (w.heap.size + 1 + 1) _ := Blk.below (by repeat (with_reducible (first | assumption | (apply Blk.at; simp; done) | apply Blk.alloc | apply Blk.drew | apply Blk.drewN | apply Blk.more | apply Blk.put | (apply Blk.far; focus (first | assumption | (apply Ne.symm; assumption) | (simp; done) | (simp <;> omega)))))) hb1
  obtain ⟨z1_2, c1_2, f1_2⟩ := id B1_2
  have B1_3 : Blk w1 (w.heap.size + 1 + 1 + 1) _ := Blk.below (by repeat (with_reducible (first | assumption | (apply Blk.at; simp; done) | apply Blk.alloc | apply Blk.drew | apply Blk.drewN | apply Blk.more | apply Blk.put | (apply Blk.far; focus (first | assumption | (apply Ne.symm; assumption) | (simp; done) | (simp <;> omega)))))) hb1
  obtain ⟨z1_3, c1_3, f1_3⟩ := id B1_3
  have B1_4 : Blk w1 (w.heap.size + 1 + 1 + 1 + 1) _ := Blk.below (by repeat (with_reducible (first | assumption | (apply Blk.at; simp; done) | apply Blk.alloc | apply Blk.drew | apply Blk.drewN | apply Blk.more | apply Blk.put | (apply Blk.far; focus (first | assumption | (apply Ne.symm; assumption) | (simp; done) | (simp <;> omega)))))) hb1
  obtain ⟨z1_4, c1_4, f1_4⟩ := id B1_4
  go_wp2
  exact bodyPost_ret (v := .tuple #[.agg #[.int .i64 (tx (ballsT x p1 p2 p3 x' q1 q2 q3)), .int .i64 (ty (ballsT x p1 p2 p3 x' q1 q2 q3)), .int .i64 (tz (ballsT x p1 p2 p3 x' q1 q2 q3))], .int .i64 (td (ballsT x p1 p2 p3 x' q1 q2 q3)), .bool (tk (ballsT x p1 p2 p3 x' q1 q2 q3))]) (by simp [results, Tryz.results28, go_sem, *]) rfl ⟨rfl, (by repeat (with_reducible (first | exact Below.refl _ _ | assumption | apply ext_drew | apply ext_drewN | apply ext_alloc | apply ext_more | (refine ext_setCell ?_ (by simp <;> omega) _) | (refine ext_below ?_ (by assumption)))))⟩

set_option maxHeartbeats 2000000 in
theorem touches_ba (k x y z p1 p2 p3 k' x' y' z' q1 q2 q3 : Int) (e1 : (k == 1) = true) (e2 : (k' == 1) = false) (hr : 1 ≤ x ∧ x ≤ 3276800) (hs : shapeB k' x' y' z' = true) (w : World) : Calls Tryz.prog 28 #[.agg #[.int .i64 k, .int .i64 x, .int .i64 y, .int .i64 z], .agg #[.int .i64 p1, .int .i64 p2, .int .i64 p3], .agg #[.int .i64 k', .int .i64 x', .int .i64 y', .int .i64 z'], .agg #[.int .i64 q1, .int .i64 q2, .int .i64 q3]] w fun e w' => e = .returned (.tuple #[.agg #[.int .i64 (tx (ballAt x p1 p2 p3 k' x' y' z' q1 q2 q3)), .int .i64 (ty (ballAt x p1 p2 p3 k' x' y' z' q1 q2 q3)), .int .i64 (tz (ballAt x p1 p2 p3 k' x' y' z' q1 q2 q3))], .int .i64 (td (ballAt x p1 p2 p3 k' x' y' z' q1 q2 q3)), .bool (tk (ballAt x p1 p2 p3 k' x' y' z' q1 q2 q3))]) ∧ Below w.heap.size w w' := by
  have hmc := more_cell
  have hmf := more_frozen
  have hml := more_lt
  have HR := Lib.hid hr
  have HS := Lib.hid hs
  clear hr hs
  go_enter Tryz.func28, Tryz.ntmps28
  go_wp2_with fail
  refine region_quiet_but 11 (by kernel_rfl) (by kernel_rfl) ?_
  simp only [List.take_succ_cons, List.take_zero, List.drop_succ_cons, List.drop_zero]
  repeat (go_big_quiet_step (first | (go_at_call 24; exact calls_after (around_c _ _ _ _ _ _ _ _)) | (go_at_call 57; exact calls_after (ballAt_l x p1 p2 p3 k' x' y' z' q1 q2 q3 HR.out HS.out _))))
  refine wpQuiet_nil ?_
  rintro w1 hw1
  have hb1 := after_below hw1
  clear hw1
  have B1_0 : Blk w1 (w.heap.size) _ := Blk.below (by repeat (with_reducible (first | assumption | (apply Blk.at; simp; done) | apply Blk.alloc | apply Blk.drew | apply Blk.drewN | apply Blk.more | apply Blk.put | (apply Blk.far; focus (first | assumption | (apply Ne.symm; assumption) | (simp; done) | (simp <;> omega)))))) hb1
  obtain ⟨z1_0, c1_0, f1_0⟩ := id B1_0
  have B1_1 : Blk w1 (w.heap.size + 1) _ := Blk.below (by repeat (with_reducible (first | assumption | (apply Blk.at; simp; done) | apply Blk.alloc | apply Blk.drew | apply Blk.drewN | apply Blk.more | apply Blk.put | (apply Blk.far; focus (first | assumption | (apply Ne.symm; assumption) | (simp; done) | (simp <;> omega)))))) hb1
  obtain ⟨z1_1, c1_1, f1_1⟩ := id B1_1
  have B1_2 : Blk w1 (w.heap.size + 1 + 1) _ := Blk.below (by repeat (with_reducible (first | assumption | (apply Blk.at; simp; done) | apply Blk.alloc | apply Blk.drew | apply Blk.drewN | apply Blk.more | apply Blk.put | (apply Blk.far; focus (first | assumption | (apply Ne.symm; assumption) | (simp; done) | (simp <;> omega)))))) hb1
  obtain ⟨z1_2, c1_2, f1_2⟩ := id B1_2
  have B1_3 : Blk w1 (w.heap.size + 1 + 1 + 1) _ := Blk.below (by repeat (with_reducible (first | assumption | (apply Blk.at; simp; done) | apply Blk.alloc | apply Blk.drew | apply Blk.drewN | apply Blk.more | apply Blk.put | (apply Blk.far; focus (first | assumption | (apply Ne.symm; assumption) | (simp; done) | (simp <;> omega)))))) hb1
  obtain ⟨z1_3, c1_3, f1_3⟩ := id B1_3
  have B1_4 : Blk w1 (w.heap.size + 1 + 1 + 1 + 1) _ := Blk.below (by repeat (with_reducible (first | assumption | (apply Blk.at; simp; done) | apply Blk.alloc | apply Blk.drew | apply Blk.drewN | apply Blk.more | apply Blk.put | (apply Blk.far; focus (first | assumption | (apply Ne.symm; assumption) | (simp; done) | (simp <;> omega)))))) hb1
  obtain ⟨z1_4, c1_4, f1_4⟩ := id B1_4
  go_wp2
  exact bodyPost_ret (v := .tuple #[.agg #[.int .i64 (tx (ballAt x p1 p2 p3 k' x' y' z' q1 q2 q3)), .int .i64 (ty (ballAt x p1 p2 p3 k' x' y' z' q1 q2 q3)), .int .i64 (tz (ballAt x p1 p2 p3 k' x' y' z' q1 q2 q3))], .int .i64 (td (ballAt x p1 p2 p3 k' x' y' z' q1 q2 q3)), .bool (tk (ballAt x p1 p2 p3 k' x' y' z' q1 q2 q3))]) (by simp [results, Tryz.results28, go_sem, *]) rfl ⟨rfl, (by repeat (with_reducible (first | exact Below.refl _ _ | assumption | apply ext_drew | apply ext_drewN | apply ext_alloc | apply ext_more | (refine ext_setCell ?_ (by simp <;> omega) _) | (refine ext_below ?_ (by assumption)))))⟩

set_option maxHeartbeats 2000000 in
theorem touches_ab (k x y z p1 p2 p3 k' x' y' z' q1 q2 q3 : Int) (e1 : (k == 1) = false) (e2 : (k' == 1) = true) (hr : 1 ≤ x' ∧ x' ≤ 3276800) (hs : shapeB k x y z = true) (w : World) : Calls Tryz.prog 28 #[.agg #[.int .i64 k, .int .i64 x, .int .i64 y, .int .i64 z], .agg #[.int .i64 p1, .int .i64 p2, .int .i64 p3], .agg #[.int .i64 k', .int .i64 x', .int .i64 y', .int .i64 z'], .agg #[.int .i64 q1, .int .i64 q2, .int .i64 q3]] w fun e w' => e = .returned (.tuple #[.agg #[.int .i64 (-tx (ballAt x' q1 q2 q3 k x y z p1 p2 p3)), .int .i64 (-ty (ballAt x' q1 q2 q3 k x y z p1 p2 p3)), .int .i64 (-tz (ballAt x' q1 q2 q3 k x y z p1 p2 p3))], .int .i64 (td (ballAt x' q1 q2 q3 k x y z p1 p2 p3)), .bool (tk (ballAt x' q1 q2 q3 k x y z p1 p2 p3))]) ∧ Below w.heap.size w w' := by
  have hmc := more_cell
  have hmf := more_frozen
  have hml := more_lt
  have HR := Lib.hid hr
  have HS := Lib.hid hs
  clear hr hs
  obtain ⟨⟨u1, u2⟩, ⟨u3, u4⟩, u5, u6⟩ := t_bd (ballT_wb x' q1 q2 q3 (sub p1 (hf k x x)) (sub p2 (hf k x y)) (sub p3 (hf k x z)) (add p1 (hf k x x)) (add p2 (hf k x y)) (add p3 (hf k x z)))
  change _ ≤ tx (ballAt x' q1 q2 q3 k x y z p1 p2 p3) at u1
  change tx (ballAt x' q1 q2 q3 k x y z p1 p2 p3) ≤ _ at u2
  change _ ≤ ty (ballAt x' q1 q2 q3 k x y z p1 p2 p3) at u3
  change ty (ballAt x' q1 q2 q3 k x y z p1 p2 p3) ≤ _ at u4
  change _ ≤ tz (ballAt x' q1 q2 q3 k x y z p1 p2 p3) at u5
  change tz (ballAt x' q1 q2 q3 k x y z p1 p2 p3) ≤ _ at u6
  go_enter Tryz.func28, Tryz.ntmps28
  go_wp2_with fail
  refine wp_fresh ?_
  rintro w1 hb1
  have B1_0 : Blk w1 (w.heap.size) _ := Blk.below (by repeat (with_reducible (first | assumption | (apply Blk.at; simp; done) | apply Blk.alloc | apply Blk.drew | apply Blk.drewN | apply Blk.more | apply Blk.put | (apply Blk.far; focus (first | assumption | (apply Ne.symm; assumption) | (simp; done) | (simp <;> omega)))))) hb1
  obtain ⟨z1_0, c1_0, f1_0⟩ := id B1_0
  have B1_1 : Blk w1 (w.heap.size + 1) _ := Blk.below (by repeat (with_reducible (first | assumption | (apply Blk.at; simp; done) | apply Blk.alloc | apply Blk.drew | apply Blk.drewN | apply Blk.more | apply Blk.put | (apply Blk.far; focus (first | assumption | (apply Ne.symm; assumption) | (simp; done) | (simp <;> omega)))))) hb1
  obtain ⟨z1_1, c1_1, f1_1⟩ := id B1_1
  have B1_2 : Blk w1 (w.heap.size + 1 + 1) _ := Blk.below (by repeat (with_reducible (first | assumption | (apply Blk.at; simp; done) | apply Blk.alloc | apply Blk.drew | apply Blk.drewN | apply Blk.more | apply Blk.put | (apply Blk.far; focus (first | assumption | (apply Ne.symm; assumption) | (simp; done) | (simp <;> omega)))))) hb1
  obtain ⟨z1_2, c1_2, f1_2⟩ := id B1_2
  have B1_3 : Blk w1 (w.heap.size + 1 + 1 + 1) _ := Blk.below (by repeat (with_reducible (first | assumption | (apply Blk.at; simp; done) | apply Blk.alloc | apply Blk.drew | apply Blk.drewN | apply Blk.more | apply Blk.put | (apply Blk.far; focus (first | assumption | (apply Ne.symm; assumption) | (simp; done) | (simp <;> omega)))))) hb1
  obtain ⟨z1_3, c1_3, f1_3⟩ := id B1_3
  have B1_4 : Blk w1 (w.heap.size + 1 + 1 + 1 + 1) _ := Blk.below (by repeat (with_reducible (first | assumption | (apply Blk.at; simp; done) | apply Blk.alloc | apply Blk.drew | apply Blk.drewN | apply Blk.more | apply Blk.put | (apply Blk.far; focus (first | assumption | (apply Ne.symm; assumption) | (simp; done) | (simp <;> omega)))))) hb1
  obtain ⟨z1_4, c1_4, f1_4⟩ := id B1_4
  refine region_late [10, 11] 13 ?l2 ?hl2 (by kernel_rfl) (by kernel_rfl) ?_
  case hl2 => simp [lateE]; rfl
  refine any_grow (A := ?A2) 12 [11] (fun _ => #[.int .i64 0, .int .i64 0, .int .i64 0]) (by kernel_rfl) ?hrun2 ?hq2 ?htail2
  case hq2 =>
    intro w0 hb0
    simp only [List.take_succ_cons, List.take_zero]
    have B0_0 : Blk w0 _ _ := B1_0.below hb0
    obtain ⟨z0_0, c0_0, f0_0⟩ := id B0_0
    have B0_1 : Blk w0 _ _ := B1_1.below hb0
    obtain ⟨z0_1, c0_1, f0_1⟩ := id B0_1
    have B0_2 : Blk w0 _ _ := B1_2.below hb0
    obtain ⟨z0_2, c0_2, f0_2⟩ := id B0_2
    have B0_3 : Blk w0 _ _ := B1_3.below hb0
    obtain ⟨z0_3, c0_3, f0_3⟩ := id B0_3
    have B0_4 : Blk w0 _ _ := B1_4.below hb0
    obtain ⟨z0_4, c0_4, f0_4⟩ := id B0_4
    repeat (go_big_quiet_step ((first | (go_at_call 24; exact calls_after (around_c _ _ _ _ _ _ _ _)) | (go_at_call 57; exact calls_after (ballAt_l x' q1 q2 q3 k x y z p1 p2 p3 HR.out HS.out _)))))
    refine wpQuiet_nil ?_
    rfl
  case hrun2 =>
    intro j hj
    match j, hj with
    | 0, _ => exact ⟨_, _, rfl, fun a w => by simp [go_sem]; rfl⟩
  case htail2 =>
    intro gs w2 hb2 hblk hne
    obtain ⟨G2_0, hg2_0⟩ := hblk 0 (by decide)
    simp only [List.drop_succ_cons, List.drop_zero, List.length_cons, List.length_nil, laySlots]
    clear hblk hne
    generalize gs 0 = g2_0 at *
    have B2_0 : Blk w2 _ _ := B1_0.below hb2
    obtain ⟨z2_0, c2_0, f2_0⟩ := id B2_0
    have B2_1 : Blk w2 _ _ := B1_1.below hb2
    obtain ⟨z2_1, c2_1, f2_1⟩ := id B2_1
    have B2_2 : Blk w2 _ _ := B1_2.below hb2
    obtain ⟨z2_2, c2_2, f2_2⟩ := id B2_2
    have B2_3 : Blk w2 _ _ := B1_3.below hb2
    obtain ⟨z2_3, c2_3, f2_3⟩ := id B2_3
    have B2_4 : Blk w2 _ _ := B1_4.below hb2
    obtain ⟨z2_4, c2_4, f2_4⟩ := id B2_4
    obtain ⟨zg2_0, cg2_0, fg2_0⟩ := id G2_0
    have ne2_0_0 : g2_0 ≠ w.heap.size := by omega
    have ne2_0_1 : g2_0 ≠ w.heap.size + 1 := by omega
    have ne2_0_2 : g2_0 ≠ w.heap.size + 1 + 1 := by omega
    have ne2_0_3 : g2_0 ≠ w.heap.size + 1 + 1 + 1 := by omega
    have ne2_0_4 : g2_0 ≠ w.heap.size + 1 + 1 + 1 + 1 := by omega
    go_wp2_with fail
    refine ⟨rfl, ?_⟩
    go_wp2
    exact bodyPost_ret (v := .tuple #[.agg #[.int .i64 (-tx (ballAt x' q1 q2 q3 k x y z p1 p2 p3)), .int .i64 (-ty (ballAt x' q1 q2 q3 k x y z p1 p2 p3)), .int .i64 (-tz (ballAt x' q1 q2 q3 k x y z p1 p2 p3))], .int .i64 (td (ballAt x' q1 q2 q3 k x y z p1 p2 p3)), .bool (tk (ballAt x' q1 q2 q3 k x y z p1 p2 p3))]) (by simp [results, Tryz.results28, go_sem, *]) rfl ⟨rfl, (by repeat (with_reducible (first | exact Below.refl _ _ | assumption | apply ext_drew | apply ext_drewN | apply ext_alloc | apply ext_more | (refine ext_setCell ?_ (by simp <;> omega) _) | (refine ext_below ?_ (by assumption)))))⟩

set_option maxHeartbeats 2000000 in
theorem touches_aa (k x y z p1 p2 p3 k' x' y' z' q1 q2 q3 : Int) (e1 : (k == 1) = false) (e2 : (k' == 1) = false)  (w : World) : Calls Tryz.prog 28 #[.agg #[.int .i64 k, .int .i64 x, .int .i64 y, .int .i64 z], .agg #[.int .i64 p1, .int .i64 p2, .int .i64 p3], .agg #[.int .i64 k', .int .i64 x', .int .i64 y', .int .i64 z'], .agg #[.int .i64 q1, .int .i64 q2, .int .i64 q3]] w fun e w' => e = .returned (.tuple #[.agg #[.int .i64 (tx (blocksT (sub p1 (hf k x x)) (sub p2 (hf k x y)) (sub p3 (hf k x z)) (add p1 (hf k x x)) (add p2 (hf k x y)) (add p3 (hf k x z)) (sub q1 (hf k' x' x')) (sub q2 (hf k' x' y')) (sub q3 (hf k' x' z')) (add q1 (hf k' x' x')) (add q2 (hf k' x' y')) (add q3 (hf k' x' z')))), .int .i64 (ty (blocksT (sub p1 (hf k x x)) (sub p2 (hf k x y)) (sub p3 (hf k x z)) (add p1 (hf k x x)) (add p2 (hf k x y)) (add p3 (hf k x z)) (sub q1 (hf k' x' x')) (sub q2 (hf k' x' y')) (sub q3 (hf k' x' z')) (add q1 (hf k' x' x')) (add q2 (hf k' x' y')) (add q3 (hf k' x' z')))), .int .i64 (tz (blocksT (sub p1 (hf k x x)) (sub p2 (hf k x y)) (sub p3 (hf k x z)) (add p1 (hf k x x)) (add p2 (hf k x y)) (add p3 (hf k x z)) (sub q1 (hf k' x' x')) (sub q2 (hf k' x' y')) (sub q3 (hf k' x' z')) (add q1 (hf k' x' x')) (add q2 (hf k' x' y')) (add q3 (hf k' x' z'))))], .int .i64 (td (blocksT (sub p1 (hf k x x)) (sub p2 (hf k x y)) (sub p3 (hf k x z)) (add p1 (hf k x x)) (add p2 (hf k x y)) (add p3 (hf k x z)) (sub q1 (hf k' x' x')) (sub q2 (hf k' x' y')) (sub q3 (hf k' x' z')) (add q1 (hf k' x' x')) (add q2 (hf k' x' y')) (add q3 (hf k' x' z')))), .bool (tk (blocksT (sub p1 (hf k x x)) (sub p2 (hf k x y)) (sub p3 (hf k x z)) (add p1 (hf k x x)) (add p2 (hf k x y)) (add p3 (hf k x z)) (sub q1 (hf k' x' x')) (sub q2 (hf k' x' y')) (sub q3 (hf k' x' z')) (add q1 (hf k' x' x')) (add q2 (hf k' x' y')) (add q3 (hf k' x' z'))))]) ∧ Below w.heap.size w w' := by
  have hmc := more_cell
  have hmf := more_frozen
  have hml := more_lt
  go_enter Tryz.func28, Tryz.ntmps28
  go_wp2_with fail
  refine region_quiet_but 10 (by kernel_rfl) (by kernel_rfl) ?_
  simp only [List.take_succ_cons, List.take_zero, List.drop_succ_cons, List.drop_zero]
  repeat (go_big_quiet_step (first | (go_at_call 24; exact calls_after (around_c _ _ _ _ _ _ _ _)) | (go_at_call 58; exact calls_after (blocks_l _ _ _ _ _ _ _ _ _ _ _ _ _))))
  refine wpQuiet_nil ?_
  rintro w1 hw1
  have hb1 := after_below hw1
  clear hw1
  have B1_0 : Blk w1 (w.heap.size) _ := Blk.below (by repeat (with_reducible (first | assumption | (apply Blk.at; simp; done) | apply Blk.alloc | apply Blk.drew | apply Blk.drewN | apply Blk.more | apply Blk.put | (apply Blk.far; focus (first | assumption | (apply Ne.symm; assumption) | (simp; done) | (simp <;> omega)))))) hb1
  obtain ⟨z1_0, c1_0, f1_0⟩ := id B1_0
  have B1_1 : Blk w1 (w.heap.size + 1) _ := Blk.below (by repeat (with_reducible (first | assumption | (apply Blk.at; simp; done) | apply Blk.alloc | apply Blk.drew | apply Blk.drewN | apply Blk.more | apply Blk.put | (apply Blk.far; focus (first | assumption | (apply Ne.symm; assumption) | (simp; done) | (simp <;> omega)))))) hb1
  obtain ⟨z1_1, c1_1, f1_1⟩ := id B1_1
  have B1_2 : Blk w1 (w.heap.size + 1 + 1) _ := Blk.below (by repeat (with_reducible (first | assumption | (apply Blk.at; simp; done) | apply Blk.alloc | apply Blk.drew | apply Blk.drewN | apply Blk.more | apply Blk.put | (apply Blk.far; focus (first | assumption | (apply Ne.symm; assumption) | (simp; done) | (simp <;> omega)))))) hb1
  obtain ⟨z1_2, c1_2, f1_2⟩ := id B1_2
  have B1_3 : Blk w1 (w.heap.size + 1 + 1 + 1) _ := Blk.below (by repeat (with_reducible (first | assumption | (apply Blk.at; simp; done) | apply Blk.alloc | apply Blk.drew | apply Blk.drewN | apply Blk.more | apply Blk.put | (apply Blk.far; focus (first | assumption | (apply Ne.symm; assumption) | (simp; done) | (simp <;> omega)))))) hb1
  obtain ⟨z1_3, c1_3, f1_3⟩ := id B1_3
  have B1_4 : Blk w1 (w.heap.size + 1 + 1 + 1 + 1) _ := Blk.below (by repeat (with_reducible (first | assumption | (apply Blk.at; simp; done) | apply Blk.alloc | apply Blk.drew | apply Blk.drewN | apply Blk.more | apply Blk.put | (apply Blk.far; focus (first | assumption | (apply Ne.symm; assumption) | (simp; done) | (simp <;> omega)))))) hb1
  obtain ⟨z1_4, c1_4, f1_4⟩ := id B1_4
  go_wp2
  exact bodyPost_ret (v := .tuple #[.agg #[.int .i64 (tx (blocksT (sub p1 (hf k x x)) (sub p2 (hf k x y)) (sub p3 (hf k x z)) (add p1 (hf k x x)) (add p2 (hf k x y)) (add p3 (hf k x z)) (sub q1 (hf k' x' x')) (sub q2 (hf k' x' y')) (sub q3 (hf k' x' z')) (add q1 (hf k' x' x')) (add q2 (hf k' x' y')) (add q3 (hf k' x' z')))), .int .i64 (ty (blocksT (sub p1 (hf k x x)) (sub p2 (hf k x y)) (sub p3 (hf k x z)) (add p1 (hf k x x)) (add p2 (hf k x y)) (add p3 (hf k x z)) (sub q1 (hf k' x' x')) (sub q2 (hf k' x' y')) (sub q3 (hf k' x' z')) (add q1 (hf k' x' x')) (add q2 (hf k' x' y')) (add q3 (hf k' x' z')))), .int .i64 (tz (blocksT (sub p1 (hf k x x)) (sub p2 (hf k x y)) (sub p3 (hf k x z)) (add p1 (hf k x x)) (add p2 (hf k x y)) (add p3 (hf k x z)) (sub q1 (hf k' x' x')) (sub q2 (hf k' x' y')) (sub q3 (hf k' x' z')) (add q1 (hf k' x' x')) (add q2 (hf k' x' y')) (add q3 (hf k' x' z'))))], .int .i64 (td (blocksT (sub p1 (hf k x x)) (sub p2 (hf k x y)) (sub p3 (hf k x z)) (add p1 (hf k x x)) (add p2 (hf k x y)) (add p3 (hf k x z)) (sub q1 (hf k' x' x')) (sub q2 (hf k' x' y')) (sub q3 (hf k' x' z')) (add q1 (hf k' x' x')) (add q2 (hf k' x' y')) (add q3 (hf k' x' z')))), .bool (tk (blocksT (sub p1 (hf k x x)) (sub p2 (hf k x y)) (sub p3 (hf k x z)) (add p1 (hf k x x)) (add p2 (hf k x y)) (add p3 (hf k x z)) (sub q1 (hf k' x' x')) (sub q2 (hf k' x' y')) (sub q3 (hf k' x' z')) (add q1 (hf k' x' x')) (add q2 (hf k' x' y')) (add q3 (hf k' x' z'))))]) (by simp [results, Tryz.results28, go_sem, *]) rfl ⟨rfl, (by repeat (with_reducible (first | exact Below.refl _ _ | assumption | apply ext_drew | apply ext_drewN | apply ext_alloc | apply ext_more | (refine ext_setCell ?_ (by simp <;> omega) _) | (refine ext_below ?_ (by assumption)))))⟩

theorem touches_c (k x y z p1 p2 p3 k' x' y' z' q1 q2 q3 : Int) (h1 : shapeB k x y z = true) (h2 : shapeB k' x' y' z' = true) (w : World) : Calls Tryz.prog 28 #[.agg #[.int .i64 k, .int .i64 x, .int .i64 y, .int .i64 z], .agg #[.int .i64 p1, .int .i64 p2, .int .i64 p3], .agg #[.int .i64 k', .int .i64 x', .int .i64 y', .int .i64 z'], .agg #[.int .i64 q1, .int .i64 q2, .int .i64 q3]] w fun e w' => e = .returned (tup (touchT k x y z p1 p2 p3 k' x' y' z' q1 q2 q3)) ∧ Below w.heap.size w w' := by
  obtain ⟨_, a1, a2, _⟩ := shape_hf h1
  obtain ⟨_, b1, b2, _⟩ := shape_hf h2
  unfold touchT
  by_cases e1 : k = 1
  · rw [if_pos e1]
    by_cases e2 : k' = 1
    · rw [if_pos e2]; exact touches_bb k x y z p1 p2 p3 k' x' y' z' q1 q2 q3 (by simpa using e1) (by simpa using e2) w
    · rw [if_neg e2]; exact touches_ba k x y z p1 p2 p3 k' x' y' z' q1 q2 q3 (by simpa using e1) (by simpa using e2) ⟨a1, a2⟩ h2 w
  · rw [if_neg e1]
    by_cases e2 : k' = 1
    · rw [if_pos e2, tup_neg]; exact touches_ab k x y z p1 p2 p3 k' x' y' z' q1 q2 q3 (by simpa using e1) (by simpa using e2) ⟨b1, b2⟩ h1 w
    · rw [if_neg e2]; exact touches_aa k x y z p1 p2 p3 k' x' y' z' q1 q2 q3 (by simpa using e1) (by simpa using e2) w

end Go.Proofs.YtniahipadfgkbaaGreat
