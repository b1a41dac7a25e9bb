/- The contracts of geom.ball, geom.blocks. Conditions: none. -/
import Derived.Test.YtfagkbmphohelaaTouch3
import Derived.Test.YtfagkbmphohelaaBoxes
import Derived.Test.YtfagkbmphohelaaMem
namespace Go.Proofs.Ytfagkbmphohelaa
open Go.ChangeShapes Go.WideShapes Go.ChangeAt Go.RowKit Go.BigFrame

set_option maxHeartbeats 2000000 in
theorem ball_c00 (r p1 p2 p3 b1 b2 b3 b4 b5 b6 n1 n2 n3 : Int) (H1 : Hid ((sub (max b1 (min b4 p1)) p1) = n1)) (H2 : Hid ((sub (max b2 (min b5 p2)) p2) = n2)) (H3 : Hid ((sub (max b3 (min b6 p3)) p3) = n3)) (hz : ¬ n1 = 0) (hd : sub r (long n1 n2 n3) ≤ 0) (w : World) : Calls Try.prog 111 #[.int .i64 r, .agg #[.int .i64 p1, .int .i64 p2, .int .i64 p3], .agg #[.int .i64 b1, .int .i64 b2, .int .i64 b3, .int .i64 b4, .int .i64 b5, .int .i64 b6]] w fun e w' => e = .returned (.tuple #[.agg #[.int .i64 0, .int .i64 0, .int .i64 0], .int .i64 0, .bool false]) ∧ Below w.heap.size w w' := by
  have hmc := more_cell
  have hmf := more_frozen
  have hml := more_lt
  go_enter Try.func111, Try.ntmps111
  go_wp2_with fail
  refine wp_fresh ?_
  rintro w1 hb1
  have B1_0 : Blk w1 (w.heap.size) _ := Blk.below (by repeat (with_reducible (first | assumption | (apply Blk.at; simp; done) | apply Blk.alloc | apply Blk.drew | apply Blk.drewN | apply Blk.more | apply Blk.put | (apply Blk.far; focus (first | assumption | (apply Ne.symm; assumption) | (simp; done) | (simp <;> omega)))))) hb1
  obtain ⟨z1_0, c1_0, f1_0⟩ := id B1_0
  have B1_1 : Blk w1 (w.heap.size + 1) _ := Blk.below (by repeat (with_reducible (first | assumption | (apply Blk.at; simp; done) | apply Blk.alloc | apply Blk.drew | apply Blk.drewN | apply Blk.more | apply Blk.put | (apply Blk.far; focus (first | assumption | (apply Ne.symm; assumption) | (simp; done) | (simp <;> omega)))))) hb1
  obtain ⟨z1_1, c1_1, f1_1⟩ := id B1_1
  have B1_2 : Blk w1 (w.heap.size + 1 + 1) _ := Blk.below (by repeat (with_reducible (first | assumption | (apply Blk.at; simp; done) | apply Blk.alloc | apply Blk.drew | apply Blk.drewN | apply Blk.more | apply Blk.put | (apply Blk.far; focus (first | assumption | (apply Ne.symm; assumption) | (simp; done) | (simp <;> omega)))))) hb1
  obtain ⟨z1_2, c1_2, f1_2⟩ := id B1_2
  refine region_grow (A := ?A2) 5 [9] (fun _ => #[.int .i64 0, .int .i64 0, .int .i64 0]) (by kernel_rfl) (by kernel_rfl) ?hrun2 ?hq2 ?htail2
  case hq2 =>
    intro w0 hb0
    simp only [List.take_succ_cons, List.take_zero]
    have B0_0 : Blk w0 _ _ := B1_0.below hb0
    obtain ⟨z0_0, c0_0, f0_0⟩ := id B0_0
    have B0_1 : Blk w0 _ _ := B1_1.below hb0
    obtain ⟨z0_1, c0_1, f0_1⟩ := id B0_1
    have B0_2 : Blk w0 _ _ := B1_2.below hb0
    obtain ⟨z0_2, c0_2, f0_2⟩ := id B0_2
    repeat (go_big_quiet_step ((first | (go_at_call 27; exact calls_after (near_c _ _ _ _ _ _ _ _ _ _)) | (go_at_call 60; exact calls_after (minus_c _ _ _ _ _ _ _)))))
    refine wpQuiet_nil ?_
    rfl
  case hrun2 =>
    intro j hj
    match j, hj with
    | 0, _ => exact ⟨_, _, rfl, fun a w => by simp [go_sem]; rfl⟩
  case htail2 =>
    intro gs w2 hb2 hblk hne
    obtain ⟨G2_0, hg2_0⟩ := hblk 0 (by decide)
    simp only [List.drop_succ_cons, List.drop_zero, List.length_cons, List.length_nil, laySlots]
    clear hblk hne
    generalize gs 0 = g2_0 at *
    have B2_0 : Blk w2 _ _ := B1_0.below hb2
    obtain ⟨z2_0, c2_0, f2_0⟩ := id B2_0
    have B2_1 : Blk w2 _ _ := B1_1.below hb2
    obtain ⟨z2_1, c2_1, f2_1⟩ := id B2_1
    have B2_2 : Blk w2 _ _ := B1_2.below hb2
    obtain ⟨z2_2, c2_2, f2_2⟩ := id B2_2
    obtain ⟨zg2_0, cg2_0, fg2_0⟩ := id G2_0
    have ne2_0_0 : g2_0 ≠ w.heap.size := by omega
    have ne2_0_1 : g2_0 ≠ w.heap.size + 1 := by omega
    have ne2_0_2 : g2_0 ≠ w.heap.size + 1 + 1 := by omega
    simp only [H1.out, H2.out, H3.out]
    go_wp2_with fail
    refine (long_c _ _ _ _).mono ?_
    rintro e w3 ⟨rfl, hb3⟩
    have B3_0 : Blk w3 (w.heap.size) _ := Blk.below (by repeat (with_reducible (first | assumption | (apply Blk.at; simp; done) | apply Blk.alloc | apply Blk.drew | apply Blk.drewN | apply Blk.more | apply Blk.put | (apply Blk.far; focus (first | assumption | (apply Ne.symm; assumption) | (simp; done) | (simp <;> omega)))))) hb3
    obtain ⟨z3_0, c3_0, f3_0⟩ := id B3_0
    have B3_1 : Blk w3 (w.heap.size + 1) _ := Blk.below (by repeat (with_reducible (first | assumption | (apply Blk.at; simp; done) | apply Blk.alloc | apply Blk.drew | apply Blk.drewN | apply Blk.more | apply Blk.put | (apply Blk.far; focus (first | assumption | (apply Ne.symm; assumption) | (simp; done) | (simp <;> omega)))))) hb3
    obtain ⟨z3_1, c3_1, f3_1⟩ := id B3_1
    have B3_2 : Blk w3 (w.heap.size + 1 + 1) _ := Blk.below (by repeat (with_reducible (first | assumption | (apply Blk.at; simp; done) | apply Blk.alloc | apply Blk.drew | apply Blk.drewN | apply Blk.more | apply Blk.put | (apply Blk.far; focus (first | assumption | (apply Ne.symm; assumption) | (simp; done) | (simp <;> omega)))))) hb3
    obtain ⟨z3_2, c3_2, f3_2⟩ := id B3_2
    have B3_3 : Blk w3 (g2_0) _ := Blk.below (by repeat (with_reducible (first | assumption | (apply Blk.at; simp; done) | apply Blk.alloc | apply Blk.drew | apply Blk.drewN | apply Blk.more | apply Blk.put | (apply Blk.far; focus (first | assumption | (apply Ne.symm; assumption) | (simp; done) | (simp <;> omega)))))) hb3
    try simp only [List.setIfInBounds_toArray, List.set_cons_zero, List.set_cons_succ] at B3_3
    obtain ⟨z3_3, c3_3, f3_3⟩ := id B3_3
    go_wp2_with fail
    refine (sub_c _ _ _).mono ?_
    rintro e w' ⟨rfl, rfl⟩
    go_wp2
    exact bodyPost_ret (v := .tuple #[.agg #[.int .i64 0, .int .i64 0, .int .i64 0], .int .i64 0, .bool false]) (by simp [results, Try.results111, go_sem, *]) rfl ⟨rfl, (by repeat (with_reducible (first | exact Below.refl _ _ | assumption | apply ext_drew | apply ext_drewN | apply ext_alloc | apply ext_more | (refine ext_setCell ?_ (by simp <;> omega) _) | (refine ext_below ?_ (by assumption)))))⟩

set_option maxHeartbeats 2000000 in
theorem ball_c01 (r p1 p2 p3 b1 b2 b3 b4 b5 b6 n1 n2 n3 : Int) (H1 : Hid ((sub (max b1 (min b4 p1)) p1) = n1)) (H2 : Hid ((sub (max b2 (min b5 p2)) p2) = n2)) (H3 : Hid ((sub (max b3 (min b6 p3)) p3) = n3)) (hz : ¬ n1 = 0) (hd : 0 < sub r (long n1 n2 n3)) (w : World) : Calls Try.prog 111 #[.int .i64 r, .agg #[.int .i64 p1, .int .i64 p2, .int .i64 p3], .agg #[.int .i64 b1, .int .i64 b2, .int .i64 b3, .int .i64 b4, .int .i64 b5, .int .i64 b6]] w fun e w' => e = .returned (.tuple #[.agg #[.int .i64 (unit1 n1 n2 n3), .int .i64 (unit2 n1 n2 n3), .int .i64 (unit3 n1 n2 n3)], .int .i64 (sub r (long n1 n2 n3)), .bool true]) ∧ Below w.heap.size w w' := by
  have hmc := more_cell
  have hmf := more_frozen
  have hml := more_lt
  go_enter Try.func111, Try.ntmps111
  go_wp2_with fail
  refine wp_fresh ?_
  rintro w1 hb1
  have B1_0 : Blk w1 (w.heap.size) _ := Blk.below (by repeat (with_reducible (first | assumption | (apply Blk.at; simp; done) | apply Blk.alloc | apply Blk.drew | apply Blk.drewN | apply Blk.more | apply Blk.put | (apply Blk.far; focus (first | assumption | (apply Ne.symm; assumption) | (simp; done) | (simp <;> omega)))))) hb1
  obtain ⟨z1_0, c1_0, f1_0⟩ := id B1_0
  have B1_1 : Blk w1 (w.heap.size + 1) _ := Blk.below (by repeat (with_reducible (first | assumption | (apply Blk.at; simp; done) | apply Blk.alloc | apply Blk.drew | apply Blk.drewN | apply Blk.more | apply Blk.put | (apply Blk.far; focus (first | assumption | (apply Ne.symm; assumption) | (simp; done) | (simp <;> omega)))))) hb1
  obtain ⟨z1_1, c1_1, f1_1⟩ := id B1_1
  have B1_2 : Blk w1 (w.heap.size + 1 + 1) _ := Blk.below (by repeat (with_reducible (first | assumption | (apply Blk.at; simp; done) | apply Blk.alloc | apply Blk.drew | apply Blk.drewN | apply Blk.more | apply Blk.put | (apply Blk.far; focus (first | assumption | (apply Ne.symm; assumption) | (simp; done) | (simp <;> omega)))))) hb1
  obtain ⟨z1_2, c1_2, f1_2⟩ := id B1_2
  refine region_grow (A := ?A2) 5 [9] (fun _ => #[.int .i64 0, .int .i64 0, .int .i64 0]) (by kernel_rfl) (by kernel_rfl) ?hrun2 ?hq2 ?htail2
  case hq2 =>
    intro w0 hb0
    simp only [List.take_succ_cons, List.take_zero]
    have B0_0 : Blk w0 _ _ := B1_0.below hb0
    obtain ⟨z0_0, c0_0, f0_0⟩ := id B0_0
    have B0_1 : Blk w0 _ _ := B1_1.below hb0
    obtain ⟨z0_1, c0_1, f0_1⟩ := id B0_1
    have B0_2 : Blk w0 _ _ := B1_2.below hb0
    obtain ⟨z0_2, c0_2, f0_2⟩ := id B0_2
    repeat (go_big_quiet_step ((first | (go_at_call 27; exact calls_after (near_c _ _ _ _ _ _ _ _ _ _)) | (go_at_call 60; exact calls_after (minus_c _ _ _ _ _ _ _)))))
    refine wpQuiet_nil ?_
    rfl
  case hrun2 =>
    intro j hj
    match j, hj with
    | 0, _ => exact ⟨_, _, rfl, fun a w => by simp [go_sem]; rfl⟩
  case htail2 =>
    intro gs w2 hb2 hblk hne
    obtain ⟨G2_0, hg2_0⟩ := hblk 0 (by decide)
    simp only [List.drop_succ_cons, List.drop_zero, List.length_cons, List.length_nil, laySlots]
    clear hblk hne
    generalize gs 0 = g2_0 at *
    have B2_0 : Blk w2 _ _ := B1_0.below hb2
    obtain ⟨z2_0, c2_0, f2_0⟩ := id B2_0
    have B2_1 : Blk w2 _ _ := B1_1.below hb2
    obtain ⟨z2_1, c2_1, f2_1⟩ := id B2_1
    have B2_2 : Blk w2 _ _ := B1_2.below hb2
    obtain ⟨z2_2, c2_2, f2_2⟩ := id B2_2
    obtain ⟨zg2_0, cg2_0, fg2_0⟩ := id G2_0
    have ne2_0_0 : g2_0 ≠ w.heap.size := by omega
    have ne2_0_1 : g2_0 ≠ w.heap.size + 1 := by omega
    have ne2_0_2 : g2_0 ≠ w.heap.size + 1 + 1 := by omega
    simp only [H1.out, H2.out, H3.out]
    go_wp2_with fail
    refine (long_c _ _ _ _).mono ?_
    rintro e w3 ⟨rfl, hb3⟩
    have B3_0 : Blk w3 (w.heap.size) _ := Blk.below (by repeat (with_reducible (first | assumption | (apply Blk.at; simp; done) | apply Blk.alloc | apply Blk.drew | apply Blk.drewN | apply Blk.more | apply Blk.put | (apply Blk.far; focus (first | assumption | (apply Ne.symm; assumption) | (simp; done) | (simp <;> omega)))))) hb3
    obtain ⟨z3_0, c3_0, f3_0⟩ := id B3_0
    have B3_1 : Blk w3 (w.heap.size + 1) _ := Blk.below (by repeat (with_reducible (first | assumption | (apply Blk.at; simp; done) | apply Blk.alloc | apply Blk.drew | apply Blk.drewN | apply Blk.more | apply Blk.put | (apply Blk.far; focus (first | assumption | (apply Ne.symm; assumption) | (simp; done) | (simp <;> omega)))))) hb3
    obtain ⟨z3_1, c3_1, f3_1⟩ := id B3_1
    have B3_2 : Blk w3 (w.heap.size + 1 + 1) _ := Blk.below (by repeat (with_reducible (first | assumption | (apply Blk.at; simp; done) | apply Blk.alloc | apply Blk.drew | apply Blk.drewN | apply Blk.more | apply Blk.put | (apply Blk.far; focus (first | assumption | (apply Ne.symm; assumption) | (simp; done) | (simp <;> omega)))))) hb3
    obtain ⟨z3_2, c3_2, f3_2⟩ := id B3_2
    have B3_3 : Blk w3 (g2_0) _ := Blk.below (by repeat (with_reducible (first | assumption | (apply Blk.at; simp; done) | apply Blk.alloc | apply Blk.drew | apply Blk.drewN | apply Blk.more | apply Blk.put | (apply Blk.far; focus (first | assumption | (apply Ne.symm; assumption) | (simp; done) | (simp <;> omega)))))) hb3
    try simp only [List.setIfInBounds_toArray, List.set_cons_zero, List.set_cons_succ] at B3_3
    obtain ⟨z3_3, c3_3, f3_3⟩ := id B3_3
    go_wp2_with fail
    refine (sub_c _ _ _).mono ?_
    rintro e w' ⟨rfl, rfl⟩
    go_wp2_with fail
    refine (unit_c _ _ _ _).mono ?_
    rintro e w4 ⟨rfl, hb4⟩
    have B4_0 : Blk w4 (w.heap.size) _ := Blk.below (by repeat (with_reducible (first | assumption | (apply Blk.at; simp; done) | apply Blk.alloc | apply Blk.drew | apply Blk.drewN | apply Blk.more | apply Blk.put | (apply Blk.far; focus (first | assumption | (apply Ne.symm; assumption) | (simp; done) | (simp <;> omega)))))) hb4
    obtain ⟨z4_0, c4_0, f4_0⟩ := id B4_0
    have B4_1 : Blk w4 (w.heap.size + 1) _ := Blk.below (by repeat (with_reducible (first | assumption | (apply Blk.at; simp; done) | apply Blk.alloc | apply Blk.drew | apply Blk.drewN | apply Blk.more | apply Blk.put | (apply Blk.far; focus (first | assumption | (apply Ne.symm; assumption) | (simp; done) | (simp <;> omega)))))) hb4
    obtain ⟨z4_1, c4_1, f4_1⟩ := id B4_1
    have B4_2 : Blk w4 (w.heap.size + 1 + 1) _ := Blk.below (by repeat (with_reducible (first | assumption | (apply Blk.at; simp; done) | apply Blk.alloc | apply Blk.drew | apply Blk.drewN | apply Blk.more | apply Blk.put | (apply Blk.far; focus (first | assumption | (apply Ne.symm; assumption) | (simp; done) | (simp <;> omega)))))) hb4
    obtain ⟨z4_2, c4_2, f4_2⟩ := id B4_2
    have B4_3 : Blk w4 (g2_0) _ := Blk.below (by repeat (with_reducible (first | assumption | (apply Blk.at; simp; done) | apply Blk.alloc | apply Blk.drew | apply Blk.drewN | apply Blk.more | apply Blk.put | (apply Blk.far; focus (first | assumption | (apply Ne.symm; assumption) | (simp; done) | (simp <;> omega)))))) hb4
    obtain ⟨z4_3, c4_3, f4_3⟩ := id B4_3
    go_wp2
    exact bodyPost_ret (v := .tuple #[.agg #[.int .i64 (unit1 n1 n2 n3), .int .i64 (unit2 n1 n2 n3), .int .i64 (unit3 n1 n2 n3)], .int .i64 (sub r (long n1 n2 n3)), .bool true]) (by simp [results, Try.results111, go_sem, *]) rfl ⟨rfl, (by repeat (with_reducible (first | exact Below.refl _ _ | assumption | apply ext_drew | apply ext_drewN | apply ext_alloc | apply ext_more | (refine ext_setCell ?_ (by simp <;> omega) _) | (refine ext_below ?_ (by assumption)))))⟩

set_option maxHeartbeats 2000000 in
theorem ball_c10 (r p1 p2 p3 b1 b2 b3 b4 b5 b6 n2 n3 : Int) (H1 : Hid ((sub (max b1 (min b4 p1)) p1) = 0)) (H2 : Hid ((sub (max b2 (min b5 p2)) p2) = n2)) (H3 : Hid ((sub (max b3 (min b6 p3)) p3) = n3)) (hz : ¬ n2 = 0) (hd : sub r (long 0 n2 n3) ≤ 0) (w : World) : Calls Try.prog 111 #[.int .i64 r, .agg #[.int .i64 p1, .int .i64 p2, .int .i64 p3], .agg #[.int .i64 b1, .int .i64 b2, .int .i64 b3, .int .i64 b4, .int .i64 b5, .int .i64 b6]] w fun e w' => e = .returned (.tuple #[.agg #[.int .i64 0, .int .i64 0, .int .i64 0], .int .i64 0, .bool false]) ∧ Below w.heap.size w w' := by
  have hmc := more_cell
  have hmf := more_frozen
  have hml := more_lt
  go_enter Try.func111, Try.ntmps111
  go_wp2_with fail
  refine wp_fresh ?_
  rintro w1 hb1
  have B1_0 : Blk w1 (w.heap.size) _ := Blk.below (by repeat (with_reducible (first | assumption | (apply Blk.at; simp; done) | apply Blk.alloc | apply Blk.drew | apply Blk.drewN | apply Blk.more | apply Blk.put | (apply Blk.far; focus (first | assumption | (apply Ne.symm; assumption) | (simp; done) | (simp <;> omega)))))) hb1
  obtain ⟨z1_0, c1_0, f1_0⟩ := id B1_0
  have B1_1 : Blk w1 (w.heap.size + 1) _ := Blk.below (by repeat (with_reducible (first | assumption | (apply Blk.at; simp; done) | apply Blk.alloc | apply Blk.drew | apply Blk.drewN | apply Blk.more | apply Blk.put | (apply Blk.far; focus (first | assumption | (apply Ne.symm; assumption) | (simp; done) | (simp <;> omega)))))) hb1
  obtain ⟨z1_1, c1_1, f1_1⟩ := id B1_1
  have B1_2 : Blk w1 (w.heap.size + 1 + 1) _ := Blk.below (by repeat (with_reducible (first | assumption | (apply Blk.at; simp; done) | apply Blk.alloc | apply Blk.drew | apply Blk.drewN | apply Blk.more | apply Blk.put | (apply Blk.far; focus (first | assumption | (apply Ne.symm; assumption) | (simp; done) | (simp <;> omega)))))) hb1
  obtain ⟨z1_2, c1_2, f1_2⟩ := id B1_2
  refine region_grow (A := ?A2) 5 [9] (fun _ => #[.int .i64 0, .int .i64 0, .int .i64 0]) (by kernel_rfl) (by kernel_rfl) ?hrun2 ?hq2 ?htail2
  case hq2 =>
    intro w0 hb0
    simp only [List.take_succ_cons, List.take_zero]
    have B0_0 : Blk w0 _ _ := B1_0.below hb0
    obtain ⟨z0_0, c0_0, f0_0⟩ := id B0_0
    have B0_1 : Blk w0 _ _ := B1_1.below hb0
    obtain ⟨z0_1, c0_1, f0_1⟩ := id B0_1
    have B0_2 : Blk w0 _ _ := B1_2.below hb0
    obtain ⟨z0_2, c0_2, f0_2⟩ := id B0_2
    repeat (go_big_quiet_step ((first | (go_at_call 27; exact calls_after (near_c _ _ _ _ _ _ _ _ _ _)) | (go_at_call 60; exact calls_after (minus_c _ _ _ _ _ _ _)))))
    refine wpQuiet_nil ?_
    rfl
  case hrun2 =>
    intro j hj
    match j, hj with
    | 0, _ => exact ⟨_, _, rfl, fun a w => by simp [go_sem]; rfl⟩
  case htail2 =>
    intro gs w2 hb2 hblk hne
    obtain ⟨G2_0, hg2_0⟩ := hblk 0 (by decide)
    simp only [List.drop_succ_cons, List.drop_zero, List.length_cons, List.length_nil, laySlots]
    clear hblk hne
    generalize gs 0 = g2_0 at *
    have B2_0 : Blk w2 _ _ := B1_0.below hb2
    obtain ⟨z2_0, c2_0, f2_0⟩ := id B2_0
    have B2_1 : Blk w2 _ _ := B1_1.below hb2
    obtain ⟨z2_1, c2_1, f2_1⟩ := id B2_1
    have B2_2 : Blk w2 _ _ := B1_2.below hb2
    obtain ⟨z2_2, c2_2, f2_2⟩ := id B2_2
    obtain ⟨zg2_0, cg2_0, fg2_0⟩ := id G2_0
    have ne2_0_0 : g2_0 ≠ w.heap.size := by omega
    have ne2_0_1 : g2_0 ≠ w.heap.size + 1 := by omega
    have ne2_0_2 : g2_0 ≠ w.heap.size + 1 + 1 := by omega
    simp only [H1.out, H2.out, H3.out]
    go_wp2_with fail
    refine (long_c _ _ _ _).mono ?_
    rintro e w3 ⟨rfl, hb3⟩
    have B3_0 : Blk w3 (w.heap.size) _ := Blk.below (by repeat (with_reducible (first | assumption | (apply Blk.at; simp; done) | apply Blk.alloc | apply Blk.drew | apply Blk.drewN | apply Blk.more | apply Blk.put | (apply Blk.far; focus (first | assumption | (apply Ne.symm; assumption) | (simp; done) | (simp <;> omega)))))) hb3
    obtain ⟨z3_0, c3_0, f3_0⟩ := id B3_0
    have B3_1 : Blk w3 (w.heap.size + 1) _ := Blk.below (by repeat (with_reducible (first | assumption | (apply Blk.at; simp; done) | apply Blk.alloc | apply Blk.drew | apply Blk.drewN | apply Blk.more | apply Blk.put | (apply Blk.far; focus (first | assumption | (apply Ne.symm; assumption) | (simp; done) | (simp <;> omega)))))) hb3
    obtain ⟨z3_1, c3_1, f3_1⟩ := id B3_1
    have B3_2 : Blk w3 (w.heap.size + 1 + 1) _ := Blk.below (by repeat (with_reducible (first | assumption | (apply Blk.at; simp; done) | apply Blk.alloc | apply Blk.drew | apply Blk.drewN | apply Blk.more | apply Blk.put | (apply Blk.far; focus (first | assumption | (apply Ne.symm; assumption) | (simp; done) | (simp <;> omega)))))) hb3
    obtain ⟨z3_2, c3_2, f3_2⟩ := id B3_2
    have B3_3 : Blk w3 (g2_0) _ := Blk.below (by repeat (with_reducible (first | assumption | (apply Blk.at; simp; done) | apply Blk.alloc | apply Blk.drew | apply Blk.drewN | apply Blk.more | apply Blk.put | (apply Blk.far; focus (first | assumption | (apply Ne.symm; assumption) | (simp; done) | (simp <;> omega)))))) hb3
    try simp only [List.setIfInBounds_toArray, List.set_cons_zero, List.set_cons_succ] at B3_3
    obtain ⟨z3_3, c3_3, f3_3⟩ := id B3_3
    go_wp2_with fail
    refine (sub_c _ _ _).mono ?_
    rintro e w' ⟨rfl, rfl⟩
    go_wp2
    exact bodyPost_ret (v := .tuple #[.agg #[.int .i64 0, .int .i64 0, .int .i64 0], .int .i64 0, .bool false]) (by simp [results, Try.results111, go_sem, *]) rfl ⟨rfl, (by repeat (with_reducible (first | exact Below.refl _ _ | assumption | apply ext_drew | apply ext_drewN | apply ext_alloc | apply ext_more | (refine ext_setCell ?_ (by simp <;> omega) _) | (refine ext_below ?_ (by assumption)))))⟩

set_option maxHeartbeats 2000000 in
theorem ball_c11 (r p1 p2 p3 b1 b2 b3 b4 b5 b6 n2 n3 : Int) (H1 : Hid ((sub (max b1 (min b4 p1)) p1) = 0)) (H2 : Hid ((sub (max b2 (min b5 p2)) p2) = n2)) (H3 : Hid ((sub (max b3 (min b6 p3)) p3) = n3)) (hz : ¬ n2 = 0) (hd : 0 < sub r (long 0 n2 n3)) (w : World) : Calls Try.prog 111 #[.int .i64 r, .agg #[.int .i64 p1, .int .i64 p2, .int .i64 p3], .agg #[.int .i64 b1, .int .i64 b2, .int .i64 b3, .int .i64 b4, .int .i64 b5, .int .i64 b6]] w fun e w' => e = .returned (.tuple #[.agg #[.int .i64 (unit1 0 n2 n3), .int .i64 (unit2 0 n2 n3), .int .i64 (unit3 0 n2 n3)], .int .i64 (sub r (long 0 n2 n3)), .bool true]) ∧ Below w.heap.size w w' := by
  have hmc := more_cell
  have hmf := more_frozen
  have hml := more_lt
  go_enter Try.func111, Try.ntmps111
  go_wp2_with fail
  refine wp_fresh ?_
  rintro w1 hb1
  have B1_0 : Blk w1 (w.heap.size) _ := Blk.below (by repeat (with_reducible (first | assumption | (apply Blk.at; simp; done) | apply Blk.alloc | apply Blk.drew | apply Blk.drewN | apply Blk.more | apply Blk.put | (apply Blk.far; focus (first | assumption | (apply Ne.symm; assumption) | (simp; done) | (simp <;> omega)))))) hb1
  obtain ⟨z1_0, c1_0, f1_0⟩ := id B1_0
  have B1_1 : Blk w1 (w.heap.size + 1) _ := Blk.below (by repeat (with_reducible (first | assumption | (apply Blk.at; simp; done) | apply Blk.alloc | apply Blk.drew | apply Blk.drewN | apply Blk.more | apply Blk.put | (apply Blk.far; focus (first | assumption | (apply Ne.symm; assumption) | (simp; done) | (simp <;> omega)))))) hb1
  obtain ⟨z1_1, c1_1, f1_1⟩ := id B1_1
  have B1_2 : Blk w1 (w.heap.size + 1 + 1) _ := Blk.below (by repeat (with_reducible (first | assumption | (apply Blk.at; simp; done) | apply Blk.alloc | apply Blk.drew | apply Blk.drewN | apply Blk.more | apply Blk.put | (apply Blk.far; focus (first | assumption | (apply Ne.symm; assumption) | (simp; done) | (simp <;> omega)))))) hb1
  obtain ⟨z1_2, c1_2, f1_2⟩ := id B1_2
  refine region_grow (A := ?A2) 5 [9] (fun _ => #[.int .i64 0, .int .i64 0, .int .i64 0]) (by kernel_rfl) (by kernel_rfl) ?hrun2 ?hq2 ?htail2
  case hq2 =>
    intro w0 hb0
    simp only [List.take_succ_cons, List.take_zero]
    have B0_0 : Blk w0 _ _ := B1_0.below hb0
    obtain ⟨z0_0, c0_0, f0_0⟩ := id B0_0
    have B0_1 : Blk w0 _ _ := B1_1.below hb0
    obtain ⟨z0_1, c0_1, f0_1⟩ := id B0_1
    have B0_2 : Blk w0 _ _ := B1_2.below hb0
    obtain ⟨z0_2, c0_2, f0_2⟩ := id B0_2
    repeat (go_big_quiet_step ((first | (go_at_call 27; exact calls_after (near_c _ _ _ _ _ _ _ _ _ _)) | (go_at_call 60; exact calls_after (minus_c _ _ _ _ _ _ _)))))
    refine wpQuiet_nil ?_
    rfl
  case hrun2 =>
    intro j hj
    match j, hj with
    | 0, _ => exact ⟨_, _, rfl, fun a w => by simp [go_sem]; rfl⟩
  case htail2 =>
    intro gs w2 hb2 hblk hne
    obtain ⟨G2_0, hg2_0⟩ := hblk 0 (by decide)
    simp only [List.drop_succ_cons, List.drop_zero, List.length_cons, List.length_nil, laySlots]
    clear hblk hne
    generalize gs 0 = g2_0 at *
    have B2_0 : Blk w2 _ _ := B1_0.below hb2
    obtain ⟨z2_0, c2_0, f2_0⟩ := id B2_0
    have B2_1 : Blk w2 _ _ := B1_1.below hb2
    obtain ⟨z2_1, c2_1, f2_1⟩ := id B2_1
    have B2_2 : Blk w2 _ _ := B1_2.below hb2
    obtain ⟨z2_2, c2_2, f2_2⟩ := id B2_2
    obtain ⟨zg2_0, cg2_0, fg2_0⟩ := id G2_0
    have ne2_0_0 : g2_0 ≠ w.heap.size := by omega
    have ne2_0_1 : g2_0 ≠ w.heap.size + 1 := by omega
    have ne2_0_2 : g2_0 ≠ w.heap.size + 1 + 1 := by omega
    simp only [H1.out, H2.out, H3.out]
    go_wp2_with fail
    refine (long_c _ _ _ _).mono ?_
    rintro e w3 ⟨rfl, hb3⟩
    have B3_0 : Blk w3 (w.heap.size) _ := Blk.below (by repeat (with_reducible (first | assumption | (apply Blk.at; simp; done) | apply Blk.alloc | apply Blk.drew | apply Blk.drewN | apply Blk.more | apply Blk.put | (apply Blk.far; focus (first | assumption | (apply Ne.symm; assumption) | (simp; done) | (simp <;> omega)))))) hb3
    obtain ⟨z3_0, c3_0, f3_0⟩ := id B3_0
    have B3_1 : Blk w3 (w.heap.size + 1) _ := Blk.below (by repeat (with_reducible (first | assumption | (apply Blk.at; simp; done) | apply Blk.alloc | apply Blk.drew | apply Blk.drewN | apply Blk.more | apply Blk.put | (apply Blk.far; focus (first | assumption | (apply Ne.symm; assumption) | (simp; done) | (simp <;> omega)))))) hb3
    obtain ⟨z3_1, c3_1, f3_1⟩ := id B3_1
    have B3_2 : Blk w3 (w.heap.size + 1 + 1) _ := Blk.below (by repeat (with_reducible (first | assumption | (apply Blk.at; simp; done) | apply Blk.alloc | apply Blk.drew | apply Blk.drewN | apply Blk.more | apply Blk.put | (apply Blk.far; focus (first | assumption | (apply Ne.symm; assumption) | (simp; done) | (simp <;> omega)))))) hb3
    obtain ⟨z3_2, c3_2, f3_2⟩ := id B3_2
    have B3_3 : Blk w3 (g2_0) _ := Blk.below (by repeat (with_reducible (first | assumption | (apply Blk.at; simp; done) | apply Blk.alloc | apply Blk.drew | apply Blk.drewN | apply Blk.more | apply Blk.put | (apply Blk.far; focus (first | assumption | (apply Ne.symm; assumption) | (simp; done) | (simp <;> omega)))))) hb3
    try simp only [List.setIfInBounds_toArray, List.set_cons_zero, List.set_cons_succ] at B3_3
    obtain ⟨z3_3, c3_3, f3_3⟩ := id B3_3
    go_wp2_with fail
    refine (sub_c _ _ _).mono ?_
    rintro e w' ⟨rfl, rfl⟩
    go_wp2_with fail
    refine (unit_c _ _ _ _).mono ?_
    rintro e w4 ⟨rfl, hb4⟩
    have B4_0 : Blk w4 (w.heap.size) _ := Blk.below (by repeat (with_reducible (first | assumption | (apply Blk.at; simp; done) | apply Blk.alloc | apply Blk.drew | apply Blk.drewN | apply Blk.more | apply Blk.put | (apply Blk.far; focus (first | assumption | (apply Ne.symm; assumption) | (simp; done) | (simp <;> omega)))))) hb4
    obtain ⟨z4_0, c4_0, f4_0⟩ := id B4_0
    have B4_1 : Blk w4 (w.heap.size + 1) _ := Blk.below (by repeat (with_reducible (first | assumption | (apply Blk.at; simp; done) | apply Blk.alloc | apply Blk.drew | apply Blk.drewN | apply Blk.more | apply Blk.put | (apply Blk.far; focus (first | assumption | (apply Ne.symm; assumption) | (simp; done) | (simp <;> omega)))))) hb4
    obtain ⟨z4_1, c4_1, f4_1⟩ := id B4_1
    have B4_2 : Blk w4 (w.heap.size + 1 + 1) _ := Blk.below (by repeat (with_reducible (first | assumption | (apply Blk.at; simp; done) | apply Blk.alloc | apply Blk.drew | apply Blk.drewN | apply Blk.more | apply Blk.put | (apply Blk.far; focus (first | assumption | (apply Ne.symm; assumption) | (simp; done) | (simp <;> omega)))))) hb4
    obtain ⟨z4_2, c4_2, f4_2⟩ := id B4_2
    have B4_3 : Blk w4 (g2_0) _ := Blk.below (by repeat (with_reducible (first | assumption | (apply Blk.at; simp; done) | apply Blk.alloc | apply Blk.drew | apply Blk.drewN | apply Blk.more | apply Blk.put | (apply Blk.far; focus (first | assumption | (apply Ne.symm; assumption) | (simp; done) | (simp <;> omega)))))) hb4
    obtain ⟨z4_3, c4_3, f4_3⟩ := id B4_3
    go_wp2
    exact bodyPost_ret (v := .tuple #[.agg #[.int .i64 (unit1 0 n2 n3), .int .i64 (unit2 0 n2 n3), .int .i64 (unit3 0 n2 n3)], .int .i64 (sub r (long 0 n2 n3)), .bool true]) (by simp [results, Try.results111, go_sem, *]) rfl ⟨rfl, (by repeat (with_reducible (first | exact Below.refl _ _ | assumption | apply ext_drew | apply ext_drewN | apply ext_alloc | apply ext_more | (refine ext_setCell ?_ (by simp <;> omega) _) | (refine ext_below ?_ (by assumption)))))⟩

set_option maxHeartbeats 2000000 in
theorem ball_c20 (r p1 p2 p3 b1 b2 b3 b4 b5 b6 n3 : Int) (H1 : Hid ((sub (max b1 (min b4 p1)) p1) = 0)) (H2 : Hid ((sub (max b2 (min b5 p2)) p2) = 0)) (H3 : Hid ((sub (max b3 (min b6 p3)) p3) = n3)) (hz : ¬ n3 = 0) (hd : sub r (long 0 0 n3) ≤ 0) (w : World) : Calls Try.prog 111 #[.int .i64 r, .agg #[.int .i64 p1, .int .i64 p2, .int .i64 p3], .agg #[.int .i64 b1, .int .i64 b2, .int .i64 b3, .int .i64 b4, .int .i64 b5, .int .i64 b6]] w fun e w' => e = .returned (.tuple #[.agg #[.int .i64 0, .int .i64 0, .int .i64 0], .int .i64 0, .bool false]) ∧ Below w.heap.size w w' := by
  have hmc := more_cell
  have hmf := more_frozen
  have hml := more_lt
  go_enter Try.func111, Try.ntmps111
  go_wp2_with fail
  refine wp_fresh ?_
  rintro w1 hb1
  have B1_0 : Blk w1 (w.heap.size) _ := Blk.below (by repeat (with_reducible (first | assumption | (apply Blk.at; simp; done) | apply Blk.alloc | apply Blk.drew | apply Blk.drewN | apply Blk.more | apply Blk.put | (apply Blk.far; focus (first | assumption | (apply Ne.symm; assumption) | (simp; done) | (simp <;> omega)))))) hb1
  obtain ⟨z1_0, c1_0, f1_0⟩ := id B1_0
  have B1_1 : Blk w1 (w.heap.size + 1) _ := Blk.below (by repeat (with_reducible (first | assumption | (apply Blk.at; simp; done) | apply Blk.alloc | apply Blk.drew | apply Blk.drewN | apply Blk.more | apply Blk.put | (apply Blk.far; focus (first | assumption | (apply Ne.symm; assumption) | (simp; done) | (simp <;> omega)))))) hb1
  obtain ⟨z1_1, c1_1, f1_1⟩ := id B1_1
  have B1_2 : Blk w1 (w.heap.size + 1 + 1) _ := Blk.below (by repeat (with_reducible (first | assumption | (apply Blk.at; simp; done) | apply Blk.alloc | apply Blk.drew | apply Blk.drewN | apply Blk.more | apply Blk.put | (apply Blk.far; focus (first | assumption | (apply Ne.symm; assumption) | (simp; done) | (simp <;> omega)))))) hb1
  obtain ⟨z1_2, c1_2, f1_2⟩ := id B1_2
  refine region_grow (A := ?A2) 5 [9] (fun _ => #[.int .i64 0, .int .i64 0, .int .i64 0]) (by kernel_rfl) (by kernel_rfl) ?hrun2 ?hq2 ?htail2
  case hq2 =>
    intro w0 hb0
    simp only [List.take_succ_cons, List.take_zero]
    have B0_0 : Blk w0 _ _ := B1_0.below hb0
    obtain ⟨z0_0, c0_0, f0_0⟩ := id B0_0
    have B0_1 : Blk w0 _ _ := B1_1.below hb0
    obtain ⟨z0_1, c0_1, f0_1⟩ := id B0_1
    have B0_2 : Blk w0 _ _ := B1_2.below hb0
    obtain ⟨z0_2, c0_2, f0_2⟩ := id B0_2
    repeat (go_big_quiet_step ((first | (go_at_call 27; exact calls_after (near_c _ _ _ _ _ _ _ _ _ _)) | (go_at_call 60; exact calls_after (minus_c _ _ _ _ _ _ _)))))
    refine wpQuiet_nil ?_
    rfl
  case hrun2 =>
    intro j hj
    match j, hj with
    | 0, _ => exact ⟨_, _, rfl, fun a w => by simp [go_sem]; rfl⟩
  case htail2 =>
    intro gs w2 hb2 hblk hne
    obtain ⟨G2_0, hg2_0⟩ := hblk 0 (by decide)
    simp only [List.drop_succ_cons, List.drop_zero, List.length_cons, List.length_nil, laySlots]
    clear hblk hne
    generalize gs 0 = g2_0 at *
    have B2_0 : Blk w2 _ _ := B1_0.below hb2
    obtain ⟨z2_0, c2_0, f2_0⟩ := id B2_0
    have B2_1 : Blk w2 _ _ := B1_1.below hb2
    obtain ⟨z2_1, c2_1, f2_1⟩ := id B2_1
    have B2_2 : Blk w2 _ _ := B1_2.below hb2
    obtain ⟨z2_2, c2_2, f2_2⟩ := id B2_2
    obtain ⟨zg2_0, cg2_0, fg2_0⟩ := id G2_0
    have ne2_0_0 : g2_0 ≠ w.heap.size := by omega
    have ne2_0_1 : g2_0 ≠ w.heap.size + 1 := by omega
    have ne2_0_2 : g2_0 ≠ w.heap.size + 1 + 1 := by omega
    simp only [H1.out, H2.out, H3.out]
    go_wp2_with fail
    refine (long_c _ _ _ _).mono ?_
    rintro e w3 ⟨rfl, hb3⟩
    have B3_0 : Blk w3 (w.heap.size) _ := Blk.below (by repeat (with_reducible (first | assumption | (apply Blk.at; simp; done) | apply Blk.alloc | apply Blk.drew | apply Blk.drewN | apply Blk.more | apply Blk.put | (apply Blk.far; focus (first | assumption | (apply Ne.symm; assumption) | (simp; done) | (simp <;> omega)))))) hb3
    obtain ⟨z3_0, c3_0, f3_0⟩ := id B3_0
    have B3_1 : Blk w3 (w.heap.size + 1) _ := Blk.below (by repeat (with_reducible (first | assumption | (apply Blk.at; simp; done) | apply Blk.alloc | apply Blk.drew | apply Blk.drewN | apply Blk.more | apply Blk.put | (apply Blk.far; focus (first | assumption | (apply Ne.symm; assumption) | (simp; done) | (simp <;> omega)))))) hb3
    obtain ⟨z3_1, c3_1, f3_1⟩ := id B3_1
    have B3_2 : Blk w3 (w.heap.size + 1 + 1) _ := Blk.below (by repeat (with_reducible (first | assumption | (apply Blk.at; simp; done) | apply Blk.alloc | apply Blk.drew | apply Blk.drewN | apply Blk.more | apply Blk.put | (apply Blk.far; focus (first | assumption | (apply Ne.symm; assumption) | (simp; done) | (simp <;> omega)))))) hb3
    obtain ⟨z3_2, c3_2, f3_2⟩ := id B3_2
    have B3_3 : Blk w3 (g2_0) _ := Blk.below (by repeat (with_reducible (first | assumption | (apply Blk.at; simp; done) | apply Blk.alloc | apply Blk.drew | apply Blk.drewN | apply Blk.more | apply Blk.put | (apply Blk.far; focus (first | assumption | (apply Ne.symm; assumption) | (simp; done) | (simp <;> omega)))))) hb3
    try simp only [List.setIfInBounds_toArray, List.set_cons_zero, List.set_cons_succ] at B3_3
    obtain ⟨z3_3, c3_3, f3_3⟩ := id B3_3
    go_wp2_with fail
    refine (sub_c _ _ _).mono ?_
    rintro e w' ⟨rfl, rfl⟩
    go_wp2
    exact bodyPost_ret (v := .tuple #[.agg #[.int .i64 0, .int .i64 0, .int .i64 0], .int .i64 0, .bool false]) (by simp [results, Try.results111, go_sem, *]) rfl ⟨rfl, (by repeat (with_reducible (first | exact Below.refl _ _ | assumption | apply ext_drew | apply ext_drewN | apply ext_alloc | apply ext_more | (refine ext_setCell ?_ (by simp <;> omega) _) | (refine ext_below ?_ (by assumption)))))⟩

set_option maxHeartbeats 2000000 in
theorem ball_c21 (r p1 p2 p3 b1 b2 b3 b4 b5 b6 n3 : Int) (H1 : Hid ((sub (max b1 (min b4 p1)) p1) = 0)) (H2 : Hid ((sub (max b2 (min b5 p2)) p2) = 0)) (H3 : Hid ((sub (max b3 (min b6 p3)) p3) = n3)) (hz : ¬ n3 = 0) (hd : 0 < sub r (long 0 0 n3)) (w : World) : Calls Try.prog 111 #[.int .i64 r, .agg #[.int .i64 p1, .int .i64 p2, .int .i64 p3], .agg #[.int .i64 b1, .int .i64 b2, .int .i64 b3, .int .i64 b4, .int .i64 b5, .int .i64 b6]] w fun e w' => e = .returned (.tuple #[.agg #[.int .i64 (unit1 0 0 n3), .int .i64 (unit2 0 0 n3), .int .i64 (unit3 0 0 n3)], .int .i64 (sub r (long 0 0 n3)), .bool true]) ∧ Below w.heap.size w w' := by
  have hmc := more_cell
  have hmf := more_frozen
  have hml := more_lt
  go_enter Try.func111, Try.ntmps111
  go_wp2_with fail
  refine wp_fresh ?_
  rintro w1 hb1
  have B1_0 : Blk w1 (w.heap.size) _ := Blk.below (by repeat (with_reducible (first | assumption | (apply Blk.at; simp; done) | apply Blk.alloc | apply Blk.drew | apply Blk.drewN | apply Blk.more | apply Blk.put | (apply Blk.far; focus (first | assumption | (apply Ne.symm; assumption) | (simp; done) | (simp <;> omega)))))) hb1
  obtain ⟨z1_0, c1_0, f1_0⟩ := id B1_0
  have B1_1 : Blk w1 (w.heap.size + 1) _ := Blk.below (by repeat (with_reducible (first | assumption | (apply Blk.at; simp; done) | apply Blk.alloc | apply Blk.drew | apply Blk.drewN | apply Blk.more | apply Blk.put | (apply Blk.far; focus (first | assumption | (apply Ne.symm; assumption) | (simp; done) | (simp <;> omega)))))) hb1
  obtain ⟨z1_1, c1_1, f1_1⟩ := id B1_1
  have B1_2 : Blk w1 (w.heap.size + 1 + 1) _ := Blk.below (by repeat (with_reducible (first | assumption | (apply Blk.at; simp; done) | apply Blk.alloc | apply Blk.drew | apply Blk.drewN | apply Blk.more | apply Blk.put | (apply Blk.far; focus (first | assumption | (apply Ne.symm; assumption) | (simp; done) | (simp <;> omega)))))) hb1
  obtain ⟨z1_2, c1_2, f1_2⟩ := id B1_2
  refine region_grow (A := ?A2) 5 [9] (fun _ => #[.int .i64 0, .int .i64 0, .int .i64 0]) (by kernel_rfl) (by kernel_rfl) ?hrun2 ?hq2 ?htail2
  case hq2 =>
    intro w0 hb0
    simp only [List.take_succ_cons, List.take_zero]
    have B0_0 : Blk w0 _ _ := B1_0.below hb0
    obtain ⟨z0_0, c0_0, f0_0⟩ := id B0_0
    have B0_1 : Blk w0 _ _ := B1_1.below hb0
    obtain ⟨z0_1, c0_1, f0_1⟩ := id B0_1
    have B0_2 : Blk w0 _ _ := B1_2.below hb0
    obtain ⟨z0_2, c0_2, f0_2⟩ := id B0_2
    repeat (go_big_quiet_step ((first | (go_at_call 27; exact calls_after (near_c _ _ _ _ _ _ _ _ _ _)) | (go_at_call 60; exact calls_after (minus_c _ _ _ _ _ _ _)))))
    refine wpQuiet_nil ?_
    rfl
  case hrun2 =>
    intro j hj
    match j, hj with
    | 0, _ => exact ⟨_, _, rfl, fun a w => by simp [go_sem]; rfl⟩
  case htail2 =>
    intro gs w2 hb2 hblk hne
    obtain ⟨G2_0, hg2_0⟩ := hblk 0 (by decide)
    simp only [List.drop_succ_cons, List.drop_zero, List.length_cons, List.length_nil, laySlots]
    clear hblk hne
    generalize gs 0 = g2_0 at *
    have B2_0 : Blk w2 _ _ := B1_0.below hb2
    obtain ⟨z2_0, c2_0, f2_0⟩ := id B2_0
    have B2_1 : Blk w2 _ _ := B1_1.below hb2
    obtain ⟨z2_1, c2_1, f2_1⟩ := id B2_1
    have B2_2 : Blk w2 _ _ := B1_2.below hb2
    obtain ⟨z2_2, c2_2, f2_2⟩ := id B2_2
    obtain ⟨zg2_0, cg2_0, fg2_0⟩ := id G2_0
    have ne2_0_0 : g2_0 ≠ w.heap.size := by omega
    have ne2_0_1 : g2_0 ≠ w.heap.size + 1 := by omega
    have ne2_0_2 : g2_0 ≠ w.heap.size + 1 + 1 := by omega
    simp only [H1.out, H2.out, H3.out]
    go_wp2_with fail
    refine (long_c _ _ _ _).mono ?_
    rintro e w3 ⟨rfl, hb3⟩
    have B3_0 : Blk w3 (w.heap.size) _ := Blk.below (by repeat (with_reducible (first | assumption | (apply Blk.at; simp; done) | apply Blk.alloc | apply Blk.drew | apply Blk.drewN | apply Blk.more | apply Blk.put | (apply Blk.far; focus (first | assumption | (apply Ne.symm; assumption) | (simp; done) | (simp <;> omega)))))) hb3
    obtain ⟨z3_0, c3_0, f3_0⟩ := id B3_0
    have B3_1 : Blk w3 (w.heap.size + 1) _ := Blk.below (by repeat (with_reducible (first | assumption | (apply Blk.at; simp; done) | apply Blk.alloc | apply Blk.drew | apply Blk.drewN | apply Blk.more | apply Blk.put | (apply Blk.far; focus (first | assumption | (apply Ne.symm; assumption) | (simp; done) | (simp <;> omega)))))) hb3
    obtain ⟨z3_1, c3_1, f3_1⟩ := id B3_1
    have B3_2 : Blk w3 (w.heap.size + 1 + 1) _ := Blk.below (by repeat (with_reducible (first | assumption | (apply Blk.at; simp; done) | apply Blk.alloc | apply Blk.drew | apply Blk.drewN | apply Blk.more | apply Blk.put | (apply Blk.far; focus (first | assumption | (apply Ne.symm; assumption) | (simp; done) | (simp <;> omega)))))) hb3
    obtain ⟨z3_2, c3_2, f3_2⟩ := id B3_2
    have B3_3 : Blk w3 (g2_0) _ := Blk.below (by repeat (with_reducible (first | assumption | (apply Blk.at; simp; done) | apply Blk.alloc | apply Blk.drew | apply Blk.drewN | apply Blk.more | apply Blk.put | (apply Blk.far; focus (first | assumption | (apply Ne.symm; assumption) | (simp; done) | (simp <;> omega)))))) hb3
    try simp only [List.setIfInBounds_toArray, List.set_cons_zero, List.set_cons_succ] at B3_3
    obtain ⟨z3_3, c3_3, f3_3⟩ := id B3_3
    go_wp2_with fail
    refine (sub_c _ _ _).mono ?_
    rintro e w' ⟨rfl, rfl⟩
    go_wp2_with fail
    refine (unit_c _ _ _ _).mono ?_
    rintro e w4 ⟨rfl, hb4⟩
    have B4_0 : Blk w4 (w.heap.size) _ := Blk.below (by repeat (with_reducible (first | assumption | (apply Blk.at; simp; done) | apply Blk.alloc | apply Blk.drew | apply Blk.drewN | apply Blk.more | apply Blk.put | (apply Blk.far; focus (first | assumption | (apply Ne.symm; assumption) | (simp; done) | (simp <;> omega)))))) hb4
    obtain ⟨z4_0, c4_0, f4_0⟩ := id B4_0
    have B4_1 : Blk w4 (w.heap.size + 1) _ := Blk.below (by repeat (with_reducible (first | assumption | (apply Blk.at; simp; done) | apply Blk.alloc | apply Blk.drew | apply Blk.drewN | apply Blk.more | apply Blk.put | (apply Blk.far; focus (first | assumption | (apply Ne.symm; assumption) | (simp; done) | (simp <;> omega)))))) hb4
    obtain ⟨z4_1, c4_1, f4_1⟩ := id B4_1
    have B4_2 : Blk w4 (w.heap.size + 1 + 1) _ := Blk.below (by repeat (with_reducible (first | assumption | (apply Blk.at; simp; done) | apply Blk.alloc | apply Blk.drew | apply Blk.drewN | apply Blk.more | apply Blk.put | (apply Blk.far; focus (first | assumption | (apply Ne.symm; assumption) | (simp; done) | (simp <;> omega)))))) hb4
    obtain ⟨z4_2, c4_2, f4_2⟩ := id B4_2
    have B4_3 : Blk w4 (g2_0) _ := Blk.below (by repeat (with_reducible (first | assumption | (apply Blk.at; simp; done) | apply Blk.alloc | apply Blk.drew | apply Blk.drewN | apply Blk.more | apply Blk.put | (apply Blk.far; focus (first | assumption | (apply Ne.symm; assumption) | (simp; done) | (simp <;> omega)))))) hb4
    obtain ⟨z4_3, c4_3, f4_3⟩ := id B4_3
    go_wp2
    exact bodyPost_ret (v := .tuple #[.agg #[.int .i64 (unit1 0 0 n3), .int .i64 (unit2 0 0 n3), .int .i64 (unit3 0 0 n3)], .int .i64 (sub r (long 0 0 n3)), .bool true]) (by simp [results, Try.results111, go_sem, *]) rfl ⟨rfl, (by repeat (with_reducible (first | exact Below.refl _ _ | assumption | apply ext_drew | apply ext_drewN | apply ext_alloc | apply ext_more | (refine ext_setCell ?_ (by simp <;> omega) _) | (refine ext_below ?_ (by assumption)))))⟩

set_option maxHeartbeats 2000000 in
theorem ball_c3 (r p1 p2 p3 b1 b2 b3 b4 b5 b6  : Int) (H1 : Hid ((sub (max b1 (min b4 p1)) p1) = 0)) (H2 : Hid ((sub (max b2 (min b5 p2)) p2) = 0)) (H3 : Hid ((sub (max b3 (min b6 p3)) p3) = 0))  (w : World) : Calls Try.prog 111 #[.int .i64 r, .agg #[.int .i64 p1, .int .i64 p2, .int .i64 p3], .agg #[.int .i64 b1, .int .i64 b2, .int .i64 b3, .int .i64 b4, .int .i64 b5, .int .i64 b6]] w fun e w' => e = .returned (.tuple #[.agg #[.int .i64 (outT p1 p2 p3 p1 p2 p3 b1 b2 b3 b4 b5 b6).1, .int .i64 (outT p1 p2 p3 p1 p2 p3 b1 b2 b3 b4 b5 b6).2.1, .int .i64 (outT p1 p2 p3 p1 p2 p3 b1 b2 b3 b4 b5 b6).2.2.1], .int .i64 (add (outT p1 p2 p3 p1 p2 p3 b1 b2 b3 b4 b5 b6).2.2.2 r), .bool true]) ∧ Below w.heap.size w w' := by
  have hmc := more_cell
  have hmf := more_frozen
  have hml := more_lt
  go_enter Try.func111, Try.ntmps111
  go_wp2_with fail
  refine wp_fresh ?_
  rintro w1 hb1
  have B1_0 : Blk w1 (w.heap.size) _ := Blk.below (by repeat (with_reducible (first | assumption | (apply Blk.at; simp; done) | apply Blk.alloc | apply Blk.drew | apply Blk.drewN | apply Blk.more | apply Blk.put | (apply Blk.far; focus (first | assumption | (apply Ne.symm; assumption) | (simp; done) | (simp <;> omega)))))) hb1
  obtain ⟨z1_0, c1_0, f1_0⟩ := id B1_0
  have B1_1 : Blk w1 (w.heap.size + 1) _ := Blk.below (by repeat (with_reducible (first | assumption | (apply Blk.at; simp; done) | apply Blk.alloc | apply Blk.drew | apply Blk.drewN | apply Blk.more | apply Blk.put | (apply Blk.far; focus (first | assumption | (apply Ne.symm; assumption) | (simp; done) | (simp <;> omega)))))) hb1
  obtain ⟨z1_1, c1_1, f1_1⟩ := id B1_1
  have B1_2 : Blk w1 (w.heap.size + 1 + 1) _ := Blk.below (by repeat (with_reducible (first | assumption | (apply Blk.at; simp; done) | apply Blk.alloc | apply Blk.drew | apply Blk.drewN | apply Blk.more | apply Blk.put | (apply Blk.far; focus (first | assumption | (apply Ne.symm; assumption) | (simp; done) | (simp <;> omega)))))) hb1
  obtain ⟨z1_2, c1_2, f1_2⟩ := id B1_2
  refine region_grow (A := ?A2) 5 [9] (fun _ => #[.int .i64 0, .int .i64 0, .int .i64 0]) (by kernel_rfl) (by kernel_rfl) ?hrun2 ?hq2 ?htail2
  case hq2 =>
    intro w0 hb0
    simp only [List.take_succ_cons, List.take_zero]
    have B0_0 : Blk w0 _ _ := B1_0.below hb0
    obtain ⟨z0_0, c0_0, f0_0⟩ := id B0_0
    have B0_1 : Blk w0 _ _ := B1_1.below hb0
    obtain ⟨z0_1, c0_1, f0_1⟩ := id B0_1
    have B0_2 : Blk w0 _ _ := B1_2.below hb0
    obtain ⟨z0_2, c0_2, f0_2⟩ := id B0_2
    repeat (go_big_quiet_step ((first | (go_at_call 27; exact calls_after (near_c _ _ _ _ _ _ _ _ _ _)) | (go_at_call 60; exact calls_after (minus_c _ _ _ _ _ _ _)))))
    refine wpQuiet_nil ?_
    rfl
  case hrun2 =>
    intro j hj
    match j, hj with
    | 0, _ => exact ⟨_, _, rfl, fun a w => by simp [go_sem]; rfl⟩
  case htail2 =>
    intro gs w2 hb2 hblk hne
    obtain ⟨G2_0, hg2_0⟩ := hblk 0 (by decide)
    simp only [List.drop_succ_cons, List.drop_zero, List.length_cons, List.length_nil, laySlots]
    clear hblk hne
    generalize gs 0 = g2_0 at *
    have B2_0 : Blk w2 _ _ := B1_0.below hb2
    obtain ⟨z2_0, c2_0, f2_0⟩ := id B2_0
    have B2_1 : Blk w2 _ _ := B1_1.below hb2
    obtain ⟨z2_1, c2_1, f2_1⟩ := id B2_1
    have B2_2 : Blk w2 _ _ := B1_2.below hb2
    obtain ⟨z2_2, c2_2, f2_2⟩ := id B2_2
    obtain ⟨zg2_0, cg2_0, fg2_0⟩ := id G2_0
    have ne2_0_0 : g2_0 ≠ w.heap.size := by omega
    have ne2_0_1 : g2_0 ≠ w.heap.size + 1 := by omega
    have ne2_0_2 : g2_0 ≠ w.heap.size + 1 + 1 := by omega
    simp only [H1.out, H2.out, H3.out]
    go_wp2_with fail
    refine (out_c _ _ _ _ _ _ _ _ _ _ _ _ _).mono ?_
    rintro e w3 ⟨rfl, hb3⟩
    have B3_0 : Blk w3 (w.heap.size) _ := Blk.below (by repeat (with_reducible (first | assumption | (apply Blk.at; simp; done) | apply Blk.alloc | apply Blk.drew | apply Blk.drewN | apply Blk.more | apply Blk.put | (apply Blk.far; focus (first | assumption | (apply Ne.symm; assumption) | (simp; done) | (simp <;> omega)))))) hb3
    obtain ⟨z3_0, c3_0, f3_0⟩ := id B3_0
    have B3_1 : Blk w3 (w.heap.size + 1) _ := Blk.below (by repeat (with_reducible (first | assumption | (apply Blk.at; simp; done) | apply Blk.alloc | apply Blk.drew | apply Blk.drewN | apply Blk.more | apply Blk.put | (apply Blk.far; focus (first | assumption | (apply Ne.symm; assumption) | (simp; done) | (simp <;> omega)))))) hb3
    obtain ⟨z3_1, c3_1, f3_1⟩ := id B3_1
    have B3_2 : Blk w3 (w.heap.size + 1 + 1) _ := Blk.below (by repeat (with_reducible (first | assumption | (apply Blk.at; simp; done) | apply Blk.alloc | apply Blk.drew | apply Blk.drewN | apply Blk.more | apply Blk.put | (apply Blk.far; focus (first | assumption | (apply Ne.symm; assumption) | (simp; done) | (simp <;> omega)))))) hb3
    obtain ⟨z3_2, c3_2, f3_2⟩ := id B3_2
    have B3_3 : Blk w3 (g2_0) _ := Blk.below (by repeat (with_reducible (first | assumption | (apply Blk.at; simp; done) | apply Blk.alloc | apply Blk.drew | apply Blk.drewN | apply Blk.more | apply Blk.put | (apply Blk.far; focus (first | assumption | (apply Ne.symm; assumption) | (simp; done) | (simp <;> omega)))))) hb3
    try simp only [List.setIfInBounds_toArray, List.set_cons_zero, List.set_cons_succ] at B3_3
    obtain ⟨z3_3, c3_3, f3_3⟩ := id B3_3
    go_wp2_with fail
    refine region_quiet_but 4 (by kernel_rfl) (by kernel_rfl) ?_
    simp only [List.take_succ_cons, List.take_zero, List.drop_succ_cons, List.drop_zero]
    repeat (go_big_quiet_step ((go_at_call 51; exact calls_after_same (add_c _ _ _))))
    refine wpQuiet_nil ?_
    rintro w4 hw4
    have hb4 := after_below hw4
    clear hw4
    have B4_0 : Blk w4 (w.heap.size) _ := Blk.below (by repeat (with_reducible (first | assumption | (apply Blk.at; simp; done) | apply Blk.alloc | apply Blk.drew | apply Blk.drewN | apply Blk.more | apply Blk.put | (apply Blk.far; focus (first | assumption | (apply Ne.symm; assumption) | (simp; done) | (simp <;> omega)))))) hb4
    obtain ⟨z4_0, c4_0, f4_0⟩ := id B4_0
    have B4_1 : Blk w4 (w.heap.size + 1) _ := Blk.below (by repeat (with_reducible (first | assumption | (apply Blk.at; simp; done) | apply Blk.alloc | apply Blk.drew | apply Blk.drewN | apply Blk.more | apply Blk.put | (apply Blk.far; focus (first | assumption | (apply Ne.symm; assumption) | (simp; done) | (simp <;> omega)))))) hb4
    obtain ⟨z4_1, c4_1, f4_1⟩ := id B4_1
    have B4_2 : Blk w4 (w.heap.size + 1 + 1) _ := Blk.below (by repeat (with_reducible (first | assumption | (apply Blk.at; simp; done) | apply Blk.alloc | apply Blk.drew | apply Blk.drewN | apply Blk.more | apply Blk.put | (apply Blk.far; focus (first | assumption | (apply Ne.symm; assumption) | (simp; done) | (simp <;> omega)))))) hb4
    obtain ⟨z4_2, c4_2, f4_2⟩ := id B4_2
    have B4_3 : Blk w4 (g2_0) _ := Blk.below (by repeat (with_reducible (first | assumption | (apply Blk.at; simp; done) | apply Blk.alloc | apply Blk.drew | apply Blk.drewN | apply Blk.more | apply Blk.put | (apply Blk.far; focus (first | assumption | (apply Ne.symm; assumption) | (simp; done) | (simp <;> omega)))))) hb4
    obtain ⟨z4_3, c4_3, f4_3⟩ := id B4_3
    have B4_4 : Blk w4 (w3.heap.size) _ := Blk.below (by repeat (with_reducible (first | assumption | (apply Blk.at; simp; done) | apply Blk.alloc | apply Blk.drew | apply Blk.drewN | apply Blk.more | apply Blk.put | (apply Blk.far; focus (first | assumption | (apply Ne.symm; assumption) | (simp; done) | (simp <;> omega)))))) hb4
    try simp only [List.setIfInBounds_toArray, List.set_cons_zero, List.set_cons_succ] at B4_4
    obtain ⟨z4_4, c4_4, f4_4⟩ := id B4_4
    go_wp2
    exact bodyPost_ret (v := .tuple #[.agg #[.int .i64 (outT p1 p2 p3 p1 p2 p3 b1 b2 b3 b4 b5 b6).1, .int .i64 (outT p1 p2 p3 p1 p2 p3 b1 b2 b3 b4 b5 b6).2.1, .int .i64 (outT p1 p2 p3 p1 p2 p3 b1 b2 b3 b4 b5 b6).2.2.1], .int .i64 (add (outT p1 p2 p3 p1 p2 p3 b1 b2 b3 b4 b5 b6).2.2.2 r), .bool true]) (by simp [results, Try.results111, go_sem, *]) rfl ⟨rfl, (by repeat (with_reducible (first | exact Below.refl _ _ | assumption | apply ext_drew | apply ext_drewN | apply ext_alloc | apply ext_more | (refine ext_setCell ?_ (by simp <;> omega) _) | (refine ext_below ?_ (by assumption)))))⟩


/-- what a touch gives: which way, how deep; nothing where it is not deep -/
def tx (T : Int × Int × Int × Int) : Int := if T.2.2.2 ≤ 0 then 0 else T.1
def ty (T : Int × Int × Int × Int) : Int := if T.2.2.2 ≤ 0 then 0 else T.2.1
def tz (T : Int × Int × Int × Int) : Int := if T.2.2.2 ≤ 0 then 0 else T.2.2.1
def td (T : Int × Int × Int × Int) : Int := if T.2.2.2 ≤ 0 then 0 else T.2.2.2
def tk (T : Int × Int × Int × Int) : Bool := decide (0 < T.2.2.2)
def tup (T : Int × Int × Int × Int) : Value := .tuple #[.agg #[.int .i64 (tx T), .int .i64 (ty T), .int .i64 (tz T)], .int .i64 (td T), .bool (tk T)]
theorem tup_no {T : Int × Int × Int × Int} (h : T.2.2.2 ≤ 0) : tup T = .tuple #[.agg #[.int .i64 0, .int .i64 0, .int .i64 0], .int .i64 0, .bool false] := by
  unfold tup tx ty tz td tk; rw [if_pos h, if_pos h, if_pos h, if_pos h, decide_eq_false (by omega)]
theorem tup_yes {T : Int × Int × Int × Int} (h : 0 < T.2.2.2) : tup T = .tuple #[.agg #[.int .i64 T.1, .int .i64 T.2.1, .int .i64 T.2.2.1], .int .i64 T.2.2.2, .bool true] := by
  unfold tup tx ty tz td tk; rw [if_neg (by omega), if_neg (by omega), if_neg (by omega), if_neg (by omega), decide_eq_true h]
/-- the middle is in the box -/
def inB (p1 p2 p3 b1 b2 b3 b4 b5 b6 : Int) : Bool := ((sub (max b1 (min b4 p1)) p1) == 0) && ((sub (max b2 (min b5 p2)) p2) == 0) && ((sub (max b3 (min b6 p3)) p3) == 0)
/-- a ball and a box -/
def ballN (r n1 n2 n3 : Int) : Int × Int × Int × Int := (unit1 n1 n2 n3, unit2 n1 n2 n3, unit3 n1 n2 n3, sub r (long n1 n2 n3))
def ballT (r p1 p2 p3 b1 b2 b3 b4 b5 b6 : Int) : Int × Int × Int × Int := if inB p1 p2 p3 b1 b2 b3 b4 b5 b6 then ((outT p1 p2 p3 p1 p2 p3 b1 b2 b3 b4 b5 b6).1, (outT p1 p2 p3 p1 p2 p3 b1 b2 b3 b4 b5 b6).2.1, (outT p1 p2 p3 p1 p2 p3 b1 b2 b3 b4 b5 b6).2.2.1, add (outT p1 p2 p3 p1 p2 p3 b1 b2 b3 b4 b5 b6).2.2.2 r) else ballN r (sub (max b1 (min b4 p1)) p1) (sub (max b2 (min b5 p2)) p2) (sub (max b3 (min b6 p3)) p3)

theorem ball_c (r p1 p2 p3 b1 b2 b3 b4 b5 b6 : Int) (hin : inB p1 p2 p3 b1 b2 b3 b4 b5 b6 = true → 0 < add (outT p1 p2 p3 p1 p2 p3 b1 b2 b3 b4 b5 b6).2.2.2 r) (w : World) : Calls Try.prog 111 #[.int .i64 r, .agg #[.int .i64 p1, .int .i64 p2, .int .i64 p3], .agg #[.int .i64 b1, .int .i64 b2, .int .i64 b3, .int .i64 b4, .int .i64 b5, .int .i64 b6]] w fun e w' => e = .returned (tup (ballT r p1 p2 p3 b1 b2 b3 b4 b5 b6)) ∧ Below w.heap.size w w' := by
  by_cases h1 : (sub (max b1 (min b4 p1)) p1) = 0
  · by_cases h2 : (sub (max b2 (min b5 p2)) p2) = 0
    · by_cases h3 : (sub (max b3 (min b6 p3)) p3) = 0
      · have hi : inB p1 p2 p3 b1 b2 b3 b4 b5 b6 = true := by unfold inB; rw [h1, h2, h3]; rfl
        have hd := hin hi
        unfold ballT; rw [if_pos hi, tup_yes hd]
        exact ball_c3 r p1 p2 p3 b1 b2 b3 b4 b5 b6 h1 h2 h3 w
      · have hi : ¬ inB p1 p2 p3 b1 b2 b3 b4 b5 b6 = true := by unfold inB; simp [h3]
        unfold ballT; rw [if_neg hi]
        rw [h1]
        rw [h2]
        by_cases hd : sub r (long 0 0 (sub (max b3 (min b6 p3)) p3)) ≤ 0
        · rw [tup_no (T := ballN r 0 0 (sub (max b3 (min b6 p3)) p3)) hd]; exact ball_c20 r p1 p2 p3 b1 b2 b3 b4 b5 b6 (sub (max b3 (min b6 p3)) p3) h1 h2 rfl h3 hd w
        · rw [tup_yes (T := ballN r 0 0 (sub (max b3 (min b6 p3)) p3)) (by unfold ballN; simp only; omega)]; exact ball_c21 r p1 p2 p3 b1 b2 b3 b4 b5 b6 (sub (max b3 (min b6 p3)) p3) h1 h2 rfl h3 (by omega) w
    · have hi : ¬ inB p1 p2 p3 b1 b2 b3 b4 b5 b6 = true := by unfold inB; simp [h2]
      unfold ballT; rw [if_neg hi]
      rw [h1]
      by_cases hd : sub r (long 0 (sub (max b2 (min b5 p2)) p2) (sub (max b3 (min b6 p3)) p3)) ≤ 0
      · rw [tup_no (T := ballN r 0 (sub (max b2 (min b5 p2)) p2) (sub (max b3 (min b6 p3)) p3)) hd]; exact ball_c10 r p1 p2 p3 b1 b2 b3 b4 b5 b6 (sub (max b2 (min b5 p2)) p2) (sub (max b3 (min b6 p3)) p3) h1 rfl rfl h2 hd w
      · rw [tup_yes (T := ballN r 0 (sub (max b2 (min b5 p2)) p2) (sub (max b3 (min b6 p3)) p3)) (by unfold ballN; simp only; omega)]; exact ball_c11 r p1 p2 p3 b1 b2 b3 b4 b5 b6 (sub (max b2 (min b5 p2)) p2) (sub (max b3 (min b6 p3)) p3) h1 rfl rfl h2 (by omega) w
  · have hi : ¬ inB p1 p2 p3 b1 b2 b3 b4 b5 b6 = true := by unfold inB; simp [h1]
    unfold ballT; rw [if_neg hi]
    by_cases hd : sub r (long (sub (max b1 (min b4 p1)) p1) (sub (max b2 (min b5 p2)) p2) (sub (max b3 (min b6 p3)) p3)) ≤ 0
    · rw [tup_no (T := ballN r (sub (max b1 (min b4 p1)) p1) (sub (max b2 (min b5 p2)) p2) (sub (max b3 (min b6 p3)) p3)) hd]; exact ball_c00 r p1 p2 p3 b1 b2 b3 b4 b5 b6 (sub (max b1 (min b4 p1)) p1) (sub (max b2 (min b5 p2)) p2) (sub (max b3 (min b6 p3)) p3) rfl rfl rfl h1 hd w
    · rw [tup_yes (T := ballN r (sub (max b1 (min b4 p1)) p1) (sub (max b2 (min b5 p2)) p2) (sub (max b3 (min b6 p3)) p3)) (by unfold ballN; simp only; omega)]; exact ball_c01 r p1 p2 p3 b1 b2 b3 b4 b5 b6 (sub (max b1 (min b4 p1)) p1) (sub (max b2 (min b5 p2)) p2) (sub (max b3 (min b6 p3)) p3) rfl rfl rfl h1 (by omega) w

set_option maxHeartbeats 2000000 in
theorem blocks_c0 (a1 a2 a3 a4 a5 a6 b1 b2 b3 b4 b5 b6 : Int) (hm : meetB a1 a2 a3 a4 a5 a6 b1 b2 b3 b4 b5 b6 = false) (w : World) : Calls Try.prog 112 #[.agg #[.int .i64 a1, .int .i64 a2, .int .i64 a3, .int .i64 a4, .int .i64 a5, .int .i64 a6], .agg #[.int .i64 b1, .int .i64 b2, .int .i64 b3, .int .i64 b4, .int .i64 b5, .int .i64 b6]] w fun e w' => e = .returned (.tuple #[.agg #[.int .i64 0, .int .i64 0, .int .i64 0], .int .i64 0, .bool false]) ∧ Below w.heap.size w w' := by
  have hmc := more_cell
  have hmf := more_frozen
  have hml := more_lt
  go_enter Try.func112, Try.ntmps112
  go_wp2_with fail
  refine (meet_c _ _ _ _ _ _ _ _ _ _ _ _ _).mono ?_
  rintro e w1 ⟨rfl, hb1⟩
  have B1_0 : Blk w1 (w.heap.size) _ := Blk.below (by repeat (with_reducible (first | assumption | (apply Blk.at; simp; done) | apply Blk.alloc | apply Blk.drew | apply Blk.drewN | apply Blk.more | apply Blk.put | (apply Blk.far; focus (first | assumption | (apply Ne.symm; assumption) | (simp; done) | (simp <;> omega)))))) hb1
  obtain ⟨z1_0, c1_0, f1_0⟩ := id B1_0
  have B1_1 : Blk w1 (w.heap.size + 1) _ := Blk.below (by repeat (with_reducible (first | assumption | (apply Blk.at; simp; done) | apply Blk.alloc | apply Blk.drew | apply Blk.drewN | apply Blk.more | apply Blk.put | (apply Blk.far; focus (first | assumption | (apply Ne.symm; assumption) | (simp; done) | (simp <;> omega)))))) hb1
  obtain ⟨z1_1, c1_1, f1_1⟩ := id B1_1
  have B1_2 : Blk w1 (w.heap.size + 1 + 1) _ := Blk.below (by repeat (with_reducible (first | assumption | (apply Blk.at; simp; done) | apply Blk.alloc | apply Blk.drew | apply Blk.drewN | apply Blk.more | apply Blk.put | (apply Blk.far; focus (first | assumption | (apply Ne.symm; assumption) | (simp; done) | (simp <;> omega)))))) hb1
  obtain ⟨z1_2, c1_2, f1_2⟩ := id B1_2
  go_wp2
  exact bodyPost_ret (v := .tuple #[.agg #[.int .i64 0, .int .i64 0, .int .i64 0], .int .i64 0, .bool false]) (by simp [results, Try.results112, go_sem, *]) rfl ⟨rfl, (by repeat (with_reducible (first | exact Below.refl _ _ | assumption | apply ext_drew | apply ext_drewN | apply ext_alloc | apply ext_more | (refine ext_setCell ?_ (by simp <;> omega) _) | (refine ext_below ?_ (by assumption)))))⟩

set_option maxHeartbeats 2000000 in
theorem blocks_c1 (a1 a2 a3 a4 a5 a6 b1 b2 b3 b4 b5 b6 : Int) (hm : meetB a1 a2 a3 a4 a5 a6 b1 b2 b3 b4 b5 b6 = true) (hd : (outT a1 a2 a3 a4 a5 a6 b1 b2 b3 b4 b5 b6).2.2.2 ≤ 0) (w : World) : Calls Try.prog 112 #[.agg #[.int .i64 a1, .int .i64 a2, .int .i64 a3, .int .i64 a4, .int .i64 a5, .int .i64 a6], .agg #[.int .i64 b1, .int .i64 b2, .int .i64 b3, .int .i64 b4, .int .i64 b5, .int .i64 b6]] w fun e w' => e = .returned (.tuple #[.agg #[.int .i64 0, .int .i64 0, .int .i64 0], .int .i64 0, .bool false]) ∧ Below w.heap.size w w' := by
  have hmc := more_cell
  have hmf := more_frozen
  have hml := more_lt
  go_enter Try.func112, Try.ntmps112
  go_wp2_with fail
  refine (meet_c _ _ _ _ _ _ _ _ _ _ _ _ _).mono ?_
  rintro e w1 ⟨rfl, hb1⟩
  have B1_0 : Blk w1 (w.heap.size) _ := Blk.below (by repeat (with_reducible (first | assumption | (apply Blk.at; simp; done) | apply Blk.alloc | apply Blk.drew | apply Blk.drewN | apply Blk.more | apply Blk.put | (apply Blk.far; focus (first | assumption | (apply Ne.symm; assumption) | (simp; done) | (simp <;> omega)))))) hb1
  obtain ⟨z1_0, c1_0, f1_0⟩ := id B1_0
  have B1_1 : Blk w1 (w.heap.size + 1) _ := Blk.below (by repeat (with_reducible (first | assumption | (apply Blk.at; simp; done) | apply Blk.alloc | apply Blk.drew | apply Blk.drewN | apply Blk.more | apply Blk.put | (apply Blk.far; focus (first | assumption | (apply Ne.symm; assumption) | (simp; done) | (simp <;> omega)))))) hb1
  obtain ⟨z1_1, c1_1, f1_1⟩ := id B1_1
  have B1_2 : Blk w1 (w.heap.size + 1 + 1) _ := Blk.below (by repeat (with_reducible (first | assumption | (apply Blk.at; simp; done) | apply Blk.alloc | apply Blk.drew | apply Blk.drewN | apply Blk.more | apply Blk.put | (apply Blk.far; focus (first | assumption | (apply Ne.symm; assumption) | (simp; done) | (simp <;> omega)))))) hb1
  obtain ⟨z1_2, c1_2, f1_2⟩ := id B1_2
  go_wp2_with fail
  refine (out_c _ _ _ _ _ _ _ _ _ _ _ _ _).mono ?_
  rintro e w2 ⟨rfl, hb2⟩
  have B2_0 : Blk w2 (w.heap.size) _ := Blk.below (by repeat (with_reducible (first | assumption | (apply Blk.at; simp; done) | apply Blk.alloc | apply Blk.drew | apply Blk.drewN | apply Blk.more | apply Blk.put | (apply Blk.far; focus (first | assumption | (apply Ne.symm; assumption) | (simp; done) | (simp <;> omega)))))) hb2
  obtain ⟨z2_0, c2_0, f2_0⟩ := id B2_0
  have B2_1 : Blk w2 (w.heap.size + 1) _ := Blk.below (by repeat (with_reducible (first | assumption | (apply Blk.at; simp; done) | apply Blk.alloc | apply Blk.drew | apply Blk.drewN | apply Blk.more | apply Blk.put | (apply Blk.far; focus (first | assumption | (apply Ne.symm; assumption) | (simp; done) | (simp <;> omega)))))) hb2
  obtain ⟨z2_1, c2_1, f2_1⟩ := id B2_1
  have B2_2 : Blk w2 (w.heap.size + 1 + 1) _ := Blk.below (by repeat (with_reducible (first | assumption | (apply Blk.at; simp; done) | apply Blk.alloc | apply Blk.drew | apply Blk.drewN | apply Blk.more | apply Blk.put | (apply Blk.far; focus (first | assumption | (apply Ne.symm; assumption) | (simp; done) | (simp <;> omega)))))) hb2
  obtain ⟨z2_2, c2_2, f2_2⟩ := id B2_2
  go_wp2
  exact bodyPost_ret (v := .tuple #[.agg #[.int .i64 0, .int .i64 0, .int .i64 0], .int .i64 0, .bool false]) (by simp [results, Try.results112, go_sem, *]) rfl ⟨rfl, (by repeat (with_reducible (first | exact Below.refl _ _ | assumption | apply ext_drew | apply ext_drewN | apply ext_alloc | apply ext_more | (refine ext_setCell ?_ (by simp <;> omega) _) | (refine ext_below ?_ (by assumption)))))⟩

set_option maxHeartbeats 2000000 in
theorem blocks_c2 (a1 a2 a3 a4 a5 a6 b1 b2 b3 b4 b5 b6 : Int) (hm : meetB a1 a2 a3 a4 a5 a6 b1 b2 b3 b4 b5 b6 = true) (hd : 0 < (outT a1 a2 a3 a4 a5 a6 b1 b2 b3 b4 b5 b6).2.2.2) (w : World) : Calls Try.prog 112 #[.agg #[.int .i64 a1, .int .i64 a2, .int .i64 a3, .int .i64 a4, .int .i64 a5, .int .i64 a6], .agg #[.int .i64 b1, .int .i64 b2, .int .i64 b3, .int .i64 b4, .int .i64 b5, .int .i64 b6]] w fun e w' => e = .returned (.tuple #[.agg #[.int .i64 (outT a1 a2 a3 a4 a5 a6 b1 b2 b3 b4 b5 b6).1, .int .i64 (outT a1 a2 a3 a4 a5 a6 b1 b2 b3 b4 b5 b6).2.1, .int .i64 (outT a1 a2 a3 a4 a5 a6 b1 b2 b3 b4 b5 b6).2.2.1], .int .i64 (outT a1 a2 a3 a4 a5 a6 b1 b2 b3 b4 b5 b6).2.2.2, .bool true]) ∧ Below w.heap.size w w' := by
  have hmc := more_cell
  have hmf := more_frozen
  have hml := more_lt
  go_enter Try.func112, Try.ntmps112
  go_wp2_with fail
  refine (meet_c _ _ _ _ _ _ _ _ _ _ _ _ _).mono ?_
  rintro e w1 ⟨rfl, hb1⟩
  have B1_0 : Blk w1 (w.heap.size) _ := Blk.below (by repeat (with_reducible (first | assumption | (apply Blk.at; simp; done) | apply Blk.alloc | apply Blk.drew | apply Blk.drewN | apply Blk.more | apply Blk.put | (apply Blk.far; focus (first | assumption | (apply Ne.symm; assumption) | (simp; done) | (simp <;> omega)))))) hb1
  obtain ⟨z1_0, c1_0, f1_0⟩ := id B1_0
  have B1_1 : Blk w1 (w.heap.size + 1) _ := Blk.below (by repeat (with_reducible (first | assumption | (apply Blk.at; simp; done) | apply Blk.alloc | apply Blk.drew | apply Blk.drewN | apply Blk.more | apply Blk.put | (apply Blk.far; focus (first | assumption | (apply Ne.symm; assumption) | (simp; done) | (simp <;> omega)))))) hb1
  obtain ⟨z1_1, c1_1, f1_1⟩ := id B1_1
  have B1_2 : Blk w1 (w.heap.size + 1 + 1) _ := Blk.below (by repeat (with_reducible (first | assumption | (apply Blk.at; simp; done) | apply Blk.alloc | apply Blk.drew | apply Blk.drewN | apply Blk.more | apply Blk.put | (apply Blk.far; focus (first | assumption | (apply Ne.symm; assumption) | (simp; done) | (simp <;> omega)))))) hb1
  obtain ⟨z1_2, c1_2, f1_2⟩ := id B1_2
  go_wp2_with fail
  refine (out_c _ _ _ _ _ _ _ _ _ _ _ _ _).mono ?_
  rintro e w2 ⟨rfl, hb2⟩
  have B2_0 : Blk w2 (w.heap.size) _ := Blk.below (by repeat (with_reducible (first | assumption | (apply Blk.at; simp; done) | apply Blk.alloc | apply Blk.drew | apply Blk.drewN | apply Blk.more | apply Blk.put | (apply Blk.far; focus (first | assumption | (apply Ne.symm; assumption) | (simp; done) | (simp <;> omega)))))) hb2
  obtain ⟨z2_0, c2_0, f2_0⟩ := id B2_0
  have B2_1 : Blk w2 (w.heap.size + 1) _ := Blk.below (by repeat (with_reducible (first | assumption | (apply Blk.at; simp; done) | apply Blk.alloc | apply Blk.drew | apply Blk.drewN | apply Blk.more | apply Blk.put | (apply Blk.far; focus (first | assumption | (apply Ne.symm; assumption) | (simp; done) | (simp <;> omega)))))) hb2
  obtain ⟨z2_1, c2_1, f2_1⟩ := id B2_1
  have B2_2 : Blk w2 (w.heap.size + 1 + 1) _ := Blk.below (by repeat (with_reducible (first | assumption | (apply Blk.at; simp; done) | apply Blk.alloc | apply Blk.drew | apply Blk.drewN | apply Blk.more | apply Blk.put | (apply Blk.far; focus (first | assumption | (apply Ne.symm; assumption) | (simp; done) | (simp <;> omega)))))) hb2
  obtain ⟨z2_2, c2_2, f2_2⟩ := id B2_2
  go_wp2
  exact bodyPost_ret (v := .tuple #[.agg #[.int .i64 (outT a1 a2 a3 a4 a5 a6 b1 b2 b3 b4 b5 b6).1, .int .i64 (outT a1 a2 a3 a4 a5 a6 b1 b2 b3 b4 b5 b6).2.1, .int .i64 (outT a1 a2 a3 a4 a5 a6 b1 b2 b3 b4 b5 b6).2.2.1], .int .i64 (outT a1 a2 a3 a4 a5 a6 b1 b2 b3 b4 b5 b6).2.2.2, .bool true]) (by simp [results, Try.results112, go_sem, *]) rfl ⟨rfl, (by repeat (with_reducible (first | exact Below.refl _ _ | assumption | apply ext_drew | apply ext_drewN | apply ext_alloc | apply ext_more | (refine ext_setCell ?_ (by simp <;> omega) _) | (refine ext_below ?_ (by assumption)))))⟩

end Go.Proofs.Ytfagkbmphohelaa
