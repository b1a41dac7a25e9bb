/- The contracts of where two shapes touch (package geom): two balls. Conditions: none. -/
import Derived.Test.YtfagkbmphohelaaBoxes2
import Derived.Test.YtfagkbmphohelaaGrow
namespace Go.Proofs.Ytfagkbmphohelaa
open Go.ChangeShapes Go.WideShapes Go.ChangeAt Go.RowKit Go.BigFrame

/-- the way and the depth where they touch, else nothing -/
def tri (x y z d : Int) : Value := if d ≤ 0 then .tuple #[.agg #[.int .i64 0, .int .i64 0, .int .i64 0], .int .i64 0, .bool false] else .tuple #[.agg #[.int .i64 x, .int .i64 y, .int .i64 z], .int .i64 d, .bool true]
/-- how deep two balls are in each other -/
def deepB (r s v1 v2 v3 : Int) : Int := sub (add r s) (long v1 v2 v3)
def ballsV (r p1 p2 p3 s q1 q2 q3 : Int) : Value := tri (unit1 (sub q1 p1) (sub q2 p2) (sub q3 p3)) (unit2 (sub q1 p1) (sub q2 p2) (sub q3 p3)) (unit3 (sub q1 p1) (sub q2 p2) (sub q3 p3)) (deepB r s (sub q1 p1) (sub q2 p2) (sub q3 p3))

set_option maxHeartbeats 1000000 in
theorem balls_c0 (r p1 p2 p3 s q1 q2 q3 : Int) (hd : sub (add r s) (long (sub q1 p1) (sub q2 p2) (sub q3 p3)) ≤ 0) (w : World) : Calls Try.prog 110 #[.int .i64 r, .agg #[.int .i64 p1, .int .i64 p2, .int .i64 p3], .int .i64 s, .agg #[.int .i64 q1, .int .i64 q2, .int .i64 q3]] w fun e w' => e = .returned (.tuple #[.agg #[.int .i64 0, .int .i64 0, .int .i64 0], .int .i64 0, .bool false]) ∧ Below w.heap.size w w' := by
  have hmc := more_cell
  have hmf := more_frozen
  have hml := more_lt
  go_enter Try.func110, Try.ntmps110
  go_wp2_with fail
  refine (minus_c _ _ _ _ _ _ _).mono ?_
  rintro e w1 ⟨rfl, hb1⟩
  have B1_0 : Blk w1 (w.heap.size + 1 + 1) #[.int .i64 0, .int .i64 0, .int .i64 0] := Blk.below (by repeat (with_reducible (first | assumption | exact Blk.at _ _ _ _ (by simp) | apply Blk.alloc | apply Blk.drew | apply Blk.drewN | apply Blk.more | (refine Blk.setCell ?_ _ _ (by simp <;> omega))))) hb1
  obtain ⟨z1_0, c1_0, f1_0⟩ := id B1_0
  go_wp2_with fail
  refine region_quiet_all (by kernel_rfl) (by kernel_rfl) ?_
  repeat (go_big_quiet_step (first | (go_at_call 51; exact calls_after_same (add_c _ _ _)) | (go_at_call 49; exact calls_after_same (sub_c _ _ _)) | (go_at_call 66; exact calls_after (long_c _ _ _ _))))
  refine wpQuiet_nil ?_
  rintro w2 hw2
  have hb2 := after_below hw2
  clear hw2
  have B2_0 : Blk w2 (w1.heap.size) #[.int .i64 (sub q1 p1), .int .i64 (sub q2 p2), .int .i64 (sub q3 p3)] := Blk.below (by repeat (with_reducible (first | assumption | (refine Blk.at _ _ _ _ ?_; simp; done) | apply Blk.alloc | apply Blk.drew | apply Blk.drewN | apply Blk.more | (refine Blk.setCell ?_ _ _ ?_; rotate_left; focus (simp <;> omega))))) hb2
  obtain ⟨z2_0, c2_0, f2_0⟩ := id B2_0
  have B2_1 : Blk w2 (w.heap.size + 1 + 1) #[.int .i64 0, .int .i64 0, .int .i64 0] := Blk.below (by repeat (with_reducible (first | assumption | (refine Blk.at _ _ _ _ ?_; simp; done) | apply Blk.alloc | apply Blk.drew | apply Blk.drewN | apply Blk.more | (refine Blk.setCell ?_ _ _ ?_; rotate_left; focus (simp <;> omega))))) hb2
  obtain ⟨z2_1, c2_1, f2_1⟩ := id B2_1
  go_wp2_with fail
  exact bodyPost_ret (v := .tuple #[.agg #[.int .i64 0, .int .i64 0, .int .i64 0], .int .i64 0, .bool false]) (by simp [results, Try.results110, go_sem, *]) rfl ⟨rfl, (by repeat (with_reducible (first | exact Below.refl _ _ | assumption | apply ext_drew | apply ext_drewN | apply ext_alloc | apply ext_more | (refine ext_setCell ?_ (by simp <;> omega) _) | (refine ext_below ?_ (by assumption)))))⟩

set_option maxHeartbeats 1000000 in
theorem balls_c1 (r p1 p2 p3 s q1 q2 q3 : Int) (hd : 0 < sub (add r s) (long (sub q1 p1) (sub q2 p2) (sub q3 p3))) (w : World) : Calls Try.prog 110 #[.int .i64 r, .agg #[.int .i64 p1, .int .i64 p2, .int .i64 p3], .int .i64 s, .agg #[.int .i64 q1, .int .i64 q2, .int .i64 q3]] w fun e w' => e = .returned (.tuple #[.agg #[.int .i64 (unit1 (sub q1 p1) (sub q2 p2) (sub q3 p3)), .int .i64 (unit2 (sub q1 p1) (sub q2 p2) (sub q3 p3)), .int .i64 (unit3 (sub q1 p1) (sub q2 p2) (sub q3 p3))], .int .i64 (sub (add r s) (long (sub q1 p1) (sub q2 p2) (sub q3 p3))), .bool true]) ∧ Below w.heap.size w w' := by
  have hmc := more_cell
  have hmf := more_frozen
  have hml := more_lt
  go_enter Try.func110, Try.ntmps110
  have hd' : ¬ (sub (add r s) (long (sub q1 p1) (sub q2 p2) (sub q3 p3)) ≤ 0) := by omega
  go_wp2_with fail
  refine (minus_c _ _ _ _ _ _ _).mono ?_
  rintro e w1 ⟨rfl, hb1⟩
  have B1_0 : Blk w1 (w.heap.size + 1 + 1) #[.int .i64 0, .int .i64 0, .int .i64 0] := Blk.below (by repeat (with_reducible (first | assumption | exact Blk.at _ _ _ _ (by simp) | apply Blk.alloc | apply Blk.drew | apply Blk.drewN | apply Blk.more | (refine Blk.setCell ?_ _ _ (by simp <;> omega))))) hb1
  obtain ⟨z1_0, c1_0, f1_0⟩ := id B1_0
  go_wp2_with fail
  refine region_quiet_all (by kernel_rfl) (by kernel_rfl) ?_
  repeat (go_big_quiet_step (first | (go_at_call 51; exact calls_after_same (add_c _ _ _)) | (go_at_call 49; exact calls_after_same (sub_c _ _ _)) | (go_at_call 66; exact calls_after (long_c _ _ _ _))))
  refine wpQuiet_nil ?_
  rintro w2 hw2
  have hb2 := after_below hw2
  clear hw2
  have B2_0 : Blk w2 (w1.heap.size) #[.int .i64 (sub q1 p1), .int .i64 (sub q2 p2), .int .i64 (sub q3 p3)] := Blk.below (by repeat (with_reducible (first | assumption | (refine Blk.at _ _ _ _ ?_; simp; done) | apply Blk.alloc | apply Blk.drew | apply Blk.drewN | apply Blk.more | (refine Blk.setCell ?_ _ _ ?_; rotate_left; focus (simp <;> omega))))) hb2
  obtain ⟨z2_0, c2_0, f2_0⟩ := id B2_0
  have B2_1 : Blk w2 (w.heap.size + 1 + 1) #[.int .i64 0, .int .i64 0, .int .i64 0] := Blk.below (by repeat (with_reducible (first | assumption | (refine Blk.at _ _ _ _ ?_; simp; done) | apply Blk.alloc | apply Blk.drew | apply Blk.drewN | apply Blk.more | (refine Blk.setCell ?_ _ _ ?_; rotate_left; focus (simp <;> omega))))) hb2
  obtain ⟨z2_1, c2_1, f2_1⟩ := id B2_1
  go_wp2_with fail
  refine (unit_c _ _ _ _).mono ?_
  rintro e w3 ⟨rfl, hb3⟩
  have B3_0 : Blk w3 (w.heap.size + 1 + 1) #[.int .i64 0, .int .i64 0, .int .i64 0] := Blk.below (by repeat (with_reducible (first | assumption | exact Blk.at _ _ _ _ (by simp) | apply Blk.alloc | apply Blk.drew | apply Blk.drewN | apply Blk.more | (refine Blk.setCell ?_ _ _ (by simp <;> omega))))) hb3
  obtain ⟨z3_0, c3_0, f3_0⟩ := id B3_0
  go_wp2
  exact bodyPost_ret (v := .tuple #[.agg #[.int .i64 (unit1 (sub q1 p1) (sub q2 p2) (sub q3 p3)), .int .i64 (unit2 (sub q1 p1) (sub q2 p2) (sub q3 p3)), .int .i64 (unit3 (sub q1 p1) (sub q2 p2) (sub q3 p3))], .int .i64 (sub (add r s) (long (sub q1 p1) (sub q2 p2) (sub q3 p3))), .bool true]) (by simp [results, Try.results110, go_sem, *]) rfl ⟨rfl, (by repeat (with_reducible (first | exact Below.refl _ _ | assumption | apply ext_drew | apply ext_drewN | apply ext_alloc | apply ext_more | (refine ext_setCell ?_ (by simp <;> omega) _) | (refine ext_below ?_ (by assumption)))))⟩

theorem balls_c (r p1 p2 p3 s q1 q2 q3 : Int) (w : World) : Calls Try.prog 110 #[.int .i64 r, .agg #[.int .i64 p1, .int .i64 p2, .int .i64 p3], .int .i64 s, .agg #[.int .i64 q1, .int .i64 q2, .int .i64 q3]] w fun e w' => e = .returned (ballsV r p1 p2 p3 s q1 q2 q3) ∧ Below w.heap.size w w' := by
  unfold ballsV tri deepB
  by_cases h : sub (add r s) (long (sub q1 p1) (sub q2 p2) (sub q3 p3)) ≤ 0
  · rw [if_pos h]; exact balls_c0 r p1 p2 p3 s q1 q2 q3 h w
  · rw [if_neg h]; exact balls_c1 r p1 p2 p3 s q1 q2 q3 (by omega) w

end Go.Proofs.Ytfagkbmphohelaa
