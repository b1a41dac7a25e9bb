/- The contract of the document's answer on which shapes may be. Conditions: none. -/
import Derived.Test.YtefhmbmbhiehdaaGeom
import Derived.LoopN
namespace Go.Proofs.Ytefhmbmbhiehdaa
open Go.ChangeShapes Go.WideShapes Go.ChangeAt Go.RowKit Go.BigFrame

theorem rright_c0 (k x y z : Int) (e1 : (k == 1) = true) (xl : x < 1) (w : World) : Calls Try.prog 18 #[.agg #[.int .i64 k, .int .i64 x, .int .i64 y, .int .i64 z]] w fun e w' => e = .returned (.bool false) ∧ Below w.heap.size w w' := by
  have hmc := more_cell
  have hmf := more_frozen
  have hml := more_lt
  go_enter Try.func18, Try.ntmps18
  go_wp2
  go_region
  all_goals
    go_wp2
    refine wp_loop_rounds 1 ?_
    rw [rounds_succ]
    go_wp2
    go_ret
    exact ⟨rfl, (by repeat (with_reducible (first | exact Below.refl _ _ | assumption | apply ext_drew | apply ext_drewN | apply ext_alloc | apply ext_more | (refine ext_setCell ?_ (by simp <;> omega) _) | (refine ext_below ?_ (by assumption)))))⟩

theorem rright_c1 (k x y z : Int) (e1 : (k == 1) = true) (xl : 1 ≤ x) (xh : 3276800 < x) (w : World) : Calls Try.prog 18 #[.agg #[.int .i64 k, .int .i64 x, .int .i64 y, .int .i64 z]] w fun e w' => e = .returned (.bool false) ∧ Below w.heap.size w w' := by
  have hmc := more_cell
  have hmf := more_frozen
  have hml := more_lt
  go_enter Try.func18, Try.ntmps18
  go_wp2
  go_region
  all_goals
    go_wp2
    refine wp_loop_rounds 1 ?_
    rw [rounds_succ]
    go_wp2
    go_ret
    exact ⟨rfl, (by repeat (with_reducible (first | exact Below.refl _ _ | assumption | apply ext_drew | apply ext_drewN | apply ext_alloc | apply ext_more | (refine ext_setCell ?_ (by simp <;> omega) _) | (refine ext_below ?_ (by assumption)))))⟩

theorem rright_c2 (k x y z : Int) (e1 : (k == 1) = true) (xl : 1 ≤ x) (xh : x ≤ 3276800) (y0 : (y != 0) = true) (w : World) : Calls Try.prog 18 #[.agg #[.int .i64 k, .int .i64 x, .int .i64 y, .int .i64 z]] w fun e w' => e = .returned (.bool false) ∧ Below w.heap.size w w' := by
  have hmc := more_cell
  have hmf := more_frozen
  have hml := more_lt
  go_enter Try.func18, Try.ntmps18
  go_wp2
  go_region
  all_goals
    go_wp2
    refine wp_loop_rounds 2 ?_
    rw [rounds_succ]
    go_wp2
    rw [rounds_succ]
    go_wp2
    refine wp_loop_rounds 1 ?_
    rw [rounds_succ]
    go_wp2
    go_ret
    exact ⟨rfl, (by repeat (with_reducible (first | exact Below.refl _ _ | assumption | apply ext_drew | apply ext_drewN | apply ext_alloc | apply ext_more | (refine ext_setCell ?_ (by simp <;> omega) _) | (refine ext_below ?_ (by assumption)))))⟩

theorem rright_c3 (k x y z : Int) (e1 : (k == 1) = true) (xl : 1 ≤ x) (xh : x ≤ 3276800) (y0 : (y != 0) = false) (z0 : (z != 0) = true) (w : World) : Calls Try.prog 18 #[.agg #[.int .i64 k, .int .i64 x, .int .i64 y, .int .i64 z]] w fun e w' => e = .returned (.bool false) ∧ Below w.heap.size w w' := by
  have hmc := more_cell
  have hmf := more_frozen
  have hml := more_lt
  go_enter Try.func18, Try.ntmps18
  go_wp2
  go_region
  all_goals
    go_wp2
    refine wp_loop_rounds 2 ?_
    rw [rounds_succ]
    go_wp2
    rw [rounds_succ]
    go_wp2
    refine wp_loop_rounds 2 ?_
    rw [rounds_succ]
    go_wp2
    rw [rounds_succ]
    go_wp2
    go_ret
    exact ⟨rfl, (by repeat (with_reducible (first | exact Below.refl _ _ | assumption | apply ext_drew | apply ext_drewN | apply ext_alloc | apply ext_more | (refine ext_setCell ?_ (by simp <;> omega) _) | (refine ext_below ?_ (by assumption)))))⟩

theorem rright_c4 (k x y z : Int) (e1 : (k == 1) = true) (xl : 1 ≤ x) (xh : x ≤ 3276800) (y0 : (y != 0) = false) (z0 : (z != 0) = false) (w : World) : Calls Try.prog 18 #[.agg #[.int .i64 k, .int .i64 x, .int .i64 y, .int .i64 z]] w fun e w' => e = .returned (.bool true) ∧ Below w.heap.size w w' := by
  have hmc := more_cell
  have hmf := more_frozen
  have hml := more_lt
  go_enter Try.func18, Try.ntmps18
  go_wp2
  go_region
  all_goals
    go_wp2
    refine wp_loop_rounds 2 ?_
    rw [rounds_succ]
    go_wp2
    rw [rounds_succ]
    go_wp2
    refine wp_loop_rounds 3 ?_
    rw [rounds_succ]
    go_wp2
    rw [rounds_succ]
    go_wp2
    rw [rounds_succ]
    go_wp2
    go_ret
    exact ⟨rfl, (by repeat (with_reducible (first | exact Below.refl _ _ | assumption | apply ext_drew | apply ext_drewN | apply ext_alloc | apply ext_more | (refine ext_setCell ?_ (by simp <;> omega) _) | (refine ext_below ?_ (by assumption)))))⟩

theorem rright_c5 (k x y z : Int) (e1 : (k == 1) = false) (e2 : (k == 2) = true) (xl : x < 1) (w : World) : Calls Try.prog 18 #[.agg #[.int .i64 k, .int .i64 x, .int .i64 y, .int .i64 z]] w fun e w' => e = .returned (.bool false) ∧ Below w.heap.size w w' := by
  have hmc := more_cell
  have hmf := more_frozen
  have hml := more_lt
  go_enter Try.func18, Try.ntmps18
  go_wp2_with fail
  refine (parts_c _ _ _ _).mono ?_
  rintro e w1 ⟨rfl, B1, hb1⟩
  simp only [World.size_alloc] at B1
  obtain ⟨z1, c1, f1⟩ := id B1
  go_wp2
  refine wp_loop_rounds 1 ?_
  rw [rounds_succ]
  go_wp2
  go_ret
  exact ⟨rfl, (by repeat (with_reducible (first | exact Below.refl _ _ | assumption | apply ext_drew | apply ext_drewN | apply ext_alloc | apply ext_more | (refine ext_setCell ?_ (by simp <;> omega) _) | (refine ext_below ?_ (by assumption)))))⟩

theorem rright_c6 (k x y z : Int) (e1 : (k == 1) = false) (e2 : (k == 2) = true) (xl : 1 ≤ x) (xh : 3276800 < x) (w : World) : Calls Try.prog 18 #[.agg #[.int .i64 k, .int .i64 x, .int .i64 y, .int .i64 z]] w fun e w' => e = .returned (.bool false) ∧ Below w.heap.size w w' := by
  have hmc := more_cell
  have hmf := more_frozen
  have hml := more_lt
  go_enter Try.func18, Try.ntmps18
  go_wp2_with fail
  refine (parts_c _ _ _ _).mono ?_
  rintro e w1 ⟨rfl, B1, hb1⟩
  simp only [World.size_alloc] at B1
  obtain ⟨z1, c1, f1⟩ := id B1
  go_wp2
  refine wp_loop_rounds 1 ?_
  rw [rounds_succ]
  go_wp2
  go_ret
  exact ⟨rfl, (by repeat (with_reducible (first | exact Below.refl _ _ | assumption | apply ext_drew | apply ext_drewN | apply ext_alloc | apply ext_more | (refine ext_setCell ?_ (by simp <;> omega) _) | (refine ext_below ?_ (by assumption)))))⟩

theorem rright_c7 (k x y z : Int) (e1 : (k == 1) = false) (e2 : (k == 2) = true) (xl : 1 ≤ x) (xh : x ≤ 3276800) (yl : y < 1) (w : World) : Calls Try.prog 18 #[.agg #[.int .i64 k, .int .i64 x, .int .i64 y, .int .i64 z]] w fun e w' => e = .returned (.bool false) ∧ Below w.heap.size w w' := by
  have hmc := more_cell
  have hmf := more_frozen
  have hml := more_lt
  go_enter Try.func18, Try.ntmps18
  go_wp2_with fail
  refine (parts_c _ _ _ _).mono ?_
  rintro e w1 ⟨rfl, B1, hb1⟩
  simp only [World.size_alloc] at B1
  obtain ⟨z1, c1, f1⟩ := id B1
  go_wp2
  refine wp_loop_rounds 2 ?_
  rw [rounds_succ]
  go_wp2
  rw [rounds_succ]
  go_wp2
  go_ret
  exact ⟨rfl, (by repeat (with_reducible (first | exact Below.refl _ _ | assumption | apply ext_drew | apply ext_drewN | apply ext_alloc | apply ext_more | (refine ext_setCell ?_ (by simp <;> omega) _) | (refine ext_below ?_ (by assumption)))))⟩

theorem rright_c8 (k x y z : Int) (e1 : (k == 1) = false) (e2 : (k == 2) = true) (xl : 1 ≤ x) (xh : x ≤ 3276800) (yl : 1 ≤ y) (yh : 3276800 < y) (w : World) : Calls Try.prog 18 #[.agg #[.int .i64 k, .int .i64 x, .int .i64 y, .int .i64 z]] w fun e w' => e = .returned (.bool false) ∧ Below w.heap.size w w' := by
  have hmc := more_cell
  have hmf := more_frozen
  have hml := more_lt
  go_enter Try.func18, Try.ntmps18
  go_wp2_with fail
  refine (parts_c _ _ _ _).mono ?_
  rintro e w1 ⟨rfl, B1, hb1⟩
  simp only [World.size_alloc] at B1
  obtain ⟨z1, c1, f1⟩ := id B1
  go_wp2
  refine wp_loop_rounds 2 ?_
  rw [rounds_succ]
  go_wp2
  rw [rounds_succ]
  go_wp2
  go_ret
  exact ⟨rfl, (by repeat (with_reducible (first | exact Below.refl _ _ | assumption | apply ext_drew | apply ext_drewN | apply ext_alloc | apply ext_more | (refine ext_setCell ?_ (by simp <;> omega) _) | (refine ext_below ?_ (by assumption)))))⟩

theorem rright_c9 (k x y z : Int) (e1 : (k == 1) = false) (e2 : (k == 2) = true) (xl : 1 ≤ x) (xh : x ≤ 3276800) (yl : 1 ≤ y) (yh : y ≤ 3276800) (zl : z < 1) (w : World) : Calls Try.prog 18 #[.agg #[.int .i64 k, .int .i64 x, .int .i64 y, .int .i64 z]] w fun e w' => e = .returned (.bool false) ∧ Below w.heap.size w w' := by
  have hmc := more_cell
  have hmf := more_frozen
  have hml := more_lt
  go_enter Try.func18, Try.ntmps18
  go_wp2_with fail
  refine (parts_c _ _ _ _).mono ?_
  rintro e w1 ⟨rfl, B1, hb1⟩
  simp only [World.size_alloc] at B1
  obtain ⟨z1, c1, f1⟩ := id B1
  go_wp2
  refine wp_loop_rounds 3 ?_
  rw [rounds_succ]
  go_wp2
  rw [rounds_succ]
  go_wp2
  rw [rounds_succ]
  go_wp2
  go_ret
  exact ⟨rfl, (by repeat (with_reducible (first | exact Below.refl _ _ | assumption | apply ext_drew | apply ext_drewN | apply ext_alloc | apply ext_more | (refine ext_setCell ?_ (by simp <;> omega) _) | (refine ext_below ?_ (by assumption)))))⟩

theorem rright_c10 (k x y z : Int) (e1 : (k == 1) = false) (e2 : (k == 2) = true) (xl : 1 ≤ x) (xh : x ≤ 3276800) (yl : 1 ≤ y) (yh : y ≤ 3276800) (zl : 1 ≤ z) (zh : 3276800 < z) (w : World) : Calls Try.prog 18 #[.agg #[.int .i64 k, .int .i64 x, .int .i64 y, .int .i64 z]] w fun e w' => e = .returned (.bool false) ∧ Below w.heap.size w w' := by
  have hmc := more_cell
  have hmf := more_frozen
  have hml := more_lt
  go_enter Try.func18, Try.ntmps18
  go_wp2_with fail
  refine (parts_c _ _ _ _).mono ?_
  rintro e w1 ⟨rfl, B1, hb1⟩
  simp only [World.size_alloc] at B1
  obtain ⟨z1, c1, f1⟩ := id B1
  go_wp2
  refine wp_loop_rounds 3 ?_
  rw [rounds_succ]
  go_wp2
  rw [rounds_succ]
  go_wp2
  rw [rounds_succ]
  go_wp2
  go_ret
  exact ⟨rfl, (by repeat (with_reducible (first | exact Below.refl _ _ | assumption | apply ext_drew | apply ext_drewN | apply ext_alloc | apply ext_more | (refine ext_setCell ?_ (by simp <;> omega) _) | (refine ext_below ?_ (by assumption)))))⟩

theorem rright_c11 (k x y z : Int) (e1 : (k == 1) = false) (e2 : (k == 2) = true) (xl : 1 ≤ x) (xh : x ≤ 3276800) (yl : 1 ≤ y) (yh : y ≤ 3276800) (zl : 1 ≤ z) (zh : z ≤ 3276800) (w : World) : Calls Try.prog 18 #[.agg #[.int .i64 k, .int .i64 x, .int .i64 y, .int .i64 z]] w fun e w' => e = .returned (.bool true) ∧ Below w.heap.size w w' := by
  have hmc := more_cell
  have hmf := more_frozen
  have hml := more_lt
  go_enter Try.func18, Try.ntmps18
  go_wp2_with fail
  refine (parts_c _ _ _ _).mono ?_
  rintro e w1 ⟨rfl, B1, hb1⟩
  simp only [World.size_alloc] at B1
  obtain ⟨z1, c1, f1⟩ := id B1
  go_wp2
  refine wp_loop_rounds 4 ?_
  rw [rounds_succ]
  go_wp2
  rw [rounds_succ]
  go_wp2
  rw [rounds_succ]
  go_wp2
  rw [rounds_succ]
  go_wp2
  refine wp_loop_rounds 1 ?_
  rw [rounds_succ]
  go_wp2
  go_ret
  exact ⟨rfl, (by repeat (with_reducible (first | exact Below.refl _ _ | assumption | apply ext_drew | apply ext_drewN | apply ext_alloc | apply ext_more | (refine ext_setCell ?_ (by simp <;> omega) _) | (refine ext_below ?_ (by assumption)))))⟩

theorem rright_c12 (k x y z : Int) (e1 : (k == 1) = false) (e2 : (k == 2) = false) (w : World) : Calls Try.prog 18 #[.agg #[.int .i64 k, .int .i64 x, .int .i64 y, .int .i64 z]] w fun e w' => e = .returned (.bool false) ∧ Below w.heap.size w w' := by
  have hmc := more_cell
  have hmf := more_frozen
  have hml := more_lt
  go_enter Try.func18, Try.ntmps18
  go_wp2
  go_ret
  exact ⟨rfl, (by repeat (with_reducible (first | exact Below.refl _ _ | assumption | apply ext_drew | apply ext_drewN | apply ext_alloc | apply ext_more | (refine ext_setCell ?_ (by simp <;> omega) _) | (refine ext_below ?_ (by assumption)))))⟩

theorem rright_c (k x y z : Int) (w : World) : Calls Try.prog 18 #[.agg #[.int .i64 k, .int .i64 x, .int .i64 y, .int .i64 z]] w fun e w' => e = .returned (.bool (shapeB k x y z)) ∧ Below w.heap.size w w' := by
  by_cases e1 : k = 1
  · have f1 : (k == 1) = true := by rw [beq_iff_eq]; exact e1
    have hv : shapeB k x y z = (szB x && (y == 0) && (z == 0)) := by unfold shapeB; rw [if_pos e1]
    rw [hv]
    by_cases xl : x < 1
    · rw [show szB x = false from by simp [szB]; omega]; exact rright_c0 k x y z f1 xl w
    by_cases xh : 3276800 < x
    · rw [show szB x = false from by simp [szB]; omega]; exact rright_c1 k x y z f1 (by omega) xh w
    rw [show szB x = true from by simp [szB]; omega]
    by_cases y0 : y = 0
    · subst y0
      by_cases z0 : z = 0
      · subst z0; exact rright_c4 k x 0 0 f1 (by omega) (by omega) rfl rfl w
      · rw [show (z == 0) = false from by rw [beq_eq_false_iff_ne]; exact z0]; exact rright_c3 k x 0 z f1 (by omega) (by omega) rfl (by rw [bne_iff_ne]; exact z0) w
    · rw [show (y == 0) = false from by rw [beq_eq_false_iff_ne]; exact y0]; exact rright_c2 k x y z f1 (by omega) (by omega) (by rw [bne_iff_ne]; exact y0) w
  · have f1 : (k == 1) = false := by rw [beq_eq_false_iff_ne]; exact e1
    by_cases e2 : k = 2
    · have f2 : (k == 2) = true := by rw [beq_iff_eq]; exact e2
      have hv : shapeB k x y z = (szB x && szB y && szB z) := by unfold shapeB; rw [if_neg e1, if_pos e2]
      rw [hv]
      by_cases xl : x < 1
      · rw [show szB x = false from by simp [szB]; omega]; exact rright_c5 k x y z f1 f2 xl w
      by_cases xh : 3276800 < x
      · rw [show szB x = false from by simp [szB]; omega]; exact rright_c6 k x y z f1 f2 (by omega) xh w
      rw [show szB x = true from by simp [szB]; omega]
      by_cases yl : y < 1
      · rw [show szB y = false from by simp [szB]; omega]; exact rright_c7 k x y z f1 f2 (by omega) (by omega) yl w
      by_cases yh : 3276800 < y
      · rw [show szB y = false from by simp [szB]; omega]; exact rright_c8 k x y z f1 f2 (by omega) (by omega) (by omega) yh w
      rw [show szB y = true from by simp [szB]; omega]
      by_cases zl : z < 1
      · rw [show szB z = false from by simp [szB]; omega]; exact rright_c9 k x y z f1 f2 (by omega) (by omega) (by omega) (by omega) zl w
      by_cases zh : 3276800 < z
      · rw [show szB z = false from by simp [szB]; omega]; exact rright_c10 k x y z f1 f2 (by omega) (by omega) (by omega) (by omega) (by omega) zh w
      rw [show szB z = true from by simp [szB]; omega]
      exact rright_c11 k x y z f1 f2 (by omega) (by omega) (by omega) (by omega) (by omega) (by omega) w
    · have f2 : (k == 2) = false := by rw [beq_eq_false_iff_ne]; exact e2
      have hv : shapeB k x y z = false := by unfold shapeB; rw [if_neg e1, if_neg e2]
      rw [hv]
      exact rright_c12 k x y z f1 f2 w

end Go.Proofs.Ytefhmbmbhiehdaa
