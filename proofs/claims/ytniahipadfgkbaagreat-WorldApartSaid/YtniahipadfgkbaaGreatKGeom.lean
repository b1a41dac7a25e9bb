/- The contracts of shapes and the boxes around them (package geom, and the document's answers). Conditions: none. -/
import Derived.Test.YtniahipadfgkbaaGreatKB
namespace Go.Proofs.YtniahipadfgkbaaGreat
open Go.ChangeShapes Go.WideShapes Go.ChangeAt Go.RowKit Go.BigFrame

/-- a size that may be -/
def szB (n : Int) : Bool := decide (1 ≤ n) && decide (n ≤ 3276800)
/-- a shape that may be -/
def shapeB (k x y z : Int) : Bool := if k = 1 then szB x && (y == 0) && (z == 0) else if k = 2 then szB x && szB y && szB z else false
theorem szf_c (n : Int) (w : World) : Calls Tryz.prog 60 #[.int .i64 n] w fun e w' => e = .returned (.bool (szB n)) ∧ w = w' := by
  by_cases h1 : 1 ≤ n
  · by_cases h2 : n ≤ 3276800
    · go_enter Tryz.func60, Tryz.ntmps60
      go_wp2
      go_ret
      exact ⟨rb (by simp [szB, h1, h2]), rfl⟩
    · go_enter Tryz.func60, Tryz.ntmps60
      go_wp2
      go_ret
      exact ⟨rb (by simp [szB]; omega), rfl⟩
  · go_enter Tryz.func60, Tryz.ntmps60
    go_wp2
    go_ret
    exact ⟨rb (by simp [szB]; omega), rfl⟩

theorem right_c0 (k x y z : Int) (e1 : (k == 1) = true) (s : szB x = false) (w : World) : Calls Tryz.prog 31 #[.agg #[.int .i64 k, .int .i64 x, .int .i64 y, .int .i64 z]] w fun e w' => e = .returned (.bool false) ∧ Below w.heap.size w w' := by
  go_enter Tryz.func31, Tryz.ntmps31
  go_wp2_with (go_at_call 60; refine (szf_c _ _).mono ?_; rintro e w' ⟨rfl, rfl⟩)
  go_ret
  exact ⟨rfl, (by repeat (with_reducible (first | exact Below.refl _ _ | assumption | apply ext_drew | apply ext_drewN | apply ext_alloc | apply ext_more | (refine ext_setCell ?_ (by simp <;> omega) _) | (refine ext_below ?_ (by assumption)))))⟩

theorem right_c1 (k x y z : Int) (e1 : (k == 1) = true) (s : szB x = true) (y0 : (y == 0) = false) (w : World) : Calls Tryz.prog 31 #[.agg #[.int .i64 k, .int .i64 x, .int .i64 y, .int .i64 z]] w fun e w' => e = .returned (.bool false) ∧ Below w.heap.size w w' := by
  go_enter Tryz.func31, Tryz.ntmps31
  go_wp2_with (go_at_call 60; refine (szf_c _ _).mono ?_; rintro e w' ⟨rfl, rfl⟩)
  go_ret
  exact ⟨rfl, (by repeat (with_reducible (first | exact Below.refl _ _ | assumption | apply ext_drew | apply ext_drewN | apply ext_alloc | apply ext_more | (refine ext_setCell ?_ (by simp <;> omega) _) | (refine ext_below ?_ (by assumption)))))⟩

theorem right_c2 (k x y z : Int) (e1 : (k == 1) = true) (s : szB x = true) (y0 : (y == 0) = true) (z0 : (z == 0) = false) (w : World) : Calls Tryz.prog 31 #[.agg #[.int .i64 k, .int .i64 x, .int .i64 y, .int .i64 z]] w fun e w' => e = .returned (.bool false) ∧ Below w.heap.size w w' := by
  go_enter Tryz.func31, Tryz.ntmps31
  go_wp2_with (go_at_call 60; refine (szf_c _ _).mono ?_; rintro e w' ⟨rfl, rfl⟩)
  go_ret
  exact ⟨rfl, (by repeat (with_reducible (first | exact Below.refl _ _ | assumption | apply ext_drew | apply ext_drewN | apply ext_alloc | apply ext_more | (refine ext_setCell ?_ (by simp <;> omega) _) | (refine ext_below ?_ (by assumption)))))⟩

theorem right_c3 (k x y z : Int) (e1 : (k == 1) = true) (s : szB x = true) (y0 : (y == 0) = true) (z0 : (z == 0) = true) (w : World) : Calls Tryz.prog 31 #[.agg #[.int .i64 k, .int .i64 x, .int .i64 y, .int .i64 z]] w fun e w' => e = .returned (.bool true) ∧ Below w.heap.size w w' := by
  go_enter Tryz.func31, Tryz.ntmps31
  go_wp2_with (go_at_call 60; refine (szf_c _ _).mono ?_; rintro e w' ⟨rfl, rfl⟩)
  go_ret
  exact ⟨rfl, (by repeat (with_reducible (first | exact Below.refl _ _ | assumption | apply ext_drew | apply ext_drewN | apply ext_alloc | apply ext_more | (refine ext_setCell ?_ (by simp <;> omega) _) | (refine ext_below ?_ (by assumption)))))⟩

theorem right_c4 (k x y z : Int) (e1 : (k == 1) = false) (e2 : (k == 2) = true) (s : szB x = false) (w : World) : Calls Tryz.prog 31 #[.agg #[.int .i64 k, .int .i64 x, .int .i64 y, .int .i64 z]] w fun e w' => e = .returned (.bool false) ∧ Below w.heap.size w w' := by
  go_enter Tryz.func31, Tryz.ntmps31
  go_wp2_with (go_at_call 60; refine (szf_c _ _).mono ?_; rintro e w' ⟨rfl, rfl⟩)
  go_ret
  exact ⟨rfl, (by repeat (with_reducible (first | exact Below.refl _ _ | assumption | apply ext_drew | apply ext_drewN | apply ext_alloc | apply ext_more | (refine ext_setCell ?_ (by simp <;> omega) _) | (refine ext_below ?_ (by assumption)))))⟩

theorem right_c5 (k x y z : Int) (e1 : (k == 1) = false) (e2 : (k == 2) = true) (s : szB x = true) (t : szB y = false) (w : World) : Calls Tryz.prog 31 #[.agg #[.int .i64 k, .int .i64 x, .int .i64 y, .int .i64 z]] w fun e w' => e = .returned (.bool false) ∧ Below w.heap.size w w' := by
  go_enter Tryz.func31, Tryz.ntmps31
  go_wp2_with (go_at_call 60; refine (szf_c _ _).mono ?_; rintro e w' ⟨rfl, rfl⟩)
  go_ret
  exact ⟨rfl, (by repeat (with_reducible (first | exact Below.refl _ _ | assumption | apply ext_drew | apply ext_drewN | apply ext_alloc | apply ext_more | (refine ext_setCell ?_ (by simp <;> omega) _) | (refine ext_below ?_ (by assumption)))))⟩

theorem right_c6 (k x y z : Int) (e1 : (k == 1) = false) (e2 : (k == 2) = true) (s : szB x = true) (t : szB y = true) (u : szB z = false) (w : World) : Calls Tryz.prog 31 #[.agg #[.int .i64 k, .int .i64 x, .int .i64 y, .int .i64 z]] w fun e w' => e = .returned (.bool false) ∧ Below w.heap.size w w' := by
  go_enter Tryz.func31, Tryz.ntmps31
  go_wp2_with (go_at_call 60; refine (szf_c _ _).mono ?_; rintro e w' ⟨rfl, rfl⟩)
  go_ret
  exact ⟨rfl, (by repeat (with_reducible (first | exact Below.refl _ _ | assumption | apply ext_drew | apply ext_drewN | apply ext_alloc | apply ext_more | (refine ext_setCell ?_ (by simp <;> omega) _) | (refine ext_below ?_ (by assumption)))))⟩

theorem right_c7 (k x y z : Int) (e1 : (k == 1) = false) (e2 : (k == 2) = true) (s : szB x = true) (t : szB y = true) (u : szB z = true) (w : World) : Calls Tryz.prog 31 #[.agg #[.int .i64 k, .int .i64 x, .int .i64 y, .int .i64 z]] w fun e w' => e = .returned (.bool true) ∧ Below w.heap.size w w' := by
  go_enter Tryz.func31, Tryz.ntmps31
  go_wp2_with (go_at_call 60; refine (szf_c _ _).mono ?_; rintro e w' ⟨rfl, rfl⟩)
  go_ret
  exact ⟨rfl, (by repeat (with_reducible (first | exact Below.refl _ _ | assumption | apply ext_drew | apply ext_drewN | apply ext_alloc | apply ext_more | (refine ext_setCell ?_ (by simp <;> omega) _) | (refine ext_below ?_ (by assumption)))))⟩

theorem right_c8 (k x y z : Int) (e1 : (k == 1) = false) (e2 : (k == 2) = false) (w : World) : Calls Tryz.prog 31 #[.agg #[.int .i64 k, .int .i64 x, .int .i64 y, .int .i64 z]] w fun e w' => e = .returned (.bool false) ∧ Below w.heap.size w w' := by
  go_enter Tryz.func31, Tryz.ntmps31
  go_wp2_with (go_at_call 60; refine (szf_c _ _).mono ?_; rintro e w' ⟨rfl, rfl⟩)
  go_ret
  exact ⟨rfl, (by repeat (with_reducible (first | exact Below.refl _ _ | assumption | apply ext_drew | apply ext_drewN | apply ext_alloc | apply ext_more | (refine ext_setCell ?_ (by simp <;> omega) _) | (refine ext_below ?_ (by assumption)))))⟩

theorem right_c (k x y z : Int) (w : World) : Calls Tryz.prog 31 #[.agg #[.int .i64 k, .int .i64 x, .int .i64 y, .int .i64 z]] w fun e w' => e = .returned (.bool (shapeB k x y z)) ∧ Below w.heap.size w w' := by
  by_cases e1 : k = 1
  · have f1 : (k == 1) = true := by rw [beq_iff_eq]; exact e1
    have hv : shapeB k x y z = (szB x && (y == 0) && (z == 0)) := by unfold shapeB; rw [if_pos e1]
    rw [hv]
    cases s : szB x
    · exact right_c0 k x y z f1 s w
    · cases y0 : (y == 0)
      · exact right_c1 k x y z f1 s y0 w
      · cases z0 : (z == 0)
        · exact right_c2 k x y z f1 s y0 z0 w
        · exact right_c3 k x y z f1 s y0 z0 w
  · have f1 : (k == 1) = false := by rw [beq_eq_false_iff_ne]; exact e1
    by_cases e2 : k = 2
    · have f2 : (k == 2) = true := by rw [beq_iff_eq]; exact e2
      have hv : shapeB k x y z = (szB x && szB y && szB z) := by unfold shapeB; rw [if_neg e1, if_pos e2]
      rw [hv]
      cases s : szB x
      · exact right_c4 k x y z f1 f2 s w
      · cases t : szB y
        · exact right_c5 k x y z f1 f2 s t w
        · cases u : szB z
          · exact right_c6 k x y z f1 f2 s t u w
          · exact right_c7 k x y z f1 f2 s t u w
    · have f2 : (k == 2) = false := by rw [beq_eq_false_iff_ne]; exact e2
      have hv : shapeB k x y z = false := by unfold shapeB; rw [if_neg e1, if_neg e2]
      rw [hv]
      exact right_c8 k x y z f1 f2 w

/-- half a shape's box, part by part -/
def hf (k x y : Int) : Int := if k = 1 then x else y

theorem half_c (k x y z : Int) (w : World) : Calls Tryz.prog 49 #[.agg #[.int .i64 k, .int .i64 x, .int .i64 y, .int .i64 z]] w fun e w' => e = .returned (.agg #[.int .i64 (hf k x x), .int .i64 (hf k x y), .int .i64 (hf k x z)]) ∧ Below w.heap.size w w' := by
  have hmc := more_cell
  have hmf := more_frozen
  have hml := more_lt
  by_cases e1 : k = 1
  · have f1 : (k == 1) = true := by rw [beq_iff_eq]; exact e1
    have H1 := Lib.hid e1
    clear e1
    go_enter Tryz.func49, Tryz.ntmps49
    go_wp2
    exact bodyPost_ret (v := .agg #[.int .i64 (x), .int .i64 (x), .int .i64 (x)]) (by simp [results, Tryz.results49, go_sem, *]) rfl ⟨rv3 (by unfold hf; rw [if_pos H1.out]) (by unfold hf; rw [if_pos H1.out]) (by unfold hf; rw [if_pos H1.out]), (by repeat (with_reducible (first | exact Below.refl _ _ | assumption | apply ext_drew | apply ext_drewN | apply ext_alloc | apply ext_more | (refine ext_setCell ?_ (by simp <;> omega) _) | (refine ext_below ?_ (by assumption)))))⟩
  · have f1 : (k == 1) = false := by rw [beq_eq_false_iff_ne]; exact e1
    have H1 := Lib.hid e1
    clear e1
    go_enter Tryz.func49, Tryz.ntmps49
    go_wp2
    exact bodyPost_ret (v := .agg #[.int .i64 (x), .int .i64 (y), .int .i64 (z)]) (by simp [results, Tryz.results49, go_sem, *]) rfl ⟨rv3 (by unfold hf; rw [if_neg H1.out]) (by unfold hf; rw [if_neg H1.out]) (by unfold hf; rw [if_neg H1.out]), (by repeat (with_reducible (first | exact Below.refl _ _ | assumption | apply ext_drew | apply ext_drewN | apply ext_alloc | apply ext_more | (refine ext_setCell ?_ (by simp <;> omega) _) | (refine ext_below ?_ (by assumption)))))⟩

theorem around_c (k x y z a1 a2 a3 : Int) (w : World) : Calls Tryz.prog 24 #[.agg #[.int .i64 k, .int .i64 x, .int .i64 y, .int .i64 z], .agg #[.int .i64 a1, .int .i64 a2, .int .i64 a3]] w fun e w' => e = .returned (.agg #[.int .i64 (sub a1 (hf k x x)), .int .i64 (sub a2 (hf k x y)), .int .i64 (sub a3 (hf k x z)), .int .i64 (add a1 (hf k x x)), .int .i64 (add a2 (hf k x y)), .int .i64 (add a3 (hf k x z))]) ∧ Below w.heap.size w w' := by
  have hmc := more_cell
  have hmf := more_frozen
  have hml := more_lt
  go_enter Tryz.func24, Tryz.ntmps24
  go_wp2
  refine region_quiet_but 9 (by kernel_rfl) (by kernel_rfl) ?_
  simp only [List.take_succ_cons, List.take_zero, List.drop_succ_cons, List.drop_zero]
  repeat (go_big_quiet_step (first | (go_at_call 49; exact calls_after (half_c _ _ _ _ _)) | (go_at_call 39; exact calls_after (minus_c _ _ _ _ _ _ _)) | (go_at_call 13; exact calls_after (plus_c _ _ _ _ _ _ _))))
  refine wpQuiet_nil ?_
  rintro _ ⟨m, rfl⟩
  go_wp2
  exact bodyPost_ret (v := .agg #[.int .i64 (sub a1 (hf k x x)), .int .i64 (sub a2 (hf k x y)), .int .i64 (sub a3 (hf k x z)), .int .i64 (add a1 (hf k x x)), .int .i64 (add a2 (hf k x y)), .int .i64 (add a3 (hf k x z))]) (by simp [results, Tryz.results24, go_sem, *]) rfl ⟨rfl, (by repeat (with_reducible (first | exact Below.refl _ _ | assumption | apply ext_drew | apply ext_drewN | apply ext_alloc | apply ext_more | (refine ext_setCell ?_ (by simp <;> omega) _) | (refine ext_below ?_ (by assumption)))))⟩

end Go.Proofs.YtniahipadfgkbaaGreat
