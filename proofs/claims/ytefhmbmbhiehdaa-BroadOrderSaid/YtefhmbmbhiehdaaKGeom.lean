/- The contracts of shapes and the boxes around them (package geom, and the document's answers). Conditions: none. -/
import Derived.Test.YtefhmbmbhiehdaaKB
namespace Go.Proofs.Ytefhmbmbhiehdaa
open Go.ChangeShapes Go.WideShapes Go.ChangeAt Go.RowKit Go.BigFrame

/-- a size that may be -/
def szB (n : Int) : Bool := decide (1 ≤ n) && decide (n ≤ 3276800)
/-- a shape that may be -/
def shapeB (k x y z : Int) : Bool := if k = 1 then szB x && (y == 0) && (z == 0) else if k = 2 then szB x && szB y && szB z else false
/-- half a shape's box, part by part -/
def hf (k x y : Int) : Int := if k = 1 then x else y

theorem half_c (k x y z : Int) (w : World) : Calls Try.prog 88 #[.agg #[.int .i64 k, .int .i64 x, .int .i64 y, .int .i64 z]] w fun e w' => e = .returned (.agg #[.int .i64 (hf k x x), .int .i64 (hf k x y), .int .i64 (hf k x z)]) ∧ Below w.heap.size w w' := by
  have hmc := more_cell
  have hmf := more_frozen
  have hml := more_lt
  by_cases e1 : k = 1
  · have f1 : (k == 1) = true := by rw [beq_iff_eq]; exact e1
    have H1 := Lib.hid e1
    clear e1
    go_enter Try.func88, Try.ntmps88
    go_wp2
    exact bodyPost_ret (v := .agg #[.int .i64 (x), .int .i64 (x), .int .i64 (x)]) (by simp [results, Try.results88, go_sem, *]) rfl ⟨rv3 (by unfold hf; rw [if_pos H1.out]) (by unfold hf; rw [if_pos H1.out]) (by unfold hf; rw [if_pos H1.out]), (by repeat (with_reducible (first | exact Below.refl _ _ | assumption | apply ext_drew | apply ext_drewN | apply ext_alloc | apply ext_more | (refine ext_setCell ?_ (by simp <;> omega) _) | (refine ext_below ?_ (by assumption)))))⟩
  · have f1 : (k == 1) = false := by rw [beq_eq_false_iff_ne]; exact e1
    have H1 := Lib.hid e1
    clear e1
    go_enter Try.func88, Try.ntmps88
    go_wp2
    exact bodyPost_ret (v := .agg #[.int .i64 (x), .int .i64 (y), .int .i64 (z)]) (by simp [results, Try.results88, go_sem, *]) rfl ⟨rv3 (by unfold hf; rw [if_neg H1.out]) (by unfold hf; rw [if_neg H1.out]) (by unfold hf; rw [if_neg H1.out]), (by repeat (with_reducible (first | exact Below.refl _ _ | assumption | apply ext_drew | apply ext_drewN | apply ext_alloc | apply ext_more | (refine ext_setCell ?_ (by simp <;> omega) _) | (refine ext_below ?_ (by assumption)))))⟩

theorem around_c (k x y z a1 a2 a3 : Int) (w : World) : Calls Try.prog 47 #[.agg #[.int .i64 k, .int .i64 x, .int .i64 y, .int .i64 z], .agg #[.int .i64 a1, .int .i64 a2, .int .i64 a3]] w fun e w' => e = .returned (.agg #[.int .i64 (sub a1 (hf k x x)), .int .i64 (sub a2 (hf k x y)), .int .i64 (sub a3 (hf k x z)), .int .i64 (add a1 (hf k x x)), .int .i64 (add a2 (hf k x y)), .int .i64 (add a3 (hf k x z))]) ∧ Below w.heap.size w w' := by
  have hmc := more_cell
  have hmf := more_frozen
  have hml := more_lt
  go_enter Try.func47, Try.ntmps47
  go_wp2
  refine region_quiet_but 9 (by kernel_rfl) (by kernel_rfl) ?_
  simp only [List.take_succ_cons, List.take_zero, List.drop_succ_cons, List.drop_zero]
  repeat (go_big_quiet_step (first | (go_at_call 88; exact calls_after (half_c _ _ _ _ _)) | (go_at_call 87; exact calls_after (minus_c _ _ _ _ _ _ _)) | (go_at_call 89; exact calls_after (plus_c _ _ _ _ _ _ _))))
  refine wpQuiet_nil ?_
  rintro _ ⟨m, rfl⟩
  go_wp2
  exact bodyPost_ret (v := .agg #[.int .i64 (sub a1 (hf k x x)), .int .i64 (sub a2 (hf k x y)), .int .i64 (sub a3 (hf k x z)), .int .i64 (add a1 (hf k x x)), .int .i64 (add a2 (hf k x y)), .int .i64 (add a3 (hf k x z))]) (by simp [results, Try.results47, go_sem, *]) rfl ⟨rfl, (by repeat (with_reducible (first | exact Below.refl _ _ | assumption | apply ext_drew | apply ext_drewN | apply ext_alloc | apply ext_more | (refine ext_setCell ?_ (by simp <;> omega) _) | (refine ext_below ?_ (by assumption)))))⟩

theorem rv6 {k : IntKind} {a b c d e f a' b' c' d' e' f' : Int} (h1 : a = a') (h2 : b = b') (h3 : c = c') (h4 : d = d') (h5 : e = e') (h6 : f = f') : Ending.returned (.agg #[.int k a, .int k b, .int k c, .int k d, .int k e, .int k f]) = .returned (.agg #[.int k a', .int k b', .int k c', .int k d', .int k e', .int k f']) := by rw [h1, h2, h3, h4, h5, h6]

theorem raround_c (k x y z a1 a2 a3 : Int) (w : World) : Calls Try.prog 58 #[.agg #[.int .i64 k, .int .i64 x, .int .i64 y, .int .i64 z], .agg #[.int .i64 a1, .int .i64 a2, .int .i64 a3]] w fun e w' => e = .returned (.agg #[.int .i64 (sub a1 (hf k x x)), .int .i64 (sub a2 (hf k x y)), .int .i64 (sub a3 (hf k x z)), .int .i64 (add a1 (hf k x x)), .int .i64 (add a2 (hf k x y)), .int .i64 (add a3 (hf k x z))]) ∧ Below w.heap.size w w' := by
  have hmc := more_cell
  have hmf := more_frozen
  have hml := more_lt
  by_cases e1 : k = 1
  · have f1 : (k == 1) = true := by rw [beq_iff_eq]; exact e1
    have H1 := Lib.hid e1
    clear e1
    go_enter Try.func58, Try.ntmps58
    go_wp2
    refine region_quiet_but 7 (by kernel_rfl) (by kernel_rfl) ?_
    simp only [List.take_succ_cons, List.take_zero, List.drop_succ_cons, List.drop_zero]
    repeat (go_big_quiet_step (first | (go_at_call 97; exact calls_after (rminus_c _ _ _ _ _ _ _)) | (go_at_call 98; exact calls_after (rplus_c _ _ _ _ _ _ _))))
    refine wpQuiet_nil ?_
    rintro _ ⟨m, rfl⟩
    go_wp2
    exact bodyPost_ret (v := .agg #[.int .i64 (sub a1 x), .int .i64 (sub a2 x), .int .i64 (sub a3 x), .int .i64 (add a1 x), .int .i64 (add a2 x), .int .i64 (add a3 x)]) (by simp [results, Try.results58, go_sem, *]) rfl ⟨rv6 (by unfold hf; rw [if_pos H1.out]) (by unfold hf; rw [if_pos H1.out]) (by unfold hf; rw [if_pos H1.out]) (by unfold hf; rw [if_pos H1.out]) (by unfold hf; rw [if_pos H1.out]) (by unfold hf; rw [if_pos H1.out]), (by repeat (with_reducible (first | exact Below.refl _ _ | assumption | apply ext_drew | apply ext_drewN | apply ext_alloc | apply ext_more | (refine ext_setCell ?_ (by simp <;> omega) _) | (refine ext_below ?_ (by assumption)))))⟩
  · have f1 : (k == 1) = false := by rw [beq_eq_false_iff_ne]; exact e1
    have H1 := Lib.hid e1
    clear e1
    go_enter Try.func58, Try.ntmps58
    go_wp2
    refine region_quiet_but 7 (by kernel_rfl) (by kernel_rfl) ?_
    simp only [List.take_succ_cons, List.take_zero, List.drop_succ_cons, List.drop_zero]
    repeat (go_big_quiet_step (first | (go_at_call 97; exact calls_after (rminus_c _ _ _ _ _ _ _)) | (go_at_call 98; exact calls_after (rplus_c _ _ _ _ _ _ _))))
    refine wpQuiet_nil ?_
    rintro _ ⟨m, rfl⟩
    go_wp2
    exact bodyPost_ret (v := .agg #[.int .i64 (sub a1 x), .int .i64 (sub a2 y), .int .i64 (sub a3 z), .int .i64 (add a1 x), .int .i64 (add a2 y), .int .i64 (add a3 z)]) (by simp [results, Try.results58, go_sem, *]) rfl ⟨rv6 (by unfold hf; rw [if_neg H1.out]) (by unfold hf; rw [if_neg H1.out]) (by unfold hf; rw [if_neg H1.out]) (by unfold hf; rw [if_neg H1.out]) (by unfold hf; rw [if_neg H1.out]) (by unfold hf; rw [if_neg H1.out]), (by repeat (with_reducible (first | exact Below.refl _ _ | assumption | apply ext_drew | apply ext_drewN | apply ext_alloc | apply ext_more | (refine ext_setCell ?_ (by simp <;> omega) _) | (refine ext_below ?_ (by assumption)))))⟩

theorem parts_c (a1 a2 a3 : Int) (w : World) : Calls Try.prog 33 #[.agg #[.int .i64 a1, .int .i64 a2, .int .i64 a3]] w fun e w' => e = .returned (.slice (some ⟨w.heap.size + 1, 0, none⟩) 3 3) ∧ Blk w' (w.heap.size + 1) #[.int .i64 a1, .int .i64 a2, .int .i64 a3] ∧ Below w.heap.size w w' := by
  have hmc := more_cell
  have hmf := more_frozen
  have hml := more_lt
  go_enter Try.func33, Try.ntmps33
  go_wp2
  go_ret
  exact ⟨rfl, (by repeat (with_reducible (first | assumption | exact Blk.at _ _ _ _ (by simp) | apply Blk.alloc | apply Blk.drew | apply Blk.drewN | apply Blk.more | (refine Blk.setCell ?_ _ _ (by simp <;> omega))))), (by repeat (with_reducible (first | exact Below.refl _ _ | assumption | apply ext_drew | apply ext_drewN | apply ext_alloc | apply ext_more | (refine ext_setCell ?_ (by simp <;> omega) _) | (refine ext_below ?_ (by assumption)))))⟩

end Go.Proofs.Ytefhmbmbhiehdaa
