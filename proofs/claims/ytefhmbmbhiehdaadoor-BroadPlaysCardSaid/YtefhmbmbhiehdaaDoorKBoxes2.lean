/- The contracts of the least box around two, of a greater one, and of the nearest point (package geom, and the document's answers). Conditions: none. -/
import Derived.Test.YtefhmbmbhiehdaaDoorKGeom
import Derived.Deep.RegionWith
namespace Go.Proofs.YtefhmbmbhiehdaaDoor
open Go.ChangeShapes Go.WideShapes Go.ChangeAt Go.RowKit Go.BigFrame

set_option maxHeartbeats 1000000 in
theorem both_c (a1 a2 a3 a4 a5 a6 b1 b2 b3 b4 b5 b6 : Int) (w : World) : Calls Tryd.prog 44 #[.agg #[.int .i64 a1, .int .i64 a2, .int .i64 a3, .int .i64 a4, .int .i64 a5, .int .i64 a6], .agg #[.int .i64 b1, .int .i64 b2, .int .i64 b3, .int .i64 b4, .int .i64 b5, .int .i64 b6]] w fun e w' => e = .returned (.agg #[.int .i64 (min a1 b1), .int .i64 (min a2 b2), .int .i64 (min a3 b3), .int .i64 (max a4 b4), .int .i64 (max a5 b5), .int .i64 (max a6 b6)]) ∧ Below w.heap.size w w' := by
  have hmc := more_cell
  have hmf := more_frozen
  have hml := more_lt
  go_enter Tryd.func44, Tryd.ntmps44
  go_wp2
  exact bodyPost_ret (v := .agg #[.int .i64 (min a1 b1), .int .i64 (min a2 b2), .int .i64 (min a3 b3), .int .i64 (max a4 b4), .int .i64 (max a5 b5), .int .i64 (max a6 b6)]) (by simp [results, Tryd.results44, go_sem, *]) rfl ⟨rfl, (by repeat (with_reducible (first | exact Below.refl _ _ | assumption | apply ext_drew | apply ext_drewN | apply ext_alloc | apply ext_more | (refine ext_setCell ?_ (by simp <;> omega) _) | (refine ext_below ?_ (by assumption)))))⟩

set_option maxHeartbeats 1000000 in
theorem fat_c (a1 a2 a3 a4 a5 a6 k : Int) (w : World) : Calls Tryd.prog 23 #[.agg #[.int .i64 a1, .int .i64 a2, .int .i64 a3, .int .i64 a4, .int .i64 a5, .int .i64 a6], .int .i64 k] w fun e w' => e = .returned (.agg #[.int .i64 (sub a1 k), .int .i64 (sub a2 k), .int .i64 (sub a3 k), .int .i64 (add a4 k), .int .i64 (add a5 k), .int .i64 (add a6 k)]) ∧ Below w.heap.size w w' := by
  have hmc := more_cell
  have hmf := more_frozen
  have hml := more_lt
  go_enter Tryd.func23, Tryd.ntmps23
  go_wp2
  refine region_quiet_but 9 (by kernel_rfl) (by kernel_rfl) ?_
  simp only [List.take_succ_cons, List.take_zero, List.drop_succ_cons, List.drop_zero]
  repeat (go_big_quiet_step (first | (go_at_call 34; exact calls_after (minus_c _ _ _ _ _ _ _)) | (go_at_call 35; exact calls_after (plus_c _ _ _ _ _ _ _))))
  refine wpQuiet_nil ?_
  rintro _ ⟨m, rfl⟩
  go_wp2
  exact bodyPost_ret (v := .agg #[.int .i64 (sub a1 k), .int .i64 (sub a2 k), .int .i64 (sub a3 k), .int .i64 (add a4 k), .int .i64 (add a5 k), .int .i64 (add a6 k)]) (by simp [results, Tryd.results23, go_sem, *]) rfl ⟨rfl, (by repeat (with_reducible (first | exact Below.refl _ _ | assumption | apply ext_drew | apply ext_drewN | apply ext_alloc | apply ext_more | (refine ext_setCell ?_ (by simp <;> omega) _) | (refine ext_below ?_ (by assumption)))))⟩

end Go.Proofs.YtefhmbmbhiehdaaDoor
