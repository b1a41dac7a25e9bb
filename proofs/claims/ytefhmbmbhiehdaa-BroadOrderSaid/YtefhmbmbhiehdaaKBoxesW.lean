/- The contracts of boxes that lie within one another (package geom, and the document's answers). Conditions: none. -/
import Derived.Test.YtefhmbmbhiehdaaKBoxes
namespace Go.Proofs.Ytefhmbmbhiehdaa
open Go.ChangeShapes Go.WideShapes Go.ChangeAt Go.RowKit Go.BigFrame

def withinB (a1 a2 a3 a4 a5 a6 b1 b2 b3 b4 b5 b6 : Int) : Bool := decide (b1 ≤ a1) && decide (a4 ≤ b4) && decide (b2 ≤ a2) && decide (a5 ≤ b5) && decide (b3 ≤ a3) && decide (a6 ≤ b6)

set_option maxRecDepth 100000 in
set_option maxHeartbeats 1000000 in
theorem within_c0 (a1 a2 a3 a4 a5 a6 b1 b2 b3 b4 b5 b6 : Int) (h0 : a1 < b1) (w : World) : Calls Try.prog 62 #[.agg #[.int .i64 a1, .int .i64 a2, .int .i64 a3, .int .i64 a4, .int .i64 a5, .int .i64 a6], .agg #[.int .i64 b1, .int .i64 b2, .int .i64 b3, .int .i64 b4, .int .i64 b5, .int .i64 b6]] w fun e w' => e = .returned (.bool false) ∧ Below w.heap.size w w' := by
  go_enter Try.func62, Try.ntmps62
  go_wp2
  go_ret
  exact ⟨rfl, (by repeat (with_reducible (first | exact Below.refl _ _ | assumption | apply ext_drew | apply ext_drewN | apply ext_alloc | apply ext_more | (refine ext_setCell ?_ (by simp <;> omega) _) | (refine ext_below ?_ (by assumption)))))⟩

set_option maxRecDepth 100000 in
set_option maxHeartbeats 1000000 in
theorem within_c1 (a1 a2 a3 a4 a5 a6 b1 b2 b3 b4 b5 b6 : Int) (h0 : b1 ≤ a1) (h1 : b4 < a4) (w : World) : Calls Try.prog 62 #[.agg #[.int .i64 a1, .int .i64 a2, .int .i64 a3, .int .i64 a4, .int .i64 a5, .int .i64 a6], .agg #[.int .i64 b1, .int .i64 b2, .int .i64 b3, .int .i64 b4, .int .i64 b5, .int .i64 b6]] w fun e w' => e = .returned (.bool false) ∧ Below w.heap.size w w' := by
  go_enter Try.func62, Try.ntmps62
  go_wp2
  go_ret
  exact ⟨rfl, (by repeat (with_reducible (first | exact Below.refl _ _ | assumption | apply ext_drew | apply ext_drewN | apply ext_alloc | apply ext_more | (refine ext_setCell ?_ (by simp <;> omega) _) | (refine ext_below ?_ (by assumption)))))⟩

set_option maxRecDepth 100000 in
set_option maxHeartbeats 1000000 in
theorem within_c2 (a1 a2 a3 a4 a5 a6 b1 b2 b3 b4 b5 b6 : Int) (h0 : b1 ≤ a1) (h1 : a4 ≤ b4) (h2 : a2 < b2) (w : World) : Calls Try.prog 62 #[.agg #[.int .i64 a1, .int .i64 a2, .int .i64 a3, .int .i64 a4, .int .i64 a5, .int .i64 a6], .agg #[.int .i64 b1, .int .i64 b2, .int .i64 b3, .int .i64 b4, .int .i64 b5, .int .i64 b6]] w fun e w' => e = .returned (.bool false) ∧ Below w.heap.size w w' := by
  go_enter Try.func62, Try.ntmps62
  go_wp2
  go_ret
  exact ⟨rfl, (by repeat (with_reducible (first | exact Below.refl _ _ | assumption | apply ext_drew | apply ext_drewN | apply ext_alloc | apply ext_more | (refine ext_setCell ?_ (by simp <;> omega) _) | (refine ext_below ?_ (by assumption)))))⟩

set_option maxRecDepth 100000 in
set_option maxHeartbeats 1000000 in
theorem within_c3 (a1 a2 a3 a4 a5 a6 b1 b2 b3 b4 b5 b6 : Int) (h0 : b1 ≤ a1) (h1 : a4 ≤ b4) (h2 : b2 ≤ a2) (h3 : b5 < a5) (w : World) : Calls Try.prog 62 #[.agg #[.int .i64 a1, .int .i64 a2, .int .i64 a3, .int .i64 a4, .int .i64 a5, .int .i64 a6], .agg #[.int .i64 b1, .int .i64 b2, .int .i64 b3, .int .i64 b4, .int .i64 b5, .int .i64 b6]] w fun e w' => e = .returned (.bool false) ∧ Below w.heap.size w w' := by
  go_enter Try.func62, Try.ntmps62
  go_wp2
  go_ret
  exact ⟨rfl, (by repeat (with_reducible (first | exact Below.refl _ _ | assumption | apply ext_drew | apply ext_drewN | apply ext_alloc | apply ext_more | (refine ext_setCell ?_ (by simp <;> omega) _) | (refine ext_below ?_ (by assumption)))))⟩

set_option maxRecDepth 100000 in
set_option maxHeartbeats 1000000 in
theorem within_c4 (a1 a2 a3 a4 a5 a6 b1 b2 b3 b4 b5 b6 : Int) (h0 : b1 ≤ a1) (h1 : a4 ≤ b4) (h2 : b2 ≤ a2) (h3 : a5 ≤ b5) (h4 : a3 < b3) (w : World) : Calls Try.prog 62 #[.agg #[.int .i64 a1, .int .i64 a2, .int .i64 a3, .int .i64 a4, .int .i64 a5, .int .i64 a6], .agg #[.int .i64 b1, .int .i64 b2, .int .i64 b3, .int .i64 b4, .int .i64 b5, .int .i64 b6]] w fun e w' => e = .returned (.bool false) ∧ Below w.heap.size w w' := by
  go_enter Try.func62, Try.ntmps62
  go_wp2
  go_ret
  exact ⟨rfl, (by repeat (with_reducible (first | exact Below.refl _ _ | assumption | apply ext_drew | apply ext_drewN | apply ext_alloc | apply ext_more | (refine ext_setCell ?_ (by simp <;> omega) _) | (refine ext_below ?_ (by assumption)))))⟩

set_option maxRecDepth 100000 in
set_option maxHeartbeats 1000000 in
theorem within_c5 (a1 a2 a3 a4 a5 a6 b1 b2 b3 b4 b5 b6 : Int) (h0 : b1 ≤ a1) (h1 : a4 ≤ b4) (h2 : b2 ≤ a2) (h3 : a5 ≤ b5) (h4 : b3 ≤ a3) (h5 : b6 < a6) (w : World) : Calls Try.prog 62 #[.agg #[.int .i64 a1, .int .i64 a2, .int .i64 a3, .int .i64 a4, .int .i64 a5, .int .i64 a6], .agg #[.int .i64 b1, .int .i64 b2, .int .i64 b3, .int .i64 b4, .int .i64 b5, .int .i64 b6]] w fun e w' => e = .returned (.bool false) ∧ Below w.heap.size w w' := by
  go_enter Try.func62, Try.ntmps62
  go_wp2
  go_ret
  exact ⟨rb (by simp; omega), (by repeat (with_reducible (first | exact Below.refl _ _ | assumption | apply ext_drew | apply ext_drewN | apply ext_alloc | apply ext_more | (refine ext_setCell ?_ (by simp <;> omega) _) | (refine ext_below ?_ (by assumption)))))⟩

set_option maxRecDepth 100000 in
set_option maxHeartbeats 1000000 in
theorem within_c6 (a1 a2 a3 a4 a5 a6 b1 b2 b3 b4 b5 b6 : Int) (h0 : b1 ≤ a1) (h1 : a4 ≤ b4) (h2 : b2 ≤ a2) (h3 : a5 ≤ b5) (h4 : b3 ≤ a3) (h5 : a6 ≤ b6) (w : World) : Calls Try.prog 62 #[.agg #[.int .i64 a1, .int .i64 a2, .int .i64 a3, .int .i64 a4, .int .i64 a5, .int .i64 a6], .agg #[.int .i64 b1, .int .i64 b2, .int .i64 b3, .int .i64 b4, .int .i64 b5, .int .i64 b6]] w fun e w' => e = .returned (.bool true) ∧ Below w.heap.size w w' := by
  go_enter Try.func62, Try.ntmps62
  go_wp2
  go_ret
  exact ⟨rfl, (by repeat (with_reducible (first | exact Below.refl _ _ | assumption | apply ext_drew | apply ext_drewN | apply ext_alloc | apply ext_more | (refine ext_setCell ?_ (by simp <;> omega) _) | (refine ext_below ?_ (by assumption)))))⟩

theorem within_c (a1 a2 a3 a4 a5 a6 b1 b2 b3 b4 b5 b6 : Int) (w : World) : Calls Try.prog 62 #[.agg #[.int .i64 a1, .int .i64 a2, .int .i64 a3, .int .i64 a4, .int .i64 a5, .int .i64 a6], .agg #[.int .i64 b1, .int .i64 b2, .int .i64 b3, .int .i64 b4, .int .i64 b5, .int .i64 b6]] w fun e w' => e = .returned (.bool (withinB a1 a2 a3 a4 a5 a6 b1 b2 b3 b4 b5 b6)) ∧ Below w.heap.size w w' := by
  by_cases h0 : b1 ≤ a1
  rotate_left
  · rw [show withinB a1 a2 a3 a4 a5 a6 b1 b2 b3 b4 b5 b6 = false from by simp [withinB]; omega]
    exact within_c0 a1 a2 a3 a4 a5 a6 b1 b2 b3 b4 b5 b6  (by omega) w
  by_cases h1 : a4 ≤ b4
  rotate_left
  · rw [show withinB a1 a2 a3 a4 a5 a6 b1 b2 b3 b4 b5 b6 = false from by simp [withinB]; omega]
    exact within_c1 a1 a2 a3 a4 a5 a6 b1 b2 b3 b4 b5 b6 h0 (by omega) w
  by_cases h2 : b2 ≤ a2
  rotate_left
  · rw [show withinB a1 a2 a3 a4 a5 a6 b1 b2 b3 b4 b5 b6 = false from by simp [withinB]; omega]
    exact within_c2 a1 a2 a3 a4 a5 a6 b1 b2 b3 b4 b5 b6 h0 h1 (by omega) w
  by_cases h3 : a5 ≤ b5
  rotate_left
  · rw [show withinB a1 a2 a3 a4 a5 a6 b1 b2 b3 b4 b5 b6 = false from by simp [withinB]; omega]
    exact within_c3 a1 a2 a3 a4 a5 a6 b1 b2 b3 b4 b5 b6 h0 h1 h2 (by omega) w
  by_cases h4 : b3 ≤ a3
  rotate_left
  · rw [show withinB a1 a2 a3 a4 a5 a6 b1 b2 b3 b4 b5 b6 = false from by simp [withinB]; omega]
    exact within_c4 a1 a2 a3 a4 a5 a6 b1 b2 b3 b4 b5 b6 h0 h1 h2 h3 (by omega) w
  by_cases h5 : a6 ≤ b6
  rotate_left
  · rw [show withinB a1 a2 a3 a4 a5 a6 b1 b2 b3 b4 b5 b6 = false from by simp [withinB]; omega]
    exact within_c5 a1 a2 a3 a4 a5 a6 b1 b2 b3 b4 b5 b6 h0 h1 h2 h3 h4 (by omega) w
  rw [show withinB a1 a2 a3 a4 a5 a6 b1 b2 b3 b4 b5 b6 = true from by simp [withinB]; omega]
  exact within_c6 a1 a2 a3 a4 a5 a6 b1 b2 b3 b4 b5 b6 h0 h1 h2 h3 h4 h5 w

end Go.Proofs.Ytefhmbmbhiehdaa
