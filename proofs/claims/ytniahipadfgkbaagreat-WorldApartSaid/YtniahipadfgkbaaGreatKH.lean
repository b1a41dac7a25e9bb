/- The contracts of the least box around two, of a greater one, and of the nearest point (package geom, and the document's answers). Conditions: none. -/
import Derived.Test.YtniahipadfgkbaaGreatKGeom
import Derived.LoopN
import Derived.Deep.RegionHeld3
import Derived.Deep.RegionWith
namespace Go.Proofs.YtniahipadfgkbaaGreat
open Go.ChangeShapes Go.WideShapes Go.ChangeAt Go.RowKit Go.BigFrame

/-! ### two blocks, kept through a region -/
def meetB (a1 a2 a3 a4 a5 a6 b1 b2 b3 b4 b5 b6 : Int) : Bool := decide (a1 ≤ b4) && decide (b1 ≤ a4) && decide (a2 ≤ b5) && decide (b2 ≤ a5) && decide (a3 ≤ b6) && decide (b3 ≤ a6)

set_option maxRecDepth 100000 in
set_option maxHeartbeats 1000000 in
theorem meet_c0 (a1 a2 a3 a4 a5 a6 b1 b2 b3 b4 b5 b6 : Int) (h0 : b4 < a1) (w : World) : Calls Tryz.prog 77 #[.agg #[.int .i64 a1, .int .i64 a2, .int .i64 a3, .int .i64 a4, .int .i64 a5, .int .i64 a6], .agg #[.int .i64 b1, .int .i64 b2, .int .i64 b3, .int .i64 b4, .int .i64 b5, .int .i64 b6]] w fun e w' => e = .returned (.bool false) ∧ Below w.heap.size w w' := by
  go_enter Tryz.func77, Tryz.ntmps77
  go_wp2
  go_ret
  exact ⟨rfl, (by repeat (with_reducible (first | exact Below.refl _ _ | assumption | apply ext_drew | apply ext_drewN | apply ext_alloc | apply ext_more | (refine ext_setCell ?_ (by simp <;> omega) _) | (refine ext_below ?_ (by assumption)))))⟩

set_option maxRecDepth 100000 in
set_option maxHeartbeats 1000000 in
theorem meet_c1 (a1 a2 a3 a4 a5 a6 b1 b2 b3 b4 b5 b6 : Int) (h0 : a1 ≤ b4) (h1 : a4 < b1) (w : World) : Calls Tryz.prog 77 #[.agg #[.int .i64 a1, .int .i64 a2, .int .i64 a3, .int .i64 a4, .int .i64 a5, .int .i64 a6], .agg #[.int .i64 b1, .int .i64 b2, .int .i64 b3, .int .i64 b4, .int .i64 b5, .int .i64 b6]] w fun e w' => e = .returned (.bool false) ∧ Below w.heap.size w w' := by
  go_enter Tryz.func77, Tryz.ntmps77
  go_wp2
  go_ret
  exact ⟨rfl, (by repeat (with_reducible (first | exact Below.refl _ _ | assumption | apply ext_drew | apply ext_drewN | apply ext_alloc | apply ext_more | (refine ext_setCell ?_ (by simp <;> omega) _) | (refine ext_below ?_ (by assumption)))))⟩

set_option maxRecDepth 100000 in
set_option maxHeartbeats 1000000 in
theorem meet_c2 (a1 a2 a3 a4 a5 a6 b1 b2 b3 b4 b5 b6 : Int) (h0 : a1 ≤ b4) (h1 : b1 ≤ a4) (h2 : b5 < a2) (w : World) : Calls Tryz.prog 77 #[.agg #[.int .i64 a1, .int .i64 a2, .int .i64 a3, .int .i64 a4, .int .i64 a5, .int .i64 a6], .agg #[.int .i64 b1, .int .i64 b2, .int .i64 b3, .int .i64 b4, .int .i64 b5, .int .i64 b6]] w fun e w' => e = .returned (.bool false) ∧ Below w.heap.size w w' := by
  go_enter Tryz.func77, Tryz.ntmps77
  go_wp2
  go_ret
  exact ⟨rfl, (by repeat (with_reducible (first | exact Below.refl _ _ | assumption | apply ext_drew | apply ext_drewN | apply ext_alloc | apply ext_more | (refine ext_setCell ?_ (by simp <;> omega) _) | (refine ext_below ?_ (by assumption)))))⟩

set_option maxRecDepth 100000 in
set_option maxHeartbeats 1000000 in
theorem meet_c3 (a1 a2 a3 a4 a5 a6 b1 b2 b3 b4 b5 b6 : Int) (h0 : a1 ≤ b4) (h1 : b1 ≤ a4) (h2 : a2 ≤ b5) (h3 : a5 < b2) (w : World) : Calls Tryz.prog 77 #[.agg #[.int .i64 a1, .int .i64 a2, .int .i64 a3, .int .i64 a4, .int .i64 a5, .int .i64 a6], .agg #[.int .i64 b1, .int .i64 b2, .int .i64 b3, .int .i64 b4, .int .i64 b5, .int .i64 b6]] w fun e w' => e = .returned (.bool false) ∧ Below w.heap.size w w' := by
  go_enter Tryz.func77, Tryz.ntmps77
  go_wp2
  go_ret
  exact ⟨rfl, (by repeat (with_reducible (first | exact Below.refl _ _ | assumption | apply ext_drew | apply ext_drewN | apply ext_alloc | apply ext_more | (refine ext_setCell ?_ (by simp <;> omega) _) | (refine ext_below ?_ (by assumption)))))⟩

set_option maxRecDepth 100000 in
set_option maxHeartbeats 1000000 in
theorem meet_c4 (a1 a2 a3 a4 a5 a6 b1 b2 b3 b4 b5 b6 : Int) (h0 : a1 ≤ b4) (h1 : b1 ≤ a4) (h2 : a2 ≤ b5) (h3 : b2 ≤ a5) (h4 : b6 < a3) (w : World) : Calls Tryz.prog 77 #[.agg #[.int .i64 a1, .int .i64 a2, .int .i64 a3, .int .i64 a4, .int .i64 a5, .int .i64 a6], .agg #[.int .i64 b1, .int .i64 b2, .int .i64 b3, .int .i64 b4, .int .i64 b5, .int .i64 b6]] w fun e w' => e = .returned (.bool false) ∧ Below w.heap.size w w' := by
  go_enter Tryz.func77, Tryz.ntmps77
  go_wp2
  go_ret
  exact ⟨rfl, (by repeat (with_reducible (first | exact Below.refl _ _ | assumption | apply ext_drew | apply ext_drewN | apply ext_alloc | apply ext_more | (refine ext_setCell ?_ (by simp <;> omega) _) | (refine ext_below ?_ (by assumption)))))⟩

set_option maxRecDepth 100000 in
set_option maxHeartbeats 1000000 in
theorem meet_c5 (a1 a2 a3 a4 a5 a6 b1 b2 b3 b4 b5 b6 : Int) (h0 : a1 ≤ b4) (h1 : b1 ≤ a4) (h2 : a2 ≤ b5) (h3 : b2 ≤ a5) (h4 : a3 ≤ b6) (h5 : a6 < b3) (w : World) : Calls Tryz.prog 77 #[.agg #[.int .i64 a1, .int .i64 a2, .int .i64 a3, .int .i64 a4, .int .i64 a5, .int .i64 a6], .agg #[.int .i64 b1, .int .i64 b2, .int .i64 b3, .int .i64 b4, .int .i64 b5, .int .i64 b6]] w fun e w' => e = .returned (.bool false) ∧ Below w.heap.size w w' := by
  go_enter Tryz.func77, Tryz.ntmps77
  go_wp2
  go_ret
  exact ⟨rb (by simp; omega), (by repeat (with_reducible (first | exact Below.refl _ _ | assumption | apply ext_drew | apply ext_drewN | apply ext_alloc | apply ext_more | (refine ext_setCell ?_ (by simp <;> omega) _) | (refine ext_below ?_ (by assumption)))))⟩

set_option maxRecDepth 100000 in
set_option maxHeartbeats 1000000 in
theorem meet_c6 (a1 a2 a3 a4 a5 a6 b1 b2 b3 b4 b5 b6 : Int) (h0 : a1 ≤ b4) (h1 : b1 ≤ a4) (h2 : a2 ≤ b5) (h3 : b2 ≤ a5) (h4 : a3 ≤ b6) (h5 : b3 ≤ a6) (w : World) : Calls Tryz.prog 77 #[.agg #[.int .i64 a1, .int .i64 a2, .int .i64 a3, .int .i64 a4, .int .i64 a5, .int .i64 a6], .agg #[.int .i64 b1, .int .i64 b2, .int .i64 b3, .int .i64 b4, .int .i64 b5, .int .i64 b6]] w fun e w' => e = .returned (.bool true) ∧ Below w.heap.size w w' := by
  go_enter Tryz.func77, Tryz.ntmps77
  go_wp2
  go_ret
  exact ⟨rfl, (by repeat (with_reducible (first | exact Below.refl _ _ | assumption | apply ext_drew | apply ext_drewN | apply ext_alloc | apply ext_more | (refine ext_setCell ?_ (by simp <;> omega) _) | (refine ext_below ?_ (by assumption)))))⟩

theorem meet_c (a1 a2 a3 a4 a5 a6 b1 b2 b3 b4 b5 b6 : Int) (w : World) : Calls Tryz.prog 77 #[.agg #[.int .i64 a1, .int .i64 a2, .int .i64 a3, .int .i64 a4, .int .i64 a5, .int .i64 a6], .agg #[.int .i64 b1, .int .i64 b2, .int .i64 b3, .int .i64 b4, .int .i64 b5, .int .i64 b6]] w fun e w' => e = .returned (.bool (meetB a1 a2 a3 a4 a5 a6 b1 b2 b3 b4 b5 b6)) ∧ Below w.heap.size w w' := by
  by_cases h0 : a1 ≤ b4
  rotate_left
  · rw [show meetB a1 a2 a3 a4 a5 a6 b1 b2 b3 b4 b5 b6 = false from by simp [meetB]; omega]
    exact meet_c0 a1 a2 a3 a4 a5 a6 b1 b2 b3 b4 b5 b6  (by omega) w
  by_cases h1 : b1 ≤ a4
  rotate_left
  · rw [show meetB a1 a2 a3 a4 a5 a6 b1 b2 b3 b4 b5 b6 = false from by simp [meetB]; omega]
    exact meet_c1 a1 a2 a3 a4 a5 a6 b1 b2 b3 b4 b5 b6 h0 (by omega) w
  by_cases h2 : a2 ≤ b5
  rotate_left
  · rw [show meetB a1 a2 a3 a4 a5 a6 b1 b2 b3 b4 b5 b6 = false from by simp [meetB]; omega]
    exact meet_c2 a1 a2 a3 a4 a5 a6 b1 b2 b3 b4 b5 b6 h0 h1 (by omega) w
  by_cases h3 : b2 ≤ a5
  rotate_left
  · rw [show meetB a1 a2 a3 a4 a5 a6 b1 b2 b3 b4 b5 b6 = false from by simp [meetB]; omega]
    exact meet_c3 a1 a2 a3 a4 a5 a6 b1 b2 b3 b4 b5 b6 h0 h1 h2 (by omega) w
  by_cases h4 : a3 ≤ b6
  rotate_left
  · rw [show meetB a1 a2 a3 a4 a5 a6 b1 b2 b3 b4 b5 b6 = false from by simp [meetB]; omega]
    exact meet_c4 a1 a2 a3 a4 a5 a6 b1 b2 b3 b4 b5 b6 h0 h1 h2 h3 (by omega) w
  by_cases h5 : b3 ≤ a6
  rotate_left
  · rw [show meetB a1 a2 a3 a4 a5 a6 b1 b2 b3 b4 b5 b6 = false from by simp [meetB]; omega]
    exact meet_c5 a1 a2 a3 a4 a5 a6 b1 b2 b3 b4 b5 b6 h0 h1 h2 h3 h4 (by omega) w
  rw [show meetB a1 a2 a3 a4 a5 a6 b1 b2 b3 b4 b5 b6 = true from by simp [meetB]; omega]
  exact meet_c6 a1 a2 a3 a4 a5 a6 b1 b2 b3 b4 b5 b6 h0 h1 h2 h3 h4 h5 w

end Go.Proofs.YtniahipadfgkbaaGreat
namespace Go.Proofs.YtniahipadfgkbaaGreat
open Go.ChangeShapes Go.WideShapes Go.ChangeAt Go.RowKit Go.BigFrame

def withinB (a1 a2 a3 a4 a5 a6 b1 b2 b3 b4 b5 b6 : Int) : Bool := decide (b1 ≤ a1) && decide (a4 ≤ b4) && decide (b2 ≤ a2) && decide (a5 ≤ b5) && decide (b3 ≤ a3) && decide (a6 ≤ b6)

set_option maxRecDepth 100000 in
set_option maxHeartbeats 1000000 in
theorem within_c0 (a1 a2 a3 a4 a5 a6 b1 b2 b3 b4 b5 b6 : Int) (h0 : a1 < b1) (w : World) : Calls Tryz.prog 44 #[.agg #[.int .i64 a1, .int .i64 a2, .int .i64 a3, .int .i64 a4, .int .i64 a5, .int .i64 a6], .agg #[.int .i64 b1, .int .i64 b2, .int .i64 b3, .int .i64 b4, .int .i64 b5, .int .i64 b6]] w fun e w' => e = .returned (.bool false) ∧ Below w.heap.size w w' := by
  go_enter Tryz.func44, Tryz.ntmps44
  go_wp2
  go_ret
  exact ⟨rfl, (by repeat (with_reducible (first | exact Below.refl _ _ | assumption | apply ext_drew | apply ext_drewN | apply ext_alloc | apply ext_more | (refine ext_setCell ?_ (by simp <;> omega) _) | (refine ext_below ?_ (by assumption)))))⟩

set_option maxRecDepth 100000 in
set_option maxHeartbeats 1000000 in
theorem within_c1 (a1 a2 a3 a4 a5 a6 b1 b2 b3 b4 b5 b6 : Int) (h0 : b1 ≤ a1) (h1 : b4 < a4) (w : World) : Calls Tryz.prog 44 #[.agg #[.int .i64 a1, .int .i64 a2, .int .i64 a3, .int .i64 a4, .int .i64 a5, .int .i64 a6], .agg #[.int .i64 b1, .int .i64 b2, .int .i64 b3, .int .i64 b4, .int .i64 b5, .int .i64 b6]] w fun e w' => e = .returned (.bool false) ∧ Below w.heap.size w w' := by
  go_enter Tryz.func44, Tryz.ntmps44
  go_wp2
  go_ret
  exact ⟨rfl, (by repeat (with_reducible (first | exact Below.refl _ _ | assumption | apply ext_drew | apply ext_drewN | apply ext_alloc | apply ext_more | (refine ext_setCell ?_ (by simp <;> omega) _) | (refine ext_below ?_ (by assumption)))))⟩

set_option maxRecDepth 100000 in
set_option maxHeartbeats 1000000 in
theorem within_c2 (a1 a2 a3 a4 a5 a6 b1 b2 b3 b4 b5 b6 : Int) (h0 : b1 ≤ a1) (h1 : a4 ≤ b4) (h2 : a2 < b2) (w : World) : Calls Tryz.prog 44 #[.agg #[.int .i64 a1, .int .i64 a2, .int .i64 a3, .int .i64 a4, .int .i64 a5, .int .i64 a6], .agg #[.int .i64 b1, .int .i64 b2, .int .i64 b3, .int .i64 b4, .int .i64 b5, .int .i64 b6]] w fun e w' => e = .returned (.bool false) ∧ Below w.heap.size w w' := by
  go_enter Tryz.func44, Tryz.ntmps44
  go_wp2
  go_ret
  exact ⟨rfl, (by repeat (with_reducible (first | exact Below.refl _ _ | assumption | apply ext_drew | apply ext_drewN | apply ext_alloc | apply ext_more | (refine ext_setCell ?_ (by simp <;> omega) _) | (refine ext_below ?_ (by assumption)))))⟩

set_option maxRecDepth 100000 in
set_option maxHeartbeats 1000000 in
theorem within_c3 (a1 a2 a3 a4 a5 a6 b1 b2 b3 b4 b5 b6 : Int) (h0 : b1 ≤ a1) (h1 : a4 ≤ b4) (h2 : b2 ≤ a2) (h3 : b5 < a5) (w : World) : Calls Tryz.prog 44 #[.agg #[.int .i64 a1, .int .i64 a2, .int .i64 a3, .int .i64 a4, .int .i64 a5, .int .i64 a6], .agg #[.int .i64 b1, .int .i64 b2, .int .i64 b3, .int .i64 b4, .int .i64 b5, .int .i64 b6]] w fun e w' => e = .returned (.bool false) ∧ Below w.heap.size w w' := by
  go_enter Tryz.func44, Tryz.ntmps44
  go_wp2
  go_ret
  exact ⟨rfl, (by repeat (with_reducible (first | exact Below.refl _ _ | assumption | apply ext_drew | apply ext_drewN | apply ext_alloc | apply ext_more | (refine ext_setCell ?_ (by simp <;> omega) _) | (refine ext_below ?_ (by assumption)))))⟩

set_option maxRecDepth 100000 in
set_option maxHeartbeats 1000000 in
theorem within_c4 (a1 a2 a3 a4 a5 a6 b1 b2 b3 b4 b5 b6 : Int) (h0 : b1 ≤ a1) (h1 : a4 ≤ b4) (h2 : b2 ≤ a2) (h3 : a5 ≤ b5) (h4 : a3 < b3) (w : World) : Calls Tryz.prog 44 #[.agg #[.int .i64 a1, .int .i64 a2, .int .i64 a3, .int .i64 a4, .int .i64 a5, .int .i64 a6], .agg #[.int .i64 b1, .int .i64 b2, .int .i64 b3, .int .i64 b4, .int .i64 b5, .int .i64 b6]] w fun e w' => e = .returned (.bool false) ∧ Below w.heap.size w w' := by
  go_enter Tryz.func44, Tryz.ntmps44
  go_wp2
  go_ret
  exact ⟨rfl, (by repeat (with_reducible (first | exact Below.refl _ _ | assumption | apply ext_drew | apply ext_drewN | apply ext_alloc | apply ext_more | (refine ext_setCell ?_ (by simp <;> omega) _) | (refine ext_below ?_ (by assumption)))))⟩

set_option maxRecDepth 100000 in
set_option maxHeartbeats 1000000 in
theorem within_c5 (a1 a2 a3 a4 a5 a6 b1 b2 b3 b4 b5 b6 : Int) (h0 : b1 ≤ a1) (h1 : a4 ≤ b4) (h2 : b2 ≤ a2) (h3 : a5 ≤ b5) (h4 : b3 ≤ a3) (h5 : b6 < a6) (w : World) : Calls Tryz.prog 44 #[.agg #[.int .i64 a1, .int .i64 a2, .int .i64 a3, .int .i64 a4, .int .i64 a5, .int .i64 a6], .agg #[.int .i64 b1, .int .i64 b2, .int .i64 b3, .int .i64 b4, .int .i64 b5, .int .i64 b6]] w fun e w' => e = .returned (.bool false) ∧ Below w.heap.size w w' := by
  go_enter Tryz.func44, Tryz.ntmps44
  go_wp2
  go_ret
  exact ⟨rb (by simp; omega), (by repeat (with_reducible (first | exact Below.refl _ _ | assumption | apply ext_drew | apply ext_drewN | apply ext_alloc | apply ext_more | (refine ext_setCell ?_ (by simp <;> omega) _) | (refine ext_below ?_ (by assumption)))))⟩

set_option maxRecDepth 100000 in
set_option maxHeartbeats 1000000 in
theorem within_c6 (a1 a2 a3 a4 a5 a6 b1 b2 b3 b4 b5 b6 : Int) (h0 : b1 ≤ a1) (h1 : a4 ≤ b4) (h2 : b2 ≤ a2) (h3 : a5 ≤ b5) (h4 : b3 ≤ a3) (h5 : a6 ≤ b6) (w : World) : Calls Tryz.prog 44 #[.agg #[.int .i64 a1, .int .i64 a2, .int .i64 a3, .int .i64 a4, .int .i64 a5, .int .i64 a6], .agg #[.int .i64 b1, .int .i64 b2, .int .i64 b3, .int .i64 b4, .int .i64 b5, .int .i64 b6]] w fun e w' => e = .returned (.bool true) ∧ Below w.heap.size w w' := by
  go_enter Tryz.func44, Tryz.ntmps44
  go_wp2
  go_ret
  exact ⟨rfl, (by repeat (with_reducible (first | exact Below.refl _ _ | assumption | apply ext_drew | apply ext_drewN | apply ext_alloc | apply ext_more | (refine ext_setCell ?_ (by simp <;> omega) _) | (refine ext_below ?_ (by assumption)))))⟩

theorem within_c (a1 a2 a3 a4 a5 a6 b1 b2 b3 b4 b5 b6 : Int) (w : World) : Calls Tryz.prog 44 #[.agg #[.int .i64 a1, .int .i64 a2, .int .i64 a3, .int .i64 a4, .int .i64 a5, .int .i64 a6], .agg #[.int .i64 b1, .int .i64 b2, .int .i64 b3, .int .i64 b4, .int .i64 b5, .int .i64 b6]] w fun e w' => e = .returned (.bool (withinB a1 a2 a3 a4 a5 a6 b1 b2 b3 b4 b5 b6)) ∧ Below w.heap.size w w' := by
  by_cases h0 : b1 ≤ a1
  rotate_left
  · rw [show withinB a1 a2 a3 a4 a5 a6 b1 b2 b3 b4 b5 b6 = false from by simp [withinB]; omega]
    exact within_c0 a1 a2 a3 a4 a5 a6 b1 b2 b3 b4 b5 b6  (by omega) w
  by_cases h1 : a4 ≤ b4
  rotate_left
  · rw [show withinB a1 a2 a3 a4 a5 a6 b1 b2 b3 b4 b5 b6 = false from by simp [withinB]; omega]
    exact within_c1 a1 a2 a3 a4 a5 a6 b1 b2 b3 b4 b5 b6 h0 (by omega) w
  by_cases h2 : b2 ≤ a2
  rotate_left
  · rw [show withinB a1 a2 a3 a4 a5 a6 b1 b2 b3 b4 b5 b6 = false from by simp [withinB]; omega]
    exact within_c2 a1 a2 a3 a4 a5 a6 b1 b2 b3 b4 b5 b6 h0 h1 (by omega) w
  by_cases h3 : a5 ≤ b5
  rotate_left
  · rw [show withinB a1 a2 a3 a4 a5 a6 b1 b2 b3 b4 b5 b6 = false from by simp [withinB]; omega]
    exact within_c3 a1 a2 a3 a4 a5 a6 b1 b2 b3 b4 b5 b6 h0 h1 h2 (by omega) w
  by_cases h4 : b3 ≤ a3
  rotate_left
  · rw [show withinB a1 a2 a3 a4 a5 a6 b1 b2 b3 b4 b5 b6 = false from by simp [withinB]; omega]
    exact within_c4 a1 a2 a3 a4 a5 a6 b1 b2 b3 b4 b5 b6 h0 h1 h2 h3 (by omega) w
  by_cases h5 : a6 ≤ b6
  rotate_left
  · rw [show withinB a1 a2 a3 a4 a5 a6 b1 b2 b3 b4 b5 b6 = false from by simp [withinB]; omega]
    exact within_c5 a1 a2 a3 a4 a5 a6 b1 b2 b3 b4 b5 b6 h0 h1 h2 h3 h4 (by omega) w
  rw [show withinB a1 a2 a3 a4 a5 a6 b1 b2 b3 b4 b5 b6 = true from by simp [withinB]; omega]
  exact within_c6 a1 a2 a3 a4 a5 a6 b1 b2 b3 b4 b5 b6 h0 h1 h2 h3 h4 h5 w

end Go.Proofs.YtniahipadfgkbaaGreat
namespace Go.Proofs.YtniahipadfgkbaaGreat
open Go.ChangeShapes Go.WideShapes Go.ChangeAt Go.RowKit Go.BigFrame

set_option maxHeartbeats 1000000 in
theorem both_c (a1 a2 a3 a4 a5 a6 b1 b2 b3 b4 b5 b6 : Int) (w : World) : Calls Tryz.prog 89 #[.agg #[.int .i64 a1, .int .i64 a2, .int .i64 a3, .int .i64 a4, .int .i64 a5, .int .i64 a6], .agg #[.int .i64 b1, .int .i64 b2, .int .i64 b3, .int .i64 b4, .int .i64 b5, .int .i64 b6]] w fun e w' => e = .returned (.agg #[.int .i64 (min a1 b1), .int .i64 (min a2 b2), .int .i64 (min a3 b3), .int .i64 (max a4 b4), .int .i64 (max a5 b5), .int .i64 (max a6 b6)]) ∧ Below w.heap.size w w' := by
  have hmc := more_cell
  have hmf := more_frozen
  have hml := more_lt
  go_enter Tryz.func89, Tryz.ntmps89
  go_wp2
  exact bodyPost_ret (v := .agg #[.int .i64 (min a1 b1), .int .i64 (min a2 b2), .int .i64 (min a3 b3), .int .i64 (max a4 b4), .int .i64 (max a5 b5), .int .i64 (max a6 b6)]) (by simp [results, Tryz.results89, go_sem, *]) rfl ⟨rfl, (by repeat (with_reducible (first | exact Below.refl _ _ | assumption | apply ext_drew | apply ext_drewN | apply ext_alloc | apply ext_more | (refine ext_setCell ?_ (by simp <;> omega) _) | (refine ext_below ?_ (by assumption)))))⟩

set_option maxHeartbeats 1000000 in
theorem fat_c (a1 a2 a3 a4 a5 a6 k : Int) (w : World) : Calls Tryz.prog 48 #[.agg #[.int .i64 a1, .int .i64 a2, .int .i64 a3, .int .i64 a4, .int .i64 a5, .int .i64 a6], .int .i64 k] w fun e w' => e = .returned (.agg #[.int .i64 (sub a1 k), .int .i64 (sub a2 k), .int .i64 (sub a3 k), .int .i64 (add a4 k), .int .i64 (add a5 k), .int .i64 (add a6 k)]) ∧ Below w.heap.size w w' := by
  have hmc := more_cell
  have hmf := more_frozen
  have hml := more_lt
  go_enter Tryz.func48, Tryz.ntmps48
  go_wp2
  refine region_quiet_but 9 (by kernel_rfl) (by kernel_rfl) ?_
  simp only [List.take_succ_cons, List.take_zero, List.drop_succ_cons, List.drop_zero]
  repeat (go_big_quiet_step (first | (go_at_call 39; exact calls_after (minus_c _ _ _ _ _ _ _)) | (go_at_call 13; exact calls_after (plus_c _ _ _ _ _ _ _))))
  refine wpQuiet_nil ?_
  rintro _ ⟨m, rfl⟩
  go_wp2
  exact bodyPost_ret (v := .agg #[.int .i64 (sub a1 k), .int .i64 (sub a2 k), .int .i64 (sub a3 k), .int .i64 (add a4 k), .int .i64 (add a5 k), .int .i64 (add a6 k)]) (by simp [results, Tryz.results48, go_sem, *]) rfl ⟨rfl, (by repeat (with_reducible (first | exact Below.refl _ _ | assumption | apply ext_drew | apply ext_drewN | apply ext_alloc | apply ext_more | (refine ext_setCell ?_ (by simp <;> omega) _) | (refine ext_below ?_ (by assumption)))))⟩

theorem nearf_c (n l h : Int) (w : World) : Calls Tryz.prog 101 #[.int .i64 n, .int .i64 l, .int .i64 h] w fun e w' => e = .returned (.int .i64 (max l (min h n))) ∧ w = w' := by
  go_enter Tryz.func101, Tryz.ntmps101
  go_wp2
  go_ret
  exact ⟨ri (by omega), rfl⟩

set_option maxHeartbeats 1000000 in
theorem near_c (a1 a2 a3 a4 a5 a6 b1 b2 b3 : Int) (w : World) : Calls Tryz.prog 82 #[.agg #[.int .i64 a1, .int .i64 a2, .int .i64 a3, .int .i64 a4, .int .i64 a5, .int .i64 a6], .agg #[.int .i64 b1, .int .i64 b2, .int .i64 b3]] w fun e w' => e = .returned (.agg #[.int .i64 (max a1 (min a4 b1)), .int .i64 (max a2 (min a5 b2)), .int .i64 (max a3 (min a6 b3))]) ∧ Below w.heap.size w w' := by
  have hmc := more_cell
  have hmf := more_frozen
  have hml := more_lt
  go_enter Tryz.func82, Tryz.ntmps82
  go_wp2
  refine region_quiet_but 31 (by kernel_rfl) (by kernel_rfl) ?_
  simp only [List.take_succ_cons, List.take_zero, List.drop_succ_cons, List.drop_zero]
  repeat (go_big_quiet_step ((go_at_call 101; exact calls_after_same (nearf_c _ _ _ _))))
  refine wpQuiet_nil ?_
  rintro _ ⟨m, rfl⟩
  go_wp2
  exact bodyPost_ret (v := .agg #[.int .i64 (max a1 (min a4 b1)), .int .i64 (max a2 (min a5 b2)), .int .i64 (max a3 (min a6 b3))]) (by simp [results, Tryz.results82, go_sem, *]) rfl ⟨rfl, (by repeat (with_reducible (first | exact Below.refl _ _ | assumption | apply ext_drew | apply ext_drewN | apply ext_alloc | apply ext_more | (refine ext_setCell ?_ (by simp <;> omega) _) | (refine ext_below ?_ (by assumption)))))⟩

end Go.Proofs.YtniahipadfgkbaaGreat
