/- The contracts of boxes that lie within one another (package geom, and the document's answers). Conditions: none. -/
import Derived.Test.YtefhmbmbhiehdaaDoorKGeom
import Derived.LoopN
import Derived.Deep.RegionHeld3
namespace Go.Proofs.YtefhmbmbhiehdaaDoor
open Go.ChangeShapes Go.WideShapes Go.ChangeAt Go.RowKit Go.BigFrame

/-! ### two blocks, kept through a region -/
theorem keep2 {w w0 w1 : World} {b b' : Nat} {cs cs' : Array Value} (h : (∀ o, w0.cell? ⟨b, o, none⟩ = cs[o]?) ∧ (∀ o, w0.cell? ⟨b', o, none⟩ = cs'[o]?) ∧ b < w0.heap.size ∧ b' < w0.heap.size ∧ Below w.heap.size w w0) (hb : Below w0.heap.size w0 w1) :
    (∀ o, w1.cell? ⟨b, o, none⟩ = cs[o]?) ∧ (∀ o, w1.cell? ⟨b', o, none⟩ = cs'[o]?) ∧ b < w1.heap.size ∧ b' < w1.heap.size ∧ Below w.heap.size w w1 :=
  ⟨fun o => (hb.cell (p := ⟨b, o, none⟩) h.2.2.1).trans (h.1 o), fun o => (hb.cell (p := ⟨b', o, none⟩) h.2.2.2.1).trans (h.2.1 o), Nat.lt_of_lt_of_le h.2.2.1 hb.size, Nat.lt_of_lt_of_le h.2.2.2.1 hb.size, ext_below h.2.2.2.2 hb⟩

def meetB (a1 a2 a3 a4 a5 a6 b1 b2 b3 b4 b5 b6 : Int) : Bool := decide (a1 ≤ b4) && decide (b1 ≤ a4) && decide (a2 ≤ b5) && decide (b2 ≤ a5) && decide (a3 ≤ b6) && decide (b3 ≤ a6)

set_option maxRecDepth 100000 in
set_option maxHeartbeats 1000000 in
theorem meet_c0 (a1 a2 a3 a4 a5 a6 b1 b2 b3 b4 b5 b6 : Int) (h0 : b4 < a1) (w : World) : Calls Tryd.prog 24 #[.agg #[.int .i64 a1, .int .i64 a2, .int .i64 a3, .int .i64 a4, .int .i64 a5, .int .i64 a6], .agg #[.int .i64 b1, .int .i64 b2, .int .i64 b3, .int .i64 b4, .int .i64 b5, .int .i64 b6]] w fun e w' => e = .returned (.bool false) ∧ Below w.heap.size w w' := by
  go_enter Tryd.func24, Tryd.ntmps24
  go_wp2
  go_ret
  exact ⟨rfl, (by repeat (with_reducible (first | exact Below.refl _ _ | assumption | apply ext_drew | apply ext_drewN | apply ext_alloc | apply ext_more | (refine ext_setCell ?_ (by simp <;> omega) _) | (refine ext_below ?_ (by assumption)))))⟩

set_option maxRecDepth 100000 in
set_option maxHeartbeats 1000000 in
theorem meet_c1 (a1 a2 a3 a4 a5 a6 b1 b2 b3 b4 b5 b6 : Int) (h0 : a1 ≤ b4) (h1 : a4 < b1) (w : World) : Calls Tryd.prog 24 #[.agg #[.int .i64 a1, .int .i64 a2, .int .i64 a3, .int .i64 a4, .int .i64 a5, .int .i64 a6], .agg #[.int .i64 b1, .int .i64 b2, .int .i64 b3, .int .i64 b4, .int .i64 b5, .int .i64 b6]] w fun e w' => e = .returned (.bool false) ∧ Below w.heap.size w w' := by
  go_enter Tryd.func24, Tryd.ntmps24
  go_wp2
  go_ret
  exact ⟨rfl, (by repeat (with_reducible (first | exact Below.refl _ _ | assumption | apply ext_drew | apply ext_drewN | apply ext_alloc | apply ext_more | (refine ext_setCell ?_ (by simp <;> omega) _) | (refine ext_below ?_ (by assumption)))))⟩

set_option maxRecDepth 100000 in
set_option maxHeartbeats 1000000 in
theorem meet_c2 (a1 a2 a3 a4 a5 a6 b1 b2 b3 b4 b5 b6 : Int) (h0 : a1 ≤ b4) (h1 : b1 ≤ a4) (h2 : b5 < a2) (w : World) : Calls Tryd.prog 24 #[.agg #[.int .i64 a1, .int .i64 a2, .int .i64 a3, .int .i64 a4, .int .i64 a5, .int .i64 a6], .agg #[.int .i64 b1, .int .i64 b2, .int .i64 b3, .int .i64 b4, .int .i64 b5, .int .i64 b6]] w fun e w' => e = .returned (.bool false) ∧ Below w.heap.size w w' := by
  go_enter Tryd.func24, Tryd.ntmps24
  go_wp2
  go_ret
  exact ⟨rfl, (by repeat (with_reducible (first | exact Below.refl _ _ | assumption | apply ext_drew | apply ext_drewN | apply ext_alloc | apply ext_more | (refine ext_setCell ?_ (by simp <;> omega) _) | (refine ext_below ?_ (by assumption)))))⟩

set_option maxRecDepth 100000 in
set_option maxHeartbeats 1000000 in
theorem meet_c3 (a1 a2 a3 a4 a5 a6 b1 b2 b3 b4 b5 b6 : Int) (h0 : a1 ≤ b4) (h1 : b1 ≤ a4) (h2 : a2 ≤ b5) (h3 : a5 < b2) (w : World) : Calls Tryd.prog 24 #[.agg #[.int .i64 a1, .int .i64 a2, .int .i64 a3, .int .i64 a4, .int .i64 a5, .int .i64 a6], .agg #[.int .i64 b1, .int .i64 b2, .int .i64 b3, .int .i64 b4, .int .i64 b5, .int .i64 b6]] w fun e w' => e = .returned (.bool false) ∧ Below w.heap.size w w' := by
  go_enter Tryd.func24, Tryd.ntmps24
  go_wp2
  go_ret
  exact ⟨rfl, (by repeat (with_reducible (first | exact Below.refl _ _ | assumption | apply ext_drew | apply ext_drewN | apply ext_alloc | apply ext_more | (refine ext_setCell ?_ (by simp <;> omega) _) | (refine ext_below ?_ (by assumption)))))⟩

set_option maxRecDepth 100000 in
set_option maxHeartbeats 1000000 in
theorem meet_c4 (a1 a2 a3 a4 a5 a6 b1 b2 b3 b4 b5 b6 : Int) (h0 : a1 ≤ b4) (h1 : b1 ≤ a4) (h2 : a2 ≤ b5) (h3 : b2 ≤ a5) (h4 : b6 < a3) (w : World) : Calls Tryd.prog 24 #[.agg #[.int .i64 a1, .int .i64 a2, .int .i64 a3, .int .i64 a4, .int .i64 a5, .int .i64 a6], .agg #[.int .i64 b1, .int .i64 b2, .int .i64 b3, .int .i64 b4, .int .i64 b5, .int .i64 b6]] w fun e w' => e = .returned (.bool false) ∧ Below w.heap.size w w' := by
  go_enter Tryd.func24, Tryd.ntmps24
  go_wp2
  go_ret
  exact ⟨rfl, (by repeat (with_reducible (first | exact Below.refl _ _ | assumption | apply ext_drew | apply ext_drewN | apply ext_alloc | apply ext_more | (refine ext_setCell ?_ (by simp <;> omega) _) | (refine ext_below ?_ (by assumption)))))⟩

set_option maxRecDepth 100000 in
set_option maxHeartbeats 1000000 in
theorem meet_c5 (a1 a2 a3 a4 a5 a6 b1 b2 b3 b4 b5 b6 : Int) (h0 : a1 ≤ b4) (h1 : b1 ≤ a4) (h2 : a2 ≤ b5) (h3 : b2 ≤ a5) (h4 : a3 ≤ b6) (h5 : a6 < b3) (w : World) : Calls Tryd.prog 24 #[.agg #[.int .i64 a1, .int .i64 a2, .int .i64 a3, .int .i64 a4, .int .i64 a5, .int .i64 a6], .agg #[.int .i64 b1, .int .i64 b2, .int .i64 b3, .int .i64 b4, .int .i64 b5, .int .i64 b6]] w fun e w' => e = .returned (.bool false) ∧ Below w.heap.size w w' := by
  go_enter Tryd.func24, Tryd.ntmps24
  go_wp2
  go_ret
  exact ⟨rb (by simp; omega), (by repeat (with_reducible (first | exact Below.refl _ _ | assumption | apply ext_drew | apply ext_drewN | apply ext_alloc | apply ext_more | (refine ext_setCell ?_ (by simp <;> omega) _) | (refine ext_below ?_ (by assumption)))))⟩

set_option maxRecDepth 100000 in
set_option maxHeartbeats 1000000 in
theorem meet_c6 (a1 a2 a3 a4 a5 a6 b1 b2 b3 b4 b5 b6 : Int) (h0 : a1 ≤ b4) (h1 : b1 ≤ a4) (h2 : a2 ≤ b5) (h3 : b2 ≤ a5) (h4 : a3 ≤ b6) (h5 : b3 ≤ a6) (w : World) : Calls Tryd.prog 24 #[.agg #[.int .i64 a1, .int .i64 a2, .int .i64 a3, .int .i64 a4, .int .i64 a5, .int .i64 a6], .agg #[.int .i64 b1, .int .i64 b2, .int .i64 b3, .int .i64 b4, .int .i64 b5, .int .i64 b6]] w fun e w' => e = .returned (.bool true) ∧ Below w.heap.size w w' := by
  go_enter Tryd.func24, Tryd.ntmps24
  go_wp2
  go_ret
  exact ⟨rfl, (by repeat (with_reducible (first | exact Below.refl _ _ | assumption | apply ext_drew | apply ext_drewN | apply ext_alloc | apply ext_more | (refine ext_setCell ?_ (by simp <;> omega) _) | (refine ext_below ?_ (by assumption)))))⟩

theorem meet_c (a1 a2 a3 a4 a5 a6 b1 b2 b3 b4 b5 b6 : Int) (w : World) : Calls Tryd.prog 24 #[.agg #[.int .i64 a1, .int .i64 a2, .int .i64 a3, .int .i64 a4, .int .i64 a5, .int .i64 a6], .agg #[.int .i64 b1, .int .i64 b2, .int .i64 b3, .int .i64 b4, .int .i64 b5, .int .i64 b6]] w fun e w' => e = .returned (.bool (meetB a1 a2 a3 a4 a5 a6 b1 b2 b3 b4 b5 b6)) ∧ Below w.heap.size w w' := by
  by_cases h0 : a1 ≤ b4
  rotate_left
  · rw [show meetB a1 a2 a3 a4 a5 a6 b1 b2 b3 b4 b5 b6 = false from by simp [meetB]; omega]
    exact meet_c0 a1 a2 a3 a4 a5 a6 b1 b2 b3 b4 b5 b6  (by omega) w
  by_cases h1 : b1 ≤ a4
  rotate_left
  · rw [show meetB a1 a2 a3 a4 a5 a6 b1 b2 b3 b4 b5 b6 = false from by simp [meetB]; omega]
    exact meet_c1 a1 a2 a3 a4 a5 a6 b1 b2 b3 b4 b5 b6 h0 (by omega) w
  by_cases h2 : a2 ≤ b5
  rotate_left
  · rw [show meetB a1 a2 a3 a4 a5 a6 b1 b2 b3 b4 b5 b6 = false from by simp [meetB]; omega]
    exact meet_c2 a1 a2 a3 a4 a5 a6 b1 b2 b3 b4 b5 b6 h0 h1 (by omega) w
  by_cases h3 : b2 ≤ a5
  rotate_left
  · rw [show meetB a1 a2 a3 a4 a5 a6 b1 b2 b3 b4 b5 b6 = false from by simp [meetB]; omega]
    exact meet_c3 a1 a2 a3 a4 a5 a6 b1 b2 b3 b4 b5 b6 h0 h1 h2 (by omega) w
  by_cases h4 : a3 ≤ b6
  rotate_left
  · rw [show meetB a1 a2 a3 a4 a5 a6 b1 b2 b3 b4 b5 b6 = false from by simp [meetB]; omega]
    exact meet_c4 a1 a2 a3 a4 a5 a6 b1 b2 b3 b4 b5 b6 h0 h1 h2 h3 (by omega) w
  by_cases h5 : b3 ≤ a6
  rotate_left
  · rw [show meetB a1 a2 a3 a4 a5 a6 b1 b2 b3 b4 b5 b6 = false from by simp [meetB]; omega]
    exact meet_c5 a1 a2 a3 a4 a5 a6 b1 b2 b3 b4 b5 b6 h0 h1 h2 h3 h4 (by omega) w
  rw [show meetB a1 a2 a3 a4 a5 a6 b1 b2 b3 b4 b5 b6 = true from by simp [meetB]; omega]
  exact meet_c6 a1 a2 a3 a4 a5 a6 b1 b2 b3 b4 b5 b6 h0 h1 h2 h3 h4 h5 w

set_option maxRecDepth 100000 in
set_option maxHeartbeats 1000000 in
theorem rmeet_c0 (a1 a2 a3 a4 a5 a6 b1 b2 b3 b4 b5 b6 : Int) (h0 : b4 < a1) (w : World) : Calls Tryd.prog 11 #[.agg #[.int .i64 a1, .int .i64 a2, .int .i64 a3, .int .i64 a4, .int .i64 a5, .int .i64 a6], .agg #[.int .i64 b1, .int .i64 b2, .int .i64 b3, .int .i64 b4, .int .i64 b5, .int .i64 b6]] w fun e w' => e = .returned (.bool false) ∧ Below w.heap.size w w' := by
  go_enter Tryd.func11, Tryd.ntmps11
  go_wp2
  go_region_held3 (fun w' => (∀ o, w'.cell? ⟨w.heap.size, o, none⟩ = (#[.int .i64 a1, .int .i64 a2, .int .i64 a3, .int .i64 a4, .int .i64 a5, .int .i64 a6] : Array Value)[o]?) ∧ (∀ o, w'.cell? ⟨w.heap.size + 1, o, none⟩ = (#[.int .i64 b1, .int .i64 b2, .int .i64 b3, .int .i64 b4, .int .i64 b5, .int .i64 b6] : Array Value)[o]?) ∧ w.heap.size < w'.heap.size ∧ w.heap.size + 1 < w'.heap.size ∧ Below w.heap.size w w')
    (first | assumption | exact ⟨fun o => by simp [go_sem], fun o => by simp [go_sem], by simp <;> omega, by simp <;> omega, (by repeat (with_reducible (first | exact Below.refl _ _ | assumption | apply ext_drew | apply ext_drewN | apply ext_alloc | apply ext_more | (refine ext_setCell ?_ (by simp <;> omega) _) | (refine ext_below ?_ (by assumption)))))⟩)
    (first
      | (go_at_call_of 6 (Value.agg #[Value.int IntKind.i64 a1, Value.int IntKind.i64 a2, Value.int IntKind.i64 a3]); refine (parts_c _ _ _ _).mono ?_; rintro e w1 ⟨rfl, B1, hb1⟩; have hS1 := keep2 (by assumption) hb1)
      | (go_at_call_of 6 (Value.agg #[Value.int IntKind.i64 a4, Value.int IntKind.i64 a5, Value.int IntKind.i64 a6]); refine (parts_c _ _ _ _).mono ?_; rintro e w2 ⟨rfl, B2, hb2⟩; have hS2 := keep2 (by assumption) hb2)
      | (go_at_call_of 6 (Value.agg #[Value.int IntKind.i64 b1, Value.int IntKind.i64 b2, Value.int IntKind.i64 b3]); refine (parts_c _ _ _ _).mono ?_; rintro e w3 ⟨rfl, B3, hb3⟩; have hS3 := keep2 (by assumption) hb3)
      | (go_at_call_of 6 (Value.agg #[Value.int IntKind.i64 b4, Value.int IntKind.i64 b5, Value.int IntKind.i64 b6]); refine (parts_c _ _ _ _).mono ?_; rintro e w4 ⟨rfl, B4, hb4⟩; have hS4 := keep2 (by assumption) hb4))
  simp only [World.size_alloc, World.size_drew] at B1
  have C1 := ((B1.below hb2).below hb3).below hb4
  have C2 := (B2.below hb3).below hb4
  have C3 := B3.below hb4
  obtain ⟨z1, c1, f1⟩ := id C1
  obtain ⟨z2, c2, f2⟩ := id C2
  obtain ⟨z3, c3, f3⟩ := id C3
  obtain ⟨z4, c4, f4⟩ := id B4
  go_wp2
  refine wp_loop_rounds 1 ?_
  rw [rounds_succ]
  go_wp2
  go_quiet (fail)
  go_wp2
  go_ret
  exact ⟨rfl, by repeat (with_reducible (first | exact hS4.2.2.2.2 | apply ext_drewN))⟩

set_option maxRecDepth 100000 in
set_option maxHeartbeats 1000000 in
theorem rmeet_c1 (a1 a2 a3 a4 a5 a6 b1 b2 b3 b4 b5 b6 : Int) (h0 : a1 ≤ b4) (h1 : a4 < b1) (w : World) : Calls Tryd.prog 11 #[.agg #[.int .i64 a1, .int .i64 a2, .int .i64 a3, .int .i64 a4, .int .i64 a5, .int .i64 a6], .agg #[.int .i64 b1, .int .i64 b2, .int .i64 b3, .int .i64 b4, .int .i64 b5, .int .i64 b6]] w fun e w' => e = .returned (.bool false) ∧ Below w.heap.size w w' := by
  go_enter Tryd.func11, Tryd.ntmps11
  go_wp2
  go_region_held3 (fun w' => (∀ o, w'.cell? ⟨w.heap.size, o, none⟩ = (#[.int .i64 a1, .int .i64 a2, .int .i64 a3, .int .i64 a4, .int .i64 a5, .int .i64 a6] : Array Value)[o]?) ∧ (∀ o, w'.cell? ⟨w.heap.size + 1, o, none⟩ = (#[.int .i64 b1, .int .i64 b2, .int .i64 b3, .int .i64 b4, .int .i64 b5, .int .i64 b6] : Array Value)[o]?) ∧ w.heap.size < w'.heap.size ∧ w.heap.size + 1 < w'.heap.size ∧ Below w.heap.size w w')
    (first | assumption | exact ⟨fun o => by simp [go_sem], fun o => by simp [go_sem], by simp <;> omega, by simp <;> omega, (by repeat (with_reducible (first | exact Below.refl _ _ | assumption | apply ext_drew | apply ext_drewN | apply ext_alloc | apply ext_more | (refine ext_setCell ?_ (by simp <;> omega) _) | (refine ext_below ?_ (by assumption)))))⟩)
    (first
      | (go_at_call_of 6 (Value.agg #[Value.int IntKind.i64 a1, Value.int IntKind.i64 a2, Value.int IntKind.i64 a3]); refine (parts_c _ _ _ _).mono ?_; rintro e w1 ⟨rfl, B1, hb1⟩; have hS1 := keep2 (by assumption) hb1)
      | (go_at_call_of 6 (Value.agg #[Value.int IntKind.i64 a4, Value.int IntKind.i64 a5, Value.int IntKind.i64 a6]); refine (parts_c _ _ _ _).mono ?_; rintro e w2 ⟨rfl, B2, hb2⟩; have hS2 := keep2 (by assumption) hb2)
      | (go_at_call_of 6 (Value.agg #[Value.int IntKind.i64 b1, Value.int IntKind.i64 b2, Value.int IntKind.i64 b3]); refine (parts_c _ _ _ _).mono ?_; rintro e w3 ⟨rfl, B3, hb3⟩; have hS3 := keep2 (by assumption) hb3)
      | (go_at_call_of 6 (Value.agg #[Value.int IntKind.i64 b4, Value.int IntKind.i64 b5, Value.int IntKind.i64 b6]); refine (parts_c _ _ _ _).mono ?_; rintro e w4 ⟨rfl, B4, hb4⟩; have hS4 := keep2 (by assumption) hb4))
  simp only [World.size_alloc, World.size_drew] at B1
  have C1 := ((B1.below hb2).below hb3).below hb4
  have C2 := (B2.below hb3).below hb4
  have C3 := B3.below hb4
  obtain ⟨z1, c1, f1⟩ := id C1
  obtain ⟨z2, c2, f2⟩ := id C2
  obtain ⟨z3, c3, f3⟩ := id C3
  obtain ⟨z4, c4, f4⟩ := id B4
  go_wp2
  refine wp_loop_rounds 1 ?_
  rw [rounds_succ]
  go_wp2
  go_quiet (fail)
  go_wp2
  go_ret
  exact ⟨rfl, by repeat (with_reducible (first | exact hS4.2.2.2.2 | apply ext_drewN))⟩

set_option maxRecDepth 100000 in
set_option maxHeartbeats 1000000 in
theorem rmeet_c2 (a1 a2 a3 a4 a5 a6 b1 b2 b3 b4 b5 b6 : Int) (h0 : a1 ≤ b4) (h1 : b1 ≤ a4) (h2 : b5 < a2) (w : World) : Calls Tryd.prog 11 #[.agg #[.int .i64 a1, .int .i64 a2, .int .i64 a3, .int .i64 a4, .int .i64 a5, .int .i64 a6], .agg #[.int .i64 b1, .int .i64 b2, .int .i64 b3, .int .i64 b4, .int .i64 b5, .int .i64 b6]] w fun e w' => e = .returned (.bool false) ∧ Below w.heap.size w w' := by
  go_enter Tryd.func11, Tryd.ntmps11
  go_wp2
  go_region_held3 (fun w' => (∀ o, w'.cell? ⟨w.heap.size, o, none⟩ = (#[.int .i64 a1, .int .i64 a2, .int .i64 a3, .int .i64 a4, .int .i64 a5, .int .i64 a6] : Array Value)[o]?) ∧ (∀ o, w'.cell? ⟨w.heap.size + 1, o, none⟩ = (#[.int .i64 b1, .int .i64 b2, .int .i64 b3, .int .i64 b4, .int .i64 b5, .int .i64 b6] : Array Value)[o]?) ∧ w.heap.size < w'.heap.size ∧ w.heap.size + 1 < w'.heap.size ∧ Below w.heap.size w w')
    (first | assumption | exact ⟨fun o => by simp [go_sem], fun o => by simp [go_sem], by simp <;> omega, by simp <;> omega, (by repeat (with_reducible (first | exact Below.refl _ _ | assumption | apply ext_drew | apply ext_drewN | apply ext_alloc | apply ext_more | (refine ext_setCell ?_ (by simp <;> omega) _) | (refine ext_below ?_ (by assumption)))))⟩)
    (first
      | (go_at_call_of 6 (Value.agg #[Value.int IntKind.i64 a1, Value.int IntKind.i64 a2, Value.int IntKind.i64 a3]); refine (parts_c _ _ _ _).mono ?_; rintro e w1 ⟨rfl, B1, hb1⟩; have hS1 := keep2 (by assumption) hb1)
      | (go_at_call_of 6 (Value.agg #[Value.int IntKind.i64 a4, Value.int IntKind.i64 a5, Value.int IntKind.i64 a6]); refine (parts_c _ _ _ _).mono ?_; rintro e w2 ⟨rfl, B2, hb2⟩; have hS2 := keep2 (by assumption) hb2)
      | (go_at_call_of 6 (Value.agg #[Value.int IntKind.i64 b1, Value.int IntKind.i64 b2, Value.int IntKind.i64 b3]); refine (parts_c _ _ _ _).mono ?_; rintro e w3 ⟨rfl, B3, hb3⟩; have hS3 := keep2 (by assumption) hb3)
      | (go_at_call_of 6 (Value.agg #[Value.int IntKind.i64 b4, Value.int IntKind.i64 b5, Value.int IntKind.i64 b6]); refine (parts_c _ _ _ _).mono ?_; rintro e w4 ⟨rfl, B4, hb4⟩; have hS4 := keep2 (by assumption) hb4))
  simp only [World.size_alloc, World.size_drew] at B1
  have C1 := ((B1.below hb2).below hb3).below hb4
  have C2 := (B2.below hb3).below hb4
  have C3 := B3.below hb4
  obtain ⟨z1, c1, f1⟩ := id C1
  obtain ⟨z2, c2, f2⟩ := id C2
  obtain ⟨z3, c3, f3⟩ := id C3
  obtain ⟨z4, c4, f4⟩ := id B4
  go_wp2
  refine wp_loop_rounds 2 ?_
  rw [rounds_succ]
  go_wp2
  go_quiet (fail)
  go_wp2
  rw [rounds_succ]
  go_wp2
  go_quiet (fail)
  go_wp2
  go_ret
  exact ⟨rfl, by repeat (with_reducible (first | exact hS4.2.2.2.2 | apply ext_drewN))⟩

set_option maxRecDepth 100000 in
set_option maxHeartbeats 1000000 in
theorem rmeet_c3 (a1 a2 a3 a4 a5 a6 b1 b2 b3 b4 b5 b6 : Int) (h0 : a1 ≤ b4) (h1 : b1 ≤ a4) (h2 : a2 ≤ b5) (h3 : a5 < b2) (w : World) : Calls Tryd.prog 11 #[.agg #[.int .i64 a1, .int .i64 a2, .int .i64 a3, .int .i64 a4, .int .i64 a5, .int .i64 a6], .agg #[.int .i64 b1, .int .i64 b2, .int .i64 b3, .int .i64 b4, .int .i64 b5, .int .i64 b6]] w fun e w' => e = .returned (.bool false) ∧ Below w.heap.size w w' := by
  go_enter Tryd.func11, Tryd.ntmps11
  go_wp2
  go_region_held3 (fun w' => (∀ o, w'.cell? ⟨w.heap.size, o, none⟩ = (#[.int .i64 a1, .int .i64 a2, .int .i64 a3, .int .i64 a4, .int .i64 a5, .int .i64 a6] : Array Value)[o]?) ∧ (∀ o, w'.cell? ⟨w.heap.size + 1, o, none⟩ = (#[.int .i64 b1, .int .i64 b2, .int .i64 b3, .int .i64 b4, .int .i64 b5, .int .i64 b6] : Array Value)[o]?) ∧ w.heap.size < w'.heap.size ∧ w.heap.size + 1 < w'.heap.size ∧ Below w.heap.size w w')
    (first | assumption | exact ⟨fun o => by simp [go_sem], fun o => by simp [go_sem], by simp <;> omega, by simp <;> omega, (by repeat (with_reducible (first | exact Below.refl _ _ | assumption | apply ext_drew | apply ext_drewN | apply ext_alloc | apply ext_more | (refine ext_setCell ?_ (by simp <;> omega) _) | (refine ext_below ?_ (by assumption)))))⟩)
    (first
      | (go_at_call_of 6 (Value.agg #[Value.int IntKind.i64 a1, Value.int IntKind.i64 a2, Value.int IntKind.i64 a3]); refine (parts_c _ _ _ _).mono ?_; rintro e w1 ⟨rfl, B1, hb1⟩; have hS1 := keep2 (by assumption) hb1)
      | (go_at_call_of 6 (Value.agg #[Value.int IntKind.i64 a4, Value.int IntKind.i64 a5, Value.int IntKind.i64 a6]); refine (parts_c _ _ _ _).mono ?_; rintro e w2 ⟨rfl, B2, hb2⟩; have hS2 := keep2 (by assumption) hb2)
      | (go_at_call_of 6 (Value.agg #[Value.int IntKind.i64 b1, Value.int IntKind.i64 b2, Value.int IntKind.i64 b3]); refine (parts_c _ _ _ _).mono ?_; rintro e w3 ⟨rfl, B3, hb3⟩; have hS3 := keep2 (by assumption) hb3)
      | (go_at_call_of 6 (Value.agg #[Value.int IntKind.i64 b4, Value.int IntKind.i64 b5, Value.int IntKind.i64 b6]); refine (parts_c _ _ _ _).mono ?_; rintro e w4 ⟨rfl, B4, hb4⟩; have hS4 := keep2 (by assumption) hb4))
  simp only [World.size_alloc, World.size_drew] at B1
  have C1 := ((B1.below hb2).below hb3).below hb4
  have C2 := (B2.below hb3).below hb4
  have C3 := B3.below hb4
  obtain ⟨z1, c1, f1⟩ := id C1
  obtain ⟨z2, c2, f2⟩ := id C2
  obtain ⟨z3, c3, f3⟩ := id C3
  obtain ⟨z4, c4, f4⟩ := id B4
  go_wp2
  refine wp_loop_rounds 2 ?_
  rw [rounds_succ]
  go_wp2
  go_quiet (fail)
  go_wp2
  rw [rounds_succ]
  go_wp2
  go_quiet (fail)
  go_wp2
  go_ret
  exact ⟨rfl, by repeat (with_reducible (first | exact hS4.2.2.2.2 | apply ext_drewN))⟩

set_option maxRecDepth 100000 in
set_option maxHeartbeats 1000000 in
theorem rmeet_c4 (a1 a2 a3 a4 a5 a6 b1 b2 b3 b4 b5 b6 : Int) (h0 : a1 ≤ b4) (h1 : b1 ≤ a4) (h2 : a2 ≤ b5) (h3 : b2 ≤ a5) (h4 : b6 < a3) (w : World) : Calls Tryd.prog 11 #[.agg #[.int .i64 a1, .int .i64 a2, .int .i64 a3, .int .i64 a4, .int .i64 a5, .int .i64 a6], .agg #[.int .i64 b1, .int .i64 b2, .int .i64 b3, .int .i64 b4, .int .i64 b5, .int .i64 b6]] w fun e w' => e = .returned (.bool false) ∧ Below w.heap.size w w' := by
  go_enter Tryd.func11, Tryd.ntmps11
  go_wp2
  go_region_held3 (fun w' => (∀ o, w'.cell? ⟨w.heap.size, o, none⟩ = (#[.int .i64 a1, .int .i64 a2, .int .i64 a3, .int .i64 a4, .int .i64 a5, .int .i64 a6] : Array Value)[o]?) ∧ (∀ o, w'.cell? ⟨w.heap.size + 1, o, none⟩ = (#[.int .i64 b1, .int .i64 b2, .int .i64 b3, .int .i64 b4, .int .i64 b5, .int .i64 b6] : Array Value)[o]?) ∧ w.heap.size < w'.heap.size ∧ w.heap.size + 1 < w'.heap.size ∧ Below w.heap.size w w')
    (first | assumption | exact ⟨fun o => by simp [go_sem], fun o => by simp [go_sem], by simp <;> omega, by simp <;> omega, (by repeat (with_reducible (first | exact Below.refl _ _ | assumption | apply ext_drew | apply ext_drewN | apply ext_alloc | apply ext_more | (refine ext_setCell ?_ (by simp <;> omega) _) | (refine ext_below ?_ (by assumption)))))⟩)
    (first
      | (go_at_call_of 6 (Value.agg #[Value.int IntKind.i64 a1, Value.int IntKind.i64 a2, Value.int IntKind.i64 a3]); refine (parts_c _ _ _ _).mono ?_; rintro e w1 ⟨rfl, B1, hb1⟩; have hS1 := keep2 (by assumption) hb1)
      | (go_at_call_of 6 (Value.agg #[Value.int IntKind.i64 a4, Value.int IntKind.i64 a5, Value.int IntKind.i64 a6]); refine (parts_c _ _ _ _).mono ?_; rintro e w2 ⟨rfl, B2, hb2⟩; have hS2 := keep2 (by assumption) hb2)
      | (go_at_call_of 6 (Value.agg #[Value.int IntKind.i64 b1, Value.int IntKind.i64 b2, Value.int IntKind.i64 b3]); refine (parts_c _ _ _ _).mono ?_; rintro e w3 ⟨rfl, B3, hb3⟩; have hS3 := keep2 (by assumption) hb3)
      | (go_at_call_of 6 (Value.agg #[Value.int IntKind.i64 b4, Value.int IntKind.i64 b5, Value.int IntKind.i64 b6]); refine (parts_c _ _ _ _).mono ?_; rintro e w4 ⟨rfl, B4, hb4⟩; have hS4 := keep2 (by assumption) hb4))
  simp only [World.size_alloc, World.size_drew] at B1
  have C1 := ((B1.below hb2).below hb3).below hb4
  have C2 := (B2.below hb3).below hb4
  have C3 := B3.below hb4
  obtain ⟨z1, c1, f1⟩ := id C1
  obtain ⟨z2, c2, f2⟩ := id C2
  obtain ⟨z3, c3, f3⟩ := id C3
  obtain ⟨z4, c4, f4⟩ := id B4
  go_wp2
  refine wp_loop_rounds 3 ?_
  rw [rounds_succ]
  go_wp2
  go_quiet (fail)
  go_wp2
  rw [rounds_succ]
  go_wp2
  go_quiet (fail)
  go_wp2
  rw [rounds_succ]
  go_wp2
  go_quiet (fail)
  go_wp2
  go_ret
  exact ⟨rfl, by repeat (with_reducible (first | exact hS4.2.2.2.2 | apply ext_drewN))⟩

set_option maxRecDepth 100000 in
set_option maxHeartbeats 1000000 in
theorem rmeet_c5 (a1 a2 a3 a4 a5 a6 b1 b2 b3 b4 b5 b6 : Int) (h0 : a1 ≤ b4) (h1 : b1 ≤ a4) (h2 : a2 ≤ b5) (h3 : b2 ≤ a5) (h4 : a3 ≤ b6) (h5 : a6 < b3) (w : World) : Calls Tryd.prog 11 #[.agg #[.int .i64 a1, .int .i64 a2, .int .i64 a3, .int .i64 a4, .int .i64 a5, .int .i64 a6], .agg #[.int .i64 b1, .int .i64 b2, .int .i64 b3, .int .i64 b4, .int .i64 b5, .int .i64 b6]] w fun e w' => e = .returned (.bool false) ∧ Below w.heap.size w w' := by
  go_enter Tryd.func11, Tryd.ntmps11
  go_wp2
  go_region_held3 (fun w' => (∀ o, w'.cell? ⟨w.heap.size, o, none⟩ = (#[.int .i64 a1, .int .i64 a2, .int .i64 a3, .int .i64 a4, .int .i64 a5, .int .i64 a6] : Array Value)[o]?) ∧ (∀ o, w'.cell? ⟨w.heap.size + 1, o, none⟩ = (#[.int .i64 b1, .int .i64 b2, .int .i64 b3, .int .i64 b4, .int .i64 b5, .int .i64 b6] : Array Value)[o]?) ∧ w.heap.size < w'.heap.size ∧ w.heap.size + 1 < w'.heap.size ∧ Below w.heap.size w w')
    (first | assumption | exact ⟨fun o => by simp [go_sem], fun o => by simp [go_sem], by simp <;> omega, by simp <;> omega, (by repeat (with_reducible (first | exact Below.refl _ _ | assumption | apply ext_drew | apply ext_drewN | apply ext_alloc | apply ext_more | (refine ext_setCell ?_ (by simp <;> omega) _) | (refine ext_below ?_ (by assumption)))))⟩)
    (first
      | (go_at_call_of 6 (Value.agg #[Value.int IntKind.i64 a1, Value.int IntKind.i64 a2, Value.int IntKind.i64 a3]); refine (parts_c _ _ _ _).mono ?_; rintro e w1 ⟨rfl, B1, hb1⟩; have hS1 := keep2 (by assumption) hb1)
      | (go_at_call_of 6 (Value.agg #[Value.int IntKind.i64 a4, Value.int IntKind.i64 a5, Value.int IntKind.i64 a6]); refine (parts_c _ _ _ _).mono ?_; rintro e w2 ⟨rfl, B2, hb2⟩; have hS2 := keep2 (by assumption) hb2)
      | (go_at_call_of 6 (Value.agg #[Value.int IntKind.i64 b1, Value.int IntKind.i64 b2, Value.int IntKind.i64 b3]); refine (parts_c _ _ _ _).mono ?_; rintro e w3 ⟨rfl, B3, hb3⟩; have hS3 := keep2 (by assumption) hb3)
      | (go_at_call_of 6 (Value.agg #[Value.int IntKind.i64 b4, Value.int IntKind.i64 b5, Value.int IntKind.i64 b6]); refine (parts_c _ _ _ _).mono ?_; rintro e w4 ⟨rfl, B4, hb4⟩; have hS4 := keep2 (by assumption) hb4))
  simp only [World.size_alloc, World.size_drew] at B1
  have C1 := ((B1.below hb2).below hb3).below hb4
  have C2 := (B2.below hb3).below hb4
  have C3 := B3.below hb4
  obtain ⟨z1, c1, f1⟩ := id C1
  obtain ⟨z2, c2, f2⟩ := id C2
  obtain ⟨z3, c3, f3⟩ := id C3
  obtain ⟨z4, c4, f4⟩ := id B4
  go_wp2
  refine wp_loop_rounds 3 ?_
  rw [rounds_succ]
  go_wp2
  go_quiet (fail)
  go_wp2
  rw [rounds_succ]
  go_wp2
  go_quiet (fail)
  go_wp2
  rw [rounds_succ]
  go_wp2
  go_quiet (fail)
  go_wp2
  go_ret
  exact ⟨rfl, by repeat (with_reducible (first | exact hS4.2.2.2.2 | apply ext_drewN))⟩

set_option maxRecDepth 100000 in
set_option maxHeartbeats 1000000 in
theorem rmeet_c6 (a1 a2 a3 a4 a5 a6 b1 b2 b3 b4 b5 b6 : Int) (h0 : a1 ≤ b4) (h1 : b1 ≤ a4) (h2 : a2 ≤ b5) (h3 : b2 ≤ a5) (h4 : a3 ≤ b6) (h5 : b3 ≤ a6) (w : World) : Calls Tryd.prog 11 #[.agg #[.int .i64 a1, .int .i64 a2, .int .i64 a3, .int .i64 a4, .int .i64 a5, .int .i64 a6], .agg #[.int .i64 b1, .int .i64 b2, .int .i64 b3, .int .i64 b4, .int .i64 b5, .int .i64 b6]] w fun e w' => e = .returned (.bool true) ∧ Below w.heap.size w w' := by
  go_enter Tryd.func11, Tryd.ntmps11
  go_wp2
  go_region_held3 (fun w' => (∀ o, w'.cell? ⟨w.heap.size, o, none⟩ = (#[.int .i64 a1, .int .i64 a2, .int .i64 a3, .int .i64 a4, .int .i64 a5, .int .i64 a6] : Array Value)[o]?) ∧ (∀ o, w'.cell? ⟨w.heap.size + 1, o, none⟩ = (#[.int .i64 b1, .int .i64 b2, .int .i64 b3, .int .i64 b4, .int .i64 b5, .int .i64 b6] : Array Value)[o]?) ∧ w.heap.size < w'.heap.size ∧ w.heap.size + 1 < w'.heap.size ∧ Below w.heap.size w w')
    (first | assumption | exact ⟨fun o => by simp [go_sem], fun o => by simp [go_sem], by simp <;> omega, by simp <;> omega, (by repeat (with_reducible (first | exact Below.refl _ _ | assumption | apply ext_drew | apply ext_drewN | apply ext_alloc | apply ext_more | (refine ext_setCell ?_ (by simp <;> omega) _) | (refine ext_below ?_ (by assumption)))))⟩)
    (first
      | (go_at_call_of 6 (Value.agg #[Value.int IntKind.i64 a1, Value.int IntKind.i64 a2, Value.int IntKind.i64 a3]); refine (parts_c _ _ _ _).mono ?_; rintro e w1 ⟨rfl, B1, hb1⟩; have hS1 := keep2 (by assumption) hb1)
      | (go_at_call_of 6 (Value.agg #[Value.int IntKind.i64 a4, Value.int IntKind.i64 a5, Value.int IntKind.i64 a6]); refine (parts_c _ _ _ _).mono ?_; rintro e w2 ⟨rfl, B2, hb2⟩; have hS2 := keep2 (by assumption) hb2)
      | (go_at_call_of 6 (Value.agg #[Value.int IntKind.i64 b1, Value.int IntKind.i64 b2, Value.int IntKind.i64 b3]); refine (parts_c _ _ _ _).mono ?_; rintro e w3 ⟨rfl, B3, hb3⟩; have hS3 := keep2 (by assumption) hb3)
      | (go_at_call_of 6 (Value.agg #[Value.int IntKind.i64 b4, Value.int IntKind.i64 b5, Value.int IntKind.i64 b6]); refine (parts_c _ _ _ _).mono ?_; rintro e w4 ⟨rfl, B4, hb4⟩; have hS4 := keep2 (by assumption) hb4))
  simp only [World.size_alloc, World.size_drew] at B1
  have C1 := ((B1.below hb2).below hb3).below hb4
  have C2 := (B2.below hb3).below hb4
  have C3 := B3.below hb4
  obtain ⟨z1, c1, f1⟩ := id C1
  obtain ⟨z2, c2, f2⟩ := id C2
  obtain ⟨z3, c3, f3⟩ := id C3
  obtain ⟨z4, c4, f4⟩ := id B4
  go_wp2
  refine wp_loop_rounds 4 ?_
  rw [rounds_succ]
  go_wp2
  go_quiet (fail)
  go_wp2
  rw [rounds_succ]
  go_wp2
  go_quiet (fail)
  go_wp2
  rw [rounds_succ]
  go_wp2
  go_quiet (fail)
  go_wp2
  rw [rounds_succ]
  go_wp2
  go_ret
  exact ⟨rfl, by repeat (with_reducible (first | exact hS4.2.2.2.2 | apply ext_drewN))⟩

theorem rmeet_c (a1 a2 a3 a4 a5 a6 b1 b2 b3 b4 b5 b6 : Int) (w : World) : Calls Tryd.prog 11 #[.agg #[.int .i64 a1, .int .i64 a2, .int .i64 a3, .int .i64 a4, .int .i64 a5, .int .i64 a6], .agg #[.int .i64 b1, .int .i64 b2, .int .i64 b3, .int .i64 b4, .int .i64 b5, .int .i64 b6]] w fun e w' => e = .returned (.bool (meetB a1 a2 a3 a4 a5 a6 b1 b2 b3 b4 b5 b6)) ∧ Below w.heap.size w w' := by
  by_cases h0 : a1 ≤ b4
  rotate_left
  · rw [show meetB a1 a2 a3 a4 a5 a6 b1 b2 b3 b4 b5 b6 = false from by simp [meetB]; omega]
    exact rmeet_c0 a1 a2 a3 a4 a5 a6 b1 b2 b3 b4 b5 b6  (by omega) w
  by_cases h1 : b1 ≤ a4
  rotate_left
  · rw [show meetB a1 a2 a3 a4 a5 a6 b1 b2 b3 b4 b5 b6 = false from by simp [meetB]; omega]
    exact rmeet_c1 a1 a2 a3 a4 a5 a6 b1 b2 b3 b4 b5 b6 h0 (by omega) w
  by_cases h2 : a2 ≤ b5
  rotate_left
  · rw [show meetB a1 a2 a3 a4 a5 a6 b1 b2 b3 b4 b5 b6 = false from by simp [meetB]; omega]
    exact rmeet_c2 a1 a2 a3 a4 a5 a6 b1 b2 b3 b4 b5 b6 h0 h1 (by omega) w
  by_cases h3 : b2 ≤ a5
  rotate_left
  · rw [show meetB a1 a2 a3 a4 a5 a6 b1 b2 b3 b4 b5 b6 = false from by simp [meetB]; omega]
    exact rmeet_c3 a1 a2 a3 a4 a5 a6 b1 b2 b3 b4 b5 b6 h0 h1 h2 (by omega) w
  by_cases h4 : a3 ≤ b6
  rotate_left
  · rw [show meetB a1 a2 a3 a4 a5 a6 b1 b2 b3 b4 b5 b6 = false from by simp [meetB]; omega]
    exact rmeet_c4 a1 a2 a3 a4 a5 a6 b1 b2 b3 b4 b5 b6 h0 h1 h2 h3 (by omega) w
  by_cases h5 : b3 ≤ a6
  rotate_left
  · rw [show meetB a1 a2 a3 a4 a5 a6 b1 b2 b3 b4 b5 b6 = false from by simp [meetB]; omega]
    exact rmeet_c5 a1 a2 a3 a4 a5 a6 b1 b2 b3 b4 b5 b6 h0 h1 h2 h3 h4 (by omega) w
  rw [show meetB a1 a2 a3 a4 a5 a6 b1 b2 b3 b4 b5 b6 = true from by simp [meetB]; omega]
  exact rmeet_c6 a1 a2 a3 a4 a5 a6 b1 b2 b3 b4 b5 b6 h0 h1 h2 h3 h4 h5 w

end Go.Proofs.YtefhmbmbhiehdaaDoor
namespace Go.Proofs.YtefhmbmbhiehdaaDoor
open Go.ChangeShapes Go.WideShapes Go.ChangeAt Go.RowKit Go.BigFrame

def withinB (a1 a2 a3 a4 a5 a6 b1 b2 b3 b4 b5 b6 : Int) : Bool := decide (b1 ≤ a1) && decide (a4 ≤ b4) && decide (b2 ≤ a2) && decide (a5 ≤ b5) && decide (b3 ≤ a3) && decide (a6 ≤ b6)

set_option maxRecDepth 100000 in
set_option maxHeartbeats 1000000 in
theorem within_c0 (a1 a2 a3 a4 a5 a6 b1 b2 b3 b4 b5 b6 : Int) (h0 : a1 < b1) (w : World) : Calls Tryd.prog 19 #[.agg #[.int .i64 a1, .int .i64 a2, .int .i64 a3, .int .i64 a4, .int .i64 a5, .int .i64 a6], .agg #[.int .i64 b1, .int .i64 b2, .int .i64 b3, .int .i64 b4, .int .i64 b5, .int .i64 b6]] w fun e w' => e = .returned (.bool false) ∧ Below w.heap.size w w' := by
  go_enter Tryd.func19, Tryd.ntmps19
  go_wp2
  go_ret
  exact ⟨rfl, (by repeat (with_reducible (first | exact Below.refl _ _ | assumption | apply ext_drew | apply ext_drewN | apply ext_alloc | apply ext_more | (refine ext_setCell ?_ (by simp <;> omega) _) | (refine ext_below ?_ (by assumption)))))⟩

set_option maxRecDepth 100000 in
set_option maxHeartbeats 1000000 in
theorem within_c1 (a1 a2 a3 a4 a5 a6 b1 b2 b3 b4 b5 b6 : Int) (h0 : b1 ≤ a1) (h1 : b4 < a4) (w : World) : Calls Tryd.prog 19 #[.agg #[.int .i64 a1, .int .i64 a2, .int .i64 a3, .int .i64 a4, .int .i64 a5, .int .i64 a6], .agg #[.int .i64 b1, .int .i64 b2, .int .i64 b3, .int .i64 b4, .int .i64 b5, .int .i64 b6]] w fun e w' => e = .returned (.bool false) ∧ Below w.heap.size w w' := by
  go_enter Tryd.func19, Tryd.ntmps19
  go_wp2
  go_ret
  exact ⟨rfl, (by repeat (with_reducible (first | exact Below.refl _ _ | assumption | apply ext_drew | apply ext_drewN | apply ext_alloc | apply ext_more | (refine ext_setCell ?_ (by simp <;> omega) _) | (refine ext_below ?_ (by assumption)))))⟩

set_option maxRecDepth 100000 in
set_option maxHeartbeats 1000000 in
theorem within_c2 (a1 a2 a3 a4 a5 a6 b1 b2 b3 b4 b5 b6 : Int) (h0 : b1 ≤ a1) (h1 : a4 ≤ b4) (h2 : a2 < b2) (w : World) : Calls Tryd.prog 19 #[.agg #[.int .i64 a1, .int .i64 a2, .int .i64 a3, .int .i64 a4, .int .i64 a5, .int .i64 a6], .agg #[.int .i64 b1, .int .i64 b2, .int .i64 b3, .int .i64 b4, .int .i64 b5, .int .i64 b6]] w fun e w' => e = .returned (.bool false) ∧ Below w.heap.size w w' := by
  go_enter Tryd.func19, Tryd.ntmps19
  go_wp2
  go_ret
  exact ⟨rfl, (by repeat (with_reducible (first | exact Below.refl _ _ | assumption | apply ext_drew | apply ext_drewN | apply ext_alloc | apply ext_more | (refine ext_setCell ?_ (by simp <;> omega) _) | (refine ext_below ?_ (by assumption)))))⟩

set_option maxRecDepth 100000 in
set_option maxHeartbeats 1000000 in
theorem within_c3 (a1 a2 a3 a4 a5 a6 b1 b2 b3 b4 b5 b6 : Int) (h0 : b1 ≤ a1) (h1 : a4 ≤ b4) (h2 : b2 ≤ a2) (h3 : b5 < a5) (w : World) : Calls Tryd.prog 19 #[.agg #[.int .i64 a1, .int .i64 a2, .int .i64 a3, .int .i64 a4, .int .i64 a5, .int .i64 a6], .agg #[.int .i64 b1, .int .i64 b2, .int .i64 b3, .int .i64 b4, .int .i64 b5, .int .i64 b6]] w fun e w' => e = .returned (.bool false) ∧ Below w.heap.size w w' := by
  go_enter Tryd.func19, Tryd.ntmps19
  go_wp2
  go_ret
  exact ⟨rfl, (by repeat (with_reducible (first | exact Below.refl _ _ | assumption | apply ext_drew | apply ext_drewN | apply ext_alloc | apply ext_more | (refine ext_setCell ?_ (by simp <;> omega) _) | (refine ext_below ?_ (by assumption)))))⟩

set_option maxRecDepth 100000 in
set_option maxHeartbeats 1000000 in
theorem within_c4 (a1 a2 a3 a4 a5 a6 b1 b2 b3 b4 b5 b6 : Int) (h0 : b1 ≤ a1) (h1 : a4 ≤ b4) (h2 : b2 ≤ a2) (h3 : a5 ≤ b5) (h4 : a3 < b3) (w : World) : Calls Tryd.prog 19 #[.agg #[.int .i64 a1, .int .i64 a2, .int .i64 a3, .int .i64 a4, .int .i64 a5, .int .i64 a6], .agg #[.int .i64 b1, .int .i64 b2, .int .i64 b3, .int .i64 b4, .int .i64 b5, .int .i64 b6]] w fun e w' => e = .returned (.bool false) ∧ Below w.heap.size w w' := by
  go_enter Tryd.func19, Tryd.ntmps19
  go_wp2
  go_ret
  exact ⟨rfl, (by repeat (with_reducible (first | exact Below.refl _ _ | assumption | apply ext_drew | apply ext_drewN | apply ext_alloc | apply ext_more | (refine ext_setCell ?_ (by simp <;> omega) _) | (refine ext_below ?_ (by assumption)))))⟩

set_option maxRecDepth 100000 in
set_option maxHeartbeats 1000000 in
theorem within_c5 (a1 a2 a3 a4 a5 a6 b1 b2 b3 b4 b5 b6 : Int) (h0 : b1 ≤ a1) (h1 : a4 ≤ b4) (h2 : b2 ≤ a2) (h3 : a5 ≤ b5) (h4 : b3 ≤ a3) (h5 : b6 < a6) (w : World) : Calls Tryd.prog 19 #[.agg #[.int .i64 a1, .int .i64 a2, .int .i64 a3, .int .i64 a4, .int .i64 a5, .int .i64 a6], .agg #[.int .i64 b1, .int .i64 b2, .int .i64 b3, .int .i64 b4, .int .i64 b5, .int .i64 b6]] w fun e w' => e = .returned (.bool false) ∧ Below w.heap.size w w' := by
  go_enter Tryd.func19, Tryd.ntmps19
  go_wp2
  go_ret
  exact ⟨rb (by simp; omega), (by repeat (with_reducible (first | exact Below.refl _ _ | assumption | apply ext_drew | apply ext_drewN | apply ext_alloc | apply ext_more | (refine ext_setCell ?_ (by simp <;> omega) _) | (refine ext_below ?_ (by assumption)))))⟩

set_option maxRecDepth 100000 in
set_option maxHeartbeats 1000000 in
theorem within_c6 (a1 a2 a3 a4 a5 a6 b1 b2 b3 b4 b5 b6 : Int) (h0 : b1 ≤ a1) (h1 : a4 ≤ b4) (h2 : b2 ≤ a2) (h3 : a5 ≤ b5) (h4 : b3 ≤ a3) (h5 : a6 ≤ b6) (w : World) : Calls Tryd.prog 19 #[.agg #[.int .i64 a1, .int .i64 a2, .int .i64 a3, .int .i64 a4, .int .i64 a5, .int .i64 a6], .agg #[.int .i64 b1, .int .i64 b2, .int .i64 b3, .int .i64 b4, .int .i64 b5, .int .i64 b6]] w fun e w' => e = .returned (.bool true) ∧ Below w.heap.size w w' := by
  go_enter Tryd.func19, Tryd.ntmps19
  go_wp2
  go_ret
  exact ⟨rfl, (by repeat (with_reducible (first | exact Below.refl _ _ | assumption | apply ext_drew | apply ext_drewN | apply ext_alloc | apply ext_more | (refine ext_setCell ?_ (by simp <;> omega) _) | (refine ext_below ?_ (by assumption)))))⟩

theorem within_c (a1 a2 a3 a4 a5 a6 b1 b2 b3 b4 b5 b6 : Int) (w : World) : Calls Tryd.prog 19 #[.agg #[.int .i64 a1, .int .i64 a2, .int .i64 a3, .int .i64 a4, .int .i64 a5, .int .i64 a6], .agg #[.int .i64 b1, .int .i64 b2, .int .i64 b3, .int .i64 b4, .int .i64 b5, .int .i64 b6]] w fun e w' => e = .returned (.bool (withinB a1 a2 a3 a4 a5 a6 b1 b2 b3 b4 b5 b6)) ∧ Below w.heap.size w w' := by
  by_cases h0 : b1 ≤ a1
  rotate_left
  · rw [show withinB a1 a2 a3 a4 a5 a6 b1 b2 b3 b4 b5 b6 = false from by simp [withinB]; omega]
    exact within_c0 a1 a2 a3 a4 a5 a6 b1 b2 b3 b4 b5 b6  (by omega) w
  by_cases h1 : a4 ≤ b4
  rotate_left
  · rw [show withinB a1 a2 a3 a4 a5 a6 b1 b2 b3 b4 b5 b6 = false from by simp [withinB]; omega]
    exact within_c1 a1 a2 a3 a4 a5 a6 b1 b2 b3 b4 b5 b6 h0 (by omega) w
  by_cases h2 : b2 ≤ a2
  rotate_left
  · rw [show withinB a1 a2 a3 a4 a5 a6 b1 b2 b3 b4 b5 b6 = false from by simp [withinB]; omega]
    exact within_c2 a1 a2 a3 a4 a5 a6 b1 b2 b3 b4 b5 b6 h0 h1 (by omega) w
  by_cases h3 : a5 ≤ b5
  rotate_left
  · rw [show withinB a1 a2 a3 a4 a5 a6 b1 b2 b3 b4 b5 b6 = false from by simp [withinB]; omega]
    exact within_c3 a1 a2 a3 a4 a5 a6 b1 b2 b3 b4 b5 b6 h0 h1 h2 (by omega) w
  by_cases h4 : b3 ≤ a3
  rotate_left
  · rw [show withinB a1 a2 a3 a4 a5 a6 b1 b2 b3 b4 b5 b6 = false from by simp [withinB]; omega]
    exact within_c4 a1 a2 a3 a4 a5 a6 b1 b2 b3 b4 b5 b6 h0 h1 h2 h3 (by omega) w
  by_cases h5 : a6 ≤ b6
  rotate_left
  · rw [show withinB a1 a2 a3 a4 a5 a6 b1 b2 b3 b4 b5 b6 = false from by simp [withinB]; omega]
    exact within_c5 a1 a2 a3 a4 a5 a6 b1 b2 b3 b4 b5 b6 h0 h1 h2 h3 h4 (by omega) w
  rw [show withinB a1 a2 a3 a4 a5 a6 b1 b2 b3 b4 b5 b6 = true from by simp [withinB]; omega]
  exact within_c6 a1 a2 a3 a4 a5 a6 b1 b2 b3 b4 b5 b6 h0 h1 h2 h3 h4 h5 w

end Go.Proofs.YtefhmbmbhiehdaaDoor
