/- gyrelaw.bare at an error by its number. Conditions: what the variable errors.errorType holds. -/
import Derived.Test.YtefhmbmbhiehdaaDoorKErr
import Derived.Test.YtefhmbmbhiehdaaDoorKD
namespace Go.Proofs.YtefhmbmbhiehdaaDoor
open Go.RowKit
theorem lbare_c (n m : Int) (w : World) (hg : Handle w) : Calls Tryd.prog 5 #[errV n, .int .i64 m] w fun e w' => e = .returned (.bool (n == m)) ∧ Below w.heap.size w w' := by
  by_cases h : n = 0
  · subst h
    rw [errV_0]
    exact (lbare_nil m (0 == m) w rfl).mono fun e w' ⟨he, hw⟩ => ⟨he, hw ▸ Below.refl _ _⟩
  · rw [errV_n h]
    exact lbare_hit n m (n == m) w hg rfl
theorem lbare_eq (n m : Int) (w : World) (hg : Handle w) (h : n = m) : Calls Tryd.prog 5 #[errV n, .int .i64 m] w fun e w' => e = .returned (.bool true) ∧ Below w.heap.size w w' := by
  subst h
  have := lbare_c n n w hg
  simpa using this
end Go.Proofs.YtefhmbmbhiehdaaDoor
