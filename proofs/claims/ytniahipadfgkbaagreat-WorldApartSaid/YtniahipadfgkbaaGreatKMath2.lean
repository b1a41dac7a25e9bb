/- Laws of the plain numbers: no program in sight. Conditions: none. -/
import Derived.Test.YtniahipadfgkbaaGreatKB
namespace Go.Proofs.YtniahipadfgkbaaGreat
/-! ### laws of the numbers -/
theorem sgn_zero (m : Bool) : sgn 0 m = 0 := by cases m <;> rfl
end Go.Proofs.YtniahipadfgkbaaGreat
