/- interest: cells and corners. Conditions: none. -/
import Derived.Test.YtefhmbmbhiehdaaDoorProg
import Derived.Test.YtefhmbmbhiehdaaDoorKA
import Derived.Test.YtefhmbmbhiehdaaDoorKGrow
namespace Go.Proofs.YtefhmbmbhiehdaaDoor
open Go.RowKit Go.BigFrame
/-- within the world, and a body's size more -/
def kl (n : Int) : Int := max (-68812800) (min 68812800 n)
/-- where a number is -/
def kc (n : Int) : Int := kl n / 1048576
theorem kl_bd (n : Int) : -68812800 ≤ kl n ∧ kl n ≤ 68812800 := by unfold kl; omega
theorem kc_bd (n : Int) : -66 ≤ kc n ∧ kc n ≤ 65 := by have := kl_bd n; unfold kc; omega
theorem kc_mono {a b : Int} (h : a ≤ b) : kc a ≤ kc b := by unfold kc kl; omega
end Go.Proofs.YtefhmbmbhiehdaaDoor
