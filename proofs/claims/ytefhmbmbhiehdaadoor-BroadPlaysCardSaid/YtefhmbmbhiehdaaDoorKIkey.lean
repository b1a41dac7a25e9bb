/- Keys that are cells. Conditions: none. -/
import Derived.DeepKeys4
import Derived.ChangeKeys
import Derived.Test.YtefhmbmbhiehdaaDoorKEach
import Derived.Test.YtefhmbmbhiehdaaDoorKA
namespace Go.Proofs.YtefhmbmbhiehdaaDoor
open Go Go.Maps Go.RowKit Go.WideMaps
set_option maxRecDepth 100000
theorem laidOutP : laidOutB Tryd.prog = true := by kernel_rfl
def cv (c : Cl) : Value := .agg #[.int .i64 c.1, .int .i64 c.2.1, .int .i64 c.2.2]
def ck (c : Cl) : Lit := .string (keyBytes [.int .i64 c.1, .int .i64 c.2.1, .int .i64 c.2.2])
def clOk (c : Cl) : Prop := (-1000000 ≤ c.1 ∧ c.1 ≤ 1000000) ∧ (-1000000 ≤ c.2.1 ∧ c.2.1 ≤ 1000000) ∧ (-1000000 ≤ c.2.2 ∧ c.2.2 ≤ 1000000)
end Go.Proofs.YtefhmbmbhiehdaaDoor
