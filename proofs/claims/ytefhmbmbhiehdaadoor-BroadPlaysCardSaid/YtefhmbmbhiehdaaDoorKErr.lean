/- Errors by their numbers. Conditions: none. -/
import Derived.Test.YtefhmbmbhiehdaaDoorKLift
import Derived.Lib.Hide
namespace Go.Proofs.YtefhmbmbhiehdaaDoor
open Go.RowKit
/-- an error of a number: none for 0 -/
def errV (n : Int) : Value := if n = 0 then .nilIface else .iface 29 (.int .i64 n)
theorem errV_0 : errV 0 = .nilIface := rfl
theorem errV_n {n : Int} (h : n ≠ 0) : errV n = .iface 29 (.int .i64 n) := if_neg h
end Go.Proofs.YtefhmbmbhiehdaaDoor
