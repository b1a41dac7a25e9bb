/- Errors by their numbers. Conditions: none. -/
import Derived.Test.YtefhmbmbhiehdaaKLift
import Derived.Lib.Hide
namespace Go.Proofs.Ytefhmbmbhiehdaa
open Go.RowKit
/-- an error of a number: none for 0 -/
def errV (n : Int) : Value := if n = 0 then .nilIface else .iface 38 (.int .i64 n)
theorem errV_0 : errV 0 = .nilIface := rfl
theorem errV_n {n : Int} (h : n ≠ 0) : errV n = .iface 38 (.int .i64 n) := if_neg h
end Go.Proofs.Ytefhmbmbhiehdaa
