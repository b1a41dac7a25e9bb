/- Errors by their numbers. Conditions: none. -/
import Derived.Test.YtniahipadfgkbaaGreatKLift
import Derived.Lib.Hide
namespace Go.Proofs.YtniahipadfgkbaaGreat
open Go.RowKit
/-- an error of a number: none for 0 -/
def errV (n : Int) : Value := if n = 0 then .nilIface else .iface 74 (.int .i64 n)
end Go.Proofs.YtniahipadfgkbaaGreat
