/- The walk of gyrelaw.WireTells. Conditions: what the variable errors.errorType holds. -/
import Derived.Test.YtnkinnfpebploaaTell
import Derived.Test.YtnkinnfpebploaaOpenP
namespace Go.Proofs.Ytnkinnfpebploaa
open Go.ChangeShapes Go.WideShapes Go.ChangeAt Go.RowKit Go.BigFrame
open B
theorem tellL_bin (st ba ix ma : Int) (l : List Nat) : Bin (tellL st ba ix ma l) := by
  unfold tellL
  exact ((((((varL_bin _).append (varL_bin _)).append (bitsOf_bin _ _)).append (bitsOf_bin _ _)).append (bitsOf_bin _ _)).append (openL_bin _))
end Go.Proofs.Ytnkinnfpebploaa
