/- Structs compared, as one Bool. Conditions: none. -/
import Derived.Test.YtnkinnfpebploaaDoorSnap6
namespace Go.Proofs.YtnkinnfpebploaaDoor
open Go.ChangeShapes Go.WideShapes Go.ChangeAt Go.RowKit Go.BigFrame
open B
def eq3 (x1 x2 x3 y1 y2 y3 : Int) : Bool := x1 == y1 && x2 == y2 && x3 == y3
theorem run_equalIn_vec (d : Nat) (x1 x2 x3 y1 y2 y3 : Int) (w : World) : (Op.equalIn (d + 2) 92 (.agg #[.int .i64 x1, .int .i64 x2, .int .i64 x3]) (.agg #[.int .i64 y1, .int .i64 y2, .int .i64 y3])).run Tryd.prog w = .ok (eq3 x1 x2 x3 y1 y2 y3) w := by
  rw [run_equalIn_struct w (d + 1) _ _ _ (by kernel_rfl) (by kernel_rfl)]
  simp only [Program.fieldsOf, Tryd.underlying92]
  simp only [Op.eqFields]
  unfold eq3
  cases h1 : (x1 == y1) <;> cases h2 : (x2 == y2) <;> cases h3 : (x3 == y3) <;> simp [go_sem, Tryd.underlying3, h1, h2, h3]
theorem run_neq_vec (x1 x2 x3 y1 y2 y3 : Int) (w : World) : (binOp .neq 92 (.agg #[.int .i64 x1, .int .i64 x2, .int .i64 x3]) (.agg #[.int .i64 y1, .int .i64 y2, .int .i64 y3])).run Tryd.prog w = .ok (.bool (!(eq3 x1 x2 x3 y1 y2 y3))) w := by
  rw [run_neq_struct, run_equalIn_vec 9998]
  rfl
end Go.Proofs.YtnkinnfpebploaaDoor
