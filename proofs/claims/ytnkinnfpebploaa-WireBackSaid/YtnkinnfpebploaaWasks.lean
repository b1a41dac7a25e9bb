/- The walk of gyrelaw.WireAsks. Conditions: what the variable errors.errorType holds. -/
import Derived.Test.YtnkinnfpebploaaRask
import Derived.Test.YtnkinnfpebploaaWtells
namespace Go.Proofs.Ytnkinnfpebploaa
open Go.ChangeShapes Go.WideShapes Go.ChangeAt Go.RowKit Go.BigFrame
open B
theorem list8 {α : Type} (l : List α) (h : l.length = 8) : ∃ x0 x1 x2 x3 x4 x5 x6 x7 : α, l = [x0, x1, x2, x3, x4, x5, x6, x7] := by
  match l, h with
  | [x0, x1, x2, x3, x4, x5, x6, x7], _ => exact ⟨x0, x1, x2, x3, x4, x5, x6, x7, rfl⟩
theorem ask_c (t n s k b x y z : Int) (w : World) (h0 : 0 ≤ k) (h2 : k ≤ 2) : Calls Try.prog 5 #[.agg #[.int .i64 t, .int .i64 n, .int .i64 s, .int .i64 k, .int .i64 b, .int .i64 x, .int .i64 y, .int .i64 z]] w (AskPost t n s k b x y z w) := by
  have : k = 0 ∨ k = 1 ∨ k = 2 := by omega
  rcases this with rfl | rfl | rfl
  · exact ask_0 t n s b x y z w
  · exact ask_1 t n s b x y z w
  · exact ask_2 t n s b x y z w
theorem askL_bin (t n s k b x y z : Int) : Bin (askL t n s k b x y z) := by
  have hv : ∀ xs : List Int, Bin (varsL xs) := by
    intro xs
    induction xs with
    | nil => exact Bin.nil
    | cons a xs ih => have e : varsL (a :: xs) = varL a.toNat ++ varsL xs := by unfold varsL; simp
                      rw [e]; exact (varL_bin _).append ih
  have hi : ∀ xs : List Int, Bin (intsL xs) := by
    intro xs
    induction xs with
    | nil => exact Bin.nil
    | cons a xs ih => have e : intsL (a :: xs) = intL a ++ intsL xs := by unfold intsL; simp
                      rw [e]; exact (intL_bin _).append ih
  unfold askL
  refine Bin.append (Bin.append (Bin.append (hv _) (bitsOf_bin _ _)) ?_) ?_
  · split
    · exact hv _
    · exact Bin.nil
  · split
    · exact hi _
    · exact Bin.nil
end Go.Proofs.Ytnkinnfpebploaa
