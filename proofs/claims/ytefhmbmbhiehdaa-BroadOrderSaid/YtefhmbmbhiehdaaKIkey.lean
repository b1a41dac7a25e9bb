/- Keys that are cells. Conditions: none. -/
import Derived.DeepKeys4
import Derived.ChangeKeys
import Derived.Test.YtefhmbmbhiehdaaKEach
import Derived.Test.YtefhmbmbhiehdaaKA
namespace Go.Proofs.Ytefhmbmbhiehdaa
open Go Go.Maps Go.RowKit Go.WideMaps
set_option maxRecDepth 100000
theorem laidOutP : laidOutB Try.prog = true := by kernel_rfl
theorem cellRow : (124 : TypeId) < Try.prog.types.size := of_decide_eq_true (by kernel_rfl)
theorem cellWide : (match Try.prog.underlying 124 with | some (.array _ _) | some (.struct _) => true | _ => false) = true := by rw [Try.underlying124]
theorem cellLaw : KeyLaw Try.prog 124 := deep_law_laid laidOutP (m := 2) (by omega) cellRow (by kernel_rfl) cellWide
theorem cell_keyed : Keyed Try.prog 124 := Keyed.of_law cellLaw
def cv (c : Cl) : Value := .agg #[.int .i64 c.1, .int .i64 c.2.1, .int .i64 c.2.2]
def ck (c : Cl) : Lit := .string (keyBytes [.int .i64 c.1, .int .i64 c.2.1, .int .i64 c.2.2])
def clOk (c : Cl) : Prop := (-1000000 ≤ c.1 ∧ c.1 ≤ 1000000) ∧ (-1000000 ≤ c.2.1 ∧ c.2.1 ≤ 1000000) ∧ (-1000000 ≤ c.2.2 ∧ c.2.2 ≤ 1000000)
theorem keyLits_cell {c : Cl} (h : clOk c) : Try.prog.keyLits (Try.prog.types.size + 1) 124 (cv c).cells.toList = some [.int .i64 c.1, .int .i64 c.2.1, .int .i64 c.2.2] := by
  obtain ⟨⟨a1, a2⟩, ⟨b1, b2⟩, d1, d2⟩ := h
  have w1 : (Lit.int .i64 c.1).wf = true := intKey_wf (by omega) (by omega)
  have w2 : (Lit.int .i64 c.2.1).wf = true := intKey_wf (by omega) (by omega)
  have w3 : (Lit.int .i64 c.2.2).wf = true := intKey_wf (by omega) (by omega)
  obtain ⟨d, hd⟩ : ∃ d, Try.prog.types.size = d + 1 := Nat.exists_eq_succ_of_ne_zero (Nat.ne_of_gt (Nat.lt_of_le_of_lt (Nat.zero_le _) cellRow))
  have hn : Try.prog.cellsOf 124 = 3 := by kernel_rfl
  have h1 : Try.prog.cellsOf 3 = 1 := by kernel_rfl
  rw [hd]
  simp [Program.keyLits, Try.underlying124, Try.underlying3, cv, Value.cells, hn, h1, w1, w2, w3]
theorem key_cell {c : Cl} (h : clOk c) : keyOf Try.prog 124 (cv c) = some (ck c) := by
  have hk := keyLits_cell h
  have h2 : Try.prog.keyType 124 = true := by kernel_rfl
  have hn : Try.prog.cellsOf 124 = 3 := by kernel_rfl
  have hf : (cv c).formed Try.prog 124 = true := by simp [Value.formed, cv, Try.underlying124, hn]
  unfold keyOf
  rw [Try.underlying124]
  simp only [h2, hf, Bool.and_self, if_true, hk, Option.map_some]
  rfl
theorem ck_inj {c c' : Cl} (h : clOk c) (h' : clOk c') (e : ck c = ck c') : c = c' := by
  unfold ck at e
  injection e with e
  have := keyLits_inj (keyLits_cell h) (keyLits_cell h') e
  simp at this
  obtain ⟨c1, c2, c3⟩ := c
  obtain ⟨d1, d2, d3⟩ := c'
  simpa using this
end Go.Proofs.Ytefhmbmbhiehdaa
