/- Laws on blocks that are known whole. Conditions: none. -/
import Derived.Test.YtefhmbmbhiehdaaQuiet
namespace Go.Proofs.Ytefhmbmbhiehdaa
open Go Go.RowKit
theorem Blk.far {w : World} {b g i : Nat} {cs : Array Value} {v : Value} (hne : g ≠ b) (h : Blk w b cs) : Blk (w.setCell ⟨g, i, none⟩ v) b cs := h.setCell _ _ hne
theorem cell_out {w : World} {a : Addr} {v : Value} (h : w.cell? a = none) : (w.setCell a v).cell? a = none := by
  obtain ⟨b, i, s⟩ := a
  unfold World.cell? World.setCell at *
  simp only [Array.getElem?_modify, if_true] at *
  cases hh : w.heap[b]? with
  | none => simp
  | some o =>
    rw [hh] at h
    cases o <;> cases s <;> simp_all
/-- a store into the block -/
theorem Blk.put {w : World} {b i : Nat} {cs : Array Value} {v : Value} (h : Blk w b cs) : Blk (w.setCell ⟨b, i, none⟩ v) b (cs.setIfInBounds i v) := by
  by_cases hi : i < cs.size
  · exact h.set i v hi
  · have e : cs.setIfInBounds i v = cs := by simp [Array.setIfInBounds, hi]
    rw [e]
    refine ⟨by simpa using h.lt, fun o => ?_, fun o => (World.frozen?_setCell _ _ _ _).trans (h.free o)⟩
    by_cases e : o = i
    · subst e
      have h0 : w.cell? ⟨b, o, none⟩ = none := by rw [h.cell]; simp; omega
      rw [cell_out h0, ← h0, h.cell]
    · rw [World.cell?_setCell_other _ _ _ _ (by intro h'; exact e (congrArg Addr.off h').symm), h.cell]
end Go.Proofs.Ytefhmbmbhiehdaa
