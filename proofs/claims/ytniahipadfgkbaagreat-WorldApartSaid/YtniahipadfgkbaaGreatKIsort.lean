/- Sorting a row of numbers; two rows with the same numbers are the same (gyrelaw.sameInts). Conditions: none but that there are not too many. -/
import Derived.Test.YtniahipadfgkbaaGreatShelf
import Derived.Test.YtniahipadfgkbaaGreatKX1
import Derived.Test.YtniahipadfgkbaaGreatKA
import Derived.Sort.OwnSortedInts
namespace Go.Proofs.YtniahipadfgkbaaGreat
open Go Go.RowKit Go.BigFrame Go.ChangeShapes Go.WideShapes
def srt (zs : List Int) : List Int := zs.mergeSort fun x y => decide (x ≤ y)
theorem srt_nil : srt [] = [] := by simp [srt]
theorem srt_len (zs : List Int) : (srt zs).length = zs.length := List.length_mergeSort _
theorem mod_grownR {w w' : World} {row : Option Nat} (h : w.grownBy w' row) : Mod (fun b => row = some b) w w' := ⟨h.os, h.tape, h.output, h.size, fun b hb hs => h.block b hb (fun e => hs e.symm)⟩
theorem sorted_row {w : World} {base : Nat} {v : Value} {zs : List Int} (h : w.ownsRow base 3 1 v zs.length (ints zs)) : (zs.length = 0 ∧ ∃ p c, v = .slice p 0 c) ∨ ∃ g cap cur, v = .slice (some ⟨g, 0, none⟩) zs.length cap ∧ base ≤ g ∧ w.heap[g]? = some (.cells cur 3 (0, 0)) ∧ zs.length ≤ cap ∧ cap ≤ maxLen ∧ cur.size = cap * 1 ∧ cur.toList.take zs.length = zs.map (Value.int .i64) := by
  rcases h.2 with ⟨e1, e2⟩ | ⟨g, cap, cur, e1, e2, e3, e4, e5, e6, e7⟩
  · exact .inl ⟨e2, _, _, e1⟩
  · refine .inr ⟨g, cap, cur, e1, e2, e3, e4, e5, e6, ?_⟩
    rw [Nat.mul_one] at e7
    exact e7
theorem sort_c (base : Nat) (v : Value) (zs : List Int) (w : World) (h : w.ownsRow base 3 1 v zs.length (ints zs)) (hl : zs.length < 1000000) :
    Calls Tryz.prog 78 #[v] w fun e w' => e = .returned (.tuple #[]) ∧ w'.ownsRow base 3 1 v (srt zs).length (ints (srt zs)) ∧ Mod (fun b => v.ownBlock = some b) w w' := by
  rcases Nat.eq_zero_or_pos zs.length with h0 | h0
  · have hz := List.length_eq_zero_iff.1 h0
    subst hz
    have hv : ∃ p c, v = .slice p 0 c := by
      rcases h.2 with ⟨e1, e2⟩ | ⟨g, cap, cur, e1, _⟩
      · exact ⟨_, _, e1⟩
      · exact ⟨_, _, e1⟩
    obtain ⟨p, c, rfl⟩ := hv
    exact (Tryz.slices_Sort_int_none p c w).mono fun e w' ⟨he, hw⟩ => ⟨he, by rw [srt_nil]; subst hw; exact h, by subst hw; exact Mod.refl _ _⟩
  · rcases sorted_row h with ⟨e, _⟩ | ⟨g, cap, cur, rfl, e2, e3, e4, e5, e6, e7⟩
    · omega
    · have hg : g < w.heap.size := by rw [Array.getElem?_eq_some_iff] at e3; exact e3.1
      refine (Tryz.slices_Sort_int g 0 cap zs w (holds_of_blockI e3 e7) hg (by omega)).mono ?_
      rintro e w' ⟨he, n, os, rfl⟩
      refine ⟨he, ?_, mod_grownR (grownBy_sortedI _)⟩
      have := ownsRow_sortedI (n := n) (os := os) (ss := zs) (ts := srt zs) (srt_len zs) e2 e3 e4 e5 e6
      rw [srt_len]
      exact this
end Go.Proofs.YtniahipadfgkbaaGreat
