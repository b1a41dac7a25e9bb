/- Sorting a row of numbers; two rows with the same numbers are the same (gyrelaw.sameInts). Conditions: none but that there are not too many. -/
import Derived.Test.YtefhmbmbhiehdaaDoorShelf
import Derived.Test.YtefhmbmbhiehdaaDoorKIdel
import Derived.Test.YtefhmbmbhiehdaaDoorKA
import Derived.Sort.OwnSortedInts
namespace Go.Proofs.YtefhmbmbhiehdaaDoor
open Go Go.RowKit Go.BigFrame Go.ChangeShapes Go.WideShapes
def srt (zs : List Int) : List Int := zs.mergeSort fun x y => decide (x ≤ y)
theorem srt_nil : srt [] = [] := by simp [srt]
theorem srt_len (zs : List Int) : (srt zs).length = zs.length := List.length_mergeSort _
theorem mod_grownR {w w' : World} {row : Option Nat} (h : w.grownBy w' row) : Mod (fun b => row = some b) w w' := ⟨h.os, h.tape, h.output, h.size, fun b hb hs => h.block b hb (fun e => hs e.symm)⟩
theorem sorted_row {w : World} {base : Nat} {v : Value} {zs : List Int} (h : w.ownsRow base 3 1 v zs.length (ints zs)) : (zs.length = 0 ∧ ∃ p c, v = .slice p 0 c) ∨ ∃ g cap cur, v = .slice (some ⟨g, 0, none⟩) zs.length cap ∧ base ≤ g ∧ w.heap[g]? = some (.cells cur 3 (0, 0)) ∧ zs.length ≤ cap ∧ cap ≤ maxLen ∧ cur.size = cap * 1 ∧ cur.toList.take zs.length = zs.map (Value.int .i64) := by
  rcases h.2 with ⟨e1, e2⟩ | ⟨g, cap, cur, e1, e2, e3, e4, e5, e6, e7⟩
  · exact .inl ⟨e2, _, _, e1⟩
  · refine .inr ⟨g, cap, cur, e1, e2, e3, e4, e5, e6, ?_⟩
    rw [Nat.mul_one] at e7
    exact e7
theorem sort_c (base : Nat) (v : Value) (zs : List Int) (w : World) (h : w.ownsRow base 3 1 v zs.length (ints zs)) (hl : zs.length < 1000000) :
    Calls Tryd.prog 25 #[v] w fun e w' => e = .returned (.tuple #[]) ∧ w'.ownsRow base 3 1 v (srt zs).length (ints (srt zs)) ∧ Mod (fun b => v.ownBlock = some b) w w' := by
  rcases Nat.eq_zero_or_pos zs.length with h0 | h0
  · have hz := List.length_eq_zero_iff.1 h0
    subst hz
    have hv : ∃ p c, v = .slice p 0 c := by
      rcases h.2 with ⟨e1, e2⟩ | ⟨g, cap, cur, e1, _⟩
      · exact ⟨_, _, e1⟩
      · exact ⟨_, _, e1⟩
    obtain ⟨p, c, rfl⟩ := hv
    exact (Tryd.slices_Sort_int_none p c w).mono fun e w' ⟨he, hw⟩ => ⟨he, by rw [srt_nil]; subst hw; exact h, by subst hw; exact Mod.refl _ _⟩
  · rcases sorted_row h with ⟨e, _⟩ | ⟨g, cap, cur, rfl, e2, e3, e4, e5, e6, e7⟩
    · omega
    · have hg : g < w.heap.size := by rw [Array.getElem?_eq_some_iff] at e3; exact e3.1
      refine (Tryd.slices_Sort_int g 0 cap zs w (holds_of_blockI e3 e7) hg (by omega)).mono ?_
      rintro e w' ⟨he, n, os, rfl⟩
      refine ⟨he, ?_, mod_grownR (grownBy_sortedI _)⟩
      have := ownsRow_sortedI (n := n) (os := os) (ss := zs) (ts := srt zs) (srt_len zs) e2 e3 e4 e5 e6
      rw [srt_len]
      exact this
theorem row_num {w : World} {base n g cap : Nat} {zs : List Int} (h : w.ownsRow base 3 1 (.slice (some ⟨g, 0, none⟩) n cap) n (ints zs)) {i : Nat} (hi : i < n) : ∃ x, zs[i]? = some x ∧ w.cell? ⟨g, i, none⟩ = some (.int .i64 x) := by
  have hl := row_len h
  refine ⟨zs[i], List.getElem?_eq_getElem (by omega), ?_⟩
  rcases h.2 with ⟨e1, _⟩ | ⟨g', cap', cur, e1, _, e3, _, _, _, e7⟩
  · cases e1
  · cases e1
    unfold World.cell?
    rw [e3]
    have h1 : (cur.toList.take (n * 1))[i]? = (ints zs)[i]? := by rw [e7]
    rw [List.getElem?_take_of_lt (by omega), ints_get (List.getElem?_eq_getElem (by omega : i < zs.length))] at h1
    simpa using h1
end Go.Proofs.YtefhmbmbhiehdaaDoor
