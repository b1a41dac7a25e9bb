/- broad.Tree in memory: its nodes are rows of eleven numbers. Conditions: none. -/
import Derived.Test.YtefhmbmbhiehdaaKA
import Derived.Test.YtefhmbmbhiehdaaKIdel
import Derived.Test.YtefhmbmbhiehdaaKIseeP
import Derived.Test.YtefhmbmbhiehdaaKHeldA
import Derived.Test.YtefhmbmbhiehdaaKLate
import Derived.Test.YtefhmbmbhiehdaaKApp
import Derived.Test.YtefhmbmbhiehdaaKBoxes2
namespace Go.Proofs.Ytefhmbmbhiehdaa
open Go Go.Maps Go.RowKit Go.BigFrame Go.ChangeShapes Go.WideShapes
theorem rowsL_set (M : Nat → Nat → Int) {c n k j : Nat} (hk : k < n) (hj : j < c) (v : Int) : (rowsL M c n).set (k * c + j) (.int .i64 v) = rowsL (put1 M k j v) c n := by
  apply List.ext_getElem?
  intro i
  have hlt : k * c + j < n * c := by
    have h1 : (k + 1) * c ≤ n * c := Nat.mul_le_mul_right c hk
    rw [Nat.add_mul, Nat.one_mul] at h1
    omega
  rw [List.getElem?_set]
  by_cases e : k * c + j = i
  · subst e
    rw [if_pos rfl, rowsL_length, if_pos hlt, rowsL_get _ hk hj, put1_same]
  · rw [if_neg e]
    rcases Nat.lt_or_ge i (n * c) with hi | hi
    · have hc : 0 < c := by omega
      have h1 : i / c < n := (Nat.div_lt_iff_lt_mul hc).2 hi
      have h2 : i % c < c := Nat.mod_lt _ hc
      have h3 : i = i / c * c + i % c := by have := Nat.div_add_mod i c; rw [Nat.mul_comm] at this; omega
      rw [h3, rowsL_get _ h1 h2, rowsL_get _ h1 h2]
      congr 2
      unfold put1
      rw [if_neg]
      rintro ⟨e1, e2⟩
      exact e (by rw [← e1, ← e2]; omega)
    · rw [List.getElem?_eq_none (by rw [rowsL_length]; omega), List.getElem?_eq_none (by rw [rowsL_length]; omega)]
/-- the table of nodes: block b holds nn rows of eleven numbers -/
def NT (w : World) (b cap nn : Nat) (M : Nat → Nat → Int) : Prop := w.ownsRow 0 146 11 (.slice (some ⟨b, 0, none⟩) nn cap) nn (rowsL M 11 nn)
section
variable {w w' : World} {b cap nn : Nat} {M : Nat → Nat → Int}
theorem NT.cell (h : NT w b cap nn M) {k j : Nat} (hk : k < nn) (hj : j < 11) : w.cell? ⟨b, k * 11 + j, none⟩ = some (.int .i64 (M k j)) := by
  rcases h.2 with ⟨e1, _⟩ | ⟨g', cap', cur, e1, _, e3, _, _, _, e7⟩
  · cases e1
  · cases e1
    unfold World.cell?
    rw [e3]
    have h1 : (cur.toList.take (nn * 11))[k * 11 + j]? = (rowsL M 11 nn)[k * 11 + j]? := by rw [e7]
    rw [List.getElem?_take_of_lt (by omega), rowsL_get _ hk hj] at h1
    simpa using h1
theorem NT.free (h : NT w b cap nn M) (o : Nat) : w.frozen? ⟨b, o, none⟩ = false := by
  rcases h.2 with ⟨e1, _⟩ | ⟨g', cap', cur, e1, _, e3, _⟩
  · cases e1
  · cases e1
    simp [World.frozen?, e3]
theorem NT.lt (h : NT w b cap nn M) : b < w.heap.size := (row_lt h rfl).1
theorem NT.mod {S : Nat → Prop} (h : NT w b cap nn M) (k : Mod S w w') (hs : ¬ S b) : NT w' b cap nn M := row_mod h k (fun x e => by cases e; exact hs)
theorem NT.below (h : NT w b cap nn M) (k : Below w.heap.size w w') : NT w' b cap nn M := row_below h k
theorem NT.set (h : NT w b cap nn M) {k j : Nat} (hk : k < nn) (hj : j < 11) (v : Int) : NT (w.setCell ⟨b, k * 11 + j, none⟩ (.int .i64 v)) b cap nn (put1 M k j v) := by
  have hlt : k * 11 + j < (rowsL M 11 nn).length := by rw [rowsL_length]; omega
  have := row_set (x := .int .i64 v) h hlt
  rw [rowsL_set M hk hj v] at this
  exact this
theorem NT.as {M' : Nat → Nat → Int} (h : NT w b cap nn M) (e : M = M') : NT w b cap nn M' := e ▸ h
end
/-- the tree's own cells -/
structure BT where
  nb : Nat
  cap : Nat
  nn : Nat
  fv : Value
  root : Int
  som : Bool
  lf : Nat
  bx : Nat
  fat : Int
def BT.cs (s : BT) : Array Value := #[.slice (some ⟨s.nb, 0, none⟩) s.nn s.cap, s.fv, .int .i64 s.root, .bool s.som, .map (some s.lf), .map (some s.bx), .int .i64 s.fat]
/-- hang: another one in a node's place, below a third one -/
def hangM (M : Nat → Nat → Int) (up was is : Int) : Nat → Nat → Int := if up < 0 then M else if M up.toNat 7 = was then put1 M up.toNat 7 is else put1 M up.toNat 8 is
def hangR (root up is : Int) : Int := if up < 0 then is else root
end Go.Proofs.Ytefhmbmbhiehdaa
