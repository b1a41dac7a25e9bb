/- Rows of a call's own: kept, read, written. Conditions: none. -/
import Derived.Test.YtefhmbmbhiehdaaMod
import Derived.Laws.AppendOwn
import Derived.OwnWalk
namespace Go.Proofs.Ytefhmbmbhiehdaa
open Go Go.RowKit
section
variable {w w' : World} {base size n : Nat} {e : TypeId} {v : Value} {xs : List Value}
theorem row_mod {S : Nat → Prop} (h : w.ownsRow base e size v n xs) (k : Mod S w w') (hs : ∀ b, v.ownBlock = some b → ¬ S b) : w'.ownsRow base e size v n xs := by
  obtain ⟨hl, h0 | ⟨g, cap, cur, hv, hb, hh, h1, h2, h3, h4⟩⟩ := h
  · exact ⟨hl, .inl h0⟩
  · refine ⟨hl, .inr ⟨g, cap, cur, hv, hb, ?_, h1, h2, h3, h4⟩⟩
    have hlt : g < w.heap.size := by
      rcases Nat.lt_or_ge g w.heap.size with hl | hl
      · exact hl
      · rw [Array.getElem?_eq_none hl] at hh; cases hh
    rw [k.block g hlt (hs g (by rw [hv]; rfl))]
    exact hh
theorem row_below (h : w.ownsRow base e size v n xs) (k : Below w.heap.size w w') : w'.ownsRow base e size v n xs := row_mod h (S := fun _ => False) (Mod.of_below k) fun _ _ => id
theorem row_far {g i : Nat} {x : Value} (h : w.ownsRow base e size v n xs) (hne : v.ownBlock ≠ some g) : (w.setCell ⟨g, i, none⟩ x).ownsRow base e size v n xs :=
  row_mod h (S := (· = g)) (Mod.set (Mod.refl _ _) (.inl rfl)) (fun _ hb e => hne (e ▸ hb))
theorem row_lt (h : w.ownsRow base e size v n xs) {b : Nat} (hb : v.ownBlock = some b) : b < w.heap.size ∧ base ≤ b := by
  obtain ⟨hl, ⟨h0, _⟩ | ⟨g, cap, cur, hv, hg, hh, _⟩⟩ := h
  · rw [h0] at hb; cases hb
  · rw [hv] at hb
    obtain rfl : g = b := Option.some.inj hb
    refine ⟨?_, hg⟩
    rcases Nat.lt_or_ge g w.heap.size with hl | hl
    · exact hl
    · rw [Array.getElem?_eq_none hl] at hh; cases hh
/-- a row that is not empty lies in a block -/
theorem row_at (h : w.ownsRow base e size v n xs) (hn : 0 < n) : ∃ g cap, v = .slice (some ⟨g, 0, none⟩) n cap ∧ base ≤ g ∧ g < w.heap.size ∧ n ≤ cap ∧ cap ≤ maxLen ∧ (∀ o, w.frozen? ⟨g, o, none⟩ = false) ∧
    (∀ o x, xs[o]? = some x → w.cell? ⟨g, o, none⟩ = some x) ∧ ∃ cs, w.heap[g]? = some (.cells cs e (0, 0)) := by
  obtain ⟨hl, ⟨_, h0⟩ | ⟨g, cap, cur, hv, hb, hh, h1, h2, h3, h4⟩⟩ := h
  · omega
  · refine ⟨g, cap, hv, hb, ?_, h1, h2, ?_, ?_, cur, hh⟩
    · rcases Nat.lt_or_ge g w.heap.size with hl | hl
      · exact hl
      · rw [Array.getElem?_eq_none hl] at hh; cases hh
    · intro o; simp [World.frozen?, hh]
    · intro o x hx
      rw [← h4, List.getElem?_take] at hx
      split at hx
      · unfold World.cell?; rw [hh]; simpa using hx
      · cases hx
/-- a cell of the row is written -/
theorem row_set {g cap i : Nat} {x : Value} (h : w.ownsRow base e size (.slice (some ⟨g, 0, none⟩) n cap) n xs) (_hi : i < xs.length) : (w.setCell ⟨g, i, none⟩ x).ownsRow base e size (.slice (some ⟨g, 0, none⟩) n cap) n (xs.set i x) := by
  obtain ⟨hl, ⟨hv, _⟩ | ⟨g', cap', cur, hv, hb, hh, h1, h2, h3, h4⟩⟩ := h
  · cases hv
  · injection hv with e1 e2 e3
    injection e1 with e1
    injection e1 with e1
    subst e1 e3
    refine ⟨by simpa using hl, .inr ⟨g, cap, cur.setIfInBounds i x, rfl, hb, ?_, h1, h2, by simpa using h3, ?_⟩⟩
    · simp [World.setCell, Array.getElem?_modify, hh]
    · rw [Array.toList_setIfInBounds, List.take_set, h4]
/-- what grows the row alone is a change of its block alone -/
theorem mod_grown {row : Option Nat} (h : w.grownBy w' row) : Mod (fun b => row = some b) w w' :=
  ⟨h.os, h.tape, h.output, h.size, fun b hb hs => h.block b hb fun e => hs e.symm⟩
end
theorem Mod.trans2 {S T : Nat → Prop} {w w' w'' : World} (h : Mod S w w') (k : Mod T w' w'') (hT : ∀ b, b < w.heap.size → T b → S b) : Mod S w w'' :=
  ⟨k.os.trans h.os, k.tape.trans h.tape, k.output.trans h.output, Nat.le_trans h.size k.size, fun b hb hs => (k.block b (Nat.lt_of_lt_of_le hb h.size) fun ht => hs (hT b hb ht)).trans (h.block b hb hs)⟩
/-- a slice value that was v is v' now: what was turned is the blocks of S, and v's; v' has v's block, or one that is new -/
structure Turn (S : Nat → Prop) (w : World) (v : Value) (w' : World) (v' : Value) : Prop where
  mod : Mod (fun b => S b ∨ v.ownBlock = some b) w w'
  own : v'.ownBlock = v.ownBlock ∨ ∀ b, v'.ownBlock = some b → w.heap.size ≤ b
section
variable {S : Nat → Prop} {w w' w'' : World} {v v' v'' : Value}
theorem Turn.refl (S : Nat → Prop) (w : World) (v : Value) : Turn S w v w v := ⟨Mod.refl _ _, .inl rfl⟩
theorem Turn.trans (h : Turn S w v w' v') (k : Turn S w' v' w'' v'') : Turn S w v w'' v'' := by
  refine ⟨?_, ?_⟩
  · refine h.mod.trans2 k.mod fun b hb hs => ?_
    rcases hs with hs | hs
    · exact .inl hs
    · rcases h.own with e | e
      · exact .inr (e ▸ hs)
      · have := e b hs; omega
  · rcases k.own with e | e
    · rcases h.own with e2 | e2
      · exact .inl (e.trans e2)
      · exact .inr fun b hb => e2 b (e ▸ hb)
    · exact .inr fun b hb => Nat.le_trans h.mod.size (e b hb)
end
end Go.Proofs.Ytefhmbmbhiehdaa
