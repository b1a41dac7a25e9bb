/- What a call may turn: all blocks that were there but those of S are as they were. Conditions: none. -/
import Derived.Test.YtefhmbmbhiehdaaMem
namespace Go.Proofs.Ytefhmbmbhiehdaa
open Go Go.RowKit
/-- all blocks of w but those of S are in w' as they were -/
structure Mod (S : Nat → Prop) (w w' : World) : Prop where
  os : w'.os = w.os
  tape : w'.tape = w.tape
  output : w'.output = w.output
  size : w.heap.size ≤ w'.heap.size
  block : ∀ b, b < w.heap.size → ¬ S b → w'.heap[b]? = w.heap[b]?
section
variable {S T : Nat → Prop} {w w' w'' : World}
theorem Mod.refl (S : Nat → Prop) (w : World) : Mod S w w := ⟨rfl, rfl, rfl, Nat.le_refl _, fun _ _ _ => rfl⟩
theorem Mod.trans (h : Mod S w w') (k : Mod S w' w'') : Mod S w w'' :=
  ⟨k.os.trans h.os, k.tape.trans h.tape, k.output.trans h.output, Nat.le_trans h.size k.size, fun b hb hs => (k.block b (Nat.lt_of_lt_of_le hb h.size) hs).trans (h.block b hb hs)⟩
theorem Mod.mono (h : Mod S w w') (hs : ∀ b, b < w.heap.size → S b → T b) : Mod T w w' := ⟨h.os, h.tape, h.output, h.size, fun b hb ht => h.block b hb fun h' => ht (hs b hb h')⟩
theorem Mod.of_below (h : Below w.heap.size w w') : Mod S w w' := ⟨h.os, h.tape, h.output, h.size, fun b hb _ => h.block b hb⟩
theorem Mod.below (h : Mod S w w') (k : Below w'.heap.size w' w'') : Mod S w w'' := h.trans (Mod.of_below k)
theorem Mod.alloc (h : Mod S w w') (o : Obj) : Mod S w (w'.alloc o) := h.below ((Below.refl _ _).alloc (Nat.le_refl _) o)
theorem Mod.drew (h : Mod S w w') : Mod S w w'.drew := h.below (Below.refl _ _).drew
theorem Mod.drewN (h : Mod S w w') (n : Nat) : Mod S w (w'.drewN n) := h.below (ext_drewN (Below.refl _ _) n)
theorem Mod.more (h : Mod S w w') (m : More) : Mod S w (more w' m) := h.below (more_below w' m)
theorem Mod.set (h : Mod S w w') {g i : Nat} {v : Value} (hg : S g ∨ w.heap.size ≤ g) : Mod S w (w'.setCell ⟨g, i, none⟩ v) := by
  refine ⟨h.os, h.tape, h.output, by simpa using h.size, fun b hb hs => ?_⟩
  refine (Below.heap_setCell w' ⟨g, i, none⟩ v b ?_).trans (h.block b hb hs)
  intro e
  have e1 : b = g := e
  rcases hg with hg | hg
  · exact hs (e1 ▸ hg)
  · omega
theorem Mod.toBelow (h : Mod S w w') {n : Nat} (hn : n ≤ w.heap.size) (hs : ∀ b, b < n → ¬ S b) : Below n w w' := ⟨h.os, h.tape, h.output, h.size, fun b hb => h.block b (by omega) (hs b hb)⟩
theorem Mod.cell (h : Mod S w w') {b o : Nat} (hb : b < w.heap.size) (hs : ¬ S b) : w'.cell? ⟨b, o, none⟩ = w.cell? ⟨b, o, none⟩ := World.cell?_of_block (h.block b hb hs)
theorem Mod.free (h : Mod S w w') {b o : Nat} (hb : b < w.heap.size) (hs : ¬ S b) : w'.frozen? ⟨b, o, none⟩ = w.frozen? ⟨b, o, none⟩ := World.frozen?_of_block (h.block b hb hs)
theorem Blk.mod {b : Nat} {cs : Array Value} (h : Blk w b cs) (k : Mod S w w') (hs : ¬ S b) : Blk w' b cs :=
  ⟨Nat.lt_of_lt_of_le h.lt k.size, fun o => (k.cell h.lt hs).trans (h.cell o), fun o => (k.free h.lt hs).trans (h.free o)⟩
end
end Go.Proofs.Ytefhmbmbhiehdaa
