/- interest.Grid in memory. Conditions: none. -/
import Derived.Test.YtefhmbmbhiehdaaDoorKIkey
import Derived.Test.YtefhmbmbhiehdaaDoorKIdel
import Derived.Test.YtefhmbmbhiehdaaDoorKIcell
import Derived.WalkSpells
import Derived.Test.YtefhmbmbhiehdaaDoorKMapO
namespace Go.Proofs.YtefhmbmbhiehdaaDoor
open Go Go.Maps Go.RowKit Go.BigFrame Go.ChangeShapes Go.WideShapes
/-- a box: low, high -/
structure Bx where
  a1 : Int
  a2 : Int
  a3 : Int
  b1 : Int
  b2 : Int
  b3 : Int
/-- what a grid has of a body -/
structure En where
  bx : Bx
  tm : Int
def Bx.v (b : Bx) : Value := .agg #[.int .i64 b.a1, .int .i64 b.a2, .int .i64 b.a3, .int .i64 b.b1, .int .i64 b.b2, .int .i64 b.b3]
/-- its first cell, its last one, all -/
def Bx.lo (b : Bx) : Cl := (kc b.a1, kc b.a2, kc b.a3)
def Bx.hi (b : Bx) : Cl := (kc b.b1, kc b.b2, kc b.b3)
def Bx.cells (b : Bx) : List Cl := cellsOf b.lo.1 b.lo.2.1 b.lo.2.2 b.hi.1 b.hi.2.1 b.hi.2.2
theorem lo_ok (b : Bx) : clOk b.lo := by have := kc_bd b.a1; have := kc_bd b.a2; have := kc_bd b.a3; unfold clOk Bx.lo; simp only; omega
theorem hi_ok (b : Bx) : clOk b.hi := by have := kc_bd b.b1; have := kc_bd b.b2; have := kc_bd b.b3; unfold clOk Bx.hi; simp only; omega
theorem cells_ok {b : Bx} {c : Cl} (h : c ∈ b.cells) : clOk c := by
  unfold Bx.cells at h
  rw [cellsOf_mem] at h
  have h1 := lo_ok b
  have h2 := hi_ok b
  unfold clOk at *
  omega
/-- the map at b has what f says -/
def VI (w : World) (b m n : Nat) (f : Int → Option Value) : Prop := ∃ F, MapV Tryd.prog 3 w b m F n ∧ ∀ k : Int, F (.int .i64 k) = f k
section
variable {w w' : World} {b m n : Nat} {f : Int → Option Value}
theorem VI.mod {S : Nat → Prop} (h : VI w b m n f) (k : Mod S w w') (hb : ¬ S b) : VI w' b m n f := by
  obtain ⟨F, h1, h2⟩ := h
  exact ⟨F, h1.mod k hb, h2⟩
theorem VI.more (h : VI w b m n f) {m' : Nat} (hm : m ≤ m') : VI w b m' n f := by
  obtain ⟨F, h1, h2⟩ := h
  exact ⟨F, h1.mono hm, h2⟩
theorem VI.lt (h : VI w b m n f) : b < w.heap.size := by
  obtain ⟨F, h1, _⟩ := h
  exact h1.lt
end
/-- the rows of the cells: what stands at a cell is the list L's; each in a block of its own -/
structure Rows (w : World) (Fc : Lit → Option Value) (L : Cl → List Int) : Prop where
  row : ∀ c, clOk c → (Fc (ck c) = none ∧ L c = []) ∨ ∃ v, Fc (ck c) = some v ∧ w.ownsRow 0 3 1 v (L c).length (ints (L c))
  apart : ∀ c c' v v', clOk c → clOk c' → c ≠ c' → Fc (ck c) = some v → Fc (ck c') = some v' → ∀ g, v.ownBlock = some g → v'.ownBlock ≠ some g
/-- where a grid's parts lie -/
structure GP where
  mc : Nat
  ml : Nat
  mh : Nat
  mb : Nat
  mt : Nat
  nc : Nat
  n : Nat
  Fc : Lit → Option Value
  L : Cl → List Int
/-- the lists of the cells are D's: id is in a cell's list where the cell is one of its box -/
structure Lists (D : Int → Option En) (L : Cl → List Int) : Prop where
  mem : ∀ c, clOk c → ∀ id, id ∈ L c ↔ ∃ e, D id = some e ∧ c ∈ e.bx.cells
  nodup : ∀ c, clOk c → (L c).Nodup
  len : ∀ c, clOk c → (L c).length ≤ 1000
section
variable {w w' : World} {g m : Nat} {D : Int → Option En} {S X X' : Nat → Prop} {q : GP}
theorem Rows.mod {T : Nat → Prop} {Fc : Lit → Option Value} {L : Cl → List Int} (h : Rows w Fc L) (k : Mod T w w') (hs : ∀ c v x, clOk c → Fc (ck c) = some v → v.ownBlock = some x → ¬ T x) : Rows w' Fc L :=
  ⟨fun c hc => (h.row c hc).imp id fun ⟨v, h1, h2⟩ => ⟨v, h1, row_mod h2 k fun x hx => hs c v x hc h1 hx⟩, h.apart⟩
end
theorem ialloc (w : World) (o : Obj) : Below w.heap.size w (w.alloc o) := by apply ext_alloc; exact Below.refl _ _
theorem map_at {K : TypeId} (w : World) {b : Nat} (hb : b = w.heap.size) : MapV Tryd.prog K (w.alloc (.map #[] 0)) b 0 (fun _ => none) 0 := hb ▸ mapV_made w _ _
theorem vi_made (w : World) : VI (w.alloc (.map #[] 0)) w.heap.size 0 0 fun _ => none := ⟨_, mapV_made w _ _, fun _ => rfl⟩
end Go.Proofs.YtefhmbmbhiehdaaDoor
