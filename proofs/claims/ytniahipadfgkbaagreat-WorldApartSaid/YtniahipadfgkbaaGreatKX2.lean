/- interest.Grid in memory. Conditions: none. -/
import Derived.Test.YtniahipadfgkbaaGreatKA
import Derived.WideKeyEntry
import Derived.Test.YtniahipadfgkbaaGreatKY1
import Derived.DeepKeys4
import Derived.ChangeKeys
import Derived.Test.YtniahipadfgkbaaGreatKX1
import Derived.WalkSpells
namespace Go.Proofs.YtniahipadfgkbaaGreat
open Go Go.Maps Go.WideShapes Go.RowKit Go.MapKept Go.ChangeMaps Go.WideElems
section
variable {P : Program} {K E T : TypeId} {w w' : World} {b m n : Nat} {F : Lit → Option Value}
/-- block b lies as an open entry left it: what is stored to it is what the map has at kl -/
def Opened (P : Program) (K T : TypeId) (w : World) (b m n st : Nat) (F : Lit → Option Value) (kl : Lit) : Prop :=
  b < w.heap.size ∧ ∀ (w1 : World), w1.heap[b]? = w.heap[b]? → ∀ val : Value, ∃ w2, (Instr.entryStore T (.map (some b)) (goInt st) val).run P w1 = .ok () w2 ∧ MapV P K w2 b (m + 1) (putF F kl val) (if (F kl).isSome then n else n + 1) ∧ Mod (· = b) w1 w2
theorem Opened.mod {S : Nat → Prop} {st : Nat} {kl : Lit} (h : Opened P K T w b m n st F kl) (k : Mod S w w') (hb : ¬ S b) : Opened P K T w' b m n st F kl :=
  ⟨Nat.lt_of_lt_of_le h.1 k.size, fun w1 e val => h.2 w1 (e.trans (k.block b h.1 hb)) val⟩
end
end Go.Proofs.YtniahipadfgkbaaGreat
namespace Go.Proofs.YtniahipadfgkbaaGreat
open Go Go.Maps Go.WideShapes Go.RowKit
section
variable {P : Program} {K E T : TypeId} {b m n : Nat} {F : Lit → Option Value} {C : World → Prop} {o : Oper} {a : Act} {k : Act → Prop}
theorem qlook1 (mm x : Operand) (hop : o.op = Op.lookup T mm x false) (LK : Keyed P K) (ht : P.underlying T = some (.map K E)) {z : Value} (hz : ∀ u : World, (zeroValue E).run P u = .ok z u)
    (hm : a.eval mm = .map (some b)) (hown : ∀ w, C w → MapV P K w b m F n) (key : Value) (kl : Lit) (hx : a.eval x = key) (hkey : keyOf P K key = some kl) (hkl : WideAt.IsKeyLit kl) (h : k (a.put o.dst ((F kl).getD z))) : o.quiet P a C k :=
  ⟨_, fun w hw => by
    obtain ⟨D, hown, hT, hf⟩ := hown w hw
    obtain ⟨v, ps, hrun, hv⟩ := hown.lookup LK ht (hz w) (zd := .held z) (zp := []) rfl hkey
    rw [hf.at_ kl z hkl] at hv
    have e : v = (F kl).getD z := by
      unfold holdV at hv
      simp at hv
      exact hv.1
    subst e
    unfold Oper.quietAt
    simp [execOp, hop, hm, hx, hrun, Result.andThen]
    exact ⟨rfl, rfl⟩, h⟩
end
end Go.Proofs.YtniahipadfgkbaaGreat
namespace Go.Proofs.YtniahipadfgkbaaGreat
open Go Go.Maps Go.RowKit Go.WideMaps
set_option maxRecDepth 100000
def cv (c : Cl) : Value := .agg #[.int .i64 c.1, .int .i64 c.2.1, .int .i64 c.2.2]
def ck (c : Cl) : Lit := .string (keyBytes [.int .i64 c.1, .int .i64 c.2.1, .int .i64 c.2.2])
def clOk (c : Cl) : Prop := (-1000000 ≤ c.1 ∧ c.1 ≤ 1000000) ∧ (-1000000 ≤ c.2.1 ∧ c.2.1 ≤ 1000000) ∧ (-1000000 ≤ c.2.2 ∧ c.2.2 ≤ 1000000)
end Go.Proofs.YtniahipadfgkbaaGreat
namespace Go.Proofs.YtniahipadfgkbaaGreat
open Go Go.Maps Go.RowKit Go.BigFrame Go.ChangeShapes Go.WideShapes
/-- a box: low, high -/
structure Bx where
  a1 : Int
  a2 : Int
  a3 : Int
  b1 : Int
  b2 : Int
  b3 : Int
/-- what a grid has of a body -/
structure En where
  bx : Bx
  tm : Int
def Bx.v (b : Bx) : Value := .agg #[.int .i64 b.a1, .int .i64 b.a2, .int .i64 b.a3, .int .i64 b.b1, .int .i64 b.b2, .int .i64 b.b3]
/-- its first cell, its last one, all -/
def Bx.lo (b : Bx) : Cl := (kc b.a1, kc b.a2, kc b.a3)
def Bx.hi (b : Bx) : Cl := (kc b.b1, kc b.b2, kc b.b3)
def Bx.cells (b : Bx) : List Cl := cellsOf b.lo.1 b.lo.2.1 b.lo.2.2 b.hi.1 b.hi.2.1 b.hi.2.2
/-- the map at b has what f says -/
def VI (w : World) (b m n : Nat) (f : Int → Option Value) : Prop := ∃ F, MapV Tryz.prog 3 w b m F n ∧ ∀ k : Int, F (.int .i64 k) = f k
section
variable {w w' : World} {b m n : Nat} {f : Int → Option Value}
theorem VI.mod {S : Nat → Prop} (h : VI w b m n f) (k : Mod S w w') (hb : ¬ S b) : VI w' b m n f := by
  obtain ⟨F, h1, h2⟩ := h
  exact ⟨F, h1.mod k hb, h2⟩
theorem VI.more (h : VI w b m n f) {m' : Nat} (hm : m ≤ m') : VI w b m' n f := by
  obtain ⟨F, h1, h2⟩ := h
  exact ⟨F, h1.mono hm, h2⟩
theorem VI.lt (h : VI w b m n f) : b < w.heap.size := by
  obtain ⟨F, h1, _⟩ := h
  exact h1.lt
end
/-- the rows of the cells: what stands at a cell is the list L's; each in a block of its own -/
structure Rows (w : World) (Fc : Lit → Option Value) (L : Cl → List Int) : Prop where
  row : ∀ c, clOk c → (Fc (ck c) = none ∧ L c = []) ∨ ∃ v, Fc (ck c) = some v ∧ w.ownsRow 0 3 1 v (L c).length (ints (L c))
  apart : ∀ c c' v v', clOk c → clOk c' → c ≠ c' → Fc (ck c) = some v → Fc (ck c') = some v' → ∀ g, v.ownBlock = some g → v'.ownBlock ≠ some g
/-- where a grid's parts lie -/
structure GP where
  mc : Nat
  ml : Nat
  mh : Nat
  mb : Nat
  mt : Nat
  nc : Nat
  n : Nat
  Fc : Lit → Option Value
  L : Cl → List Int
section
variable {w w' : World} {g m : Nat} {D : Int → Option En} {S X X' : Nat → Prop} {q : GP}
theorem Rows.mod {T : Nat → Prop} {Fc : Lit → Option Value} {L : Cl → List Int} (h : Rows w Fc L) (k : Mod T w w') (hs : ∀ c v x, clOk c → Fc (ck c) = some v → v.ownBlock = some x → ¬ T x) : Rows w' Fc L :=
  ⟨fun c hc => (h.row c hc).imp id fun ⟨v, h1, h2⟩ => ⟨v, h1, row_mod h2 k fun x hx => hs c v x hc h1 hx⟩, h.apart⟩
end
theorem vi_made (w : World) : VI (w.alloc (.map #[] 0)) w.heap.size 0 0 fun _ => none := ⟨_, mapV_made w _ _, fun _ => rfl⟩
end Go.Proofs.YtniahipadfgkbaaGreat
