/- The contract of slices.DeleteFunc at a row of ints of the call's own, its function: is it that number. Conditions: none. -/
import Derived.RangeFuncNested
import Derived.RangeFuncWrites
import Derived.RangeFuncCalls
import Derived.RangeFuncBound
import Derived.TacticsIn
import Derived.OrdersIn
import Derived.Test.YtniahipadfgkbaaGreatKY1
import Derived.RangeFuncLeaves
import Derived.WalkKit
import Derived.OwnWalkIn
import Derived.TacticsInMore
import Derived.LoopNIn
import Derived.LoopIn
import Derived.Below
import Derived.Lib.Hide
import Derived.Test.YtniahipadfgkbaaGreatProg
import Derived.Test.YtniahipadfgkbaaGreatKA
import Derived.Test.YtniahipadfgkbaaGreatKY2
import Derived.Lib.SliceRun
import Derived.OwnWalk
import Derived.WalkSpells
namespace Go.Proofs.YtniahipadfgkbaaGreat
open Go Go.RowKit
section
variable {P : Program} {a : Act} {w : World} {K : Act → World → Prop} {Q : Exit → Act → World → Prop} {l n : Nat}
end
end Go.Proofs.YtniahipadfgkbaaGreat
namespace Go.Proofs.YtniahipadfgkbaaGreat
open Go Go.RowKit Go.ChangeShapes Go.WideShapes Go.BigFrame Go.Maps
/-- cells: x, y, z -/
abbrev Cl := Int × Int × Int
def zL (a3 : Int) (x y : Int) (k : Nat) : List Cl := (List.range k).map fun i : Nat => (x, y, a3 + (i : Int))
def yL (a2 a3 : Int) (nz : Nat) (x : Int) (k : Nat) : List Cl := (List.range k).flatMap fun j : Nat => zL a3 x (a2 + (j : Int)) nz
def xL (a1 a2 a3 : Int) (ny nz : Nat) (k : Nat) : List Cl := (List.range k).flatMap fun i : Nat => yL a2 a3 nz (a1 + (i : Int)) ny
/-- all cells of a box -/
def cellsOf (a1 a2 a3 b1 b2 b3 : Int) : List Cl := xL a1 a2 a3 (b2 - a2 + 1).toNat (b3 - a3 + 1).toNat (b1 - a1 + 1).toNat
/-- what the rounds keep of the iterator's own -/
def KpAB (A B : Nat) (W W' : World) : Prop := W.heap.size ≤ W'.heap.size ∧ ∀ k, k = A ∨ k = B → W'.heap[k]? = W.heap[k]?
theorem KpAB.refl (A B : Nat) (W : World) : KpAB A B W W := ⟨Nat.le_refl _, fun _ _ => rfl⟩
theorem KpAB.trans {A B : Nat} {W W' W'' : World} (h : KpAB A B W W') (k : KpAB A B W' W'') : KpAB A B W W'' := ⟨Nat.le_trans h.1 k.1, fun j hj => (k.2 j hj).trans (h.2 j hj)⟩
theorem KpAB.cell {A B : Nat} {W W' : World} (h : KpAB A B W W') {b o : Nat} (hb : b = A ∨ b = B) : W'.cell? ⟨b, o, none⟩ = W.cell? ⟨b, o, none⟩ := World.cell?_of_block (h.2 b hb)
end Go.Proofs.YtniahipadfgkbaaGreat
namespace Go.Proofs.YtniahipadfgkbaaGreat
open Go.RowKit Go.BigFrame
/-- within the world, and a body's size more -/
def kl (n : Int) : Int := max (-68812800) (min 68812800 n)
/-- where a number is -/
def kc (n : Int) : Int := kl n / 1048576
end Go.Proofs.YtniahipadfgkbaaGreat
namespace Go.Proofs.YtniahipadfgkbaaGreat
open Go.RowKit Go.BigFrame
def ints (zs : List Int) : List Value := zs.map (Value.int .i64)
theorem ints_len (zs : List Int) : (ints zs).length = zs.length := by simp [ints]
theorem ints_get {zs : List Int} {k : Nat} {x : Int} (h : zs[k]? = some x) : (ints zs)[k]? = some (.int .i64 x) := by simp [ints, h]
theorem row_len {w : World} {base n : Nat} {v : Value} {zs : List Int} (h : w.ownsRow base 3 1 v n (ints zs)) : zs.length = n := by
  have := h.1
  rw [ints_len] at this
  omega
/-- the row's beginning -/
theorem row_take {w : World} {base n g cap k : Nat} {zs : List Int} (h : w.ownsRow base 3 1 (.slice (some ⟨g, 0, none⟩) n cap) n (ints zs)) (hk : k ≤ n) : w.ownsRow base 3 1 (.slice (some ⟨g, 0, none⟩) k cap) k (ints (zs.take k)) := by
  have hl := row_len h
  obtain ⟨_, ⟨hv, _⟩ | ⟨g', cap', cur, hv, hb, hh, h1, h2, h3, h4⟩⟩ := h
  · cases hv
  · injection hv with e1 e2 e3
    injection e1 with e1
    injection e1 with e1
    subst e1 e3
    refine ⟨by rw [ints_len]; simp; omega, .inr ⟨g, cap, cur, rfl, hb, hh, by omega, h2, h3, ?_⟩⟩
    have : ints (zs.take k) = (ints zs).take k := by simp [ints, List.map_take]
    rw [this, ← h4, List.take_take]
    congr 1
    omega
/-- without that number -/
def del (zs : List Int) (id : Int) : List Int := zs.filter fun x => !(x == id)
theorem take_succ_get {zs : List Int} {j : Nat} {x : Int} (h : zs[j]? = some x) : zs.take (j + 1) = zs.take j ++ [x] := by
  rw [List.take_add_one, h]
  rfl
end Go.Proofs.YtniahipadfgkbaaGreat
