/- interest.each: the iterator through the cells of a box. Conditions: numbers that are not too great. -/
import Derived.RangeFuncNested
import Derived.RangeFuncBound
import Derived.RangeFuncCalls
import Derived.RangeFuncLeaves
import Derived.WalkKit
import Derived.OwnWalkIn
import Derived.TacticsInMore
import Derived.LoopNIn
import Derived.LoopIn
import Derived.Below
import Derived.Lib.Hide
import Derived.Test.YtefhmbmbhiehdaaDoorProg
import Derived.Test.YtefhmbmbhiehdaaDoorKRoundB
namespace Go.Proofs.YtefhmbmbhiehdaaDoor
open Go Go.RowKit Go.ChangeShapes Go.WideShapes Go.BigFrame Go.Maps
/-- cells: x, y, z -/
abbrev Cl := Int × Int × Int
def zL (a3 : Int) (x y : Int) (k : Nat) : List Cl := (List.range k).map fun i : Nat => (x, y, a3 + (i : Int))
def yL (a2 a3 : Int) (nz : Nat) (x : Int) (k : Nat) : List Cl := (List.range k).flatMap fun j : Nat => zL a3 x (a2 + (j : Int)) nz
def xL (a1 a2 a3 : Int) (ny nz : Nat) (k : Nat) : List Cl := (List.range k).flatMap fun i : Nat => yL a2 a3 nz (a1 + (i : Int)) ny
theorem zL_zero (a3 x y : Int) : zL a3 x y 0 = [] := rfl
theorem yL_zero (a2 a3 : Int) (nz : Nat) (x : Int) : yL a2 a3 nz x 0 = [] := rfl
theorem xL_zero (a1 a2 a3 : Int) (ny nz : Nat) : xL a1 a2 a3 ny nz 0 = [] := rfl
theorem zL_succ (a3 x y : Int) (k : Nat) : zL a3 x y (k + 1) = zL a3 x y k ++ [(x, y, a3 + (k : Int))] := by simp [zL, List.range_succ]
theorem yL_succ (a2 a3 : Int) (nz : Nat) (x : Int) (k : Nat) : yL a2 a3 nz x (k + 1) = yL a2 a3 nz x k ++ zL a3 x (a2 + (k : Int)) nz := by simp [yL, List.range_succ]
theorem xL_succ (a1 a2 a3 : Int) (ny nz k : Nat) : xL a1 a2 a3 ny nz (k + 1) = xL a1 a2 a3 ny nz k ++ yL a2 a3 nz (a1 + (k : Int)) ny := by simp [xL, List.range_succ]
/-- all cells of a box -/
def cellsOf (a1 a2 a3 b1 b2 b3 : Int) : List Cl := xL a1 a2 a3 (b2 - a2 + 1).toNat (b3 - a3 + 1).toNat (b1 - a1 + 1).toNat
theorem zL_mem {a3 x y : Int} {k : Nat} {c : Cl} : c ∈ zL a3 x y k ↔ c.1 = x ∧ c.2.1 = y ∧ a3 ≤ c.2.2 ∧ c.2.2 < a3 + k := by
  obtain ⟨c1, c2, c3⟩ := c
  unfold zL
  simp only [List.mem_map, List.mem_range, Prod.mk.injEq]
  constructor
  · rintro ⟨i, hi, rfl, rfl, rfl⟩
    exact ⟨rfl, rfl, by omega, by omega⟩
  · rintro ⟨rfl, rfl, h1, h2⟩
    exact ⟨(c3 - a3).toNat, by omega, rfl, rfl, by omega⟩
theorem yL_mem {a2 a3 x : Int} {nz k : Nat} {c : Cl} : c ∈ yL a2 a3 nz x k ↔ c.1 = x ∧ (a2 ≤ c.2.1 ∧ c.2.1 < a2 + k) ∧ a3 ≤ c.2.2 ∧ c.2.2 < a3 + nz := by
  unfold yL
  simp only [List.mem_flatMap, List.mem_range, zL_mem]
  constructor
  · rintro ⟨j, hj, h1, h2, h3⟩
    exact ⟨h1, by omega, h3⟩
  · rintro ⟨h1, h2, h3⟩
    exact ⟨(c.2.1 - a2).toNat, by omega, h1, by omega, h3⟩
theorem xL_mem {a1 a2 a3 : Int} {ny nz k : Nat} {c : Cl} : c ∈ xL a1 a2 a3 ny nz k ↔ (a1 ≤ c.1 ∧ c.1 < a1 + k) ∧ (a2 ≤ c.2.1 ∧ c.2.1 < a2 + ny) ∧ a3 ≤ c.2.2 ∧ c.2.2 < a3 + nz := by
  unfold xL
  simp only [List.mem_flatMap, List.mem_range, yL_mem]
  constructor
  · rintro ⟨i, hi, h1, h2, h3⟩
    exact ⟨by omega, h2, h3⟩
  · rintro ⟨h1, h2, h3⟩
    exact ⟨(c.1 - a1).toNat, by omega, by omega, h2, h3⟩
theorem cellsOf_mem {a1 a2 a3 b1 b2 b3 : Int} {c : Cl} : c ∈ cellsOf a1 a2 a3 b1 b2 b3 ↔ (a1 ≤ c.1 ∧ c.1 ≤ b1) ∧ (a2 ≤ c.2.1 ∧ c.2.1 ≤ b2) ∧ a3 ≤ c.2.2 ∧ c.2.2 ≤ b3 := by
  unfold cellsOf
  rw [xL_mem]
  omega
theorem zL_len (a3 x y : Int) (k : Nat) : (zL a3 x y k).length = k := by simp [zL]
theorem yL_len (a2 a3 : Int) (nz : Nat) (x : Int) : ∀ k, (yL a2 a3 nz x k).length = k * nz
  | 0 => by simp [yL_zero]
  | k + 1 => by rw [yL_succ, List.length_append, yL_len a2 a3 nz x k, zL_len, Nat.succ_mul]
theorem xL_len (a1 a2 a3 : Int) (ny nz : Nat) : ∀ k, (xL a1 a2 a3 ny nz k).length = k * (ny * nz)
  | 0 => by simp [xL_zero]
  | k + 1 => by rw [xL_succ, List.length_append, xL_len a1 a2 a3 ny nz k, yL_len, Nat.succ_mul]
theorem part_lt {nx ny nz i j k : Nat} (hi : i < nx) (hj : j < ny) (hk : k < nz) : i * (ny * nz) + (j * nz + k) < nx * (ny * nz) := by
  have h1 : (j + 1) * nz ≤ ny * nz := Nat.mul_le_mul_right _ hj
  have h2 : (i + 1) * (ny * nz) ≤ nx * (ny * nz) := Nat.mul_le_mul_right _ hi
  rw [Nat.succ_mul] at h1 h2
  omega
/-- what the rounds keep of the iterator's own -/
def KpAB (A B : Nat) (W W' : World) : Prop := W.heap.size ≤ W'.heap.size ∧ ∀ k, k = A ∨ k = B → W'.heap[k]? = W.heap[k]?
theorem KpAB.refl (A B : Nat) (W : World) : KpAB A B W W := ⟨Nat.le_refl _, fun _ _ => rfl⟩
theorem KpAB.trans {A B : Nat} {W W' W'' : World} (h : KpAB A B W W') (k : KpAB A B W' W'') : KpAB A B W W'' := ⟨Nat.le_trans h.1 k.1, fun j hj => (k.2 j hj).trans (h.2 j hj)⟩
theorem KpAB.cell {A B : Nat} {W W' : World} (h : KpAB A B W W') {b o : Nat} (hb : b = A ∨ b = B) : W'.cell? ⟨b, o, none⟩ = W.cell? ⟨b, o, none⟩ := World.cell?_of_block (h.2 b hb)
end Go.Proofs.YtefhmbmbhiehdaaDoor
