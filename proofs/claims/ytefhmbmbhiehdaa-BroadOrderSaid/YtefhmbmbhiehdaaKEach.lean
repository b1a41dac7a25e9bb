/- interest.each: the iterator through the cells of a box. Conditions: numbers that are not too great. -/
import Derived.RangeFuncNested
import Derived.RangeFuncBound
import Derived.RangeFuncCalls
import Derived.RangeFuncLeaves
import Derived.WalkKit
import Derived.OwnWalkIn
import Derived.TacticsInMore
import Derived.LoopNIn
import Derived.LoopIn
import Derived.Below
import Derived.Lib.Hide
import Derived.Test.YtefhmbmbhiehdaaProg
import Derived.Test.YtefhmbmbhiehdaaKRoundB
namespace Go.Proofs.Ytefhmbmbhiehdaa
open Go Go.RowKit Go.ChangeShapes Go.WideShapes Go.BigFrame Go.Maps
/-- cells: x, y, z -/
abbrev Cl := Int × Int × Int
def zL (a3 : Int) (x y : Int) (k : Nat) : List Cl := (List.range k).map fun i : Nat => (x, y, a3 + (i : Int))
def yL (a2 a3 : Int) (nz : Nat) (x : Int) (k : Nat) : List Cl := (List.range k).flatMap fun j : Nat => zL a3 x (a2 + (j : Int)) nz
def xL (a1 a2 a3 : Int) (ny nz : Nat) (k : Nat) : List Cl := (List.range k).flatMap fun i : Nat => yL a2 a3 nz (a1 + (i : Int)) ny
theorem zL_zero (a3 x y : Int) : zL a3 x y 0 = [] := rfl
theorem yL_zero (a2 a3 : Int) (nz : Nat) (x : Int) : yL a2 a3 nz x 0 = [] := rfl
theorem xL_zero (a1 a2 a3 : Int) (ny nz : Nat) : xL a1 a2 a3 ny nz 0 = [] := rfl
theorem zL_succ (a3 x y : Int) (k : Nat) : zL a3 x y (k + 1) = zL a3 x y k ++ [(x, y, a3 + (k : Int))] := by simp [zL, List.range_succ]
theorem yL_succ (a2 a3 : Int) (nz : Nat) (x : Int) (k : Nat) : yL a2 a3 nz x (k + 1) = yL a2 a3 nz x k ++ zL a3 x (a2 + (k : Int)) nz := by simp [yL, List.range_succ]
theorem xL_succ (a1 a2 a3 : Int) (ny nz k : Nat) : xL a1 a2 a3 ny nz (k + 1) = xL a1 a2 a3 ny nz k ++ yL a2 a3 nz (a1 + (k : Int)) ny := by simp [xL, List.range_succ]
/-- all cells of a box -/
def cellsOf (a1 a2 a3 b1 b2 b3 : Int) : List Cl := xL a1 a2 a3 (b2 - a2 + 1).toNat (b3 - a3 + 1).toNat (b1 - a1 + 1).toNat
theorem zL_mem {a3 x y : Int} {k : Nat} {c : Cl} : c ∈ zL a3 x y k ↔ c.1 = x ∧ c.2.1 = y ∧ a3 ≤ c.2.2 ∧ c.2.2 < a3 + k := by
  obtain ⟨c1, c2, c3⟩ := c
  unfold zL
  simp only [List.mem_map, List.mem_range, Prod.mk.injEq]
  constructor
  · rintro ⟨i, hi, rfl, rfl, rfl⟩
    exact ⟨rfl, rfl, by omega, by omega⟩
  · rintro ⟨rfl, rfl, h1, h2⟩
    exact ⟨(c3 - a3).toNat, by omega, rfl, rfl, by omega⟩
theorem yL_mem {a2 a3 x : Int} {nz k : Nat} {c : Cl} : c ∈ yL a2 a3 nz x k ↔ c.1 = x ∧ (a2 ≤ c.2.1 ∧ c.2.1 < a2 + k) ∧ a3 ≤ c.2.2 ∧ c.2.2 < a3 + nz := by
  unfold yL
  simp only [List.mem_flatMap, List.mem_range, zL_mem]
  constructor
  · rintro ⟨j, hj, h1, h2, h3⟩
    exact ⟨h1, by omega, h3⟩
  · rintro ⟨h1, h2, h3⟩
    exact ⟨(c.2.1 - a2).toNat, by omega, h1, by omega, h3⟩
theorem xL_mem {a1 a2 a3 : Int} {ny nz k : Nat} {c : Cl} : c ∈ xL a1 a2 a3 ny nz k ↔ (a1 ≤ c.1 ∧ c.1 < a1 + k) ∧ (a2 ≤ c.2.1 ∧ c.2.1 < a2 + ny) ∧ a3 ≤ c.2.2 ∧ c.2.2 < a3 + nz := by
  unfold xL
  simp only [List.mem_flatMap, List.mem_range, yL_mem]
  constructor
  · rintro ⟨i, hi, h1, h2, h3⟩
    exact ⟨by omega, h2, h3⟩
  · rintro ⟨h1, h2, h3⟩
    exact ⟨(c.1 - a1).toNat, by omega, by omega, h2, h3⟩
theorem cellsOf_mem {a1 a2 a3 b1 b2 b3 : Int} {c : Cl} : c ∈ cellsOf a1 a2 a3 b1 b2 b3 ↔ (a1 ≤ c.1 ∧ c.1 ≤ b1) ∧ (a2 ≤ c.2.1 ∧ c.2.1 ≤ b2) ∧ a3 ≤ c.2.2 ∧ c.2.2 ≤ b3 := by
  unfold cellsOf
  rw [xL_mem]
  omega
theorem zL_len (a3 x y : Int) (k : Nat) : (zL a3 x y k).length = k := by simp [zL]
theorem yL_len (a2 a3 : Int) (nz : Nat) (x : Int) : ∀ k, (yL a2 a3 nz x k).length = k * nz
  | 0 => by simp [yL_zero]
  | k + 1 => by rw [yL_succ, List.length_append, yL_len a2 a3 nz x k, zL_len, Nat.succ_mul]
theorem xL_len (a1 a2 a3 : Int) (ny nz : Nat) : ∀ k, (xL a1 a2 a3 ny nz k).length = k * (ny * nz)
  | 0 => by simp [xL_zero]
  | k + 1 => by rw [xL_succ, List.length_append, xL_len a1 a2 a3 ny nz k, yL_len, Nat.succ_mul]
theorem part_lt {nx ny nz i j k : Nat} (hi : i < nx) (hj : j < ny) (hk : k < nz) : i * (ny * nz) + (j * nz + k) < nx * (ny * nz) := by
  have h1 : (j + 1) * nz ≤ ny * nz := Nat.mul_le_mul_right _ hj
  have h2 : (i + 1) * (ny * nz) ≤ nx * (ny * nz) := Nat.mul_le_mul_right _ hi
  rw [Nat.succ_mul] at h1 h2
  omega
/-- what the rounds keep of the iterator's own -/
def KpAB (A B : Nat) (W W' : World) : Prop := W.heap.size ≤ W'.heap.size ∧ ∀ k, k = A ∨ k = B → W'.heap[k]? = W.heap[k]?
theorem KpAB.refl (A B : Nat) (W : World) : KpAB A B W W := ⟨Nat.le_refl _, fun _ _ => rfl⟩
theorem KpAB.trans {A B : Nat} {W W' W'' : World} (h : KpAB A B W W') (k : KpAB A B W' W'') : KpAB A B W W'' := ⟨Nat.le_trans h.1 k.1, fun j hj => (k.2 j hj).trans (h.2 j hj)⟩
theorem KpAB.cell {A B : Nat} {W W' : World} (h : KpAB A B W W') {b o : Nat} (hb : b = A ∨ b = B) : W'.cell? ⟨b, o, none⟩ = W.cell? ⟨b, o, none⟩ := World.cell?_of_block (h.2 b hb)
set_option maxRecDepth 100000 in
set_option maxHeartbeats 4000000 in
theorem each1_in (n : Nat) (hn : 1 ≤ n) (l A B : Nat) (a1 a2 a3 b1 b2 b3 : Int) (ha : (-1000000 ≤ a1 ∧ a1 ≤ 1000000) ∧ (-1000000 ≤ a2 ∧ a2 ≤ 1000000) ∧ (-1000000 ≤ a3 ∧ a3 ≤ 1000000)) (hb : (-1000000 ≤ b1 ∧ b1 ≤ 1000000) ∧ (-1000000 ≤ b2 ∧ b2 ≤ 1000000) ∧ (-1000000 ≤ b3 ∧ b3 ≤ 1000000)) (J Jx : List Cl → World → Prop)
    (hY : ∀ pre x W, J pre W → x ∈ cellsOf a1 a2 a3 b1 b2 b3 → pre.length < (cellsOf a1 a2 a3 b1 b2 b3).length → YieldAt Fence.wide (n - 1) Try.prog l #[.agg #[.int .i64 x.1, .int .i64 x.2.1, .int .i64 x.2.2]] W fun e W' =>
      (e = .returned (.bool true) ∧ J (pre ++ [x]) W' ∧ KpAB A B W W') ∨ (e = .returned (.bool false) ∧ Jx (pre ++ [x]) W'))
    (W : World) (hA : Blk W A #[.int .i64 a1, .int .i64 a2, .int .i64 a3]) (hB : Blk W B #[.int .i64 b1, .int .i64 b2, .int .i64 b3]) (h0 : J [] W) :
    CallsIn Fence.wide n Try.prog 93 #[.func (.yield l) #[] #[], .pointer (some ⟨A, 0, none⟩), .pointer (some ⟨B, 0, none⟩)] W fun e W' => (∃ v, e = .returned v) ∧
      ((∃ ys, ys = cellsOf a1 a2 a3 b1 b2 b3 ∧ J ys W') ∨ (∃ pre, True ∧ Jx pre W')) := by
  obtain ⟨ny, hny⟩ : ∃ ny, ny = (b2 - a2 + 1).toNat := ⟨_, rfl⟩
  obtain ⟨nz, hnz⟩ : ∃ nz, nz = (b3 - a3 + 1).toNat := ⟨_, rfl⟩
  obtain ⟨nx, hnx⟩ : ∃ nx, nx = (b1 - a1 + 1).toNat := ⟨_, rfl⟩
  have hall : cellsOf a1 a2 a3 b1 b2 b3 = xL a1 a2 a3 ny nz nx := by rw [hny, hnz, hnx]; rfl
  have HALL := Lib.hid hall
  have HYY := Lib.hid hY
  have hca : ∀ wr, KpAB A B W wr → wr.cell? ⟨A, 0, none⟩ = some (.int .i64 a1) ∧ wr.cell? ⟨A, 1, none⟩ = some (.int .i64 a2) ∧ wr.cell? ⟨A, 2, none⟩ = some (.int .i64 a3) ∧ wr.cell? ⟨B, 0, none⟩ = some (.int .i64 b1) ∧ wr.cell? ⟨B, 1, none⟩ = some (.int .i64 b2) ∧ wr.cell? ⟨B, 2, none⟩ = some (.int .i64 b3) :=
    fun wr k => ⟨(k.cell (.inl rfl)).trans (hA.cell 0), (k.cell (.inl rfl)).trans (hA.cell 1), (k.cell (.inl rfl)).trans (hA.cell 2), (k.cell (.inr rfl)).trans (hB.cell 0), (k.cell (.inr rfl)).trans (hB.cell 1), (k.cell (.inr rfl)).trans (hB.cell 2)⟩
  have HCA := Lib.hid hca
  clear hY hall hca hA hB
  obtain ⟨q1, q2, q3, q4, q5, q6⟩ := HCA.out W (KpAB.refl _ _ _)
  refine callsIn_of_wp Try.func93 rfl trivial ?_ rfl
  simp only [Try.ntmps93, List.size_toArray, List.length_cons, List.length_nil, Nat.reduceAdd, Nat.reduceSub, Array.replicate_succ, Array.replicate_zero, List.push_toArray, List.append_toArray, List.nil_append, List.cons_append]
  gi_wp2
  clear q1 q2 q3 q4 q5 q6
  gi_loopw [4] (fun v wr => ∃ i : Nat, i ≤ nx ∧ v = .int .i64 (a1 + (i : Int)) ∧ KpAB A B W wr ∧ J (xL a1 a2 a3 ny nz i) wr) (fun v _ => (b1 + 1 - intOf v).toNat)
  case atStart => exact ⟨0, by omega, by simp, KpAB.refl _ _ _, h0⟩
  case round =>
    clear h0
    obtain ⟨i, hi, rfl, hk, hJ⟩ := hrel
    obtain ⟨q1, q2, q3, q4, q5, q6⟩ := HCA.out _ hk
    by_cases hin : i < nx
    · have dk : decide (a1 + (i : Int) ≤ b1) = true := decide_eq_true (by omega)
      gi_wp2
      clear q1 q2 q3 q4 q5 q6
      gi_loopw [5] (fun v wr => ∃ j : Nat, j ≤ ny ∧ v = .int .i64 (a2 + (j : Int)) ∧ KpAB A B W wr ∧ J (xL a1 a2 a3 ny nz i ++ yL a2 a3 nz (a1 + (i : Int)) j) wr) (fun v _ => (b2 + 1 - intOf v).toNat)
      case atStart => exact ⟨0, by omega, by simp, hk, by rw [yL_zero, List.append_nil]; exact hJ⟩
      case round =>
        clear hk hJ
        obtain ⟨j, hj, rfl, hk, hJ⟩ := hrel
        obtain ⟨q1, q2, q3, q4, q5, q6⟩ := HCA.out _ hk
        by_cases hjn : j < ny
        · have dj : decide (a2 + (j : Int) ≤ b2) = true := decide_eq_true (by omega)
          gi_wp2
          clear q1 q2 q3 q4 q5 q6
          gi_loopw [6] (fun v wr => ∃ k : Nat, k ≤ nz ∧ v = .int .i64 (a3 + (k : Int)) ∧ KpAB A B W wr ∧ J (xL a1 a2 a3 ny nz i ++ (yL a2 a3 nz (a1 + (i : Int)) j ++ zL a3 (a1 + (i : Int)) (a2 + (j : Int)) k)) wr) (fun v _ => (b3 + 1 - intOf v).toNat)
          case atStart => exact ⟨0, by omega, by simp, hk, by rw [zL_zero, List.append_nil]; exact hJ⟩
          case round =>
            clear hk hJ
            obtain ⟨k, hkz, rfl, hk, hJ⟩ := hrel
            obtain ⟨q1, q2, q3, q4, q5, q6⟩ := HCA.out _ hk
            by_cases hkn : k < nz
            · have dz : decide (a3 + (k : Int) ≤ b3) = true := decide_eq_true (by omega)
              obtain ⟨fn, tmps, assign, body, hy, hR⟩ := HYY.out _ (a1 + (i : Int), a2 + (j : Int), a3 + (k : Int)) _ hJ (cellsOf_mem.2 ⟨by simp only; omega, by simp only; omega, by simp only; omega⟩) (by rw [HALL.out, xL_len, List.length_append, List.length_append, xL_len, yL_len, zL_len]; exact part_lt hin hjn hkn)
              dsimp only at hy
              gi_wp2
              refine hR.mono ?_
              rintro e W3 (⟨rfl, hJ3, hk3⟩ | ⟨rfl, hJx3⟩)
              · gi_wp2
                go_roundw
                case rel => exact ⟨k + 1, by omega, by go_num, hk.trans hk3, by rw [zL_succ, ← List.append_assoc, ← List.append_assoc, List.append_assoc (xL _ _ _ _ _ _)]; exact hJ3⟩
                case measure => simp [intOf]; omega
              · gi_wp2
                refine bodyPost_ret (results_none rfl _ _ _) rfl ?_
                exact ⟨⟨_, rfl⟩, .inr ⟨_, trivial, hJx3⟩⟩
            · have dz : decide (a3 + (k : Int) ≤ b3) = false := decide_eq_false (by omega)
              obtain rfl : k = nz := by omega
              gi_wp2
              go_roundw
              case rel => exact ⟨j + 1, by omega, by go_num, hk, by rw [yL_succ]; exact hJ⟩
              case measure => simp [intOf]; omega
        · have dj : decide (a2 + (j : Int) ≤ b2) = false := decide_eq_false (by omega)
          obtain rfl : j = ny := by omega
          gi_wp2
          go_roundw
          case rel => exact ⟨i + 1, by omega, by go_num, hk, by rw [xL_succ]; exact hJ⟩
          case measure => simp [intOf]; omega
    · have dk : decide (a1 + (i : Int) ≤ b1) = false := decide_eq_false (by omega)
      obtain rfl : i = nx := by omega
      gi_wp2
      go_end0
      exact ⟨⟨_, rfl⟩, .inl ⟨_, HALL.out.symm, hJ⟩⟩
/-- interest.each: the function value, and what it holds -/
theorem ieach_c (a1 a2 a3 b1 b2 b3 : Int) (w : World) : Calls Try.prog 49 #[.agg #[.int .i64 a1, .int .i64 a2, .int .i64 a3], .agg #[.int .i64 b1, .int .i64 b2, .int .i64 b3]] w fun e w' =>
    e = .returned (.func (.func 93) #[] #[.pointer (some ⟨w.heap.size, 0, none⟩), .pointer (some ⟨w.heap.size + 1, 0, none⟩)]) ∧ Blk w' w.heap.size #[.int .i64 a1, .int .i64 a2, .int .i64 a3] ∧ Blk w' (w.heap.size + 1) #[.int .i64 b1, .int .i64 b2, .int .i64 b3] ∧ Below w.heap.size w w' := by
  go_enter Try.func49, Try.ntmps49
  go_wp2
  go_ret
  refine ⟨rfl, ?_, ?_, ?_⟩
  · apply Blk.alloc
    apply Blk.at
    simp
  · apply Blk.at
    simp
  · repeat (with_reducible (first | exact Below.refl _ _ | assumption | apply ext_alloc))
/-- the iterator's contract -/
theorem each_stops (n : Nat) (hn : 1 ≤ n) (A B : Nat) (a1 a2 a3 b1 b2 b3 : Int) (ha : (-1000000 ≤ a1 ∧ a1 ≤ 1000000) ∧ (-1000000 ≤ a2 ∧ a2 ≤ 1000000) ∧ (-1000000 ≤ a3 ∧ a3 ≤ 1000000)) (hb : (-1000000 ≤ b1 ∧ b1 ≤ 1000000) ∧ (-1000000 ≤ b2 ∧ b2 ≤ 1000000) ∧ (-1000000 ≤ b3 ∧ b3 ≤ 1000000))
    (w : World) (hA : Blk w A #[.int .i64 a1, .int .i64 a2, .int .i64 a3]) (hB : Blk w B #[.int .i64 b1, .int .i64 b2, .int .i64 b3]) :
    SeqStopsK Fence.wide n Try.prog 93 #[.pointer (some ⟨A, 0, none⟩), .pointer (some ⟨B, 0, none⟩)] (fun x : { c : Cl // c ∈ cellsOf a1 a2 a3 b1 b2 b3 } => #[Value.agg #[.int .i64 x.1.1, .int .i64 x.1.2.1, .int .i64 x.1.2.2]]) (KpAB A B) (fun ys => ys.map (·.1) = cellsOf a1 a2 a3 b1 b2 b3) (fun _ => True) (cellsOf a1 a2 a3 b1 b2 b3).length w := fun l J Jx W hW _ _ hY h0 => by
  refine (each1_in n hn l A B a1 a2 a3 b1 b2 b3 ha hb (fun pre W => ∃ pre', pre'.map (·.1) = pre ∧ J pre' W) (fun pre W => ∃ pre', pre'.map (·.1) = pre ∧ Jx pre' W) ?_ W (hA.below hW) (hB.below hW) ⟨[], rfl, h0⟩).mono ?_
  · rintro pre x W1 ⟨pre', rfl, hJ⟩ hx hl
    obtain ⟨fn, tmps, asg, bo, h1, h2⟩ := hY pre' ⟨x, hx⟩ W1 hJ (by simpa using hl)
    refine ⟨fn, tmps, asg, bo, h1, h2.mono ?_⟩
    rintro e W' (⟨he, hj, hk⟩ | ⟨he, hj⟩)
    · exact .inl ⟨he, ⟨pre' ++ [⟨x, hx⟩], by simp, hj⟩, hk⟩
    · exact .inr ⟨he, ⟨pre' ++ [⟨x, hx⟩], by simp, hj⟩⟩
  · rintro e W' ⟨he, ⟨ys, rfl, pre', hp, hJ⟩ | ⟨pre, _, pre', _, hJ⟩⟩
    · exact ⟨he, .inl ⟨pre', hp, hJ⟩⟩
    · exact ⟨he, .inr ⟨pre', trivial, hJ⟩⟩
end Go.Proofs.Ytefhmbmbhiehdaa
