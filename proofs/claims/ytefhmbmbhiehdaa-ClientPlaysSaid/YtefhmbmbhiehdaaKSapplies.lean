/- The contract of gyrelaw.sameView; the walk of gyrelaw.SnapApplies. Conditions: what the variable errors.errorType holds. -/
import Derived.Test.YtefhmbmbhiehdaaKApply4
import Derived.Test.YtefhmbmbhiehdaaKClC
namespace Go.Proofs.Ytefhmbmbhiehdaa
open Go.ChangeShapes Go.WideShapes Go.ChangeAt Go.RowKit Go.BigFrame
open B
theorem reads0 (w : World) (A : Option Addr) (M : Nat → Nat → Int) : Reads w A 0 11 M := fun h => absurd h (by omega)
set_option maxRecDepth 100000 in
set_option maxHeartbeats 4000000 in
theorem sameView_c (n : Nat) (A1 A2 : Option Addr) (cap1 cap2 : Nat) (M : Nat → Nat → Int) (w : World) (hn : n ≤ 100000) (hR1 : Reads w A1 n 11 M) (hR2 : Reads w A2 n 11 M) :
    Calls Try.prog 14 #[.slice A1 n cap1, .slice A2 n cap2] w fun e w' => e = .returned (.bool true) ∧ Below w.heap.size w w' := by
  have HR1 := Lib.hid hR1
  have HR2 := Lib.hid hR2
  clear hR1 hR2
  go_enter Try.func14, Try.ntmps14
  go_wp2
  go_loopw [5] (fun i wr => ∃ k : Nat, k ≤ n ∧ i = .int .i64 k ∧ Below w.heap.size w wr) (fun i _ => n - (intOf i).toNat)
  case atStart => exact ⟨0, by omega, rfl, Below.refl _ _⟩
  case round =>
    obtain ⟨k, hk, rfl, hb⟩ := hrel
    by_cases hin : k < n
    · have dk : decide ((k : Int) < (n : Int)) = true := decide_eq_true (by omega)
      obtain ⟨bA, oA, rfl, hbA, hcA⟩ := HR1.out.below hb (by omega)
      obtain ⟨bB, oB, rfl, hbB, hcB⟩ := HR2.out.below hb (by omega)
      have HLA : Hid (∀ j, j < 11 → wr.cell? ⟨bA, oA + k * 11 + j, none⟩ = some (.int .i64 (M k j))) := Lib.hid (fun j hj => by rw [Nat.add_assoc]; exact hcA k hin j hj)
      have HLB : Hid (∀ j, j < 11 → wr.cell? ⟨bB, oB + k * 11 + j, none⟩ = some (.int .i64 (M k j))) := Lib.hid (fun j hj => by rw [Nat.add_assoc]; exact hcB k hin j hj)
      have a0 : wr.cell? ⟨bA, oA + k * 11, none⟩ = some (.int .i64 (M k 0)) := HLA.out 0 (by decide)
      have a1 : wr.cell? ⟨bA, oA + k * 11 + 1, none⟩ = some (.int .i64 (M k 1)) := HLA.out 1 (by decide)
      have a2 : wr.cell? ⟨bA, oA + k * 11 + 2, none⟩ = some (.int .i64 (M k 2)) := HLA.out 2 (by decide)
      have a3 : wr.cell? ⟨bA, oA + k * 11 + 3, none⟩ = some (.int .i64 (M k 3)) := HLA.out 3 (by decide)
      have a4 : wr.cell? ⟨bA, oA + k * 11 + 4, none⟩ = some (.int .i64 (M k 4)) := HLA.out 4 (by decide)
      have a5 : wr.cell? ⟨bA, oA + k * 11 + 5, none⟩ = some (.int .i64 (M k 5)) := HLA.out 5 (by decide)
      have a6 : wr.cell? ⟨bA, oA + k * 11 + 6, none⟩ = some (.int .i64 (M k 6)) := HLA.out 6 (by decide)
      have a7 : wr.cell? ⟨bA, oA + k * 11 + 7, none⟩ = some (.int .i64 (M k 7)) := HLA.out 7 (by decide)
      have a8 : wr.cell? ⟨bA, oA + k * 11 + 8, none⟩ = some (.int .i64 (M k 8)) := HLA.out 8 (by decide)
      have a9 : wr.cell? ⟨bA, oA + k * 11 + 9, none⟩ = some (.int .i64 (M k 9)) := HLA.out 9 (by decide)
      have a10 : wr.cell? ⟨bA, oA + k * 11 + 10, none⟩ = some (.int .i64 (M k 10)) := HLA.out 10 (by decide)
      have b0 : wr.cell? ⟨bB, oB + k * 11, none⟩ = some (.int .i64 (M k 0)) := HLB.out 0 (by decide)
      have b1 : wr.cell? ⟨bB, oB + k * 11 + 1, none⟩ = some (.int .i64 (M k 1)) := HLB.out 1 (by decide)
      have b2 : wr.cell? ⟨bB, oB + k * 11 + 2, none⟩ = some (.int .i64 (M k 2)) := HLB.out 2 (by decide)
      have b3 : wr.cell? ⟨bB, oB + k * 11 + 3, none⟩ = some (.int .i64 (M k 3)) := HLB.out 3 (by decide)
      have b4 : wr.cell? ⟨bB, oB + k * 11 + 4, none⟩ = some (.int .i64 (M k 4)) := HLB.out 4 (by decide)
      have b5 : wr.cell? ⟨bB, oB + k * 11 + 5, none⟩ = some (.int .i64 (M k 5)) := HLB.out 5 (by decide)
      have b6 : wr.cell? ⟨bB, oB + k * 11 + 6, none⟩ = some (.int .i64 (M k 6)) := HLB.out 6 (by decide)
      have b7 : wr.cell? ⟨bB, oB + k * 11 + 7, none⟩ = some (.int .i64 (M k 7)) := HLB.out 7 (by decide)
      have b8 : wr.cell? ⟨bB, oB + k * 11 + 8, none⟩ = some (.int .i64 (M k 8)) := HLB.out 8 (by decide)
      have b9 : wr.cell? ⟨bB, oB + k * 11 + 9, none⟩ = some (.int .i64 (M k 9)) := HLB.out 9 (by decide)
      have b10 : wr.cell? ⟨bB, oB + k * 11 + 10, none⟩ = some (.int .i64 (M k 10)) := HLB.out 10 (by decide)
      have hn2 : ∀ w, (binOp .neq 57 (.agg #[.int .i64 (M k 2), .int .i64 (M k 3), .int .i64 (M k 4)]) (.agg #[.int .i64 (M k 2), .int .i64 (M k 3), .int .i64 (M k 4)])).run Try.prog w = .ok (.bool false) w := fun w => by rw [run_neq_vec]; simp [eq3]
      have hn5 : ∀ w, (binOp .neq 57 (.agg #[.int .i64 (M k 5), .int .i64 (M k 6), .int .i64 (M k 7)]) (.agg #[.int .i64 (M k 5), .int .i64 (M k 6), .int .i64 (M k 7)])).run Try.prog w = .ok (.bool false) w := fun w => by rw [run_neq_vec]; simp [eq3]
      have hn8 : ∀ w, (binOp .neq 57 (.agg #[.int .i64 (M k 8), .int .i64 (M k 9), .int .i64 (M k 10)]) (.agg #[.int .i64 (M k 8), .int .i64 (M k 9), .int .i64 (M k 10)])).run Try.prog w = .ok (.bool false) w := fun w => by rw [run_neq_vec]; simp [eq3]
      have hmc := more_cell
      clear hcA hcB
      go_wp2_with fail
      refine region_quiet_all (by kernel_rfl) (by kernel_rfl) ?_
      repeat (go_big_quiet_step (fail))
      refine wpQuiet_nil ?_
      rintro w6 hw6
      have hb6 := ext_below hb (after_below hw6)
      clear hw6 hmc hn2 hn5 hn8 a0 a1 a2 a3 a4 a5 a6 a7 a8 a9 a10 b0 b1 b2 b3 b4 b5 b6 b7 b8 b9 b10
      go_wp2
      go_roundw
      case rel => exact ⟨k + 1, by omega, by go_num, hb6⟩
      case measure => simp [intOf]; omega
    · have dk : decide ((k : Int) < (n : Int)) = false := decide_eq_false (by omega)
      go_wp2
      go_ret
      exact ⟨rfl, hb⟩
end Go.Proofs.Ytefhmbmbhiehdaa
