/- The contracts of the functions of package fx on numbers (and of the document's answers): each returns the plain number of XMath. Conditions: none but the ranges of the kinds. -/
import Derived.Test.YtefhmbmbhiehdaaRows
import Derived.Test.YtefhmbmbhiehdaaMath
import Derived.Test.YtefhmbmbhiehdaaShelf
import Derived.WalkKit
import Derived.WalkSpells
import Derived.WalkLawsBesides
import Derived.ProofKit
import Derived.Laws.BitsAllLaws
import Derived.RegionTactic
import Derived.ChangeAlike
import Derived.Deep.QuietTactic
import Derived.BigQuiet
import Derived.Lib.Hide
namespace Go.Proofs.Ytefhmbmbhiehdaa
open Go.ChangeShapes Go.WideShapes Go.ChangeAt Go.RowKit

theorem ri {k : IntKind} {a b : Int} (h : a = b) : Ending.returned (.int k a) = .returned (.int k b) := by rw [h]
theorem ri2 {k : IntKind} {a b : Int} {c d : Bool} (h : a = b) (g : c = d) : Ending.returned (.tuple #[.int k a, .bool c]) = .returned (.tuple #[.int k b, .bool d]) := by rw [h, g]
theorem rii {k l : IntKind} {a b c d : Int} (h : a = b) (g : c = d) : Ending.returned (.tuple #[.int k a, .int l c]) = .returned (.tuple #[.int k b, .int l d]) := by rw [h, g]
theorem rb {c d : Bool} (g : c = d) : Ending.returned (.bool c) = .returned (.bool d) := by rw [g]

theorem cut_c (n : Int) (w : World) : Calls Try.prog 153 #[.int .i64 n] w fun e w' => e = .returned (.int .i64 (cut n)) ∧ w = w' := by
  go_enter Try.func153, Try.ntmps153
  go_wp2
  all_goals
    go_ret
    exact ⟨ri (by unfold cut; repeat' split <;> omega), rfl⟩

theorem rcut_c (n : Int) (w : World) : Calls Try.prog 159 #[.int .i64 n] w fun e w' => e = .returned (.int .i64 (cut n)) ∧ w = w' := by
  go_enter Try.func159, Try.ntmps159
  go_wp2
  all_goals
    go_ret
    exact ⟨ri (by unfold cut; repeat' split <;> omega), rfl⟩

theorem add_c (a b : Int) (w : World) : Calls Try.prog 117 #[.int .i64 a, .int .i64 b] w fun e w' => e = .returned (.int .i64 (add a b)) ∧ w = w' := by
  obtain ⟨h1, h1'⟩ := cut_bd a
  obtain ⟨h2, h2'⟩ := cut_bd b
  go_enter Try.func117, Try.ntmps117
  go_wp2_with (go_at_call 153; refine (cut_c _ _).mono ?_; rintro e w' ⟨rfl, rfl⟩)
  go_ret
  exact ⟨rfl, rfl⟩
theorem radd_c (a b : Int) (w : World) : Calls Try.prog 130 #[.int .i64 a, .int .i64 b] w fun e w' => e = .returned (.int .i64 (add a b)) ∧ w = w' := by
  obtain ⟨h1, h1'⟩ := cut_bd a
  obtain ⟨h2, h2'⟩ := cut_bd b
  go_enter Try.func130, Try.ntmps130
  go_wp2_with (go_at_call 159; refine (rcut_c _ _).mono ?_; rintro e w' ⟨rfl, rfl⟩)
  go_ret
  exact ⟨rfl, rfl⟩
theorem sub_c (a b : Int) (w : World) : Calls Try.prog 116 #[.int .i64 a, .int .i64 b] w fun e w' => e = .returned (.int .i64 (sub a b)) ∧ w = w' := by
  obtain ⟨h1, h1'⟩ := cut_bd a
  obtain ⟨h2, h2'⟩ := cut_bd b
  go_enter Try.func116, Try.ntmps116
  go_wp2_with (go_at_call 153; refine (cut_c _ _).mono ?_; rintro e w' ⟨rfl, rfl⟩)
  go_ret
  exact ⟨rfl, rfl⟩
theorem rsub_c (a b : Int) (w : World) : Calls Try.prog 129 #[.int .i64 a, .int .i64 b] w fun e w' => e = .returned (.int .i64 (sub a b)) ∧ w = w' := by
  obtain ⟨h1, h1'⟩ := cut_bd a
  obtain ⟨h2, h2'⟩ := cut_bd b
  go_enter Try.func129, Try.ntmps129
  go_wp2_with (go_at_call 159; refine (rcut_c _ _).mono ?_; rintro e w' ⟨rfl, rfl⟩)
  go_ret
  exact ⟨rfl, rfl⟩

/-- the document's sign: 1 or -1 -/
def si (m : Bool) : Int := if m then -1 else 1
theorem si_bd (m : Bool) : -1 ≤ si m ∧ si m ≤ 1 := by cases m <;> simp [si]
theorem mul_join (h l : Int) (h0 : 0 ≤ h) (h1 : h < 16384) (l0 : 0 ≤ l) (l1 : l < 18446744073709551616) :
    bits .or .u64 (h * 281474976710656) (l / 65536) = h * 281474976710656 + l / 65536 := by
  rw [u64_or _ _ (by omega) (by omega) (by omega) (by omega)]
  rw [nat_join 48 _ _ (by rw [show (2 : Nat) ^ 48 = 281474976710656 from rfl]; omega) (by rw [show (2 : Nat) ^ 48 = 281474976710656 from rfl]; omega)]
  omega

theorem sgn_si (u : Int) (m n : Bool) (h : 0 ≤ u) : si m * si n * cut u = sgn u (m != n) := by
  have : cut u = if u < 70368744177664 then u else 70368744177664 := by unfold cut; repeat' split <;> omega
  rw [this]; unfold sgn si; cases m <;> cases n <;> simp

end Go.Proofs.Ytefhmbmbhiehdaa
