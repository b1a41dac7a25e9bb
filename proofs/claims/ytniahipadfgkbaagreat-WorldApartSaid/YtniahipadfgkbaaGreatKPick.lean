/- The contract of gyrekeep.pick. Conditions: none. -/
import Derived.Test.YtniahipadfgkbaaGreatKLift
import Derived.IntWalk
import Derived.WalkKit
import Derived.WalkSpells
namespace Go.Proofs.YtniahipadfgkbaaGreat
open Go.RowKit
def pickP (a : Int) (n : Nat) : Nat := (a % 18446744073709551616).toNat % n
theorem pickP_lt (a : Int) (n : Nat) (h : 0 < n) : pickP a n < n := Nat.mod_lt _ h
theorem pick_c (a n : Int) (k : Nat) (w : World) (hk : n = k) (h0 : 0 < k) (h1 : k ≤ 9223372036854775807) : Calls Tryz.prog 9 #[.int .i64 a, .int .i64 n] w fun e w' => e = .returned (.int .i64 (pickP a k)) ∧ w = w' := by
  subst hk
  go_enter Tryz.func9, Tryz.ntmps9
  go_wp2
  go_ret
  refine ⟨?_, rfl⟩
  show Ending.returned (.int .i64 (wrap64 ((IntKind.u64.wrap a).tmod (k : Int)))) = _
  have e : wrap64 ((IntKind.u64.wrap a).tmod (k : Int)) = (pickP a k : Int) := by
    rw [IntKind.wrap_u64, Int.tmod_eq_emod_of_nonneg (by omega)]
    have h2 : a % 18446744073709551616 = (((a % 18446744073709551616).toNat : Nat) : Int) := by omega
    rw [h2, ← Int.natCast_emod]
    have h3 : (a % 18446744073709551616).toNat % k < k := Nat.mod_lt _ h0
    rw [IntWalk.wrap64_in _ (by omega)]
    rfl
  rw [e]
theorem pick_v (a n : Int) (k : Nat) (x : Int) (w : World) (hk : n = k) (h0 : 0 < k) (h1 : k ≤ 9223372036854775807) (hx : (pickP a k : Int) = x) : Calls Tryz.prog 9 #[.int .i64 a, .int .i64 n] w fun e w' => e = .returned (.int .i64 x) ∧ w = w' := by
  subst hx; exact pick_c a n k w hk h0 h1
end Go.Proofs.YtniahipadfgkbaaGreat
