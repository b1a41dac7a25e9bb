/- plain.Bare, gyrelaw.bare. Conditions: what the variable errors.errorType holds. -/
import Derived.Test.YtnkinnfpebploaaDoorAs
namespace Go.Proofs.YtnkinnfpebploaaDoor
open Go.RowKit Go.Extern.Stop Go.Stop Go.Extern
set_option maxRecDepth 100000 in
theorem bare_nil (w : World) : Calls Tryd.prog 66 #[.nilIface] w fun e w' => e = .returned (.tuple #[.int .i64 0, .bool true]) ∧ w = w' := by
  go_enter Tryd.func66, Tryd.ntmps66
  go_wp2_with (go_at_call 60; refine (tell_nil _).mono ?_; rintro e w' ⟨rfl, rfl⟩)
  refine wp_loop_rounds 1 ?_
  rw [rounds_succ]
  go_wp2
  go_ret2
  exact ⟨rfl, rfl⟩
set_option maxRecDepth 100000 in
set_option maxHeartbeats 1000000 in
theorem bare_hit (n : Int) (w : World) (hg : Handle w) : Calls Tryd.prog 66 #[.iface 25 (.int .i64 n)] w fun e w' => e = .returned (.tuple #[.int .i64 n, .bool true]) ∧ Below w.heap.size w w' := by
  go_enter Tryd.func66, Tryd.ntmps66
  go_wp2_with (go_at_call 60; refine (tell_hit n _ hg).mono ?_; rintro e w1 ⟨rfl, hb1⟩)
  refine wp_loop_rounds 1 ?_
  rw [rounds_succ]
  have ta1 : ∀ w : World, (Instr.typeAssert (.iface 25 (.int .i64 n)) 30 167 true).run Tryd.prog w = .ok (.tuple #[.pointer none, .bool false]) w := fun _ => by kernel_rfl
  have ta2 : ∀ w : World, (Instr.typeAssert (.iface 25 (.int .i64 n)) 30 169 true).run Tryd.prog w = .ok (.tuple #[.nilIface, .bool false]) w := fun w => run_typeAssert_lacksB (P := Tryd.prog) Tryd.underlying169 (by kernel_rfl) (by kernel_rfl) (.int .i64 n) 30 w
  go_wp2
  go_ret2
  exact ⟨rfl, hb1⟩
theorem lbare_nil (n : Int) (b : Bool) (w : World) (hb : (0 == n) = b) : Calls Tryd.prog 16 #[.nilIface, .int .i64 n] w fun e w' => e = .returned (.bool b) ∧ w = w' := by
  subst hb
  go_enter Tryd.func16, Tryd.ntmps16
  go_wp2_with (go_at_call 66; refine (bare_nil _).mono ?_; rintro e w' ⟨rfl, rfl⟩)
  go_ret
  exact ⟨rfl, rfl⟩
theorem lbare_hit (n m : Int) (b : Bool) (w : World) (hg : Handle w) (hb : (n == m) = b) : Calls Tryd.prog 16 #[.iface 25 (.int .i64 n), .int .i64 m] w fun e w' => e = .returned (.bool b) ∧ Below w.heap.size w w' := by
  subst hb
  go_enter Tryd.func16, Tryd.ntmps16
  go_wp2_with (go_at_call 66; refine (bare_hit n _ hg).mono ?_; rintro e w1 ⟨rfl, hb1⟩)
  go_ret
  exact ⟨rfl, hb1⟩

end Go.Proofs.YtnkinnfpebploaaDoor
