/- The contracts of gyrelaw.alone (it answers) and gyrelaw.sameBodies on equal bodies, none or more. Conditions: none. -/
import Derived.Test.YtfagkbmphohelaaSolve5
import Derived.Test.YtfagkbmphohelaaSolve6
import Derived.LoopTactic
namespace Go.Proofs.Ytfagkbmphohelaa
open Go.ChangeShapes Go.WideShapes Go.ChangeAt Go.RowKit Go.BigFrame

set_option maxRecDepth 100000 in
set_option maxHeartbeats 4000000 in
theorem alone_c (M : Nat → Nat → Int) (A : Option Addr) (n cap : Nat) (w : World) (hn : n ≤ 1000000) (hR : Reads w A n 17 M) :
    Calls Try.prog 72 #[.slice A n cap] w fun e w' => (∃ b, e = .returned (.bool b)) ∧ Below w.heap.size w w' := by
  have hmc := more_cell
  have hmf := more_frozen
  have hml := more_lt
  go_enter Try.func72, Try.ntmps72
  go_wp2
  go_loopw [3] (fun i wr => ∃ k : Nat, k ≤ n ∧ i = .int .i64 k ∧ Below w.heap.size w wr) (fun i _ => n - (intOf i).toNat)
  case atStart => exact ⟨0, by omega, rfl, Below.refl _ _⟩
  case round =>
    obtain ⟨k, hk, rfl, hb⟩ := hrel
    obtain ⟨wo, rfl⟩ : ∃ wo : World, wo = wr := ⟨_, rfl⟩
    by_cases hlt : k < n
    · obtain ⟨b, of, rfl, hbl, hc⟩ := hR (by omega)
      go_wp2
      go_loopw [4] (fun i wr => ∃ j : Nat, j ≤ k ∧ i = .int .i64 j ∧ Below w.heap.size w wr) (fun i _ => k - (intOf i).toNat)
      case atStart => exact ⟨0, by omega, rfl, hb⟩
      case round =>
        obtain ⟨j, hj, rfl, hb2⟩ := hrel
        by_cases hlt2 : j < k
        · have q0 : wr.cell? ⟨b, of + k * 17, none⟩ = some (.int .i64 (M k 0)) := (hb2.cell (p := ⟨b, of + (k * 17 + 0), none⟩) hbl).trans (hc k hlt 0 (by decide))
          have q1 : wr.cell? ⟨b, of + j * 17, none⟩ = some (.int .i64 (M j 0)) := (hb2.cell (p := ⟨b, of + (j * 17 + 0), none⟩) hbl).trans (hc j (by omega) 0 (by decide))
          have hbs := hb2.size
          have zz : b < wr.heap.size := by omega
          have hjn : j < n := by omega
          by_cases hx : M k 0 = M j 0
          · have hx' : (M k 0 == M j 0) = true := by simpa using hx
            clear hx
            go_wp2_with fail
            refine region_quiet_all (by kernel_rfl) (by kernel_rfl) ?_
            repeat (go_big_quiet_step (fail))
            refine wpQuiet_nil ?_
            rintro _ ⟨m, rfl⟩
            go_wp2
            go_ret
            exact ⟨⟨_, rfl⟩, (by repeat (with_reducible (first | exact Below.refl _ _ | assumption | apply ext_drew | apply ext_drewN | apply ext_alloc | apply ext_more | (refine ext_setCell ?_ (by simp <;> omega) _) | (refine ext_below ?_ (by assumption)))))⟩
          · have hx' : (M k 0 == M j 0) = false := by simpa using hx
            go_wp2_with fail
            refine region_quiet_all (by kernel_rfl) (by kernel_rfl) ?_
            repeat (go_big_quiet_step (fail))
            refine wpQuiet_nil ?_
            rintro _ ⟨m, rfl⟩
            go_wp2
            go_roundw
            case rel => exact ⟨j + 1, by omega, by go_num, (by repeat (with_reducible (first | exact Below.refl _ _ | assumption | apply ext_drew | apply ext_drewN | apply ext_alloc | apply ext_more | (refine ext_setCell ?_ (by simp <;> omega) _) | (refine ext_below ?_ (by assumption)))))⟩
            case measure => simp [intOf]; omega
        · go_wp2
          go_roundw
          case rel => exact ⟨k + 1, by omega, by go_num, (by repeat (with_reducible (first | exact Below.refl _ _ | assumption | apply ext_drew | apply ext_drewN | apply ext_alloc | apply ext_more | (refine ext_setCell ?_ (by simp <;> omega) _) | (refine ext_below ?_ (by assumption)))))⟩
          case measure => simp [intOf]; omega
    · go_wp2
      go_ret
      exact ⟨⟨_, rfl⟩, hb⟩

theorem same_0 (A A' : Option Addr) (cap cap' : Nat) (w : World) : Calls Try.prog 73 #[.slice A 0 cap, .slice A' 0 cap'] w fun e w' => e = .returned (.bool true) ∧ w = w' := by
  go_enter Try.func73, Try.ntmps73
  go_wp2
  refine wp_loop_rounds 1 ?_
  rw [rounds_succ]
  go_wp2
  go_ret
  exact ⟨rfl, rfl⟩
theorem same_o (M : Nat → Nat → Int) (A A' : Option Addr) (n cap cap' : Nat) (w : World) (hn : n ≤ 1000000) (h1 : Own w A n M) (h2 : Own w A' n M) :
    Calls Try.prog 73 #[.slice A n cap, .slice A' n cap'] w fun e w' => e = .returned (.bool true) ∧ Below w.heap.size w w' := by
  rcases Nat.eq_zero_or_pos n with rfl | h
  · exact (same_0 A A' cap cap' w).mono fun e w' ⟨he, hw⟩ => ⟨he, by subst hw; exact Below.refl _ _⟩
  · obtain ⟨b, rfl, hT⟩ := h1 h
    obtain ⟨b', rfl, hT'⟩ := h2 h
    exact same_t M b b' n cap cap' w (by omega) hT hT'

end Go.Proofs.Ytfagkbmphohelaa
