/- The contract of gyreref.index. Conditions: none. -/
import Derived.Test.YtfagkbmphohelaaSolve1
namespace Go.Proofs.Ytfagkbmphohelaa
open Go.ChangeShapes Go.WideShapes Go.ChangeAt Go.RowKit Go.BigFrame

set_option maxRecDepth 100000 in
set_option maxHeartbeats 4000000 in
theorem rindex_t (M : Nat → Nat → Int) (b n cap : Nat) (x : Int) (w : World) (hn : n ≤ 9223372036854775807) (hR : Tab w b n 17 M) :
    Calls Try.prog 108 #[.slice (some ⟨b, 0, none⟩) n cap, .int .i64 x] w fun e w' => e = .returned (.int .i64 (idx M n x)) ∧ Below w.heap.size w w' := by
  go_enter Try.func108, Try.ntmps108
  go_wp2
  go_loopw [9] (fun i wr => ∃ k : Nat, k ≤ n ∧ i = .int .i64 k ∧ idx M n x = idxF M x k (n - k) ∧ Below w.heap.size w wr) (fun i _ => n - (intOf i).toNat)
  case atStart => exact ⟨0, by omega, rfl, rfl, Below.refl _ _⟩
  case round =>
    obtain ⟨k, hk, rfl, hi, hb⟩ := hrel
    have HI := Lib.hid hi
    clear hi
    by_cases hlt : k < n
    · have hR2 := hR.below hb
      have q0 := hR2.cell hlt (j := 0) (by decide)
      have q1 := hR2.cell hlt (j := 1) (by decide)
      have q2 := hR2.cell hlt (j := 2) (by decide)
      have q3 := hR2.cell hlt (j := 3) (by decide)
      have q4 := hR2.cell hlt (j := 4) (by decide)
      have q5 := hR2.cell hlt (j := 5) (by decide)
      have q6 := hR2.cell hlt (j := 6) (by decide)
      have q7 := hR2.cell hlt (j := 7) (by decide)
      have q8 := hR2.cell hlt (j := 8) (by decide)
      have q9 := hR2.cell hlt (j := 9) (by decide)
      have q10 := hR2.cell hlt (j := 10) (by decide)
      have q11 := hR2.cell hlt (j := 11) (by decide)
      have q12 := hR2.cell hlt (j := 12) (by decide)
      have q13 := hR2.cell hlt (j := 13) (by decide)
      have q14 := hR2.cell hlt (j := 14) (by decide)
      have q15 := hR2.cell hlt (j := 15) (by decide)
      have q16 := hR2.cell hlt (j := 16) (by decide)
      simp only [Nat.add_zero] at q0
      by_cases hx : M k 0 = x
      · have hx' : (M k 0 == x) = true := by simpa using hx
        have HX := Lib.hid hx
        clear hx
        go_wp2
        go_ret
        exact ⟨ri (by rw [HI.out, idxF_yes HX.out (by omega)]), (by repeat (with_reducible (first | exact Below.refl _ _ | assumption | apply ext_drew | apply ext_drewN | apply ext_alloc | apply ext_more | (refine ext_setCell ?_ (by simp <;> omega) _) | (refine ext_below ?_ (by assumption)))))⟩
      · have hx' : (M k 0 == x) = false := by simpa using hx
        go_wp2
        go_roundw
        case rel => exact ⟨k + 1, by omega, by go_num, by rw [HI.out, idxF_no hx (by omega), show n - k - 1 = n - (k + 1) by omega], (by repeat (with_reducible (first | exact Below.refl _ _ | assumption | apply ext_drew | apply ext_drewN | apply ext_alloc | apply ext_more | (refine ext_setCell ?_ (by simp <;> omega) _) | (refine ext_below ?_ (by assumption)))))⟩
        case measure => simp [intOf]; omega
    · have hkn : n - k = 0 := by omega
      go_wp2
      go_ret
      exact ⟨ri (by rw [HI.out, hkn]; rfl), hb⟩

theorem rindex_0 (A : Option Addr) (cap : Nat) (x : Int) (w : World) : Calls Try.prog 108 #[.slice A 0 cap, .int .i64 x] w fun e w' => e = .returned (.int .i64 (-1)) ∧ w = w' := by
  go_enter Try.func108, Try.ntmps108
  go_wp2
  refine wp_loop_rounds 1 ?_
  rw [rounds_succ]
  go_wp2
  go_ret
  exact ⟨rfl, rfl⟩
theorem rindex_c (M : Nat → Nat → Int) (A : Option Addr) (n cap : Nat) (x v : Int) (w : World) (hn : n ≤ 9223372036854775807) (hR : Own w A n M) (hv : idx M n x = v) :
    Calls Try.prog 108 #[.slice A n cap, .int .i64 x] w fun e w' => e = .returned (.int .i64 v) ∧ Below w.heap.size w w' := by
  subst hv
  rcases Nat.eq_zero_or_pos n with rfl | h
  · exact (rindex_0 A cap x w).mono fun e w' ⟨he, hw⟩ => ⟨he, by subst hw; exact Below.refl _ _⟩
  · obtain ⟨b, rfl, hT⟩ := hR h
    exact rindex_t M b n cap x w hn hT

end Go.Proofs.Ytfagkbmphohelaa
