/- The contract of gyrelaw.sameBodies on equal bodies. Conditions: none. -/
import Derived.Test.YtfagkbmphohelaaSolve2
namespace Go.Proofs.Ytfagkbmphohelaa
open Go.ChangeShapes Go.WideShapes Go.ChangeAt Go.RowKit Go.BigFrame

set_option maxRecDepth 100000 in
set_option maxHeartbeats 4000000 in
theorem same_t (M : Nat → Nat → Int) (b b' n cap cap' : Nat) (w : World) (hn : n ≤ 9223372036854775807) (h1 : Tab w b n 17 M) (h2 : Tab w b' n 17 M) :
    Calls Try.prog 73 #[.slice (some ⟨b, 0, none⟩) n cap, .slice (some ⟨b', 0, none⟩) n cap'] w fun e w' => e = .returned (.bool true) ∧ Below w.heap.size w w' := by
  go_enter Try.func73, Try.ntmps73
  go_wp2
  go_loopw [5] (fun i wr => ∃ k : Nat, k ≤ n ∧ i = .int .i64 k ∧ Below w.heap.size w wr) (fun i _ => n - (intOf i).toNat)
  case atStart => exact ⟨0, by omega, rfl, Below.refl _ _⟩
  case round =>
    obtain ⟨k, hk, rfl, hb⟩ := hrel
    by_cases hlt : k < n
    · have hA := h1.below hb
      have hB := h2.below hb
      have q0 := hA.cell hlt (j := 0) (by decide)
      have r0 := hB.cell hlt (j := 0) (by decide)
      have q1 := hA.cell hlt (j := 1) (by decide)
      have r1 := hB.cell hlt (j := 1) (by decide)
      have q2 := hA.cell hlt (j := 2) (by decide)
      have r2 := hB.cell hlt (j := 2) (by decide)
      have q3 := hA.cell hlt (j := 3) (by decide)
      have r3 := hB.cell hlt (j := 3) (by decide)
      have q4 := hA.cell hlt (j := 4) (by decide)
      have r4 := hB.cell hlt (j := 4) (by decide)
      have q5 := hA.cell hlt (j := 5) (by decide)
      have r5 := hB.cell hlt (j := 5) (by decide)
      have q6 := hA.cell hlt (j := 6) (by decide)
      have r6 := hB.cell hlt (j := 6) (by decide)
      have q7 := hA.cell hlt (j := 7) (by decide)
      have r7 := hB.cell hlt (j := 7) (by decide)
      have q8 := hA.cell hlt (j := 8) (by decide)
      have r8 := hB.cell hlt (j := 8) (by decide)
      have q9 := hA.cell hlt (j := 9) (by decide)
      have r9 := hB.cell hlt (j := 9) (by decide)
      have q10 := hA.cell hlt (j := 10) (by decide)
      have r10 := hB.cell hlt (j := 10) (by decide)
      have q11 := hA.cell hlt (j := 11) (by decide)
      have r11 := hB.cell hlt (j := 11) (by decide)
      have q12 := hA.cell hlt (j := 12) (by decide)
      have r12 := hB.cell hlt (j := 12) (by decide)
      have q13 := hA.cell hlt (j := 13) (by decide)
      have r13 := hB.cell hlt (j := 13) (by decide)
      have q14 := hA.cell hlt (j := 14) (by decide)
      have r14 := hB.cell hlt (j := 14) (by decide)
      have q15 := hA.cell hlt (j := 15) (by decide)
      have r15 := hB.cell hlt (j := 15) (by decide)
      have q16 := hA.cell hlt (j := 16) (by decide)
      have r16 := hB.cell hlt (j := 16) (by decide)
      simp only [Nat.add_zero] at q0 r0
      go_wp2_with fail
      go_quiet (fail)
      go_wp2
      go_roundw
      case rel => exact ⟨k + 1, by omega, by go_num, (by repeat (with_reducible (first | exact Below.refl _ _ | assumption | apply ext_drew | apply ext_drewN | apply ext_alloc | apply ext_more | (refine ext_setCell ?_ (by simp <;> omega) _) | (refine ext_below ?_ (by assumption)))))⟩
      case measure => simp [intOf]; omega
    · go_wp2
      go_ret
      exact ⟨rfl, hb⟩

end Go.Proofs.Ytfagkbmphohelaa
