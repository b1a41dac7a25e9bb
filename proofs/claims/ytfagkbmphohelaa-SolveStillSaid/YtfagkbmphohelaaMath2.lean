/- Laws of the plain numbers: no program in sight. Conditions: none. -/
import Derived.Test.YtfagkbmphohelaaMath
namespace Go.Proofs.Ytfagkbmphohelaa
/-! ### laws of the numbers -/
theorem sgn_zero (m : Bool) : sgn 0 m = 0 := by cases m <;> rfl
theorem sgn_not (u : Int) (m : Bool) : sgn u (!m) = -sgn u m := by cases m <;> simp [sgn]
theorem mul_negL (a b : Int) : mul (-cut a) b = -mul a b := by
  have e : mag (-cut a) = mag a := by rw [mag_neg, mag_cut]
  by_cases h : mag a = 0
  · unfold mul; rw [e, h]; simp [sgn_zero]
  · have g : ng (-cut a) = !ng a := by
      unfold ng; rw [cut_neg, cut_cut]
      have : cut a ≠ 0 := by intro h0; apply h; unfold mag; rw [h0]; simp
      by_cases h1 : cut a < 0
      · rw [decide_eq_true h1, decide_eq_false (by omega)]; rfl
      · rw [decide_eq_false h1, decide_eq_true (by omega)]; rfl
    unfold mul; rw [e, g, ← sgn_not]; congr 1; cases ng a <;> cases ng b <;> rfl
theorem root_mag (a : Int) : root (mag a) = (isq (mag a * 65536).toNat : Int) := by
  have h := mag_bd a
  have hc : cut (mag a) = mag a := cut_in (by omega) (by omega)
  have hm : mag (mag a) = mag a := by
    generalize mag a = x at *
    unfold mag; rw [hc, if_neg (by omega)]
  unfold root; rw [hc, hm, if_neg (by omega)]
theorem root_is (a : Int) : root (mag a) * root (mag a) ≤ mag a * 65536 ∧ mag a * 65536 < (root (mag a) + 1) * (root (mag a) + 1) := by
  have h := mag_bd a
  rw [root_mag]
  obtain ⟨h1, h2⟩ := isq_spec (v := (mag a * 65536).toNat) (by rw [show (2 : Nat) ^ 80 = 1208925819614629174706176 from by decide]; omega)
  generalize isq (mag a * 65536).toNat = r at *
  have e1 : (r : Int) * (r : Int) = ((r * r : Nat) : Int) := by push_cast; rfl
  have e2 : ((r : Int) + 1) * ((r : Int) + 1) = (((r + 1) * (r + 1) : Nat) : Int) := by push_cast; rfl
  rw [e1, e2]; omega
end Go.Proofs.Ytfagkbmphohelaa
