/- The contracts of the functions of package fx on numbers (and of the document's answers): each returns the plain number of XMath. Conditions: none but the ranges of the kinds. -/
import Derived.Test.YtfagkbmphohelaaRows
import Derived.Test.YtfagkbmphohelaaMath
import Derived.Test.YtfagkbmphohelaaShelf
import Derived.WalkKit
import Derived.WalkSpells
import Derived.WalkLawsBesides
import Derived.ProofKit
import Derived.Laws.BitsAllLaws
import Derived.RegionTactic
import Derived.ChangeAlike
import Derived.Deep.QuietTactic
import Derived.BigQuiet
import Derived.Lib.Hide
namespace Go.Proofs.Ytfagkbmphohelaa
open Go.ChangeShapes Go.WideShapes Go.ChangeAt Go.RowKit

theorem ri {k : IntKind} {a b : Int} (h : a = b) : Ending.returned (.int k a) = .returned (.int k b) := by rw [h]
theorem ri2 {k : IntKind} {a b : Int} {c d : Bool} (h : a = b) (g : c = d) : Ending.returned (.tuple #[.int k a, .bool c]) = .returned (.tuple #[.int k b, .bool d]) := by rw [h, g]
theorem rii {k l : IntKind} {a b c d : Int} (h : a = b) (g : c = d) : Ending.returned (.tuple #[.int k a, .int l c]) = .returned (.tuple #[.int k b, .int l d]) := by rw [h, g]
theorem rb {c d : Bool} (g : c = d) : Ending.returned (.bool c) = .returned (.bool d) := by rw [g]

theorem cut_c (n : Int) (w : World) : Calls Try.prog 46 #[.int .i64 n] w fun e w' => e = .returned (.int .i64 (cut n)) ∧ w = w' := by
  go_enter Try.func46, Try.ntmps46
  go_wp2
  all_goals
    go_ret
    exact ⟨ri (by unfold cut; repeat' split <;> omega), rfl⟩

theorem rcut_c (n : Int) (w : World) : Calls Try.prog 50 #[.int .i64 n] w fun e w' => e = .returned (.int .i64 (cut n)) ∧ w = w' := by
  go_enter Try.func50, Try.ntmps50
  go_wp2
  all_goals
    go_ret
    exact ⟨ri (by unfold cut; repeat' split <;> omega), rfl⟩

theorem add_c (a b : Int) (w : World) : Calls Try.prog 51 #[.int .i64 a, .int .i64 b] w fun e w' => e = .returned (.int .i64 (add a b)) ∧ w = w' := by
  obtain ⟨h1, h1'⟩ := cut_bd a
  obtain ⟨h2, h2'⟩ := cut_bd b
  go_enter Try.func51, Try.ntmps51
  go_wp2_with (go_at_call 46; refine (cut_c _ _).mono ?_; rintro e w' ⟨rfl, rfl⟩)
  go_ret
  exact ⟨rfl, rfl⟩
theorem radd_c (a b : Int) (w : World) : Calls Try.prog 52 #[.int .i64 a, .int .i64 b] w fun e w' => e = .returned (.int .i64 (add a b)) ∧ w = w' := by
  obtain ⟨h1, h1'⟩ := cut_bd a
  obtain ⟨h2, h2'⟩ := cut_bd b
  go_enter Try.func52, Try.ntmps52
  go_wp2_with (go_at_call 50; refine (rcut_c _ _).mono ?_; rintro e w' ⟨rfl, rfl⟩)
  go_ret
  exact ⟨rfl, rfl⟩
theorem sub_c (a b : Int) (w : World) : Calls Try.prog 49 #[.int .i64 a, .int .i64 b] w fun e w' => e = .returned (.int .i64 (sub a b)) ∧ w = w' := by
  obtain ⟨h1, h1'⟩ := cut_bd a
  obtain ⟨h2, h2'⟩ := cut_bd b
  go_enter Try.func49, Try.ntmps49
  go_wp2_with (go_at_call 46; refine (cut_c _ _).mono ?_; rintro e w' ⟨rfl, rfl⟩)
  go_ret
  exact ⟨rfl, rfl⟩
theorem rsub_c (a b : Int) (w : World) : Calls Try.prog 53 #[.int .i64 a, .int .i64 b] w fun e w' => e = .returned (.int .i64 (sub a b)) ∧ w = w' := by
  obtain ⟨h1, h1'⟩ := cut_bd a
  obtain ⟨h2, h2'⟩ := cut_bd b
  go_enter Try.func53, Try.ntmps53
  go_wp2_with (go_at_call 50; refine (rcut_c _ _).mono ?_; rintro e w' ⟨rfl, rfl⟩)
  go_ret
  exact ⟨rfl, rfl⟩

theorem magnitude_c (n : Int) (w : World) : Calls Try.prog 96 #[.int .i64 n] w fun e w' => e = .returned (.tuple #[.int .u64 (mag n), .bool (ng n)]) ∧ w = w' := by
  obtain ⟨h1, h2⟩ := cut_bd n
  by_cases h : cut n < 0
  · go_enter Try.func96, Try.ntmps96
    go_wp2_with (go_at_call 46; refine (cut_c _ _).mono ?_; rintro e w' ⟨rfl, rfl⟩)
    go_ret2
    exact ⟨ri2 (by rw [mag, if_pos h]) (by simp [ng, h]), rfl⟩
  · go_enter Try.func96, Try.ntmps96
    go_wp2_with (go_at_call 46; refine (cut_c _ _).mono ?_; rintro e w' ⟨rfl, rfl⟩)
    go_ret2
    exact ⟨ri2 (by rw [mag, if_neg (by omega)]) (by simp [ng]; omega), rfl⟩

/-- the document's sign: 1 or -1 -/
def si (m : Bool) : Int := if m then -1 else 1
theorem si_bd (m : Bool) : -1 ≤ si m ∧ si m ≤ 1 := by cases m <;> simp [si]
theorem abs_c (n : Int) (w : World) : Calls Try.prog 99 #[.int .i64 n] w fun e w' => e = .returned (.tuple #[.int .u64 (mag n), .int .i64 (si (ng n))]) ∧ w = w' := by
  obtain ⟨h1, h2⟩ := cut_bd n
  by_cases h : cut n < 0
  · go_enter Try.func99, Try.ntmps99
    go_wp2_with (go_at_call 50; refine (rcut_c _ _).mono ?_; rintro e w' ⟨rfl, rfl⟩)
    go_ret2
    exact ⟨rii (by rw [mag, if_pos h]) (by simp [si, ng, h]), rfl⟩
  · go_enter Try.func99, Try.ntmps99
    go_wp2_with (go_at_call 50; refine (rcut_c _ _).mono ?_; rintro e w' ⟨rfl, rfl⟩)
    go_ret2
    exact ⟨rii (by rw [mag, if_neg (by omega)]) (by simp [si, ng]; omega), rfl⟩

theorem signed_c (u : Int) (m : Bool) (h0 : 0 ≤ u) (h1 : u < 18446744073709551616) (w : World) : Calls Try.prog 98 #[.int .u64 u, .bool m] w fun e w' => e = .returned (.int .i64 (sgn u m)) ∧ w = w' := by
  by_cases h : u < 70368744177664
  all_goals
    cases m
    all_goals
      go_enter Try.func98, Try.ntmps98
      go_wp2
      go_ret
      exact ⟨ri (by unfold sgn; simp [h]; try omega), rfl⟩

theorem mul64_c (x y : Int) (hx : 0 ≤ x) (hx' : x < 18446744073709551616) (hy : 0 ≤ y) (hy' : y < 18446744073709551616) (w : World) : Calls Try.prog 97 #[.int .u64 x, .int .u64 y] w fun e w' => e = .returned (.tuple #[.int .u64 (mulHi x y), .int .u64 (mulLo x y)]) ∧ w = w' := by
  obtain ⟨x, rfl⟩ := Int.eq_ofNat_of_zero_le hx
  obtain ⟨y, rfl⟩ := Int.eq_ofNat_of_zero_le hy
  exact (Try.bits_Mul64 x y (by omega) (by omega) w).mono fun e w' ⟨h1, h2⟩ => ⟨by rw [h1]; rfl, h2.symm⟩

theorem mul_join (h l : Int) (h0 : 0 ≤ h) (h1 : h < 16384) (l0 : 0 ≤ l) (l1 : l < 18446744073709551616) :
    bits .or .u64 (h * 281474976710656) (l / 65536) = h * 281474976710656 + l / 65536 := by
  rw [u64_or _ _ (by omega) (by omega) (by omega) (by omega)]
  rw [nat_join 48 _ _ (by rw [show (2 : Nat) ^ 48 = 281474976710656 from rfl]; omega) (by rw [show (2 : Nat) ^ 48 = 281474976710656 from rfl]; omega)]
  omega

theorem mul_c (a b : Int) (w : World) : Calls Try.prog 48 #[.int .i64 a, .int .i64 b] w fun e w' => e = .returned (.int .i64 (mul a b)) ∧ w = w' := by
  obtain ⟨ha0, ha1⟩ := mag_bd a
  obtain ⟨hb0, hb1⟩ := mag_bd b
  have hp0 := mm_nonneg a b
  have hH : 0 ≤ mulHi (mag a) (mag b) := by unfold mulHi; omega
  have hL : 0 ≤ mulLo (mag a) (mag b) := by unfold mulLo; omega
  have hL' : mulLo (mag a) (mag b) < 18446744073709551616 := by unfold mulLo; omega
  have hj := mul_join (mulHi (mag a) (mag b)) (mulLo (mag a) (mag b))
  have hE : mulHi (mag a) (mag b) * 281474976710656 + mulLo (mag a) (mag b) / 65536 = mag a * mag b / 65536 := by unfold mulHi mulLo; omega
  have hG : 16384 ≤ mulHi (mag a) (mag b) → 70368744177664 ≤ mag a * mag b / 65536 := by unfold mulHi; omega
  have HE := Lib.hid hE
  have HG := Lib.hid hG
  have HJ := Lib.hid hj
  clear hE hG hj hp0
  by_cases h : 16384 ≤ mulHi (mag a) (mag b)
  · go_enter Try.func48, Try.ntmps48
    go_wp2_with (first | (go_at_call 96; refine (magnitude_c _ _).mono ?_; rintro e w' ⟨rfl, rfl⟩) | (go_at_call 97; refine (mul64_c _ _ (by omega) (by omega) (by omega) (by omega) _).mono ?_; rintro e w' ⟨rfl, rfl⟩) | (go_at_call 98; refine (signed_c _ _ (by omega) (by omega) _).mono ?_; rintro e w' ⟨rfl, rfl⟩))
    go_ret
    exact ⟨ri (by have := HG.out h; unfold mul sgn; rw [if_neg (show ¬ mag a * mag b / 65536 < 70368744177664 by omega)]; cases ng a <;> cases ng b <;> rfl), rfl⟩
  · go_enter Try.func48, Try.ntmps48
    go_wp2_with (first | (go_at_call 96; refine (magnitude_c _ _).mono ?_; rintro e w' ⟨rfl, rfl⟩) | (go_at_call 97; refine (mul64_c _ _ (by omega) (by omega) (by omega) (by omega) _).mono ?_; rintro e w' ⟨rfl, rfl⟩))
    rw [HJ.out hH (by omega) hL hL']
    refine (signed_c _ _ (by omega) (by omega) _).mono ?_
    rintro e w' ⟨rfl, rfl⟩
    go_wp2
    go_ret
    exact ⟨ri (by rw [HE.out]; unfold mul; cases ng a <;> cases ng b <;> rfl), rfl⟩

theorem sgn_si (u : Int) (m n : Bool) (h : 0 ≤ u) : si m * si n * cut u = sgn u (m != n) := by
  have : cut u = if u < 70368744177664 then u else 70368744177664 := by unfold cut; repeat' split <;> omega
  rw [this]; unfold sgn si; cases m <;> cases n <;> simp

theorem rmul_c (a b : Int) (w : World) : Calls Try.prog 54 #[.int .i64 a, .int .i64 b] w fun e w' => e = .returned (.int .i64 (mul a b)) ∧ w = w' := by
  obtain ⟨ha0, ha1⟩ := mag_bd a
  obtain ⟨hb0, hb1⟩ := mag_bd b
  obtain ⟨p0, p1, p2, p3, p4, p5, hE⟩ := mul_pieces (mag a) (mag b) ha0 ha1 hb0 hb1
  obtain ⟨sa0, sa1⟩ := si_bd (ng a)
  obtain ⟨sb0, sb1⟩ := si_bd (ng b)
  have hs : -1 ≤ si (ng a) * si (ng b) ∧ si (ng a) * si (ng b) ≤ 1 := by cases ng a <;> cases ng b <;> simp [si]
  obtain ⟨hs0, hs1⟩ := hs
  have hcT := cut_in (n := 70368744177664) (by omega) (by omega)
  have HE := Lib.hid hE
  have HT := Lib.hid hcT
  clear hE hcT
  have hF : ∀ u, 0 ≤ u → si (ng a) * si (ng b) * cut u = sgn u (ng a != ng b) := fun u h => sgn_si u _ _ h
  have HF := Lib.hid hF
  clear hF
  by_cases h2 : 0 < mag b / 65536 / 65536
  · have h2' : decide (0 < mag b / 65536 / 65536) = true := by simp; omega
    by_cases h : 2147483648 ≤ mag a * (mag b / 65536 / 65536)
    · have hf : si (ng a) * si (ng b) * 70368744177664 = mul a b := by
        have := HF.out 70368744177664 (by omega)
        rw [HT.out] at this; rw [this]; unfold mul sgn; rw [if_neg (show ¬ (mag a * mag b / 65536 < 70368744177664) by rw [HE.out]; omega)]; rfl
      have Hf := Lib.hid hf
      clear hf
      have hs2 : -70368744177664 ≤ si (ng a) * si (ng b) * 70368744177664 ∧ si (ng a) * si (ng b) * 70368744177664 ≤ 70368744177664 := by omega
      obtain ⟨hs2, hs3⟩ := hs2
      go_enter Try.func54, Try.ntmps54
      go_wp2_with (first | (go_at_call 99; refine (abs_c _ _).mono ?_; rintro e w' ⟨rfl, rfl⟩) | (go_at_call 50; refine (rcut_c _ _).mono ?_; rw [HT.out]; rintro e w' ⟨rfl, rfl⟩))
      go_ret
      exact ⟨ri Hf.out, rfl⟩
    · have hc0 : 0 ≤ mag a * (mag b % 65536) / 65536 + mag a * (mag b / 65536 % 65536) + mag a * (mag b / 65536 / 65536) * 65536 := by omega
      have hf : si (ng a) * si (ng b) * cut (mag a * (mag b % 65536) / 65536 + mag a * (mag b / 65536 % 65536) + mag a * (mag b / 65536 / 65536) * 65536) = mul a b := by
        rw [HF.out _ hc0]; unfold mul; rw [HE.out]
      have Hf := Lib.hid hf
      clear hf
      have hs2 := mul_bd a b
      rw [← Hf.out] at hs2
      obtain ⟨hs2, hs3⟩ := hs2
      go_enter Try.func54, Try.ntmps54
      go_wp2_with (first | (go_at_call 99; refine (abs_c _ _).mono ?_; rintro e w' ⟨rfl, rfl⟩) | (go_at_call 50; refine (rcut_c _ _).mono ?_; rintro e w' ⟨rfl, rfl⟩))
      go_ret
      exact ⟨ri Hf.out, rfl⟩
  · have h2' : decide (0 < mag b / 65536 / 65536) = false := by simp; omega
    have hz : mag a * (mag b / 65536 / 65536) ≤ 0 := by rw [show mag b / 65536 / 65536 = 0 from by omega]; simp
    have hc0 : 0 ≤ mag a * (mag b % 65536) / 65536 + mag a * (mag b / 65536 % 65536) + mag a * (mag b / 65536 / 65536) * 65536 := by omega
    have hf : si (ng a) * si (ng b) * cut (mag a * (mag b % 65536) / 65536 + mag a * (mag b / 65536 % 65536) + mag a * (mag b / 65536 / 65536) * 65536) = mul a b := by
      rw [HF.out _ hc0]; unfold mul; rw [HE.out]
    have Hf := Lib.hid hf
    clear hf
    have hs2 := mul_bd a b
    rw [← Hf.out] at hs2
    obtain ⟨hs2, hs3⟩ := hs2
    go_enter Try.func54, Try.ntmps54
    go_wp2_with (first | (go_at_call 99; refine (abs_c _ _).mono ?_; rintro e w' ⟨rfl, rfl⟩) | (go_at_call 50; refine (rcut_c _ _).mono ?_; rintro e w' ⟨rfl, rfl⟩))
    go_ret
    exact ⟨ri Hf.out, rfl⟩

/-- what math/bits.Div64 answers where the high word is 0 -/
theorem div64_c (y z : Int) (hy : 0 ≤ y) (hy' : y < 18446744073709551616) (hz : 1 ≤ z) (hz' : z < 18446744073709551616) (w : World) : Calls Try.prog 100 #[.int .u64 0, .int .u64 y, .int .u64 z] w fun e w' => e = .returned (.tuple #[.int .u64 (y / z), .int .u64 (y % z)]) ∧ w.drew = w' := by
  have h0 : (z == 0) = false := by rw [beq_eq_false_iff_ne]; omega
  go_enter Try.func100, Try.ntmps100
  go_wp2_with fail
  go_region
  all_goals
    go_wp2
    go_ret2
    exact ⟨rii rfl rfl, rfl⟩

end Go.Proofs.Ytfagkbmphohelaa
