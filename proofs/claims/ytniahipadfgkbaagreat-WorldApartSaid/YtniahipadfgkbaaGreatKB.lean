/- The contracts of the document's units and bounds of vectors. Conditions: none. -/
import Derived.Test.YtniahipadfgkbaaGreatRows
import Derived.Test.YtniahipadfgkbaaGreatShelf
import Derived.WalkKit
import Derived.WalkSpells
import Derived.WalkLawsBesides
import Derived.ProofKit
import Derived.Laws.BitsAllLaws
import Derived.RegionTactic
import Derived.ChangeAlike
import Derived.Deep.QuietTactic
import Derived.BigQuiet
import Derived.Lib.Hide
import Derived.Test.YtniahipadfgkbaaGreatKA
namespace Go.Proofs.YtniahipadfgkbaaGreat

/-! ### numbers -/
def cut (n : Int) : Int := if n > 70368744177664 then 70368744177664 else if n < -70368744177664 then -70368744177664 else n
theorem cut_bd (n : Int) : -70368744177664 ≤ cut n ∧ cut n ≤ 70368744177664 := by
  unfold cut; repeat' split <;> omega
theorem cut_in {n : Int} (h1 : -70368744177664 ≤ n) (h2 : n ≤ 70368744177664) : cut n = n := by
  unfold cut; rw [if_neg (by omega), if_neg (by omega)]
theorem cut_cut (n : Int) : cut (cut n) = cut n := cut_in (cut_bd n).1 (cut_bd n).2
def add (a b : Int) : Int := cut (cut a + cut b)
def sub (a b : Int) : Int := cut (cut a - cut b)
theorem add_bd (a b : Int) : -70368744177664 ≤ add a b ∧ add a b ≤ 70368744177664 := cut_bd _
theorem sub_bd (a b : Int) : -70368744177664 ≤ sub a b ∧ sub a b ≤ 70368744177664 := cut_bd _
/-- how great a number is, cut -/
def mag (n : Int) : Int := if cut n < 0 then -cut n else cut n
/-- is it below 0 -/
def ng (n : Int) : Bool := decide (cut n < 0)
theorem mag_bd (n : Int) : 0 ≤ mag n ∧ mag n ≤ 70368744177664 := by
  have := cut_bd n; unfold mag; split <;> omega
/-- a number with its sign, cut -/
def sgn (u : Int) (m : Bool) : Int := if m then -(if u < 70368744177664 then u else 70368744177664) else (if u < 70368744177664 then u else 70368744177664)
theorem sgn_bd {u : Int} (h : 0 ≤ u) (m : Bool) : -70368744177664 ≤ sgn u m ∧ sgn u m ≤ 70368744177664 := by
  unfold sgn; cases m <;> simp <;> split <;> omega

def mul (a b : Int) : Int := sgn (mag a * mag b / 65536) (ng a != ng b)
def div (a b : Int) : Int := if mag b = 0 then (if mag a = 0 then 0 else sgn 70368744177664 (ng a)) else sgn (mag a * 65536 / mag b) (ng a != ng b)

theorem mm_nonneg (a b : Int) : 0 ≤ mag a * mag b := Int.mul_nonneg (mag_bd a).1 (mag_bd b).1
theorem mul_bd (a b : Int) : -70368744177664 ≤ mul a b ∧ mul a b ≤ 70368744177664 :=
  sgn_bd (by have := mm_nonneg a b; omega) _
theorem div_bd (a b : Int) : -70368744177664 ≤ div a b ∧ div a b ≤ 70368744177664 := by
  unfold div
  split
  · split
    · omega
    · exact sgn_bd (by omega) _
  · exact sgn_bd (Int.ediv_nonneg (by have := mag_bd a; omega) (mag_bd b).1) _
/-! ### roots -/
def isqF : Nat → Nat → Nat
  | 0, _ => 0
  | k + 1, v => if (2 * isqF k (v / 4) + 1) * (2 * isqF k (v / 4) + 1) ≤ v then 2 * isqF k (v / 4) + 1 else 2 * isqF k (v / 4)
theorem isqF_spec (k : Nat) : ∀ v, v < 4 ^ k → isqF k v * isqF k v ≤ v ∧ v < (isqF k v + 1) * (isqF k v + 1) := by
  induction k with
  | zero => intro v h; simp at h; subst h; simp [isqF]
  | succ k ih =>
    intro v h
    obtain ⟨h1, h2⟩ := ih (v / 4) (by rw [Nat.pow_succ] at h; omega)
    simp only [isqF]
    generalize isqF k (v / 4) = r at *
    have e1 : (2 * r) * (2 * r) = 4 * (r * r) := by rw [Nat.mul_mul_mul_comm]
    have e2 : (2 * r + 1 + 1) * (2 * r + 1 + 1) = 4 * ((r + 1) * (r + 1)) := by
      rw [show 2 * r + 1 + 1 = 2 * (r + 1) from by omega, Nat.mul_mul_mul_comm]
    split
    · rename_i hc
      exact ⟨hc, by omega⟩
    · rename_i hc
      exact ⟨by omega, by omega⟩
/-- the root, rounded down -/
def isq (v : Nat) : Nat := isqF 40 v
theorem isq_spec {v : Nat} (h : v < 2 ^ 80) : isq v * isq v ≤ v ∧ v < (isq v + 1) * (isq v + 1) := isqF_spec 40 v (by rw [show (4 : Nat) ^ 40 = 2 ^ 80 from by decide]; exact h)
theorem isq_uniq {v r : Nat} (h : v < 2 ^ 80) (h1 : r * r ≤ v) (h2 : v < (r + 1) * (r + 1)) : r = isq v := by
  obtain ⟨h3, h4⟩ := isq_spec h
  rcases Nat.lt_trichotomy r (isq v) with hlt | he | hgt
  · have := Nat.mul_le_mul (show r + 1 ≤ isq v from hlt) (show r + 1 ≤ isq v from hlt); omega
  · exact he
  · have := Nat.mul_le_mul (show isq v + 1 ≤ r from hgt) (show isq v + 1 ≤ r from hgt); omega
theorem isq_zero : isq (0 * 65536 : Int).toNat = 0 := (isq_uniq (by decide) (by decide) (by decide)).symm
def root (n : Int) : Int := if cut n < 0 then 0 else (isq ((mag n * 65536).toNat) : Int)
/-! ### products and quotients by pieces -/
def mulHi (x y : Int) : Int := x * y / 18446744073709551616
def mulLo (x y : Int) : Int := x * y % 18446744073709551616
/-! ### the root, bit by bit, and by halves -/
/-- r is the root down to the bit that is twice b -/
def RI (v r b : Int) : Prop := ∃ k m : Nat, k ≤ 32 ∧ r = ((m * 2 ^ k : Nat) : Int) ∧ b = ((2 ^ k / 2 : Nat) : Int) ∧ m * 2 ^ k + 2 ^ k ≤ 4294967296 ∧ r * r ≤ v ∧ v < (r + ((2 ^ k : Nat) : Int)) * (r + ((2 ^ k : Nat) : Int))
theorem RI_start (v : Int) (h0 : 0 ≤ v) (h1 : v ≤ 4611686018427387904) : RI v 0 2147483648 :=
  ⟨32, 0, by omega, by simp, by decide, by decide, by omega, by simp; omega⟩
theorem RI_bd {v r b : Int} (h : RI v r b) : 0 ≤ r ∧ r ≤ 4294967295 ∧ 0 ≤ b ∧ b ≤ 2147483648 ∧ r + b ≤ 4294967295 ∧ 0 ≤ (r + b) * (r + b) ∧ (r + b) * (r + b) ≤ 18446744065119617025 := by
  obtain ⟨k, m, hk, rfl, rfl, h2, _, _⟩ := h
  have hp : 2 ^ k ≤ 2 ^ 32 := Nat.pow_le_pow_right (by decide) hk
  have hq : 0 < 2 ^ k := Nat.pow_pos (by decide)
  generalize 2 ^ k = p at *
  generalize m * p = r at *
  have h3 : r + p / 2 ≤ 4294967295 := by omega
  have h4 := Nat.mul_le_mul h3 h3
  have e : ((r : Int) + ((p / 2 : Nat) : Int)) * ((r : Int) + ((p / 2 : Nat) : Int)) = (((r + p / 2) * (r + p / 2) : Nat) : Int) := by simp
  rw [e]
  refine ⟨by omega, by omega, by omega, by omega, by omega, by omega, by omega⟩
theorem RI_even {v r b : Int} (h : RI v r b) (hb : 0 < b) : ∃ k : Nat, b.toNat = 2 ^ k ∧ r.toNat % 2 ^ (k + 1) = 0 := by
  obtain ⟨k, m, hk, rfl, rfl, h2, _, _⟩ := h
  cases k with
  | zero => simp at hb
  | succ k =>
    refine ⟨k, ?_, ?_⟩
    · rw [Int.toNat_natCast, Nat.pow_succ]; omega
    · rw [Int.toNat_natCast]; exact Nat.mul_mod_left _ _
theorem RI_yes {v r b : Int} (h : RI v r b) (hb : 0 < b) (ht : (r + b) * (r + b) ≤ v) : RI v (r + b) (b / 2) := by
  obtain ⟨k, m, hk, hr, hb', h2, h3, h4⟩ := h
  cases k with
  | zero => subst hb'; simp at hb
  | succ k =>
    have e : 2 ^ (k + 1) = 2 * 2 ^ k := by rw [Nat.pow_succ, Nat.mul_comm]
    have e1 : (2 * m + 1) * 2 ^ k = m * 2 ^ (k + 1) + 2 ^ k := by rw [e, Nat.add_mul, Nat.one_mul, Nat.mul_comm 2 m, Nat.mul_assoc]
    have eb : b = ((2 ^ k : Nat) : Int) := by rw [hb', e]; congr 1; omega
    refine ⟨k, 2 * m + 1, by omega, ?_, ?_, ?_, ht, ?_⟩
    · rw [e1, hr, eb]; push_cast; rfl
    · rw [eb]; omega
    · rw [e1]; omega
    · have : r + b + ((2 ^ k : Nat) : Int) = r + ((2 ^ (k + 1) : Nat) : Int) := by rw [eb, e]; push_cast; omega
      rw [this]; exact h4
theorem RI_no {v r b : Int} (h : RI v r b) (hb : 0 < b) (ht : ¬ (r + b) * (r + b) ≤ v) : RI v r (b / 2) := by
  obtain ⟨k, m, hk, hr, hb', h2, h3, h4⟩ := h
  cases k with
  | zero => subst hb'; simp at hb
  | succ k =>
    have e : 2 ^ (k + 1) = 2 * 2 ^ k := by rw [Nat.pow_succ, Nat.mul_comm]
    have e1 : 2 * m * 2 ^ k = m * 2 ^ (k + 1) := by rw [e, Nat.mul_comm 2 m, Nat.mul_assoc]
    have eb : b = ((2 ^ k : Nat) : Int) := by rw [hb', e]; congr 1; omega
    refine ⟨k, 2 * m, by omega, ?_, ?_, ?_, h3, ?_⟩
    · rw [e1, hr]
    · rw [eb]; omega
    · rw [e1]; omega
    · rw [← eb]; omega
theorem RI_end {v r b : Int} (h : RI v r b) (hb : ¬ 0 < b) (hv : v < 1208925819614629174706176) : r = (isq v.toNat : Int) := by
  obtain ⟨k, m, hk, rfl, hb', h2, h3, h4⟩ := h
  cases k with
  | zero =>
    simp only [Nat.pow_zero, Nat.mul_one] at *
    have h0 : 0 ≤ (m : Int) * (m : Int) := by rw [← Int.natCast_mul]; omega
    congr 1
    refine isq_uniq (v := v.toNat) (by rw [show (2 : Nat) ^ 80 = 1208925819614629174706176 from by decide]; omega) ?_ ?_
    · rw [← Int.natCast_mul] at h3; omega
    · have : ((m : Int) + ((1 : Nat) : Int)) * ((m : Int) + ((1 : Nat) : Int)) = (((m + 1) * (m + 1) : Nat) : Int) := by push_cast; rfl
      rw [this] at h4; omega
  | succ k =>
    exfalso; apply hb; rw [hb']
    have : 0 < 2 ^ k := Nat.pow_pos (by decide)
    rw [Nat.pow_succ]; omega
/-- the root is within two bounds -/
def HI (v l h : Int) : Prop := 0 ≤ l ∧ l ≤ h ∧ h ≤ 2147483648 ∧ l * l ≤ v ∧ v < (h + 1) * (h + 1)
end Go.Proofs.YtniahipadfgkbaaGreat
namespace Go.Proofs.YtniahipadfgkbaaGreat
open Go.ChangeShapes Go.WideShapes Go.ChangeAt Go.RowKit

theorem ri {k : IntKind} {a b : Int} (h : a = b) : Ending.returned (.int k a) = .returned (.int k b) := by rw [h]
theorem ri2 {k : IntKind} {a b : Int} {c d : Bool} (h : a = b) (g : c = d) : Ending.returned (.tuple #[.int k a, .bool c]) = .returned (.tuple #[.int k b, .bool d]) := by rw [h, g]
theorem rii {k l : IntKind} {a b c d : Int} (h : a = b) (g : c = d) : Ending.returned (.tuple #[.int k a, .int l c]) = .returned (.tuple #[.int k b, .int l d]) := by rw [h, g]
theorem rb {c d : Bool} (g : c = d) : Ending.returned (.bool c) = .returned (.bool d) := by rw [g]

theorem cut_c (n : Int) (w : World) : Calls Tryz.prog 50 #[.int .i64 n] w fun e w' => e = .returned (.int .i64 (cut n)) ∧ w = w' := by
  go_enter Tryz.func50, Tryz.ntmps50
  go_wp2
  all_goals
    go_ret
    exact ⟨ri (by unfold cut; repeat' split <;> omega), rfl⟩

theorem add_c (a b : Int) (w : World) : Calls Tryz.prog 26 #[.int .i64 a, .int .i64 b] w fun e w' => e = .returned (.int .i64 (add a b)) ∧ w = w' := by
  obtain ⟨h1, h1'⟩ := cut_bd a
  obtain ⟨h2, h2'⟩ := cut_bd b
  go_enter Tryz.func26, Tryz.ntmps26
  go_wp2_with (go_at_call 50; refine (cut_c _ _).mono ?_; rintro e w' ⟨rfl, rfl⟩)
  go_ret
  exact ⟨rfl, rfl⟩
theorem sub_c (a b : Int) (w : World) : Calls Tryz.prog 38 #[.int .i64 a, .int .i64 b] w fun e w' => e = .returned (.int .i64 (sub a b)) ∧ w = w' := by
  obtain ⟨h1, h1'⟩ := cut_bd a
  obtain ⟨h2, h2'⟩ := cut_bd b
  go_enter Tryz.func38, Tryz.ntmps38
  go_wp2_with (go_at_call 50; refine (cut_c _ _).mono ?_; rintro e w' ⟨rfl, rfl⟩)
  go_ret
  exact ⟨rfl, rfl⟩
theorem magnitude_c (n : Int) (w : World) : Calls Tryz.prog 70 #[.int .i64 n] w fun e w' => e = .returned (.tuple #[.int .u64 (mag n), .bool (ng n)]) ∧ w = w' := by
  obtain ⟨h1, h2⟩ := cut_bd n
  by_cases h : cut n < 0
  · go_enter Tryz.func70, Tryz.ntmps70
    go_wp2_with (go_at_call 50; refine (cut_c _ _).mono ?_; rintro e w' ⟨rfl, rfl⟩)
    go_ret2
    exact ⟨ri2 (by rw [mag, if_pos h]) (by simp [ng, h]), rfl⟩
  · go_enter Tryz.func70, Tryz.ntmps70
    go_wp2_with (go_at_call 50; refine (cut_c _ _).mono ?_; rintro e w' ⟨rfl, rfl⟩)
    go_ret2
    exact ⟨ri2 (by rw [mag, if_neg (by omega)]) (by simp [ng]; omega), rfl⟩

theorem signed_c (u : Int) (m : Bool) (h0 : 0 ≤ u) (h1 : u < 18446744073709551616) (w : World) : Calls Tryz.prog 71 #[.int .u64 u, .bool m] w fun e w' => e = .returned (.int .i64 (sgn u m)) ∧ w = w' := by
  by_cases h : u < 70368744177664
  all_goals
    cases m
    all_goals
      go_enter Tryz.func71, Tryz.ntmps71
      go_wp2
      go_ret
      exact ⟨ri (by unfold sgn; simp [h]; try omega), rfl⟩

theorem mul64_c (x y : Int) (hx : 0 ≤ x) (hx' : x < 18446744073709551616) (hy : 0 ≤ y) (hy' : y < 18446744073709551616) (w : World) : Calls Tryz.prog 73 #[.int .u64 x, .int .u64 y] w fun e w' => e = .returned (.tuple #[.int .u64 (mulHi x y), .int .u64 (mulLo x y)]) ∧ w = w' := by
  obtain ⟨x, rfl⟩ := Int.eq_ofNat_of_zero_le hx
  obtain ⟨y, rfl⟩ := Int.eq_ofNat_of_zero_le hy
  exact (Tryz.bits_Mul64 x y (by omega) (by omega) w).mono fun e w' ⟨h1, h2⟩ => ⟨by rw [h1]; rfl, h2.symm⟩

theorem mul_join (h l : Int) (h0 : 0 ≤ h) (h1 : h < 16384) (l0 : 0 ≤ l) (l1 : l < 18446744073709551616) :
    bits .or .u64 (h * 281474976710656) (l / 65536) = h * 281474976710656 + l / 65536 := by
  rw [u64_or _ _ (by omega) (by omega) (by omega) (by omega)]
  rw [nat_join 48 _ _ (by rw [show (2 : Nat) ^ 48 = 281474976710656 from rfl]; omega) (by rw [show (2 : Nat) ^ 48 = 281474976710656 from rfl]; omega)]
  omega

theorem mul_c (a b : Int) (w : World) : Calls Tryz.prog 41 #[.int .i64 a, .int .i64 b] w fun e w' => e = .returned (.int .i64 (mul a b)) ∧ w = w' := by
  obtain ⟨ha0, ha1⟩ := mag_bd a
  obtain ⟨hb0, hb1⟩ := mag_bd b
  have hp0 := mm_nonneg a b
  have hH : 0 ≤ mulHi (mag a) (mag b) := by unfold mulHi; omega
  have hL : 0 ≤ mulLo (mag a) (mag b) := by unfold mulLo; omega
  have hL' : mulLo (mag a) (mag b) < 18446744073709551616 := by unfold mulLo; omega
  have hj := mul_join (mulHi (mag a) (mag b)) (mulLo (mag a) (mag b))
  have hE : mulHi (mag a) (mag b) * 281474976710656 + mulLo (mag a) (mag b) / 65536 = mag a * mag b / 65536 := by unfold mulHi mulLo; omega
  have hG : 16384 ≤ mulHi (mag a) (mag b) → 70368744177664 ≤ mag a * mag b / 65536 := by unfold mulHi; omega
  have HE := Lib.hid hE
  have HG := Lib.hid hG
  have HJ := Lib.hid hj
  clear hE hG hj hp0
  by_cases h : 16384 ≤ mulHi (mag a) (mag b)
  · go_enter Tryz.func41, Tryz.ntmps41
    go_wp2_with (first | (go_at_call 70; refine (magnitude_c _ _).mono ?_; rintro e w' ⟨rfl, rfl⟩) | (go_at_call 73; refine (mul64_c _ _ (by omega) (by omega) (by omega) (by omega) _).mono ?_; rintro e w' ⟨rfl, rfl⟩) | (go_at_call 71; refine (signed_c _ _ (by omega) (by omega) _).mono ?_; rintro e w' ⟨rfl, rfl⟩))
    go_ret
    exact ⟨ri (by have := HG.out h; unfold mul sgn; rw [if_neg (show ¬ mag a * mag b / 65536 < 70368744177664 by omega)]; cases ng a <;> cases ng b <;> rfl), rfl⟩
  · go_enter Tryz.func41, Tryz.ntmps41
    go_wp2_with (first | (go_at_call 70; refine (magnitude_c _ _).mono ?_; rintro e w' ⟨rfl, rfl⟩) | (go_at_call 73; refine (mul64_c _ _ (by omega) (by omega) (by omega) (by omega) _).mono ?_; rintro e w' ⟨rfl, rfl⟩))
    rw [HJ.out hH (by omega) hL hL']
    refine (signed_c _ _ (by omega) (by omega) _).mono ?_
    rintro e w' ⟨rfl, rfl⟩
    go_wp2
    go_ret
    exact ⟨ri (by rw [HE.out]; unfold mul; cases ng a <;> cases ng b <;> rfl), rfl⟩

/-- what math/bits.Div64 answers where the high word is 0 -/
theorem div64_c (y z : Int) (hy : 0 ≤ y) (hy' : y < 18446744073709551616) (hz : 1 ≤ z) (hz' : z < 18446744073709551616) (w : World) : Calls Tryz.prog 72 #[.int .u64 0, .int .u64 y, .int .u64 z] w fun e w' => e = .returned (.tuple #[.int .u64 (y / z), .int .u64 (y % z)]) ∧ w.drew = w' := by
  have h0 : (z == 0) = false := by rw [beq_eq_false_iff_ne]; omega
  go_enter Tryz.func72, Tryz.ntmps72
  go_wp2_with fail
  go_region
  all_goals
    go_wp2
    go_ret2
    exact ⟨rii rfl rfl, rfl⟩

end Go.Proofs.YtniahipadfgkbaaGreat
namespace Go.Proofs.YtniahipadfgkbaaGreat
open Go.ChangeShapes Go.WideShapes Go.ChangeAt Go.RowKit

theorem div_c (a b : Int) (w : World) : Calls Tryz.prog 37 #[.int .i64 a, .int .i64 b] w fun e w' => e = .returned (.int .i64 (div a b)) ∧ ∃ q, w' = w.drewN q := by
  obtain ⟨ha0, ha1⟩ := mag_bd a
  obtain ⟨hb0, hb1⟩ := mag_bd b
  have hz : mag a / 281474976710656 = 0 := by omega
  by_cases h : mag b = 0
  · have hB : (mag b == 0) = true := by rw [beq_iff_eq]; exact h
    by_cases g : mag a = 0
    · have hA : (mag a == 0) = true := by rw [beq_iff_eq]; exact g
      have Hf := Lib.hid (show 0 = div a b by unfold div; rw [if_pos h, if_pos g])
      clear h g hz
      go_enter Tryz.func37, Tryz.ntmps37
      go_wp2_with (go_at_call 70; refine (magnitude_c _ _).mono ?_; rintro e w' ⟨rfl, rfl⟩)
      go_ret
      exact ⟨ri Hf.out, 0, rfl⟩
    · have hA : (mag a == 0) = false := by rw [beq_eq_false_iff_ne]; exact g
      have Hf := Lib.hid (show sgn 70368744177664 (ng a) = div a b by unfold div; rw [if_pos h, if_neg g])
      clear h g hz
      go_enter Tryz.func37, Tryz.ntmps37
      go_wp2_with (first | (go_at_call 70; refine (magnitude_c _ _).mono ?_; rintro e w' ⟨rfl, rfl⟩) | (go_at_call 71; refine (signed_c _ _ (by omega) (by omega) _).mono ?_; rintro e w' ⟨rfl, rfl⟩))
      go_ret
      exact ⟨ri Hf.out, 0, rfl⟩
  · have hB : (mag b == 0) = false := by rw [beq_eq_false_iff_ne]; exact h
    have hb2 : 1 ≤ mag b := by omega
    have hq0 : 0 ≤ mag a * 65536 / mag b := Int.ediv_nonneg (by omega) hb0
    have hq1 : mag a * 65536 / mag b < 18446744073709551616 := Int.lt_of_le_of_lt (Int.ediv_le_self _ (by omega)) (by omega)
    have Hf := Lib.hid (show sgn (mag a * 65536 / mag b) (ng a != ng b) = div a b by unfold div; rw [if_neg h])
    clear h
    go_enter Tryz.func37, Tryz.ntmps37
    go_wp2_with (first | (go_at_call 70; refine (magnitude_c _ _).mono ?_; rintro e w' ⟨rfl, rfl⟩) | (go_at_call 72; refine (div64_c _ _ (by omega) (by omega) (by omega) (by omega) _).mono ?_; rintro e w' ⟨rfl, rfl⟩) | (go_at_call 71; refine (signed_c _ _ (by omega) (by omega) _).mono ?_; rintro e w' ⟨rfl, rfl⟩))
    go_ret
    exact ⟨ri (by rw [← Hf.out]; congr 1), 1, rfl⟩

theorem RI_or {v r b : Int} (h : RI v r b) (hb : 0 < b) : bits .or .u64 r b = r + b := by
  obtain ⟨h1, h2, h3, h4, _⟩ := RI_bd h
  obtain ⟨k, e1, e2⟩ := RI_even h hb
  rw [u64_or _ _ (by omega) (by omega) (by omega) (by omega), nat_join (k + 1) _ _ e2 (by rw [e1, Nat.pow_succ]; have := Nat.pow_pos (n := k) (show 0 < 2 by decide); omega)]
  omega

theorem root_c (n : Int) (w : World) : Calls Tryz.prog 84 #[.int .i64 n] w fun e w' => e = .returned (.int .i64 (root n)) ∧ w = w' := by
  obtain ⟨ha0, ha1⟩ := mag_bd n
  cases hg : ng n with
  | true =>
    have Hf := Lib.hid (show 0 = root n by unfold root; rw [if_pos (by simpa [ng] using hg)])
    go_enter Tryz.func84, Tryz.ntmps84
    go_wp2_with (go_at_call 70; refine (magnitude_c _ _).mono ?_; rintro e w' ⟨rfl, rfl⟩)
    go_ret
    exact ⟨ri Hf.out, rfl⟩
  | false =>
    have hn : ¬ cut n < 0 := by simpa [ng] using hg
    by_cases h : mag n = 0
    · have hB : (mag n == 0) = true := by rw [beq_iff_eq]; exact h
      have Hf := Lib.hid (show 0 = root n by unfold root; rw [if_neg hn, h]; exact (congrArg Int.ofNat isq_zero).symm)
      clear h hn
      go_enter Tryz.func84, Tryz.ntmps84
      go_wp2_with (go_at_call 70; refine (magnitude_c _ _).mono ?_; rintro e w' ⟨rfl, rfl⟩)
      go_ret
      exact ⟨ri Hf.out, rfl⟩
    · have hB : (mag n == 0) = false := by rw [beq_eq_false_iff_ne]; exact h
      have Hf := Lib.hid (show (isq (mag n * 65536).toNat : Int) = root n by unfold root; rw [if_neg hn])
      clear h hn
      go_enter Tryz.func84, Tryz.ntmps84
      go_wp2_with (go_at_call 70; refine (magnitude_c _ _).mono ?_; rintro e w' ⟨rfl, rfl⟩)
      go_loop [6, 7, 8] (fun r b _ => ∃ ri bi : Int, RI (mag n * 65536) ri bi ∧ r = .int .u64 ri ∧ b = .int .u64 bi) (fun _ b _ => (intOf b).toNat)
      case atStart => exact ⟨0, 2147483648, RI_start _ (by omega) (by omega), rfl, rfl⟩
      case round =>
        obtain ⟨r, b, HR, rfl, rfl⟩ := hrel
        obtain ⟨k1, k2, k3, k4, k5, k6, k7⟩ := RI_bd HR
        by_cases hb : 0 < b
        · have hor := RI_or HR hb
          by_cases ht : (r + b) * (r + b) ≤ mag n * 65536
          · have HN := RI_yes HR hb ht
            go_wp2
            go_round
            case rel => exact ⟨_, _, HN, rfl, rfl⟩
            case measure => simp [intOf]; omega
          · have HN := RI_no HR hb ht
            go_wp2
            go_round
            case rel => exact ⟨_, _, HN, rfl, rfl⟩
            case measure => simp [intOf]; omega
        · have HE := Lib.hid (RI_end HR hb (by omega))
          go_wp2
          go_ret
          exact ⟨ri (by rw [HE.out]; exact Hf.out), rfl⟩

end Go.Proofs.YtniahipadfgkbaaGreat
namespace Go.Proofs.YtniahipadfgkbaaGreat
open Go.ChangeShapes Go.WideShapes Go.ChangeAt Go.RowKit Go.BigFrame

theorem plus_c (a1 a2 a3 b1 b2 b3 : Int) (w : World) : Calls Tryz.prog 13 #[.agg #[.int .i64 a1, .int .i64 a2, .int .i64 a3], .agg #[.int .i64 b1, .int .i64 b2, .int .i64 b3]] w fun e w' => e = .returned (.agg #[.int .i64 (add a1 b1), .int .i64 (add a2 b2), .int .i64 (add a3 b3)]) ∧ Below w.heap.size w w' := by
  have hmc := more_cell
  have hmf := more_frozen
  have hml := more_lt
  go_enter Tryz.func13, Tryz.ntmps13
  go_wp2
  refine region_quiet_but 16 (by kernel_rfl) (by kernel_rfl) ?_
  simp only [List.take_succ_cons, List.take_zero, List.drop_succ_cons, List.drop_zero]
  repeat (go_big_quiet_step ((go_at_call 26; exact calls_after_same (add_c _ _ _))))
  refine wpQuiet_nil ?_
  rintro _ ⟨m, rfl⟩
  go_wp2
  exact bodyPost_ret (v := .agg #[.int .i64 (add a1 b1), .int .i64 (add a2 b2), .int .i64 (add a3 b3)]) (by simp [results, Tryz.results13, go_sem, *]) rfl ⟨rfl, (by repeat (first | exact Below.refl _ _ | assumption | apply ext_drew | (refine ext_below ?_ (by assumption)) | apply ext_drewN | apply ext_alloc | apply ext_more | (refine ext_setCell ?_ (by simp <;> omega) _)))⟩

theorem minus_c (a1 a2 a3 b1 b2 b3 : Int) (w : World) : Calls Tryz.prog 39 #[.agg #[.int .i64 a1, .int .i64 a2, .int .i64 a3], .agg #[.int .i64 b1, .int .i64 b2, .int .i64 b3]] w fun e w' => e = .returned (.agg #[.int .i64 (sub a1 b1), .int .i64 (sub a2 b2), .int .i64 (sub a3 b3)]) ∧ Below w.heap.size w w' := by
  have hmc := more_cell
  have hmf := more_frozen
  have hml := more_lt
  go_enter Tryz.func39, Tryz.ntmps39
  go_wp2
  refine region_quiet_but 16 (by kernel_rfl) (by kernel_rfl) ?_
  simp only [List.take_succ_cons, List.take_zero, List.drop_succ_cons, List.drop_zero]
  repeat (go_big_quiet_step ((go_at_call 38; exact calls_after_same (sub_c _ _ _))))
  refine wpQuiet_nil ?_
  rintro _ ⟨m, rfl⟩
  go_wp2
  exact bodyPost_ret (v := .agg #[.int .i64 (sub a1 b1), .int .i64 (sub a2 b2), .int .i64 (sub a3 b3)]) (by simp [results, Tryz.results39, go_sem, *]) rfl ⟨rfl, (by repeat (first | exact Below.refl _ _ | assumption | apply ext_drew | (refine ext_below ?_ (by assumption)) | apply ext_drewN | apply ext_alloc | apply ext_more | (refine ext_setCell ?_ (by simp <;> omega) _)))⟩

theorem times_c (a1 a2 a3 k : Int) (w : World) : Calls Tryz.prog 40 #[.agg #[.int .i64 a1, .int .i64 a2, .int .i64 a3], .int .i64 k] w fun e w' => e = .returned (.agg #[.int .i64 (mul a1 k), .int .i64 (mul a2 k), .int .i64 (mul a3 k)]) ∧ Below w.heap.size w w' := by
  have hmc := more_cell
  have hmf := more_frozen
  have hml := more_lt
  go_enter Tryz.func40, Tryz.ntmps40
  go_wp2
  refine region_quiet_but 13 (by kernel_rfl) (by kernel_rfl) ?_
  simp only [List.take_succ_cons, List.take_zero, List.drop_succ_cons, List.drop_zero]
  repeat (go_big_quiet_step ((go_at_call 41; exact calls_after_same (mul_c _ _ _))))
  refine wpQuiet_nil ?_
  rintro _ ⟨m, rfl⟩
  go_wp2
  exact bodyPost_ret (v := .agg #[.int .i64 (mul a1 k), .int .i64 (mul a2 k), .int .i64 (mul a3 k)]) (by simp [results, Tryz.results40, go_sem, *]) rfl ⟨rfl, (by repeat (first | exact Below.refl _ _ | assumption | apply ext_drew | (refine ext_below ?_ (by assumption)) | apply ext_drewN | apply ext_alloc | apply ext_more | (refine ext_setCell ?_ (by simp <;> omega) _)))⟩

def dot (a1 a2 a3 b1 b2 b3 : Int) : Int := add (add (mul a1 b1) (mul a2 b2)) (mul a3 b3)
def long (a1 a2 a3 : Int) : Int := root (dot a1 a2 a3 a1 a2 a3)

theorem dot_c (a1 a2 a3 b1 b2 b3 : Int) (w : World) : Calls Tryz.prog 66 #[.agg #[.int .i64 a1, .int .i64 a2, .int .i64 a3], .agg #[.int .i64 b1, .int .i64 b2, .int .i64 b3]] w fun e w' => e = .returned (.int .i64 (dot a1 a2 a3 b1 b2 b3)) ∧ Below w.heap.size w w' := by
  have hmc := more_cell
  have hmf := more_frozen
  have hml := more_lt
  go_enter Tryz.func66, Tryz.ntmps66
  go_wp2
  refine region_quiet_all (by kernel_rfl) (by kernel_rfl) ?_
  repeat (go_big_quiet_step (first | (go_at_call 41; exact calls_after_same (mul_c _ _ _)) | (go_at_call 26; exact calls_after_same (add_c _ _ _))))
  refine wpQuiet_nil ?_
  rintro _ ⟨m, rfl⟩
  go_wp2
  go_ret
  exact ⟨rfl, (by repeat (first | exact Below.refl _ _ | assumption | apply ext_drew | (refine ext_below ?_ (by assumption)) | apply ext_drewN | apply ext_alloc | apply ext_more | (refine ext_setCell ?_ (by simp <;> omega) _)))⟩

theorem long_c (a1 a2 a3 : Int) (w : World) : Calls Tryz.prog 68 #[.agg #[.int .i64 a1, .int .i64 a2, .int .i64 a3]] w fun e w' => e = .returned (.int .i64 (long a1 a2 a3)) ∧ Below w.heap.size w w' := by
  have hmc := more_cell
  have hmf := more_frozen
  have hml := more_lt
  go_enter Tryz.func68, Tryz.ntmps68
  go_wp2_with (first | (go_at_call 66; refine (dot_c _ _ _ _ _ _ _).mono ?_; rintro e w' ⟨rfl, hb⟩; have hb' := hb.size) | (go_at_call 84; refine (root_c _ _).mono ?_; rintro e w' ⟨rfl, rfl⟩))
  go_ret
  exact ⟨rfl, ext_below (ext_alloc (Below.refl _ _) _) hb⟩

def unit1 (a1 a2 a3 : Int) : Int := if long a1 a2 a3 = 0 then 0 else div a1 (long a1 a2 a3)
def unit2 (a1 a2 a3 : Int) : Int := if long a1 a2 a3 = 0 then 65536 else div a2 (long a1 a2 a3)
def unit3 (a1 a2 a3 : Int) : Int := if long a1 a2 a3 = 0 then 0 else div a3 (long a1 a2 a3)
/-- within m -/
def clampP (m n : Int) : Int := if n > m then m else if n < -m then -m else n
/-- within most -/
def clamp (most n : Int) : Int := clampP (max most 0) n
theorem clampP_bd (m n : Int) (h : 0 ≤ m) : -m ≤ clampP m n ∧ clampP m n ≤ m := by
  unfold clampP; repeat' split <;> omega
theorem clampP_in {m n : Int} (h1 : -m ≤ n) (h2 : n ≤ m) : clampP m n = n := by
  unfold clampP; repeat' split <;> omega
theorem rv3 {k : IntKind} {a b c a' b' c' : Int} (h1 : a = a') (h2 : b = b') (h3 : c = c') : Ending.returned (.agg #[.int k a, .int k b, .int k c]) = .returned (.agg #[.int k a', .int k b', .int k c']) := by rw [h1, h2, h3]

theorem unit_c (a1 a2 a3 : Int) (w : World) : Calls Tryz.prog 69 #[.agg #[.int .i64 a1, .int .i64 a2, .int .i64 a3]] w fun e w' => e = .returned (.agg #[.int .i64 (unit1 a1 a2 a3), .int .i64 (unit2 a1 a2 a3), .int .i64 (unit3 a1 a2 a3)]) ∧ Below w.heap.size w w' := by
  have hmc := more_cell
  have hmf := more_frozen
  have hml := more_lt
  by_cases h : long a1 a2 a3 = 0
  · have hz : (long a1 a2 a3 == 0) = true := by rw [beq_iff_eq]; exact h
    have H1 := Lib.hid h
    clear h
    go_enter Tryz.func69, Tryz.ntmps69
    go_wp2_with fail
    refine (long_c _ _ _ _).mono ?_
    rintro e w1 ⟨rfl, hb1⟩
    have B1_0 : Blk w1 (w.heap.size) #[.int .i64 a1, .int .i64 a2, .int .i64 a3] := Blk.below (by repeat (first | assumption | exact Blk.at _ _ _ _ (by simp) | apply Blk.alloc | apply Blk.drew | apply Blk.drewN | apply Blk.more | (refine Blk.setCell ?_ _ _ (by simp <;> omega)))) hb1
    obtain ⟨z1_0, c1_0, f1_0⟩ := id B1_0
    have B1_1 : Blk w1 (w.heap.size + 1) #[.int .i64 0, .int .i64 0, .int .i64 0] := Blk.below (by repeat (first | assumption | exact Blk.at _ _ _ _ (by simp) | apply Blk.alloc | apply Blk.drew | apply Blk.drewN | apply Blk.more | (refine Blk.setCell ?_ _ _ (by simp <;> omega)))) hb1
    obtain ⟨z1_1, c1_1, f1_1⟩ := id B1_1
    go_wp2
    exact bodyPost_ret (v := .agg #[.int .i64 (0), .int .i64 (65536), .int .i64 (0)]) (by simp [results, Tryz.results69, go_sem, *]) rfl ⟨rv3 (by unfold unit1; rw [if_pos H1.out]) (by unfold unit2; rw [if_pos H1.out]) (by unfold unit3; rw [if_pos H1.out]), (by repeat (first | exact Below.refl _ _ | assumption | apply ext_drew | (refine ext_below ?_ (by assumption)) | apply ext_drewN | apply ext_alloc | apply ext_more | (refine ext_setCell ?_ (by simp <;> omega) _)))⟩
  · have hz : (long a1 a2 a3 == 0) = false := by rw [beq_eq_false_iff_ne]; exact h
    have H1 := Lib.hid h
    clear h
    go_enter Tryz.func69, Tryz.ntmps69
    go_wp2_with fail
    refine (long_c _ _ _ _).mono ?_
    rintro e w1 ⟨rfl, hb1⟩
    have B1_0 : Blk w1 (w.heap.size) #[.int .i64 a1, .int .i64 a2, .int .i64 a3] := Blk.below (by repeat (first | assumption | exact Blk.at _ _ _ _ (by simp) | apply Blk.alloc | apply Blk.drew | apply Blk.drewN | apply Blk.more | (refine Blk.setCell ?_ _ _ (by simp <;> omega)))) hb1
    obtain ⟨z1_0, c1_0, f1_0⟩ := id B1_0
    have B1_1 : Blk w1 (w.heap.size + 1) #[.int .i64 0, .int .i64 0, .int .i64 0] := Blk.below (by repeat (first | assumption | exact Blk.at _ _ _ _ (by simp) | apply Blk.alloc | apply Blk.drew | apply Blk.drewN | apply Blk.more | (refine Blk.setCell ?_ _ _ (by simp <;> omega)))) hb1
    obtain ⟨z1_1, c1_1, f1_1⟩ := id B1_1
    go_wp2_with fail
    refine region_quiet_but 13 (by kernel_rfl) (by kernel_rfl) ?_
    simp only [List.take_succ_cons, List.take_zero, List.drop_succ_cons, List.drop_zero]
    repeat (go_big_quiet_step ((go_at_call 37; exact calls_after_drewN (div_c _ _ _))))
    refine wpQuiet_nil ?_
    rintro _ ⟨m, rfl⟩
    go_wp2
    exact bodyPost_ret (v := .agg #[.int .i64 (div a1 (long a1 a2 a3)), .int .i64 (div a2 (long a1 a2 a3)), .int .i64 (div a3 (long a1 a2 a3))]) (by simp [results, Tryz.results69, go_sem, *]) rfl ⟨rv3 (by unfold unit1; rw [if_neg H1.out]) (by unfold unit2; rw [if_neg H1.out]) (by unfold unit3; rw [if_neg H1.out]), (by repeat (first | exact Below.refl _ _ | assumption | apply ext_drew | (refine ext_below ?_ (by assumption)) | apply ext_drewN | apply ext_alloc | apply ext_more | (refine ext_setCell ?_ (by simp <;> omega) _)))⟩

end Go.Proofs.YtniahipadfgkbaaGreat
namespace Go.Proofs.YtniahipadfgkbaaGreat
open Go.ChangeShapes Go.WideShapes Go.ChangeAt Go.RowKit Go.BigFrame

theorem clampf_c (most n : Int) (p : Addr) (w : World) (h0 : 0 ≤ most) (h1 : most ≤ 9223372036854775807) (hc : w.cell? p = some (.int .i64 most)) : Calls Tryz.prog 25 #[.int .i64 n, .pointer (some p)] w fun e w' => e = .returned (.int .i64 (clampP most n)) ∧ w = w' := by
  go_enter Tryz.func25, Tryz.ntmps25
  go_wp2
  all_goals
    go_ret
    exact ⟨ri (by unfold clampP; repeat' split <;> omega), rfl⟩

theorem clamp_c (a1 a2 a3 k : Int) (hk : k ≤ 9223372036854775807) (w : World) : Calls Tryz.prog 12 #[.agg #[.int .i64 a1, .int .i64 a2, .int .i64 a3], .int .i64 k] w fun e w' => e = .returned (.agg #[.int .i64 (clamp k a1), .int .i64 (clamp k a2), .int .i64 (clamp k a3)]) ∧ Below w.heap.size w w' := by
  have hmc := more_cell
  have hmf := more_frozen
  have hml := more_lt
  go_enter Tryz.func12, Tryz.ntmps12
  go_wp2
  refine region_quiet_but 13 (by kernel_rfl) (by kernel_rfl) ?_
  simp only [List.take_succ_cons, List.take_zero, List.drop_succ_cons, List.drop_zero]
  repeat (go_big_quiet_step ((go_at_call 25; exact calls_after_same (clampf_c (max k 0) _ _ _ (by omega) (by omega) (by simp [go_sem, *])))))
  refine wpQuiet_nil ?_
  rintro _ ⟨m, rfl⟩
  go_wp2
  exact bodyPost_ret (v := .agg #[.int .i64 (clamp k a1), .int .i64 (clamp k a2), .int .i64 (clamp k a3)]) (by simp [results, Tryz.results12, go_sem, *, clamp]) rfl ⟨rfl, (by repeat (first | exact Below.refl _ _ | assumption | apply ext_drew | (refine ext_below ?_ (by assumption)) | apply ext_drewN | apply ext_alloc | apply ext_more | (refine ext_setCell ?_ (by simp <;> omega) _)))⟩

end Go.Proofs.YtniahipadfgkbaaGreat
namespace Go.Proofs.YtniahipadfgkbaaGreat
open Go.ChangeShapes Go.WideShapes Go.ChangeAt Go.RowKit Go.BigFrame

end Go.Proofs.YtniahipadfgkbaaGreat
