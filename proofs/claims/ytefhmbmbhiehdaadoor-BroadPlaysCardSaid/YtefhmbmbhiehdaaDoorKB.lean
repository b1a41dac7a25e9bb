/- The contracts of the document's units and bounds of vectors. Conditions: none. -/
import Derived.Test.YtefhmbmbhiehdaaDoorRows
import Derived.Test.YtefhmbmbhiehdaaDoorShelf
import Derived.WalkKit
import Derived.WalkSpells
import Derived.WalkLawsBesides
import Derived.ProofKit
import Derived.Laws.BitsAllLaws
import Derived.RegionTactic
import Derived.ChangeAlike
import Derived.Deep.QuietTactic
import Derived.BigQuiet
import Derived.Lib.Hide
import Derived.Test.YtefhmbmbhiehdaaDoorKA
namespace Go.Proofs.YtefhmbmbhiehdaaDoor

/-! ### numbers -/
def cut (n : Int) : Int := if n > 70368744177664 then 70368744177664 else if n < -70368744177664 then -70368744177664 else n
theorem cut_bd (n : Int) : -70368744177664 ≤ cut n ∧ cut n ≤ 70368744177664 := by
  unfold cut; repeat' split <;> omega
theorem cut_in {n : Int} (h1 : -70368744177664 ≤ n) (h2 : n ≤ 70368744177664) : cut n = n := by
  unfold cut; rw [if_neg (by omega), if_neg (by omega)]
theorem cut_cut (n : Int) : cut (cut n) = cut n := cut_in (cut_bd n).1 (cut_bd n).2
theorem cut_neg (n : Int) : cut (-n) = -cut n := by unfold cut; repeat' split <;> omega
theorem cut_neg_iff (n : Int) : cut n < 0 ↔ n < 0 := by unfold cut; repeat' split <;> omega

def add (a b : Int) : Int := cut (cut a + cut b)
def sub (a b : Int) : Int := cut (cut a - cut b)
theorem add_bd (a b : Int) : -70368744177664 ≤ add a b ∧ add a b ≤ 70368744177664 := cut_bd _
theorem sub_bd (a b : Int) : -70368744177664 ≤ sub a b ∧ sub a b ≤ 70368744177664 := cut_bd _
theorem sub_neg (a b : Int) : sub a b = -sub b a := by
  unfold sub; rw [← cut_neg]; congr 1; omega

/-- how great a number is, cut -/
def mag (n : Int) : Int := if cut n < 0 then -cut n else cut n
/-- is it below 0 -/
def ng (n : Int) : Bool := decide (cut n < 0)
theorem mag_bd (n : Int) : 0 ≤ mag n ∧ mag n ≤ 70368744177664 := by
  have := cut_bd n; unfold mag; split <;> omega
theorem mag_neg (n : Int) : mag (-n) = mag n := by
  unfold mag; rw [cut_neg]; split <;> split <;> omega
theorem mag_cut (n : Int) : mag (cut n) = mag n := by unfold mag; rw [cut_cut]
theorem ng_cut (n : Int) : ng (cut n) = ng n := by unfold ng; rw [cut_cut]
theorem ng_of_mag0 {n : Int} (h : mag n = 0) : ng n = false := by
  unfold mag at h; unfold ng; simp; split at h <;> omega

/-- a number with its sign, cut -/
def sgn (u : Int) (m : Bool) : Int := if m then -(if u < 70368744177664 then u else 70368744177664) else (if u < 70368744177664 then u else 70368744177664)
theorem sgn_bd {u : Int} (h : 0 ≤ u) (m : Bool) : -70368744177664 ≤ sgn u m ∧ sgn u m ≤ 70368744177664 := by
  unfold sgn; cases m <;> simp <;> split <;> omega

def mul (a b : Int) : Int := sgn (mag a * mag b / 65536) (ng a != ng b)
def div (a b : Int) : Int := if mag b = 0 then (if mag a = 0 then 0 else sgn 70368744177664 (ng a)) else sgn (mag a * 65536 / mag b) (ng a != ng b)

theorem mm_nonneg (a b : Int) : 0 ≤ mag a * mag b := Int.mul_nonneg (mag_bd a).1 (mag_bd b).1
theorem mul_bd (a b : Int) : -70368744177664 ≤ mul a b ∧ mul a b ≤ 70368744177664 :=
  sgn_bd (by have := mm_nonneg a b; omega) _
theorem div_bd (a b : Int) : -70368744177664 ≤ div a b ∧ div a b ≤ 70368744177664 := by
  unfold div
  split
  · split
    · omega
    · exact sgn_bd (by omega) _
  · exact sgn_bd (Int.ediv_nonneg (by have := mag_bd a; omega) (mag_bd b).1) _
theorem mul_comm' (a b : Int) : mul a b = mul b a := by
  unfold mul; rw [Int.mul_comm]; congr 1; cases ng a <;> cases ng b <;> rfl

/-! ### roots -/
def isqF : Nat → Nat → Nat
  | 0, _ => 0
  | k + 1, v => if (2 * isqF k (v / 4) + 1) * (2 * isqF k (v / 4) + 1) ≤ v then 2 * isqF k (v / 4) + 1 else 2 * isqF k (v / 4)
theorem isqF_spec (k : Nat) : ∀ v, v < 4 ^ k → isqF k v * isqF k v ≤ v ∧ v < (isqF k v + 1) * (isqF k v + 1) := by
  induction k with
  | zero => intro v h; simp at h; subst h; simp [isqF]
  | succ k ih =>
    intro v h
    obtain ⟨h1, h2⟩ := ih (v / 4) (by rw [Nat.pow_succ] at h; omega)
    simp only [isqF]
    generalize isqF k (v / 4) = r at *
    have e1 : (2 * r) * (2 * r) = 4 * (r * r) := by rw [Nat.mul_mul_mul_comm]
    have e2 : (2 * r + 1 + 1) * (2 * r + 1 + 1) = 4 * ((r + 1) * (r + 1)) := by
      rw [show 2 * r + 1 + 1 = 2 * (r + 1) from by omega, Nat.mul_mul_mul_comm]
    split
    · rename_i hc
      exact ⟨hc, by omega⟩
    · rename_i hc
      exact ⟨by omega, by omega⟩
/-- the root, rounded down -/
def isq (v : Nat) : Nat := isqF 40 v
theorem isq_spec {v : Nat} (h : v < 2 ^ 80) : isq v * isq v ≤ v ∧ v < (isq v + 1) * (isq v + 1) := isqF_spec 40 v (by rw [show (4 : Nat) ^ 40 = 2 ^ 80 from by decide]; exact h)
theorem isq_uniq {v r : Nat} (h : v < 2 ^ 80) (h1 : r * r ≤ v) (h2 : v < (r + 1) * (r + 1)) : r = isq v := by
  obtain ⟨h3, h4⟩ := isq_spec h
  rcases Nat.lt_trichotomy r (isq v) with hlt | he | hgt
  · have := Nat.mul_le_mul (show r + 1 ≤ isq v from hlt) (show r + 1 ≤ isq v from hlt); omega
  · exact he
  · have := Nat.mul_le_mul (show isq v + 1 ≤ r from hgt) (show isq v + 1 ≤ r from hgt); omega
theorem isq_zero : isq (0 * 65536 : Int).toNat = 0 := (isq_uniq (by decide) (by decide) (by decide)).symm
def root (n : Int) : Int := if cut n < 0 then 0 else (isq ((mag n * 65536).toNat) : Int)
theorem root_bd (n : Int) : 0 ≤ root n ∧ root n ≤ 2147483648 := by
  unfold root
  have hm := mag_bd n
  split
  · omega
  · obtain ⟨h1, h2⟩ := isq_spec (v := (mag n * 65536).toNat) (by rw [show (2 : Nat) ^ 80 = 1208925819614629174706176 from by decide]; omega)
    refine ⟨by omega, ?_⟩
    rcases Nat.lt_or_ge 2147483648 (isq (mag n * 65536).toNat) with h | h
    · have := Nat.mul_le_mul (show 2147483649 ≤ isq (mag n * 65536).toNat from h) (show 2147483649 ≤ isq (mag n * 65536).toNat from h); omega
    · omega

/-! ### products and quotients by pieces -/
def mulHi (x y : Int) : Int := x * y / 18446744073709551616
def mulLo (x y : Int) : Int := x * y % 18446744073709551616
/-- by pieces of 16 bits -/
theorem mul_pieces (x y : Int) (hx : 0 ≤ x) (hx' : x ≤ 70368744177664) (hy : 0 ≤ y) (hy' : y ≤ 70368744177664) :
    0 ≤ x * (y % 65536) ∧ x * (y % 65536) ≤ 4611615649683210240 ∧ 0 ≤ x * (y / 65536 % 65536) ∧ x * (y / 65536 % 65536) ≤ 4611615649683210240 ∧ 0 ≤ x * (y / 65536 / 65536) ∧ x * (y / 65536 / 65536) ≤ 1152921504606846976 ∧
    x * y / 65536 = x * (y % 65536) / 65536 + x * (y / 65536 % 65536) + x * (y / 65536 / 65536) * 65536 := by
  have e : y = y % 65536 + 65536 * (y / 65536 % 65536) + 4294967296 * (y / 65536 / 65536) := by omega
  have b0 : 0 ≤ y % 65536 ∧ y % 65536 ≤ 65535 := by omega
  have b1 : 0 ≤ y / 65536 % 65536 ∧ y / 65536 % 65536 ≤ 65535 := by omega
  have b2 : 0 ≤ y / 65536 / 65536 ∧ y / 65536 / 65536 ≤ 16384 := by omega
  generalize y % 65536 = y0 at *
  generalize y / 65536 % 65536 = y1 at *
  generalize y / 65536 / 65536 = y2 at *
  have p0 := Int.mul_nonneg hx b0.1
  have p1 := Int.mul_nonneg hx b1.1
  have p2 := Int.mul_nonneg hx b2.1
  have q0 : x * y0 ≤ 70368744177664 * 65535 := Int.mul_le_mul hx' b0.2 b0.1 (by decide)
  have q1 : x * y1 ≤ 70368744177664 * 65535 := Int.mul_le_mul hx' b1.2 b1.1 (by decide)
  have q2 : x * y2 ≤ 70368744177664 * 16384 := Int.mul_le_mul hx' b2.2 b2.1 (by decide)
  have ee : x * y = x * y0 + 65536 * (x * y1) + 4294967296 * (x * y2) := by
    rw [e, Int.mul_add, Int.mul_add, Int.mul_left_comm x 65536, Int.mul_left_comm x 4294967296]
  rw [ee]
  refine ⟨p0, by omega, p1, by omega, p2, by omega, by omega⟩

/-! ### the root, bit by bit, and by halves -/
/-- r is the root down to the bit that is twice b -/
def RI (v r b : Int) : Prop := ∃ k m : Nat, k ≤ 32 ∧ r = ((m * 2 ^ k : Nat) : Int) ∧ b = ((2 ^ k / 2 : Nat) : Int) ∧ m * 2 ^ k + 2 ^ k ≤ 4294967296 ∧ r * r ≤ v ∧ v < (r + ((2 ^ k : Nat) : Int)) * (r + ((2 ^ k : Nat) : Int))
theorem RI_start (v : Int) (h0 : 0 ≤ v) (h1 : v ≤ 4611686018427387904) : RI v 0 2147483648 :=
  ⟨32, 0, by omega, by simp, by decide, by decide, by omega, by simp; omega⟩
theorem RI_bd {v r b : Int} (h : RI v r b) : 0 ≤ r ∧ r ≤ 4294967295 ∧ 0 ≤ b ∧ b ≤ 2147483648 ∧ r + b ≤ 4294967295 ∧ 0 ≤ (r + b) * (r + b) ∧ (r + b) * (r + b) ≤ 18446744065119617025 := by
  obtain ⟨k, m, hk, rfl, rfl, h2, _, _⟩ := h
  have hp : 2 ^ k ≤ 2 ^ 32 := Nat.pow_le_pow_right (by decide) hk
  have hq : 0 < 2 ^ k := Nat.pow_pos (by decide)
  generalize 2 ^ k = p at *
  generalize m * p = r at *
  have h3 : r + p / 2 ≤ 4294967295 := by omega
  have h4 := Nat.mul_le_mul h3 h3
  have e : ((r : Int) + ((p / 2 : Nat) : Int)) * ((r : Int) + ((p / 2 : Nat) : Int)) = (((r + p / 2) * (r + p / 2) : Nat) : Int) := by simp
  rw [e]
  refine ⟨by omega, by omega, by omega, by omega, by omega, by omega, by omega⟩
theorem RI_even {v r b : Int} (h : RI v r b) (hb : 0 < b) : ∃ k : Nat, b.toNat = 2 ^ k ∧ r.toNat % 2 ^ (k + 1) = 0 := by
  obtain ⟨k, m, hk, rfl, rfl, h2, _, _⟩ := h
  cases k with
  | zero => simp at hb
  | succ k =>
    refine ⟨k, ?_, ?_⟩
    · rw [Int.toNat_natCast, Nat.pow_succ]; omega
    · rw [Int.toNat_natCast]; exact Nat.mul_mod_left _ _
theorem RI_yes {v r b : Int} (h : RI v r b) (hb : 0 < b) (ht : (r + b) * (r + b) ≤ v) : RI v (r + b) (b / 2) := by
  obtain ⟨k, m, hk, hr, hb', h2, h3, h4⟩ := h
  cases k with
  | zero => subst hb'; simp at hb
  | succ k =>
    have e : 2 ^ (k + 1) = 2 * 2 ^ k := by rw [Nat.pow_succ, Nat.mul_comm]
    have e1 : (2 * m + 1) * 2 ^ k = m * 2 ^ (k + 1) + 2 ^ k := by rw [e, Nat.add_mul, Nat.one_mul, Nat.mul_comm 2 m, Nat.mul_assoc]
    have eb : b = ((2 ^ k : Nat) : Int) := by rw [hb', e]; congr 1; omega
    refine ⟨k, 2 * m + 1, by omega, ?_, ?_, ?_, ht, ?_⟩
    · rw [e1, hr, eb]; push_cast; rfl
    · rw [eb]; omega
    · rw [e1]; omega
    · have : r + b + ((2 ^ k : Nat) : Int) = r + ((2 ^ (k + 1) : Nat) : Int) := by rw [eb, e]; push_cast; omega
      rw [this]; exact h4
theorem RI_no {v r b : Int} (h : RI v r b) (hb : 0 < b) (ht : ¬ (r + b) * (r + b) ≤ v) : RI v r (b / 2) := by
  obtain ⟨k, m, hk, hr, hb', h2, h3, h4⟩ := h
  cases k with
  | zero => subst hb'; simp at hb
  | succ k =>
    have e : 2 ^ (k + 1) = 2 * 2 ^ k := by rw [Nat.pow_succ, Nat.mul_comm]
    have e1 : 2 * m * 2 ^ k = m * 2 ^ (k + 1) := by rw [e, Nat.mul_comm 2 m, Nat.mul_assoc]
    have eb : b = ((2 ^ k : Nat) : Int) := by rw [hb', e]; congr 1; omega
    refine ⟨k, 2 * m, by omega, ?_, ?_, ?_, h3, ?_⟩
    · rw [e1, hr]
    · rw [eb]; omega
    · rw [e1]; omega
    · rw [← eb]; omega
theorem RI_end {v r b : Int} (h : RI v r b) (hb : ¬ 0 < b) (hv : v < 1208925819614629174706176) : r = (isq v.toNat : Int) := by
  obtain ⟨k, m, hk, rfl, hb', h2, h3, h4⟩ := h
  cases k with
  | zero =>
    simp only [Nat.pow_zero, Nat.mul_one] at *
    have h0 : 0 ≤ (m : Int) * (m : Int) := by rw [← Int.natCast_mul]; omega
    congr 1
    refine isq_uniq (v := v.toNat) (by rw [show (2 : Nat) ^ 80 = 1208925819614629174706176 from by decide]; omega) ?_ ?_
    · rw [← Int.natCast_mul] at h3; omega
    · have : ((m : Int) + ((1 : Nat) : Int)) * ((m : Int) + ((1 : Nat) : Int)) = (((m + 1) * (m + 1) : Nat) : Int) := by push_cast; rfl
      rw [this] at h4; omega
  | succ k =>
    exfalso; apply hb; rw [hb']
    have : 0 < 2 ^ k := Nat.pow_pos (by decide)
    rw [Nat.pow_succ]; omega
/-- the root is within two bounds -/
def HI (v l h : Int) : Prop := 0 ≤ l ∧ l ≤ h ∧ h ≤ 2147483648 ∧ l * l ≤ v ∧ v < (h + 1) * (h + 1)
theorem HI_start (v : Int) (h0 : 0 ≤ v) (h1 : v ≤ 4611686018427387904) : HI v 0 2147483648 := ⟨by omega, by omega, by omega, by omega, by omega⟩
theorem HI_mid {v l h : Int} (_ : HI v l h) (hl : l < h) : 0 ≤ (l + h + 1) / 2 ∧ (l + h + 1) / 2 ≤ 2147483648 ∧ 1 ≤ (l + h + 1) / 2 ∧ 0 ≤ (l + h + 1) / 2 * ((l + h + 1) / 2) ∧ (l + h + 1) / 2 * ((l + h + 1) / 2) ≤ 4611686018427387904 := by
  rename_i H
  obtain ⟨h0, h1, h2, _, _⟩ := H
  have b1 : 0 ≤ (l + h + 1) / 2 := by omega
  have b2 : (l + h + 1) / 2 ≤ 2147483648 := by omega
  have b3 := Int.mul_le_mul b2 b2 b1 (by decide)
  have b4 := Int.mul_nonneg b1 b1
  refine ⟨b1, b2, by omega, b4, by omega⟩
theorem HI_yes {v l h : Int} (H : HI v l h) (hl : l < h) (ht : (l + h + 1) / 2 * ((l + h + 1) / 2) ≤ v) : HI v ((l + h + 1) / 2) h := by
  obtain ⟨h0, h1, h2, h3, h4⟩ := H
  exact ⟨by omega, by omega, h2, ht, h4⟩
theorem HI_no {v l h : Int} (H : HI v l h) (hl : l < h) (ht : ¬ (l + h + 1) / 2 * ((l + h + 1) / 2) ≤ v) : HI v l ((l + h + 1) / 2 - 1) := by
  obtain ⟨h0, h1, h2, h3, h4⟩ := H
  refine ⟨by omega, by omega, by omega, h3, ?_⟩
  rw [show (l + h + 1) / 2 - 1 + 1 = (l + h + 1) / 2 from by omega]; omega
theorem HI_end {v l h : Int} (H : HI v l h) (hl : ¬ l < h) (hv : v < 1208925819614629174706176) : l = (isq v.toNat : Int) := by
  obtain ⟨h0, h1, h2, h3, h4⟩ := H
  obtain rfl : l = h := by omega
  obtain ⟨m, rfl⟩ := Int.eq_ofNat_of_zero_le h0
  have hm : 0 ≤ (m : Int) * (m : Int) := by rw [← Int.natCast_mul]; omega
  congr 1
  refine isq_uniq (v := v.toNat) (by rw [show (2 : Nat) ^ 80 = 1208925819614629174706176 from by decide]; omega) ?_ ?_
  · rw [← Int.natCast_mul] at h3; omega
  · have : ((m : Int) + 1) * ((m : Int) + 1) = (((m + 1) * (m + 1) : Nat) : Int) := by push_cast; rfl
    rw [this] at h4; omega
end Go.Proofs.YtefhmbmbhiehdaaDoor
namespace Go.Proofs.YtefhmbmbhiehdaaDoor
open Go.ChangeShapes Go.WideShapes Go.ChangeAt Go.RowKit

theorem ri {k : IntKind} {a b : Int} (h : a = b) : Ending.returned (.int k a) = .returned (.int k b) := by rw [h]
theorem ri2 {k : IntKind} {a b : Int} {c d : Bool} (h : a = b) (g : c = d) : Ending.returned (.tuple #[.int k a, .bool c]) = .returned (.tuple #[.int k b, .bool d]) := by rw [h, g]
theorem rii {k l : IntKind} {a b c d : Int} (h : a = b) (g : c = d) : Ending.returned (.tuple #[.int k a, .int l c]) = .returned (.tuple #[.int k b, .int l d]) := by rw [h, g]
theorem rb {c d : Bool} (g : c = d) : Ending.returned (.bool c) = .returned (.bool d) := by rw [g]

theorem cut_c (n : Int) (w : World) : Calls Tryd.prog 70 #[.int .i64 n] w fun e w' => e = .returned (.int .i64 (cut n)) ∧ w = w' := by
  go_enter Tryd.func70, Tryd.ntmps70
  go_wp2
  all_goals
    go_ret
    exact ⟨ri (by unfold cut; repeat' split <;> omega), rfl⟩

theorem add_c (a b : Int) (w : World) : Calls Tryd.prog 46 #[.int .i64 a, .int .i64 b] w fun e w' => e = .returned (.int .i64 (add a b)) ∧ w = w' := by
  obtain ⟨h1, h1'⟩ := cut_bd a
  obtain ⟨h2, h2'⟩ := cut_bd b
  go_enter Tryd.func46, Tryd.ntmps46
  go_wp2_with (go_at_call 70; refine (cut_c _ _).mono ?_; rintro e w' ⟨rfl, rfl⟩)
  go_ret
  exact ⟨rfl, rfl⟩
theorem sub_c (a b : Int) (w : World) : Calls Tryd.prog 45 #[.int .i64 a, .int .i64 b] w fun e w' => e = .returned (.int .i64 (sub a b)) ∧ w = w' := by
  obtain ⟨h1, h1'⟩ := cut_bd a
  obtain ⟨h2, h2'⟩ := cut_bd b
  go_enter Tryd.func45, Tryd.ntmps45
  go_wp2_with (go_at_call 70; refine (cut_c _ _).mono ?_; rintro e w' ⟨rfl, rfl⟩)
  go_ret
  exact ⟨rfl, rfl⟩
/-- the document's sign: 1 or -1 -/
def si (m : Bool) : Int := if m then -1 else 1
theorem si_bd (m : Bool) : -1 ≤ si m ∧ si m ≤ 1 := by cases m <;> simp [si]
theorem mul_join (h l : Int) (h0 : 0 ≤ h) (h1 : h < 16384) (l0 : 0 ≤ l) (l1 : l < 18446744073709551616) :
    bits .or .u64 (h * 281474976710656) (l / 65536) = h * 281474976710656 + l / 65536 := by
  rw [u64_or _ _ (by omega) (by omega) (by omega) (by omega)]
  rw [nat_join 48 _ _ (by rw [show (2 : Nat) ^ 48 = 281474976710656 from rfl]; omega) (by rw [show (2 : Nat) ^ 48 = 281474976710656 from rfl]; omega)]
  omega

theorem sgn_si (u : Int) (m n : Bool) (h : 0 ≤ u) : si m * si n * cut u = sgn u (m != n) := by
  have : cut u = if u < 70368744177664 then u else 70368744177664 := by unfold cut; repeat' split <;> omega
  rw [this]; unfold sgn si; cases m <;> cases n <;> simp

end Go.Proofs.YtefhmbmbhiehdaaDoor
namespace Go.Proofs.YtefhmbmbhiehdaaDoor
open Go.ChangeShapes Go.WideShapes Go.ChangeAt Go.RowKit

theorem RI_or {v r b : Int} (h : RI v r b) (hb : 0 < b) : bits .or .u64 r b = r + b := by
  obtain ⟨h1, h2, h3, h4, _⟩ := RI_bd h
  obtain ⟨k, e1, e2⟩ := RI_even h hb
  rw [u64_or _ _ (by omega) (by omega) (by omega) (by omega), nat_join (k + 1) _ _ e2 (by rw [e1, Nat.pow_succ]; have := Nat.pow_pos (n := k) (show 0 < 2 by decide); omega)]
  omega

end Go.Proofs.YtefhmbmbhiehdaaDoor
namespace Go.Proofs.YtefhmbmbhiehdaaDoor
open Go.ChangeShapes Go.WideShapes Go.ChangeAt Go.RowKit Go.BigFrame

theorem plus_c (a1 a2 a3 b1 b2 b3 : Int) (w : World) : Calls Tryd.prog 35 #[.agg #[.int .i64 a1, .int .i64 a2, .int .i64 a3], .agg #[.int .i64 b1, .int .i64 b2, .int .i64 b3]] w fun e w' => e = .returned (.agg #[.int .i64 (add a1 b1), .int .i64 (add a2 b2), .int .i64 (add a3 b3)]) ∧ Below w.heap.size w w' := by
  have hmc := more_cell
  have hmf := more_frozen
  have hml := more_lt
  go_enter Tryd.func35, Tryd.ntmps35
  go_wp2
  refine region_quiet_but 16 (by kernel_rfl) (by kernel_rfl) ?_
  simp only [List.take_succ_cons, List.take_zero, List.drop_succ_cons, List.drop_zero]
  repeat (go_big_quiet_step ((go_at_call 46; exact calls_after_same (add_c _ _ _))))
  refine wpQuiet_nil ?_
  rintro _ ⟨m, rfl⟩
  go_wp2
  exact bodyPost_ret (v := .agg #[.int .i64 (add a1 b1), .int .i64 (add a2 b2), .int .i64 (add a3 b3)]) (by simp [results, Tryd.results35, go_sem, *]) rfl ⟨rfl, (by repeat (first | exact Below.refl _ _ | assumption | apply ext_drew | (refine ext_below ?_ (by assumption)) | apply ext_drewN | apply ext_alloc | apply ext_more | (refine ext_setCell ?_ (by simp <;> omega) _)))⟩

theorem minus_c (a1 a2 a3 b1 b2 b3 : Int) (w : World) : Calls Tryd.prog 34 #[.agg #[.int .i64 a1, .int .i64 a2, .int .i64 a3], .agg #[.int .i64 b1, .int .i64 b2, .int .i64 b3]] w fun e w' => e = .returned (.agg #[.int .i64 (sub a1 b1), .int .i64 (sub a2 b2), .int .i64 (sub a3 b3)]) ∧ Below w.heap.size w w' := by
  have hmc := more_cell
  have hmf := more_frozen
  have hml := more_lt
  go_enter Tryd.func34, Tryd.ntmps34
  go_wp2
  refine region_quiet_but 16 (by kernel_rfl) (by kernel_rfl) ?_
  simp only [List.take_succ_cons, List.take_zero, List.drop_succ_cons, List.drop_zero]
  repeat (go_big_quiet_step ((go_at_call 45; exact calls_after_same (sub_c _ _ _))))
  refine wpQuiet_nil ?_
  rintro _ ⟨m, rfl⟩
  go_wp2
  exact bodyPost_ret (v := .agg #[.int .i64 (sub a1 b1), .int .i64 (sub a2 b2), .int .i64 (sub a3 b3)]) (by simp [results, Tryd.results34, go_sem, *]) rfl ⟨rfl, (by repeat (first | exact Below.refl _ _ | assumption | apply ext_drew | (refine ext_below ?_ (by assumption)) | apply ext_drewN | apply ext_alloc | apply ext_more | (refine ext_setCell ?_ (by simp <;> omega) _)))⟩

def dot (a1 a2 a3 b1 b2 b3 : Int) : Int := add (add (mul a1 b1) (mul a2 b2)) (mul a3 b3)
def long (a1 a2 a3 : Int) : Int := root (dot a1 a2 a3 a1 a2 a3)

def unit1 (a1 a2 a3 : Int) : Int := if long a1 a2 a3 = 0 then 0 else div a1 (long a1 a2 a3)
def unit2 (a1 a2 a3 : Int) : Int := if long a1 a2 a3 = 0 then 65536 else div a2 (long a1 a2 a3)
def unit3 (a1 a2 a3 : Int) : Int := if long a1 a2 a3 = 0 then 0 else div a3 (long a1 a2 a3)
/-- within m -/
def clampP (m n : Int) : Int := if n > m then m else if n < -m then -m else n
/-- within most -/
def clamp (most n : Int) : Int := clampP (max most 0) n
theorem clampP_bd (m n : Int) (h : 0 ≤ m) : -m ≤ clampP m n ∧ clampP m n ≤ m := by
  unfold clampP; repeat' split <;> omega
theorem clampP_in {m n : Int} (h1 : -m ≤ n) (h2 : n ≤ m) : clampP m n = n := by
  unfold clampP; repeat' split <;> omega
theorem clamp_bd (m n : Int) (h : 0 ≤ m) : -m ≤ clamp m n ∧ clamp m n ≤ m := by
  unfold clamp; rw [show max m 0 = m from by omega]; exact clampP_bd m n h
theorem rv3 {k : IntKind} {a b c a' b' c' : Int} (h1 : a = a') (h2 : b = b') (h3 : c = c') : Ending.returned (.agg #[.int k a, .int k b, .int k c]) = .returned (.agg #[.int k a', .int k b', .int k c']) := by rw [h1, h2, h3]

end Go.Proofs.YtefhmbmbhiehdaaDoor
namespace Go.Proofs.YtefhmbmbhiehdaaDoor
open Go.ChangeShapes Go.WideShapes Go.ChangeAt Go.RowKit Go.BigFrame

end Go.Proofs.YtefhmbmbhiehdaaDoor
namespace Go.Proofs.YtefhmbmbhiehdaaDoor
open Go.ChangeShapes Go.WideShapes Go.ChangeAt Go.RowKit Go.BigFrame

end Go.Proofs.YtefhmbmbhiehdaaDoor
