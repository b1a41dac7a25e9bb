/- The machine's bits at numbers that are not below 0. Conditions: none. -/
import Derived.Laws.BitsAllLaws
import Derived.Laws.BitsLemmas
import Derived.Test.YtnkinnfpebploaaDoorBitsP
namespace Go.Proofs.YtnkinnfpebploaaDoor.B
open Go
theorem ofInt_64 (a : Nat) (ha : a < 9223372036854775808) : (BitVec.ofInt 64 (a : Int)).toNat = a := by
  rw [BitVec.ofInt_natCast, BitVec.toNat_ofNat]; exact Nat.mod_eq_of_lt (by omega)
theorem i64_and_nat (a b : Nat) (ha : a < 9223372036854775808) (hb : b < 9223372036854775808) : bits .and .i64 (a : Int) (b : Int) = ((a &&& b : Nat) : Int) := by
  have hx : a &&& b < 2 ^ 63 := Nat.and_lt_two_pow _ (by omega)
  show IntKind.i64.wrap ((BitVec.ofInt 64 (a : Int) &&& BitVec.ofInt 64 (b : Int)).toNat : Int) = _
  rw [BitVec.toNat_and, ofInt_64 a ha, ofInt_64 b hb, IntKind.wrap_i64]
  omega
theorem i64_or_nat (a b : Nat) (ha : a < 9223372036854775808) (hb : b < 9223372036854775808) : bits .or .i64 (a : Int) (b : Int) = ((a ||| b : Nat) : Int) := by
  have hx : a ||| b < 2 ^ 63 := Nat.or_lt_two_pow (by omega) (by omega)
  show IntKind.i64.wrap ((BitVec.ofInt 64 (a : Int) ||| BitVec.ofInt 64 (b : Int)).toNat : Int) = _
  rw [BitVec.toNat_or, ofInt_64 a ha, ofInt_64 b hb, IntKind.wrap_i64]
  omega
theorem cast_shr (n k : Nat) : (n : Int) / 2 ^ k = ((n / 2 ^ k : Nat) : Int) := by simp
theorem and1 (n k : Nat) (h : n < 9223372036854775808) : bits .and .i64 ((n : Int) / 2 ^ k) 1 = ((n / 2 ^ k % 2 : Nat) : Int) := by
  have h1 : n / 2 ^ k < 9223372036854775808 := Nat.lt_of_le_of_lt (Nat.div_le_self _ _) h
  rw [cast_shr]
  have := i64_and_nat (n / 2 ^ k) 1 h1 (by omega)
  rw [nat_mask1] at this
  exact this
theorem and1u (n k : Nat) (h : n < 18446744073709551616) : bits .and .u64 ((n : Int) / 2 ^ k) 1 = ((n / 2 ^ k % 2 : Nat) : Int) := by
  have h1 : n / 2 ^ k < 18446744073709551616 := Nat.lt_of_le_of_lt (Nat.div_le_self _ _) h
  rw [cast_shr]
  have := u64_and_nat (n / 2 ^ k) 1 h1 (by omega)
  rw [nat_mask1] at this
  exact this
theorem and31 (n : Nat) (h : n < 9223372036854775808) : bits .and .i64 (n : Int) 31 = ((n % 32 : Nat) : Int) := by
  have := i64_and_nat n 31 h (by omega)
  rw [nat_mask5] at this
  exact this
theorem two_pow_le (r : Nat) (h : r ≤ 7) : 2 ^ (7 - r) ≤ 128 ∧ 1 ≤ 2 ^ (7 - r) := by
  have : ∀ r : Fin 8, 2 ^ (7 - r.val) ≤ 128 ∧ 1 ≤ 2 ^ (7 - r.val) := by decide
  exact this ⟨r, by omega⟩
/-- a bit is put into a byte where there is 0 yet -/
theorem or_bit (x n k r : Nat) (hn : n < 9223372036854775808) (hx : x < 256) (hr : r ≤ 7) (h0 : x % 2 ^ (8 - r) = 0) :
    bits .or .u8 (x : Int) (bits .and .i64 ((n : Int) / 2 ^ k) 1 % 256 * 2 ^ (7 - r) % 256) = ((x + n / 2 ^ k % 2 * 2 ^ (7 - r) : Nat) : Int) := by
  rw [and1 n k hn]
  have hb : n / 2 ^ k % 2 < 2 := Nat.mod_lt _ (by omega)
  generalize n / 2 ^ k % 2 = b at *
  obtain ⟨hp1, hp2⟩ := two_pow_le r hr
  have e1 : (b : Int) % 256 = (b : Int) := by omega
  have e2 : ((b : Int) * 2 ^ (7 - r)) = ((b * 2 ^ (7 - r) : Nat) : Int) := by simp
  have hbp : b * 2 ^ (7 - r) ≤ 1 * 2 ^ (7 - r) := Nat.mul_le_mul_right _ (by omega)
  rw [e1, e2]
  have e3 : ((b * 2 ^ (7 - r) : Nat) : Int) % 256 = ((b * 2 ^ (7 - r) : Nat) : Int) := by omega
  rw [e3, u8_or_nat _ _ hx (by omega)]
  congr 1
  have e4 : 8 - r = 7 - r + 1 := by omega
  refine nat_join (8 - r) x _ h0 ?_
  rw [e4, Nat.pow_succ]
  omega
/-- a bit of a byte -/
theorem get_bit (x r : Nat) (hx : x < 256) : bits .and .u8 ((x : Int) / 2 ^ (7 - r)) 1 = ((x / 2 ^ (7 - r) % 2 : Nat) : Int) := by
  have h1 : x / 2 ^ (7 - r) < 256 := Nat.lt_of_le_of_lt (Nat.div_le_self _ _) hx
  rw [cast_shr]
  have := u8_and_nat (x / 2 ^ (7 - r)) 1 h1 (by omega)
  rw [nat_mask1] at this
  exact this
theorem or_low (n b : Nat) (hn : n < 4611686018427387904) (hb : b < 2) : bits .or .i64 ((2 * n : Nat) : Int) (b : Int) = ((2 * n + b : Nat) : Int) := by
  rw [i64_or_nat _ _ (by omega) (by omega)]
  congr 1
  exact nat_join 1 _ _ (by omega) (by omega)
theorem or_high (n p s : Nat) (hn : n < 2 ^ s) (hp : p * 2 ^ s < 9223372036854775808) (hn2 : n < 9223372036854775808) : bits .or .i64 (n : Int) ((p * 2 ^ s : Nat) : Int) = ((n + p * 2 ^ s : Nat) : Int) := by
  rw [i64_or_nat _ _ hn2 hp, Nat.or_comm]
  congr 1
  rw [nat_join s _ _ (Nat.mul_mod_left _ _) hn]
  omega
end Go.Proofs.YtnkinnfpebploaaDoor.B
