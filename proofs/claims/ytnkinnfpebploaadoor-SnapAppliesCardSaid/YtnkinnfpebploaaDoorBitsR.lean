/- Plain bits: what was written is read again. No program in sight. Conditions: none. -/
import Derived.Test.YtnkinnfpebploaaDoorBitsP
namespace Go.Proofs.YtnkinnfpebploaaDoor.B
theorem drop_of {T A B : List Nat} {a : Nat} (h : T = A ++ B) (ha : a = A.length) : T.drop a = B := by
  subst h ha
  exact List.drop_left
theorem getV_of {T B : List Nat} {a k : Nat} (h : T.drop a = B) : getV T a k = val (B.take k) := by unfold getV; rw [h]
theorem getV_bits {T Z : List Nat} {a k n : Nat} (h : T.drop a = bitsOf k n ++ Z) (hn : n < 2 ^ k) : getV T a k = n := by
  rw [getV_of h, List.take_append_of_le_length (by rw [bitsOf_length]; omega), List.take_of_length_le (by rw [bitsOf_length]; omega), val_bitsOf, Nat.mod_eq_of_lt hn]
theorem val_cons (b : Nat) (l : List Nat) : val (b :: l) = b * 2 ^ l.length + val l := by
  unfold val
  rw [valF, valF_eq, Nat.mul_zero, Nat.zero_add]
  rfl
theorem piece_val (b j : Nat) (hj : j < 32) (Z : List Nat) : val ((b :: (bitsOf 5 j ++ Z)).take 6) = 32 * b + j := by
  have e : (b :: (bitsOf 5 j ++ Z)).take 6 = b :: bitsOf 5 j := by
    rw [List.take_succ_cons, List.take_append_of_le_length (by rw [bitsOf_length]; omega), List.take_of_length_le (by rw [bitsOf_length]; omega)]
  rw [e, val_cons, bitsOf_length, val_bitsOf, Nat.mod_eq_of_lt hj]
  omega
theorem drop_len {T B Z : List Nat} {a : Nat} (h : T.drop a = B ++ Z) (hb : 0 < B.length) : a + B.length ≤ T.length := by
  have := congrArg List.length h
  rw [List.length_drop, List.length_append] at this
  omega
theorem drop_more {T B Z : List Nat} {a : Nat} (h : T.drop a = B ++ Z) : T.drop (a + B.length) = Z := by
  rw [← List.drop_drop, h]
  exact List.drop_left
theorem varR_back (f : Nat) : ∀ (i acc a j : Nat) (T Z : List Nat), 13 - i = f → i ≤ 12 → T.drop a = varL j ++ Z → j < 2 ^ (62 - 5 * i) → (0 < i → 0 < j) →
    varR T f i acc a = .ok (acc + j * 2 ^ (5 * i), a + (varL j).length) := by
  induction f with
  | zero => intro i acc a j T Z hf hi; omega
  | succ f ih =>
    intro i acc a j T Z hf hi hT hj h0
    have hj62 : j < 32 ^ 13 := by
      have : (2 : Nat) ^ (62 - 5 * i) ≤ 2 ^ 62 := Nat.pow_le_pow_right (by omega) (by omega)
      omega
    have hlen := drop_len hT (by rw [varL_length]; have := pieces_pos j; omega)
    have hv6 : 6 ≤ (varL j).length := by rw [varL_length]; have := pieces_pos j; omega
    unfold varR
    rw [if_neg (by omega)]
    rcases Nat.lt_or_ge j 32 with h32 | h32
    · rw [varL_small h32] at hT
      have hp : getV T a 6 = j := by
        rw [getV_of hT, List.cons_append, piece_val 0 j h32]
        omega
      simp only [hp]
      rw [if_neg, if_pos h32, Nat.mod_eq_of_lt h32, varL_small h32]
      · simp [bitsOf_length]
      · rintro (⟨h1, h2⟩ | ⟨h1, h2⟩)
        · subst h1
          simp at hj
          omega
        · have := h0 h1
          omega
    · rw [varL_big h32 hj62] at hT
      have hp : getV T a 6 = 32 + j % 32 := by
        rw [getV_of hT, List.cons_append, List.append_assoc, piece_val 1 (j % 32) (by omega)]
      simp only [hp]
      have hi12 : i ≠ 12 := by
        rintro rfl
        simp at hj
        omega
      rw [if_neg (by omega), if_neg (by omega)]
      have hT2 : T.drop (a + 6) = varL (j / 32) ++ Z := by
        have := drop_more (B := 1 :: bitsOf 5 (j % 32)) (Z := varL (j / 32) ++ Z) (T := T) (a := a) (by rw [hT]; simp [List.append_assoc])
        rw [List.length_cons, bitsOf_length] at this
        exact this
      have hj2 : j / 32 < 2 ^ (62 - 5 * (i + 1)) := by
        have e : 62 - 5 * i = 62 - 5 * (i + 1) + 5 := by omega
        rw [e, Nat.pow_add] at hj
        omega
      rw [ih (i + 1) _ (a + 6) (j / 32) T Z (by omega) (by omega) hT2 hj2 (by omega), varL_big h32 hj62]
      have e5 : 5 * (i + 1) = 5 * i + 5 := by omega
      have key : acc + (32 + j % 32) % 32 * 2 ^ (5 * i) + j / 32 * 2 ^ (5 * (i + 1)) = acc + j * 2 ^ (5 * i) := by
        rw [e5, Nat.pow_add, show (32 + j % 32) % 32 = j % 32 by omega]
        have e1 : j / 32 * (2 ^ (5 * i) * 2 ^ 5) = (j / 32 * 32) * 2 ^ (5 * i) := by rw [Nat.mul_comm (2 ^ (5 * i)), ← Nat.mul_assoc]
        have e2 : j * 2 ^ (5 * i) = (j / 32 * 32 + j % 32) * 2 ^ (5 * i) := by congr 1; omega
        rw [e1, e2, Nat.add_mul]
        omega
      rw [key]
      simp only [List.length_cons, List.length_append, bitsOf_length]
      congr 2
      omega
theorem varG_back {T Z : List Nat} {a n : Nat} (h : T.drop a = varL n ++ Z) (hn : n < 4611686018427387904) : varG T a = .ok (n, a + (varL n).length) := by
  unfold varG
  rw [varR_back 13 0 0 a n T Z (by omega) (by omega) h (by simpa using hn) (by omega)]
  simp
theorem intG_back {T Z : List Nat} {a : Nat} {n : Int} (h : T.drop a = intL n ++ Z) (h1 : -1152921504606846976 ≤ n) (h2 : n ≤ 1152921504606846976) : intG T a = .ok (n, a + (intL n).length) := by
  unfold intG
  have hz := zig_le h1 h2
  rw [varG_back (n := zig n) h (by omega)]
  simp only
  rw [if_neg (by omega), zag_zig]
  rfl

/-! ### marks -/
/-- one of a writer, or a reader: what (0 Put, 1 Var, else Int), a number, a width -/
structure Mk where
  what : Int
  n : Int
  width : Int
/-- its bits, if it may be -/
def enc (m : Mk) : Option (List Nat) :=
  if m.what = 0 then (if 0 ≤ m.width ∧ m.width ≤ 62 ∧ 0 ≤ m.n ∧ m.n < 2 ^ m.width.toNat then some (bitsOf m.width.toNat m.n.toNat) else none)
  else if m.what = 1 then (if 0 ≤ m.n ∧ m.n < 4611686018427387904 then some (varL m.n.toNat) else none)
  else (if -1152921504606846976 ≤ m.n ∧ m.n ≤ 1152921504606846976 then some (intL m.n) else none)
def encD (m : Mk) : List Nat := (enc m).getD []
theorem enc_bin {m : Mk} {b : List Nat} (h : enc m = some b) : Bin b := by
  unfold enc at h
  repeat' split at h
  all_goals first | (cases h; done) | (obtain rfl := Option.some.inj h; first | exact bitsOf_bin _ _ | exact varL_bin _ | exact intL_bin _)
/-- all their bits -/
def allL (D : List Mk) : List Nat := D.flatMap encD
theorem allL_snoc (D : List Mk) (m : Mk) : allL (D ++ [m]) = allL D ++ encD m := by simp [allL]
theorem allL_take {D : List Mk} {k : Nat} {m : Mk} (h : D[k]? = some m) : allL D = allL (D.take k) ++ (encD m ++ allL (D.drop (k + 1))) := by
  have hk : k < D.length := (List.getElem?_eq_some_iff.1 h).1
  have hm : D[k] = m := (List.getElem?_eq_some_iff.1 h).2
  have e : D = D.take k ++ (m :: D.drop (k + 1)) := by
    rw [← hm, ← List.drop_eq_getElem_cons hk, List.take_append_drop]
  have := congrArg allL e
  rw [this]
  unfold allL
  rw [List.flatMap_append, List.flatMap_cons]
theorem allL_take_succ {D : List Mk} {k : Nat} {m : Mk} (h : D[k]? = some m) : allL (D.take (k + 1)) = allL (D.take k) ++ encD m := by
  have : D.take (k + 1) = D.take k ++ [m] := by rw [List.take_add_one, h]; rfl
  rw [this, allL_snoc]
theorem drop_at {D : List Mk} {k : Nat} {m : Mk} {Z T : List Nat} {b : List Nat} (h : D[k]? = some m) (hT : T = allL D ++ Z) (hb : enc m = some b) : T.drop (allL (D.take k)).length = b ++ (allL (D.drop (k + 1)) ++ Z) := by
  refine drop_of (A := allL (D.take k)) ?_ rfl
  rw [hT, allL_take h]
  unfold encD
  rw [hb]
  simp [List.append_assoc]
end Go.Proofs.YtnkinnfpebploaaDoor.B
