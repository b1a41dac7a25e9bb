/- A region that draws its order: its operations but the last ones keep what S says (calls may write), in whatever order; the last ones, which wait for all others, follow in whatever world has come of it. Conditions: none. -/
import Init.Data.Nat.Bitwise.Lemmas
import Derived.Deep.Quiet
import Derived.Deep.QuietTactic
import Derived.BigQuiet
import Derived.StillTail
import Derived.Below
import Derived.WalkKit
import Derived.Laws.AppendOwn
import Derived.OwnWalk
import Derived.Laws.BitsAllLaws
import Derived.Laws.BitsLemmas
import Derived.Test.YtefhmbmbhiehdaaRows
import Derived.ProofKit
import Derived.OpenShut
import Derived.Carry
import Derived.LaidEqlPtr
import Derived.Laws.Entries
import Derived.Lib.Hide
import Derived.Maps.AppendAt
import Derived.Laws.Slices
import Derived.Laws.AppendOwnNone
import Derived.Maps.OwnOps
import Derived.Maps.OwnSet
import Derived.Maps.Views
import Derived.Maps.RangeWalk
import Derived.Laws.Rows
import Derived.Maps.Own
import Derived.Deep.RegionHeld3
namespace Go.Proofs.Ytefhmbmbhiehdaa.B

/-! ### numbers and bits -/
/-- the last k bits of a number, the greatest first -/
def bitsOf : Nat → Nat → List Nat
  | 0, _ => []
  | k + 1, n => n / 2 ^ k % 2 :: bitsOf k n
/-- what bits tell, behind a -/
def valF (a : Nat) : List Nat → Nat
  | [] => a
  | b :: l => valF (2 * a + b) l
def val (l : List Nat) : Nat := valF 0 l
/-- each is 0 or 1 -/
def Bin (l : List Nat) : Prop := ∀ b ∈ l, b < 2
theorem bitsOf_length (k n : Nat) : (bitsOf k n).length = k := by
  induction k with
  | zero => rfl
  | succ k ih => simp [bitsOf, ih]
theorem bitsOf_bin (k n : Nat) : Bin (bitsOf k n) := by
  induction k with
  | zero => intro b h; simp [bitsOf] at h
  | succ k ih =>
    intro b h
    simp only [bitsOf, List.mem_cons] at h
    rcases h with rfl | h
    · omega
    · exact ih b h
theorem Bin.nil : Bin [] := by intro b h; simp at h
theorem Bin.append {a b : List Nat} (h : Bin a) (k : Bin b) : Bin (a ++ b) := by
  intro x hx
  rw [List.mem_append] at hx
  rcases hx with hx | hx
  · exact h x hx
  · exact k x hx
theorem Bin.left {a b : List Nat} (h : Bin (a ++ b)) : Bin a := fun x hx => h x (by simp [hx])
theorem Bin.right {a b : List Nat} (h : Bin (a ++ b)) : Bin b := fun x hx => h x (by simp [hx])
theorem Bin.cons {x : Nat} {l : List Nat} (h : Bin (x :: l)) : x < 2 ∧ Bin l := ⟨h x (by simp), fun y hy => h y (by simp [hy])⟩
theorem Bin.mk {x : Nat} {l : List Nat} (h : x < 2) (k : Bin l) : Bin (x :: l) := by
  intro y hy
  simp only [List.mem_cons] at hy
  rcases hy with rfl | hy
  · exact h
  · exact k y hy
theorem Bin.replicate (n : Nat) : Bin (List.replicate n 0) := by
  intro x hx
  rw [List.mem_replicate] at hx
  omega
theorem Bin.take {l : List Nat} (h : Bin l) (n : Nat) : Bin (l.take n) := fun x hx => h x (List.mem_of_mem_take hx)
theorem Bin.drop {l : List Nat} (h : Bin l) (n : Nat) : Bin (l.drop n) := fun x hx => h x (List.mem_of_mem_drop hx)
theorem valF_append (a : Nat) (l m : List Nat) : valF a (l ++ m) = valF (valF a l) m := by
  induction l generalizing a with
  | nil => rfl
  | cons b l ih => exact ih _
theorem valF_eq (a : Nat) (l : List Nat) : valF a l = a * 2 ^ l.length + val l := by
  induction l generalizing a with
  | nil => simp [valF, val]
  | cons b l ih =>
    simp only [valF, val, List.length_cons]
    rw [ih, ih (2 * 0 + b), Nat.pow_succ, Nat.add_mul]
    have e1 : 2 * a * 2 ^ l.length = a * (2 ^ l.length * 2) := by rw [Nat.mul_comm 2 a, Nat.mul_assoc, Nat.mul_comm 2]
    have e2 : (2 * 0 + b) * 2 ^ l.length = b * 2 ^ l.length := by congr 1; omega
    omega
theorem val_lt {l : List Nat} (h : Bin l) : val l < 2 ^ l.length := by
  induction l with
  | nil => simp [val, valF]
  | cons b l ih =>
    obtain ⟨h1, h2⟩ := h.cons
    have := ih h2
    simp only [val, valF, List.length_cons]
    rw [valF_eq, Nat.pow_succ]
    have e2 : (2 * 0 + b) * 2 ^ l.length ≤ 1 * 2 ^ l.length := Nat.mul_le_mul_right _ (by omega)
    omega
theorem valF_snoc (a : Nat) (l : List Nat) (b : Nat) : valF a (l ++ [b]) = 2 * valF a l + b := by rw [valF_append]; rfl
theorem valF_bitsOf (a k n : Nat) : valF a (bitsOf k n) = a * 2 ^ k + n % 2 ^ k := by
  induction k generalizing a with
  | zero => simp [bitsOf, valF, Nat.mod_one]
  | succ k ih =>
    simp only [bitsOf, valF]
    rw [ih]
    have h1 : n % 2 ^ (k + 1) = n % 2 ^ k + 2 ^ k * (n / 2 ^ k % 2) := Nat.mod_mul
    rw [h1, Nat.pow_succ, Nat.add_mul]
    have e1 : 2 * a * 2 ^ k = a * (2 ^ k * 2) := by rw [Nat.mul_comm 2 a, Nat.mul_assoc, Nat.mul_comm 2]
    have e2 : n / 2 ^ k % 2 * 2 ^ k = 2 ^ k * (n / 2 ^ k % 2) := Nat.mul_comm _ _
    omega
theorem bitsOf_zero (k : Nat) : bitsOf k 0 = List.replicate k 0 := by
  induction k with
  | zero => rfl
  | succ k ih => simp [bitsOf, ih, List.replicate_succ]

/-! ### numbers of any size -/
/-- the bits of a number in pieces: f at most -/
def varF : Nat → Nat → List Nat
  | 0, _ => []
  | f + 1, n => if n < 32 then 0 :: bitsOf 5 n else 1 :: (bitsOf 5 (n % 32) ++ varF f (n / 32))
def varL (n : Nat) : List Nat := varF 13 n
/-- a number with its sign -/
def zig (n : Int) : Nat := if n < 0 then (-2 * n - 1).toNat else (2 * n).toNat
def zag (n : Nat) : Int := if n % 2 = 1 then -(((n + 1) / 2 : Nat) : Int) else ((n / 2 : Nat) : Int)
def intL (n : Int) : List Nat := varL (zig n)
theorem zig_le {n : Int} (h1 : -1152921504606846976 ≤ n) (h2 : n ≤ 1152921504606846976) : zig n ≤ 2305843009213693952 := by
  unfold zig
  split <;> omega
theorem varF_bin (f n : Nat) : Bin (varF f n) := by
  induction f generalizing n with
  | zero => exact Bin.nil
  | succ f ih =>
    unfold varF
    split
    · exact Bin.mk (by omega) (bitsOf_bin _ _)
    · exact Bin.mk (by omega) ((bitsOf_bin _ _).append (ih _))
theorem varL_bin (n : Nat) : Bin (varL n) := varF_bin _ _
theorem intL_bin (n : Int) : Bin (intL n) := varL_bin _
theorem varF_more {f g n : Nat} (h : n < 32 ^ f) (hf : 0 < f) (hg : f ≤ g) : varF g n = varF f n := by
  induction f generalizing g n with
  | zero => omega
  | succ f ih =>
    obtain ⟨g, rfl⟩ : ∃ k, g = k + 1 := ⟨g - 1, by omega⟩
    unfold varF
    split
    · rfl
    · rename_i hn
      have h0 : 0 < f := by
        rcases Nat.eq_zero_or_pos f with rfl | h0
        · simp at h; omega
        · exact h0
      rw [ih (by rw [Nat.pow_succ] at h; omega) h0 (by omega)]
/-- how many pieces -/
def piecesF : Nat → Nat → Nat
  | 0, _ => 0
  | f + 1, n => if n < 32 then 1 else piecesF f (n / 32) + 1
theorem varF_length (f n : Nat) : (varF f n).length = 6 * piecesF f n := by
  induction f generalizing n with
  | zero => rfl
  | succ f ih =>
    unfold varF piecesF
    split
    · simp [bitsOf_length]
    · simp [bitsOf_length, ih]; omega
theorem piecesF_bd (f n : Nat) : piecesF f n ≤ f := by
  induction f generalizing n with
  | zero => exact Nat.le_refl _
  | succ f ih =>
    unfold piecesF
    split
    · omega
    · have := ih (n / 32); omega
def pieces (n : Nat) : Nat := piecesF 13 n
theorem varL_length (n : Nat) : (varL n).length = 6 * pieces n := varF_length _ _
theorem pieces_bd (n : Nat) : pieces n ≤ 13 := piecesF_bd _ _
theorem pieces_pos (n : Nat) : 1 ≤ pieces n := by unfold pieces piecesF; split <;> omega

theorem piecesF_more {f g n : Nat} (h : n < 32 ^ f) (hf : 0 < f) (hg : f ≤ g) : piecesF g n = piecesF f n := by
  have h1 := varF_length f n
  have h2 := varF_length g n
  rw [varF_more h hf hg] at h2
  omega
theorem varL_small {n : Nat} (h : n < 32) : varL n = 0 :: bitsOf 5 n := by unfold varL varF; rw [if_pos h]
theorem varL_big {n : Nat} (h : 32 ≤ n) (h2 : n < 32 ^ 13) : varL n = 1 :: (bitsOf 5 (n % 32) ++ varL (n / 32)) := by
  have e : varL (n / 32) = varF 12 (n / 32) := varF_more (by rw [Nat.pow_succ] at h2; omega) (by omega) (by omega)
  rw [e]
  unfold varL
  rw [varF, if_neg (by omega)]
theorem pieces_small {n : Nat} (h : n < 32) : pieces n = 1 := by unfold pieces piecesF; rw [if_pos h]
theorem pieces_big {n : Nat} (h : 32 ≤ n) (h2 : n < 32 ^ 13) : pieces n = pieces (n / 32) + 1 := by
  have e : pieces (n / 32) = piecesF 12 (n / 32) := piecesF_more (by rw [Nat.pow_succ] at h2; omega) (by omega) (by omega)
  rw [e]
  unfold pieces
  rw [piecesF, if_neg (by omega)]
/-- how many pieces what is left has -/
def restN (n : Nat) : Nat := if n = 0 then 0 else pieces n
theorem rest_step {n : Nat} (h0 : n ≠ 0) (h2 : n < 32 ^ 13) : restN n = restN (n / 32) + 1 := by
  unfold restN
  rw [if_neg h0]
  rcases Nat.lt_or_ge n 32 with h | h
  · rw [pieces_small h, if_pos (by omega)]
  · rw [pieces_big h h2, if_neg (by omega)]
theorem pieces_rest {n : Nat} (h2 : n < 32 ^ 13) : pieces n = restN (n / 32) + 1 := by
  rcases Nat.eq_zero_or_pos n with h0 | h0
  · subst h0; rfl
  · have := rest_step (by omega) h2
    rw [← this]
    unfold restN
    rw [if_neg (by omega)]

/-! ### bits and bytes -/
/-- eight bits, filled up with 0 -/
def byteAt (l : List Nat) (k : Nat) : Nat := val ((l.drop (8 * k)).take 8 ++ List.replicate (8 - ((l.drop (8 * k)).take 8).length) 0)
/-- how many bytes -/
def bytesOf (l : List Nat) : Nat := (l.length + 7) / 8
/-- bits as bytes -/
def pack (l : List Nat) : List Nat := (List.range (bytesOf l)).map (byteAt l)
/-- bytes' bits -/
def openL (l : List Nat) : List Nat := l.flatMap (bitsOf 8)
theorem pack_length (l : List Nat) : (pack l).length = bytesOf l := by simp [pack]
theorem pack_get {l : List Nat} {k : Nat} (h : k < bytesOf l) : (pack l)[k]? = some (byteAt l k) := by simp [pack, h]
theorem openL_length (l : List Nat) : (openL l).length = 8 * l.length := by
  induction l with
  | nil => rfl
  | cons b l ih =>
    have : openL (b :: l) = bitsOf 8 b ++ openL l := rfl
    rw [this, List.length_append, ih, bitsOf_length, List.length_cons]; omega
theorem openL_append (a b : List Nat) : openL (a ++ b) = openL a ++ openL b := by simp [openL]
theorem openL_bin (l : List Nat) : Bin (openL l) := by
  intro b hb
  simp only [openL, List.mem_flatMap] at hb
  obtain ⟨x, _, hx⟩ := hb
  exact bitsOf_bin _ _ b hx
theorem byteAt_lt {l : List Nat} (h : Bin l) (k : Nat) : byteAt l k < 256 := by
  unfold byteAt
  have hb : Bin ((l.drop (8 * k)).take 8 ++ List.replicate (8 - ((l.drop (8 * k)).take 8).length) 0) := ((h.drop _).take _).append (Bin.replicate _)
  have := val_lt hb
  have hl : ((l.drop (8 * k)).take 8 ++ List.replicate (8 - ((l.drop (8 * k)).take 8).length) 0).length = 8 := by simp; omega
  rw [hl] at this
  exact this
theorem pack_lt {l : List Nat} (h : Bin l) : ∀ b ∈ pack l, b < 256 := by
  intro b hb
  simp only [pack, List.mem_map] at hb
  obtain ⟨k, _, rfl⟩ := hb
  exact byteAt_lt h k
theorem bitsOf_get (k n r : Nat) (h : r < k) : (bitsOf k n)[r]? = some (n / 2 ^ (k - 1 - r) % 2) := by
  induction k generalizing r with
  | zero => omega
  | succ k ih =>
    cases r with
    | zero => simp [bitsOf]
    | succ r =>
      simp only [bitsOf, List.getElem?_cons_succ]
      rw [ih r (by omega), show k + 1 - 1 - (r + 1) = k - 1 - r by omega]
theorem openL_get (l : List Nat) (q r x : Nat) (hx : l[q]? = some x) (hr : r < 8) : (openL l)[8 * q + r]? = some (x / 2 ^ (7 - r) % 2) := by
  induction l generalizing q with
  | nil => simp at hx
  | cons b l ih =>
    have e : openL (b :: l) = bitsOf 8 b ++ openL l := rfl
    rw [e]
    cases q with
    | zero =>
      simp only [List.getElem?_cons_zero, Option.some.injEq] at hx
      subst hx
      rw [List.getElem?_append_left (by rw [bitsOf_length]; omega), show 8 * 0 + r = r by omega, bitsOf_get 8 b r hr]
    | succ q =>
      simp only [List.getElem?_cons_succ] at hx
      rw [List.getElem?_append_right (by rw [bitsOf_length]; omega), bitsOf_length, show 8 * (q + 1) + r - 8 = 8 * q + r by omega]
      exact ih q hx
/-- what so many bits from a place on tell -/
def getV (T : List Nat) (a k : Nat) : Nat := val ((T.drop a).take k)
theorem getV_zero (T : List Nat) (a : Nat) : getV T a 0 = 0 := by simp [getV, val, valF]
theorem getV_succ {T : List Nat} {a k b : Nat} (h : T[a + k]? = some b) : getV T a (k + 1) = 2 * getV T a k + b := by
  unfold getV val
  have e : (T.drop a).take (k + 1) = (T.drop a).take k ++ [b] := by
    rw [List.take_add_one, List.getElem?_drop, h]
    rfl
  rw [e, valF_snoc]
theorem getV_lt {T : List Nat} (h : Bin T) (a k : Nat) : getV T a k < 2 ^ k := by
  have h1 := val_lt ((h.drop a).take k)
  have h2 : ((T.drop a).take k).length ≤ k := by simp; omega
  exact Nat.lt_of_lt_of_le h1 (Nat.pow_le_pow_right (by omega) h2)
/-! ### what is read -/
/-- 6.2's Var from a place on: the number and the place behind it, or what is wrong -/
def varR (T : List Nat) : Nat → Nat → Nat → Nat → Except Int (Nat × Nat)
  | 0, _, _, _ => .error 3
  | f + 1, i, n, a =>
    if T.length < a + 6 then .error 8
    else
      let p := getV T a 6
      if i = 12 ∧ 3 < p ∨ 0 < i ∧ p = 0 then .error 3
      else if p < 32 then .ok (n + p % 32 * 2 ^ (5 * i), a + 6) else varR T f (i + 1) (n + p % 32 * 2 ^ (5 * i)) (a + 6)
theorem varR_bd (i m c : Nat) (h : m < 2 ^ (5 * i)) : m + c % 32 * 2 ^ (5 * i) < 2 ^ (5 * (i + 1)) := by
  have e : 5 * (i + 1) = 5 * i + 5 := by omega
  rw [e, Nat.pow_add]
  have h6 : c % 32 * 2 ^ (5 * i) ≤ 31 * 2 ^ (5 * i) := Nat.mul_le_mul_right _ (by omega)
  omega
def varG (T : List Nat) (a : Nat) : Except Int (Nat × Nat) := varR T 13 0 0 a
def intG (T : List Nat) (a : Nat) : Except Int (Int × Nat) :=
  match varG T a with
  | .error e => .error e
  | .ok (n, a') => if 2305843009213693952 < n then .error 3 else .ok (zag n, a')
/-! ### one bit more -/
theorem byteAt_snoc_old (l : List Nat) (b k : Nat) (h : k ≠ l.length / 8) : byteAt (l ++ [b]) k = byteAt l k := by
  unfold byteAt
  have : ((l ++ [b]).drop (8 * k)).take 8 = (l.drop (8 * k)).take 8 := by
    rcases Nat.lt_or_ge l.length (8 * k) with h1 | h1
    · rw [List.drop_of_length_le (by simp; omega), List.drop_of_length_le (by omega)]
    · rw [List.drop_append_of_le_length h1, List.take_append_of_le_length (by simp; omega)]
  rw [this]
theorem byteAt_end (l : List Nat) (k : Nat) (h : l.length ≤ 8 * k) : byteAt l k = 0 := by
  unfold byteAt
  rw [List.drop_of_length_le h]
  decide
theorem valF_replicate (a n : Nat) : valF a (List.replicate n 0) = a * 2 ^ n := by rw [← bitsOf_zero, valF_bitsOf]; simp
/-- the byte where the next bit goes: there is 0 yet from there on -/
theorem byteAt_snoc (l : List Nat) (b : Nat) : byteAt (l ++ [b]) (l.length / 8) = byteAt l (l.length / 8) + b * 2 ^ (7 - l.length % 8) ∧ byteAt l (l.length / 8) % 2 ^ (8 - l.length % 8) = 0 := by
  have h1 : 8 * (l.length / 8) ≤ l.length := by omega
  have hm : ((l.drop (8 * (l.length / 8))).take 8) = l.drop (8 * (l.length / 8)) := List.take_of_length_le (by simp; omega)
  have hl : (l.drop (8 * (l.length / 8))).length = l.length % 8 := by simp; omega
  unfold byteAt
  rw [List.drop_append_of_le_length h1, hm]
  have hm2 : (l.drop (8 * (l.length / 8)) ++ [b]).take 8 = l.drop (8 * (l.length / 8)) ++ [b] := List.take_of_length_le (by rw [List.length_append, hl]; simp; omega)
  rw [hm2]
  generalize l.drop (8 * (l.length / 8)) = x at *
  simp only [List.length_append, List.length_cons, List.length_nil, hl]
  unfold val
  rw [List.append_assoc, valF_append, valF_append, valF_append, valF_replicate, valF_replicate]
  simp only [valF]
  have e : 8 - l.length % 8 = 7 - l.length % 8 + 1 := by omega
  rw [show 8 - (l.length % 8 + (0 + 1)) = 7 - l.length % 8 by omega, e, Nat.pow_succ]
  refine ⟨?_, Nat.mul_mod_left _ _⟩
  rw [Nat.add_mul]
  congr 1
  rw [Nat.mul_comm 2, Nat.mul_assoc, Nat.mul_comm 2]
/-- j bits from i on, filled up with 0 -/
def pv (L : List Nat) (i : Nat) : Nat → Nat
  | 0 => 0
  | j + 1 => 2 * pv L i j + (L[i + j]?).getD 0
theorem pv_in {L : List Nat} {i j x : Nat} (h : L[i + j]? = some x) : pv L i (j + 1) = 2 * pv L i j + x := by simp [pv, h]
theorem pv_out {L : List Nat} {i j : Nat} (h : L.length ≤ i + j) : pv L i (j + 1) = 2 * pv L i j := by simp [pv, List.getElem?_eq_none h]
theorem pv_lt {L : List Nat} (h : Bin L) (i j : Nat) : pv L i j < 2 ^ j := by
  induction j with
  | zero => simp [pv]
  | succ j ih =>
    rcases Nat.lt_or_ge (i + j) L.length with hl | hl
    · rw [pv_in (List.getElem?_eq_getElem hl), Nat.pow_succ]
      have := h _ (List.getElem_mem hl)
      omega
    · rw [pv_out hl, Nat.pow_succ]; omega
theorem pv_val (L : List Nat) (i j : Nat) : pv L i j = val ((L.drop i).take j ++ List.replicate (j - ((L.drop i).take j).length) 0) := by
  induction j with
  | zero => simp [pv, val, valF]
  | succ j ih =>
    rcases Nat.lt_or_ge (i + j) L.length with hl | hl
    · rw [pv_in (List.getElem?_eq_getElem hl), ih]
      have e1 : ((L.drop i).take j).length = j := by simp; omega
      have e2 : (L.drop i).take (j + 1) = (L.drop i).take j ++ [L[i + j]] := by rw [List.take_add_one, List.getElem?_drop, List.getElem?_eq_getElem hl]; rfl
      rw [e2, List.length_append, e1]
      simp only [List.length_cons, List.length_nil, Nat.sub_self, List.replicate_zero, List.append_nil, Nat.zero_add]
      unfold val
      rw [valF_snoc]
    · rw [pv_out hl, ih]
      have e2 : (L.drop i).take (j + 1) = (L.drop i).take j := by
        rw [List.take_add_one, List.getElem?_drop, List.getElem?_eq_none hl]; simp
      have e1 : ((L.drop i).take j).length ≤ j := by simp; omega
      rw [e2, show j + 1 - ((L.drop i).take j).length = (j - ((L.drop i).take j).length) + 1 by omega, List.replicate_succ', ← List.append_assoc]
      unfold val
      rw [valF_snoc]
      rfl
theorem pv_byte (L : List Nat) (k : Nat) : pv L (8 * k) 8 = byteAt L k := pv_val L (8 * k) 8
theorem pack_take_succ {L : List Nat} {k : Nat} (h : k < bytesOf L) : (pack L).take (k + 1) = (pack L).take k ++ [byteAt L k] := by
  rw [List.take_add_one, pack_get h]; rfl
theorem bytesOf_snoc (l : List Nat) (b : Nat) : bytesOf (l ++ [b]) = if l.length % 8 = 0 then bytesOf l + 1 else bytesOf l := by
  unfold bytesOf
  simp only [List.length_append, List.length_cons, List.length_nil]
  split <;> omega
end Go.Proofs.Ytefhmbmbhiehdaa.B
namespace Go.Proofs.Ytefhmbmbhiehdaa
open B
/-- within 2^40 -/
def In40 (n : Int) : Prop := -1099511627776 ≤ n ∧ n ≤ 1099511627776
instance (n : Int) : Decidable (In40 n) := inferInstanceAs (Decidable (_ ∧ _))
/-- the number ahead of row i -/
def prevId (M : Nat → Nat → Int) : Nat → Int
  | 0 => 0
  | i + 1 => M i 0
/-- row i may be, behind that number -/
def RightRow (M : Nat → Nat → Int) (i : Nat) (last : Int) : Prop := (last < M i 0 ∧ M i 0 ≤ 1099511627776 ∧ 0 ≤ M i 1 ∧ M i 1 ≤ 7) ∧ ∀ j, 2 ≤ j → j < 11 → In40 (M i j)
/-- a view may be -/
def RightV (n : Nat) (M : Nat → Nat → Int) : Prop := (∀ i, i < n → RightRow M i (prevId M i)) ∧ n ≤ 60
theorem RightV.row {n : Nat} {M : Nat → Nat → Int} (h : RightV n M) {i : Nat} (hi : i < n) : RightRow M i (prevId M i) := h.1 i hi
theorem RightV.ids {n : Nat} {M : Nat → Nat → Int} (h : RightV n M) {i k : Nat} (hik : i < k) (hk : k < n) : M i 0 < M k 0 := by
  induction k with
  | zero => omega
  | succ k ih =>
    have h1 := (h.row hk).1.1
    simp only [prevId] at h1
    rcases Nat.lt_or_ge i k with hl | hl
    · have := ih hl (by omega); omega
    · have : i = k := by omega
      subst this; exact h1
theorem RightV.pos {n : Nat} {M : Nat → Nat → Int} (h : RightV n M) {i : Nat} (hi : i < n) : 1 ≤ M i 0 := by
  cases i with
  | zero => have := (h.row hi).1.1; simp only [prevId] at this; omega
  | succ i =>
    have h1 := (h.row (i := 0) (by omega)).1.1
    have h2 := h.ids (i := 0) (k := i + 1) (by omega) hi
    simp only [prevId] at h1
    omega
theorem RightV.top {n : Nat} {M : Nat → Nat → Int} (h : RightV n M) {i : Nat} (hi : i < n) : M i 0 ≤ 1099511627776 := (h.row hi).1.2.1
/-- the bits of three numbers -/
def vec3L (x y z : Int) : List Nat := intL x ++ intL y ++ intL z
/-- of a row's three numbers from j on, less another row's -/
def vecD (M1 : Nat → Nat → Int) (i : Nat) (M2 : Nat → Nat → Int) (k j : Nat) : List Nat := vec3L (M2 k j - M1 i j) (M2 k (j + 1) - M1 i (j + 1)) (M2 k (j + 2) - M1 i (j + 2))
def headL (what : Nat) (id last : Int) : List Nat := bitsOf 2 what ++ varL (id - last - 1).toNat
def newL (M : Nat → Nat → Int) (k : Nat) : List Nat := bitsOf 3 (M k 1).toNat ++ vec3L (M k 2) (M k 3) (M k 4) ++ vec3L (M k 5) (M k 6) (M k 7) ++ vec3L (M k 8) (M k 9) (M k 10)
/-- whether three numbers from j on are others -/
def ne3 (M1 : Nat → Nat → Int) (i : Nat) (M2 : Nat → Nat → Int) (k j : Nat) : Bool := !(M1 i j == M2 k j && M1 i (j + 1) == M2 k (j + 1) && M1 i (j + 2) == M2 k (j + 2))
def neS (M1 : Nat → Nat → Int) (i : Nat) (M2 : Nat → Nat → Int) (k : Nat) : Bool := ne3 M1 i M2 k 2 || !(M1 i 1 == M2 k 1)
def bit (b : Bool) : List Nat := bitsOf 1 (if b then 1 else 0)
def changeL (M1 : Nat → Nat → Int) (i : Nat) (M2 : Nat → Nat → Int) (k : Nat) : List Nat :=
  bit (neS M1 i M2 k) ++ bit (ne3 M1 i M2 k 5) ++ bit (ne3 M1 i M2 k 8) ++
  (if neS M1 i M2 k then bitsOf 3 (M2 k 1).toNat ++ vecD M1 i M2 k 2 else []) ++ (if ne3 M1 i M2 k 5 then vecD M1 i M2 k 5 else []) ++ (if ne3 M1 i M2 k 8 then vecD M1 i M2 k 8 else [])
/-- two rows of one number are the same -/
def same11 (M1 : Nat → Nat → Int) (i : Nat) (M2 : Nat → Nat → Int) (k : Nat) : Bool := !(neS M1 i M2 k) && !(ne3 M1 i M2 k 5) && !(ne3 M1 i M2 k 8)
section
variable (M1 : Nat → Nat → Int) (n1 : Nat) (M2 : Nat → Nat → Int) (n2 : Nat)
/-- the first of the two views is next, alone -/
def Gone (i k : Nat) : Prop := i < n1 ∧ (k < n2 → M1 i 0 < M2 k 0)
def Came (i k : Nat) : Prop := k < n2 ∧ (i < n1 → M2 k 0 < M1 i 0)
instance (i k : Nat) : Decidable (Gone M1 n1 M2 n2 i k) := inferInstanceAs (Decidable (_ ∧ _))
instance (i k : Nat) : Decidable (Came M1 n1 M2 n2 i k) := inferInstanceAs (Decidable (_ ∧ _))
/-- the bits from row i and row k on; last: the number that was told last -/
def restF : Nat → Nat → Nat → Int → List Nat
  | 0, _, _, _ => bitsOf 2 3
  | f + 1, i, k, last =>
    if i < n1 ∨ k < n2 then
      if Gone M1 n1 M2 n2 i k then headL 0 (M1 i 0) last ++ restF f (i + 1) k (M1 i 0)
      else if Came M1 n1 M2 n2 i k then headL 1 (M2 k 0) last ++ newL M2 k ++ restF f i (k + 1) (M2 k 0)
      else if same11 M1 i M2 k then restF f (i + 1) (k + 1) last
      else headL 2 (M2 k 0) last ++ changeL M1 i M2 k ++ restF f (i + 1) (k + 1) (M2 k 0)
    else bitsOf 2 3
def deltaL : List Nat := restF M1 n1 M2 n2 (n1 + n2) 0 0 0
/-- all numbers, rising -/
def idsF : Nat → Nat → Nat → List Int
  | 0, _, _ => []
  | f + 1, i, k =>
    if i < n1 ∨ k < n2 then
      if Gone M1 n1 M2 n2 i k then M1 i 0 :: idsF f (i + 1) k
      else if Came M1 n1 M2 n2 i k then M2 k 0 :: idsF f i (k + 1)
      else M1 i 0 :: idsF f (i + 1) (k + 1)
    else []
end
/-- the first row from k on, of f rows, that begins with x -/
def rowF (M : Nat → Nat → Int) (x : Int) (k : Nat) : Nat → Option Nat
  | 0 => none
  | f + 1 => if M k 0 = x then some k else rowF M x (k + 1) f
def rowOf (M : Nat → Nat → Int) (n : Nat) (x : Int) : Option Nat := rowF M x 0 n
theorem rowF_some {M : Nat → Nat → Int} {x : Int} : ∀ {f k i : Nat}, rowF M x k f = some i → M i 0 = x ∧ k ≤ i ∧ i < k + f := by
  intro f
  induction f with
  | zero => intro k i h; cases h
  | succ f ih =>
    intro k i h
    unfold rowF at h
    by_cases e : M k 0 = x
    · rw [if_pos e] at h; cases h; exact ⟨e, by omega, by omega⟩
    · rw [if_neg e] at h
      obtain ⟨a, b, c⟩ := ih h
      exact ⟨a, by omega, by omega⟩
theorem rowF_none {M : Nat → Nat → Int} {x : Int} : ∀ {f k : Nat}, rowF M x k f = none → ∀ i, k ≤ i → i < k + f → M i 0 ≠ x := by
  intro f
  induction f with
  | zero => intro k _ i h1 h2; omega
  | succ f ih =>
    intro k h i h1 h2
    unfold rowF at h
    by_cases e : M k 0 = x
    · rw [if_pos e] at h; cases h
    · rw [if_neg e] at h
      rcases Nat.lt_or_ge k i with hl | hl
      · exact ih h i hl (by omega)
      · have : i = k := by omega
        subst this; exact e
theorem rowOf_yes {M : Nat → Nat → Int} {n i : Nat} (hi : i < n) (hn : ∀ a, a < i → M a 0 ≠ M i 0) : rowOf M n (M i 0) = some i := by
  cases h : rowOf M n (M i 0) with
  | none => exact absurd rfl (rowF_none h i (by omega) (by omega))
  | some k =>
    obtain ⟨h1, _, h3⟩ := rowF_some h
    have : ¬ k < i := fun hl => hn k hl h1
    rcases Nat.lt_or_ge i k with hl | hl
    · exfalso
      -- the first one is i
      clear this
      have key : ∀ {f k0 : Nat}, rowF M (M i 0) k0 f = some k → k0 ≤ i → k ≤ i := by
        intro f
        induction f with
        | zero => intro k0 h _; cases h
        | succ f ih =>
          intro k0 h h0
          unfold rowF at h
          by_cases e : M k0 0 = M i 0
          · rw [if_pos e] at h; cases h; exact h0
          · rw [if_neg e] at h
            rcases Nat.lt_or_ge k0 i with hl2 | hl2
            · exact ih h hl2
            · have : k0 = i := by omega
              subst this; exact absurd rfl e
      have := key h (by omega)
      omega
    · have : k = i := by omega
      rw [this]
theorem rowOf_no {M : Nat → Nat → Int} {n : Nat} {x : Int} (hn : ∀ a, a < n → M a 0 ≠ x) : rowOf M n x = none := by
  cases h : rowOf M n x with
  | none => rfl
  | some k =>
    obtain ⟨h1, _, h3⟩ := rowF_some h
    exact absurd h1 (hn k (by omega))
section
variable (M1 : Nat → Nat → Int) (n1 : Nat) (M2 : Nat → Nat → Int) (n2 : Nat)
/-- the document's: number by number -/
def restR : List Int → Int → List Nat
  | [], _ => bitsOf 2 3
  | x :: l, last =>
    match rowOf M1 n1 x, rowOf M2 n2 x with
    | _, none => headL 0 x last ++ restR l x
    | none, some k => headL 1 x last ++ newL M2 k ++ restR l x
    | some i, some k => if same11 M1 i M2 k then restR l last else headL 2 x last ++ changeL M1 i M2 k ++ restR l x
end
section
variable {M1 : Nat → Nat → Int} {n1 : Nat} {M2 : Nat → Nat → Int} {n2 : Nat}
theorem rest_eq (h1 : ∀ i k, i < k → k < n1 → M1 i 0 < M1 k 0) (h2 : ∀ i k, i < k → k < n2 → M2 i 0 < M2 k 0) :
    ∀ (f i k : Nat) (last : Int), i ≤ n1 → k ≤ n2 → (i < n1 → ∀ a, a < k → M2 a 0 < M1 i 0) → (k < n2 → ∀ a, a < i → M1 a 0 < M2 k 0) →
      restR M1 n1 M2 n2 (idsF M1 n1 M2 n2 f i k) last = restF M1 n1 M2 n2 f i k last := by
  intro f
  induction f with
  | zero => intros; rfl
  | succ f ih =>
    intro i k last hi hk ha hb
    unfold idsF restF
    by_cases hc : i < n1 ∨ k < n2
    · rw [if_pos hc, if_pos hc]
      by_cases hg : Gone M1 n1 M2 n2 i k
      · rw [if_pos hg, if_pos hg]
        obtain ⟨hi1, hg2⟩ := hg
        have e1 : rowOf M1 n1 (M1 i 0) = some i := rowOf_yes hi1 fun a h => by have := h1 a i h hi1; omega
        have e2 : rowOf M2 n2 (M1 i 0) = none := rowOf_no fun a h => by
          rcases Nat.lt_or_ge a k with hl | hl
          · have := ha hi1 a hl; omega
          · have hkn : k < n2 := by omega
            have h3 := hg2 hkn
            rcases Nat.lt_or_ge k a with hl2 | hl2
            · have := h2 k a hl2 h; omega
            · have : a = k := by omega
              subst this; omega
        rw [restR, e1, e2]
        simp only []
        rw [ih (i + 1) k (M1 i 0) (by omega) hk (fun h a hl => by have h3 := ha hi1 a hl; have h4 := h1 i (i + 1) (by omega) h; omega) (fun h a hl => by
          rcases Nat.lt_or_ge a i with hl2 | hl2
          · exact hb h a hl2
          · have : a = i := by omega
            subst this; exact hg2 h)]
      · rw [if_neg hg, if_neg hg]
        by_cases hm : Came M1 n1 M2 n2 i k
        · rw [if_pos hm, if_pos hm]
          obtain ⟨hk1, hm2⟩ := hm
          have e2 : rowOf M2 n2 (M2 k 0) = some k := rowOf_yes hk1 fun a h => by have := h2 a k h hk1; omega
          have e1 : rowOf M1 n1 (M2 k 0) = none := rowOf_no fun a h => by
            rcases Nat.lt_or_ge a i with hl | hl
            · have := hb hk1 a hl; omega
            · have hin : i < n1 := by omega
              have h3 := hm2 hin
              rcases Nat.lt_or_ge i a with hl2 | hl2
              · have := h1 i a hl2 h; omega
              · have : a = i := by omega
                subst this; omega
          rw [restR, e1, e2]
          simp only []
          rw [ih i (k + 1) (M2 k 0) hi (by omega) (fun h a hl => by
            rcases Nat.lt_or_ge a k with hl2 | hl2
            · exact ha h a hl2
            · have : a = k := by omega
              subst this; exact hm2 h) (fun h a hl => by have h3 := hb hk1 a hl; have h4 := h2 k (k + 1) (by omega) h; omega)]
        · rw [if_neg hm, if_neg hm]
          have hi1 : i < n1 := by
            rcases Nat.lt_or_ge i n1 with h | h
            · exact h
            · exact absurd ⟨by omega, fun h' => by omega⟩ hm
          have hk1 : k < n2 := by
            rcases Nat.lt_or_ge k n2 with h | h
            · exact h
            · exact absurd ⟨by omega, fun h' => by omega⟩ hg
          have he : M1 i 0 = M2 k 0 := by
            have a1 : ¬ M1 i 0 < M2 k 0 := fun h => hg ⟨hi1, fun _ => h⟩
            have a2 : ¬ M2 k 0 < M1 i 0 := fun h => hm ⟨hk1, fun _ => h⟩
            omega
          have e1 : rowOf M1 n1 (M1 i 0) = some i := rowOf_yes hi1 fun a h => by have := h1 a i h hi1; omega
          have e2 : rowOf M2 n2 (M1 i 0) = some k := by rw [he]; exact rowOf_yes hk1 fun a h => by have := h2 a k h hk1; omega
          have hn1 : i + 1 < n1 → ∀ a, a < k + 1 → M2 a 0 < M1 (i + 1) 0 := fun h a hl => by
            have h4 := h1 i (i + 1) (by omega) h
            rcases Nat.lt_or_ge a k with hl2 | hl2
            · have := ha hi1 a hl2; omega
            · have : a = k := by omega
              subst this; omega
          have hn2 : k + 1 < n2 → ∀ a, a < i + 1 → M1 a 0 < M2 (k + 1) 0 := fun h a hl => by
            have h4 := h2 k (k + 1) (by omega) h
            rcases Nat.lt_or_ge a i with hl2 | hl2
            · have := hb hk1 a hl2; omega
            · have : a = i := by omega
              subst this; omega
          rw [restR, e1, e2]
          simp only []
          by_cases hs : same11 M1 i M2 k = true
          · rw [if_pos hs, if_pos hs, ih (i + 1) (k + 1) last (by omega) (by omega) hn1 hn2]
          · rw [if_neg hs, if_neg hs, ih (i + 1) (k + 1) (M1 i 0) (by omega) (by omega) hn1 hn2, he]
    · rw [if_neg hc, if_neg hc]; rfl
theorem deltaL_ids (h1 : RightV n1 M1) (h2 : RightV n2 M2) : restR M1 n1 M2 n2 (idsF M1 n1 M2 n2 (n1 + n2) 0 0) 0 = deltaL M1 n1 M2 n2 :=
  rest_eq (fun _ _ a b => h1.ids a b) (fun _ _ a b => h2.ids a b) _ 0 0 0 (by omega) (by omega) (fun _ a h => by omega) (fun _ a h => by omega)
end
end Go.Proofs.Ytefhmbmbhiehdaa
namespace Go.Proofs.Ytefhmbmbhiehdaa
open Go Go.RowKit

section
variable {P : Program} {ops : Array Oper} {md : Region.Mode} {C : World → Prop}

/-- f operations from among the first n, in whatever order, each of them quiet in the class; then L. -/
def headAny (P : Program) (md : Region.Mode) (ops : Array Oper) (C : World → Prop) (n : Nat) (L : Array Bool → Act → Prop) : Nat → Array Bool → Act → Prop
  | 0, listed, a => L listed a
  | f + 1, listed, a => Region.ready md ops listed ≠ [] ∧ ∀ i ∈ Region.ready md ops listed, i < n ∧ qOp P ops C i (headAny P md ops C n L f (listed.setIfInBounds i true)) a

theorem any_of_head {n g : Nat} {L : Array Bool → Act → Prop} {Q : Exit → Act → World → Prop} (hL : ∀ listed a w, C w → L listed a → wpAny P md ops Q g listed a w) :
    ∀ (f : Nat) (listed : Array Bool) (a : Act) (w : World), C w → headAny P md ops C n L f listed a → wpAny P md ops Q (f + g) listed a w := by
  intro f
  induction f with
  | zero => intro listed a w hw h; rw [Nat.zero_add]; exact hL _ _ _ hw h
  | succ f ih =>
    intro listed a w hw h
    rw [show f + 1 + g = (f + g) + 1 from by omega]
    exact ⟨fun h0 => absurd h0 h.1, fun i hi => wpOp_of_qOp hw (fun a' w' hw' h' => ih _ a' w' hw' h') (h.2 i hi).2⟩

theorem head_first {n i : Nat} {oi : Oper} {v : Value} {L : Array Bool → Act → Prop} (hi : ops[i]? = some oi) (hsel : ∀ (j : Nat) (o : Oper) cs b, ops[j]? = some o → o.op ≠ .select cs b)
    (hs : Region.sinkB md ops n = true) (hc : Region.chainB md ops n = true) (hn : n < ops.size) (hin : i < n) (hdone : ∀ listed a, L listed a → ∀ j ∈ Region.ready md ops listed, n ≤ j) :
    ∀ (f : Nat) (listed : Array Bool) (a : Act), HeadInv md ops n listed →
      (∀ j oj, ops[j]? = some oj → j ≠ i → listed.getD j true = false → (∀ e ∈ oj.after, Region.binds md e = true → e.on ≠ i) → oi.apart ops oj = true) →
      i ∈ Region.ready md ops listed → YieldsIn P ops C oi v a → headAny P md ops C n L f (listed.setIfInBounds i true) (a.put oi.dst v) → headAny P md ops C n L (f + 1) listed a := by
  intro f
  induction f with
  | zero =>
    intro listed a inv _ hr hy H
    have hun := (mem_ready.1 hr).1
    refine ⟨fun h => (by rw [h] at hr; cases hr), fun j hj => ?_⟩
    have hjn : j < n := Nat.lt_of_not_le fun h => tail_waits hs hc hn inv _ i rfl hin hun j h hj
    refine ⟨hjn, ?_⟩
    by_cases hji : j = i
    · subst hji; exact hy.qOp hi H
    · exact absurd (hdone _ _ H j (ready_mono hj hji)) (by omega)
  | succ f ih =>
    intro listed a inv hfree hr hy H
    have hun := (mem_ready.1 hr).1
    refine ⟨fun h => (by rw [h] at hr; cases hr), fun j hj => ?_⟩
    have hjn : j < n := Nat.lt_of_not_le fun h => tail_waits hs hc hn inv _ i rfl hin hun j h hj
    refine ⟨hjn, ?_⟩
    by_cases hji : j = i
    · subst hji; exact hy.qOp hi H
    · obtain ⟨hjun, oj, hoj, hall⟩ := mem_ready.1 hj
      have hnot : ∀ e ∈ oj.after, Region.binds md e = true → e.on ≠ i := fun e he hb heq => by
        have h1 := hall e he hb
        rw [heq, getD_both hun] at h1
        cases h1
      have h2 := qOp_put hoj (hfree j oj hoj hji hjun hnot) (fun cs b => hsel i oi cs b hi) (fun cs b => hsel j oj cs b hoj) hy (H.2 j (ready_mono hj hji)).2
      refine qOp_mono (fun a' h3 => ih (listed.setIfInBounds j true) a' (inv.set hj hjn) (fun k ok hk hki hu hno => hfree k ok hk hki ?_ hno) (ready_mono hr (Ne.symm hji)) h3.1 ?_) h2
      · by_cases hjk : j = k
        · subst hjk; exact hjun
        · rwa [getD_set_ne true hjk] at hu
      · rw [Array.setIfInBounds_comm _ _ hji]
        exact h3.2

theorem head_lex {n g : Nat} {Lq : Act → Prop} (hsel : Region.noSelect ops = true) (hs : Region.sinkB md ops n = true) (hc : Region.chainB md ops n = true) (hn : n < ops.size) :
    ∀ (l : List Oper) (k : Nat) (listed : Array Bool) (a : Act), (∀ j, j < l.length → l[j]? = ops[k + j]?) → k + l.length = n → HeadInv md ops n listed →
      Region.lexHead md ops g l.length k listed = true → wpQuiet P ops C Lq l a →
      headAny P md ops C n (fun listed' a' => Region.seqB md ops g n listed' = true ∧ Lq a') l.length listed a := by
  intro l
  induction l with
  | nil =>
    intro k listed a _ hk _ hB h
    obtain rfl : k = n := by simpa using hk
    exact ⟨by simpa [Region.lexHead] using hB, h⟩
  | cons o l ih =>
    intro k listed a hl hk inv hB h
    have h0 : ops[k]? = some o := by simpa using (hl 0 (by simp)).symm
    simp only [List.length_cons, Region.lexHead, Bool.and_eq_true] at hB
    obtain ⟨⟨hr, hf⟩, hB'⟩ := hB
    simp only [List.length_cons] at hk
    have hr' : k ∈ Region.ready md ops listed := by simpa using hr
    have hst : qOp P ops C k (wpQuiet P ops C Lq l) a := by unfold qOp; simp only [h0]; exact h
    obtain ⟨v, hy, hK⟩ := yieldsIn_of_qOp h0 hst
    exact head_first h0 (Region.noSelect_spec hsel) hs hc hn (by omega) (fun listed' a' hL => seqB_ready hL.1) l.length listed a inv (Region.free_spec h0 hf) hr' hy
      (ih (k + 1) _ _ (fun j hj => by have := hl (j + 1) (by simp; omega); simpa [Nat.add_assoc, Nat.add_comm 1 j] using this) (by omega) (inv.set hr' (by omega)) hB' hK)

/-- The region: n operations that are quiet in a class of worlds, walked in the order of the text; then the rest, in each world of the class. -/
theorem region_quiet_tail {id : Nat} {Q : Exit → Act → World → Prop} {a : Act} {w : World} {l : List Oper} (n : Nat) (hm : P.follows .mixedOrders = true) (hB : Region.lexTailB .any l.toArray n = true) (hC : C { w with drawn := w.drawn + 1 })
    (h : wpQuiet P l.toArray C (fun a' => ∀ w', C w' → wpList P l.toArray Q (l.drop n) a' w') (l.take n) a) : (Code.region id l.toArray true).wp P Q a w := by
  simp only [Region.lexTailB, Bool.and_eq_true, decide_eq_true_eq] at hB
  obtain ⟨⟨⟨⟨hsel, hn⟩, hs⟩, hc⟩, hlex⟩ := hB
  have hn' : n < l.length := by simpa using hn
  have htl : (l.take n).length = n := by simp; omega
  have hdl : (l.drop n).length = l.toArray.size - n := by simp
  have inv0 : HeadInv .any l.toArray n (Array.replicate l.toArray.size false) :=
    ⟨by simp, fun j oj _ hl => (by rw [getD_replicate_false] at hl; cases hl), fun t _ ht => getD_in (by simpa using ht) (getD_replicate_false _ _)⟩
  have H := head_lex (md := .any) (g := l.toArray.size - n) hsel hs hc hn (l.take n) 0 _ a (fun j hj => by
    rw [htl] at hj; simp [hj]) (by simpa using htl) inv0 (by rw [htl]; exact hlex) h
  refine wp_region_any hm ?_
  have := any_of_head (Q := Q) (g := l.toArray.size - n) (fun listed a' w' hw' hL => by
    have := wpAny_of_seq (md := .any) (Q' := Q) (l.drop n) n listed a' w' (fun j => by simp [List.getElem?_drop]) (by rw [hdl]; exact hL.1) (hL.2 w' hw')
    rwa [hdl] at this) _ _ _ _ hC H
  rw [htl, show n + (l.toArray.size - n) = l.toArray.size from by omega] at this
  exact this
end

/-! ### worlds with more memory -/
/-- more blocks, and how many draws -/
structure More where
  bs : Array Obj
  d : Nat
instance : Inhabited More := ⟨⟨#[], 0⟩⟩
/-- w with more blocks, and so many draws -/
def more (w : World) (m : More) : World := { w with heap := w.heap ++ m.bs, drawn := m.d }
theorem more_cell (w : World) (m : More) (b o : Nat) (h : b < w.heap.size) : (more w m).cell? ⟨b, o, none⟩ = w.cell? ⟨b, o, none⟩ := by
  unfold more World.cell?
  simp [Array.getElem?_append_left h]
theorem more_frozen (w : World) (m : More) (b o : Nat) (h : b < w.heap.size) : (more w m).frozen? ⟨b, o, none⟩ = w.frozen? ⟨b, o, none⟩ := by
  unfold more World.frozen?
  simp [Array.getElem?_append_left h]
theorem more_block (w : World) (m : More) (b : Nat) (h : b < w.heap.size) : (more w m).heap[b]? = w.heap[b]? := Array.getElem?_append_left h
theorem more_size (w : World) (m : More) : w.heap.size ≤ (more w m).heap.size := by unfold more; simp
theorem more_lt (w : World) (m : More) (b : Nat) (h : b < w.heap.size) : b < (more w m).heap.size := Nat.lt_of_lt_of_le h (more_size w m)
theorem more_below (w : World) (m : More) : Below w.heap.size w (more w m) := ⟨rfl, rfl, rfl, more_size w m, fun k hk => more_block w m k hk⟩
theorem below_more {w w' : World} (h : Below w.heap.size w w') : ∃ m, w' = more w m := by
  refine ⟨⟨w'.heap.extract w.heap.size w'.heap.size, w'.drawn⟩, ?_⟩
  obtain ⟨h1, h2, h3, h4, h5⟩ := h
  cases w' with
  | mk heap tape drawn os output =>
    simp only at h1 h2 h3 h4 h5
    subst h1 h2 h3
    unfold more
    congr 1
    apply Array.ext
    · simp; omega
    · intro i hi hi'
      rcases Nat.lt_or_ge i w.heap.size with hlt | hge
      · rw [Array.getElem_append_left hlt]
        have := h5 i hlt
        rw [Array.getElem?_eq_getElem hi, Array.getElem?_eq_getElem hlt] at this
        exact Option.some.inj this
      · rw [Array.getElem_append_right hge]
        simp [Array.getElem_extract]; congr 1; omega
theorem more_more (w : World) (m m' : More) : ∃ m'', more (more w m) m' = more w m'' := ⟨⟨m.bs ++ m'.bs, m'.d⟩, by unfold more; simp⟩
theorem more_drew (w : World) : ∃ m, ({ w with drawn := w.drawn + 1 } : World) = more w m := ⟨⟨#[], w.drawn + 1⟩, by unfold more; simp⟩
/-- The class of worlds that have more than w. -/
def After (w : World) : World → Prop := fun w' => ∃ m, w' = more w m
theorem after_below {w w' : World} (h : After w w') : Below w.heap.size w w' := by obtain ⟨m, rfl⟩ := h; exact more_below w m
/-- A callee's contract, within the class. -/
theorem calls_after {P : Program} {f : FuncId} {args : Array Value} {w : World} {m : More} {v : Value}
    (h : Calls P f args (more w m) fun e w' => e = .returned v ∧ Below (more w m).heap.size (more w m) w') : Calls P f args (more w m) fun e w' => e = .returned v ∧ ∃ m', w' = more w m' :=
  h.mono fun _ _ ⟨he, hb⟩ => ⟨he, by obtain ⟨m', rfl⟩ := below_more hb; exact more_more w m m'⟩
theorem calls_after_same {P : Program} {f : FuncId} {args : Array Value} {w : World} {m : More} {v : Value}
    (h : Calls P f args (more w m) fun e w' => e = .returned v ∧ more w m = w') : Calls P f args (more w m) fun e w' => e = .returned v ∧ ∃ m', w' = more w m' :=
  h.mono fun _ _ ⟨he, hb⟩ => ⟨he, m, hb.symm⟩
/-! ### what was there when the call began is as it was -/
section
variable {w w' w'' : World}
theorem ext_drew (h : Below w.heap.size w w') : Below w.heap.size w w'.drew := h.drew
theorem ext_drewN (h : Below w.heap.size w w') (n : Nat) : Below w.heap.size w (w'.drewN n) := ⟨h.os, h.tape, h.output, h.size, h.block⟩
theorem ext_alloc (h : Below w.heap.size w w') (o : Obj) : Below w.heap.size w (w'.alloc o) := h.alloc h.size o
theorem ext_more (h : Below w.heap.size w w') (m : More) : Below w.heap.size w (more w' m) := h.trans ((more_below w' m).mono h.size)
theorem ext_setCell (h : Below w.heap.size w w') {p : Addr} (hp : w.heap.size ≤ p.block) (v : Value) : Below w.heap.size w (w'.setCell p v) := h.setCell hp v
theorem ext_below (h : Below w.heap.size w w') (k : Below w'.heap.size w' w'') : Below w.heap.size w w'' := h.trans (k.mono h.size)
end
/-- A region all of whose operations are quiet in the class of worlds that have more. -/
theorem region_quiet_all {P : Program} {id : Nat} {Q : Exit → Act → World → Prop} {a : Act} {w : World} {l : List Oper} (hm : P.follows .mixedOrders = true) (hB : Region.lexB .any l.toArray = true)
    (h : wpQuiet P l.toArray (fun w' => ∃ m, w' = more w m) (fun a' => ∀ w', (∃ m, w' = more w m) → Q .normal a' w') l a) : (Code.region id l.toArray true).wp P Q a w :=
  wp_region_quiet (C := fun w' => ∃ m, w' = more w m) hm hB (more_drew w) (by simpa using h)
/-- The same, its last operations apart. -/
theorem region_quiet_but {P : Program} {id : Nat} {Q : Exit → Act → World → Prop} {a : Act} {w : World} {l : List Oper} (n : Nat) (hm : P.follows .mixedOrders = true) (hB : Region.lexTailB .any l.toArray n = true)
    (h : wpQuiet P l.toArray (fun w' => ∃ m, w' = more w m) (fun a' => ∀ w', (∃ m, w' = more w m) → wpList P l.toArray Q (l.drop n) a' w') (l.take n) a) : (Code.region id l.toArray true).wp P Q a w :=
  region_quiet_tail n hm hB (more_drew w) h

/-! ### a block that is known whole -/
/-- block b holds these cells, and may be written -/
structure Blk (w : World) (b : Nat) (cs : Array Value) : Prop where
  lt : b < w.heap.size
  cell : ∀ o, w.cell? ⟨b, o, none⟩ = cs[o]?
  free : ∀ o, w.frozen? ⟨b, o, none⟩ = false
theorem Blk.below {w w' : World} {b : Nat} {cs : Array Value} (h : Blk w b cs) (k : Below w.heap.size w w') : Blk w' b cs :=
  ⟨Nat.lt_of_lt_of_le h.lt k.size, fun o => (k.cell (p := ⟨b, o, none⟩) h.lt).trans (h.cell o), fun o => (k.frozen (p := ⟨b, o, none⟩) h.lt).trans (h.free o)⟩
theorem Blk.fresh (w : World) (cs : Array Value) (t : TypeId) : Blk (w.alloc (.cells cs t)) w.heap.size cs :=
  ⟨by simp, fun o => World.cell?_alloc_new w cs t o, fun o => World.frozen?_alloc_new w cs t o⟩
theorem Blk.at (w : World) (b : Nat) (cs : Array Value) (t : TypeId) (h : b = w.heap.size) : Blk (w.alloc (.cells cs t)) b cs := by subst h; exact Blk.fresh w cs t
theorem Blk.alloc {w : World} {b : Nat} {cs : Array Value} (h : Blk w b cs) (o : Obj) : Blk (w.alloc o) b cs := h.below ((Below.refl _ _).alloc (Nat.le_refl _) o)
theorem Blk.drew {w : World} {b : Nat} {cs : Array Value} (h : Blk w b cs) : Blk w.drew b cs := h.below (Below.refl _ _).drew
theorem Blk.drewN {w : World} {b : Nat} {cs : Array Value} (h : Blk w b cs) (n : Nat) : Blk (w.drewN n) b cs := h.below (ext_drewN (Below.refl _ _) n)
theorem Blk.more {w : World} {b : Nat} {cs : Array Value} (h : Blk w b cs) (m : More) : Blk (more w m) b cs := h.below (more_below w m)
theorem Blk.setCell {w : World} {b : Nat} {cs : Array Value} (h : Blk w b cs) (a : Addr) (v : Value) (ha : a.block ≠ b) : Blk (w.setCell a v) b cs := by
  have e : (w.setCell a v).heap[b]? = w.heap[b]? := Below.heap_setCell _ _ _ _ (Ne.symm ha)
  refine ⟨by simpa using h.lt, fun o => ?_, fun o => ?_⟩
  · rw [← h.cell o]; exact World.cell?_of_block (w := w) (w' := w.setCell a v) e
  · rw [← h.free o]; exact World.frozen?_of_block (w := w) (w' := w.setCell a v) e
theorem Blk.set {w : World} {b : Nat} {cs : Array Value} (h : Blk w b cs) (i : Nat) (v : Value) (hi : i < cs.size) : Blk (w.setCell ⟨b, i, none⟩ v) b (cs.setIfInBounds i v) := by
  refine ⟨by simpa using h.lt, fun o => ?_, fun o => (World.frozen?_setCell _ _ _ _).trans (h.free o)⟩
  by_cases e : o = i
  · subst e
    rw [World.cell?_setCell_same' _ _ _ (by rw [h.cell]; simp [hi])]
    simp [hi]
  · rw [World.cell?_setCell_other _ _ _ _ (by intro h'; exact e (congrArg Addr.off h').symm), h.cell]
    rw [Array.getElem?_setIfInBounds_ne (Ne.symm e)]
/-! ### one block, kept through a region -/
end Go.Proofs.Ytefhmbmbhiehdaa
namespace Go.Proofs.Ytefhmbmbhiehdaa
open Go Go.RowKit
theorem Blk.far {w : World} {b g i : Nat} {cs : Array Value} {v : Value} (hne : g ≠ b) (h : Blk w b cs) : Blk (w.setCell ⟨g, i, none⟩ v) b cs := h.setCell _ _ hne
theorem cell_out {w : World} {a : Addr} {v : Value} (h : w.cell? a = none) : (w.setCell a v).cell? a = none := by
  obtain ⟨b, i, s⟩ := a
  unfold World.cell? World.setCell at *
  simp only [Array.getElem?_modify, if_true] at *
  cases hh : w.heap[b]? with
  | none => simp
  | some o =>
    rw [hh] at h
    cases o <;> cases s <;> simp_all
/-- a store into the block -/
theorem Blk.put {w : World} {b i : Nat} {cs : Array Value} {v : Value} (h : Blk w b cs) : Blk (w.setCell ⟨b, i, none⟩ v) b (cs.setIfInBounds i v) := by
  by_cases hi : i < cs.size
  · exact h.set i v hi
  · have e : cs.setIfInBounds i v = cs := by simp [Array.setIfInBounds, hi]
    rw [e]
    refine ⟨by simpa using h.lt, fun o => ?_, fun o => (World.frozen?_setCell _ _ _ _).trans (h.free o)⟩
    by_cases e : o = i
    · subst e
      have h0 : w.cell? ⟨b, o, none⟩ = none := by rw [h.cell]; simp; omega
      rw [cell_out h0, ← h0, h.cell]
    · rw [World.cell?_setCell_other _ _ _ _ (by intro h'; exact e (congrArg Addr.off h').symm), h.cell]
end Go.Proofs.Ytefhmbmbhiehdaa
namespace Go.Proofs.Ytefhmbmbhiehdaa
open Go Go.RowKit
/-- all blocks of w but those of S are in w' as they were -/
structure Mod (S : Nat → Prop) (w w' : World) : Prop where
  os : w'.os = w.os
  tape : w'.tape = w.tape
  output : w'.output = w.output
  size : w.heap.size ≤ w'.heap.size
  block : ∀ b, b < w.heap.size → ¬ S b → w'.heap[b]? = w.heap[b]?
section
variable {S T : Nat → Prop} {w w' w'' : World}
theorem Mod.refl (S : Nat → Prop) (w : World) : Mod S w w := ⟨rfl, rfl, rfl, Nat.le_refl _, fun _ _ _ => rfl⟩
theorem Mod.trans (h : Mod S w w') (k : Mod S w' w'') : Mod S w w'' :=
  ⟨k.os.trans h.os, k.tape.trans h.tape, k.output.trans h.output, Nat.le_trans h.size k.size, fun b hb hs => (k.block b (Nat.lt_of_lt_of_le hb h.size) hs).trans (h.block b hb hs)⟩
theorem Mod.mono (h : Mod S w w') (hs : ∀ b, b < w.heap.size → S b → T b) : Mod T w w' := ⟨h.os, h.tape, h.output, h.size, fun b hb ht => h.block b hb fun h' => ht (hs b hb h')⟩
theorem Mod.of_below (h : Below w.heap.size w w') : Mod S w w' := ⟨h.os, h.tape, h.output, h.size, fun b hb _ => h.block b hb⟩
theorem Mod.below (h : Mod S w w') (k : Below w'.heap.size w' w'') : Mod S w w'' := h.trans (Mod.of_below k)
theorem Mod.alloc (h : Mod S w w') (o : Obj) : Mod S w (w'.alloc o) := h.below ((Below.refl _ _).alloc (Nat.le_refl _) o)
theorem Mod.drew (h : Mod S w w') : Mod S w w'.drew := h.below (Below.refl _ _).drew
theorem Mod.drewN (h : Mod S w w') (n : Nat) : Mod S w (w'.drewN n) := h.below (ext_drewN (Below.refl _ _) n)
theorem Mod.more (h : Mod S w w') (m : More) : Mod S w (more w' m) := h.below (more_below w' m)
theorem Mod.set (h : Mod S w w') {g i : Nat} {v : Value} (hg : S g ∨ w.heap.size ≤ g) : Mod S w (w'.setCell ⟨g, i, none⟩ v) := by
  refine ⟨h.os, h.tape, h.output, by simpa using h.size, fun b hb hs => ?_⟩
  refine (Below.heap_setCell w' ⟨g, i, none⟩ v b ?_).trans (h.block b hb hs)
  intro e
  have e1 : b = g := e
  rcases hg with hg | hg
  · exact hs (e1 ▸ hg)
  · omega
theorem Mod.toBelow (h : Mod S w w') {n : Nat} (hn : n ≤ w.heap.size) (hs : ∀ b, b < n → ¬ S b) : Below n w w' := ⟨h.os, h.tape, h.output, h.size, fun b hb => h.block b (by omega) (hs b hb)⟩
theorem Mod.cell (h : Mod S w w') {b o : Nat} (hb : b < w.heap.size) (hs : ¬ S b) : w'.cell? ⟨b, o, none⟩ = w.cell? ⟨b, o, none⟩ := World.cell?_of_block (h.block b hb hs)
theorem Mod.free (h : Mod S w w') {b o : Nat} (hb : b < w.heap.size) (hs : ¬ S b) : w'.frozen? ⟨b, o, none⟩ = w.frozen? ⟨b, o, none⟩ := World.frozen?_of_block (h.block b hb hs)
theorem Blk.mod {b : Nat} {cs : Array Value} (h : Blk w b cs) (k : Mod S w w') (hs : ¬ S b) : Blk w' b cs :=
  ⟨Nat.lt_of_lt_of_le h.lt k.size, fun o => (k.cell h.lt hs).trans (h.cell o), fun o => (k.free h.lt hs).trans (h.free o)⟩
end
end Go.Proofs.Ytefhmbmbhiehdaa
namespace Go.Proofs.Ytefhmbmbhiehdaa
open Go Go.RowKit
section
variable {w w' : World} {base size n : Nat} {e : TypeId} {v : Value} {xs : List Value}
theorem row_mod {S : Nat → Prop} (h : w.ownsRow base e size v n xs) (k : Mod S w w') (hs : ∀ b, v.ownBlock = some b → ¬ S b) : w'.ownsRow base e size v n xs := by
  obtain ⟨hl, h0 | ⟨g, cap, cur, hv, hb, hh, h1, h2, h3, h4⟩⟩ := h
  · exact ⟨hl, .inl h0⟩
  · refine ⟨hl, .inr ⟨g, cap, cur, hv, hb, ?_, h1, h2, h3, h4⟩⟩
    have hlt : g < w.heap.size := by
      rcases Nat.lt_or_ge g w.heap.size with hl | hl
      · exact hl
      · rw [Array.getElem?_eq_none hl] at hh; cases hh
    rw [k.block g hlt (hs g (by rw [hv]; rfl))]
    exact hh
theorem row_below (h : w.ownsRow base e size v n xs) (k : Below w.heap.size w w') : w'.ownsRow base e size v n xs := row_mod h (S := fun _ => False) (Mod.of_below k) fun _ _ => id
theorem row_far {g i : Nat} {x : Value} (h : w.ownsRow base e size v n xs) (hne : v.ownBlock ≠ some g) : (w.setCell ⟨g, i, none⟩ x).ownsRow base e size v n xs :=
  row_mod h (S := (· = g)) (Mod.set (Mod.refl _ _) (.inl rfl)) (fun _ hb e => hne (e ▸ hb))
theorem row_lt (h : w.ownsRow base e size v n xs) {b : Nat} (hb : v.ownBlock = some b) : b < w.heap.size ∧ base ≤ b := by
  obtain ⟨hl, ⟨h0, _⟩ | ⟨g, cap, cur, hv, hg, hh, _⟩⟩ := h
  · rw [h0] at hb; cases hb
  · rw [hv] at hb
    obtain rfl : g = b := Option.some.inj hb
    refine ⟨?_, hg⟩
    rcases Nat.lt_or_ge g w.heap.size with hl | hl
    · exact hl
    · rw [Array.getElem?_eq_none hl] at hh; cases hh
/-- a row that is not empty lies in a block -/
theorem row_at (h : w.ownsRow base e size v n xs) (hn : 0 < n) : ∃ g cap, v = .slice (some ⟨g, 0, none⟩) n cap ∧ base ≤ g ∧ g < w.heap.size ∧ n ≤ cap ∧ cap ≤ maxLen ∧ (∀ o, w.frozen? ⟨g, o, none⟩ = false) ∧
    (∀ o x, xs[o]? = some x → w.cell? ⟨g, o, none⟩ = some x) ∧ ∃ cs, w.heap[g]? = some (.cells cs e (0, 0)) := by
  obtain ⟨hl, ⟨_, h0⟩ | ⟨g, cap, cur, hv, hb, hh, h1, h2, h3, h4⟩⟩ := h
  · omega
  · refine ⟨g, cap, hv, hb, ?_, h1, h2, ?_, ?_, cur, hh⟩
    · rcases Nat.lt_or_ge g w.heap.size with hl | hl
      · exact hl
      · rw [Array.getElem?_eq_none hl] at hh; cases hh
    · intro o; simp [World.frozen?, hh]
    · intro o x hx
      rw [← h4, List.getElem?_take] at hx
      split at hx
      · unfold World.cell?; rw [hh]; simpa using hx
      · cases hx
/-- a cell of the row is written -/
theorem row_set {g cap i : Nat} {x : Value} (h : w.ownsRow base e size (.slice (some ⟨g, 0, none⟩) n cap) n xs) (_hi : i < xs.length) : (w.setCell ⟨g, i, none⟩ x).ownsRow base e size (.slice (some ⟨g, 0, none⟩) n cap) n (xs.set i x) := by
  obtain ⟨hl, ⟨hv, _⟩ | ⟨g', cap', cur, hv, hb, hh, h1, h2, h3, h4⟩⟩ := h
  · cases hv
  · injection hv with e1 e2 e3
    injection e1 with e1
    injection e1 with e1
    subst e1 e3
    refine ⟨by simpa using hl, .inr ⟨g, cap, cur.setIfInBounds i x, rfl, hb, ?_, h1, h2, by simpa using h3, ?_⟩⟩
    · simp [World.setCell, Array.getElem?_modify, hh]
    · rw [Array.toList_setIfInBounds, List.take_set, h4]
/-- what grows the row alone is a change of its block alone -/
theorem mod_grown {row : Option Nat} (h : w.grownBy w' row) : Mod (fun b => row = some b) w w' :=
  ⟨h.os, h.tape, h.output, h.size, fun b hb hs => h.block b hb fun e => hs e.symm⟩
end
theorem Mod.trans2 {S T : Nat → Prop} {w w' w'' : World} (h : Mod S w w') (k : Mod T w' w'') (hT : ∀ b, b < w.heap.size → T b → S b) : Mod S w w'' :=
  ⟨k.os.trans h.os, k.tape.trans h.tape, k.output.trans h.output, Nat.le_trans h.size k.size, fun b hb hs => (k.block b (Nat.lt_of_lt_of_le hb h.size) fun ht => hs (hT b hb ht)).trans (h.block b hb hs)⟩
/-- a slice value that was v is v' now: what was turned is the blocks of S, and v's; v' has v's block, or one that is new -/
structure Turn (S : Nat → Prop) (w : World) (v : Value) (w' : World) (v' : Value) : Prop where
  mod : Mod (fun b => S b ∨ v.ownBlock = some b) w w'
  own : v'.ownBlock = v.ownBlock ∨ ∀ b, v'.ownBlock = some b → w.heap.size ≤ b
section
variable {S : Nat → Prop} {w w' w'' : World} {v v' v'' : Value}
theorem Turn.refl (S : Nat → Prop) (w : World) (v : Value) : Turn S w v w v := ⟨Mod.refl _ _, .inl rfl⟩
theorem Turn.trans (h : Turn S w v w' v') (k : Turn S w' v' w'' v'') : Turn S w v w'' v'' := by
  refine ⟨?_, ?_⟩
  · refine h.mod.trans2 k.mod fun b hb hs => ?_
    rcases hs with hs | hs
    · exact .inl hs
    · rcases h.own with e | e
      · exact .inr (e ▸ hs)
      · have := e b hs; omega
  · rcases k.own with e | e
    · rcases h.own with e2 | e2
      · exact .inl (e.trans e2)
      · exact .inr fun b hb => e2 b (e ▸ hb)
    · exact .inr fun b hb => Nat.le_trans h.mod.size (e b hb)
end
end Go.Proofs.Ytefhmbmbhiehdaa
namespace Go.Proofs.Ytefhmbmbhiehdaa.B
open Go
theorem ofInt_64 (a : Nat) (ha : a < 9223372036854775808) : (BitVec.ofInt 64 (a : Int)).toNat = a := by
  rw [BitVec.ofInt_natCast, BitVec.toNat_ofNat]; exact Nat.mod_eq_of_lt (by omega)
theorem i64_and_nat (a b : Nat) (ha : a < 9223372036854775808) (hb : b < 9223372036854775808) : bits .and .i64 (a : Int) (b : Int) = ((a &&& b : Nat) : Int) := by
  have hx : a &&& b < 2 ^ 63 := Nat.and_lt_two_pow _ (by omega)
  show IntKind.i64.wrap ((BitVec.ofInt 64 (a : Int) &&& BitVec.ofInt 64 (b : Int)).toNat : Int) = _
  rw [BitVec.toNat_and, ofInt_64 a ha, ofInt_64 b hb, IntKind.wrap_i64]
  omega
theorem i64_or_nat (a b : Nat) (ha : a < 9223372036854775808) (hb : b < 9223372036854775808) : bits .or .i64 (a : Int) (b : Int) = ((a ||| b : Nat) : Int) := by
  have hx : a ||| b < 2 ^ 63 := Nat.or_lt_two_pow (by omega) (by omega)
  show IntKind.i64.wrap ((BitVec.ofInt 64 (a : Int) ||| BitVec.ofInt 64 (b : Int)).toNat : Int) = _
  rw [BitVec.toNat_or, ofInt_64 a ha, ofInt_64 b hb, IntKind.wrap_i64]
  omega
theorem cast_shr (n k : Nat) : (n : Int) / 2 ^ k = ((n / 2 ^ k : Nat) : Int) := by simp
theorem and1 (n k : Nat) (h : n < 9223372036854775808) : bits .and .i64 ((n : Int) / 2 ^ k) 1 = ((n / 2 ^ k % 2 : Nat) : Int) := by
  have h1 : n / 2 ^ k < 9223372036854775808 := Nat.lt_of_le_of_lt (Nat.div_le_self _ _) h
  rw [cast_shr]
  have := i64_and_nat (n / 2 ^ k) 1 h1 (by omega)
  rw [nat_mask1] at this
  exact this
theorem and31 (n : Nat) (h : n < 9223372036854775808) : bits .and .i64 (n : Int) 31 = ((n % 32 : Nat) : Int) := by
  have := i64_and_nat n 31 h (by omega)
  rw [nat_mask5] at this
  exact this
theorem two_pow_le (r : Nat) (h : r ≤ 7) : 2 ^ (7 - r) ≤ 128 ∧ 1 ≤ 2 ^ (7 - r) := by
  have : ∀ r : Fin 8, 2 ^ (7 - r.val) ≤ 128 ∧ 1 ≤ 2 ^ (7 - r.val) := by decide
  exact this ⟨r, by omega⟩
/-- a bit is put into a byte where there is 0 yet -/
theorem or_bit (x n k r : Nat) (hn : n < 9223372036854775808) (hx : x < 256) (hr : r ≤ 7) (h0 : x % 2 ^ (8 - r) = 0) :
    bits .or .u8 (x : Int) (bits .and .i64 ((n : Int) / 2 ^ k) 1 % 256 * 2 ^ (7 - r) % 256) = ((x + n / 2 ^ k % 2 * 2 ^ (7 - r) : Nat) : Int) := by
  rw [and1 n k hn]
  have hb : n / 2 ^ k % 2 < 2 := Nat.mod_lt _ (by omega)
  generalize n / 2 ^ k % 2 = b at *
  obtain ⟨hp1, hp2⟩ := two_pow_le r hr
  have e1 : (b : Int) % 256 = (b : Int) := by omega
  have e2 : ((b : Int) * 2 ^ (7 - r)) = ((b * 2 ^ (7 - r) : Nat) : Int) := by simp
  have hbp : b * 2 ^ (7 - r) ≤ 1 * 2 ^ (7 - r) := Nat.mul_le_mul_right _ (by omega)
  rw [e1, e2]
  have e3 : ((b * 2 ^ (7 - r) : Nat) : Int) % 256 = ((b * 2 ^ (7 - r) : Nat) : Int) := by omega
  rw [e3, u8_or_nat _ _ hx (by omega)]
  congr 1
  have e4 : 8 - r = 7 - r + 1 := by omega
  refine nat_join (8 - r) x _ h0 ?_
  rw [e4, Nat.pow_succ]
  omega
/-- a bit of a byte -/
theorem get_bit (x r : Nat) (hx : x < 256) : bits .and .u8 ((x : Int) / 2 ^ (7 - r)) 1 = ((x / 2 ^ (7 - r) % 2 : Nat) : Int) := by
  have h1 : x / 2 ^ (7 - r) < 256 := Nat.lt_of_le_of_lt (Nat.div_le_self _ _) hx
  rw [cast_shr]
  have := u8_and_nat (x / 2 ^ (7 - r)) 1 h1 (by omega)
  rw [nat_mask1] at this
  exact this
theorem or_low (n b : Nat) (hn : n < 4611686018427387904) (hb : b < 2) : bits .or .i64 ((2 * n : Nat) : Int) (b : Int) = ((2 * n + b : Nat) : Int) := by
  rw [i64_or_nat _ _ (by omega) (by omega)]
  congr 1
  exact nat_join 1 _ _ (by omega) (by omega)
theorem or_high (n p s : Nat) (hn : n < 2 ^ s) (hp : p * 2 ^ s < 9223372036854775808) (hn2 : n < 9223372036854775808) : bits .or .i64 (n : Int) ((p * 2 ^ s : Nat) : Int) = ((n + p * 2 ^ s : Nat) : Int) := by
  rw [i64_or_nat _ _ hn2 hp, Nat.or_comm]
  congr 1
  rw [nat_join s _ _ (Nat.mul_mod_left _ _) hn]
  omega
end Go.Proofs.Ytefhmbmbhiehdaa.B
namespace Go.Proofs.Ytefhmbmbhiehdaa
open Go.ChangeShapes Go.WideShapes Go.ChangeAt Go.RowKit

section
variable {H : Type} {enc : TypeId × Value → H} {P : Program}
theorem post_of_below {f : Func} {s : ChangeSpec} {apart fresh handsOn again : Bool} {W W' : World} {args : Array Value} {v : Value} {ds gs : List (DataW H)} {before pa pv : List MemPlace}
    (hW : DataW.Whole enc P f.params.toList s.vars apart W args.toList ds gs before)
    (hres : ∀ (b : Nat) (sp : Nat → Bool) (hd : Bool), DataW.TrodAll enc P W' b sp hd f.resultTypes.toList (v.resultList f.resultTypes.size) (s.fn H (ds ++ gs)).results [])
    (hargs : ∀ sp : Nat → Bool, (∀ p ∈ before, sp p.block = true) → DataW.TrodAll enc P W' 0 sp true f.params.toList args.toList (s.fn H (ds ++ gs)).args pa)
    (hvars : ∀ sp : Nat → Bool, (∀ p ∈ before, sp p.block = true) → DataW.TrodVars enc P W' sp s.vars (s.fn H (ds ++ gs)).vars pv)
    (hps : before = pa ++ pv) (hb : Below W.heap.size W W')
    (hok : ∀ (j : Nat) (t : TypeId) (r : Value), f.resultTypes[j]? = some t → (v.resultList f.resultTypes.size)[j]? = some r → Value.okWide P W' .any 0 t r) :
    s.post enc P f apart fresh handsOn again W args v W' := by
  have hlt : ∀ p ∈ before, p.block < W.heap.size := fun p hp => hW.lt p hp
  have hold : ∀ p ∈ before, (fun b => decide (b < W.heap.size)) p.block = true := fun p hp => by simpa using hlt p hp
  refine ⟨ds, gs, before, [], pa, pv, hW, hres _ _ _, hargs _ hold, hvars _ hold, World.keptBut_mono (fun p hp => ⟨hp, ?_⟩) (hb.frame (· ∈ before)), fun _ => ?_⟩
  · rw [hps, List.mem_append] at hp
    exact Or.inr hp
  · obtain ⟨_, _, _, _, _, hz, hn⟩ := hW
    refine ⟨hok, _, _, ([] ++ pa) ++ pv, ⟨[] ++ pa, pv, trodAll_append (hargs _ (fun _ _ => rfl)) (hres _ _ _), hvars _ (fun _ _ => rfl), rfl, ?_, ?_⟩, ?_⟩
    · intro b off hp
      have hin : MemPlace.cell b off ∈ before := by rw [hps]; simpa using hp
      rw [hb.frozen (hlt _ hin)]
      exact hz b off hin
    · intro ha
      have := hn ha
      rw [hps] at this
      simpa using this
    · intro p hp _
      rw [hps]
      simpa using hp

theorem trodAll_keep (hl : laidOutB P = true) {W W' : World} (hb : Below W.heap.size W W') (sp : Nat → Bool) : ∀ (ts : List TypeId) (vs : List Value) (ds : List (DataW H)) (ps : List MemPlace),
    (ts.all fun t => P.readableRec t && decide (t < P.types.size)) = true → DataW.TrodAll enc P W 0 (fun _ => true) true ts vs ds ps →
    (∀ x ∈ ps, x.block < W.heap.size) → (∀ x ∈ ps, sp x.block = true) → DataW.TrodAll enc P W' 0 sp true ts vs ds ps := by
  intro ts
  induction ts with
  | nil => intro vs ds ps _ h _ _; obtain ⟨rfl, rfl, rfl⟩ := trodAll_nil h; exact trodAll_mk0
  | cons t ts ih =>
    intro vs ds ps hr h hlt hsp
    obtain ⟨v, vs', d, ds', p, q, rfl, rfl, rfl, h1, h2⟩ := trodAll_cons h
    simp only [List.all_cons, Bool.and_eq_true, decide_eq_true_eq] at hr
    exact trodAll_cons_mk (WideElems.Trod_stays hl hr.1.1 hr.1.2 h1 (fun x hx => hb.same (hlt x (by simp [hx]))) (fun x hx => hsp x (by simp [hx])))
      (ih _ _ _ hr.2 h2 (fun x hx => hlt x (by simp [hx])) (fun x hx => hsp x (by simp [hx])))

theorem trodAll_length {W : World} {b : Nat} {sp : Nat → Bool} {hd : Bool} : ∀ (ts : List TypeId) (vs : List Value) (ds : List (DataW H)) (ps : List MemPlace),
    DataW.TrodAll enc P W b sp hd ts vs ds ps → vs.length = ts.length ∧ ds.length = ts.length := by
  intro ts
  induction ts with
  | nil => intro vs ds ps h; obtain ⟨rfl, rfl, rfl⟩ := trodAll_nil h; exact ⟨rfl, rfl⟩
  | cons t ts ih =>
    intro vs ds ps h
    obtain ⟨v, vs', d, ds', p, q, rfl, rfl, rfl, h1, h2⟩ := trodAll_cons h
    obtain ⟨e1, e2⟩ := ih _ _ _ h2
    simp [e1, e2]

/-- A law: it returned true, and what was there is as it was. -/
theorem law_post (hl : laidOutB P = true) {f : Func} {s : ChangeSpec} {W W' : World} {args : Array Value} {ds gs : List (DataW H)} {before : List MemPlace} {tb : TypeId}
    (hts : (f.params.toList.all fun t => P.readableRec t && decide (t < P.types.size)) = true) (hrt : f.resultTypes = #[tb]) (htb : P.underlying tb = some .bool) (hv : s.vars = [])
    (hfn : ∀ ds : List (DataW H), ds.length = f.params.toList.length → s.fn H ds = { results := [.lit (.bool true)], args := ds })
    (hW : DataW.Whole enc P f.params.toList s.vars false W args.toList ds gs before) (hb : Below W.heap.size W W') :
    s.post enc P f false true false false W args (.bool true) W' := by
  have hW0 := hW
  obtain ⟨p, q, hA, hV, rfl, hfz, hnd⟩ := hW0
  rw [hv] at hV
  obtain ⟨rfl, rfl⟩ := trodVars_none hV
  have hlen := (trodAll_length _ _ _ _ hA).2
  have hlt : ∀ x ∈ p, x.block < W.heap.size := fun x hx => hW.lt x (by simp [hx])
  have e := hfn ds hlen
  refine post_of_below (pa := p) (pv := []) hW ?_ ?_ ?_ rfl hb ?_
  · intro b sp hd
    rw [List.append_nil, e, hrt]
    exact trodAll_mk1 (shut_bool htb true)
  · intro sp hsp
    rw [List.append_nil, e]
    exact trodAll_keep hl hb sp _ _ _ _ hts hA hlt (fun x hx => hsp x (by simp [hx]))
  · intro sp _
    rw [List.append_nil, e, hv]
    rfl
  · exact ok_one hrt rfl (okWide_bool_mk htb true)
end

theorem own : ownKnob Try.prog.godebug = none := by kernel_rfl
theorem laid : laidOutB Try.prog = true := by kernel_rfl

end Go.Proofs.Ytefhmbmbhiehdaa
namespace Go.Proofs.Ytefhmbmbhiehdaa
open Go Go.RowKit

section
variable {P : Program} {ops : Array Oper} {md : Region.Mode} {W : World}

/-- One operation: it yields v, and the world at hand only grows. -/
def growUpon (P : Program) (w : World) (v : Value) : Result Next → Prop
  | .ok (.value u) w' => w' = w ∧ u = v
  | .ok .skip w' => w' = w ∧ v = undef
  | .ok (.enter f args) w' => w' = w ∧ Calls P f args w (fun e w'' => e = .returned v ∧ Below w.heap.size w w'')
  | _ => False
/-- .. in whatever world that has more than W. -/
def grows (P : Program) (W : World) (o : Oper) (a : Act) (v : Value) : Prop := ∀ w, Below W.heap.size W w → growUpon P w v ((execOp a.eval o).run P w)
/-! ### any order -/
/-! ### what is laid -/
/-- how many are still to be laid -/
def rest (s : Nat → Option Nat) : Nat → Nat
  | 0 => 0
  | j + 1 => rest s j + match s j with | some _ => 0 | none => 1
/-! ### the region -/
/-- the world at hand made a variable -/
theorem wp_fresh {c : Code} {Q : Exit → Act → World → Prop} {a : Act} {w : World} (h : ∀ w', Below w.heap.size w w' → c.wp P Q a w') : c.wp P Q a w := h w (Below.refl _ _)
end
end Go.Proofs.Ytefhmbmbhiehdaa
namespace Go.Proofs.Ytefhmbmbhiehdaa
open Go Go.RowKit
/-- one number changed -/
def put1 (M : Nat → Nat → Int) (i j : Nat) (v : Int) : Nat → Nat → Int := fun a b => if a = i ∧ b = j then v else M a b
theorem put1_row (M : Nat → Nat → Int) (i j : Nat) (v : Int) {a : Nat} (h : a ≠ i) (b : Nat) : put1 M i j v a b = M a b := by simp [put1, h]
/-- block b holds n rows of c numbers (and perhaps more), and may be written -/
def Tab (w : World) (b n c : Nat) (M : Nat → Nat → Int) : Prop :=
  ∃ (cs : Array Value) (T : TypeId), w.heap[b]? = some (.cells cs T (0, 0)) ∧ ∀ k, k < n → ∀ j, j < c → cs[k * c + j]? = some (.int .i64 (M k j))
section
variable {w w' : World} {b n c : Nat} {M : Nat → Nat → Int}
theorem Tab.lt (h : Tab w b n c M) : b < w.heap.size := by
  obtain ⟨cs, T, h, _⟩ := h
  rcases Nat.lt_or_ge b w.heap.size with hl | hl
  · exact hl
  · rw [Array.getElem?_eq_none hl] at h; cases h
theorem Tab.cell (h : Tab w b n c M) {k j : Nat} (hk : k < n) (hj : j < c) : w.cell? ⟨b, k * c + j, none⟩ = some (.int .i64 (M k j)) := by
  obtain ⟨cs, T, h, hc⟩ := h
  unfold World.cell?
  rw [h]
  simpa using hc k hk j hj
theorem Tab.free (h : Tab w b n c M) (o : Nat) : w.frozen? ⟨b, o, none⟩ = false := by
  obtain ⟨cs, T, h, hc⟩ := h
  simp [World.frozen?, h]
theorem Tab.mod {S : Nat → Prop} (h : Tab w b n c M) (k : Mod S w w') (hs : ¬ S b) : Tab w' b n c M := by
  have hl := h.lt
  obtain ⟨cs, T, h, hc⟩ := h
  exact ⟨cs, T, (k.block b hl hs).trans h, hc⟩
theorem Tab.below (h : Tab w b n c M) (k : Below w.heap.size w w') : Tab w' b n c M := h.mod (S := fun _ => False) (Mod.of_below k) id
theorem Tab.alloc (h : Tab w b n c M) (o : Obj) : Tab (w.alloc o) b n c M := h.below ((Below.refl _ _).alloc (Nat.le_refl _) o)
theorem Tab.drew (h : Tab w b n c M) : Tab w.drew b n c M := h.below (Below.refl _ _).drew
theorem Tab.drewN (h : Tab w b n c M) (k : Nat) : Tab (w.drewN k) b n c M := h.below (ext_drewN (Below.refl _ _) k)
theorem Tab.more (h : Tab w b n c M) (m : More) : Tab (more w m) b n c M := h.below (more_below w m)
theorem Tab.far {g i : Nat} {v : Value} (hne : g ≠ b) (h : Tab w b n c M) : Tab (w.setCell ⟨g, i, none⟩ v) b n c M :=
  h.mod (S := (· = g)) (Mod.set (Mod.refl _ _) (.inl rfl)) (fun e => hne e.symm)
theorem Tab.eq {M' : Nat → Nat → Int} (h : Tab w b n c M) (e : ∀ k, k < n → ∀ j, j < c → M k j = M' k j) : Tab w b n c M' := by
  obtain ⟨cs, T, h, hc⟩ := h
  exact ⟨cs, T, h, fun k hk j hj => by rw [hc k hk j hj, e k hk j hj]⟩
theorem place_inj {c k j k' j' : Nat} (hj : j < c) (hj' : j' < c) (h : k * c + j = k' * c + j') : k = k' ∧ j = j' := by
  have hc : 0 < c := by omega
  have h1 : (k * c + j) / c = k := by rw [Nat.mul_comm, Nat.mul_add_div hc, Nat.div_eq_of_lt hj]; rfl
  have h2 : (k' * c + j') / c = k' := by rw [Nat.mul_comm, Nat.mul_add_div hc, Nat.div_eq_of_lt hj']; rfl
  have : k = k' := by rw [← h1, ← h2, h]
  subst this
  exact ⟨rfl, by omega⟩
theorem Tab.set (h : Tab w b n c M) {i j : Nat} (hi : i < n) (hj : j < c) (v : Int) : Tab (w.setCell ⟨b, i * c + j, none⟩ (.int .i64 v)) b n c (put1 M i j v) := by
  obtain ⟨cs, T, h, hc⟩ := h
  refine ⟨cs.setIfInBounds (i * c + j) (.int .i64 v), T, ?_, fun k hk l hl => ?_⟩
  · simp [World.setCell, Array.getElem?_modify, h]
  · have hs : i * c + j < cs.size := by
      have := hc i hi j hj
      exact (Array.getElem?_eq_some_iff.1 this).1
    unfold put1
    by_cases e : k = i ∧ l = j
    · obtain ⟨rfl, rfl⟩ := e
      simp [hs]
    · rw [if_neg e, Array.getElem?_setIfInBounds_ne, hc k hk l hl]
      intro h'
      obtain ⟨e1, e2⟩ := place_inj hj hl h'
      exact e ⟨e1.symm, e2.symm⟩
end
/-- the slice value (A, n, _) reads as n rows of c numbers -/
def Reads (w : World) (A : Option Addr) (n c : Nat) (M : Nat → Nat → Int) : Prop := 0 < n → ∃ b o, A = some ⟨b, o, none⟩ ∧ b < w.heap.size ∧ ∀ k, k < n → ∀ j, j < c → w.cell? ⟨b, o + (k * c + j), none⟩ = some (.int .i64 (M k j))
section
variable {w w' : World} {A : Option Addr} {n c : Nat} {M : Nat → Nat → Int}
theorem Reads.below (h : Reads w A n c M) (k : Below w.heap.size w w') : Reads w' A n c M := fun hn => by
  obtain ⟨b, o, e, hb, hc⟩ := h hn
  exact ⟨b, o, e, Nat.lt_of_lt_of_le hb k.size, fun i hi j hj => (k.cell (p := ⟨b, o + (i * c + j), none⟩) hb).trans (hc i hi j hj)⟩
theorem Reads.mod {S : Nat → Prop} (h : Reads w A n c M) (k : Mod S w w') (hs : ∀ b, b < w.heap.size → ¬ S b) : Reads w' A n c M := h.below (k.toBelow (Nat.le_refl _) hs)
theorem Reads.of_tab {b : Nat} (h : Tab w b n c M) : Reads w (some ⟨b, 0, none⟩) n c M := fun _ => ⟨b, 0, rfl, h.lt, fun k hk j hj => by rw [Nat.zero_add]; exact h.cell hk hj⟩
end
end Go.Proofs.Ytefhmbmbhiehdaa
namespace Go.Proofs.Ytefhmbmbhiehdaa
open Go Go.RowKit
/-- n rows of c numbers, one behind the other -/
def rowsL (M : Nat → Nat → Int) (c n : Nat) : List Value := (List.range (n * c)).map fun q => .int .i64 (M (q / c) (q % c))
theorem rowsL_length (M : Nat → Nat → Int) (c n : Nat) : (rowsL M c n).length = n * c := by simp [rowsL]
theorem rowsL_get (M : Nat → Nat → Int) {c n k j : Nat} (hk : k < n) (hj : j < c) : (rowsL M c n)[k * c + j]? = some (.int .i64 (M k j)) := by
  have hc : 0 < c := by omega
  have h1 : k * c + j < n * c := by
    have := Nat.mul_le_mul_right c (show k + 1 ≤ n from hk)
    rw [Nat.add_mul] at this
    omega
  have h2 : (k * c + j) / c = k := by rw [Nat.mul_comm, Nat.mul_add_div hc, Nat.div_eq_of_lt hj]; rfl
  have h3 : (k * c + j) % c = j := by rw [Nat.mul_comm, Nat.mul_add_mod, Nat.mod_eq_of_lt hj]
  simp [rowsL, h1, h2, h3]
theorem rowsL_one (M : Nat → Nat → Int) (c n : Nat) : ∀ u ∈ rowsL M c n, u.oneCell' = true := by
  intro u hu
  simp only [rowsL, List.mem_map] at hu
  obtain ⟨q, _, rfl⟩ := hu
  rfl
theorem rowsL_cells {w : World} {b o n c : Nat} {M : Nat → Nat → Int} (hc0 : 0 < c) (h : ∀ k, k < n → ∀ j, j < c → w.cell? ⟨b, o + (k * c + j), none⟩ = some (.int .i64 (M k j))) (j : Nat) (u : Value) (hu : (rowsL M c n)[j]? = some u) :
    w.cell? ((⟨b, o, none⟩ : Addr).add j) = some u := by
  have hl : j < n * c := by
    have := (List.getElem?_eq_some_iff.1 hu).1
    rwa [rowsL_length] at this
  have hk : j / c < n := Nat.div_lt_of_lt_mul (by rwa [Nat.mul_comm])
  have hj : j % c < c := Nat.mod_lt _ hc0
  have e : j / c * c + j % c = j := by rw [Nat.mul_comm]; exact Nat.div_add_mod j c
  have h1 := h (j / c) hk (j % c) hj
  rw [e] at h1
  have h2 : (rowsL M c n)[j]? = some (.int .i64 (M (j / c) (j % c))) := by
    have := rowsL_get M hk hj
    rwa [e] at this
  rw [hu] at h2
  rw [Option.some.inj h2, ← h1]
  unfold Addr.add
  split
  · rename_i h0; subst h0; rfl
  · rfl
theorem tab_of_own {w : World} {base : Nat} {e : TypeId} {c n : Nat} {v : Value} {M : Nat → Nat → Int} (h : w.ownsRow base e c v n (rowsL M c n)) (hn : 0 < n) :
    ∃ g cap, v = .slice (some ⟨g, 0, none⟩) n cap ∧ base ≤ g ∧ n ≤ cap ∧ cap ≤ maxLen ∧ Tab w g n c M := by
  obtain ⟨_, ⟨_, h0⟩ | ⟨g, cap, cur, hv, hb, hh, hnc, hcm, hsz, hpre⟩⟩ := h
  · omega
  · refine ⟨g, cap, hv, hb, hnc, hcm, cur, e, hh, fun k hk j hj => ?_⟩
    have h1 := rowsL_get M hk hj
    rw [← hpre, List.getElem?_take] at h1
    split at h1
    · rw [← h1]; simp
    · cases h1
/-- an empty row that has just been made -/
theorem own_empty {w : World} (e : TypeId) (c : Nat) : (w.alloc (.cells #[] e)).ownsRow w.heap.size e c (.slice (some ⟨w.heap.size, 0, none⟩) 0 0) 0 [] :=
  ⟨by simp, .inr ⟨w.heap.size, 0, #[], rfl, Nat.le_refl _, heap_alloc_new w _, Nat.le_refl _, by unfold maxLen; omega, by simp, by simp⟩⟩
end Go.Proofs.Ytefhmbmbhiehdaa
namespace Go.Proofs.Ytefhmbmbhiehdaa
open Go.RowKit
/-- an error of a number: none for 0 -/
def errV (n : Int) : Value := if n = 0 then .nilIface else .iface 38 (.int .i64 n)
theorem errV_0 : errV 0 = .nilIface := rfl
theorem errV_n {n : Int} (h : n ≠ 0) : errV n = .iface 38 (.int .i64 n) := if_neg h
end Go.Proofs.Ytefhmbmbhiehdaa
namespace Go.Proofs.Ytefhmbmbhiehdaa
open Go Go.RowKit
section
variable {P : Program} {ops : Array Oper} {rest : List Oper} {o : Oper} {a : Act} {Q : Exit → Act → World → Prop} {w0 : World}
theorem info_three {e : TypeId} {z : Value} {size bytes : Nat} (h : (P.info? e).map (fun i => (i.zero, i.size, i.bytes)) = some (some z, size, bytes)) : ∃ i, P.info? e = some i ∧ i.zero = some z ∧ i.size = size ∧ i.bytes = bytes := by
  cases hi : P.info? e with
  | none => rw [hi] at h; cases h
  | some i =>
    rw [hi] at h
    simp only [Option.map_some, Option.some.injEq, Prod.mk.injEq] at h
    exact ⟨i, rfl, h.1, h.2.1, h.2.2⟩
theorem one_int (k : IntKind) (n : Int) : ∀ u ∈ (#[Value.int k n]).toList, u.oneCell' = true := by intro u hu; simp at hu; subst hu; rfl
/-- append(s, x): the row s has one element more -/
theorem app_one (hg : o.guard = none) (s x : Operand) (t : TypeId) (ho : o.op = .call { callee := .builtin .append, args := #[s, x], argTypes := #[t, t] }) {e : TypeId} (ht : P.underlying t = some (.slice e))
    {z : Value} {size bytes : Nat} (hinfo : (P.info? e).map (fun i => (i.zero, i.size, i.bytes)) = some (some z, size, bytes)) (hzs : z.cells.size = size) (hsz : 0 < size) (hby : bytes ≤ 1000000)
    (base : Nat) (v : Value) (n : Nat) (xs : List Value) (hs : a.eval s = v) (hown : w0.ownsRow base e size v n xs) (cs : Array Value) {T : TypeId} {p : Nat} (hx : a.eval x = .slice (some ⟨p, 0, none⟩) 1 1) (hp : p = w0.heap.size) (hcs : cs.size = size)
    (h1 : ∀ u ∈ cs.toList, u.oneCell' = true) (hn : n < 1000000) (hbase : base ≤ p)
    (h : ∀ g c w', w'.ownsRow base e size (.slice (some ⟨g, 0, none⟩) (n + 1) c) (n + 1) (xs ++ cs.toList) → Mod (fun b => v.ownBlock = some b) w0 w' → (v.ownBlock = some g ∨ p < g) → base ≤ g →
      wpList P ops Q rest (a.put o.dst (.slice (some ⟨g, 0, none⟩) (n + 1) c)) w') : wpList P ops Q (o :: rest) a (w0.alloc (.cells cs T)) := by
  obtain ⟨i, hi, hz, hsize, hbytes⟩ := info_three hinfo
  subst hp
  have hb : Below w0.heap.size w0 (w0.alloc (.cells cs T)) := (Below.refl _ _).alloc (Nat.le_refl _) _
  refine wpList_append_own_at (P := P) (w := w0.alloc (.cells cs T)) hg s x t ho base e i z size bytes ht hi hz hsize hbytes hzs hsz v n xs hs (row_below hown hb) ⟨w0.heap.size, 0, none⟩ 1 1 cs.toList hx (by simp [hcs]) ?_ h1 (by unfold maxLen; omega) ?_ (by simp; omega) ?_
  · intro j u hu
    have e1 : (⟨w0.heap.size, 0, none⟩ : Addr).add j = ⟨w0.heap.size, j, none⟩ := by
      unfold Addr.add
      split
      · rename_i h; subst h; rfl
      · simp
    rw [e1, World.cell?_alloc_new]
    simpa using hu
  · exact Nat.le_trans (Nat.mul_le_mul (by omega) hby) (show 1000000 * 1000000 ≤ 140737488355328 by decide)
  · intro v' w' hrow hgr _ hwh
    obtain ⟨g, c, rfl, hbg, _⟩ := row_at hrow (by omega)
    refine h g c w' hrow ?_ ?_ hbg
    · exact (Mod.of_below hb).trans ((mod_grown hgr).mono fun _ _ h => h)
    · rcases hwh with hw | hw
      · left; rw [← hw]; rfl
      · right
        have : g = (w0.alloc (.cells cs T)).heap.size := by simpa [Value.ownBlock] using hw
        rw [this]; simp
theorem mod_base {w w' : World} {B x : Nat} (k : Mod (· = x) w w') (hB : B ≤ w.heap.size) (hx : B ≤ x) : Below B w w' := k.toBelow hB fun _ hb e => by omega
end
end Go.Proofs.Ytefhmbmbhiehdaa
namespace Go.Proofs.Ytefhmbmbhiehdaa
open Go Go.RowKit Go.WideShapes
section
variable {P : Program} {w : World} {A : Option Addr} {n cap c : Nat} {M : Nat → Nat → Int}
/-- the rows from i on -/
theorem rows_from {t e : TypeId} (ht : P.underlying t = some (.slice (P.elem t))) (hsz : ∀ w, (sizeOf (P.elem t)).run P w = .ok c w) (h : Reads w A n c M) (hA : A = none → n = 0 ∧ cap = 0) (hcap : n ≤ cap) (i : Nat) (hi : i ≤ n) (_he : e = e) :
    ∃ A', Reads w A' (n - i) c (fun k j => M (i + k) j) ∧ (A' = none → n - i = 0 ∧ cap - i = 0) ∧ ∀ w', (Instr.slice t (.slice A n cap) (some (.int .i64 (i : Int))) none none).run P w' = .ok (.slice A' (n - i) (cap - i)) w' := by
  refine ⟨if cap = i then A else A.map (·.add (i * c)), fun hn => ?_, fun hA' => ?_, fun w' => ?_⟩
  · obtain ⟨b, o, rfl, hb, hc⟩ := h (by omega)
    rw [if_neg (by omega)]
    refine ⟨b, o + i * c, ?_, hb, fun k hk j hj => ?_⟩
    · simp only [Option.map_some, Option.some.injEq]
      unfold Addr.add
      split
      · simp
      · rfl
    · have := hc (i + k) (by omega) j hj
      rw [Nat.add_mul, Nat.add_assoc, ← Nat.add_assoc o] at this
      exact this
  · split at hA'
    · have := hA hA'; omega
    · cases A with
      | none => have := hA rfl; omega
      | some ad => cases hA'
  · rw [run_slice_l w' t A n cap ht .i64 (i : Int) (by omega) (by omega), hsz]
    simp [Result.andThen, sliced]
/-- the first i rows -/
theorem rows_till {t : TypeId} (ht : P.underlying t = some (.slice (P.elem t))) (hsz : ∀ w, (sizeOf (P.elem t)).run P w = .ok c w) (h : Reads w A n c M) (hA : A = none → n = 0 ∧ cap = 0) (hcap : n ≤ cap) (i : Nat) (hi : i ≤ n) :
    Reads w A i c M ∧ (A = none → i = 0 ∧ cap = 0) ∧ ∀ w', (Instr.slice t (.slice A n cap) none (some (.int .i64 (i : Int))) none).run P w' = .ok (.slice A i cap) w' := by
  refine ⟨fun hn => ?_, fun hA' => ?_, fun w' => ?_⟩
  · obtain ⟨b, o, rfl, hb, hc⟩ := h (by omega)
    exact ⟨b, o, rfl, hb, fun k hk j hj => hc k (by omega) j hj⟩
  · have := hA hA'; omega
  · rw [run_slice_h w' t A n cap ht .i64 (i : Int) (by omega) (by omega), hsz]
    have e : (if cap = 0 then A else A.map fun x => x.add 0) = A := by
      split
      · rfl
      · cases A with
        | none => rfl
        | some ad => simp [Addr.add]
    simp [Result.andThen, sliced, e]
end
section
variable {P : Program} {ops : Array Oper} {rest : List Oper} {o : Oper} {a : Act} {Q : Exit → Act → World → Prop} {w : World}
/-- append(s, x...): the row s has x's rows, too -/
theorem app_rows (hg : o.guard = none) (s x : Operand) (t : TypeId) (ho : o.op = .call { callee := .builtin .append, args := #[s, x], argTypes := #[t, t] }) {e : TypeId} (ht : P.underlying t = some (.slice e))
    {z : Value} {size bytes : Nat} (hinfo : (P.info? e).map (fun i => (i.zero, i.size, i.bytes)) = some (some z, size, bytes)) (hzs : z.cells.size = size) (hsz : 0 < size) (hby : bytes ≤ 1000000)
    (base : Nat) (v : Value) (n : Nat) (xs : List Value) (hs : a.eval s = v) (hown : w.ownsRow base e size v n xs) {A : Option Addr} {m cap : Nat} {M : Nat → Nat → Int} (hx : a.eval x = .slice A m cap) (hR : Reads w A m size M) (hA : A = none → m = 0 ∧ cap = 0)
    (hn : n + m < 1000000) (hbase : base ≤ w.heap.size)
    (h : ∀ v' w', w'.ownsRow base e size v' (n + m) (xs ++ rowsL M size m) → Mod (fun b => v.ownBlock = some b) w w' → (v'.ownBlock = v.ownBlock ∨ v'.ownBlock = some w.heap.size) → wpList P ops Q rest (a.put o.dst v') w') : wpList P ops Q (o :: rest) a w := by
  obtain ⟨i, hi, hz, hsize, hbytes⟩ := info_three hinfo
  cases A with
  | none =>
    obtain ⟨rfl, rfl⟩ := hA rfl
    refine wpList_append_own_none hg s x t ho base e i size ht hi v n xs hs hown hx ?_
    exact h v w (by simpa [rowsL] using hown) (Mod.refl _ _) (.inl rfl)
  | some ad =>
    refine wpList_append_own_at (P := P) (w := w) hg s x t ho base e i z size bytes ht hi hz hsize hbytes hzs hsz v n xs hs hown ad m cap (rowsL M size m) hx (by rw [rowsL_length]) ?_ (rowsL_one _ _ _) (by unfold maxLen; omega) ?_ hbase ?_
    · intro j u hu
      have hn0 : 0 < m := by
        have := (List.getElem?_eq_some_iff.1 hu).1
        rw [rowsL_length] at this
        rcases Nat.eq_zero_or_pos m with h0 | h0
        · subst h0; simp at this
        · exact h0
      obtain ⟨b, ao, e', hb, hc⟩ := hR hn0
      cases e'
      exact rowsL_cells hsz hc j u hu
    · exact Nat.le_trans (Nat.mul_le_mul (by omega) hby) (show 1000000 * 1000000 ≤ 140737488355328 by decide)
    · intro v' w' hrow hgr _ hwh
      exact h v' w' hrow ((mod_grown hgr).mono fun _ _ h => h) hwh
end
end Go.Proofs.Ytefhmbmbhiehdaa
namespace Go.Proofs.Ytefhmbmbhiehdaa
open Go Go.Maps Go.WideShapes Go.RowKit
/-- each value reads as itself -/
def holdV (v : Value) : Option (DataW Value × List MemPlace) := some (.held v, [])
/-- the reading D is the function F, with n keys -/
structure IsFn (D : DataW Value) (F : Lit → Option Value) (n : Nat) : Prop where
  has : ∀ k, WideAt.IsKeyLit k → Maps.has D k = (F k).isSome
  at_ : ∀ k z, WideAt.IsKeyLit k → D.atKey k (.held z) = .held ((F k).getD z)
  size : Maps.size D = n
open Classical in
noncomputable def putF (F : Lit → Option Value) (k : Lit) (v : Value) : Lit → Option Value := fun x => if x = k then some v else F x
open Classical in
noncomputable def delF (F : Lit → Option Value) (k : Lit) : Lit → Option Value := fun x => if x = k then none else F x
theorem isFn_nil : IsFn (.map []) (fun _ => none) 0 := ⟨fun _ _ => rfl, fun _ _ _ => rfl, rfl⟩
theorem IsFn.put {D : DataW Value} {F : Lit → Option Value} {n : Nat} (h : IsFn D F n) (hT : Tidy D) {k : Lit} (hk : WideAt.IsKeyLit k) (v : Value) : IsFn (D.put k (.held v)) (putF F k v) (if (F k).isSome then n else n + 1) := by
  refine ⟨fun x hx => ?_, fun x z hx => ?_, ?_⟩
  · unfold putF
    by_cases e : x = k
    · subst e; rw [has_put_same hT.isMap hk, if_pos rfl]; rfl
    · rw [has_put_other e, if_neg e, h.has x hx]
  · unfold putF
    by_cases e : x = k
    · subst e; rw [atKey_put_same hT.isMap hk, if_pos rfl]; rfl
    · rw [atKey_put_other e, if_neg e, h.at_ x z hx]
  · rw [size_put hT, h.has k hk, h.size]
theorem IsFn.del {D : DataW Value} {F : Lit → Option Value} {n : Nat} (h : IsFn D F n) (hT : Tidy D) {k : Lit} (hk : WideAt.IsKeyLit k) : IsFn (D.del k) (delF F k) (if (F k).isSome then n - 1 else n) := by
  refine ⟨fun x hx => ?_, fun x z hx => ?_, ?_⟩
  · unfold delF
    by_cases e : x = k
    · subst e; rw [has_del_same, if_pos rfl]; rfl
    · rw [has_del_other e, if_neg e, h.has x hx]
  · unfold delF
    by_cases e : x = k
    · subst e; rw [atKey_del_same, if_pos rfl]; rfl
    · rw [atKey_del_other e, if_neg e, h.at_ x z hx]
  · have := size_del (k := k) hT
    rw [h.has k hk, h.size] at this
    by_cases e : (F k).isSome = true
    · rw [if_pos e] at this ⊢; omega
    · rw [if_neg e] at this ⊢; omega
/-- block b is a map from keys of type K: what stands at a key is F's; n keys, of at most m that were put -/
def MapV (P : Program) (K : TypeId) (w : World) (b m : Nat) (F : Lit → Option Value) (n : Nat) : Prop := ∃ D, w.ownsMap P K holdV b m D ∧ Tidy D ∧ IsFn D F n
section
variable {P : Program} {K E T : TypeId} {w w' : World} {b m n : Nat} {F : Lit → Option Value}
theorem mapV_made (w : World) (P : Program) (K : TypeId) : MapV P K (w.alloc (.map #[] 0)) w.heap.size 0 (fun _ => none) 0 := ⟨_, World.ownsMap_made w P K holdV, tidy_empty, isFn_nil⟩
theorem MapV.lt (h : MapV P K w b m F n) : b < w.heap.size := by obtain ⟨D, h, _⟩ := h; exact h.lt
theorem MapV.le (h : MapV P K w b m F n) : n ≤ m := by obtain ⟨D, h, _, hf⟩ := h; rw [← hf.size]; exact h.size_le
theorem MapV.mod {S : Nat → Prop} (h : MapV P K w b m F n) (k : Mod S w w') (hs : ¬ S b) : MapV P K w' b m F n := by
  obtain ⟨D, h, ht, hf⟩ := h
  have hlt := h.lt
  obtain ⟨es, clock, hb, hF, hsz, hD⟩ := h
  exact ⟨D, ⟨es, clock, (k.block b hlt hs).trans hb, hF, hsz, hD⟩, ht, hf⟩
theorem MapV.below (h : MapV P K w b m F n) (k : Below w.heap.size w w') : MapV P K w' b m F n := h.mod (S := fun _ => False) (Mod.of_below k) id
/-- a map's block is no cells -/
theorem MapV.ne (h : MapV P K w b m F n) {g : Nat} {cs : Array Value} {t : TypeId} {f : Nat × Nat} (hg : w.heap[g]? = some (.cells cs t f)) : g ≠ b := by
  intro e
  subst e
  obtain ⟨D, ⟨es, clock, hb, _⟩, _⟩ := h
  rw [hb] at hg
  cases hg
theorem MapV.mono (h : MapV P K w b m F n) {m' : Nat} (hm : m ≤ m') : MapV P K w b m' F n := by obtain ⟨D, h, ht, hf⟩ := h; exact ⟨D, h.mono hm, ht, hf⟩
theorem mod_grownBy {row : Option Nat} (h : w.grownBy w' row) : Mod (fun b => row = some b) w w' := ⟨h.os, h.tape, h.output, h.size, fun b hb hs => h.block b hb (fun e => hs e.symm)⟩
section
variable {ops : Array Oper} {rest : List Oper} {o : Oper} {a : Act} {Q : Exit → Act → World → Prop}
/-- m[k] = v -/
theorem at_update (hg : o.guard = none) (mm x v : Operand) (hop : o.op = Op.mapUpdate T mm x v) (LK : Keyed P K) (ht : P.underlying T = some (.map K E))
    (hm : a.eval mm = .map (some b)) (hown : MapV P K w b m F n) (hmx : m < maxLen) (key val : Value) (kl : Lit) (hx : a.eval x = key) (hv : a.eval v = val) (hkey : keyOf P K key = some kl) (hkl : WideAt.IsKeyLit kl)
    (hK : ∀ w', MapV P K w' b (m + 1) (putF F kl val) (if (F kl).isSome then n else n + 1) → Mod (· = b) w w' → wpList P ops Q rest (a.put o.dst undef) w') : wpList P ops Q (o :: rest) a w := by
  obtain ⟨D, hown, hT, hf⟩ := hown
  refine wpList_plain hg fun K' hK' => ?_
  obtain ⟨w', hrun, r1, r2⟩ := hown.update LK ht hmx hkey (val := val) (d := .held val) (ps := []) rfl
  unfold Oper.wp
  simp [execOp, hop, hm, hx, hv, hrun, Result.andThen]
  exact hK' _ _ (hK w' ⟨_, r1, hT.put hkl _, hf.put hT hkl val⟩ ((mod_grownBy r2).mono fun b' _ e => (Option.some.inj e).symm))
/-- len(m) -/
theorem at_len1 (hg : o.guard = none) (mm : Operand) (hop : o.op = Op.call { callee := Callee.builtin Builtin.len, args := #[mm], argTypes := #[T] }) (ht : P.underlying T = some (.map K E))
    (hm : a.eval mm = .map (some b)) (hown : MapV P K w b m F n) (hK : wpList P ops Q rest (a.put o.dst (.int .i64 n)) w) : wpList P ops Q (o :: rest) a w := by
  obtain ⟨D, hown, hT, hf⟩ := hown
  refine wpList_plain hg fun K' hK' => ?_
  unfold Oper.wp
  simp [execOp, hop, resolve, invoke, builtin, hm, hown.len ht o.type, Result.andThen]
  rw [hf.size]
  exact hK' _ _ hK
end
end
theorem intKey_wf {n : Int} (h1 : -9223372036854775808 ≤ n) (h2 : n ≤ 9223372036854775807) : (Lit.int .i64 n).wf = true := by
  simp [Lit.wf, IntKind.min, IntKind.max, IntKind.signed, IntKind.bits]
  exact ⟨h1, h2⟩
end Go.Proofs.Ytefhmbmbhiehdaa
namespace Go.Proofs.Ytefhmbmbhiehdaa
open Go Go.Maps Go.WideShapes Go.RowKit
theorem same_int (x y : Int) : (Lit.int .i64 x).sameKey (.int .i64 y) = decide (x = y) := by
  by_cases h : x = y
  · subst h; simp [Lit.sameKey]
  · rw [decide_eq_false h]
    exact sameKey_ne (fun e => h (by cases e; rfl))
/-- range over the map at b under way, its iterator at r: what stands at a key is F's, n keys; L: which keys are still to come, cnt of them -/
def RangeV (P : Program) (K : TypeId) (w : World) (b r m : Nat) (F : Lit → Option Value) (n : Nat) (L : Int → Bool) (cnt : Nat) : Prop :=
  ∃ D left, w.ranges P K holdV b r m D left cnt ∧ Tidy D ∧ IsFn D F n ∧ ∀ x : Int, left (.int .i64 x) = L x
section
variable {P : Program} {K E T : TypeId} {w w' : World} {b r m n cnt : Nat} {F : Lit → Option Value} {L : Int → Bool}
theorem RangeV.map (h : RangeV P K w b r m F n L cnt) : MapV P K w b m F n := by
  obtain ⟨D, left, h1, h2, h3, _⟩ := h
  exact ⟨D, h1.owns, h2, h3⟩
theorem RangeV.left (h : RangeV P K w b r m F n L cnt) : w.rangeLeft b r = cnt := by
  obtain ⟨D, left, h1, _⟩ := h
  exact h1.left_eq
theorem RangeV.lt (h : RangeV P K w b r m F n L cnt) : r < w.heap.size := by
  obtain ⟨D, left, h1, _⟩ := h
  exact h1.lt
theorem RangeV.ne (h : RangeV P K w b r m F n L cnt) : r ≠ b := by
  obtain ⟨D, left, h1, _⟩ := h
  exact h1.ne
theorem RangeV.mod {S : Nat → Prop} (h : RangeV P K w b r m F n L cnt) (k : Mod S w w') (hb : ¬ S b) (hr : ¬ S r) : RangeV P K w' b r m F n L cnt := by
  have hlt := h.map.lt
  have hrl := h.lt
  obtain ⟨D, left, ⟨es, clock, since, seen, c0, e1, e2, e3, e4, e5, e6⟩, h2⟩ := h
  exact ⟨D, left, ⟨es, clock, since, seen, c0, (k.block b hlt hb).trans e1, e2, e3, e4, (k.block r hrl hr).trans e5, e6⟩, h2⟩
theorem RangeV.below (h : RangeV P K w b r m F n L cnt) (k : Below w.heap.size w w') : RangeV P K w' b r m F n L cnt := h.mod (S := fun _ => False) (Mod.of_below k) id id
variable {ops : Array Oper} {rest : List Oper} {o : Oper} {a : Act} {Q : Exit → Act → World → Prop}
theorem int_wf_key {x : Int} (hK : P.underlying K = some (.int .i64)) (h : (Lit.int .i64 x).wf = true) : keyOf P K (.int .i64 x) = some (.int .i64 x) := by
  simp [keyOf, hK, mapKey, h]
/-- range m -/
theorem at_rangeV (hg : o.guard = none) (mm : Operand) (hop : o.op = Op.range T mm) (LK : Keyed P K) (ht : P.underlying T = some (.map K E)) (hm : a.eval mm = .map (some b)) (hown : MapV P K w b m F n)
    (hK : ∀ w', RangeV P K w' b w.heap.size m F n (fun x => (F (.int .i64 x)).isSome) n → Mod (fun _ => False) w w' → w'.heap.size = w.heap.size + 1 → wpList P ops Q rest (a.put o.dst (.pointer (some ⟨w.heap.size, 0, none⟩))) w') :
    wpList P ops Q (o :: rest) a w := by
  obtain ⟨D, h1, h2, h3⟩ := hown
  refine wpList_range_own w hg mm T hop K E LK ht holdV b m D hm h1 fun w' r1 r2 r3 => ?_
  rw [h3.size] at r1
  exact hK w' ⟨D, _, r1, h2, h3, fun x => h3.has _ trivial⟩ ((mod_grownBy r2).mono fun _ _ h => by cases h) r3
/-- the step -/
theorem at_nextV (hg : o.guard = none) (it : Operand) (hop : o.op = Op.next it false) (LK : Keyed P K) (hKi : P.underlying K = some (.int .i64)) (hit : a.eval it = .pointer (some ⟨r, 0, none⟩)) (h : RangeV P K w b r m F n L cnt)
    (hDone : (∀ x, L x = false) → wpList P ops Q rest (a.put o.dst (.tuple #[.bool false])) w)
    (hMore : ∀ (x : Int) (c : Value) (w' : World) (cnt' : Nat), (Lit.int .i64 x).wf = true → L x = true → F (.int .i64 x) = some c → RangeV P K w' b r m F n (fun z => L z && !decide (z = x)) cnt' → cnt' < cnt → Mod (· = r) w w' → w'.heap.size = w.heap.size →
      (Instr.entry (.pointer (some ⟨r, 0, none⟩))).run P w' = .ok (.tuple #[.int .i64 x, c]) w' → wpList P ops Q rest (a.put o.dst (.tuple #[.bool true, .int .i64 x, c])) w') :
    wpList P ops Q (o :: rest) a w := by
  obtain ⟨D, left, h1, h2, h3, h4⟩ := h
  refine wpList_next_ranges w hg it hop K LK holdV (Value.int .i64) (fun v : Value => v) (fun key kl hkey => by obtain ⟨x, rfl, _⟩ := Maps.keyOf_int_inv hKi hkey; exact ⟨x, rfl⟩) (fun v y _ => ⟨v, rfl⟩) b r m D left cnt hit h1 (fun h0 hl => hDone fun x => by rw [← h4]; exact hl _) ?_
  intro x c kl y w' cnt' hkey hl hR hat hrg hlt hgr hsz hen
  obtain ⟨x', e, rfl, hwf⟩ := Maps.keyOf_int_inv hKi hkey
  cases e
  have hF : F (.int .i64 x) = some c := by
    unfold holdV at hR
    cases hR
    have q1 := hat (.held (.int .i64 0))
    have q2 := hat (.held (.int .i64 1))
    rw [h3.at_ (.int .i64 x) _ trivial] at q1 q2
    cases hFx : F (.int .i64 x) with
    | some v => rw [hFx] at q1; simp at q1; rw [q1]
    | none =>
      rw [hFx] at q1 q2
      simp at q1 q2
      rw [← q1] at q2
      cases q2
  refine hMore x c w' cnt' hwf (by rw [← h4]; exact hl) hF ⟨D, _, hrg, h2, h3, fun z => ?_⟩ hlt ((mod_grownBy hgr).mono fun _ _ e => (Option.some.inj e).symm) hsz hen
  rw [h4, same_int]
/-- delete(m, k) in the round -/
theorem at_deleteV (hg : o.guard = none) (mm x : Operand) (hop : o.op = Op.call { callee := Callee.builtin Builtin.delete, args := #[mm, x], argTypes := #[T, K] }) (LK : Keyed P K) (hKi : P.underlying K = some (.int .i64)) (ht : P.underlying T = some (.map K E))
    (hm : a.eval mm = .map (some b)) (h : RangeV P K w b r m F n L cnt) (y : Int) (hwf : (Lit.int .i64 y).wf = true) (hx : a.eval x = .int .i64 y)
    (hK : ∀ w' cnt', RangeV P K w' b r m (delF F (.int .i64 y)) (if (F (.int .i64 y)).isSome then n - 1 else n) (fun z => L z && !decide (z = y)) cnt' → cnt' ≤ cnt → Mod (· = b) w w' → wpList P ops Q rest (a.put o.dst (.tuple #[])) w') : wpList P ops Q (o :: rest) a w := by
  obtain ⟨D, left, h1, h2, h3, h4⟩ := h
  refine wpList_delete_ranges w hg mm x T K hop E LK ht holdV b r m D left cnt hm h1 (.int .i64 y) (.int .i64 y) hx (int_wf_key hKi hwf) fun w' cnt' r1 r2 r3 => ?_
  exact hK w' cnt' ⟨_, _, r1, h2.del _, h3.del h2 trivial, fun z => by rw [h4, same_int]⟩ r2 ((mod_grownBy r3.grown).mono fun _ _ e => (Option.some.inj e).symm)
end
/-- two lists without repeats that hold the same -/
theorem len_same {α : Type} : ∀ {a b : List α}, a.Nodup → b.Nodup → (∀ x, x ∈ a ↔ x ∈ b) → a.length = b.length := by
  intro a b ha hb h
  exact ((List.perm_ext_iff_of_nodup ha hb).2 h).length_eq
end Go.Proofs.Ytefhmbmbhiehdaa
namespace Go.Proofs.Ytefhmbmbhiehdaa
open Go Go.RowKit
section
variable {P : Program}
theorem run_loadVar_off (w : World) (g o : Nat) (ty : TypeId) (vs : List Value) (d : TypeDesc) (hc : ∀ j v, vs[j]? = some v → w.cell? ⟨g, o + j, none⟩ = some v)
    (hu : P.underlying ty = some d) (hd : (match d with | .struct _ | .array _ _ => true | _ => false) = true) (hi : (P.info? ty).map (·.size) = some vs.length) :
    (loadVar ty ⟨g, o, none⟩).run P w = .ok (.agg vs.toArray) w := by
  have hl : (loadCells ⟨g, o, none⟩ vs.length).run P w = .ok vs.toArray w :=
    run_loadCells_list (P := P) w ⟨g, o, none⟩ vs (fun j v hv => by
      have hadd : (⟨g, o, none⟩ : Addr).add j = ⟨g, o + j, none⟩ := by unfold Addr.add; split <;> simp_all
      rw [hadd]
      exact hc j v hv)
  cases hq : P.info? ty with
  | none => simp [hq] at hi
  | some i =>
    have hs : i.size = vs.length := by simpa [hq] using hi
    have hagg : (isAgg ty).run P w = .ok true w := by
      unfold isAgg
      rw [Sem.run_bind, run_underlying hu w]
      cases d <;> simp_all
    simp [loadVar, Sem.run_bind, hagg, sizeOf, typeInfo, hq, hs, hl]
theorem exec_load_off {o : Oper} {a : Act} (w : World) (g of : Nat) (ty : TypeId) (x : Operand) (ho : o.op = .load ty x) (hx : a.eval x = .pointer (some ⟨g, of, none⟩)) (vs : List Value) (d : TypeDesc) (hc : ∀ j v, vs[j]? = some v → w.cell? ⟨g, of + j, none⟩ = some v)
    (hu : P.underlying ty = some d) (hd : (match d with | .struct _ | .array _ _ => true | _ => false) = true) (hi : (P.info? ty).map (·.size) = some vs.length) :
    (execOp a.eval o).run P w = (.ok (.value (.agg vs.toArray)) w : Result Next) := by
  unfold execOp
  simp only [ho, hx, Instr.loadAt, Instr.sureAddr, Sem.run_bind, Sem.run_pure, Result.andThen_ok, run_loadVar_off w g of ty vs d hc hu hd hi]
theorem quiet_load_off {C : World → Prop} {o : Oper} {a : Act} {K : Act → Prop} (g of : Nat) (ty : TypeId) (x : Operand) (ho : o.op = .load ty x) (hx : a.eval x = .pointer (some ⟨g, of, none⟩)) (vs : List Value) (d : TypeDesc) (hc : ∀ w, C w → ∀ j v, vs[j]? = some v → w.cell? ⟨g, of + j, none⟩ = some v)
    (hu : P.underlying ty = some d) (hd : (match d with | .struct _ | .array _ _ => true | _ => false) = true) (hi : (P.info? ty).map (·.size) = some vs.length)
    (h : K (a.put o.dst (.agg vs.toArray))) : o.quiet P a C K :=
  ⟨_, fun w hw => by unfold Oper.quietAt; rw [exec_load_off w g of ty x ho hx vs d (hc w hw) hu hd hi]; exact ⟨rfl, rfl⟩, h⟩
theorem wpList_load_off {ops : Array Oper} {rest : List Oper} {o : Oper} {a : Act} {w : World} {Q : Exit → Act → World → Prop} (hgd : o.guard = none) (g of : Nat) (ty : TypeId) (x : Operand) (ho : o.op = .load ty x)
    (hx : a.eval x = .pointer (some ⟨g, of, none⟩)) (vs : List Value) (d : TypeDesc) (hc : ∀ j v, vs[j]? = some v → w.cell? ⟨g, of + j, none⟩ = some v)
    (hu : P.underlying ty = some d) (hd : (match d with | .struct _ | .array _ _ => true | _ => false) = true) (hi : (P.info? ty).map (·.size) = some vs.length)
    (h : wpList P ops Q rest (a.put o.dst (.agg vs.toArray)) w) : wpList P ops Q (o :: rest) a w :=
  wpList_plain hgd fun _ hK => by
    unfold Oper.wp
    rw [exec_load_off w g of ty x ho hx vs d hc hu hd hi]
    exact hK _ _ h
end
/-- the values of a list literal, one by one -/
theorem lits (vs : List Value) (c : Nat) (f : Nat → Value) (hv : vs = (List.range c).map f) {Pr : Nat → Value → Prop} (h : ∀ j, j < c → Pr j (f j)) : ∀ j v, vs[j]? = some v → Pr j v := by
  subst hv
  intro j v hj
  rw [List.getElem?_map] at hj
  by_cases hc : j < c
  · rw [List.getElem?_range hc] at hj
    cases hj
    exact h j hc
  · rw [List.getElem?_eq_none (by simpa using hc)] at hj
    cases hj
end Go.Proofs.Ytefhmbmbhiehdaa
namespace Go.Proofs.Ytefhmbmbhiehdaa
open Go Go.RowKit
/-- numbers as values -/
def i64s (l : List Int) : List Value := l.map fun n : Int => Value.int .i64 n
theorem i64s_snoc (l : List Int) (n : Int) : i64s (l ++ [n]) = i64s l ++ [.int .i64 n] := by unfold i64s; simp
theorem i64s_get {l : List Int} {k : Nat} {n : Int} (h : l[k]? = some n) : (i64s l)[k]? = some (.int .i64 n) := by unfold i64s; rw [List.getElem?_map, h]; rfl
theorem intInfo : (Try.prog.info? 3).map (fun i => (i.zero, i.size, i.bytes)) = some (some (.int .i64 0), 1, 8) := by kernel_rfl
end Go.Proofs.Ytefhmbmbhiehdaa
namespace Go.Proofs.Ytefhmbmbhiehdaa
open Go Go.RowKit
section
variable {P : Program} {l : List Oper} {md : Region.Mode} {S : World → Prop} {Q : Exit → Act → World → Prop} {n : Nat}
/-- behind the first n operations: the others, one by one -/
def TailQ (P : Program) (l : List Oper) (Q : Exit → Act → World → Prop) (n : Nat) : Exit → Act → World → Prop
  | .normal, a, w => wpList P l.toArray Q (l.drop n) a w
  | e, a, w => Q e a w
theorem wp_tailQ {o : Oper} {a : Act} {w : World} {K : Act → World → Prop} (h : o.wp P a w K (TailQ P l Q n)) : o.wp P a w K Q := by
  unfold Oper.wp at *
  generalize (execOp a.eval o).run P w = r at *
  cases r with
  | ok n w' =>
    cases n <;> simp only [Oper.upon] at h ⊢ <;>
      first
        | exact h
        | exact Calls.mono h (fun e w'' he => by cases e <;> exact he)
  | halt x w' => cases x <;> simp only [Oper.upon] at h ⊢ <;> exact h
/-- the first n operations wait for earlier ones alone, and so do their guards -/
def backB (l : List Oper) (n : Nat) : Bool := (List.range n).all fun i => match l[i]? with
  | some o => (o.after.all fun e => decide (e.on < i)) && (match o.guard with | some (g, _) => decide (g < i) | none => true)
  | none => false
def endB (md : Region.Mode) (l : List Oper) (n : Nat) : Bool := Region.seqB md l.toArray (l.length - n) n ((List.replicate n true ++ List.replicate (l.length - n) false).toArray)
def heldTailB (md : Region.Mode) (l : List Oper) (n : Nat) : Bool :=
  decide (n < l.length) && Region.sinkB md l.toArray n && Region.chainB md l.toArray n && backB l n && endB md l n
theorem backB_spec (h : backB l n = true) {i : Nat} {o : Oper} (hi : i < n) (ho : l[i]? = some o) : (∀ e ∈ o.after, e.on < i) ∧ ∀ g b, o.guard = some (g, b) → g < i := by
  have h1 := List.all_eq_true.1 h i (List.mem_range.2 hi)
  rw [ho] at h1
  simp only [Bool.and_eq_true] at h1
  refine ⟨fun e he => ?_, fun g b hg => ?_⟩
  · have := Array.all_eq_true_iff_forall_mem.1 h1.1 e he
    simpa using this
  · have h2 := h1.2
    rw [hg] at h2
    simpa using h2
theorem wanted_take (h : backB l n = true) {i : Nat} {o : Oper} (hi : i < n) (ho : l[i]? = some o) (tmps : Array Value) : Region.wanted o (yielded (l.take n).toArray tmps) = Region.wanted o (yielded l.toArray tmps) := by
  have hy : ∀ g, g < n → yielded (l.take n).toArray tmps g = yielded l.toArray tmps g := by
    intro g hg
    unfold yielded
    simp [hg]
  unfold Region.wanted
  cases hg : o.guard with
  | none => rfl
  | some gb =>
    obtain ⟨g, b⟩ := gb
    have := (backB_spec h hi ho).2 g b hg
    simp only []
    rw [hy g (by omega)]
theorem wpOp_take (h : backB l n = true) {i : Nat} (hi : i < n) (hl : i < l.length) {K : Act → World → Prop} {a : Act} {w : World} (hh : wpOp P (l.take n).toArray (TailQ P l Q n) i K a w) : wpOp P l.toArray Q i K a w := by
  obtain ⟨o, ho⟩ : ∃ o, l[i]? = some o := ⟨_, List.getElem?_eq_getElem hl⟩
  have h1 : (l.take n).toArray[i]? = some o := by simp [hi, ho]
  have h2 : l.toArray[i]? = some o := by simpa using ho
  unfold wpOp at *
  simp only [h1] at hh
  simp only [h2]
  rw [wanted_take h hi ho] at hh
  split
  · rename_i hw
    simp only [hw, if_true] at hh
    exact hh.imp wp_tailQ id
  · rename_i hw
    simp only [hw] at hh
    exact hh
/-- the two lists of what has come up -/
structure Pair (l : List Oper) (n : Nat) (A B : Array Bool) : Prop where
  sA : A.size = l.length
  sB : B.size = n
  eq : ∀ j, j < n → A[j]? = B[j]?
  tl : ∀ t, n ≤ t → t < l.length → A.getD t true = false
theorem Pair.set {A B : Array Bool} (h : Pair l n A B) {i : Nat} (hi : i < n) : Pair l n (A.setIfInBounds i true) (B.setIfInBounds i true) := by
  refine ⟨by simp [h.sA], by simp [h.sB], fun j hj => ?_, fun t ht htl => ?_⟩
  · have h1 := h.eq j hj
    by_cases e : i = j
    · subst e
      by_cases hl : i < l.length
      · simp [h.sA, h.sB, hi, hl]
      · have hs : A[i]? = none := by rw [Array.getElem?_eq_none]; rw [h.sA]; omega
        rw [hs] at h1
        have : B[i]? ≠ none := by simp [h.sB, hi]
        exact absurd h1.symm this
    · simp [e, h1]
  · rw [getD_set_ne true (by omega)]; exact h.tl t ht htl
theorem Pair.getD {A B : Array Bool} (h : Pair l n A B) {j : Nat} (hj : j < n) (d : Bool) : A.getD j d = B.getD j d := by
  rw [Array.getD_eq_getD_getElem?, Array.getD_eq_getD_getElem?, h.eq j hj]
theorem ready_pair {A B : Array Bool} (hbk : backB l n = true) (h : Pair l n A B) {i : Nat} (hi : i < n) : i ∈ Region.ready md l.toArray A ↔ i ∈ Region.ready md (l.take n).toArray B := by
  rw [mem_ready, mem_ready, h.getD hi]
  have e : (l.take n).toArray[i]? = l.toArray[i]? := by simp [hi]
  rw [e]
  constructor
  · rintro ⟨h0, o, ho, hall⟩
    refine ⟨h0, o, ho, fun e he hb => ?_⟩
    have := (backB_spec hbk hi (by simpa using ho)).1 e he
    rw [← h.getD (by omega)]
    exact hall e he hb
  · rintro ⟨h0, o, ho, hall⟩
    refine ⟨h0, o, ho, fun e he hb => ?_⟩
    have := (backB_spec hbk hi (by simpa using ho)).1 e he
    rw [h.getD (by omega)]
    exact hall e he hb
/-- one that has not come up: the least one is ready -/
theorem least_ready {B : Array Bool} (hn : n ≤ l.length) (hbk : backB l n = true) : ∀ (i : Nat), i < n → B.size = n → B.getD i true = false → ∃ j, j < n ∧ j ∈ Region.ready md (l.take n).toArray B := by
  intro i
  induction i using Nat.strongRecOn with
  | _ i ih =>
    intro hi hB hun
    obtain ⟨o, ho⟩ : ∃ o, l[i]? = some o := ⟨_, List.getElem?_eq_getElem (by omega)⟩
    by_cases hall : ∀ e ∈ o.after, Region.binds md e = true → B.getD e.on false = true
    · exact ⟨i, hi, mem_ready.2 ⟨hun, o, by simp [hi, ho], hall⟩⟩
    · have hx : ∃ e, e ∈ o.after ∧ Region.binds md e = true ∧ ¬ B.getD e.on false = true := by
        apply Classical.byContradiction
        intro hc
        apply hall
        intro e he hb
        apply Classical.byContradiction
        intro hc'
        exact hc ⟨e, he, hb, hc'⟩
      obtain ⟨e, he, _, hf⟩ := hx
      have hlt := (backB_spec hbk hi ho).1 e he
      exact ih e.on hlt (by omega) hB (getD_in (by omega) (by simpa using hf))
theorem count_drop (f g : Nat → Bool) (i : Nat) (hf : f i = true) (hg : g i = false) (he : ∀ j, j ≠ i → g j = f j) : ∀ n, i < n → ((List.range n).filter g).length + 1 = ((List.range n).filter f).length := by
  intro n
  induction n with
  | zero => intro h; omega
  | succ n ih =>
    intro hi
    rw [List.range_succ, List.filter_append, List.filter_append, List.length_append, List.length_append]
    by_cases e : i = n
    · subst e
      have : (List.range i).filter g = (List.range i).filter f := List.filter_congr (fun j hj => he j (by have := List.mem_range.1 hj; omega))
      rw [this]
      simp [hf, hg]
    · have h1 := ih (by omega)
      have h2 := he n (by omega)
      simp only [List.filter_cons, List.filter_nil, h2]
      omega
theorem count_set {n i : Nat} {B : Array Bool} (hB : B.size = n) (hi : i < n) (hun : B.getD i true = false) : ((List.range n).filter fun j => !(B.setIfInBounds i true).getD j true).length + 1 = ((List.range n).filter fun j => !B.getD j true).length := by
  refine count_drop _ _ i (by simp [hun]) ?_ (fun j hj => by rw [getD_set_ne true (Ne.symm hj)]) n hi
  simp [hB, hi]
/-- what waits for what is closed -/
structure Held (md : Region.Mode) (l : List Oper) (n : Nat) (A B : Array Bool) : Prop where
  pair : Pair l n A B
  inv : HeadInv md l.toArray n A
theorem held_run (hn : n < l.length) (hs : Region.sinkB md l.toArray n = true) (hc : Region.chainB md l.toArray n = true) (hbk : backB l n = true) (he : endB md l n = true) :
    ∀ (f : Nat) (A B : Array Bool) (a : Act) (w : World), Held md l n A B → (∀ j, j < n → B.getD j true = true) ∨ 0 < f → ((List.range n).filter fun j => !B.getD j true).length = f →
      wpAnyH P md (l.take n).toArray (TailQ P l Q n) S f B a w → wpAny P md l.toArray Q (f + (l.length - n)) A a w := by
  intro f
  induction f with
  | zero =>
    intro A B a w hh _ hcnt h
    have hall : ∀ j, j < n → B.getD j true = true := by
      intro j hj
      apply Classical.byContradiction
      intro hc'
      have : j ∈ (List.range n).filter fun j => !B.getD j true := List.mem_filter.2 ⟨List.mem_range.2 hj, by simpa using hc'⟩
      rw [List.length_eq_zero_iff.1 hcnt] at this
      cases this
    have hA : A = (List.replicate n true ++ List.replicate (l.length - n) false).toArray := by
      apply Array.ext
      · simp [hh.pair.sA]; omega
      · intro j hj hj'
        rw [hh.pair.sA] at hj
        rcases Nat.lt_or_ge j n with hjn | hjn
        · have h1 := hh.pair.getD hjn true
          rw [hall j hjn] at h1
          have h2 : A.getD j true = A[j] := by simp [Array.getD_eq_getD_getElem?, hh.pair.sA, hj]
          rw [h2] at h1
          rw [h1]
          simp [hjn]
        · have h1 := hh.pair.tl j hjn hj
          have h2 : A.getD j true = A[j] := by simp [Array.getD_eq_getD_getElem?, hh.pair.sA, hj]
          rw [h2] at h1
          rw [h1]
          have : ¬ j < n := by omega
          simp [List.getElem_append, this]
    rw [Nat.zero_add]
    have hdl : (l.drop n).length = l.length - n := by simp
    have := wpAny_of_seq (md := md) (Q' := Q) (l.drop n) n A a w (fun j => by simp [List.getElem?_drop]) (by rw [hdl, hA]; exact he) h.2
    rwa [hdl] at this
  | succ f ih =>
    intro A B a w hh _ hcnt h
    -- one has not come up
    obtain ⟨i0, hi0, hun0⟩ : ∃ i, i < n ∧ B.getD i true = false := by
      apply Classical.byContradiction
      intro hc'
      have : (List.range n).filter (fun j => !B.getD j true) = [] := by
        rw [List.filter_eq_nil_iff]
        intro j hj hj'
        exact hc' ⟨j, List.mem_range.1 hj, by simpa using hj'⟩
      rw [this] at hcnt
      cases hcnt
    obtain ⟨j0, hj0, hr0⟩ := least_ready (md := md) (Nat.le_of_lt hn) hbk i0 hi0 hh.pair.sB hun0
    rw [show f + 1 + (l.length - n) = (f + (l.length - n)) + 1 from by omega]
    refine ⟨fun hnil => ?_, fun i hi => ?_⟩
    · have := (ready_pair hbk hh.pair hj0).2 hr0
      rw [hnil] at this; cases this
    · have hunA : A.getD i0 true = false := by rw [hh.pair.getD hi0]; exact hun0
      have hin : i < n := Nat.lt_of_not_le fun h' => tail_waits hs hc (by simpa using hn) hh.inv _ i0 rfl hi0 hunA i h' hi
      have hrB := (ready_pair hbk hh.pair hin).1 hi
      have hunB := (mem_ready.1 hrB).1
      refine wpOp_mono (fun a' w' h' => ?_) (wpOp_take (Q := Q) hbk hin (by omega) (h.2 i hrB))
      refine ih (A.setIfInBounds i true) (B.setIfInBounds i true) a' w' ⟨hh.pair.set hin, hh.inv.set hi hin⟩ ?_ ?_ h'.2
      · rcases Nat.eq_zero_or_pos f with h0 | h0
        · left
          intro j hj
          have hcl : ((List.range n).filter fun j => !(B.setIfInBounds i true).getD j true).length = 0 := by
            have := count_set hh.pair.sB hin hunB
            omega
          apply Classical.byContradiction
          intro hc'
          have : j ∈ (List.range n).filter fun j => !(B.setIfInBounds i true).getD j true := List.mem_filter.2 ⟨List.mem_range.2 hj, by simpa using hc'⟩
          rw [List.length_eq_zero_iff.1 hcl] at this
          cases this
        · exact .inr h0
      · have := count_set hh.pair.sB hin hunB
        omega
/-- The region: n operations of which each keeps S, in whatever order; then the rest. -/
theorem region_held_tail {id : Nat} {a : Act} {w : World} (S : World → Prop) (n : Nat) (hm : P.follows .mixedOrders = true) (hB : heldTailB .any l n = true) (hS : S w.drew)
    (h : S w.drew → wpAnyH P .any (l.take n).toArray (TailQ P l Q n) S n (Array.replicate n false) a w.drew) : (Code.region id l.toArray true).wp P Q a w := by
  simp only [heldTailB, Bool.and_eq_true, decide_eq_true_eq] at hB
  obtain ⟨⟨⟨⟨hn, hs⟩, hc⟩, hbk⟩, he⟩ := hB
  refine wp_region_any hm ?_
  have hh : Held .any l n (Array.replicate l.toArray.size false) (Array.replicate n false) := by
    refine ⟨⟨by simp, by simp, fun j hj => ?_, fun t _ ht => getD_in (by simpa using ht) (getD_replicate_false _ _)⟩, ⟨by simp, fun j oj _ hl => (by rw [getD_replicate_false] at hl; cases hl), fun t _ ht => getD_in (by simpa using ht) (getD_replicate_false _ _)⟩⟩
    have : j < l.length := by omega
    simp [hj, this]
  have hcnt : ((List.range n).filter fun j => !(Array.replicate n false).getD j true).length = n := by
    rw [List.filter_eq_self.2 (fun j hj => by have := List.mem_range.1 hj; simp [this])]
    simp
  have := held_run hn hs hc hbk he n _ _ a w.drew hh (by rcases Nat.eq_zero_or_pos n with h0 | h0; exact .inl (fun j hj => by omega); exact .inr h0) hcnt (h hS)
  rw [show n + (l.length - n) = l.toArray.size from by simp; omega] at this
  exact this
end
end Go.Proofs.Ytefhmbmbhiehdaa
