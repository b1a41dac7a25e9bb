/- Plain bits: numbers as bits, bits as bytes, what is read of bits. No program in sight. Conditions: none. -/
import Init.Data.Nat.Bitwise.Lemmas
namespace Go.Proofs.YtnkinnfpebploaaDoor.B

/-! ### numbers and bits -/
/-- the last k bits of a number, the greatest first -/
def bitsOf : Nat → Nat → List Nat
  | 0, _ => []
  | k + 1, n => n / 2 ^ k % 2 :: bitsOf k n
/-- what bits tell, behind a -/
def valF (a : Nat) : List Nat → Nat
  | [] => a
  | b :: l => valF (2 * a + b) l
def val (l : List Nat) : Nat := valF 0 l
/-- each is 0 or 1 -/
def Bin (l : List Nat) : Prop := ∀ b ∈ l, b < 2
theorem bitsOf_length (k n : Nat) : (bitsOf k n).length = k := by
  induction k with
  | zero => rfl
  | succ k ih => simp [bitsOf, ih]
theorem bitsOf_bin (k n : Nat) : Bin (bitsOf k n) := by
  induction k with
  | zero => intro b h; simp [bitsOf] at h
  | succ k ih =>
    intro b h
    simp only [bitsOf, List.mem_cons] at h
    rcases h with rfl | h
    · omega
    · exact ih b h
theorem Bin.nil : Bin [] := by intro b h; simp at h
theorem Bin.append {a b : List Nat} (h : Bin a) (k : Bin b) : Bin (a ++ b) := by
  intro x hx
  rw [List.mem_append] at hx
  rcases hx with hx | hx
  · exact h x hx
  · exact k x hx
theorem Bin.left {a b : List Nat} (h : Bin (a ++ b)) : Bin a := fun x hx => h x (by simp [hx])
theorem Bin.right {a b : List Nat} (h : Bin (a ++ b)) : Bin b := fun x hx => h x (by simp [hx])
theorem Bin.cons {x : Nat} {l : List Nat} (h : Bin (x :: l)) : x < 2 ∧ Bin l := ⟨h x (by simp), fun y hy => h y (by simp [hy])⟩
theorem Bin.mk {x : Nat} {l : List Nat} (h : x < 2) (k : Bin l) : Bin (x :: l) := by
  intro y hy
  simp only [List.mem_cons] at hy
  rcases hy with rfl | hy
  · exact h
  · exact k y hy
theorem Bin.replicate (n : Nat) : Bin (List.replicate n 0) := by
  intro x hx
  rw [List.mem_replicate] at hx
  omega
theorem Bin.take {l : List Nat} (h : Bin l) (n : Nat) : Bin (l.take n) := fun x hx => h x (List.mem_of_mem_take hx)
theorem Bin.drop {l : List Nat} (h : Bin l) (n : Nat) : Bin (l.drop n) := fun x hx => h x (List.mem_of_mem_drop hx)
theorem valF_append (a : Nat) (l m : List Nat) : valF a (l ++ m) = valF (valF a l) m := by
  induction l generalizing a with
  | nil => rfl
  | cons b l ih => exact ih _
theorem valF_eq (a : Nat) (l : List Nat) : valF a l = a * 2 ^ l.length + val l := by
  induction l generalizing a with
  | nil => simp [valF, val]
  | cons b l ih =>
    simp only [valF, val, List.length_cons]
    rw [ih, ih (2 * 0 + b), Nat.pow_succ, Nat.add_mul]
    have e1 : 2 * a * 2 ^ l.length = a * (2 ^ l.length * 2) := by rw [Nat.mul_comm 2 a, Nat.mul_assoc, Nat.mul_comm 2]
    have e2 : (2 * 0 + b) * 2 ^ l.length = b * 2 ^ l.length := by congr 1; omega
    omega
theorem val_lt {l : List Nat} (h : Bin l) : val l < 2 ^ l.length := by
  induction l with
  | nil => simp [val, valF]
  | cons b l ih =>
    obtain ⟨h1, h2⟩ := h.cons
    have := ih h2
    simp only [val, valF, List.length_cons]
    rw [valF_eq, Nat.pow_succ]
    have e2 : (2 * 0 + b) * 2 ^ l.length ≤ 1 * 2 ^ l.length := Nat.mul_le_mul_right _ (by omega)
    omega
theorem valF_snoc (a : Nat) (l : List Nat) (b : Nat) : valF a (l ++ [b]) = 2 * valF a l + b := by rw [valF_append]; rfl
theorem valF_bitsOf (a k n : Nat) : valF a (bitsOf k n) = a * 2 ^ k + n % 2 ^ k := by
  induction k generalizing a with
  | zero => simp [bitsOf, valF, Nat.mod_one]
  | succ k ih =>
    simp only [bitsOf, valF]
    rw [ih]
    have h1 : n % 2 ^ (k + 1) = n % 2 ^ k + 2 ^ k * (n / 2 ^ k % 2) := Nat.mod_mul
    rw [h1, Nat.pow_succ, Nat.add_mul]
    have e1 : 2 * a * 2 ^ k = a * (2 ^ k * 2) := by rw [Nat.mul_comm 2 a, Nat.mul_assoc, Nat.mul_comm 2]
    have e2 : n / 2 ^ k % 2 * 2 ^ k = 2 ^ k * (n / 2 ^ k % 2) := Nat.mul_comm _ _
    omega
theorem val_bitsOf (k n : Nat) : val (bitsOf k n) = n % 2 ^ k := by unfold val; rw [valF_bitsOf]; simp
theorem bitsOf_valF (l : List Nat) (h : Bin l) (a : Nat) : bitsOf l.length (valF a l) = l := by
  induction l generalizing a with
  | nil => rfl
  | cons b l ih =>
    obtain ⟨h1, h2⟩ := h.cons
    simp only [List.length_cons, bitsOf, valF]
    rw [ih h2]
    congr 1
    rw [valF_eq]
    have := val_lt h2
    rw [Nat.mul_comm, Nat.mul_add_div (Nat.two_pow_pos _), Nat.div_eq_of_lt this]
    omega
theorem bitsOf_val (l : List Nat) (h : Bin l) : bitsOf l.length (val l) = l := bitsOf_valF l h 0
theorem bitsOf_zero (k : Nat) : bitsOf k 0 = List.replicate k 0 := by
  induction k with
  | zero => rfl
  | succ k ih => simp [bitsOf, ih, List.replicate_succ]

/-! ### numbers of any size -/
/-- the bits of a number in pieces: f at most -/
def varF : Nat → Nat → List Nat
  | 0, _ => []
  | f + 1, n => if n < 32 then 0 :: bitsOf 5 n else 1 :: (bitsOf 5 (n % 32) ++ varF f (n / 32))
def varL (n : Nat) : List Nat := varF 13 n
/-- a number with its sign -/
def zig (n : Int) : Nat := if n < 0 then (-2 * n - 1).toNat else (2 * n).toNat
def zag (n : Nat) : Int := if n % 2 = 1 then -(((n + 1) / 2 : Nat) : Int) else ((n / 2 : Nat) : Int)
def intL (n : Int) : List Nat := varL (zig n)
theorem zag_zig (n : Int) : zag (zig n) = n := by
  unfold zag zig
  split <;> split <;> omega
theorem zig_zag (n : Nat) : zig (zag n) = n := by
  unfold zag zig
  split <;> split <;> omega
theorem zig_le {n : Int} (h1 : -1152921504606846976 ≤ n) (h2 : n ≤ 1152921504606846976) : zig n ≤ 2305843009213693952 := by
  unfold zig
  split <;> omega
theorem varF_bin (f n : Nat) : Bin (varF f n) := by
  induction f generalizing n with
  | zero => exact Bin.nil
  | succ f ih =>
    unfold varF
    split
    · exact Bin.mk (by omega) (bitsOf_bin _ _)
    · exact Bin.mk (by omega) ((bitsOf_bin _ _).append (ih _))
theorem varL_bin (n : Nat) : Bin (varL n) := varF_bin _ _
theorem intL_bin (n : Int) : Bin (intL n) := varL_bin _
theorem varF_more {f g n : Nat} (h : n < 32 ^ f) (hf : 0 < f) (hg : f ≤ g) : varF g n = varF f n := by
  induction f generalizing g n with
  | zero => omega
  | succ f ih =>
    obtain ⟨g, rfl⟩ : ∃ k, g = k + 1 := ⟨g - 1, by omega⟩
    unfold varF
    split
    · rfl
    · rename_i hn
      have h0 : 0 < f := by
        rcases Nat.eq_zero_or_pos f with rfl | h0
        · simp at h; omega
        · exact h0
      rw [ih (by rw [Nat.pow_succ] at h; omega) h0 (by omega)]
/-- how many pieces -/
def piecesF : Nat → Nat → Nat
  | 0, _ => 0
  | f + 1, n => if n < 32 then 1 else piecesF f (n / 32) + 1
theorem varF_length (f n : Nat) : (varF f n).length = 6 * piecesF f n := by
  induction f generalizing n with
  | zero => rfl
  | succ f ih =>
    unfold varF piecesF
    split
    · simp [bitsOf_length]
    · simp [bitsOf_length, ih]; omega
theorem piecesF_bd (f n : Nat) : piecesF f n ≤ f := by
  induction f generalizing n with
  | zero => exact Nat.le_refl _
  | succ f ih =>
    unfold piecesF
    split
    · omega
    · have := ih (n / 32); omega
def pieces (n : Nat) : Nat := piecesF 13 n
theorem varL_length (n : Nat) : (varL n).length = 6 * pieces n := varF_length _ _
theorem pieces_bd (n : Nat) : pieces n ≤ 13 := piecesF_bd _ _
theorem pieces_pos (n : Nat) : 1 ≤ pieces n := by unfold pieces piecesF; split <;> omega

theorem piecesF_more {f g n : Nat} (h : n < 32 ^ f) (hf : 0 < f) (hg : f ≤ g) : piecesF g n = piecesF f n := by
  have h1 := varF_length f n
  have h2 := varF_length g n
  rw [varF_more h hf hg] at h2
  omega
theorem varL_small {n : Nat} (h : n < 32) : varL n = 0 :: bitsOf 5 n := by unfold varL varF; rw [if_pos h]
theorem varL_big {n : Nat} (h : 32 ≤ n) (h2 : n < 32 ^ 13) : varL n = 1 :: (bitsOf 5 (n % 32) ++ varL (n / 32)) := by
  have e : varL (n / 32) = varF 12 (n / 32) := varF_more (by rw [Nat.pow_succ] at h2; omega) (by omega) (by omega)
  rw [e]
  unfold varL
  rw [varF, if_neg (by omega)]
theorem pieces_small {n : Nat} (h : n < 32) : pieces n = 1 := by unfold pieces piecesF; rw [if_pos h]
theorem pieces_big {n : Nat} (h : 32 ≤ n) (h2 : n < 32 ^ 13) : pieces n = pieces (n / 32) + 1 := by
  have e : pieces (n / 32) = piecesF 12 (n / 32) := piecesF_more (by rw [Nat.pow_succ] at h2; omega) (by omega) (by omega)
  rw [e]
  unfold pieces
  rw [piecesF, if_neg (by omega)]
/-- how many pieces what is left has -/
def restN (n : Nat) : Nat := if n = 0 then 0 else pieces n
theorem rest_step {n : Nat} (h0 : n ≠ 0) (h2 : n < 32 ^ 13) : restN n = restN (n / 32) + 1 := by
  unfold restN
  rw [if_neg h0]
  rcases Nat.lt_or_ge n 32 with h | h
  · rw [pieces_small h, if_pos (by omega)]
  · rw [pieces_big h h2, if_neg (by omega)]
theorem pieces_rest {n : Nat} (h2 : n < 32 ^ 13) : pieces n = restN (n / 32) + 1 := by
  rcases Nat.eq_zero_or_pos n with h0 | h0
  · subst h0; rfl
  · have := rest_step (by omega) h2
    rw [← this]
    unfold restN
    rw [if_neg (by omega)]

/-! ### bits and bytes -/
/-- eight bits, filled up with 0 -/
def byteAt (l : List Nat) (k : Nat) : Nat := val ((l.drop (8 * k)).take 8 ++ List.replicate (8 - ((l.drop (8 * k)).take 8).length) 0)
/-- how many bytes -/
def bytesOf (l : List Nat) : Nat := (l.length + 7) / 8
/-- bits as bytes -/
def pack (l : List Nat) : List Nat := (List.range (bytesOf l)).map (byteAt l)
/-- bytes' bits -/
def openL (l : List Nat) : List Nat := l.flatMap (bitsOf 8)
theorem pack_length (l : List Nat) : (pack l).length = bytesOf l := by simp [pack]
theorem pack_get {l : List Nat} {k : Nat} (h : k < bytesOf l) : (pack l)[k]? = some (byteAt l k) := by simp [pack, h]
theorem openL_length (l : List Nat) : (openL l).length = 8 * l.length := by
  induction l with
  | nil => rfl
  | cons b l ih =>
    have : openL (b :: l) = bitsOf 8 b ++ openL l := rfl
    rw [this, List.length_append, ih, bitsOf_length, List.length_cons]; omega
theorem openL_append (a b : List Nat) : openL (a ++ b) = openL a ++ openL b := by simp [openL]
theorem openL_bin (l : List Nat) : Bin (openL l) := by
  intro b hb
  simp only [openL, List.mem_flatMap] at hb
  obtain ⟨x, _, hx⟩ := hb
  exact bitsOf_bin _ _ b hx
theorem byteAt_lt {l : List Nat} (h : Bin l) (k : Nat) : byteAt l k < 256 := by
  unfold byteAt
  have hb : Bin ((l.drop (8 * k)).take 8 ++ List.replicate (8 - ((l.drop (8 * k)).take 8).length) 0) := ((h.drop _).take _).append (Bin.replicate _)
  have := val_lt hb
  have hl : ((l.drop (8 * k)).take 8 ++ List.replicate (8 - ((l.drop (8 * k)).take 8).length) 0).length = 8 := by simp; omega
  rw [hl] at this
  exact this
theorem pack_lt {l : List Nat} (h : Bin l) : ∀ b ∈ pack l, b < 256 := by
  intro b hb
  simp only [pack, List.mem_map] at hb
  obtain ⟨k, _, rfl⟩ := hb
  exact byteAt_lt h k
/-- bytes that are opened, and packed, are these bytes -/
theorem byteAt_open (l : List Nat) (h : ∀ b ∈ l, b < 256) (k : Nat) (hk : k < l.length) : byteAt (openL l) k = l[k]'hk := by
  induction l generalizing k with
  | nil => simp at hk
  | cons b l ih =>
    have e : openL (b :: l) = bitsOf 8 b ++ openL l := rfl
    cases k with
    | zero =>
      unfold byteAt
      have e2 : (openL (b :: l)).take 8 = bitsOf 8 b := by rw [e, List.take_append_of_le_length (by rw [bitsOf_length]; omega)]; rw [List.take_of_length_le (by rw [bitsOf_length]; omega)]
      simp only [Nat.mul_zero, List.drop_zero]
      rw [e2, bitsOf_length]
      simp only [Nat.sub_self, List.replicate_zero, List.append_nil, List.getElem_cons_zero]
      rw [val_bitsOf]
      have := h b (by simp)
      omega
    | succ k =>
      have hd : (openL (b :: l)).drop (8 * (k + 1)) = (openL l).drop (8 * k) := by
        rw [e, show 8 * (k + 1) = 8 + 8 * k from by omega, ← List.drop_drop, List.drop_append_of_le_length (by rw [bitsOf_length]; omega)]
        congr 1
      have : byteAt (openL (b :: l)) (k + 1) = byteAt (openL l) k := by unfold byteAt; rw [hd]
      rw [this, ih (fun x hx => h x (by simp [hx])) k (by simpa using hk)]
      simp
theorem pack_open (l : List Nat) (h : ∀ b ∈ l, b < 256) : pack (openL l) = l := by
  have hn : bytesOf (openL l) = l.length := by unfold bytesOf; rw [openL_length]; omega
  apply List.ext_getElem
  · rw [pack_length, hn]
  · intro i h1 h2
    simp only [pack, List.getElem_map, List.getElem_range]
    exact byteAt_open l h i h2
theorem openL_take (l : List Nat) (k : Nat) : openL (l.take k) = (openL l).take (8 * k) := by
  induction l generalizing k with
  | nil => simp [openL]
  | cons b l ih =>
    have e : openL (b :: l) = bitsOf 8 b ++ openL l := rfl
    cases k with
    | zero => simp [openL]
    | succ k =>
      rw [List.take_succ_cons, show openL (b :: l.take k) = bitsOf 8 b ++ openL (l.take k) from rfl, ih, e, List.take_append, bitsOf_length, List.take_of_length_le (l := bitsOf 8 b) (by rw [bitsOf_length]; omega), show 8 * (k + 1) - 8 = 8 * k from by omega]
/-- the bits of bits as bytes: filled up with 0 -/
theorem open_pack {l : List Nat} (h : Bin l) : openL (pack l) = l ++ List.replicate (8 * bytesOf l - l.length) 0 := by
  have key : ∀ n, n ≤ bytesOf l → openL ((List.range n).map (byteAt l)) = (l ++ List.replicate (8 * bytesOf l - l.length) 0).take (8 * n) := by
    intro n
    induction n with
    | zero => intro _; simp [openL]
    | succ n ih =>
      intro hn
      have hb : n < (l.length + 7) / 8 := hn
      rw [List.range_succ, List.map_append, openL_append, ih (by omega)]
      simp only [List.map_cons, List.map_nil]
      have e1 : openL [byteAt l n] = bitsOf 8 (byteAt l n) := by simp [openL]
      rw [e1, show 8 * (n + 1) = 8 * n + 8 from by omega, List.take_add]
      congr 1
      have hw : 8 * bytesOf l = 8 * ((l.length + 7) / 8) := rfl
      have e2 : ((l ++ List.replicate (8 * bytesOf l - l.length) 0).drop (8 * n)).take 8 = (l.drop (8 * n)).take 8 ++ List.replicate (8 - ((l.drop (8 * n)).take 8).length) 0 := by
        rw [List.drop_append, List.take_append, List.drop_replicate, List.take_replicate]
        congr 2
        simp only [List.length_take, List.length_drop]
        omega
      rw [e2]
      unfold byteAt
      have hl : ((l.drop (8 * n)).take 8 ++ List.replicate (8 - ((l.drop (8 * n)).take 8).length) 0).length = 8 := by simp; omega
      have := bitsOf_val _ (((h.drop (8 * n)).take 8).append (Bin.replicate (8 - ((l.drop (8 * n)).take 8).length)))
      rw [hl] at this
      exact this
  have := key (bytesOf l) (Nat.le_refl _)
  unfold pack
  rw [this, List.take_of_length_le]
  rw [List.length_append, List.length_replicate]
  have : 8 * bytesOf l = 8 * ((l.length + 7) / 8) := rfl
  omega

theorem bitsOf_get (k n r : Nat) (h : r < k) : (bitsOf k n)[r]? = some (n / 2 ^ (k - 1 - r) % 2) := by
  induction k generalizing r with
  | zero => omega
  | succ k ih =>
    cases r with
    | zero => simp [bitsOf]
    | succ r =>
      simp only [bitsOf, List.getElem?_cons_succ]
      rw [ih r (by omega), show k + 1 - 1 - (r + 1) = k - 1 - r by omega]
theorem openL_get (l : List Nat) (q r x : Nat) (hx : l[q]? = some x) (hr : r < 8) : (openL l)[8 * q + r]? = some (x / 2 ^ (7 - r) % 2) := by
  induction l generalizing q with
  | nil => simp at hx
  | cons b l ih =>
    have e : openL (b :: l) = bitsOf 8 b ++ openL l := rfl
    rw [e]
    cases q with
    | zero =>
      simp only [List.getElem?_cons_zero, Option.some.injEq] at hx
      subst hx
      rw [List.getElem?_append_left (by rw [bitsOf_length]; omega), show 8 * 0 + r = r by omega, bitsOf_get 8 b r hr]
    | succ q =>
      simp only [List.getElem?_cons_succ] at hx
      rw [List.getElem?_append_right (by rw [bitsOf_length]; omega), bitsOf_length, show 8 * (q + 1) + r - 8 = 8 * q + r by omega]
      exact ih q hx
/-- what so many bits from a place on tell -/
def getV (T : List Nat) (a k : Nat) : Nat := val ((T.drop a).take k)
theorem getV_zero (T : List Nat) (a : Nat) : getV T a 0 = 0 := by simp [getV, val, valF]
theorem getV_succ {T : List Nat} {a k b : Nat} (h : T[a + k]? = some b) : getV T a (k + 1) = 2 * getV T a k + b := by
  unfold getV val
  have e : (T.drop a).take (k + 1) = (T.drop a).take k ++ [b] := by
    rw [List.take_add_one, List.getElem?_drop, h]
    rfl
  rw [e, valF_snoc]
theorem getV_lt {T : List Nat} (h : Bin T) (a k : Nat) : getV T a k < 2 ^ k := by
  have h1 := val_lt ((h.drop a).take k)
  have h2 : ((T.drop a).take k).length ≤ k := by simp; omega
  exact Nat.lt_of_lt_of_le h1 (Nat.pow_le_pow_right (by omega) h2)
/-! ### what is read -/
/-- 6.2's Var from a place on: the number and the place behind it, or what is wrong -/
def varR (T : List Nat) : Nat → Nat → Nat → Nat → Except Int (Nat × Nat)
  | 0, _, _, _ => .error 3
  | f + 1, i, n, a =>
    if T.length < a + 6 then .error 8
    else
      let p := getV T a 6
      if i = 12 ∧ 3 < p ∨ 0 < i ∧ p = 0 then .error 3
      else if p < 32 then .ok (n + p % 32 * 2 ^ (5 * i), a + 6) else varR T f (i + 1) (n + p % 32 * 2 ^ (5 * i)) (a + 6)
theorem varR_bd (i m c : Nat) (h : m < 2 ^ (5 * i)) : m + c % 32 * 2 ^ (5 * i) < 2 ^ (5 * (i + 1)) := by
  have e : 5 * (i + 1) = 5 * i + 5 := by omega
  rw [e, Nat.pow_add]
  have h6 : c % 32 * 2 ^ (5 * i) ≤ 31 * 2 ^ (5 * i) := Nat.mul_le_mul_right _ (by omega)
  omega
def varG (T : List Nat) (a : Nat) : Except Int (Nat × Nat) := varR T 13 0 0 a
def intG (T : List Nat) (a : Nat) : Except Int (Int × Nat) :=
  match varG T a with
  | .error e => .error e
  | .ok (n, a') => if 2305843009213693952 < n then .error 3 else .ok (zag n, a')
/-! ### one bit more -/
theorem byteAt_snoc_old (l : List Nat) (b k : Nat) (h : k ≠ l.length / 8) : byteAt (l ++ [b]) k = byteAt l k := by
  unfold byteAt
  have : ((l ++ [b]).drop (8 * k)).take 8 = (l.drop (8 * k)).take 8 := by
    rcases Nat.lt_or_ge l.length (8 * k) with h1 | h1
    · rw [List.drop_of_length_le (by simp; omega), List.drop_of_length_le (by omega)]
    · rw [List.drop_append_of_le_length h1, List.take_append_of_le_length (by simp; omega)]
  rw [this]
theorem byteAt_end (l : List Nat) (k : Nat) (h : l.length ≤ 8 * k) : byteAt l k = 0 := by
  unfold byteAt
  rw [List.drop_of_length_le h]
  decide
theorem valF_replicate (a n : Nat) : valF a (List.replicate n 0) = a * 2 ^ n := by rw [← bitsOf_zero, valF_bitsOf]; simp
/-- the byte where the next bit goes: there is 0 yet from there on -/
theorem byteAt_snoc (l : List Nat) (b : Nat) : byteAt (l ++ [b]) (l.length / 8) = byteAt l (l.length / 8) + b * 2 ^ (7 - l.length % 8) ∧ byteAt l (l.length / 8) % 2 ^ (8 - l.length % 8) = 0 := by
  have h1 : 8 * (l.length / 8) ≤ l.length := by omega
  have hm : ((l.drop (8 * (l.length / 8))).take 8) = l.drop (8 * (l.length / 8)) := List.take_of_length_le (by simp; omega)
  have hl : (l.drop (8 * (l.length / 8))).length = l.length % 8 := by simp; omega
  unfold byteAt
  rw [List.drop_append_of_le_length h1, hm]
  have hm2 : (l.drop (8 * (l.length / 8)) ++ [b]).take 8 = l.drop (8 * (l.length / 8)) ++ [b] := List.take_of_length_le (by rw [List.length_append, hl]; simp; omega)
  rw [hm2]
  generalize l.drop (8 * (l.length / 8)) = x at *
  simp only [List.length_append, List.length_cons, List.length_nil, hl]
  unfold val
  rw [List.append_assoc, valF_append, valF_append, valF_append, valF_replicate, valF_replicate]
  simp only [valF]
  have e : 8 - l.length % 8 = 7 - l.length % 8 + 1 := by omega
  rw [show 8 - (l.length % 8 + (0 + 1)) = 7 - l.length % 8 by omega, e, Nat.pow_succ]
  refine ⟨?_, Nat.mul_mod_left _ _⟩
  rw [Nat.add_mul]
  congr 1
  rw [Nat.mul_comm 2, Nat.mul_assoc, Nat.mul_comm 2]
/-- j bits from i on, filled up with 0 -/
def pv (L : List Nat) (i : Nat) : Nat → Nat
  | 0 => 0
  | j + 1 => 2 * pv L i j + (L[i + j]?).getD 0
theorem pv_in {L : List Nat} {i j x : Nat} (h : L[i + j]? = some x) : pv L i (j + 1) = 2 * pv L i j + x := by simp [pv, h]
theorem pv_out {L : List Nat} {i j : Nat} (h : L.length ≤ i + j) : pv L i (j + 1) = 2 * pv L i j := by simp [pv, List.getElem?_eq_none h]
theorem pv_lt {L : List Nat} (h : Bin L) (i j : Nat) : pv L i j < 2 ^ j := by
  induction j with
  | zero => simp [pv]
  | succ j ih =>
    rcases Nat.lt_or_ge (i + j) L.length with hl | hl
    · rw [pv_in (List.getElem?_eq_getElem hl), Nat.pow_succ]
      have := h _ (List.getElem_mem hl)
      omega
    · rw [pv_out hl, Nat.pow_succ]; omega
theorem pv_val (L : List Nat) (i j : Nat) : pv L i j = val ((L.drop i).take j ++ List.replicate (j - ((L.drop i).take j).length) 0) := by
  induction j with
  | zero => simp [pv, val, valF]
  | succ j ih =>
    rcases Nat.lt_or_ge (i + j) L.length with hl | hl
    · rw [pv_in (List.getElem?_eq_getElem hl), ih]
      have e1 : ((L.drop i).take j).length = j := by simp; omega
      have e2 : (L.drop i).take (j + 1) = (L.drop i).take j ++ [L[i + j]] := by rw [List.take_add_one, List.getElem?_drop, List.getElem?_eq_getElem hl]; rfl
      rw [e2, List.length_append, e1]
      simp only [List.length_cons, List.length_nil, Nat.sub_self, List.replicate_zero, List.append_nil, Nat.zero_add]
      unfold val
      rw [valF_snoc]
    · rw [pv_out hl, ih]
      have e2 : (L.drop i).take (j + 1) = (L.drop i).take j := by
        rw [List.take_add_one, List.getElem?_drop, List.getElem?_eq_none hl]; simp
      have e1 : ((L.drop i).take j).length ≤ j := by simp; omega
      rw [e2, show j + 1 - ((L.drop i).take j).length = (j - ((L.drop i).take j).length) + 1 by omega, List.replicate_succ', ← List.append_assoc]
      unfold val
      rw [valF_snoc]
      rfl
theorem pv_byte (L : List Nat) (k : Nat) : pv L (8 * k) 8 = byteAt L k := pv_val L (8 * k) 8
theorem pack_take_succ {L : List Nat} {k : Nat} (h : k < bytesOf L) : (pack L).take (k + 1) = (pack L).take k ++ [byteAt L k] := by
  rw [List.take_add_one, pack_get h]; rfl
theorem bytesOf_snoc (l : List Nat) (b : Nat) : bytesOf (l ++ [b]) = if l.length % 8 = 0 then bytesOf l + 1 else bytesOf l := by
  unfold bytesOf
  simp only [List.length_append, List.length_cons, List.length_nil]
  split <;> omega
end Go.Proofs.YtnkinnfpebploaaDoor.B
