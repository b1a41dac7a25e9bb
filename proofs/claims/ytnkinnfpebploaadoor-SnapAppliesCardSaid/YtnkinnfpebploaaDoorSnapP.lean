/- Plain: views as rows of 11 numbers, and the bits of what changes from one to another one. No program in sight. Conditions: none. -/
import Derived.Test.YtnkinnfpebploaaDoorBitsP
namespace Go.Proofs.YtnkinnfpebploaaDoor
open B
/-- within 2^40 -/
def In40 (n : Int) : Prop := -1099511627776 ≤ n ∧ n ≤ 1099511627776
instance (n : Int) : Decidable (In40 n) := inferInstanceAs (Decidable (_ ∧ _))
/-- the number ahead of row i -/
def prevId (M : Nat → Nat → Int) : Nat → Int
  | 0 => 0
  | i + 1 => M i 0
/-- row i may be, behind that number -/
def RightRow (M : Nat → Nat → Int) (i : Nat) (last : Int) : Prop := (last < M i 0 ∧ M i 0 ≤ 1099511627776 ∧ 0 ≤ M i 1 ∧ M i 1 ≤ 7) ∧ ∀ j, 2 ≤ j → j < 11 → In40 (M i j)
/-- a view may be -/
def RightV (n : Nat) (M : Nat → Nat → Int) : Prop := (∀ i, i < n → RightRow M i (prevId M i)) ∧ n ≤ 60
theorem RightV.row {n : Nat} {M : Nat → Nat → Int} (h : RightV n M) {i : Nat} (hi : i < n) : RightRow M i (prevId M i) := h.1 i hi
theorem RightV.ids {n : Nat} {M : Nat → Nat → Int} (h : RightV n M) {i k : Nat} (hik : i < k) (hk : k < n) : M i 0 < M k 0 := by
  induction k with
  | zero => omega
  | succ k ih =>
    have h1 := (h.row hk).1.1
    simp only [prevId] at h1
    rcases Nat.lt_or_ge i k with hl | hl
    · have := ih hl (by omega); omega
    · have : i = k := by omega
      subst this; exact h1
theorem RightV.pos {n : Nat} {M : Nat → Nat → Int} (h : RightV n M) {i : Nat} (hi : i < n) : 1 ≤ M i 0 := by
  cases i with
  | zero => have := (h.row hi).1.1; simp only [prevId] at this; omega
  | succ i =>
    have h1 := (h.row (i := 0) (by omega)).1.1
    have h2 := h.ids (i := 0) (k := i + 1) (by omega) hi
    simp only [prevId] at h1
    omega
theorem RightV.top {n : Nat} {M : Nat → Nat → Int} (h : RightV n M) {i : Nat} (hi : i < n) : M i 0 ≤ 1099511627776 := (h.row hi).1.2.1
/-- the bits of three numbers -/
def vec3L (x y z : Int) : List Nat := intL x ++ intL y ++ intL z
/-- of a row's three numbers from j on, less another row's -/
def vecD (M1 : Nat → Nat → Int) (i : Nat) (M2 : Nat → Nat → Int) (k j : Nat) : List Nat := vec3L (M2 k j - M1 i j) (M2 k (j + 1) - M1 i (j + 1)) (M2 k (j + 2) - M1 i (j + 2))
def headL (what : Nat) (id last : Int) : List Nat := bitsOf 2 what ++ varL (id - last - 1).toNat
def newL (M : Nat → Nat → Int) (k : Nat) : List Nat := bitsOf 3 (M k 1).toNat ++ vec3L (M k 2) (M k 3) (M k 4) ++ vec3L (M k 5) (M k 6) (M k 7) ++ vec3L (M k 8) (M k 9) (M k 10)
/-- whether three numbers from j on are others -/
def ne3 (M1 : Nat → Nat → Int) (i : Nat) (M2 : Nat → Nat → Int) (k j : Nat) : Bool := !(M1 i j == M2 k j && M1 i (j + 1) == M2 k (j + 1) && M1 i (j + 2) == M2 k (j + 2))
def neS (M1 : Nat → Nat → Int) (i : Nat) (M2 : Nat → Nat → Int) (k : Nat) : Bool := ne3 M1 i M2 k 2 || !(M1 i 1 == M2 k 1)
def bit (b : Bool) : List Nat := bitsOf 1 (if b then 1 else 0)
def changeL (M1 : Nat → Nat → Int) (i : Nat) (M2 : Nat → Nat → Int) (k : Nat) : List Nat :=
  bit (neS M1 i M2 k) ++ bit (ne3 M1 i M2 k 5) ++ bit (ne3 M1 i M2 k 8) ++
  (if neS M1 i M2 k then bitsOf 3 (M2 k 1).toNat ++ vecD M1 i M2 k 2 else []) ++ (if ne3 M1 i M2 k 5 then vecD M1 i M2 k 5 else []) ++ (if ne3 M1 i M2 k 8 then vecD M1 i M2 k 8 else [])
/-- two rows of one number are the same -/
def same11 (M1 : Nat → Nat → Int) (i : Nat) (M2 : Nat → Nat → Int) (k : Nat) : Bool := !(neS M1 i M2 k) && !(ne3 M1 i M2 k 5) && !(ne3 M1 i M2 k 8)
section
variable (M1 : Nat → Nat → Int) (n1 : Nat) (M2 : Nat → Nat → Int) (n2 : Nat)
/-- the first of the two views is next, alone -/
def Gone (i k : Nat) : Prop := i < n1 ∧ (k < n2 → M1 i 0 < M2 k 0)
def Came (i k : Nat) : Prop := k < n2 ∧ (i < n1 → M2 k 0 < M1 i 0)
instance (i k : Nat) : Decidable (Gone M1 n1 M2 n2 i k) := inferInstanceAs (Decidable (_ ∧ _))
instance (i k : Nat) : Decidable (Came M1 n1 M2 n2 i k) := inferInstanceAs (Decidable (_ ∧ _))
/-- the bits from row i and row k on; last: the number that was told last -/
def restF : Nat → Nat → Nat → Int → List Nat
  | 0, _, _, _ => bitsOf 2 3
  | f + 1, i, k, last =>
    if i < n1 ∨ k < n2 then
      if Gone M1 n1 M2 n2 i k then headL 0 (M1 i 0) last ++ restF f (i + 1) k (M1 i 0)
      else if Came M1 n1 M2 n2 i k then headL 1 (M2 k 0) last ++ newL M2 k ++ restF f i (k + 1) (M2 k 0)
      else if same11 M1 i M2 k then restF f (i + 1) (k + 1) last
      else headL 2 (M2 k 0) last ++ changeL M1 i M2 k ++ restF f (i + 1) (k + 1) (M2 k 0)
    else bitsOf 2 3
def deltaL : List Nat := restF M1 n1 M2 n2 (n1 + n2) 0 0 0
/-- all numbers, rising -/
def idsF : Nat → Nat → Nat → List Int
  | 0, _, _ => []
  | f + 1, i, k =>
    if i < n1 ∨ k < n2 then
      if Gone M1 n1 M2 n2 i k then M1 i 0 :: idsF f (i + 1) k
      else if Came M1 n1 M2 n2 i k then M2 k 0 :: idsF f i (k + 1)
      else M1 i 0 :: idsF f (i + 1) (k + 1)
    else []
end
/-- the first row from k on, of f rows, that begins with x -/
def rowF (M : Nat → Nat → Int) (x : Int) (k : Nat) : Nat → Option Nat
  | 0 => none
  | f + 1 => if M k 0 = x then some k else rowF M x (k + 1) f
def rowOf (M : Nat → Nat → Int) (n : Nat) (x : Int) : Option Nat := rowF M x 0 n
theorem rowF_some {M : Nat → Nat → Int} {x : Int} : ∀ {f k i : Nat}, rowF M x k f = some i → M i 0 = x ∧ k ≤ i ∧ i < k + f := by
  intro f
  induction f with
  | zero => intro k i h; cases h
  | succ f ih =>
    intro k i h
    unfold rowF at h
    by_cases e : M k 0 = x
    · rw [if_pos e] at h; cases h; exact ⟨e, by omega, by omega⟩
    · rw [if_neg e] at h
      obtain ⟨a, b, c⟩ := ih h
      exact ⟨a, by omega, by omega⟩
theorem rowF_none {M : Nat → Nat → Int} {x : Int} : ∀ {f k : Nat}, rowF M x k f = none → ∀ i, k ≤ i → i < k + f → M i 0 ≠ x := by
  intro f
  induction f with
  | zero => intro k _ i h1 h2; omega
  | succ f ih =>
    intro k h i h1 h2
    unfold rowF at h
    by_cases e : M k 0 = x
    · rw [if_pos e] at h; cases h
    · rw [if_neg e] at h
      rcases Nat.lt_or_ge k i with hl | hl
      · exact ih h i hl (by omega)
      · have : i = k := by omega
        subst this; exact e
theorem rowOf_yes {M : Nat → Nat → Int} {n i : Nat} (hi : i < n) (hn : ∀ a, a < i → M a 0 ≠ M i 0) : rowOf M n (M i 0) = some i := by
  cases h : rowOf M n (M i 0) with
  | none => exact absurd rfl (rowF_none h i (by omega) (by omega))
  | some k =>
    obtain ⟨h1, _, h3⟩ := rowF_some h
    have : ¬ k < i := fun hl => hn k hl h1
    rcases Nat.lt_or_ge i k with hl | hl
    · exfalso
      -- the first one is i
      clear this
      have key : ∀ {f k0 : Nat}, rowF M (M i 0) k0 f = some k → k0 ≤ i → k ≤ i := by
        intro f
        induction f with
        | zero => intro k0 h _; cases h
        | succ f ih =>
          intro k0 h h0
          unfold rowF at h
          by_cases e : M k0 0 = M i 0
          · rw [if_pos e] at h; cases h; exact h0
          · rw [if_neg e] at h
            rcases Nat.lt_or_ge k0 i with hl2 | hl2
            · exact ih h hl2
            · have : k0 = i := by omega
              subst this; exact absurd rfl e
      have := key h (by omega)
      omega
    · have : k = i := by omega
      rw [this]
theorem rowOf_no {M : Nat → Nat → Int} {n : Nat} {x : Int} (hn : ∀ a, a < n → M a 0 ≠ x) : rowOf M n x = none := by
  cases h : rowOf M n x with
  | none => rfl
  | some k =>
    obtain ⟨h1, _, h3⟩ := rowF_some h
    exact absurd h1 (hn k (by omega))
section
variable (M1 : Nat → Nat → Int) (n1 : Nat) (M2 : Nat → Nat → Int) (n2 : Nat)
/-- the document's: number by number -/
def restR : List Int → Int → List Nat
  | [], _ => bitsOf 2 3
  | x :: l, last =>
    match rowOf M1 n1 x, rowOf M2 n2 x with
    | _, none => headL 0 x last ++ restR l x
    | none, some k => headL 1 x last ++ newL M2 k ++ restR l x
    | some i, some k => if same11 M1 i M2 k then restR l last else headL 2 x last ++ changeL M1 i M2 k ++ restR l x
end
section
variable {M1 : Nat → Nat → Int} {n1 : Nat} {M2 : Nat → Nat → Int} {n2 : Nat}
theorem rest_eq (h1 : ∀ i k, i < k → k < n1 → M1 i 0 < M1 k 0) (h2 : ∀ i k, i < k → k < n2 → M2 i 0 < M2 k 0) :
    ∀ (f i k : Nat) (last : Int), i ≤ n1 → k ≤ n2 → (i < n1 → ∀ a, a < k → M2 a 0 < M1 i 0) → (k < n2 → ∀ a, a < i → M1 a 0 < M2 k 0) →
      restR M1 n1 M2 n2 (idsF M1 n1 M2 n2 f i k) last = restF M1 n1 M2 n2 f i k last := by
  intro f
  induction f with
  | zero => intros; rfl
  | succ f ih =>
    intro i k last hi hk ha hb
    unfold idsF restF
    by_cases hc : i < n1 ∨ k < n2
    · rw [if_pos hc, if_pos hc]
      by_cases hg : Gone M1 n1 M2 n2 i k
      · rw [if_pos hg, if_pos hg]
        obtain ⟨hi1, hg2⟩ := hg
        have e1 : rowOf M1 n1 (M1 i 0) = some i := rowOf_yes hi1 fun a h => by have := h1 a i h hi1; omega
        have e2 : rowOf M2 n2 (M1 i 0) = none := rowOf_no fun a h => by
          rcases Nat.lt_or_ge a k with hl | hl
          · have := ha hi1 a hl; omega
          · have hkn : k < n2 := by omega
            have h3 := hg2 hkn
            rcases Nat.lt_or_ge k a with hl2 | hl2
            · have := h2 k a hl2 h; omega
            · have : a = k := by omega
              subst this; omega
        rw [restR, e1, e2]
        simp only []
        rw [ih (i + 1) k (M1 i 0) (by omega) hk (fun h a hl => by have h3 := ha hi1 a hl; have h4 := h1 i (i + 1) (by omega) h; omega) (fun h a hl => by
          rcases Nat.lt_or_ge a i with hl2 | hl2
          · exact hb h a hl2
          · have : a = i := by omega
            subst this; exact hg2 h)]
      · rw [if_neg hg, if_neg hg]
        by_cases hm : Came M1 n1 M2 n2 i k
        · rw [if_pos hm, if_pos hm]
          obtain ⟨hk1, hm2⟩ := hm
          have e2 : rowOf M2 n2 (M2 k 0) = some k := rowOf_yes hk1 fun a h => by have := h2 a k h hk1; omega
          have e1 : rowOf M1 n1 (M2 k 0) = none := rowOf_no fun a h => by
            rcases Nat.lt_or_ge a i with hl | hl
            · have := hb hk1 a hl; omega
            · have hin : i < n1 := by omega
              have h3 := hm2 hin
              rcases Nat.lt_or_ge i a with hl2 | hl2
              · have := h1 i a hl2 h; omega
              · have : a = i := by omega
                subst this; omega
          rw [restR, e1, e2]
          simp only []
          rw [ih i (k + 1) (M2 k 0) hi (by omega) (fun h a hl => by
            rcases Nat.lt_or_ge a k with hl2 | hl2
            · exact ha h a hl2
            · have : a = k := by omega
              subst this; exact hm2 h) (fun h a hl => by have h3 := hb hk1 a hl; have h4 := h2 k (k + 1) (by omega) h; omega)]
        · rw [if_neg hm, if_neg hm]
          have hi1 : i < n1 := by
            rcases Nat.lt_or_ge i n1 with h | h
            · exact h
            · exact absurd ⟨by omega, fun h' => by omega⟩ hm
          have hk1 : k < n2 := by
            rcases Nat.lt_or_ge k n2 with h | h
            · exact h
            · exact absurd ⟨by omega, fun h' => by omega⟩ hg
          have he : M1 i 0 = M2 k 0 := by
            have a1 : ¬ M1 i 0 < M2 k 0 := fun h => hg ⟨hi1, fun _ => h⟩
            have a2 : ¬ M2 k 0 < M1 i 0 := fun h => hm ⟨hk1, fun _ => h⟩
            omega
          have e1 : rowOf M1 n1 (M1 i 0) = some i := rowOf_yes hi1 fun a h => by have := h1 a i h hi1; omega
          have e2 : rowOf M2 n2 (M1 i 0) = some k := by rw [he]; exact rowOf_yes hk1 fun a h => by have := h2 a k h hk1; omega
          have hn1 : i + 1 < n1 → ∀ a, a < k + 1 → M2 a 0 < M1 (i + 1) 0 := fun h a hl => by
            have h4 := h1 i (i + 1) (by omega) h
            rcases Nat.lt_or_ge a k with hl2 | hl2
            · have := ha hi1 a hl2; omega
            · have : a = k := by omega
              subst this; omega
          have hn2 : k + 1 < n2 → ∀ a, a < i + 1 → M1 a 0 < M2 (k + 1) 0 := fun h a hl => by
            have h4 := h2 k (k + 1) (by omega) h
            rcases Nat.lt_or_ge a i with hl2 | hl2
            · have := hb hk1 a hl2; omega
            · have : a = i := by omega
              subst this; omega
          rw [restR, e1, e2]
          simp only []
          by_cases hs : same11 M1 i M2 k = true
          · rw [if_pos hs, if_pos hs, ih (i + 1) (k + 1) last (by omega) (by omega) hn1 hn2]
          · rw [if_neg hs, if_neg hs, ih (i + 1) (k + 1) (M1 i 0) (by omega) (by omega) hn1 hn2, he]
    · rw [if_neg hc, if_neg hc]; rfl
theorem deltaL_ids (h1 : RightV n1 M1) (h2 : RightV n2 M2) : restR M1 n1 M2 n2 (idsF M1 n1 M2 n2 (n1 + n2) 0 0) 0 = deltaL M1 n1 M2 n2 :=
  rest_eq (fun _ _ a b => h1.ids a b) (fun _ _ a b => h2.ids a b) _ 0 0 0 (by omega) (by omega) (fun _ a h => by omega) (fun _ a h => by omega)
end
end Go.Proofs.YtnkinnfpebploaaDoor
