/- What the reader's calls give, each as one function of where it is. Conditions: none. -/
import Derived.Test.YtnkinnfpebploaaDoorBits3
import Derived.Test.YtnkinnfpebploaaDoorErr
namespace Go.Proofs.YtnkinnfpebploaaDoor
open Go.ChangeShapes Go.WideShapes Go.ChangeAt Go.RowKit Go.BigFrame
open B
/-- the number (0 with an error), the error's number, and the place behind -/
def varD (T : List Nat) (a : Nat) : Int × Int × Nat := match varG T a with | .error x => (0, x, a) | .ok (n, a') => ((n : Int), 0, a')
def intD (T : List Nat) (a : Nat) : Int × Int × Nat := match intG T a with | .error x => (0, x, a) | .ok (n, a') => (n, 0, a')
def getD (T : List Nat) (a : Nat) (k : Int) : Int × Int × Nat := if k < 0 ∨ 62 < k then (0, 2, a) else if T.length < a + k.toNat then (0, 8, a) else ((getV T a k.toNat : Int), 0, a + k.toNat)
theorem varD_err {T : List Nat} {a : Nat} {x : Int} (h : varG T a = .error x) : varD T a = (0, x, a) := by unfold varD; rw [h]
theorem varD_ok {T : List Nat} {a n b : Nat} (h : varG T a = .ok (n, b)) : varD T a = ((n : Int), 0, b) := by unfold varD; rw [h]
theorem intD_err {T : List Nat} {a : Nat} {x : Int} (h : intG T a = .error x) : intD T a = (0, x, a) := by unfold intD; rw [h]
theorem intD_ok {T : List Nat} {a b : Nat} {n : Int} (h : intG T a = .ok (n, b)) : intD T a = (n, 0, b) := by unfold intD; rw [h]
theorem varR_err {T : List Nat} : ∀ (f i n a : Nat) (x : Int), varR T f i n a = .error x → x = 3 ∨ x = 8 := by
  intro f
  induction f with
  | zero => intro i n a x h; unfold varR at h; left; exact (Except.error.inj h).symm
  | succ f ih =>
    intro i n a x h
    unfold varR at h
    split at h
    · right; exact (Except.error.inj h).symm
    · simp only at h
      split at h
      · left; exact (Except.error.inj h).symm
      · split at h
        · cases h
        · exact ih _ _ _ _ h
theorem varG_err {T : List Nat} {a : Nat} {x : Int} (h : varG T a = .error x) : x = 3 ∨ x = 8 := varR_err _ _ _ _ _ h
theorem intG_err {T : List Nat} {a : Nat} {x : Int} (h : intG T a = .error x) : x = 3 ∨ x = 8 := by
  unfold intG at h
  split at h
  · rename_i e; cases h; exact varG_err e
  · split at h
    · left; exact (Except.error.inj h).symm
    · cases h
theorem varR_nat {T : List Nat} : ∀ (f i n a : Nat) (m b : Nat), varR T f i n a = .ok (m, b) → a ≤ b ∧ b ≤ T.length := by
  intro f
  induction f with
  | zero => intro i n a m b h; unfold varR at h; cases h
  | succ f ih =>
    intro i n a m b h
    unfold varR at h
    split at h
    · cases h
    · simp only at h
      split at h
      · cases h
      · split at h
        · cases h; omega
        · have := ih _ _ _ _ _ h; omega
/-- the errors -/
theorem varD_e (T : List Nat) (a : Nat) : (varD T a).2.1 = 0 ∨ (varD T a).2.1 = 3 ∨ (varD T a).2.1 = 8 := by
  unfold varD
  cases h : varG T a with
  | error x => exact .inr (varG_err h)
  | ok p => exact .inl rfl
theorem intD_e (T : List Nat) (a : Nat) : (intD T a).2.1 = 0 ∨ (intD T a).2.1 = 3 ∨ (intD T a).2.1 = 8 := by
  unfold intD
  cases h : intG T a with
  | error x => exact .inr (intG_err h)
  | ok p => exact .inl rfl
theorem getD_e (T : List Nat) (a : Nat) (k : Int) : (getD T a k).2.1 = 0 ∨ (getD T a k).2.1 = 2 ∨ (getD T a k).2.1 = 8 := by
  unfold getD
  split
  · exact .inr (.inl rfl)
  · split
    · exact .inr (.inr rfl)
    · exact .inl rfl
/-- what a call of the reader leaves -/
def RDet (base p : Nat) (v : Value) (l : List Nat) (r : Int × Int × Nat) (w : World) (e : Ending) (w' : World) : Prop :=
  e = .returned (.tuple #[.int .i64 r.1, errV r.2.1]) ∧ Rd w' base p v l r.2.2 ∧ Mod (· = p) w w'
theorem varD_c (base p a : Nat) (v : Value) (l : List Nat) (w : World) (h : Rd w base p v l a) : Calls Tryd.prog 41 #[.pointer (some ⟨p, 0, none⟩)] w (RDet base p v l (varD (openL l) a) w) := by
  refine (rvar_c base p a v l w h).mono fun e w' h => ?_
  unfold VarPost at h
  unfold RDet varD
  cases hv : varG (openL l) a with
  | error x =>
    rw [hv] at h
    refine ⟨?_, h.2⟩
    rw [h.1]
    simp only
    rw [errV_n (by rcases varG_err hv with e | e <;> omega)]
  | ok q => rw [hv] at h; exact h
theorem intD_c (base p a : Nat) (v : Value) (l : List Nat) (w : World) (h : Rd w base p v l a) : Calls Tryd.prog 43 #[.pointer (some ⟨p, 0, none⟩)] w (RDet base p v l (intD (openL l) a) w) := by
  refine (rint_c base p a v l w h).mono fun e w' h => ?_
  unfold IntPost at h
  unfold RDet intD
  cases hv : intG (openL l) a with
  | error x =>
    rw [hv] at h
    refine ⟨?_, h.2⟩
    rw [h.1]
    simp only
    rw [errV_n (by rcases intG_err hv with e | e <;> omega)]
  | ok q => rw [hv] at h; exact h
theorem getD_c (base p a : Nat) (k : Int) (v : Value) (l : List Nat) (w : World) (h : Rd w base p v l a) : Calls Tryd.prog 39 #[.pointer (some ⟨p, 0, none⟩), .int .i64 k] w (RDet base p v l (getD (openL l) a k) w) := by
  unfold RDet getD
  have hT := openL_length l
  by_cases h1 : k < 0 ∨ 62 < k
  · refine (get_bad k _ w h1).mono fun e w' ⟨he, hw⟩ => ?_
    subst hw
    rw [if_pos h1]
    exact ⟨he, h, Mod.refl _ _⟩
  · rw [if_neg h1]
    obtain ⟨n, rfl⟩ : ∃ n : Nat, k = n := ⟨k.toNat, by omega⟩
    by_cases h2 : 8 * l.length < a + n
    · refine (get_none base p a n v l w h (by omega) h2).mono fun e w' ⟨he, hb⟩ => ?_
      rw [if_pos (by rw [hT]; simpa using h2)]
      exact ⟨he, h.below hb, Mod.of_below hb⟩
    · refine (get_ok base p a n v l w h (by omega) (by omega)).mono fun e w' ⟨he, hR, hM⟩ => ?_
      rw [if_neg (by rw [hT]; simpa using h2)]
      exact ⟨he, hR, hM⟩
end Go.Proofs.YtnkinnfpebploaaDoor
