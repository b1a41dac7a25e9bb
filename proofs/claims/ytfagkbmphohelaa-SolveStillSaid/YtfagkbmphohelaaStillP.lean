/- Plain: who has no mass, or no touch, keeps its row; speeds are no places. Conditions: none. -/
import Derived.Test.YtfagkbmphohelaaSolve13
import Derived.Test.YtfagkbmphohelaaMath2
import Derived.Test.YtfagkbmphohelaaSolve6
namespace Go.Proofs.Ytfagkbmphohelaa
theorem mul_zero9 (a : Int) : mul a 0 = 0 := by
  have h : mag 0 = 0 := by decide
  unfold mul
  rw [h, Int.mul_zero]
  exact sgn_zero _
theorem sub_zero9 {a : Int} (h : -70368744177664 ≤ a ∧ a ≤ 70368744177664) : sub a 0 = a := by
  unfold sub
  rw [show cut 0 = 0 from by decide, Int.sub_zero, cut_cut, cut_in h.1 h.2]
theorem add_zero9 {a : Int} (h : -70368744177664 ≤ a ∧ a ≤ 70368744177664) : add a 0 = a := by
  unfold add
  rw [show cut 0 = 0 from by decide, Int.add_zero, cut_cut, cut_in h.1 h.2]
theorem clamp_in9 {m n : Int} (hm : 0 ≤ m) (h : -m ≤ n ∧ n ≤ m) : clamp m n = n := by
  unfold clamp
  rw [show max m 0 = m from by omega]
  exact clampP_in h.1 h.2
/-- the number stands where it is found -/
theorem idx_at {M : Nat → Nat → Int} {x : Int} : ∀ f k : Nat, 0 ≤ idxF M x k f → M (idxF M x k f).toNat 0 = x := by
  intro f
  induction f with
  | zero => intro k h; simp [idxF] at h
  | succ f ih =>
    intro k h
    unfold idxF at h ⊢
    by_cases e : M k 0 = x
    · rw [if_pos e]; simpa using e
    · rw [if_neg e] at h ⊢; exact ih (k + 1) h
/-- three numbers of row a within most -/
def Bd (M : Nat → Nat → Int) (a j : Nat) (most : Int) : Prop := (-most ≤ M a j ∧ M a j ≤ most) ∧ (-most ≤ M a (j + 1) ∧ M a (j + 1) ≤ most) ∧ (-most ≤ M a (j + 2) ∧ M a (j + 2) ≤ most)
theorem put3_self {M : Nat → Nat → Int} {i j : Nat} {x y z : Int} {a : Nat} (h : a ≠ i ∨ (x = M a j ∧ y = M a (j + 1) ∧ z = M a (j + 2))) (c : Nat) : put3 M i j x y z a c = M a c := by
  by_cases e : a = i
  · subst e
    obtain ⟨hx, hy, hz⟩ := h.resolve_left (fun h => h rfl)
    unfold put3 put1
    by_cases e2 : c = j + 2
    · subst e2; simp [hz]
    by_cases e1 : c = j + 1
    · subst e1; simp [hy]
    by_cases e0 : c = j
    · subst e0; simp [hx]
    simp [e0, e1, e2]
  · exact put3_row _ _ _ _ _ _ e c
theorem give_row {M : Nat → Nat → Int} {i k a : Nat} {u1 u2 u3 j x y : Int} (hb : Bd M a 9 6553600) (h1 : a ≠ i ∨ x = 0) (h2 : a ≠ k ∨ y = 0) (c : Nat) : giveM M i k u1 u2 u3 j x y a c = M a c := by
  obtain ⟨b0, b1, b2⟩ := hb
  have b1 : -6553600 ≤ M a 10 ∧ M a 10 ≤ 6553600 := b1
  have b2 : -6553600 ≤ M a 11 ∧ M a 11 ≤ 6553600 := b2
  have e : ∀ c, put3 M i 9 (sub (M i 9) (mul u1 (mul j x))) (sub (M i 10) (mul u2 (mul j x))) (sub (M i 11) (mul u3 (mul j x))) a c = M a c := by
    apply put3_self
    by_cases e : a = i
    · refine .inr ?_
      have hx := h1.resolve_left (fun h => h e)
      subst hx; subst e
      rw [mul_zero9, mul_zero9, mul_zero9, mul_zero9, sub_zero9 (by omega), sub_zero9 (by omega), sub_zero9 (by omega)]
      exact ⟨rfl, rfl, rfl⟩
    · exact .inl e
  unfold giveM
  refine (put3_self ?_ c).trans (e c)
  by_cases e' : a = k
  · refine .inr ?_
    have hy := h2.resolve_left (fun h => h e')
    subst hy; subst e'
    rw [mul_zero9, mul_zero9, mul_zero9, mul_zero9, add_zero9 (by omega), add_zero9 (by omega), add_zero9 (by omega)]
    exact ⟨(e 9).symm, (e 10).symm, (e 11).symm⟩
  · exact .inl e'
theorem Bd.of {M M' : Nat → Nat → Int} {a j : Nat} {most : Int} (h : Bd M a j most) (e : ∀ c, M' a c = M a c) : Bd M' a j most := by
  unfold Bd at h ⊢
  rw [e, e, e]
  exact h
theorem push_row {M : Nat → Nat → Int} {i k a : Nat} {g1 g2 g3 bo ru : Int} (hb : Bd M a 9 6553600) (h1 : a ≠ i ∨ M a 15 ≤ 0) (h2 : a ≠ k ∨ M a 15 ≤ 0) (c : Nat) : pushM M i k g1 g2 g3 bo ru a c = M a c := by
  have hx : a ≠ i ∨ light (M i 15) = 0 := by
    by_cases e : a = i
    · subst e; exact .inr (if_pos (h1.resolve_left (fun h => h rfl)))
    · exact .inl e
  have hy : a ≠ k ∨ light (M k 15) = 0 := by
    by_cases e : a = k
    · subst e; exact .inr (if_pos (h2.resolve_left (fun h => h rfl)))
    · exact .inl e
  unfold pushM goM
  split
  · rfl
  · have e1 := give_row (u1 := g1) (u2 := g2) (u3 := g3) (j := div (mul (-(dotW M i k g1 g2 g3)) (65536 + bo)) (add (light (M i 15)) (light (M k 15)))) hb hx hy
    unfold midM sideM endM
    split
    · exact (give_row (hb.of e1) hx hy c).trans (e1 c)
    · exact e1 c
theorem put3_to {M : Nat → Nat → Int} {i j : Nat} {x y z : Int} (a : Nat) {c : Nat} (h : c < j ∨ j + 2 < c) : put3 M i j x y z a c = M a c := put3_col _ _ _ _ _ _ a h
theorem give_col {M : Nat → Nat → Int} {i k : Nat} {u1 u2 u3 j x y : Int} (a : Nat) {c : Nat} (h : c < 9 ∨ 11 < c) : giveM M i k u1 u2 u3 j x y a c = M a c := by
  unfold giveM
  rw [put3_to a (by omega), put3_to a (by omega)]
theorem push_col {M : Nat → Nat → Int} {i k : Nat} {g1 g2 g3 bo ru : Int} (a : Nat) {c : Nat} (h : c < 9 ∨ 11 < c) : pushM M i k g1 g2 g3 bo ru a c = M a c := by
  unfold pushM goM
  split
  · rfl
  · unfold midM sideM endM
    split
    · rw [give_col a h, give_col a h]
    · rw [give_col a h]
/-- row a has no mass, or none of the touches is its own -/
def Still (M T : Nat → Nat → Int) (m a : Nat) : Prop := M a 15 ≤ 0 ∨ ∀ k, k < m → T k 0 ≠ M a 0 ∧ T k 1 ≠ M a 0
theorem both_at {M : Nat → Nat → Int} {n : Nat} {x y : Int} (h : Both M n x y) : M (idx M n x).toNat 0 = x ∧ M (idx M n y).toNat 0 = y := ⟨idx_at n 0 h.1, idx_at n 0 h.2.1⟩
theorem still_of {M M' T : Nat → Nat → Int} {m a : Nat} (h : Still M T m a) (e : ∀ c, M' a c = M a c) : Still M' T m a := by
  unfold Still at h ⊢
  rw [e, e]
  exact h
theorem speedStep_row {M T : Nat → Nat → Int} {n m a k : Nat} {bo ru g1 g2 g3 : Int} (hb : Bd M a 9 6553600) (hs : Still M T m a) (hk : k < m) (c : Nat) : speedStep M n bo ru (T k 0) (T k 1) g1 g2 g3 a c = M a c := by
  unfold speedStep
  split
  · next h =>
    obtain ⟨e1, e2⟩ := both_at h
    apply push_row hb
    · by_cases e : a = (idx M n (T k 0)).toNat
      · refine .inr (hs.resolve_right fun h => (h k hk).1 ?_)
        rw [e, e1]
      · exact .inl e
    · by_cases e : a = (idx M n (T k 1)).toNat
      · refine .inr (hs.resolve_right fun h => (h k hk).2 ?_)
        rw [e, e2]
      · exact .inl e
  · rfl
theorem passF_row {M T : Nat → Nat → Int} {n m a : Nat} {bo ru : Int} (hb : Bd M a 9 6553600) (hs : Still M T m a) : ∀ k, k ≤ m → ∀ c, passF M T n bo ru k a c = M a c := by
  intro k
  induction k with
  | zero => intro _ c; rfl
  | succ k ih =>
    intro hk c
    have e := ih (by omega)
    show speedStep _ _ _ _ _ _ _ _ _ a c = _
    rw [speedStep_row (hb.of e) (still_of hs e) (by omega)]
    exact e c
theorem passes_row {M T : Nat → Nat → Int} {n m a : Nat} {bo ru : Int} (hb : Bd M a 9 6553600) (hs : Still M T m a) : ∀ p, ∀ c, passes M T n m bo ru p a c = M a c := by
  intro p
  induction p with
  | zero => intro c; rfl
  | succ p ih =>
    intro c
    show passF _ _ _ _ _ _ a c = _
    rw [passF_row (hb.of ih) (still_of hs ih) m (Nat.le_refl _)]
    exact ih c
theorem speedsF_row {M T : Nat → Nat → Int} {n m a : Nat} {bo ru ro : Int} (hb : Bd M a 9 6553600) (hs : Still M T m a) (c : Nat) : speedsF M T n m bo ru ro a c = M a c := by
  unfold speedsF
  split
  · have e := passes_row (n := n) (bo := bo) (ru := ru) hb hs ro.toNat
    unfold clampF
    split
    · next h =>
      rw [e]
      obtain ⟨b0, b1, b2⟩ := hb
      apply clamp_in9 (by decide)
      rcases h.2 with h | h | h <;> subst h <;> assumption
    · exact e c
  · rfl
theorem passF_col {M T : Nat → Nat → Int} {n : Nat} {bo ru : Int} (a : Nat) {c : Nat} (h : c < 9 ∨ 11 < c) : ∀ k, passF M T n bo ru k a c = M a c := by
  intro k
  induction k with
  | zero => rfl
  | succ k ih =>
    show speedStep _ _ _ _ _ _ _ _ _ a c = _
    unfold speedStep
    split
    · rw [push_col a h]; exact ih
    · exact ih
theorem speedsF_col {M T : Nat → Nat → Int} {n m : Nat} {bo ru ro : Int} (a : Nat) {c : Nat} (h : c < 9 ∨ 11 < c) : speedsF M T n m bo ru ro a c = M a c := by
  unfold speedsF
  split
  · unfold clampF
    rw [if_neg (by omega)]
    generalize ro.toNat = p
    induction p with
    | zero => rfl
    | succ p ih =>
      show passF _ _ _ _ _ _ a c = _
      rw [passF_col a h]
      exact ih
  · rfl
theorem placeGo_row {M : Nat → Nat → Int} {i k a : Nat} {g1 g2 g3 dp : Int} (hb : Bd M a 6 65536000) (h1 : a ≠ i ∨ M a 15 ≤ 0) (h2 : a ≠ k ∨ M a 15 ≤ 0) (c : Nat) : placeGo M i k g1 g2 g3 dp a c = M a c := by
  obtain ⟨b0, b1, b2⟩ := hb
  have b1 : -65536000 ≤ M a 7 ∧ M a 7 ≤ 65536000 := b1
  have b2 : -65536000 ≤ M a 8 ∧ M a 8 ≤ 65536000 := b2
  unfold placeGo
  split
  · generalize add (light (M i 15)) (light (M k 15)) = al
    generalize div (sub dp 655 / 5) al = q
    have e : ∀ c, put3 M i 6 (clamp 65536000 (sub (M i 6) (mul g1 (mul q (light (M i 15)))))) (clamp 65536000 (sub (M i 7) (mul g2 (mul q (light (M i 15)))))) (clamp 65536000 (sub (M i 8) (mul g3 (mul q (light (M i 15)))))) a c = M a c := by
      apply put3_self
      by_cases e : a = i
      · refine .inr ?_
        subst e
        rw [show light (M a 15) = 0 from if_pos (h1.resolve_left (fun h => h rfl)), mul_zero9, mul_zero9, mul_zero9, mul_zero9, sub_zero9 (by omega), sub_zero9 (by omega), sub_zero9 (by omega), clamp_in9 (by decide) b0, clamp_in9 (by decide) b1, clamp_in9 (by decide) b2]
        exact ⟨rfl, rfl, rfl⟩
      · exact .inl e
    refine (put3_self ?_ c).trans (e c)
    by_cases e' : a = k
    · refine .inr ?_
      subst e'
      rw [show light (M a 15) = 0 from if_pos (h2.resolve_left (fun h => h rfl)), mul_zero9, mul_zero9, mul_zero9, mul_zero9, add_zero9 (by omega), add_zero9 (by omega), add_zero9 (by omega), clamp_in9 (by decide) b0, clamp_in9 (by decide) b1, clamp_in9 (by decide) b2]
      exact ⟨(e 6).symm, (e 7).symm, (e 8).symm⟩
    · exact .inl e'
  · rfl
theorem placesF_row {M T : Nat → Nat → Int} {n m a : Nat} (hb : Bd M a 6 65536000) (hs : Still M T m a) : ∀ k, k ≤ m → ∀ c, placesF M T n k a c = M a c := by
  intro k
  induction k with
  | zero => intro _ c; rfl
  | succ k ih =>
    intro hk c
    have e := ih (by omega)
    show placeStep _ _ _ _ _ _ _ _ a c = _
    unfold placeStep
    split
    · next h =>
      obtain ⟨e1, e2⟩ := both_at h.1
      refine (placeGo_row (hb.of e) ?_ ?_ c).trans (e c)
      · by_cases e' : a = (idx (placesF M T n k) n (T k 0)).toNat
        · refine .inr ((still_of hs e).resolve_right fun h => (h k (by omega)).1 ?_)
          rw [e', e1]
        · exact .inl e'
      · by_cases e' : a = (idx (placesF M T n k) n (T k 1)).toNat
        · refine .inr ((still_of hs e).resolve_right fun h => (h k (by omega)).2 ?_)
          rw [e', e2]
        · exact .inl e'
    · exact e c
theorem placesF_col {M T : Nat → Nat → Int} {n : Nat} (a : Nat) {c : Nat} (h : c < 6 ∨ 8 < c) : ∀ k, placesF M T n k a c = M a c := by
  intro k
  induction k with
  | zero => rfl
  | succ k ih =>
    show placeStep _ _ _ _ _ _ _ _ a c = _
    unfold placeStep
    split
    · unfold placeGo
      split
      · rw [put3_to a (by omega), put3_to a (by omega)]; exact ih
      · exact ih
    · exact ih
/-- the bodies as they are made ready: the first k rows -/
def readyF (M : Nat → Nat → Int) (k : Nat) : Nat → Nat → Int := fun a c => if a < k then (if c = 0 then (a : Int) + 1 else if c = 9 ∨ c = 10 ∨ c = 11 then clamp 6553600 (M a c) else if c = 6 ∨ c = 7 ∨ c = 8 then clamp 65536000 (M a c) else M a c) else M a c
theorem readyF_zero (M : Nat → Nat → Int) (a c : Nat) : readyF M 0 a c = M a c := if_neg (by omega)
theorem readyF_row (M : Nat → Nat → Int) (k c : Nat) : readyF M k k c = M k c := if_neg (by omega)
theorem readyF_succ (M : Nat → Nat → Int) (k a c : Nat) : put3 (put3 (put1 (readyF M k) k 0 ((k : Int) + 1)) k 9 (clamp 6553600 (M k 9)) (clamp 6553600 (M k 10)) (clamp 6553600 (M k 11))) k 6 (clamp 65536000 (M k 6)) (clamp 65536000 (M k 7)) (clamp 65536000 (M k 8)) a c = readyF M (k + 1) a c := by
  by_cases ha : a = k
  · subst ha
    by_cases h0 : c = 0
    · subst h0; simp [put3, put1, readyF]
    by_cases h6 : c = 6
    · subst h6; simp [put3, put1, readyF]
    by_cases h7 : c = 7
    · subst h7; simp [put3, put1, readyF]
    by_cases h8 : c = 8
    · subst h8; simp [put3, put1, readyF]
    by_cases h9 : c = 9
    · subst h9; simp [put3, put1, readyF]
    by_cases h10 : c = 10
    · subst h10; simp [put3, put1, readyF]
    by_cases h11 : c = 11
    · subst h11; simp [put3, put1, readyF]
    simp [put3, put1, readyF, h0, h6, h7, h8, h9, h10, h11]
  · rw [put3_row _ _ _ _ _ _ ha, put3_row _ _ _ _ _ _ ha, put1_row _ _ _ _ ha]
    unfold readyF
    by_cases h : a < k
    · rw [if_pos h, if_pos (show a < k + 1 by omega)]
    · rw [if_neg h, if_neg (show ¬ a < k + 1 by omega)]
theorem readyF_bd (M : Nat → Nat → Int) {n a : Nat} (h : a < n) : Bd (readyF M n) a 9 6553600 ∧ Bd (readyF M n) a 6 65536000 ∧ readyF M n a 0 = (a : Int) + 1 := by
  have c1 := fun x => clamp_bd 6553600 x (by decide)
  have c2 := fun x => clamp_bd 65536000 x (by decide)
  refine ⟨?_, ?_, by simp [readyF, h]⟩
  · simp only [Bd, readyF, h, if_true]
    exact ⟨by simpa using c1 _, by simpa using c1 _, by simpa using c1 _⟩
  · simp only [Bd, readyF, h, if_true]
    exact ⟨by simpa using c2 _, by simpa using c2 _, by simpa using c2 _⟩
end Go.Proofs.Ytfagkbmphohelaa
