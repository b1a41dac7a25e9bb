/- BroadOrder: two trees side by side, in plain Lean. Conditions: none. -/
import Derived.Test.YtefhmbmbhiehdaaDoorKBt15
namespace Go.Proofs.YtefhmbmbhiehdaaDoor
open Go Go.Maps Go.RowKit Go.BigFrame Go.ChangeShapes Go.WideShapes
def goodX (b : Bx) : Bool := !wrongX b && !beyondX b
theorem putE_good {D : Int → Option Bx} {n : Nat} {id : Int} {b : Bx} (h : goodX b = true) (hn : (D id).isSome = true ∨ n < 60) : putE D n id b = 0 := by
  unfold goodX at h
  simp only [Bool.and_eq_true, Bool.not_eq_true'] at h
  unfold putE
  rw [if_neg (by rw [h.1]; exact Bool.false_ne_true), if_neg (by rw [h.2]; exact Bool.false_ne_true), if_neg]
  rintro ⟨h1, h2⟩
  rcases hn with h3 | h3
  · rw [Option.isNone_iff_eq_none] at h1
    rw [h1] at h3
    cases h3
  · omega
theorem putE_bad {D : Int → Option Bx} {n : Nat} {id : Int} {b : Bx} (h : goodX b = false) : putE D n id b ≠ 0 := by
  unfold goodX at h
  unfold putE
  cases hw : wrongX b with
  | true => simp
  | false =>
    cases hb : beyondX b with
    | true => simp
    | false => rw [hw, hb] at h; cases h
/-- the boxes, each at its number, or, not yet moved, 100 on -/
def DX (B : Nat → Bx) (n : Nat) (M : Nat → Bool) : Int → Option Bx := fun id =>
  if 0 ≤ id ∧ id < n ∧ goodX (B id.toNat) = true ∧ M id.toNat = true then some (B id.toNat)
  else if 100 ≤ id ∧ id < 100 + n ∧ goodX (B (id - 100).toNat) = true ∧ M (id - 100).toNat = false then some (B (id - 100).toNat) else none
def cntX (B : Nat → Bx) : Nat → Nat
  | 0 => 0
  | j + 1 => cntX B j + if goodX (B j) then 1 else 0
theorem cntX_le (B : Nat → Bx) : ∀ j, cntX B j ≤ j := by
  intro j
  induction j with
  | zero => exact Nat.le_refl 0
  | succ j ih => simp only [cntX]; split <;> omega
theorem cntX_pos {B : Nat → Bx} : ∀ {n k : Nat}, k < n → goodX (B k) = true → 1 ≤ cntX B n := by
  intro n
  induction n with
  | zero => intro k h; omega
  | succ n ih =>
    intro k hk hg
    simp only [cntX]
    rcases Nat.lt_or_ge k n with h | h
    · have := ih h hg; omega
    · have e : k = n := by omega
      subst e
      rw [hg]
      simp
section
variable {B : Nat → Bx} {n j k c : Nat} {M : Nat → Bool}
theorem ite_same {α : Type} {p q : Prop} [Decidable p] [Decidable q] {a b b' : α} (h : p ↔ q) (hb : b = b') : (if p then a else b) = (if q then a else b') := by
  by_cases hp : p
  · rw [if_pos hp, if_pos (h.1 hp)]
  · rw [if_neg hp, if_neg (fun hq => hp (h.2 hq)), hb]
theorem DX_zero (B : Nat → Bx) (M : Nat → Bool) : DX B 0 M = fun _ => none := by
  funext id
  unfold DX
  rw [if_neg (by omega), if_neg (by omega)]
theorem DX_at (hk : k < n) (hg : goodX (B k) = true) (hM : M k = true) : DX B n M (k : Int) = some (B k) := by
  unfold DX
  rw [if_pos]
  · rw [Int.toNat_natCast]
  · rw [Int.toNat_natCast]
    exact ⟨by omega, by omega, hg, hM⟩
theorem DX_off (hk : k < 100) (h : n ≤ k ∨ goodX (B k) = false ∨ M k = false) : DX B n M (k : Int) = none := by
  unfold DX
  rw [if_neg, if_neg]
  · omega
  · rw [Int.toNat_natCast]
    rintro ⟨_, h2, h3, h4⟩
    rcases h with h | h | h
    · omega
    · rw [h] at h3; cases h3
    · rw [h] at h4; cases h4
theorem DX_far (hn : n ≤ 50) : DX B n M ((k : Int) + 100) = if k < n ∧ goodX (B k) = true ∧ M k = false then some (B k) else none := by
  unfold DX
  have e : ((k : Int) + 100 - 100).toNat = k := by omega
  rw [if_neg (fun h => by omega), e]
  by_cases h : k < n ∧ goodX (B k) = true ∧ M k = false
  · rw [if_pos h, if_pos ⟨by omega, by omega, h.2⟩]
  · rw [if_neg h, if_neg (fun h' => h ⟨by omega, h'.2.2⟩)]
/-- a new one, at its number -/
theorem DX_next {id : Int} (e : id ≠ (j : Int) ∨ goodX (B j) = false) : DX B j (fun _ => true) id = DX B (j + 1) (fun _ => true) id := by
  unfold DX
  refine ite_same ⟨fun h => ⟨h.1, by omega, h.2.2⟩, fun h => ⟨h.1, ?_, h.2.2⟩⟩ ?_
  · rcases e with e | e
    · omega
    · rcases Int.lt_or_le id (j : Int) with h1 | h1
      · exact h1
      · have e2 : id.toNat = j := by omega
        have := h.2.2.1
        rw [e2, e] at this
        cases this
  · rw [if_neg (fun h => by cases h.2.2.2), if_neg (fun h => by cases h.2.2.2)]
theorem DX_put (hc : c < 60) : putD (DX B j fun _ => true) c (j : Int) (B j) = DX B (j + 1) fun _ => true := by
  rcases Bool.eq_false_or_eq_true (goodX (B j)) with hg | hg
  · unfold putD
    rw [if_pos (putE_good hg (.inr hc))]
    funext id
    unfold updD
    by_cases e : id = (j : Int)
    · rw [if_pos e, e, DX_at (by omega) hg rfl]
    · rw [if_neg e, DX_next (.inl e)]
  · unfold putD
    rw [if_neg (putE_bad hg)]
    funext id
    exact DX_next (.inr hg)
theorem DX_putN (hj : j < 50) : putN (DX B j fun _ => true) (cntX B j) (j : Int) (B j) = cntX B (j + 1) := by
  have hc := cntX_le B j
  unfold putN
  simp only [cntX]
  cases hg : goodX (B j) with
  | true => rw [if_pos (putE_good hg (.inr (by omega))), DX_off (by omega) (.inl (Nat.le_refl _))]; simp
  | false => rw [if_neg (putE_bad hg)]; simp
/-- a new one, 100 on -/
theorem DX_next1 {id : Int} (e : id ≠ (j : Int) + 100 ∨ goodX (B j) = false) : DX B j (fun _ => false) id = DX B (j + 1) (fun _ => false) id := by
  unfold DX
  refine ite_same ⟨fun h => (by cases h.2.2.2), fun h => (by cases h.2.2.2)⟩ (ite_same ⟨fun h => ⟨h.1, by omega, h.2.2⟩, fun h => ⟨h.1, ?_, h.2.2⟩⟩ rfl)
  rcases e with e | e
  · omega
  · rcases Int.lt_or_le id (100 + (j : Int)) with h1 | h1
    · exact h1
    · have e2 : (id - 100).toNat = j := by omega
      have := h.2.2.1
      rw [e2, e] at this
      cases this
theorem DX_put1 (hj : j < 50) (hc : c < 60) : putD (DX B j fun _ => false) c ((j : Int) + 100) (B j) = DX B (j + 1) fun _ => false := by
  rcases Bool.eq_false_or_eq_true (goodX (B j)) with hg | hg
  · unfold putD
    rw [if_pos (putE_good hg (.inr hc))]
    funext id
    unfold updD
    by_cases e : id = (j : Int) + 100
    · rw [if_pos e, e, DX_far (by omega), if_pos ⟨by omega, hg, rfl⟩]
    · rw [if_neg e, DX_next1 (.inl e)]
  · unfold putD
    rw [if_neg (putE_bad hg)]
    funext id
    exact DX_next1 (.inr hg)
theorem DX_put1N (hj : j < 50) : putN (DX B j fun _ => false) (cntX B j) ((j : Int) + 100) (B j) = cntX B (j + 1) := by
  have hc := cntX_le B j
  have hd : DX B j (fun _ => false) ((j : Int) + 100) = none := by rw [DX_far (by omega), if_neg (fun h => by have := h.1; omega)]
  unfold putN
  simp only [cntX]
  cases hg : goodX (B j) with
  | true => rw [if_pos (putE_good hg (.inr (by omega))), hd]; simp
  | false => rw [if_neg (putE_bad hg)]; simp
/-- one that is there already -/
theorem DX_again (hk : k < n) (hM : M k = true) : putD (DX B n M) c (k : Int) (B k) = DX B n M ∧ putN (DX B n M) c (k : Int) (B k) = c := by
  cases hg : goodX (B k) with
  | true =>
    have hs := DX_at (M := M) hk hg hM
    have he : putE (DX B n M) c (k : Int) (B k) = 0 := putE_good hg (.inl (by rw [hs]; rfl))
    unfold putD putN
    rw [if_pos he, if_pos he, hs]
    refine ⟨?_, by simp⟩
    funext id
    unfold updD
    by_cases e : id = (k : Int)
    · rw [if_pos e, e, hs]
    · rw [if_neg e]
  | false =>
    unfold putD putN
    rw [if_neg (putE_bad hg), if_neg (putE_bad hg)]
    exact ⟨rfl, rfl⟩
def setX (M : Nat → Bool) (k : Nat) : Nat → Bool := fun i => if i = k then true else M i
theorem DX_set {id : Int} (h1 : id ≠ (k : Int)) (h2 : id ≠ (k : Int) + 100) : DX B n (setX M k) id = DX B n M id := by
  unfold DX setX
  by_cases h0 : 0 ≤ id
  · have e1 : id.toNat ≠ k := by omega
    simp only [e1, if_false]
    by_cases h100 : 100 ≤ id
    · have e2 : (id - 100).toNat ≠ k := by omega
      simp only [e2, if_false]
    · simp [h100]
  · have h100 : ¬ 100 ≤ id := by omega
    simp [h0, h100]
/-- one moved -/
theorem DX_move (hk : k < n) (hn : n ≤ 50) (hc : c < 60) : putD (remD (DX B n M) ((k : Int) + 100)) c (k : Int) (B k) = DX B n (setX M k) := by
  have hrem : ∀ id : Int, id ≠ (k : Int) + 100 → remD (DX B n M) ((k : Int) + 100) id = DX B n M id := fun id e => by
    unfold remD delD
    split
    · simp [e]
    · rfl
  have hrem2 : remD (DX B n M) ((k : Int) + 100) ((k : Int) + 100) = none := by
    unfold remD delD
    split
    · simp
    · rename_i h
      cases hd : DX B n M ((k : Int) + 100) with
      | none => rfl
      | some _ => rw [hd] at h; exact absurd rfl h
  have hset : setX M k k = true := by simp [setX]
  have far2 : DX B n (setX M k) ((k : Int) + 100) = none := by
    rw [DX_far hn, if_neg]
    rintro ⟨_, _, h⟩
    rw [hset] at h
    cases h
  cases hg : goodX (B k) with
  | true =>
    unfold putD
    rw [if_pos (putE_good hg (.inr hc))]
    funext id
    unfold updD
    by_cases e : id = (k : Int)
    · rw [if_pos e, e, DX_at hk hg hset]
    · rw [if_neg e]
      by_cases e2 : id = (k : Int) + 100
      · rw [e2, hrem2, far2]
      · rw [hrem id e2, DX_set e e2]
  | false =>
    unfold putD
    rw [if_neg (putE_bad hg)]
    funext id
    by_cases e2 : id = (k : Int) + 100
    · rw [e2, hrem2, far2]
    · rw [hrem id e2]
      by_cases e : id = (k : Int)
      · rw [e, DX_off (by omega) (.inr (.inl hg)), DX_off (by omega) (.inr (.inl hg))]
      · exact (DX_set e e2).symm
theorem DX_moveN (hk : k < n) (hn : n ≤ 50) : putN (remD (DX B n M) ((k : Int) + 100)) (remN (DX B n M) (cntX B n) ((k : Int) + 100)) (k : Int) (B k) = cntX B n := by
  have hc := cntX_le B n
  have hat : remD (DX B n M) ((k : Int) + 100) (k : Int) = DX B n M (k : Int) := by
    unfold remD delD
    split
    · show (if (k : Int) = (k : Int) + 100 then none else _) = _
      rw [if_neg (by omega)]
    · rfl
  rcases Bool.eq_false_or_eq_true (goodX (B k)) with hg | hg
  · have hp := cntX_pos hk hg
    rcases Bool.eq_false_or_eq_true (M k) with hM | hM
    · have hd : DX B n M ((k : Int) + 100) = none := by
        rw [DX_far hn, if_neg (fun h => by rw [hM] at h; cases h.2.2)]
      have hr : remN (DX B n M) (cntX B n) ((k : Int) + 100) = cntX B n := by
        unfold remN
        rw [hd]
        rfl
      rw [hr]
      unfold putN
      rw [if_pos (putE_good hg (.inr (by omega))), hat, DX_at hk hg hM]
      rfl
    · have hd : DX B n M ((k : Int) + 100) = some (B k) := by
        rw [DX_far hn, if_pos ⟨hk, hg, hM⟩]
      have hr : remN (DX B n M) (cntX B n) ((k : Int) + 100) = cntX B n - 1 := by
        unfold remN
        rw [hd]
        rfl
      rw [hr]
      unfold putN
      rw [if_pos (putE_good hg (.inr (by omega))), hat, DX_off (by omega) (.inr (.inr hM))]
      simp
      omega
  · have hd : DX B n M ((k : Int) + 100) = none := by
      rw [DX_far hn, if_neg (fun h => by rw [hg] at h; cases h.2.1)]
    have hr : remN (DX B n M) (cntX B n) ((k : Int) + 100) = cntX B n := by
      unfold remN
      rw [hd]
      rfl
    rw [hr]
    unfold putN
    rw [if_neg (putE_bad hg)]
theorem DX_all (hn : n ≤ 50) (h : ∀ k, k < n → M k = true) : DX B n M = DX B n fun _ => true := by
  funext id
  unfold DX
  by_cases h0 : 0 ≤ id ∧ id < n
  · have h1 := h id.toNat (by omega)
    refine ite_same ⟨fun h => ⟨h.1, h.2.1, h.2.2.1, rfl⟩, fun h => ⟨h.1, h.2.1, h.2.2.1, h1⟩⟩ ?_
    rw [if_neg (fun h => by omega), if_neg (fun h => by omega)]
  · refine ite_same ⟨fun h => absurd ⟨h.1, h.2.1⟩ h0, fun h => absurd ⟨h.1, h.2.1⟩ h0⟩ (ite_same ⟨fun h' => ?_, fun h' => (by cases h'.2.2.2)⟩ rfl)
    have h1 := h (id - 100).toNat (by omega)
    rw [h1] at h'
    cases h'.2.2.2
end
/-- two trees of the call's own, apart -/
def Two (w0 w : World) (ta tb : Nat) (fa : Int) (p : Nat) (Da : Int → Option Bx) (ca : Nat) (Db : Int → Option Bx) (cb : Nat) : Prop :=
  ∃ Sa Sb : Nat → Prop, BW w ta fa p Da ca Sa ∧ BW w tb 0 p Db cb Sb ∧ (∀ x, Sa x → ¬ Sb x) ∧ (∀ x, Sa x → w0.heap.size ≤ x) ∧ (∀ x, Sb x → w0.heap.size ≤ x) ∧ Below w0.heap.size w0 w
section
variable {w0 w w' : World} {ta tb : Nat} {fa : Int} {p p' : Nat} {Da Db : Int → Option Bx} {ca cb : Nat}
theorem Two.ext (h : Two w0 w ta tb fa p Da ca Db cb) : Below w0.heap.size w0 w := by obtain ⟨_, _, _, _, _, _, _, h⟩ := h; exact h
theorem Two.below (h : Two w0 w ta tb fa p Da ca Db cb) (k : Below w.heap.size w w') : Two w0 w' ta tb fa p Da ca Db cb := by
  obtain ⟨Sa, Sb, h1, h2, h3, h4, h5, h6⟩ := h
  exact ⟨Sa, Sb, h1.below k, h2.below k, h3, h4, h5, h6.trans (k.mono h6.size)⟩
theorem Two.le (h : Two w0 w ta tb fa p Da ca Db cb) (hp : p ≤ p') : Two w0 w ta tb fa p' Da ca Db cb := by
  obtain ⟨Sa, Sb, h1, h2, h3, h4, h5, h6⟩ := h
  exact ⟨Sa, Sb, h1.le hp, h2.le hp, h3, h4, h5, h6⟩
theorem Two.first {Sa Sb S' : Nat → Prop} {D' : Int → Option Bx} {c' : Nat} (_h1 : BW w ta fa p Da ca Sa) (h2 : BW w tb 0 p Db cb Sb) (h3 : ∀ x, Sa x → ¬ Sb x) (h4 : ∀ x, Sa x → w0.heap.size ≤ x) (h5 : ∀ x, Sb x → w0.heap.size ≤ x) (h6 : Below w0.heap.size w0 w)
    (hm : Mod Sa w w') (k1 : BW w' ta fa (p + 1) D' c' S') (k2 : ∀ x, S' x → Sa x ∨ w.heap.size ≤ x) : Two w0 w' ta tb fa (p + 1) D' c' Db cb :=
  ⟨S', Sb, k1, (h2.mod hm (fun x hx e => h3 x e hx)).le (by omega), fun x hx hb => (k2 x hx).elim (fun e => h3 x e hb) (fun e => by have := h2.2 x hb; omega), fun x hx => (k2 x hx).elim (h4 x) (fun e => Nat.le_trans h6.size e), h5, h6.trans (hm.toBelow h6.size (fun b h1 h2 => by have := h4 b h2; omega))⟩
theorem Two.second {Sa Sb S' : Nat → Prop} {D' : Int → Option Bx} {c' : Nat} (h1 : BW w ta fa p Da ca Sa) (_h2 : BW w tb 0 p Db cb Sb) (h3 : ∀ x, Sa x → ¬ Sb x) (h4 : ∀ x, Sa x → w0.heap.size ≤ x) (h5 : ∀ x, Sb x → w0.heap.size ≤ x) (h6 : Below w0.heap.size w0 w)
    (hm : Mod Sb w w') (k1 : BW w' tb 0 (p + 1) D' c' S') (k2 : ∀ x, S' x → Sb x ∨ w.heap.size ≤ x) : Two w0 w' ta tb fa (p + 1) Da ca D' c' :=
  ⟨Sa, S', (h1.mod hm (fun x hx e => h3 x hx e)).le (by omega), k1, fun x hx hb => (k2 x hb).elim (fun e => h3 x hx e) (fun e => by have := h1.2 x hx; omega), h4, fun x hx => (k2 x hx).elim (h5 x) (fun e => Nat.le_trans h6.size e), h6.trans (hm.toBelow h6.size (fun b h1 h2 => by have := h5 b h2; omega))⟩
theorem two_putA (h : Two w0 w ta tb fa p Da ca Db cb) (id_ : Int) (b : Bx) {v : Value} (hv : errV (putE Da ca id_ b) = v) (hfa : 0 ≤ fa) (hp : p < 300000) (hkey : keyOf Tryd.prog 3 (.int .i64 id_) = some (.int .i64 id_)) :
    Calls Tryd.prog 8 #[.pointer (some ⟨ta, 0, none⟩), .int .i64 id_, bxV b] w fun e w' => e = .returned v ∧ Two w0 w' ta tb fa (p + 1) (putD Da ca id_ b) (putN Da ca id_ b) Db cb := by
  subst hv
  obtain ⟨Sa, Sb, h1, h2, h3, h4, h5, h6⟩ := h
  refine (put_c w ta id_ b fa p Da ca Sa h1 hfa hp hkey).mono ?_
  rintro e w' ⟨rfl, hm, S', k1, k2⟩
  exact ⟨rfl, Two.first h1 h2 h3 h4 h5 h6 hm k1 k2⟩
theorem two_putB (h : Two w0 w ta tb fa p Da ca Db cb) (id_ : Int) (b : Bx) {v : Value} (hv : errV (putE Db cb id_ b) = v) (hp : p < 300000) (hkey : keyOf Tryd.prog 3 (.int .i64 id_) = some (.int .i64 id_)) :
    Calls Tryd.prog 8 #[.pointer (some ⟨tb, 0, none⟩), .int .i64 id_, bxV b] w fun e w' => e = .returned v ∧ Two w0 w' ta tb fa (p + 1) Da ca (putD Db cb id_ b) (putN Db cb id_ b) := by
  subst hv
  obtain ⟨Sa, Sb, h1, h2, h3, h4, h5, h6⟩ := h
  refine (put_c w tb id_ b 0 p Db cb Sb h2 (Int.le_refl 0) hp hkey).mono ?_
  rintro e w' ⟨rfl, hm, S', k1, k2⟩
  exact ⟨rfl, Two.second h1 h2 h3 h4 h5 h6 hm k1 k2⟩
theorem two_remB (h : Two w0 w ta tb fa p Da ca Db cb) (id_ : Int) (hp : p < 300000) (hkey : keyOf Tryd.prog 3 (.int .i64 id_) = some (.int .i64 id_)) :
    Calls Tryd.prog 9 #[.pointer (some ⟨tb, 0, none⟩), .int .i64 id_] w fun e w' => e = .returned (errV (remE Db id_)) ∧ Two w0 w' ta tb fa (p + 1) Da ca (remD Db id_) (remN Db cb id_) := by
  obtain ⟨Sa, Sb, h1, h2, h3, h4, h5, h6⟩ := h
  refine (remove_c w tb id_ 0 p Db cb Sb h2 hp hkey).mono ?_
  rintro e w' ⟨rfl, hm, S', k1, k2⟩
  exact ⟨rfl, Two.second h1 h2 h3 h4 h5 h6 hm k1 k2⟩
theorem two_pairsA (h : Two w0 w ta tb fa p Da ca Db cb) (hp : p < 300000) (hk : KeysOk Da) : Calls Tryd.prog 15 #[.pointer (some ⟨ta, 0, none⟩)] w (PPost Da w) := by
  obtain ⟨Sa, Sb, h1, h2, h3, h4, h5, h6⟩ := h
  exact pairs_c w ta fa p Da ca Sa h1 hp hk
theorem two_pairsB (h : Two w0 w ta tb fa p Da ca Db cb) (hp : p < 300000) (hk : KeysOk Db) : Calls Tryd.prog 15 #[.pointer (some ⟨tb, 0, none⟩)] w (PPost Db w) := by
  obtain ⟨Sa, Sb, h1, h2, h3, h4, h5, h6⟩ := h
  exact pairs_c w tb 0 p Db cb Sb h2 hp hk
end
theorem keyX (x : Int) (h0 : -1000 ≤ x) (h1 : x ≤ 1000) : keyOf Tryd.prog 3 (.int .i64 x) = some (.int .i64 x) := int_wf_key Tryd.underlying3 (intKey_wf (by omega) (by omega))
theorem DX_keys {B : Nat → Bx} {n : Nat} {M : Nat → Bool} (hn : n ≤ 50) : KeysOk (DX B n M) := by
  intro id h
  refine keyX id ?_ ?_ <;>
  · unfold DX at h
    split at h
    · omega
    · split at h
      · omega
      · cases h
/-- a row of pairs, cell by cell -/
theorem cellsP_at : ∀ (ps : List (Int × Int)) (j : Nat) (x : Int × Int), ps[j]? = some x → (cellsP ps)[j * 2]? = some (.int .i64 x.1) ∧ (cellsP ps)[j * 2 + 1]? = some (.int .i64 x.2) := by
  intro ps
  induction ps with
  | nil => intro j x h; simp at h
  | cons y ps ih =>
    intro j x h
    have e : cellsP (y :: ps) = .int .i64 y.1 :: .int .i64 y.2 :: cellsP ps := rfl
    rw [e]
    cases j with
    | zero =>
      have : y = x := by simpa using h
      subst this
      exact ⟨rfl, rfl⟩
    | succ j =>
      have h' : ps[j]? = some x := by simpa using h
      obtain ⟨h1, h2⟩ := ih j x h'
      have e1 : (j + 1) * 2 = j * 2 + 1 + 1 := by omega
      rw [e1]
      exact ⟨by simpa using h1, by simpa using h2⟩
theorem rowP_at {w : World} {base n : Nat} {v : Value} {ps : List (Int × Int)} (h : w.ownsRow base 50 2 v n (cellsP ps)) (hn : 0 < n) : ∃ g cap, v = .slice (some ⟨g, 0, none⟩) n cap ∧ g < w.heap.size ∧ ∀ j x, ps[j]? = some x → w.cell? ⟨g, j * 2, none⟩ = some (.int .i64 x.1) ∧ w.cell? ⟨g, j * 2 + 1, none⟩ = some (.int .i64 x.2) := by
  obtain ⟨g, cap, e, _, hl, _, _, _, cg, _⟩ := row_at h hn
  refine ⟨g, cap, e, hl, fun j x hx => ?_⟩
  obtain ⟨h1, h2⟩ := cellsP_at ps j x hx
  exact ⟨cg _ _ h1, cg _ _ h2⟩
theorem rowP_val {w : World} {base n : Nat} {v : Value} {ps : List (Int × Int)} (h : w.ownsRow base 50 2 v n (cellsP ps)) : ∃ A C, v = .slice A n C := by
  have hl := h.1
  rcases h.2 with ⟨e1, e2⟩ | ⟨g, cap, cur, e1, _⟩
  · rw [e2] at hl
    have h0 : n = 0 := by simp at hl; omega
    exact ⟨none, 0, by rw [h0]; exact e1⟩
  · exact ⟨_, cap, e1⟩
end Go.Proofs.YtefhmbmbhiehdaaDoor
