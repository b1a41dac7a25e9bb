/- A region that draws its order, in which components of a result may be taken late (behind the stores): it is enough to look at the orders in which they are taken early. Conditions: none. -/
import Derived.Test.YtniahipadfgkbaaGreatKA
namespace Go.Proofs.YtniahipadfgkbaaGreat
open Go Go.RowKit

section
variable {P : Program} {ops : Array Oper} {md : Region.Mode} {W : World}

/-- One operation: it yields v, and the world at hand only grows. -/
def growUpon (P : Program) (w : World) (v : Value) : Result Next → Prop
  | .ok (.value u) w' => w' = w ∧ u = v
  | .ok .skip w' => w' = w ∧ v = undef
  | .ok (.enter f args) w' => w' = w ∧ Calls P f args w (fun e w'' => e = .returned v ∧ Below w.heap.size w w'')
  | _ => False
/-- .. in whatever world that has more than W. -/
def grows (P : Program) (W : World) (o : Oper) (a : Act) (v : Value) : Prop := ∀ w, Below W.heap.size W w → growUpon P w v ((execOp a.eval o).run P w)
/-- operation i in state a, then K -/
def gOp (P : Program) (ops : Array Oper) (W : World) (i : Nat) (K : Act → Prop) (a : Act) : Prop :=
  match ops[i]? with
  | none => False
  | some o => if Region.wanted o (yielded ops a.tmps) then ∃ v, grows P W o a v ∧ K (a.put o.dst v) else K (a.put o.dst undef)

theorem more_self (w : World) : more w ⟨#[], w.drawn⟩ = w := by unfold more; simp
theorem growUpon_of_quiet {w : World} {v : Value} {r : Result Next} (h : Oper.quietUpon P (fun w' => ∃ m, w' = more w m) w v r) : growUpon P w v r := by
  cases r with
  | ok n w' =>
    cases n <;> simp only [Oper.quietUpon] at h <;> simp only [growUpon]
    case value => exact h
    case skip => exact h
    case enter f args => exact ⟨h.1, h.2.mono fun e w'' ⟨he, m, hm⟩ => ⟨he, by rw [hm]; exact more_below w m⟩⟩
  | halt x w' => simp only [Oper.quietUpon] at h

/-- wp of an operation that grows: on in a world that has more. -/
theorem wp_of_grow {o : Oper} {a : Act} {v : Value} {K : Act → World → Prop} {Q : Exit → Act → World → Prop} {w : World} (h : growUpon P w v ((execOp a.eval o).run P w)) (hK : ∀ w', Below w.heap.size w w' → K (a.put o.dst v) w') : o.wp P a w K Q := by
  unfold Oper.wp
  generalize (execOp a.eval o).run P w = r at *
  cases r with
  | ok n w' =>
    cases n <;> simp only [growUpon] at h <;> simp only [Oper.upon]
    case value u =>
      obtain ⟨rfl, rfl⟩ := h
      exact hK _ (Below.refl _ _)
    case skip =>
      obtain ⟨rfl, rfl⟩ := h
      exact hK _ (Below.refl _ _)
    case enter f args =>
      obtain ⟨rfl, hc⟩ := h
      exact hc.mono fun e w'' ⟨he, hb⟩ => by subst he; exact hK _ hb
  | halt x w' => simp only [growUpon] at h

theorem put_size (a : Act) (d : Option Tmp) (v : Value) : (a.put d v).tmps.size = a.tmps.size := by cases d <;> simp [Act.put]
theorem put_get_ne (a : Act) (d e : Nat) (v : Value) (h : d ≠ e) : (a.put (some d) v).tmps[e]? = a.tmps[e]? := by
  simp [Act.put, h]
theorem put_get_eq (a : Act) (d : Nat) (v : Value) (h : d < a.tmps.size) : (a.put (some d) v).tmps[d]? = some v := by
  simp [Act.put, h]
/-- a slot that the rest doesn't write stays -/
theorem quiet_keeps {C : World → Prop} {A : Act} (d : Nat) : ∀ (l : List Oper) (a : Act), (∀ o ∈ l, o.dst ≠ some d) → wpQuiet P ops C (fun a' => a' = A) l a → A.tmps[d]? = a.tmps[d]? := by
  intro l
  induction l with
  | nil => intro a _ h; simp only [wpQuiet] at h; rw [← h]
  | cons o l ih =>
    intro a hd h
    have hne := hd o (by simp)
    have key : ∀ v, (a.put o.dst v).tmps[d]? = a.tmps[d]? := by
      intro v
      cases he : o.dst with
      | none => rfl
      | some e => exact put_get_ne a e d v (by intro h'; subst h'; exact hne he)
    simp only [wpQuiet] at h
    split at h
    · obtain ⟨v, _, h2⟩ := h
      rw [ih _ (fun o' ho' => hd o' (by simp [ho'])) h2, key]
    · rw [ih _ (fun o' ho' => hd o' (by simp [ho'])) h, key]

/-- the walk of the text's order; A: the state behind it -/
def wpGrow (P : Program) (ops : Array Oper) (W : World) (A : Act) : List Oper → Act → Prop
  | [], a => a = A
  | o :: rest, a => if Region.wanted o (yielded ops a.tmps) then ∃ v, grows P W o a v ∧ wpGrow P ops W A rest (a.put o.dst v) else wpGrow P ops W A rest (a.put o.dst undef)

theorem grow_of_quiet {A : Act} : ∀ (l : List Oper) (a : Act), (l.filterMap (·.dst)).Nodup → (∀ o ∈ l, ∃ d, o.dst = some d ∧ d < a.tmps.size) →
    (∀ w0, Below W.heap.size W w0 → wpQuiet P ops (fun w' => ∃ m, w' = more w0 m) (fun a' => a' = A) l a) → wpGrow P ops W A l a := by
  intro l
  induction l with
  | nil => intro a _ _ H; exact H W (Below.refl _ _)
  | cons o l ih =>
    intro a hnd hin H
    obtain ⟨d, hd, hdl⟩ := hin o (by simp)
    have hnd' : (l.filterMap (·.dst)).Nodup ∧ ∀ o' ∈ l, o'.dst ≠ some d := by
      rw [List.filterMap_cons, hd] at hnd
      have h2 := List.nodup_cons.1 hnd
      exact ⟨h2.2, fun o' ho' he => h2.1 (List.mem_filterMap.2 ⟨o', ho', he⟩)⟩
    have hin' : ∀ v, ∀ o' ∈ l, ∃ d, o'.dst = some d ∧ d < (a.put o.dst v).tmps.size := fun v o' ho' => by
      obtain ⟨e, he, hel⟩ := hin o' (by simp [ho'])
      exact ⟨e, he, by rw [put_size]; exact hel⟩
    simp only [wpGrow]
    split
    · rename_i hw
      have H' : ∀ w0, Below W.heap.size W w0 → ∃ v, (∀ w, (∃ m, w = more w0 m) → o.quietAt P a (fun w' => ∃ m, w' = more w0 m) w v) ∧ wpQuiet P ops (fun w' => ∃ m, w' = more w0 m) (fun a' => a' = A) l (a.put o.dst v) := fun w0 h0 => by
        have h1 := H w0 h0
        simp only [wpQuiet, hw, if_true] at h1
        exact h1
      have same : ∀ w0 v, wpQuiet P ops (fun w' => ∃ m, w' = more w0 m) (fun a' => a' = A) l (a.put o.dst v) → A.tmps[d]? = some v := fun w0 v h => by
        rw [quiet_keeps d l _ hnd'.2 h, hd]; exact put_get_eq a d v hdl
      obtain ⟨v0, _, hr0⟩ := H' W (Below.refl _ _)
      have e0 := same W v0 hr0
      refine ⟨v0, fun w hb => ?_, ih _ hnd'.1 (hin' v0) fun w0 h0 => ?_⟩
      · obtain ⟨v, hq, hr⟩ := H' w hb
        obtain rfl : v = v0 := Option.some.inj ((same w v hr).symm.trans e0)
        exact growUpon_of_quiet (hq w ⟨_, (more_self w).symm⟩)
      · obtain ⟨v, hq, hr⟩ := H' w0 h0
        obtain rfl : v = v0 := Option.some.inj ((same w0 v hr).symm.trans e0)
        exact hr
    · rename_i hw
      refine ih _ hnd'.1 (hin' undef) fun w0 h0 => ?_
      have h1 := H w0 h0
      simp only [wpQuiet, hw] at h1
      exact h1

/-! ### any order -/
def YieldsG (P : Program) (ops : Array Oper) (W : World) (o : Oper) (v : Value) (a : Act) : Prop :=
  (Region.wanted o (yielded ops a.tmps) = true ∧ grows P W o a v) ∨ (Region.wanted o (yielded ops a.tmps) = false ∧ v = undef)
theorem YieldsG.gOp {i : Nat} {o : Oper} {v : Value} {a : Act} (hi : ops[i]? = some o) (hy : YieldsG P ops W o v a) {K : Act → Prop} (h : K (a.put o.dst v)) : gOp P ops W i K a := by
  unfold Go.Proofs.YtniahipadfgkbaaGreat.gOp
  simp only [hi]
  rcases hy with ⟨hw, hv⟩ | ⟨hw, rfl⟩
  · simp only [hw, if_true]; exact ⟨v, hv, h⟩
  · simp only [hw, Bool.false_eq_true, if_false]; exact h
theorem YieldsG.of_same {o : Oper} {v : Value} {a a' : Act} (hy : YieldsG P ops W o v a) (he : execOp a'.eval o = execOp a.eval o) (hw : Region.wanted o (yielded ops a'.tmps) = Region.wanted o (yielded ops a.tmps)) : YieldsG P ops W o v a' := by
  unfold YieldsG grows at *
  rw [he, hw]
  exact hy
theorem yieldsG_of_gOp {i : Nat} {o : Oper} {a : Act} {K : Act → Prop} (hi : ops[i]? = some o) (h : gOp P ops W i K a) : ∃ v, YieldsG P ops W o v a ∧ K (a.put o.dst v) := by
  unfold gOp at h
  simp only [hi] at h
  by_cases hw : Region.wanted o (yielded ops a.tmps) = true
  · simp only [hw, if_true] at h
    obtain ⟨v, h1, h2⟩ := h
    exact ⟨v, .inl ⟨hw, h1⟩, h2⟩
  · simp only [hw] at h
    exact ⟨undef, .inr ⟨by simpa using hw, rfl⟩, h⟩
theorem gOp_mono {i : Nat} {a : Act} {K K' : Act → Prop} (h : ∀ a, K a → K' a) (hh : gOp P ops W i K a) : gOp P ops W i K' a := by
  unfold gOp at *
  split
  · simp [*] at hh
  · rename_i o ho
    simp only [ho] at hh
    split
    · rename_i hw; simp only [hw, if_true] at hh; obtain ⟨v, h1, h2⟩ := hh; exact ⟨v, h1, h _ h2⟩
    · rename_i hw; simp only [hw] at hh; exact h _ hh
theorem gOp_put {j : Nat} {oi oj : Oper} {v : Value} (hj : ops[j]? = some oj) (hap : oi.apart ops oj = true) (hsi : ∀ cs b, oi.op ≠ .select cs b) (hsj : ∀ cs b, oj.op ≠ .select cs b) {K : Act → Prop} {a : Act}
    (hy : YieldsG P ops W oi v a) (h : gOp P ops W j K (a.put oi.dst v)) : gOp P ops W j (fun a' => YieldsG P ops W oi v a' ∧ K (a'.put oi.dst v)) a := by
  obtain ⟨h1, h2, h3⟩ := Oper.apart_spec hap
  have keep : ∀ u, YieldsG P ops W oi v (a.put oj.dst u) := fun u => hy.of_same (execOp_put oi hsi a oj.dst u h3) (wanted_put oi a oj.dst u h3)
  obtain ⟨u, hu, hK⟩ := yieldsG_of_gOp hj h
  have hu' : YieldsG P ops W oj u a := hu.of_same (execOp_put oj hsj a oi.dst v h1).symm (wanted_put oj a oi.dst v h1).symm
  exact hu'.gOp hj ⟨keep u, by rw [← Act.put_comm a v u h2]; exact hK⟩

/-- the first q operations in whatever order; A: the state behind them -/
def gAny (P : Program) (md : Region.Mode) (ops : Array Oper) (W : World) (q : Nat) (A : Act) : Nat → Array Bool → Act → Prop
  | 0, listed, a => (∀ j, j < q → listed.getD j false = true) ∧ a = A
  | f + 1, listed, a => (∃ i, i ∈ Region.ready md ops listed ∧ i < q) ∧ ∀ i ∈ Region.ready md ops listed, i < q → gOp P ops W i (gAny P md ops W q A f (listed.setIfInBounds i true)) a

theorem gAny_first {q i : Nat} {A : Act} {oi : Oper} {v : Value} (hi : ops[i]? = some oi) (hsel : ∀ (j : Nat) (o : Oper) cs b, ops[j]? = some o → o.op ≠ .select cs b) (hiq : i < q) :
    ∀ (f : Nat) (listed : Array Bool) (a : Act),
      (∀ j oj, ops[j]? = some oj → j ≠ i → listed.getD j true = false → (∀ e ∈ oj.after, Region.binds md e = true → e.on ≠ i) → oi.apart ops oj = true) →
      i ∈ Region.ready md ops listed → YieldsG P ops W oi v a → gAny P md ops W q A f (listed.setIfInBounds i true) (a.put oi.dst v) → gAny P md ops W q A (f + 1) listed a := by
  intro f
  induction f with
  | zero =>
    intro listed a _ hr hy H
    refine ⟨⟨i, hr, hiq⟩, fun j hj hjq => ?_⟩
    by_cases hji : j = i
    · subst hji; exact hy.gOp hi H
    · have h1 := H.1 j hjq
      rw [getD_set_ne false (Ne.symm hji)] at h1
      rw [getD_both (mem_ready.1 hj).1] at h1
      cases h1
  | succ f ih =>
    intro listed a hfree hr hy H
    have hun := (mem_ready.1 hr).1
    refine ⟨⟨i, hr, hiq⟩, fun j hj hjq => ?_⟩
    by_cases hji : j = i
    · subst hji; exact hy.gOp hi H
    · obtain ⟨hjun, oj, hoj, hall⟩ := mem_ready.1 hj
      have hnot : ∀ e ∈ oj.after, Region.binds md e = true → e.on ≠ i := fun e he hb heq => by
        have h1 := hall e he hb
        rw [heq, getD_both hun] at h1
        cases h1
      have h2 := gOp_put hoj (hfree j oj hoj hji hjun hnot) (fun cs b => hsel i oi cs b hi) (fun cs b => hsel j oj cs b hoj) hy (H.2 j (ready_mono hj hji) hjq)
      refine gOp_mono (fun a' h3 => ih (listed.setIfInBounds j true) a' (fun k ok hk hki hu hno => hfree k ok hk hki ?_ hno) (ready_mono hr (Ne.symm hji)) h3.1 ?_) h2
      · by_cases hjk : j = k
        · subst hjk; exact hjun
        · rwa [getD_set_ne true hjk] at hu
      · rw [Array.setIfInBounds_comm _ _ hji]
        exact h3.2

def lexQ (md : Region.Mode) (ops : Array Oper) : Nat → Nat → Array Bool → Bool
  | 0, _, _ => true
  | f + 1, k, listed => (Region.ready md ops listed).contains k && Region.free md ops listed k && lexQ md ops f (k + 1) (listed.setIfInBounds k true)

theorem gAny_lex {q : Nat} {A : Act} (hsel : Region.noSelect ops = true) : ∀ (l : List Oper) (k : Nat) (listed : Array Bool) (a : Act), (∀ j, j < l.length → l[j]? = ops[k + j]?) → k + l.length = q →
    (∀ j, j < k → listed.getD j false = true) → lexQ md ops l.length k listed = true → wpGrow P ops W A l a → gAny P md ops W q A l.length listed a := by
  intro l
  induction l with
  | nil =>
    intro k listed a _ hk hdone _ h
    obtain rfl : k = q := by simpa using hk
    exact ⟨hdone, h⟩
  | cons o l ih =>
    intro k listed a hl hk hdone hB h
    have h0 : ops[k]? = some o := by simpa using (hl 0 (by simp)).symm
    simp only [List.length_cons, lexQ, Bool.and_eq_true] at hB
    obtain ⟨⟨hr, hf⟩, hB'⟩ := hB
    simp only [List.length_cons] at hk
    have hr' : k ∈ Region.ready md ops listed := by simpa using hr
    have hst : gOp P ops W k (wpGrow P ops W A l) a := by unfold gOp; simp only [h0]; exact h
    obtain ⟨v, hy, hK⟩ := yieldsG_of_gOp h0 hst
    refine gAny_first h0 (Region.noSelect_spec hsel) (by omega) l.length listed a (Region.free_spec h0 hf) hr' hy
      (ih (k + 1) _ _ (fun j hj => by have := hl (j + 1) (by simp; omega); simpa [Nat.add_assoc, Nat.add_comm 1 j] using this) (by omega) (fun j hj => ?_) hB' hK)
    by_cases hjk : j = k
    · subst hjk
      have hu := (mem_ready.1 hr').1
      have hs : j < listed.size := by
        rcases Nat.lt_or_ge j listed.size with h' | h'
        · exact h'
        · simp [Array.getElem?_eq_none h'] at hu
      simp [hs]
    · exact getD_set_true (hdone j (by omega))

theorem gAny_more {q t : Nat} {A : Act} (ht : q ≤ t) (hq : ∀ i o, i < q → ops[i]? = some o → ∀ e ∈ o.after, Region.binds md e = true → e.on < q) :
    ∀ (f : Nat) (listed : Array Bool) (a : Act), gAny P md ops W q A f listed a → gAny P md ops W q A f (listed.setIfInBounds t true) a := by
  intro f
  induction f with
  | zero => intro listed a h; exact ⟨fun j hj => getD_set_true (h.1 j hj), h.2⟩
  | succ f ih =>
    intro listed a H
    obtain ⟨⟨i, hi, hiq⟩, hall⟩ := H
    refine ⟨⟨i, ready_mono hi (by omega), hiq⟩, fun j hj hjq => ?_⟩
    have hj' : j ∈ Region.ready md ops listed := by
      obtain ⟨h0, o, ho, h1⟩ := mem_ready.1 hj
      rw [getD_set_ne true (by omega)] at h0
      refine mem_ready.2 ⟨h0, o, ho, fun e he hb => ?_⟩
      have h2 := h1 e he hb
      rwa [getD_set_ne false (by have := hq j o hjq ho e he hb; omega)] at h2
    refine gOp_mono (fun a' h' => ?_) (hall j hj' hjq)
    rw [Array.setIfInBounds_comm _ _ (show t ≠ j by omega)]
    exact ih _ _ h'

/-! ### what is laid -/
/-- the slots of what has been laid -/
def laySlots (al : Nat → Nat) (s : Nat → Option Nat) : Nat → Act → Act
  | 0, a => a
  | j + 1, a => match s j with
    | some g => (laySlots al s j a).put (some (al j)) (.pointer (some ⟨g, 0, none⟩))
    | none => laySlots al s j a
theorem lay_put {al : Nat → Nat} {s : Nat → Option Nat} (d : Option Tmp) (v : Value) (a : Act) : ∀ k, (∀ j, j < k → d ≠ some (al j)) → laySlots al s k (a.put d v) = (laySlots al s k a).put d v := by
  intro k
  induction k with
  | zero => intro _; rfl
  | succ k ih =>
    intro h
    simp only [laySlots]
    cases s k with
    | none => exact ih fun j hj => h j (by omega)
    | some g =>
      simp only
      rw [ih fun j hj => h j (by omega)]
      exact Act.put_comm _ v _ fun e he h' => h k (by omega) (he.trans h'.symm)
theorem lay_congr {al : Nat → Nat} {s s' : Nat → Option Nat} (a : Act) : ∀ k, (∀ j, j < k → s j = s' j) → laySlots al s k a = laySlots al s' k a := by
  intro k
  induction k with
  | zero => intro _; rfl
  | succ k ih => intro h; simp only [laySlots]; rw [h k (by omega), ih fun j hj => h j (by omega)]
def upd (s : Nat → Option Nat) (j g : Nat) : Nat → Option Nat := fun x => if x = j then some g else s x
theorem lay_upd {al : Nat → Nat} {s : Nat → Option Nat} {j g : Nat} (a : Act) (hs : s j = none) : ∀ k, j < k → (∀ x, x < k → x ≠ j → al x ≠ al j) →
    laySlots al (upd s j g) k a = (laySlots al s k a).put (some (al j)) (.pointer (some ⟨g, 0, none⟩)) := by
  intro k
  induction k with
  | zero => intro h; omega
  | succ k ih =>
    intro hj hd
    simp only [laySlots]
    by_cases e : j = k
    · subst e
      rw [show upd s j g j = some g from by simp [upd], hs]
      simp only
      rw [lay_congr (s' := s) a j (fun x hx => by simp [upd]; omega)]
    · rw [show upd s j g k = s k from by simp [upd]; omega]
      cases hk : s k with
      | none => exact ih (by omega) fun x hx => hd x (by omega)
      | some g' =>
        simp only
        rw [ih (by omega) fun x hx => hd x (by omega)]
        exact Act.put_comm _ _ _ fun d h1 h2 => hd k (by omega) (Ne.symm e) ((Option.some.inj h2).trans (Option.some.inj h1).symm)
theorem lay_exec {al : Nat → Nat} {s : Nat → Option Nat} (o : Oper) (hs : ∀ cs b, o.op ≠ .select cs b) (a : Act) : ∀ k, (∀ j, j < k → al j ∉ o.looksAt ops) →
    execOp (laySlots al s k a).eval o = execOp a.eval o ∧ Region.wanted o (yielded ops (laySlots al s k a).tmps) = Region.wanted o (yielded ops a.tmps) := by
  intro k
  induction k with
  | zero => intro _; exact ⟨rfl, rfl⟩
  | succ k ih =>
    intro h
    obtain ⟨h1, h2⟩ := ih fun j hj => h j (by omega)
    simp only [laySlots]
    cases s k with
    | none => exact ⟨h1, h2⟩
    | some g =>
      simp only
      have hk : ∀ d, some (al k) = some d → d ∉ o.looksAt ops := fun d hd => by rw [← Option.some.inj hd]; exact h k (by omega)
      exact ⟨(execOp_put (ops := ops) o hs _ _ _ hk).trans h1, (wanted_put (ops := ops) o _ _ _ hk).trans h2⟩
/-- how many are still to be laid -/
def rest (s : Nat → Option Nat) : Nat → Nat
  | 0 => 0
  | j + 1 => rest s j + match s j with | some _ => 0 | none => 1
theorem rest_zero {s : Nat → Option Nat} : ∀ k, rest s k = 0 → ∀ j, j < k → ∃ g, s j = some g := by
  intro k
  induction k with
  | zero => intro _ j hj; omega
  | succ k ih =>
    intro h j hj
    simp only [rest] at h
    by_cases e : j = k
    · subst e; cases hs : s j with
      | none => rw [hs] at h; simp at h
      | some g => exact ⟨g, rfl⟩
    · exact ih (by omega) j (by omega)
theorem rest_pos {s : Nat → Option Nat} : ∀ k, 0 < rest s k → ∃ j, j < k ∧ s j = none := by
  intro k
  induction k with
  | zero => intro h; simp [rest] at h
  | succ k ih =>
    intro h
    simp only [rest] at h
    cases hs : s k with
    | none => exact ⟨k, by omega, hs⟩
    | some g => rw [hs] at h; obtain ⟨j, hj, h'⟩ := ih (by simpa using h); exact ⟨j, by omega, h'⟩
theorem rest_congr {s s' : Nat → Option Nat} : ∀ k, (∀ j, j < k → s j = s' j) → rest s k = rest s' k := by
  intro k
  induction k with
  | zero => intro _; rfl
  | succ k ih => intro h; simp only [rest]; rw [h k (by omega), ih fun j hj => h j (by omega)]
theorem rest_upd {s : Nat → Option Nat} {j g : Nat} (hs : s j = none) : ∀ k, j < k → rest (upd s j g) k + 1 = rest s k := by
  intro k
  induction k with
  | zero => intro h; omega
  | succ k ih =>
    intro hj
    simp only [rest]
    by_cases e : j = k
    · subst e
      rw [show upd s j g j = some g from by simp [upd], hs, rest_congr (s' := s) j (fun x hx => by simp [upd]; omega)]
      rfl
    · rw [show upd s j g k = s k from by simp [upd]; omega]
      have := ih (by omega)
      omega

theorem any_of_grow {q k : Nat} {A : Act} {al : Nat → Nat} {zs : Nat → Array Value} {Q : Exit → Act → World → Prop} {tail : List Oper}
    (hsel : Region.noSelect ops = true) (hs : Region.sinkB md ops (q + k) = true) (hc : Region.chainB md ops (q + k) = true) (hn : q + k < ops.size) (htl : ∀ j, tail[j]? = ops[q + k + j]?)
    (hal : ∀ j, j < k → ∃ o T, ops[q + j]? = some o ∧ o.dst = some (al j) ∧ o.guard = none ∧ (∀ e ∈ o.after, Region.binds md e = false) ∧ ∀ (a : Act) (w : World), (execOp a.eval o).run P w = .ok (.value (.pointer (some ⟨w.heap.size, 0, none⟩))) (w.alloc (.cells (zs j) T)))
    (hd : ∀ j j', j < k → j' < k → j ≠ j' → al j ≠ al j')
    (hq : ∀ i o, i < q → ops[i]? = some o → (∀ e ∈ o.after, Region.binds md e = true → e.on < q) ∧ ∀ j, j < k → al j ∉ o.looksAt ops ∧ o.dst ≠ some (al j))
    (hseq : ∀ listed : Array Bool, listed.size = ops.size → (∀ j, j < q + k → listed.getD j false = true) → (∀ t, q + k ≤ t → t < ops.size → listed.getD t true = false) → Region.seqB md ops tail.length (q + k) listed = true)
    (htail : ∀ (gs : Nat → Nat) (w' : World), Below W.heap.size W w' → (∀ j, j < k → Blk w' (gs j) (zs j) ∧ W.heap.size ≤ gs j) → (∀ j j', j < k → j' < k → j ≠ j' → gs j ≠ gs j') → wpList P ops Q tail (laySlots al (fun j => some (gs j)) k A) w') :
    ∀ (F f : Nat) (listed : Array Bool) (a0 : Act) (s : Nat → Option Nat) (w : World), F = f + rest s k → HeadInv md ops (q + k) listed → Below W.heap.size W w → gAny P md ops W q A f listed a0 →
      (∀ j, j < k → listed.getD (q + j) false = (s j).isSome) → (∀ j g, j < k → s j = some g → Blk w g (zs j) ∧ W.heap.size ≤ g) → (∀ j j' g g', j < k → j' < k → j ≠ j' → s j = some g → s j' = some g' → g ≠ g') →
      wpAny P md ops Q (F + tail.length) listed (laySlots al s k a0) w := by
  intro F
  induction F with
  | zero =>
    intro f listed a0 s w hF inv hb hg hbits hblk hdist
    have hf0 : f = 0 := by omega
    subst hf0
    have hr := rest_zero (s := s) k (by omega)
    obtain ⟨hg1, rfl⟩ := hg
    rw [Nat.zero_add]
    have e : laySlots al s k a0 = laySlots al (fun j => some ((s j).getD 0)) k a0 := lay_congr a0 k fun j hj => by obtain ⟨g, hg⟩ := hr j hj; rw [hg]; rfl
    rw [e]
    refine wpAny_of_seq tail (q + k) listed _ w htl (hseq listed inv.size (fun j hj => ?_) inv.tail) (htail _ w hb (fun j hj => ?_) fun j j' hj hj' hne => ?_)
    · rcases Nat.lt_or_ge j q with h | h
      · exact hg1 j h
      · have := hbits (j - q) (by omega)
        rw [show q + (j - q) = j from by omega] at this
        rw [this]
        obtain ⟨g, hg⟩ := hr (j - q) (by omega)
        rw [hg]; rfl
    · obtain ⟨g, hg⟩ := hr j hj
      have := hblk j g hj hg
      rw [hg]; exact this
    · obtain ⟨g, hg⟩ := hr j hj
      obtain ⟨g', hg'⟩ := hr j' hj'
      have := hdist j j' g g' hj hj' hne hg hg'
      rw [hg, hg']; exact this
  | succ F ih =>
    intro f listed a0 s w hF inv hb hg hbits hblk hdist
    rw [show F + 1 + tail.length = (F + tail.length) + 1 from by omega]
    have hbit : ∀ j, j < k → s j = none → listed.getD (q + j) true = false := fun j hj hsj => by
      have := hbits j hj
      rw [hsj] at this
      exact getD_in (by rw [inv.size]; omega) this
    have hready : ∃ u, u ∈ Region.ready md ops listed ∧ u < q + k := by
      cases f with
      | succ f => obtain ⟨⟨i, hi, hiq⟩, _⟩ := hg; exact ⟨i, hi, by omega⟩
      | zero =>
        obtain ⟨j, hj, hsj⟩ := rest_pos k (show 0 < rest s k by omega)
        obtain ⟨o, T, ho, _, _, hafter, _⟩ := hal j hj
        exact ⟨q + j, mem_ready.2 ⟨hbit j hj hsj, o, ho, fun e he hbd => by rw [hafter e he] at hbd; cases hbd⟩, by omega⟩
    obtain ⟨u, hu, huk⟩ := hready
    refine ⟨fun h0 => absurd hu (by rw [h0]; simp), fun i hi => ?_⟩
    have hin : i < q + k := Nat.lt_of_not_le fun h => tail_waits hs hc hn inv _ u rfl huk (mem_ready.1 hu).1 i h hi
    obtain ⟨hiun, o, ho, _⟩ := mem_ready.1 hi
    have inv' := inv.set hi hin
    rcases Nat.lt_or_ge i q with hiq | hiq
    · cases f with
      | zero =>
        have := hg.1 i hiq
        rw [getD_both hiun] at this
        cases this
      | succ f =>
        obtain ⟨v, hy, hK⟩ := yieldsG_of_gOp ho (hg.2 i hi hiq)
        obtain ⟨hq1, hq2⟩ := hq i o hiq ho
        obtain ⟨he, hw⟩ := lay_exec (s := s) o (fun cs b => Region.noSelect_spec hsel i o cs b ho) a0 k fun j hj => (hq2 j hj).1
        have hput : ∀ v, laySlots al s k (a0.put o.dst v) = (laySlots al s k a0).put o.dst v := fun v => lay_put o.dst v a0 k fun j hj => (hq2 j hj).2
        have hbits' : ∀ j, j < k → (listed.setIfInBounds i true).getD (q + j) false = (s j).isSome := fun j hj => by rw [getD_set_ne false (by omega)]; exact hbits j hj
        unfold wpOp
        simp only [ho]
        rw [hw]
        rcases hy with ⟨hwt, hgr⟩ | ⟨hwt, rfl⟩
        · rw [if_pos hwt]
          refine .inl (wp_of_grow (v := v) (by rw [he]; exact hgr w hb) fun w' hb' => ?_)
          rw [← hput]
          exact ih f _ _ s w' (by omega) inv' (ext_below hb hb') hK hbits' (fun j g hj hsj => ⟨(hblk j g hj hsj).1.below hb', (hblk j g hj hsj).2⟩) hdist
        · rw [if_neg (by rw [hwt]; exact Bool.false_ne_true), ← hput]
          exact ih f _ _ s w (by omega) inv' hb hK hbits' hblk hdist
    · obtain ⟨j, rfl⟩ : ∃ j, i = q + j := ⟨i - q, by omega⟩
      have hj : j < k := by omega
      obtain ⟨o', T, ho', hdst, hgd, _, hrun⟩ := hal j hj
      obtain rfl : o' = o := Option.some.inj (ho'.symm.trans ho)
      have hsj : s j = none := by
        have := hbits j hj
        rw [getD_both hiun] at this
        cases h : s j with
        | none => rfl
        | some g => rw [h] at this; cases this
      unfold wpOp
      simp only [ho]
      rw [if_pos (by simp [Region.wanted, hgd])]
      left
      unfold Oper.wp
      rw [hrun, Oper.upon_value, hdst, ← lay_upd a0 hsj k hj fun x hx hne => hd x j hx hj hne]
      have hru := rest_upd (g := w.heap.size) hsj k hj
      refine ih f _ _ (upd s j w.heap.size) _ (by omega) inv' (ext_alloc hb _) (gAny_more (by omega) (fun i o hi ho => (hq i o hi ho).1) f _ _ hg) (fun x hx => ?_) (fun x g hx hsx => ?_) fun x x' g g' hx hx' hne h1 h2 => ?_
      · by_cases e : x = j
        · subst e
          have hsz : q + x < listed.size := by rw [inv.size]; omega
          simp [upd, hsz]
        · rw [getD_set_ne false (by omega), hbits x hx]; simp [upd, e]
      · by_cases e : x = j
        · subst e
          obtain rfl : w.heap.size = g := by simpa [upd] using hsx
          exact ⟨Blk.fresh _ _ _, hb.size⟩
        · have hsx' : s x = some g := by simpa [upd, e] using hsx
          exact ⟨(hblk x g hx hsx').1.alloc _, (hblk x g hx hsx').2⟩
      · by_cases e : x = j
        · subst e
          obtain rfl : w.heap.size = g := by simpa [upd] using h1
          have h2' : s x' = some g' := by simpa [upd, Ne.symm hne] using h2
          have := (hblk x' g' hx' h2').1.lt
          omega
        · have h1' : s x = some g := by simpa [upd, e] using h1
          by_cases e' : x' = j
          · subst e'
            obtain rfl : w.heap.size = g' := by simpa [upd] using h2
            have := (hblk x g hx h1').1.lt
            omega
          · exact hdist x x' g g' hx hx' hne h1' (by simpa [upd, e'] using h2)

/-! ### the region -/
def canon (n size : Nat) : Array Bool := (Array.range size).map fun i => decide (i < n)
theorem canon_spec {n size : Nat} {listed : Array Bool} (hs : listed.size = size) (h1 : ∀ j, j < n → listed.getD j false = true) (h2 : ∀ t, n ≤ t → t < size → listed.getD t true = false) : listed = canon n size := by
  apply Array.ext
  · simp [canon, hs]
  · intro i hi1 hi2
    have hi : i < size := by omega
    rcases Nat.lt_or_ge i n with h | h
    · have := h1 i h
      simp [hi1] at this
      simp [canon, this, h]
    · have := h2 i h hi
      simp [hi1] at this
      simp [canon, this]; omega
def growB (md : Region.Mode) (l : List Oper) (q N : Nat) (als : List Nat) : Bool :=
  let ops := l.toArray
  Region.noSelect ops && decide (q + als.length < ops.size) && Region.sinkB md ops (q + als.length) && Region.chainB md ops (q + als.length) && lexQ md ops q 0 (Array.replicate ops.size false) &&
  Region.seqB md ops (ops.size - (q + als.length)) (q + als.length) (canon (q + als.length) ops.size) && ((List.range als.length).all fun j => (List.range als.length).all fun j' => j == j' || als.getD j 0 != als.getD j' 0) &&
  (List.range q).all (fun i => match ops[i]? with
    | some o => o.after.all (fun e => !Region.binds md e || decide (e.on < q)) && als.all (fun d => !(o.looksAt ops).contains d && o.dst != some d) && (match o.dst with | some d => decide (d < N) | none => false)
    | none => false) &&
  (List.range als.length).all (fun j => match ops[q + j]? with
    | some o => o.dst == some (als.getD j 0) && o.guard.isNone && o.after.all (fun e => !Region.binds md e)
    | none => false) &&
  decide (((l.take q).filterMap (·.dst)).Nodup)

/-- **A region that draws its order and lays new variables**: its first q operations are walked once, in the order of the text; the next ones lay; the tail is walked at whatever addresses. -/
theorem region_grow {id : Nat} {Q : Exit → Act → World → Prop} {a A : Act} {w : World} {l : List Oper} (q : Nat) (als : List Nat) (zs : Nat → Array Value) (hm : P.follows .mixedOrders = true) (hB : growB .any l q a.tmps.size als = true)
    (hrun : ∀ j, j < als.length → ∃ o T, l[q + j]? = some o ∧ ∀ (a : Act) (w : World), (execOp a.eval o).run P w = .ok (.value (.pointer (some ⟨w.heap.size, 0, none⟩))) (w.alloc (.cells (zs j) T)))
    (h : ∀ w0, Below w.heap.size w w0 → wpQuiet P l.toArray (fun w' => ∃ m, w' = more w0 m) (fun a' => a' = A) (l.take q) a)
    (htail : ∀ (gs : Nat → Nat) (w' : World), Below w.heap.size w w' → (∀ j, j < als.length → Blk w' (gs j) (zs j) ∧ w.heap.size ≤ gs j) → (∀ j j', j < als.length → j' < als.length → j ≠ j' → gs j ≠ gs j') →
      wpList P l.toArray Q (l.drop (q + als.length)) (laySlots (fun j => als.getD j 0) (fun j => some (gs j)) als.length A) w') : (Code.region id l.toArray true).wp P Q a w := by
  simp only [growB, Bool.and_eq_true, decide_eq_true_eq, List.all_eq_true, List.mem_range] at hB
  obtain ⟨⟨⟨⟨⟨⟨⟨⟨⟨hsel, hn⟩, hs⟩, hc⟩, hlex⟩, hseq⟩, hnd⟩, hqs⟩, hls⟩, hdn⟩ := hB
  have hnl : q + als.length < l.length := by simpa using hn
  refine wp_region_any hm ?_
  have hb1 : Below w.heap.size w { w with drawn := w.drawn + 1 } := by have := (Below.refl w.heap.size w).drew; exact this
  have hgrow : wpGrow P l.toArray w A (l.take q) a := grow_of_quiet _ _ hdn (fun o ho => by
    obtain ⟨i, hi, rfl⟩ := List.mem_iff_getElem.1 ho
    have hi' : i < q := by simp at hi; omega
    have h1 := hqs i hi'
    have hil : i < l.length := by omega
    rw [show l.toArray[i]? = some ((l.take q)[i]) from by simp [hil]] at h1
    simp only [Bool.and_eq_true] at h1
    have h2 := h1.2
    cases hd : ((l.take q)[i]).dst with
    | none => rw [hd] at h2; cases h2
    | some d => rw [hd] at h2; exact ⟨d, rfl, by simpa using h2⟩) h
  have hany := gAny_lex (md := .any) (q := q) hsel (l.take q) 0 (Array.replicate l.toArray.size false) a (fun j hj => by
    have hj' : j < q := by simp at hj; omega
    simp [hj']) (by simp; omega) (by intro j hj; omega) (by rw [List.length_take_of_le (by omega)]; exact hlex) hgrow
  rw [List.length_take_of_le (by omega)] at hany
  have inv0 : HeadInv .any l.toArray (q + als.length) (Array.replicate l.toArray.size false) :=
    ⟨by simp, fun j oj _ hl => (by rw [getD_replicate_false] at hl; cases hl), fun t _ ht => getD_in (by simpa using ht) (getD_replicate_false _ _)⟩
  have hrest : ∀ k, rest (fun _ => none) k = k := by
    intro k; induction k with
    | zero => rfl
    | succ k ih => simp only [rest, ih]
  have hlay : ∀ k, laySlots (fun j => als.getD j 0) (fun _ => none) k a = a := by
    intro k; induction k with
    | zero => rfl
    | succ k ih => simp only [laySlots, ih]
  have key := any_of_grow (P := P) (md := .any) (W := w) (q := q) (k := als.length) (A := A) (al := fun j => als.getD j 0) (zs := zs) (Q := Q) (tail := l.drop (q + als.length)) hsel hs hc hn (fun j => by simp [List.getElem?_drop])
    (fun j hj => by
      obtain ⟨o, T, ho, hr⟩ := hrun j hj
      have h1 := hls j hj
      rw [show l.toArray[q + j]? = some o from by simpa using ho] at h1
      simp only [Bool.and_eq_true, beq_iff_eq, Option.isNone_iff_eq_none, Array.all_eq_true', Bool.not_eq_true'] at h1
      exact ⟨o, T, by simpa using ho, h1.1.1, h1.1.2, h1.2, hr⟩)
    (fun j j' hj hj' hne he => by
      have := hnd j hj j' hj'
      simp only [Bool.or_eq_true, beq_iff_eq, bne_iff_ne, ne_eq] at this
      exact this.elim hne fun h' => h' he)
    (fun i o hi ho => by
      have h1 := hqs i hi
      rw [ho] at h1
      simp only [Bool.and_eq_true, Array.all_eq_true', List.all_eq_true, Bool.or_eq_true, Bool.not_eq_true', decide_eq_true_eq, bne_iff_ne, ne_eq] at h1
      refine ⟨fun e he hb => (h1.1.1 e he).resolve_left (by rw [hb]; simp), fun j hj => ?_⟩
      have hmem : als.getD j 0 ∈ als := by simp [List.getD_eq_getElem?_getD, List.getElem?_eq_getElem hj]
      have := h1.1.2 _ hmem
      exact ⟨by simpa using this.1, this.2⟩)
    (fun listed h1 h2 h3 => by rw [canon_spec h1 h2 h3]; simpa using hseq) htail
    (q + als.length) q (Array.replicate l.toArray.size false) a (fun _ => none) { w with drawn := w.drawn + 1 } (by rw [hrest]) inv0 hb1 hany (fun j _ => getD_replicate_false _ _) (fun j g _ h => by cases h) (fun j j' g g' _ _ _ h => by cases h)
  rw [hlay] at key
  have e : q + als.length + (l.drop (q + als.length)).length = l.toArray.size := by simp; omega
  rw [e] at key
  exact key
/-- the world at hand made a variable -/
theorem wp_fresh {c : Code} {Q : Exit → Act → World → Prop} {a : Act} {w : World} (h : ∀ w', Below w.heap.size w w' → c.wp P Q a w') : c.wp P Q a w := h w (Below.refl _ _)
end
end Go.Proofs.YtniahipadfgkbaaGreat
namespace Go.Proofs.YtniahipadfgkbaaGreat
open Go Go.RowKit
section
variable {P : Program} {md : Region.Mode} {Q : Exit → Act → World → Prop}
/-- an operation that only copies -/
def pureB (o : Oper) : Bool := o.guard.isNone && (match o.op with | .extract _ _ => true | .move _ => true | _ => false)
theorem pure_of_wp {ops : Array Oper} {i : Nat} {o : Oper} {a : Act} {w : World} {K : Act → World → Prop} (hi : ops[i]? = some o) (hp : pureB o = true) (h : wpOp P ops Q i K a w) : ∃ v, Yields P ops o v a ∧ K (a.put o.dst v) w := by
  unfold pureB at hp
  simp only [Bool.and_eq_true, Option.isNone_iff_eq_none] at hp
  obtain ⟨hg, hk⟩ := hp
  have hw : Region.wanted o (yielded ops a.tmps) = true := by simp [Region.wanted, hg]
  unfold wpOp at h
  simp only [hi, hw, if_true] at h
  obtain ⟨dst, op, type, pos, after, guard⟩ := o
  simp only at hk hg
  cases op <;> simp only [] at hk <;> try (cases hk; done)
  case move x =>
    refine ⟨a.eval x, .inl ⟨hw, fun w => rfl⟩, ?_⟩
    rcases h with h | ⟨⟨h, _⟩, _⟩
    · exact h
    · exact absurd (show noRoomEvent ∈ (#[] : Array Event) from h) (by simp)
  case extract x n =>
    have key : ∀ t : Value, (Instr.extract t n = stuck "Extract: no such component") ∨ (Instr.extract t n = stuck "Extract: tuple expected") ∨ ∃ v, Instr.extract t n = pure v := by
      intro t
      unfold Instr.extract
      cases t with
      | tuple vs =>
        simp only []
        cases vs[n]? with
        | none => exact .inl rfl
        | some v => exact .inr (.inr ⟨v, rfl⟩)
      | _ => exact .inr (.inl rfl)
    have he : execOp a.eval ⟨dst, .extract x n, type, pos, after, guard⟩ = (do pure (.value (← Instr.extract (a.eval x) n))) := rfl
    rcases key (a.eval x) with h0 | h0 | ⟨v, h0⟩
    · exfalso
      rcases h with h | ⟨⟨h, _⟩, _⟩
      · unfold Oper.wp at h; rw [he, h0] at h; exact h
      · rw [he, h0] at h; exact absurd (show noRoomEvent ∈ (#[] : Array Event) from h) (by simp)
    · exfalso
      rcases h with h | ⟨⟨h, _⟩, _⟩
      · unfold Oper.wp at h; rw [he, h0] at h; exact h
      · rw [he, h0] at h; exact absurd (show noRoomEvent ∈ (#[] : Array Event) from h) (by simp)
    · refine ⟨v, .inl ⟨hw, fun w => by rw [he, h0]; rfl⟩, ?_⟩
      rcases h with h | ⟨⟨h, _⟩, _⟩
      · unfold Oper.wp at h; rw [he, h0] at h; exact h
      · rw [he, h0] at h; exact absurd (show noRoomEvent ∈ (#[] : Array Event) from h) (by simp)

/-- more edges: what stands from t0 on waits for those of L -/
def lateE (L : List Nat) (t0 : Nat) (l : List Oper) : List Oper := l.mapIdx fun j o => if t0 ≤ j then { o with after := o.after ++ (L.map fun i => ({ on := i, ground := .data } : Edge)).toArray } else o
/-- what an operation waits for -/
def waitsFor (md : Region.Mode) (n : Nat) (o : Oper) : Array Bool := ((List.range n).map fun j => o.after.any fun e => Region.binds md e && e.on == j).toArray
def lateB (md : Region.Mode) (L : List Nat) (t0 : Nat) (l : List Oper) : Bool :=
  Region.noSelect l.toArray && L.all (fun i => decide (i < t0) && (match l[i]? with
    | some o => pureB o && Region.free md l.toArray (waitsFor md l.length o) i && (List.range l.length).all fun j => decide (j < t0) || (match l[j]? with
        | some oj => o.after.all fun e => !Region.binds md e || oj.after.any fun e' => Region.binds md e' && e'.on == e.on
        | none => false)
    | none => false))

theorem lateE_get {L : List Nat} {t0 : Nat} {l : List Oper} {j : Nat} {o : Oper} (h : l[j]? = some o) : (lateE L t0 l)[j]? = some (if t0 ≤ j then { o with after := o.after ++ (L.map fun i => ({ on := i, ground := .data } : Edge)).toArray } else o) := by
  unfold lateE
  simp [h]
theorem lateE_none {L : List Nat} {t0 : Nat} {l : List Oper} {j : Nat} (h : l[j]? = none) : (lateE L t0 l)[j]? = none := by
  unfold lateE
  simpa using h
theorem yielded_late {L : List Nat} {t0 : Nat} {l : List Oper} (tmps : Array Value) (g : Nat) : yielded (lateE L t0 l).toArray tmps g = yielded l.toArray tmps g := by
  unfold yielded
  have e : (((lateE L t0 l).toArray)[g]?).bind (·.dst) = ((l.toArray)[g]?).bind (·.dst) := by
    cases h : l[g]? with
    | none => simp [lateE_none h, h]
    | some o => simp only [List.getElem?_toArray, lateE_get h, h, Option.bind_some]; split <;> rfl
  rw [e]
theorem wpOp_late {L : List Nat} {t0 : Nat} {l : List Oper} {j : Nat} {K : Act → World → Prop} {a : Act} {w : World} (h : wpOp P (lateE L t0 l).toArray Q j K a w) : wpOp P l.toArray Q j K a w := by
  have hy : ∀ tm, yielded (lateE L t0 l).toArray tm = yielded l.toArray tm := fun tm => funext fun g => yielded_late tm g
  unfold wpOp at *
  cases ho : l[j]? with
  | none => simpa [lateE_none ho, ho] using h
  | some o =>
    simp only [List.getElem?_toArray, lateE_get ho, ho, hy] at h ⊢
    split at h
    · exact h
    · exact h
/-- the orders in which those of L come early are enough -/
theorem wpAny_late {L : List Nat} {t0 : Nat} {l : List Oper} (hb : lateB .any L t0 l = true) (hQ : ∀ c (a : Act) d v w, Q (.panic c) (a.put d v) w → Q (.panic c) a w) :
    ∀ (f : Nat) (listed : Array Bool) (a : Act) (w : World), listed.size = l.length → wpAny P .any (lateE L t0 l).toArray Q f listed a w → wpAny P .any l.toArray Q f listed a w := by
  simp only [lateB, Bool.and_eq_true, List.all_eq_true, decide_eq_true_eq] at hb
  obtain ⟨hsel, hL⟩ := hb
  -- what is ready with the new edges
  have ready' : ∀ (listed : Array Bool) (j : Nat), j ∈ Region.ready .any l.toArray listed → (t0 ≤ j → ∀ i ∈ L, listed.getD i false = true) → j ∈ Region.ready .any (lateE L t0 l).toArray listed := by
    intro listed j hj hl
    obtain ⟨h0, o, ho, hall⟩ := mem_ready.1 hj
    refine mem_ready.2 ⟨h0, _, by simpa using lateE_get (by simpa using ho), fun e he hbd => ?_⟩
    split at he
    · rename_i ht
      simp only [Array.mem_append, List.mem_toArray, List.mem_map] at he
      rcases he with he | ⟨i, hi, rfl⟩
      · exact hall e he hbd
      · exact hl ht i hi
    · exact hall e he hbd
  have back : ∀ (listed : Array Bool) (j : Nat), j ∈ Region.ready .any (lateE L t0 l).toArray listed → j ∈ Region.ready .any l.toArray listed := by
    intro listed j hj
    obtain ⟨h0, o, ho, hall⟩ := mem_ready.1 hj
    cases hl : l[j]? with
    | none => simp [lateE_none hl] at ho
    | some o' =>
      have := lateE_get (L := L) (t0 := t0) hl
      rw [List.getElem?_toArray, this] at ho
      obtain rfl := (Option.some.inj ho).symm
      refine mem_ready.2 ⟨h0, o', by simpa using hl, fun e he hbd => hall e ?_ hbd⟩
      split
      · simp [he]
      · exact he
  -- one of L that is not listed is ready as soon as one from t0 on is
  have early : ∀ (listed : Array Bool), listed.size = l.length → ∀ j, j ∈ Region.ready .any l.toArray listed → t0 ≤ j → ∀ i ∈ L, ¬ listed.getD i false = true → i ∈ Region.ready .any (lateE L t0 l).toArray listed := by
    intro listed hsz j hj ht i hi hun
    obtain ⟨h0, oj, hoj, hall⟩ := mem_ready.1 hj
    obtain ⟨hit, hm⟩ := hL i hi
    have hjl : j < l.length := by
      have := (Array.getElem?_eq_some_iff.1 hoj).1
      simpa using this
    cases ho : l[i]? with
    | none => rw [ho] at hm; cases hm
    | some o =>
      rw [ho] at hm
      simp only [Bool.and_eq_true, List.all_eq_true, List.mem_range, Bool.or_eq_true, decide_eq_true_eq] at hm
      have hd := (hm.2 j hjl).resolve_left (by omega)
      rw [show l[j]? = some oj from by simpa using hoj] at hd
      simp only [Array.all_eq_true_iff_forall_mem, Bool.or_eq_true, Bool.not_eq_true', Array.any_eq_true', Bool.and_eq_true, beq_iff_eq] at hd
      refine ready' listed i (mem_ready.2 ⟨?_, o, by simpa using ho, fun e he hbd => ?_⟩) (fun h => by omega)
      · have : i < listed.size := by omega
        simpa [this] using hun
      · obtain ⟨e', he', hb', hon⟩ := (hd e he).resolve_left (by rw [hbd]; simp)
        rw [← hon]; exact hall e' he' hb'
  intro f
  induction f with
  | zero =>
    intro listed a w hsz h
    refine ⟨?_, h.2⟩
    rcases hr : Region.ready .any l.toArray listed with _ | ⟨j, js⟩
    · rfl
    · exfalso
      have hj : j ∈ Region.ready .any l.toArray listed := by rw [hr]; simp
      by_cases hx : ∃ i, i ∈ L ∧ t0 ≤ j ∧ ¬ listed.getD i false = true
      · obtain ⟨i, hi, ht, hun⟩ := hx
        have := early listed hsz j hj ht i hi hun
        rw [h.1] at this; cases this
      · have := ready' listed j hj fun ht i hi => Classical.byContradiction fun hc => hx ⟨i, hi, ht, hc⟩
        rw [h.1] at this; cases this
  | succ f ih =>
    intro listed a w hsz h
    by_cases hx : ∃ i, i ∈ L ∧ i ∈ Region.ready .any (lateE L t0 l).toArray listed
    · obtain ⟨i, hi, hr⟩ := hx
      obtain ⟨hit, hm⟩ := hL i hi
      cases ho : l[i]? with
      | none => rw [ho] at hm; cases hm
      | some o =>
        rw [ho] at hm
        simp only [Bool.and_eq_true] at hm
        have ho' : l.toArray[i]? = some o := by simpa using ho
        obtain ⟨⟨hpu, hf⟩, hm⟩ := hm
        obtain ⟨v, hy, hK⟩ := pure_of_wp ho' hpu (wpOp_late (h.2 i hr))
        refine wpAny_first ho' (Region.noSelect_spec hsel) (fun c a w => hQ c a o.dst v w) f listed a w (fun j oj hj hne hun hno => ?_) (back listed i hr) hy (ih _ _ _ (by simpa using hsz) hK)
        refine Region.free_spec ho' hf j oj hj hne ?_ hno
        have hjl : j < l.length := by
          have := (Array.getElem?_eq_some_iff.1 hj).1
          simpa using this
        have hw : (o.after.any fun e => Region.binds .any e && e.on == j) = false := by
          rw [Bool.eq_false_iff]
          intro hc
          obtain ⟨e, he, hbe⟩ := Array.any_eq_true'.1 hc
          simp only [Bool.and_eq_true, beq_iff_eq] at hbe
          obtain ⟨_, o2, ho2, hall2⟩ := mem_ready.1 (back listed i hr)
          obtain rfl : o2 = o := Option.some.inj (ho2.symm.trans ho')
          have := hall2 e he hbe.1
          rw [hbe.2, getD_both hun] at this
          cases this
        simp [waitsFor, hjl, hw]
    · have same : ∀ j, j ∈ Region.ready .any l.toArray listed → j ∈ Region.ready .any (lateE L t0 l).toArray listed := fun j hj =>
        ready' listed j hj fun ht i hi => Classical.byContradiction fun hc => hx ⟨i, hi, early listed hsz j hj ht i hi hc⟩
      refine ⟨fun h0 => h.1 ?_, fun j hj => wpOp_mono (fun a' w' hh => ih _ _ _ (by simpa using hsz) hh) (wpOp_late (h.2 j (same j hj)))⟩
      rcases hr : Region.ready .any (lateE L t0 l).toArray listed with _ | ⟨j, js⟩
      · rfl
      · exfalso
        have := back listed j (by rw [hr]; simp)
        rw [h0] at this; cases this
/-- no panic -/
def NQ (Q : Exit → Act → World → Prop) : Exit → Act → World → Prop := fun e a w => e = .normal ∧ Q .normal a w
/-- The region, out of the region with more edges. -/
theorem region_late {id : Nat} {a : Act} {w : World} {l : List Oper} (L : List Nat) (t0 : Nat) (l' : List Oper) (hl' : lateE L t0 l = l') (hb : lateB .any L t0 l = true) (hm : P.follows .mixedOrders = true)
    (h : wpAny P .any l'.toArray (NQ Q) l'.toArray.size (Array.replicate l'.toArray.size false) a { w with drawn := w.drawn + 1 }) : (Code.region id l.toArray true).wp P Q a w := by
  subst hl'
  refine Code.wp_mono (Q := NQ Q) (fun e a w h => by obtain ⟨rfl, h⟩ := h; exact h) (wp_region_any hm ?_)
  have hs : (lateE L t0 l).length = l.length := by unfold lateE; simp
  have := wpAny_late (Q := NQ Q) hb (fun c a d v w h => by obtain ⟨h, _⟩ := h; cases h) _ _ _ _ (by simp [hs]) h
  simpa [hs] using this
/-- as region_grow, for what stands behind region_late -/
theorem any_grow {Q : Exit → Act → World → Prop} {a A : Act} {w : World} {l : List Oper} (q : Nat) (als : List Nat) (zs : Nat → Array Value) (hB : growB .any l q a.tmps.size als = true)
    (hrun : ∀ j, j < als.length → ∃ o T, l[q + j]? = some o ∧ ∀ (a : Act) (w : World), (execOp a.eval o).run P w = .ok (.value (.pointer (some ⟨w.heap.size, 0, none⟩))) (w.alloc (.cells (zs j) T)))
    (h : ∀ w0, Below w.heap.size w w0 → wpQuiet P l.toArray (fun w' => ∃ m, w' = more w0 m) (fun a' => a' = A) (l.take q) a)
    (htail : ∀ (gs : Nat → Nat) (w' : World), Below w.heap.size w w' → (∀ j, j < als.length → Blk w' (gs j) (zs j) ∧ w.heap.size ≤ gs j) → (∀ j j', j < als.length → j' < als.length → j ≠ j' → gs j ≠ gs j') →
      wpList P l.toArray Q (l.drop (q + als.length)) (laySlots (fun j => als.getD j 0) (fun j => some (gs j)) als.length A) w') : wpAny P .any l.toArray Q l.toArray.size (Array.replicate l.toArray.size false) a { w with drawn := w.drawn + 1 } := by
  simp only [growB, Bool.and_eq_true, decide_eq_true_eq, List.all_eq_true, List.mem_range] at hB
  obtain ⟨⟨⟨⟨⟨⟨⟨⟨⟨hsel, hn⟩, hs⟩, hc⟩, hlex⟩, hseq⟩, hnd⟩, hqs⟩, hls⟩, hdn⟩ := hB
  have hnl : q + als.length < l.length := by simpa using hn
  have hb1 : Below w.heap.size w { w with drawn := w.drawn + 1 } := by have := (Below.refl w.heap.size w).drew; exact this
  have hgrow : wpGrow P l.toArray w A (l.take q) a := grow_of_quiet _ _ hdn (fun o ho => by
    obtain ⟨i, hi, rfl⟩ := List.mem_iff_getElem.1 ho
    have hi' : i < q := by simp at hi; omega
    have h1 := hqs i hi'
    have hil : i < l.length := by omega
    rw [show l.toArray[i]? = some ((l.take q)[i]) from by simp [hil]] at h1
    simp only [Bool.and_eq_true] at h1
    have h2 := h1.2
    cases hd : ((l.take q)[i]).dst with
    | none => rw [hd] at h2; cases h2
    | some d => rw [hd] at h2; exact ⟨d, rfl, by simpa using h2⟩) h
  have hany := gAny_lex (md := .any) (q := q) hsel (l.take q) 0 (Array.replicate l.toArray.size false) a (fun j hj => by
    have hj' : j < q := by simp at hj; omega
    simp [hj']) (by simp; omega) (by intro j hj; omega) (by rw [List.length_take_of_le (by omega)]; exact hlex) hgrow
  rw [List.length_take_of_le (by omega)] at hany
  have inv0 : HeadInv .any l.toArray (q + als.length) (Array.replicate l.toArray.size false) :=
    ⟨by simp, fun j oj _ hl => (by rw [getD_replicate_false] at hl; cases hl), fun t _ ht => getD_in (by simpa using ht) (getD_replicate_false _ _)⟩
  have hrest : ∀ k, rest (fun _ => none) k = k := by
    intro k; induction k with
    | zero => rfl
    | succ k ih => simp only [rest, ih]
  have hlay : ∀ k, laySlots (fun j => als.getD j 0) (fun _ => none) k a = a := by
    intro k; induction k with
    | zero => rfl
    | succ k ih => simp only [laySlots, ih]
  have key := any_of_grow (P := P) (md := .any) (W := w) (q := q) (k := als.length) (A := A) (al := fun j => als.getD j 0) (zs := zs) (Q := Q) (tail := l.drop (q + als.length)) hsel hs hc hn (fun j => by simp [List.getElem?_drop])
    (fun j hj => by
      obtain ⟨o, T, ho, hr⟩ := hrun j hj
      have h1 := hls j hj
      rw [show l.toArray[q + j]? = some o from by simpa using ho] at h1
      simp only [Bool.and_eq_true, beq_iff_eq, Option.isNone_iff_eq_none, Array.all_eq_true', Bool.not_eq_true'] at h1
      exact ⟨o, T, by simpa using ho, h1.1.1, h1.1.2, h1.2, hr⟩)
    (fun j j' hj hj' hne he => by
      have := hnd j hj j' hj'
      simp only [Bool.or_eq_true, beq_iff_eq, bne_iff_ne, ne_eq] at this
      exact this.elim hne fun h' => h' he)
    (fun i o hi ho => by
      have h1 := hqs i hi
      rw [ho] at h1
      simp only [Bool.and_eq_true, Array.all_eq_true', List.all_eq_true, Bool.or_eq_true, Bool.not_eq_true', decide_eq_true_eq, bne_iff_ne, ne_eq] at h1
      refine ⟨fun e he hb => (h1.1.1 e he).resolve_left (by rw [hb]; simp), fun j hj => ?_⟩
      have hmem : als.getD j 0 ∈ als := by simp [List.getD_eq_getElem?_getD, List.getElem?_eq_getElem hj]
      have := h1.1.2 _ hmem
      exact ⟨by simpa using this.1, this.2⟩)
    (fun listed h1 h2 h3 => by rw [canon_spec h1 h2 h3]; simpa using hseq) htail
    (q + als.length) q (Array.replicate l.toArray.size false) a (fun _ => none) { w with drawn := w.drawn + 1 } (by rw [hrest]) inv0 hb1 hany (fun j _ => getD_replicate_false _ _) (fun j g _ h => by cases h) (fun j j' g g' _ _ _ h => by cases h)
  rw [hlay] at key
  have e : q + als.length + (l.drop (q + als.length)).length = l.toArray.size := by simp; omega
  rw [e] at key
  exact key
end
end Go.Proofs.YtniahipadfgkbaaGreat
