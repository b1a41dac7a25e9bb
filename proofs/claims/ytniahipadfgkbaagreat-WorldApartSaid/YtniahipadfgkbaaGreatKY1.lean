/- As HeldT, but what follows the first operations may draw its order too. Conditions: none. -/
import Derived.Test.YtniahipadfgkbaaGreatKA
import Derived.Deep.RegionHeld3
namespace Go.Proofs.YtniahipadfgkbaaGreat
open Go Go.RowKit
section
variable {P : Program} {l : List Oper} {md : Region.Mode} {S : World → Prop} {Q : Exit → Act → World → Prop} {n : Nat}
/-- behind the first n operations: the others, one by one -/
def TailQ (P : Program) (l : List Oper) (Q : Exit → Act → World → Prop) (n : Nat) : Exit → Act → World → Prop
  | .normal, a, w => wpList P l.toArray Q (l.drop n) a w
  | e, a, w => Q e a w
theorem wp_tailQ {o : Oper} {a : Act} {w : World} {K : Act → World → Prop} (h : o.wp P a w K (TailQ P l Q n)) : o.wp P a w K Q := by
  unfold Oper.wp at *
  generalize (execOp a.eval o).run P w = r at *
  cases r with
  | ok n w' =>
    cases n <;> simp only [Oper.upon] at h ⊢ <;>
      first
        | exact h
        | exact Calls.mono h (fun e w'' he => by cases e <;> exact he)
  | halt x w' => cases x <;> simp only [Oper.upon] at h ⊢ <;> exact h
/-- the first n operations wait for earlier ones alone, and so do their guards -/
def backB (l : List Oper) (n : Nat) : Bool := (List.range n).all fun i => match l[i]? with
  | some o => (o.after.all fun e => decide (e.on < i)) && (match o.guard with | some (g, _) => decide (g < i) | none => true)
  | none => false
def endB (md : Region.Mode) (l : List Oper) (n : Nat) : Bool := Region.seqB md l.toArray (l.length - n) n ((List.replicate n true ++ List.replicate (l.length - n) false).toArray)
def heldTailB (md : Region.Mode) (l : List Oper) (n : Nat) : Bool :=
  decide (n < l.length) && Region.sinkB md l.toArray n && Region.chainB md l.toArray n && backB l n && endB md l n
theorem backB_spec (h : backB l n = true) {i : Nat} {o : Oper} (hi : i < n) (ho : l[i]? = some o) : (∀ e ∈ o.after, e.on < i) ∧ ∀ g b, o.guard = some (g, b) → g < i := by
  have h1 := List.all_eq_true.1 h i (List.mem_range.2 hi)
  rw [ho] at h1
  simp only [Bool.and_eq_true] at h1
  refine ⟨fun e he => ?_, fun g b hg => ?_⟩
  · have := Array.all_eq_true_iff_forall_mem.1 h1.1 e he
    simpa using this
  · have h2 := h1.2
    rw [hg] at h2
    simpa using h2
theorem wanted_take (h : backB l n = true) {i : Nat} {o : Oper} (hi : i < n) (ho : l[i]? = some o) (tmps : Array Value) : Region.wanted o (yielded (l.take n).toArray tmps) = Region.wanted o (yielded l.toArray tmps) := by
  have hy : ∀ g, g < n → yielded (l.take n).toArray tmps g = yielded l.toArray tmps g := by
    intro g hg
    unfold yielded
    simp [hg]
  unfold Region.wanted
  cases hg : o.guard with
  | none => rfl
  | some gb =>
    obtain ⟨g, b⟩ := gb
    have := (backB_spec h hi ho).2 g b hg
    simp only []
    rw [hy g (by omega)]
theorem wpOp_take (h : backB l n = true) {i : Nat} (hi : i < n) (hl : i < l.length) {K : Act → World → Prop} {a : Act} {w : World} (hh : wpOp P (l.take n).toArray (TailQ P l Q n) i K a w) : wpOp P l.toArray Q i K a w := by
  obtain ⟨o, ho⟩ : ∃ o, l[i]? = some o := ⟨_, List.getElem?_eq_getElem hl⟩
  have h1 : (l.take n).toArray[i]? = some o := by simp [hi, ho]
  have h2 : l.toArray[i]? = some o := by simpa using ho
  unfold wpOp at *
  simp only [h1] at hh
  simp only [h2]
  rw [wanted_take h hi ho] at hh
  split
  · rename_i hw
    simp only [hw, if_true] at hh
    exact hh.imp wp_tailQ id
  · rename_i hw
    simp only [hw] at hh
    exact hh
/-- the two lists of what has come up -/
structure Pair (l : List Oper) (n : Nat) (A B : Array Bool) : Prop where
  sA : A.size = l.length
  sB : B.size = n
  eq : ∀ j, j < n → A[j]? = B[j]?
  tl : ∀ t, n ≤ t → t < l.length → A.getD t true = false
theorem Pair.set {A B : Array Bool} (h : Pair l n A B) {i : Nat} (hi : i < n) : Pair l n (A.setIfInBounds i true) (B.setIfInBounds i true) := by
  refine ⟨by simp [h.sA], by simp [h.sB], fun j hj => ?_, fun t ht htl => ?_⟩
  · have h1 := h.eq j hj
    by_cases e : i = j
    · subst e
      by_cases hl : i < l.length
      · simp [h.sA, h.sB, hi, hl]
      · have hs : A[i]? = none := by rw [Array.getElem?_eq_none]; rw [h.sA]; omega
        rw [hs] at h1
        have : B[i]? ≠ none := by simp [h.sB, hi]
        exact absurd h1.symm this
    · simp [e, h1]
  · rw [getD_set_ne true (by omega)]; exact h.tl t ht htl
theorem Pair.getD {A B : Array Bool} (h : Pair l n A B) {j : Nat} (hj : j < n) (d : Bool) : A.getD j d = B.getD j d := by
  rw [Array.getD_eq_getD_getElem?, Array.getD_eq_getD_getElem?, h.eq j hj]
theorem ready_pair {A B : Array Bool} (hbk : backB l n = true) (h : Pair l n A B) {i : Nat} (hi : i < n) : i ∈ Region.ready md l.toArray A ↔ i ∈ Region.ready md (l.take n).toArray B := by
  rw [mem_ready, mem_ready, h.getD hi]
  have e : (l.take n).toArray[i]? = l.toArray[i]? := by simp [hi]
  rw [e]
  constructor
  · rintro ⟨h0, o, ho, hall⟩
    refine ⟨h0, o, ho, fun e he hb => ?_⟩
    have := (backB_spec hbk hi (by simpa using ho)).1 e he
    rw [← h.getD (by omega)]
    exact hall e he hb
  · rintro ⟨h0, o, ho, hall⟩
    refine ⟨h0, o, ho, fun e he hb => ?_⟩
    have := (backB_spec hbk hi (by simpa using ho)).1 e he
    rw [h.getD (by omega)]
    exact hall e he hb
/-- one that has not come up: the least one is ready -/
theorem least_ready {B : Array Bool} (hn : n ≤ l.length) (hbk : backB l n = true) : ∀ (i : Nat), i < n → B.size = n → B.getD i true = false → ∃ j, j < n ∧ j ∈ Region.ready md (l.take n).toArray B := by
  intro i
  induction i using Nat.strongRecOn with
  | _ i ih =>
    intro hi hB hun
    obtain ⟨o, ho⟩ : ∃ o, l[i]? = some o := ⟨_, List.getElem?_eq_getElem (by omega)⟩
    by_cases hall : ∀ e ∈ o.after, Region.binds md e = true → B.getD e.on false = true
    · exact ⟨i, hi, mem_ready.2 ⟨hun, o, by simp [hi, ho], hall⟩⟩
    · have hx : ∃ e, e ∈ o.after ∧ Region.binds md e = true ∧ ¬ B.getD e.on false = true := by
        apply Classical.byContradiction
        intro hc
        apply hall
        intro e he hb
        apply Classical.byContradiction
        intro hc'
        exact hc ⟨e, he, hb, hc'⟩
      obtain ⟨e, he, _, hf⟩ := hx
      have hlt := (backB_spec hbk hi ho).1 e he
      exact ih e.on hlt (by omega) hB (getD_in (by omega) (by simpa using hf))
theorem count_drop (f g : Nat → Bool) (i : Nat) (hf : f i = true) (hg : g i = false) (he : ∀ j, j ≠ i → g j = f j) : ∀ n, i < n → ((List.range n).filter g).length + 1 = ((List.range n).filter f).length := by
  intro n
  induction n with
  | zero => intro h; omega
  | succ n ih =>
    intro hi
    rw [List.range_succ, List.filter_append, List.filter_append, List.length_append, List.length_append]
    by_cases e : i = n
    · subst e
      have : (List.range i).filter g = (List.range i).filter f := List.filter_congr (fun j hj => he j (by have := List.mem_range.1 hj; omega))
      rw [this]
      simp [hf, hg]
    · have h1 := ih (by omega)
      have h2 := he n (by omega)
      simp only [List.filter_cons, List.filter_nil, h2]
      omega
theorem count_set {n i : Nat} {B : Array Bool} (hB : B.size = n) (hi : i < n) (hun : B.getD i true = false) : ((List.range n).filter fun j => !(B.setIfInBounds i true).getD j true).length + 1 = ((List.range n).filter fun j => !B.getD j true).length := by
  refine count_drop _ _ i (by simp [hun]) ?_ (fun j hj => by rw [getD_set_ne true (Ne.symm hj)]) n hi
  simp [hB, hi]
/-- what waits for what is closed -/
structure Held (md : Region.Mode) (l : List Oper) (n : Nat) (A B : Array Bool) : Prop where
  pair : Pair l n A B
  inv : HeadInv md l.toArray n A
theorem held_run (hn : n < l.length) (hs : Region.sinkB md l.toArray n = true) (hc : Region.chainB md l.toArray n = true) (hbk : backB l n = true) (he : endB md l n = true) :
    ∀ (f : Nat) (A B : Array Bool) (a : Act) (w : World), Held md l n A B → (∀ j, j < n → B.getD j true = true) ∨ 0 < f → ((List.range n).filter fun j => !B.getD j true).length = f →
      wpAnyH P md (l.take n).toArray (TailQ P l Q n) S f B a w → wpAny P md l.toArray Q (f + (l.length - n)) A a w := by
  intro f
  induction f with
  | zero =>
    intro A B a w hh _ hcnt h
    have hall : ∀ j, j < n → B.getD j true = true := by
      intro j hj
      apply Classical.byContradiction
      intro hc'
      have : j ∈ (List.range n).filter fun j => !B.getD j true := List.mem_filter.2 ⟨List.mem_range.2 hj, by simpa using hc'⟩
      rw [List.length_eq_zero_iff.1 hcnt] at this
      cases this
    have hA : A = (List.replicate n true ++ List.replicate (l.length - n) false).toArray := by
      apply Array.ext
      · simp [hh.pair.sA]; omega
      · intro j hj hj'
        rw [hh.pair.sA] at hj
        rcases Nat.lt_or_ge j n with hjn | hjn
        · have h1 := hh.pair.getD hjn true
          rw [hall j hjn] at h1
          have h2 : A.getD j true = A[j] := by simp [Array.getD_eq_getD_getElem?, hh.pair.sA, hj]
          rw [h2] at h1
          rw [h1]
          simp [hjn]
        · have h1 := hh.pair.tl j hjn hj
          have h2 : A.getD j true = A[j] := by simp [Array.getD_eq_getD_getElem?, hh.pair.sA, hj]
          rw [h2] at h1
          rw [h1]
          have : ¬ j < n := by omega
          simp [List.getElem_append, this]
    rw [Nat.zero_add]
    have hdl : (l.drop n).length = l.length - n := by simp
    have := wpAny_of_seq (md := md) (Q' := Q) (l.drop n) n A a w (fun j => by simp [List.getElem?_drop]) (by rw [hdl, hA]; exact he) h.2
    rwa [hdl] at this
  | succ f ih =>
    intro A B a w hh _ hcnt h
    -- one has not come up
    obtain ⟨i0, hi0, hun0⟩ : ∃ i, i < n ∧ B.getD i true = false := by
      apply Classical.byContradiction
      intro hc'
      have : (List.range n).filter (fun j => !B.getD j true) = [] := by
        rw [List.filter_eq_nil_iff]
        intro j hj hj'
        exact hc' ⟨j, List.mem_range.1 hj, by simpa using hj'⟩
      rw [this] at hcnt
      cases hcnt
    obtain ⟨j0, hj0, hr0⟩ := least_ready (md := md) (Nat.le_of_lt hn) hbk i0 hi0 hh.pair.sB hun0
    rw [show f + 1 + (l.length - n) = (f + (l.length - n)) + 1 from by omega]
    refine ⟨fun hnil => ?_, fun i hi => ?_⟩
    · have := (ready_pair hbk hh.pair hj0).2 hr0
      rw [hnil] at this; cases this
    · have hunA : A.getD i0 true = false := by rw [hh.pair.getD hi0]; exact hun0
      have hin : i < n := Nat.lt_of_not_le fun h' => tail_waits hs hc (by simpa using hn) hh.inv _ i0 rfl hi0 hunA i h' hi
      have hrB := (ready_pair hbk hh.pair hin).1 hi
      have hunB := (mem_ready.1 hrB).1
      refine wpOp_mono (fun a' w' h' => ?_) (wpOp_take (Q := Q) hbk hin (by omega) (h.2 i hrB))
      refine ih (A.setIfInBounds i true) (B.setIfInBounds i true) a' w' ⟨hh.pair.set hin, hh.inv.set hi hin⟩ ?_ ?_ h'.2
      · rcases Nat.eq_zero_or_pos f with h0 | h0
        · left
          intro j hj
          have hcl : ((List.range n).filter fun j => !(B.setIfInBounds i true).getD j true).length = 0 := by
            have := count_set hh.pair.sB hin hunB
            omega
          apply Classical.byContradiction
          intro hc'
          have : j ∈ (List.range n).filter fun j => !(B.setIfInBounds i true).getD j true := List.mem_filter.2 ⟨List.mem_range.2 hj, by simpa using hc'⟩
          rw [List.length_eq_zero_iff.1 hcl] at this
          cases this
        · exact .inr h0
      · have := count_set hh.pair.sB hin hunB
        omega
/-- The region: n operations of which each keeps S, in whatever order; then the rest. -/
theorem region_held_tail {id : Nat} {a : Act} {w : World} (S : World → Prop) (n : Nat) (hm : P.follows .mixedOrders = true) (hB : heldTailB .any l n = true) (hS : S w.drew)
    (h : S w.drew → wpAnyH P .any (l.take n).toArray (TailQ P l Q n) S n (Array.replicate n false) a w.drew) : (Code.region id l.toArray true).wp P Q a w := by
  simp only [heldTailB, Bool.and_eq_true, decide_eq_true_eq] at hB
  obtain ⟨⟨⟨⟨hn, hs⟩, hc⟩, hbk⟩, he⟩ := hB
  refine wp_region_any hm ?_
  have hh : Held .any l n (Array.replicate l.toArray.size false) (Array.replicate n false) := by
    refine ⟨⟨by simp, by simp, fun j hj => ?_, fun t _ ht => getD_in (by simpa using ht) (getD_replicate_false _ _)⟩, ⟨by simp, fun j oj _ hl => (by rw [getD_replicate_false] at hl; cases hl), fun t _ ht => getD_in (by simpa using ht) (getD_replicate_false _ _)⟩⟩
    have : j < l.length := by omega
    simp [hj, this]
  have hcnt : ((List.range n).filter fun j => !(Array.replicate n false).getD j true).length = n := by
    rw [List.filter_eq_self.2 (fun j hj => by have := List.mem_range.1 hj; simp [this])]
    simp
  have := held_run hn hs hc hbk he n _ _ a w.drew hh (by rcases Nat.eq_zero_or_pos n with h0 | h0; exact .inl (fun j hj => by omega); exact .inr h0) hcnt (h hS)
  rw [show n + (l.length - n) = l.toArray.size from by simp; omega] at this
  exact this
end
end Go.Proofs.YtniahipadfgkbaaGreat
namespace Go.Proofs.YtniahipadfgkbaaGreat
open Go Go.RowKit
section
variable {P : Program} {l : List Oper} {md : Region.Mode} {S : World → Prop} {Q : Exit → Act → World → Prop} {n : Nat}
/-- each that stands behind number n waits for one from n on -/
def chainW (md : Region.Mode) (ops : Array Oper) (n : Nat) : Bool := (List.range ops.size).all fun t => decide (t ≤ n) || (List.range t).any fun j => decide (n ≤ j) && Region.waitsFor md ops t j
theorem tail_waitsW {ops : Array Oper} {n : Nat} {listed : Array Bool} (hs : Region.sinkB md ops n = true) (hc : chainW md ops n = true) (hn : n < ops.size) (inv : HeadInv md ops n listed) :
    ∀ (d i : Nat), n - i = d → i < n → listed.getD i true = false → ∀ t, n ≤ t → t ∉ Region.ready md ops listed := by
  intro d
  induction d using Nat.strongRecOn with
  | _ d ih =>
    intro i hd hi hun t ht hr
    obtain ⟨_, ot, hot, hall⟩ := mem_ready.1 hr
    have htlt : t < ops.size := (Array.getElem?_eq_some_iff.1 hot).1
    by_cases htn : t = n
    · subst htn
      have h1 := List.all_eq_true.1 hs i (List.mem_range.2 hi)
      obtain ⟨j, hj, hj2⟩ := List.any_eq_true.1 h1
      simp only [Bool.and_eq_true, decide_eq_true_eq] at hj2
      obtain ⟨oj, hoj, e, he, hb, hon⟩ := Region.waitsFor_spec hj2.2
      have hjle : j ≤ t := by have := List.mem_range.1 hj; omega
      by_cases hjt : j = t
      · subst hjt
        have : oj = ot := Option.some.inj (hoj.symm.trans hot)
        subst this
        have h2 := hall e he hb
        rw [hon, getD_both hun] at h2
        cases h2
      · cases hl : listed.getD j false with
        | true =>
          have h2 := inv.closed j oj hoj hl e he hb
          rw [hon, getD_both hun] at h2
          cases h2
        | false =>
          have hjs : j < listed.size := by rw [inv.size]; omega
          exact ih (t - j) (by omega) j rfl (by omega) (getD_in hjs hl) t (Nat.le_refl _) hr
    · have h1 := List.all_eq_true.1 hc t (List.mem_range.2 htlt)
      simp only [Bool.or_eq_true, decide_eq_true_eq] at h1
      rcases h1 with h1 | h1
      · omega
      · obtain ⟨j, hj, hj2⟩ := List.any_eq_true.1 h1
        have hjt := List.mem_range.1 hj
        simp only [Bool.and_eq_true, decide_eq_true_eq] at hj2
        obtain ⟨o', ho', e, he, hb, hon⟩ := Region.waitsFor_spec hj2.2
        have : o' = ot := Option.some.inj (ho'.symm.trans hot)
        subst this
        have h2 := hall e he hb
        rw [hon, getD_both (inv.tail j hj2.1 (by omega))] at h2
        cases h2
/-- the first n have come -/
def firstA (l : List Oper) (n : Nat) : Array Bool := (List.replicate n true ++ List.replicate (l.length - n) false).toArray
/-- behind the first n operations: the others, in whatever order -/
def TailA (P : Program) (md : Region.Mode) (l : List Oper) (Q : Exit → Act → World → Prop) (n : Nat) : Exit → Act → World → Prop
  | .normal, a, w => wpAny P md l.toArray Q (l.length - n) (firstA l n) a w
  | e, a, w => Q e a w
theorem wp_tailA {o : Oper} {a : Act} {w : World} {K : Act → World → Prop} (h : o.wp P a w K (TailA P md l Q n)) : o.wp P a w K Q := by
  unfold Oper.wp at *
  generalize (execOp a.eval o).run P w = r at *
  cases r with
  | ok n w' =>
    cases n <;> simp only [Oper.upon] at h ⊢ <;>
      first
        | exact h
        | exact Calls.mono h (fun e w'' he => by cases e <;> exact he)
  | halt x w' => cases x <;> simp only [Oper.upon] at h ⊢ <;> exact h
def heldB (md : Region.Mode) (l : List Oper) (n : Nat) : Bool :=
  decide (n < l.length) && Region.sinkB md l.toArray n && chainW md l.toArray n && backB l n
theorem wpOp_takeA (h : backB l n = true) {i : Nat} (hi : i < n) (hl : i < l.length) {K : Act → World → Prop} {a : Act} {w : World} (hh : wpOp P (l.take n).toArray (TailA P md l Q n) i K a w) : wpOp P l.toArray Q i K a w := by
  obtain ⟨o, ho⟩ : ∃ o, l[i]? = some o := ⟨_, List.getElem?_eq_getElem hl⟩
  have h1 : (l.take n).toArray[i]? = some o := by simp [hi, ho]
  have h2 : l.toArray[i]? = some o := by simpa using ho
  unfold wpOp at *
  simp only [h1] at hh
  simp only [h2]
  rw [wanted_take h hi ho] at hh
  split
  · rename_i hw
    simp only [hw, if_true] at hh
    exact hh.imp wp_tailA id
  · rename_i hw
    simp only [hw] at hh
    exact hh
theorem held_runA (hn : n < l.length) (hs : Region.sinkB md l.toArray n = true) (hc : chainW md l.toArray n = true) (hbk : backB l n = true) :
    ∀ (f : Nat) (A B : Array Bool) (a : Act) (w : World), Held md l n A B → (∀ j, j < n → B.getD j true = true) ∨ 0 < f → ((List.range n).filter fun j => !B.getD j true).length = f →
      wpAnyH P md (l.take n).toArray (TailA P md l Q n) S f B a w → wpAny P md l.toArray Q (f + (l.length - n)) A a w := by
  intro f
  induction f with
  | zero =>
    intro A B a w hh _ hcnt h
    have hall : ∀ j, j < n → B.getD j true = true := by
      intro j hj
      apply Classical.byContradiction
      intro hc'
      have : j ∈ (List.range n).filter fun j => !B.getD j true := List.mem_filter.2 ⟨List.mem_range.2 hj, by simpa using hc'⟩
      rw [List.length_eq_zero_iff.1 hcnt] at this
      cases this
    have hA : A = (List.replicate n true ++ List.replicate (l.length - n) false).toArray := by
      apply Array.ext
      · simp [hh.pair.sA]; omega
      · intro j hj hj'
        rw [hh.pair.sA] at hj
        rcases Nat.lt_or_ge j n with hjn | hjn
        · have h1 := hh.pair.getD hjn true
          rw [hall j hjn] at h1
          have h2 : A.getD j true = A[j] := by simp [Array.getD_eq_getD_getElem?, hh.pair.sA, hj]
          rw [h2] at h1
          rw [h1]
          simp [hjn]
        · have h1 := hh.pair.tl j hjn hj
          have h2 : A.getD j true = A[j] := by simp [Array.getD_eq_getD_getElem?, hh.pair.sA, hj]
          rw [h2] at h1
          rw [h1]
          have : ¬ j < n := by omega
          simp [List.getElem_append, this]
    rw [Nat.zero_add]
    have h2 : wpAny P md l.toArray Q (l.length - n) (firstA l n) a w := h.2
    unfold firstA at h2
    rw [hA]
    exact h2
  | succ f ih =>
    intro A B a w hh _ hcnt h
    -- one has not come up
    obtain ⟨i0, hi0, hun0⟩ : ∃ i, i < n ∧ B.getD i true = false := by
      apply Classical.byContradiction
      intro hc'
      have : (List.range n).filter (fun j => !B.getD j true) = [] := by
        rw [List.filter_eq_nil_iff]
        intro j hj hj'
        exact hc' ⟨j, List.mem_range.1 hj, by simpa using hj'⟩
      rw [this] at hcnt
      cases hcnt
    obtain ⟨j0, hj0, hr0⟩ := least_ready (md := md) (Nat.le_of_lt hn) hbk i0 hi0 hh.pair.sB hun0
    rw [show f + 1 + (l.length - n) = (f + (l.length - n)) + 1 from by omega]
    refine ⟨fun hnil => ?_, fun i hi => ?_⟩
    · have := (ready_pair hbk hh.pair hj0).2 hr0
      rw [hnil] at this; cases this
    · have hunA : A.getD i0 true = false := by rw [hh.pair.getD hi0]; exact hun0
      have hin : i < n := Nat.lt_of_not_le fun h' => tail_waitsW hs hc (by simpa using hn) hh.inv _ i0 rfl hi0 hunA i h' hi
      have hrB := (ready_pair hbk hh.pair hin).1 hi
      have hunB := (mem_ready.1 hrB).1
      refine wpOp_mono (fun a' w' h' => ?_) (wpOp_takeA (Q := Q) hbk hin (by omega) (h.2 i hrB))
      refine ih (A.setIfInBounds i true) (B.setIfInBounds i true) a' w' ⟨hh.pair.set hin, hh.inv.set hi hin⟩ ?_ ?_ h'.2
      · rcases Nat.eq_zero_or_pos f with h0 | h0
        · left
          intro j hj
          have hcl : ((List.range n).filter fun j => !(B.setIfInBounds i true).getD j true).length = 0 := by
            have := count_set hh.pair.sB hin hunB
            omega
          apply Classical.byContradiction
          intro hc'
          have : j ∈ (List.range n).filter fun j => !(B.setIfInBounds i true).getD j true := List.mem_filter.2 ⟨List.mem_range.2 hj, by simpa using hc'⟩
          rw [List.length_eq_zero_iff.1 hcl] at this
          cases this
        · exact .inr h0
      · have := count_set hh.pair.sB hin hunB
        omega
/-- n operations of which each keeps S, in whatever order; then the rest, in whatever order. -/
theorem any_held_tailA {a : Act} {w : World} (S : World → Prop) (n : Nat) (hB : heldB .any l n = true) (hS : S w)
    (h : S w → wpAnyH P .any (l.take n).toArray (TailA P .any l Q n) S n (Array.replicate n false) a w) : wpAny P .any l.toArray Q l.toArray.size (Array.replicate l.toArray.size false) a w := by
  simp only [heldB, Bool.and_eq_true, decide_eq_true_eq] at hB
  obtain ⟨⟨⟨hn, hs⟩, hc⟩, hbk⟩ := hB
  have hh : Held .any l n (Array.replicate l.toArray.size false) (Array.replicate n false) := by
    refine ⟨⟨by simp, by simp, fun j hj => ?_, fun t _ ht => getD_in (by simpa using ht) (getD_replicate_false _ _)⟩, ⟨by simp, fun j oj _ hl => (by rw [getD_replicate_false] at hl; cases hl), fun t _ ht => getD_in (by simpa using ht) (getD_replicate_false _ _)⟩⟩
    have : j < l.length := by omega
    simp [hj, this]
  have hcnt : ((List.range n).filter fun j => !(Array.replicate n false).getD j true).length = n := by
    rw [List.filter_eq_self.2 (fun j hj => by have := List.mem_range.1 hj; simp [this])]
    simp
  have := held_runA hn hs hc hbk n _ _ a w hh (by rcases Nat.eq_zero_or_pos n with h0 | h0; exact .inl (fun j hj => by omega); exact .inr h0) hcnt (h hS)
  rw [show n + (l.length - n) = l.toArray.size from by simp; omega] at this
  exact this
end
end Go.Proofs.YtniahipadfgkbaaGreat
