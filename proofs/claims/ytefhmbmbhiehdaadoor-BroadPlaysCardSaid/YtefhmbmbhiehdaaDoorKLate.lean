/- A region that draws its order, in which components of a result may be taken late (behind the stores): it is enough to look at the orders in which they are taken early. Conditions: none. -/
import Derived.Test.YtefhmbmbhiehdaaDoorKGrow
namespace Go.Proofs.YtefhmbmbhiehdaaDoor
open Go Go.RowKit
section
variable {P : Program} {md : Region.Mode} {Q : Exit → Act → World → Prop}
/-- an operation that only copies -/
def pureB (o : Oper) : Bool := o.guard.isNone && (match o.op with | .extract _ _ => true | .move _ => true | _ => false)
theorem pure_of_wp {ops : Array Oper} {i : Nat} {o : Oper} {a : Act} {w : World} {K : Act → World → Prop} (hi : ops[i]? = some o) (hp : pureB o = true) (h : wpOp P ops Q i K a w) : ∃ v, Yields P ops o v a ∧ K (a.put o.dst v) w := by
  unfold pureB at hp
  simp only [Bool.and_eq_true, Option.isNone_iff_eq_none] at hp
  obtain ⟨hg, hk⟩ := hp
  have hw : Region.wanted o (yielded ops a.tmps) = true := by simp [Region.wanted, hg]
  unfold wpOp at h
  simp only [hi, hw, if_true] at h
  obtain ⟨dst, op, type, pos, after, guard⟩ := o
  simp only at hk hg
  cases op <;> simp only [] at hk <;> try (cases hk; done)
  case move x =>
    refine ⟨a.eval x, .inl ⟨hw, fun w => rfl⟩, ?_⟩
    rcases h with h | ⟨⟨h, _⟩, _⟩
    · exact h
    · exact absurd (show noRoomEvent ∈ (#[] : Array Event) from h) (by simp)
  case extract x n =>
    have key : ∀ t : Value, (Instr.extract t n = stuck "Extract: no such component") ∨ (Instr.extract t n = stuck "Extract: tuple expected") ∨ ∃ v, Instr.extract t n = pure v := by
      intro t
      unfold Instr.extract
      cases t with
      | tuple vs =>
        simp only []
        cases vs[n]? with
        | none => exact .inl rfl
        | some v => exact .inr (.inr ⟨v, rfl⟩)
      | _ => exact .inr (.inl rfl)
    have he : execOp a.eval ⟨dst, .extract x n, type, pos, after, guard⟩ = (do pure (.value (← Instr.extract (a.eval x) n))) := rfl
    rcases key (a.eval x) with h0 | h0 | ⟨v, h0⟩
    · exfalso
      rcases h with h | ⟨⟨h, _⟩, _⟩
      · unfold Oper.wp at h; rw [he, h0] at h; exact h
      · rw [he, h0] at h; exact absurd (show noRoomEvent ∈ (#[] : Array Event) from h) (by simp)
    · exfalso
      rcases h with h | ⟨⟨h, _⟩, _⟩
      · unfold Oper.wp at h; rw [he, h0] at h; exact h
      · rw [he, h0] at h; exact absurd (show noRoomEvent ∈ (#[] : Array Event) from h) (by simp)
    · refine ⟨v, .inl ⟨hw, fun w => by rw [he, h0]; rfl⟩, ?_⟩
      rcases h with h | ⟨⟨h, _⟩, _⟩
      · unfold Oper.wp at h; rw [he, h0] at h; exact h
      · rw [he, h0] at h; exact absurd (show noRoomEvent ∈ (#[] : Array Event) from h) (by simp)

/-- more edges: what stands from t0 on waits for those of L -/
def lateE (L : List Nat) (t0 : Nat) (l : List Oper) : List Oper := l.mapIdx fun j o => if t0 ≤ j then { o with after := o.after ++ (L.map fun i => ({ on := i, ground := .data } : Edge)).toArray } else o
/-- what an operation waits for -/
def waitsFor (md : Region.Mode) (n : Nat) (o : Oper) : Array Bool := ((List.range n).map fun j => o.after.any fun e => Region.binds md e && e.on == j).toArray
def lateB (md : Region.Mode) (L : List Nat) (t0 : Nat) (l : List Oper) : Bool :=
  Region.noSelect l.toArray && L.all (fun i => decide (i < t0) && (match l[i]? with
    | some o => pureB o && Region.free md l.toArray (waitsFor md l.length o) i && (List.range l.length).all fun j => decide (j < t0) || (match l[j]? with
        | some oj => o.after.all fun e => !Region.binds md e || oj.after.any fun e' => Region.binds md e' && e'.on == e.on
        | none => false)
    | none => false))

theorem lateE_get {L : List Nat} {t0 : Nat} {l : List Oper} {j : Nat} {o : Oper} (h : l[j]? = some o) : (lateE L t0 l)[j]? = some (if t0 ≤ j then { o with after := o.after ++ (L.map fun i => ({ on := i, ground := .data } : Edge)).toArray } else o) := by
  unfold lateE
  simp [h]
theorem lateE_none {L : List Nat} {t0 : Nat} {l : List Oper} {j : Nat} (h : l[j]? = none) : (lateE L t0 l)[j]? = none := by
  unfold lateE
  simpa using h
theorem yielded_late {L : List Nat} {t0 : Nat} {l : List Oper} (tmps : Array Value) (g : Nat) : yielded (lateE L t0 l).toArray tmps g = yielded l.toArray tmps g := by
  unfold yielded
  have e : (((lateE L t0 l).toArray)[g]?).bind (·.dst) = ((l.toArray)[g]?).bind (·.dst) := by
    cases h : l[g]? with
    | none => simp [lateE_none h, h]
    | some o => simp only [List.getElem?_toArray, lateE_get h, h, Option.bind_some]; split <;> rfl
  rw [e]
theorem wpOp_late {L : List Nat} {t0 : Nat} {l : List Oper} {j : Nat} {K : Act → World → Prop} {a : Act} {w : World} (h : wpOp P (lateE L t0 l).toArray Q j K a w) : wpOp P l.toArray Q j K a w := by
  have hy : ∀ tm, yielded (lateE L t0 l).toArray tm = yielded l.toArray tm := fun tm => funext fun g => yielded_late tm g
  unfold wpOp at *
  cases ho : l[j]? with
  | none => simpa [lateE_none ho, ho] using h
  | some o =>
    simp only [List.getElem?_toArray, lateE_get ho, ho, hy] at h ⊢
    split at h
    · exact h
    · exact h
/-- the orders in which those of L come early are enough -/
theorem wpAny_late {L : List Nat} {t0 : Nat} {l : List Oper} (hb : lateB .any L t0 l = true) (hQ : ∀ c (a : Act) d v w, Q (.panic c) (a.put d v) w → Q (.panic c) a w) :
    ∀ (f : Nat) (listed : Array Bool) (a : Act) (w : World), listed.size = l.length → wpAny P .any (lateE L t0 l).toArray Q f listed a w → wpAny P .any l.toArray Q f listed a w := by
  simp only [lateB, Bool.and_eq_true, List.all_eq_true, decide_eq_true_eq] at hb
  obtain ⟨hsel, hL⟩ := hb
  -- what is ready with the new edges
  have ready' : ∀ (listed : Array Bool) (j : Nat), j ∈ Region.ready .any l.toArray listed → (t0 ≤ j → ∀ i ∈ L, listed.getD i false = true) → j ∈ Region.ready .any (lateE L t0 l).toArray listed := by
    intro listed j hj hl
    obtain ⟨h0, o, ho, hall⟩ := mem_ready.1 hj
    refine mem_ready.2 ⟨h0, _, by simpa using lateE_get (by simpa using ho), fun e he hbd => ?_⟩
    split at he
    · rename_i ht
      simp only [Array.mem_append, List.mem_toArray, List.mem_map] at he
      rcases he with he | ⟨i, hi, rfl⟩
      · exact hall e he hbd
      · exact hl ht i hi
    · exact hall e he hbd
  have back : ∀ (listed : Array Bool) (j : Nat), j ∈ Region.ready .any (lateE L t0 l).toArray listed → j ∈ Region.ready .any l.toArray listed := by
    intro listed j hj
    obtain ⟨h0, o, ho, hall⟩ := mem_ready.1 hj
    cases hl : l[j]? with
    | none => simp [lateE_none hl] at ho
    | some o' =>
      have := lateE_get (L := L) (t0 := t0) hl
      rw [List.getElem?_toArray, this] at ho
      obtain rfl := (Option.some.inj ho).symm
      refine mem_ready.2 ⟨h0, o', by simpa using hl, fun e he hbd => hall e ?_ hbd⟩
      split
      · simp [he]
      · exact he
  -- one of L that is not listed is ready as soon as one from t0 on is
  have early : ∀ (listed : Array Bool), listed.size = l.length → ∀ j, j ∈ Region.ready .any l.toArray listed → t0 ≤ j → ∀ i ∈ L, ¬ listed.getD i false = true → i ∈ Region.ready .any (lateE L t0 l).toArray listed := by
    intro listed hsz j hj ht i hi hun
    obtain ⟨h0, oj, hoj, hall⟩ := mem_ready.1 hj
    obtain ⟨hit, hm⟩ := hL i hi
    have hjl : j < l.length := by
      have := (Array.getElem?_eq_some_iff.1 hoj).1
      simpa using this
    cases ho : l[i]? with
    | none => rw [ho] at hm; cases hm
    | some o =>
      rw [ho] at hm
      simp only [Bool.and_eq_true, List.all_eq_true, List.mem_range, Bool.or_eq_true, decide_eq_true_eq] at hm
      have hd := (hm.2 j hjl).resolve_left (by omega)
      rw [show l[j]? = some oj from by simpa using hoj] at hd
      simp only [Array.all_eq_true_iff_forall_mem, Bool.or_eq_true, Bool.not_eq_true', Array.any_eq_true', Bool.and_eq_true, beq_iff_eq] at hd
      refine ready' listed i (mem_ready.2 ⟨?_, o, by simpa using ho, fun e he hbd => ?_⟩) (fun h => by omega)
      · have : i < listed.size := by omega
        simpa [this] using hun
      · obtain ⟨e', he', hb', hon⟩ := (hd e he).resolve_left (by rw [hbd]; simp)
        rw [← hon]; exact hall e' he' hb'
  intro f
  induction f with
  | zero =>
    intro listed a w hsz h
    refine ⟨?_, h.2⟩
    rcases hr : Region.ready .any l.toArray listed with _ | ⟨j, js⟩
    · rfl
    · exfalso
      have hj : j ∈ Region.ready .any l.toArray listed := by rw [hr]; simp
      by_cases hx : ∃ i, i ∈ L ∧ t0 ≤ j ∧ ¬ listed.getD i false = true
      · obtain ⟨i, hi, ht, hun⟩ := hx
        have := early listed hsz j hj ht i hi hun
        rw [h.1] at this; cases this
      · have := ready' listed j hj fun ht i hi => Classical.byContradiction fun hc => hx ⟨i, hi, ht, hc⟩
        rw [h.1] at this; cases this
  | succ f ih =>
    intro listed a w hsz h
    by_cases hx : ∃ i, i ∈ L ∧ i ∈ Region.ready .any (lateE L t0 l).toArray listed
    · obtain ⟨i, hi, hr⟩ := hx
      obtain ⟨hit, hm⟩ := hL i hi
      cases ho : l[i]? with
      | none => rw [ho] at hm; cases hm
      | some o =>
        rw [ho] at hm
        simp only [Bool.and_eq_true] at hm
        have ho' : l.toArray[i]? = some o := by simpa using ho
        obtain ⟨⟨hpu, hf⟩, hm⟩ := hm
        obtain ⟨v, hy, hK⟩ := pure_of_wp ho' hpu (wpOp_late (h.2 i hr))
        refine wpAny_first ho' (Region.noSelect_spec hsel) (fun c a w => hQ c a o.dst v w) f listed a w (fun j oj hj hne hun hno => ?_) (back listed i hr) hy (ih _ _ _ (by simpa using hsz) hK)
        refine Region.free_spec ho' hf j oj hj hne ?_ hno
        have hjl : j < l.length := by
          have := (Array.getElem?_eq_some_iff.1 hj).1
          simpa using this
        have hw : (o.after.any fun e => Region.binds .any e && e.on == j) = false := by
          rw [Bool.eq_false_iff]
          intro hc
          obtain ⟨e, he, hbe⟩ := Array.any_eq_true'.1 hc
          simp only [Bool.and_eq_true, beq_iff_eq] at hbe
          obtain ⟨_, o2, ho2, hall2⟩ := mem_ready.1 (back listed i hr)
          obtain rfl : o2 = o := Option.some.inj (ho2.symm.trans ho')
          have := hall2 e he hbe.1
          rw [hbe.2, getD_both hun] at this
          cases this
        simp [waitsFor, hjl, hw]
    · have same : ∀ j, j ∈ Region.ready .any l.toArray listed → j ∈ Region.ready .any (lateE L t0 l).toArray listed := fun j hj =>
        ready' listed j hj fun ht i hi => Classical.byContradiction fun hc => hx ⟨i, hi, early listed hsz j hj ht i hi hc⟩
      refine ⟨fun h0 => h.1 ?_, fun j hj => wpOp_mono (fun a' w' hh => ih _ _ _ (by simpa using hsz) hh) (wpOp_late (h.2 j (same j hj)))⟩
      rcases hr : Region.ready .any (lateE L t0 l).toArray listed with _ | ⟨j, js⟩
      · rfl
      · exfalso
        have := back listed j (by rw [hr]; simp)
        rw [h0] at this; cases this
/-- no panic -/
def NQ (Q : Exit → Act → World → Prop) : Exit → Act → World → Prop := fun e a w => e = .normal ∧ Q .normal a w
/-- The region, out of the region with more edges. -/
theorem region_late {id : Nat} {a : Act} {w : World} {l : List Oper} (L : List Nat) (t0 : Nat) (l' : List Oper) (hl' : lateE L t0 l = l') (hb : lateB .any L t0 l = true) (hm : P.follows .mixedOrders = true)
    (h : wpAny P .any l'.toArray (NQ Q) l'.toArray.size (Array.replicate l'.toArray.size false) a { w with drawn := w.drawn + 1 }) : (Code.region id l.toArray true).wp P Q a w := by
  subst hl'
  refine Code.wp_mono (Q := NQ Q) (fun e a w h => by obtain ⟨rfl, h⟩ := h; exact h) (wp_region_any hm ?_)
  have hs : (lateE L t0 l).length = l.length := by unfold lateE; simp
  have := wpAny_late (Q := NQ Q) hb (fun c a d v w h => by obtain ⟨h, _⟩ := h; cases h) _ _ _ _ (by simp [hs]) h
  simpa [hs] using this
/-- as region_grow, for what stands behind region_late -/
theorem any_grow {Q : Exit → Act → World → Prop} {a A : Act} {w : World} {l : List Oper} (q : Nat) (als : List Nat) (zs : Nat → Array Value) (hB : growB .any l q a.tmps.size als = true)
    (hrun : ∀ j, j < als.length → ∃ o T, l[q + j]? = some o ∧ ∀ (a : Act) (w : World), (execOp a.eval o).run P w = .ok (.value (.pointer (some ⟨w.heap.size, 0, none⟩))) (w.alloc (.cells (zs j) T)))
    (h : ∀ w0, Below w.heap.size w w0 → wpQuiet P l.toArray (fun w' => ∃ m, w' = more w0 m) (fun a' => a' = A) (l.take q) a)
    (htail : ∀ (gs : Nat → Nat) (w' : World), Below w.heap.size w w' → (∀ j, j < als.length → Blk w' (gs j) (zs j) ∧ w.heap.size ≤ gs j) → (∀ j j', j < als.length → j' < als.length → j ≠ j' → gs j ≠ gs j') →
      wpList P l.toArray Q (l.drop (q + als.length)) (laySlots (fun j => als.getD j 0) (fun j => some (gs j)) als.length A) w') : wpAny P .any l.toArray Q l.toArray.size (Array.replicate l.toArray.size false) a { w with drawn := w.drawn + 1 } := by
  simp only [growB, Bool.and_eq_true, decide_eq_true_eq, List.all_eq_true, List.mem_range] at hB
  obtain ⟨⟨⟨⟨⟨⟨⟨⟨⟨hsel, hn⟩, hs⟩, hc⟩, hlex⟩, hseq⟩, hnd⟩, hqs⟩, hls⟩, hdn⟩ := hB
  have hnl : q + als.length < l.length := by simpa using hn
  have hb1 : Below w.heap.size w { w with drawn := w.drawn + 1 } := by have := (Below.refl w.heap.size w).drew; exact this
  have hgrow : wpGrow P l.toArray w A (l.take q) a := grow_of_quiet _ _ hdn (fun o ho => by
    obtain ⟨i, hi, rfl⟩ := List.mem_iff_getElem.1 ho
    have hi' : i < q := by simp at hi; omega
    have h1 := hqs i hi'
    have hil : i < l.length := by omega
    rw [show l.toArray[i]? = some ((l.take q)[i]) from by simp [hil]] at h1
    simp only [Bool.and_eq_true] at h1
    have h2 := h1.2
    cases hd : ((l.take q)[i]).dst with
    | none => rw [hd] at h2; cases h2
    | some d => rw [hd] at h2; exact ⟨d, rfl, by simpa using h2⟩) h
  have hany := gAny_lex (md := .any) (q := q) hsel (l.take q) 0 (Array.replicate l.toArray.size false) a (fun j hj => by
    have hj' : j < q := by simp at hj; omega
    simp [hj']) (by simp; omega) (by intro j hj; omega) (by rw [List.length_take_of_le (by omega)]; exact hlex) hgrow
  rw [List.length_take_of_le (by omega)] at hany
  have inv0 : HeadInv .any l.toArray (q + als.length) (Array.replicate l.toArray.size false) :=
    ⟨by simp, fun j oj _ hl => (by rw [getD_replicate_false] at hl; cases hl), fun t _ ht => getD_in (by simpa using ht) (getD_replicate_false _ _)⟩
  have hrest : ∀ k, rest (fun _ => none) k = k := by
    intro k; induction k with
    | zero => rfl
    | succ k ih => simp only [rest, ih]
  have hlay : ∀ k, laySlots (fun j => als.getD j 0) (fun _ => none) k a = a := by
    intro k; induction k with
    | zero => rfl
    | succ k ih => simp only [laySlots, ih]
  have key := any_of_grow (P := P) (md := .any) (W := w) (q := q) (k := als.length) (A := A) (al := fun j => als.getD j 0) (zs := zs) (Q := Q) (tail := l.drop (q + als.length)) hsel hs hc hn (fun j => by simp [List.getElem?_drop])
    (fun j hj => by
      obtain ⟨o, T, ho, hr⟩ := hrun j hj
      have h1 := hls j hj
      rw [show l.toArray[q + j]? = some o from by simpa using ho] at h1
      simp only [Bool.and_eq_true, beq_iff_eq, Option.isNone_iff_eq_none, Array.all_eq_true', Bool.not_eq_true'] at h1
      exact ⟨o, T, by simpa using ho, h1.1.1, h1.1.2, h1.2, hr⟩)
    (fun j j' hj hj' hne he => by
      have := hnd j hj j' hj'
      simp only [Bool.or_eq_true, beq_iff_eq, bne_iff_ne, ne_eq] at this
      exact this.elim hne fun h' => h' he)
    (fun i o hi ho => by
      have h1 := hqs i hi
      rw [ho] at h1
      simp only [Bool.and_eq_true, Array.all_eq_true', List.all_eq_true, Bool.or_eq_true, Bool.not_eq_true', decide_eq_true_eq, bne_iff_ne, ne_eq] at h1
      refine ⟨fun e he hb => (h1.1.1 e he).resolve_left (by rw [hb]; simp), fun j hj => ?_⟩
      have hmem : als.getD j 0 ∈ als := by simp [List.getD_eq_getElem?_getD, List.getElem?_eq_getElem hj]
      have := h1.1.2 _ hmem
      exact ⟨by simpa using this.1, this.2⟩)
    (fun listed h1 h2 h3 => by rw [canon_spec h1 h2 h3]; simpa using hseq) htail
    (q + als.length) q (Array.replicate l.toArray.size false) a (fun _ => none) { w with drawn := w.drawn + 1 } (by rw [hrest]) inv0 hb1 hany (fun j _ => getD_replicate_false _ _) (fun j g _ h => by cases h) (fun j j' g g' _ _ _ h => by cases h)
  rw [hlay] at key
  have e : q + als.length + (l.drop (q + als.length)).length = l.toArray.size := by simp; omega
  rw [e] at key
  exact key
end
end Go.Proofs.YtefhmbmbhiehdaaDoor
