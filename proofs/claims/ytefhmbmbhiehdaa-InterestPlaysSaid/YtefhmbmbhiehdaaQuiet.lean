/- A region that draws its order: its operations but the last ones read, or call what only adds memory: one walk in the order of the text serves every order; the last ones, which wait for all others, follow in whatever world has come of it. And: worlds that have more memory. Conditions: none. -/
import Derived.Deep.Quiet
import Derived.Deep.QuietTactic
import Derived.BigQuiet
import Derived.StillTail
import Derived.Below
import Derived.WalkKit
namespace Go.Proofs.Ytefhmbmbhiehdaa
open Go Go.RowKit

section
variable {P : Program} {ops : Array Oper} {md : Region.Mode} {C : World → Prop}

/-- f operations from among the first n, in whatever order, each of them quiet in the class; then L. -/
def headAny (P : Program) (md : Region.Mode) (ops : Array Oper) (C : World → Prop) (n : Nat) (L : Array Bool → Act → Prop) : Nat → Array Bool → Act → Prop
  | 0, listed, a => L listed a
  | f + 1, listed, a => Region.ready md ops listed ≠ [] ∧ ∀ i ∈ Region.ready md ops listed, i < n ∧ qOp P ops C i (headAny P md ops C n L f (listed.setIfInBounds i true)) a

theorem any_of_head {n g : Nat} {L : Array Bool → Act → Prop} {Q : Exit → Act → World → Prop} (hL : ∀ listed a w, C w → L listed a → wpAny P md ops Q g listed a w) :
    ∀ (f : Nat) (listed : Array Bool) (a : Act) (w : World), C w → headAny P md ops C n L f listed a → wpAny P md ops Q (f + g) listed a w := by
  intro f
  induction f with
  | zero => intro listed a w hw h; rw [Nat.zero_add]; exact hL _ _ _ hw h
  | succ f ih =>
    intro listed a w hw h
    rw [show f + 1 + g = (f + g) + 1 from by omega]
    exact ⟨fun h0 => absurd h0 h.1, fun i hi => wpOp_of_qOp hw (fun a' w' hw' h' => ih _ a' w' hw' h') (h.2 i hi).2⟩

theorem head_first {n i : Nat} {oi : Oper} {v : Value} {L : Array Bool → Act → Prop} (hi : ops[i]? = some oi) (hsel : ∀ (j : Nat) (o : Oper) cs b, ops[j]? = some o → o.op ≠ .select cs b)
    (hs : Region.sinkB md ops n = true) (hc : Region.chainB md ops n = true) (hn : n < ops.size) (hin : i < n) (hdone : ∀ listed a, L listed a → ∀ j ∈ Region.ready md ops listed, n ≤ j) :
    ∀ (f : Nat) (listed : Array Bool) (a : Act), HeadInv md ops n listed →
      (∀ j oj, ops[j]? = some oj → j ≠ i → listed.getD j true = false → (∀ e ∈ oj.after, Region.binds md e = true → e.on ≠ i) → oi.apart ops oj = true) →
      i ∈ Region.ready md ops listed → YieldsIn P ops C oi v a → headAny P md ops C n L f (listed.setIfInBounds i true) (a.put oi.dst v) → headAny P md ops C n L (f + 1) listed a := by
  intro f
  induction f with
  | zero =>
    intro listed a inv _ hr hy H
    have hun := (mem_ready.1 hr).1
    refine ⟨fun h => (by rw [h] at hr; cases hr), fun j hj => ?_⟩
    have hjn : j < n := Nat.lt_of_not_le fun h => tail_waits hs hc hn inv _ i rfl hin hun j h hj
    refine ⟨hjn, ?_⟩
    by_cases hji : j = i
    · subst hji; exact hy.qOp hi H
    · exact absurd (hdone _ _ H j (ready_mono hj hji)) (by omega)
  | succ f ih =>
    intro listed a inv hfree hr hy H
    have hun := (mem_ready.1 hr).1
    refine ⟨fun h => (by rw [h] at hr; cases hr), fun j hj => ?_⟩
    have hjn : j < n := Nat.lt_of_not_le fun h => tail_waits hs hc hn inv _ i rfl hin hun j h hj
    refine ⟨hjn, ?_⟩
    by_cases hji : j = i
    · subst hji; exact hy.qOp hi H
    · obtain ⟨hjun, oj, hoj, hall⟩ := mem_ready.1 hj
      have hnot : ∀ e ∈ oj.after, Region.binds md e = true → e.on ≠ i := fun e he hb heq => by
        have h1 := hall e he hb
        rw [heq, getD_both hun] at h1
        cases h1
      have h2 := qOp_put hoj (hfree j oj hoj hji hjun hnot) (fun cs b => hsel i oi cs b hi) (fun cs b => hsel j oj cs b hoj) hy (H.2 j (ready_mono hj hji)).2
      refine qOp_mono (fun a' h3 => ih (listed.setIfInBounds j true) a' (inv.set hj hjn) (fun k ok hk hki hu hno => hfree k ok hk hki ?_ hno) (ready_mono hr (Ne.symm hji)) h3.1 ?_) h2
      · by_cases hjk : j = k
        · subst hjk; exact hjun
        · rwa [getD_set_ne true hjk] at hu
      · rw [Array.setIfInBounds_comm _ _ hji]
        exact h3.2

theorem head_lex {n g : Nat} {Lq : Act → Prop} (hsel : Region.noSelect ops = true) (hs : Region.sinkB md ops n = true) (hc : Region.chainB md ops n = true) (hn : n < ops.size) :
    ∀ (l : List Oper) (k : Nat) (listed : Array Bool) (a : Act), (∀ j, j < l.length → l[j]? = ops[k + j]?) → k + l.length = n → HeadInv md ops n listed →
      Region.lexHead md ops g l.length k listed = true → wpQuiet P ops C Lq l a →
      headAny P md ops C n (fun listed' a' => Region.seqB md ops g n listed' = true ∧ Lq a') l.length listed a := by
  intro l
  induction l with
  | nil =>
    intro k listed a _ hk _ hB h
    obtain rfl : k = n := by simpa using hk
    exact ⟨by simpa [Region.lexHead] using hB, h⟩
  | cons o l ih =>
    intro k listed a hl hk inv hB h
    have h0 : ops[k]? = some o := by simpa using (hl 0 (by simp)).symm
    simp only [List.length_cons, Region.lexHead, Bool.and_eq_true] at hB
    obtain ⟨⟨hr, hf⟩, hB'⟩ := hB
    simp only [List.length_cons] at hk
    have hr' : k ∈ Region.ready md ops listed := by simpa using hr
    have hst : qOp P ops C k (wpQuiet P ops C Lq l) a := by unfold qOp; simp only [h0]; exact h
    obtain ⟨v, hy, hK⟩ := yieldsIn_of_qOp h0 hst
    exact head_first h0 (Region.noSelect_spec hsel) hs hc hn (by omega) (fun listed' a' hL => seqB_ready hL.1) l.length listed a inv (Region.free_spec h0 hf) hr' hy
      (ih (k + 1) _ _ (fun j hj => by have := hl (j + 1) (by simp; omega); simpa [Nat.add_assoc, Nat.add_comm 1 j] using this) (by omega) (inv.set hr' (by omega)) hB' hK)

/-- The region: n operations that are quiet in a class of worlds, walked in the order of the text; then the rest, in each world of the class. -/
theorem region_quiet_tail {id : Nat} {Q : Exit → Act → World → Prop} {a : Act} {w : World} {l : List Oper} (n : Nat) (hm : P.follows .mixedOrders = true) (hB : Region.lexTailB .any l.toArray n = true) (hC : C { w with drawn := w.drawn + 1 })
    (h : wpQuiet P l.toArray C (fun a' => ∀ w', C w' → wpList P l.toArray Q (l.drop n) a' w') (l.take n) a) : (Code.region id l.toArray true).wp P Q a w := by
  simp only [Region.lexTailB, Bool.and_eq_true, decide_eq_true_eq] at hB
  obtain ⟨⟨⟨⟨hsel, hn⟩, hs⟩, hc⟩, hlex⟩ := hB
  have hn' : n < l.length := by simpa using hn
  have htl : (l.take n).length = n := by simp; omega
  have hdl : (l.drop n).length = l.toArray.size - n := by simp
  have inv0 : HeadInv .any l.toArray n (Array.replicate l.toArray.size false) :=
    ⟨by simp, fun j oj _ hl => (by rw [getD_replicate_false] at hl; cases hl), fun t _ ht => getD_in (by simpa using ht) (getD_replicate_false _ _)⟩
  have H := head_lex (md := .any) (g := l.toArray.size - n) hsel hs hc hn (l.take n) 0 _ a (fun j hj => by
    rw [htl] at hj; simp [hj]) (by simpa using htl) inv0 (by rw [htl]; exact hlex) h
  refine wp_region_any hm ?_
  have := any_of_head (Q := Q) (g := l.toArray.size - n) (fun listed a' w' hw' hL => by
    have := wpAny_of_seq (md := .any) (Q' := Q) (l.drop n) n listed a' w' (fun j => by simp [List.getElem?_drop]) (by rw [hdl]; exact hL.1) (hL.2 w' hw')
    rwa [hdl] at this) _ _ _ _ hC H
  rw [htl, show n + (l.toArray.size - n) = l.toArray.size from by omega] at this
  exact this
end

/-! ### worlds with more memory -/
/-- more blocks, and how many draws -/
structure More where
  bs : Array Obj
  d : Nat
instance : Inhabited More := ⟨⟨#[], 0⟩⟩
/-- w with more blocks, and so many draws -/
def more (w : World) (m : More) : World := { w with heap := w.heap ++ m.bs, drawn := m.d }
theorem more_cell (w : World) (m : More) (b o : Nat) (h : b < w.heap.size) : (more w m).cell? ⟨b, o, none⟩ = w.cell? ⟨b, o, none⟩ := by
  unfold more World.cell?
  simp [Array.getElem?_append_left h]
theorem more_frozen (w : World) (m : More) (b o : Nat) (h : b < w.heap.size) : (more w m).frozen? ⟨b, o, none⟩ = w.frozen? ⟨b, o, none⟩ := by
  unfold more World.frozen?
  simp [Array.getElem?_append_left h]
theorem more_block (w : World) (m : More) (b : Nat) (h : b < w.heap.size) : (more w m).heap[b]? = w.heap[b]? := Array.getElem?_append_left h
theorem more_size (w : World) (m : More) : w.heap.size ≤ (more w m).heap.size := by unfold more; simp
theorem more_lt (w : World) (m : More) (b : Nat) (h : b < w.heap.size) : b < (more w m).heap.size := Nat.lt_of_lt_of_le h (more_size w m)
theorem more_below (w : World) (m : More) : Below w.heap.size w (more w m) := ⟨rfl, rfl, rfl, more_size w m, fun k hk => more_block w m k hk⟩
theorem below_more {w w' : World} (h : Below w.heap.size w w') : ∃ m, w' = more w m := by
  refine ⟨⟨w'.heap.extract w.heap.size w'.heap.size, w'.drawn⟩, ?_⟩
  obtain ⟨h1, h2, h3, h4, h5⟩ := h
  cases w' with
  | mk heap tape drawn os output =>
    simp only at h1 h2 h3 h4 h5
    subst h1 h2 h3
    unfold more
    congr 1
    apply Array.ext
    · simp; omega
    · intro i hi hi'
      rcases Nat.lt_or_ge i w.heap.size with hlt | hge
      · rw [Array.getElem_append_left hlt]
        have := h5 i hlt
        rw [Array.getElem?_eq_getElem hi, Array.getElem?_eq_getElem hlt] at this
        exact Option.some.inj this
      · rw [Array.getElem_append_right hge]
        simp [Array.getElem_extract]; congr 1; omega
theorem more_more (w : World) (m m' : More) : ∃ m'', more (more w m) m' = more w m'' := ⟨⟨m.bs ++ m'.bs, m'.d⟩, by unfold more; simp⟩
theorem more_drew (w : World) : ∃ m, ({ w with drawn := w.drawn + 1 } : World) = more w m := ⟨⟨#[], w.drawn + 1⟩, by unfold more; simp⟩
/-- The class of worlds that have more than w. -/
def After (w : World) : World → Prop := fun w' => ∃ m, w' = more w m
theorem after_drew (w : World) : After w { w with drawn := w.drawn + 1 } := more_drew w
theorem after_below {w w' : World} (h : After w w') : Below w.heap.size w w' := by obtain ⟨m, rfl⟩ := h; exact more_below w m
/-- A callee's contract, within the class. -/
theorem calls_after {P : Program} {f : FuncId} {args : Array Value} {w : World} {m : More} {v : Value}
    (h : Calls P f args (more w m) fun e w' => e = .returned v ∧ Below (more w m).heap.size (more w m) w') : Calls P f args (more w m) fun e w' => e = .returned v ∧ ∃ m', w' = more w m' :=
  h.mono fun _ _ ⟨he, hb⟩ => ⟨he, by obtain ⟨m', rfl⟩ := below_more hb; exact more_more w m m'⟩
theorem calls_after_same {P : Program} {f : FuncId} {args : Array Value} {w : World} {m : More} {v : Value}
    (h : Calls P f args (more w m) fun e w' => e = .returned v ∧ more w m = w') : Calls P f args (more w m) fun e w' => e = .returned v ∧ ∃ m', w' = more w m' :=
  h.mono fun _ _ ⟨he, hb⟩ => ⟨he, m, hb.symm⟩
theorem calls_after_drewN {P : Program} {f : FuncId} {args : Array Value} {w : World} {m : More} {v : Value}
    (h : Calls P f args (more w m) fun e w' => e = .returned v ∧ ∃ q, w' = (more w m).drewN q) : Calls P f args (more w m) fun e w' => e = .returned v ∧ ∃ m', w' = more w m' :=
  h.mono fun _ _ ⟨he, q, hb⟩ => ⟨he, ⟨m.bs, m.d + q⟩, hb⟩

/-! ### what was there when the call began is as it was -/
section
variable {w w' w'' : World}
theorem ext_drew (h : Below w.heap.size w w') : Below w.heap.size w w'.drew := h.drew
theorem ext_drewN (h : Below w.heap.size w w') (n : Nat) : Below w.heap.size w (w'.drewN n) := ⟨h.os, h.tape, h.output, h.size, h.block⟩
theorem ext_alloc (h : Below w.heap.size w w') (o : Obj) : Below w.heap.size w (w'.alloc o) := h.alloc h.size o
theorem ext_more (h : Below w.heap.size w w') (m : More) : Below w.heap.size w (more w' m) := h.trans ((more_below w' m).mono h.size)
theorem ext_setCell (h : Below w.heap.size w w') {p : Addr} (hp : w.heap.size ≤ p.block) (v : Value) : Below w.heap.size w (w'.setCell p v) := h.setCell hp v
theorem ext_below (h : Below w.heap.size w w') (k : Below w'.heap.size w' w'') : Below w.heap.size w w'' := h.trans (k.mono h.size)
end
/-- A region all of whose operations are quiet in the class of worlds that have more. -/
theorem region_quiet_all {P : Program} {id : Nat} {Q : Exit → Act → World → Prop} {a : Act} {w : World} {l : List Oper} (hm : P.follows .mixedOrders = true) (hB : Region.lexB .any l.toArray = true)
    (h : wpQuiet P l.toArray (fun w' => ∃ m, w' = more w m) (fun a' => ∀ w', (∃ m, w' = more w m) → Q .normal a' w') l a) : (Code.region id l.toArray true).wp P Q a w :=
  wp_region_quiet (C := fun w' => ∃ m, w' = more w m) hm hB (more_drew w) (by simpa using h)
/-- The same, its last operations apart. -/
theorem region_quiet_but {P : Program} {id : Nat} {Q : Exit → Act → World → Prop} {a : Act} {w : World} {l : List Oper} (n : Nat) (hm : P.follows .mixedOrders = true) (hB : Region.lexTailB .any l.toArray n = true)
    (h : wpQuiet P l.toArray (fun w' => ∃ m, w' = more w m) (fun a' => ∀ w', (∃ m, w' = more w m) → wpList P l.toArray Q (l.drop n) a' w') (l.take n) a) : (Code.region id l.toArray true).wp P Q a w :=
  region_quiet_tail n hm hB (more_drew w) h

/-! ### a block that is known whole -/
/-- block b holds these cells, and may be written -/
structure Blk (w : World) (b : Nat) (cs : Array Value) : Prop where
  lt : b < w.heap.size
  cell : ∀ o, w.cell? ⟨b, o, none⟩ = cs[o]?
  free : ∀ o, w.frozen? ⟨b, o, none⟩ = false
theorem Blk.below {w w' : World} {b : Nat} {cs : Array Value} (h : Blk w b cs) (k : Below w.heap.size w w') : Blk w' b cs :=
  ⟨Nat.lt_of_lt_of_le h.lt k.size, fun o => (k.cell (p := ⟨b, o, none⟩) h.lt).trans (h.cell o), fun o => (k.frozen (p := ⟨b, o, none⟩) h.lt).trans (h.free o)⟩
theorem Blk.fresh (w : World) (cs : Array Value) (t : TypeId) : Blk (w.alloc (.cells cs t)) w.heap.size cs :=
  ⟨by simp, fun o => World.cell?_alloc_new w cs t o, fun o => World.frozen?_alloc_new w cs t o⟩
theorem Blk.at (w : World) (b : Nat) (cs : Array Value) (t : TypeId) (h : b = w.heap.size) : Blk (w.alloc (.cells cs t)) b cs := by subst h; exact Blk.fresh w cs t
theorem Blk.alloc {w : World} {b : Nat} {cs : Array Value} (h : Blk w b cs) (o : Obj) : Blk (w.alloc o) b cs := h.below ((Below.refl _ _).alloc (Nat.le_refl _) o)
theorem Blk.drew {w : World} {b : Nat} {cs : Array Value} (h : Blk w b cs) : Blk w.drew b cs := h.below (Below.refl _ _).drew
theorem Blk.drewN {w : World} {b : Nat} {cs : Array Value} (h : Blk w b cs) (n : Nat) : Blk (w.drewN n) b cs := h.below (ext_drewN (Below.refl _ _) n)
theorem Blk.more {w : World} {b : Nat} {cs : Array Value} (h : Blk w b cs) (m : More) : Blk (more w m) b cs := h.below (more_below w m)
theorem Blk.setCell {w : World} {b : Nat} {cs : Array Value} (h : Blk w b cs) (a : Addr) (v : Value) (ha : a.block ≠ b) : Blk (w.setCell a v) b cs := by
  have e : (w.setCell a v).heap[b]? = w.heap[b]? := Below.heap_setCell _ _ _ _ (Ne.symm ha)
  refine ⟨by simpa using h.lt, fun o => ?_, fun o => ?_⟩
  · rw [← h.cell o]; exact World.cell?_of_block (w := w) (w' := w.setCell a v) e
  · rw [← h.free o]; exact World.frozen?_of_block (w := w) (w' := w.setCell a v) e
theorem Blk.set {w : World} {b : Nat} {cs : Array Value} (h : Blk w b cs) (i : Nat) (v : Value) (hi : i < cs.size) : Blk (w.setCell ⟨b, i, none⟩ v) b (cs.setIfInBounds i v) := by
  refine ⟨by simpa using h.lt, fun o => ?_, fun o => (World.frozen?_setCell _ _ _ _).trans (h.free o)⟩
  by_cases e : o = i
  · subst e
    rw [World.cell?_setCell_same' _ _ _ (by rw [h.cell]; simp [hi])]
    simp [hi]
  · rw [World.cell?_setCell_other _ _ _ _ (by intro h'; exact e (congrArg Addr.off h').symm), h.cell]
    rw [Array.getElem?_setIfInBounds_ne (Ne.symm e)]
/-! ### one block, kept through a region -/
theorem keep1 {w w0 w1 : World} {b : Nat} {cs : Array Value} (h : (∀ o, w0.cell? ⟨b, o, none⟩ = cs[o]?) ∧ b < w0.heap.size ∧ Below w.heap.size w w0) (hb : Below w0.heap.size w0 w1) :
    (∀ o, w1.cell? ⟨b, o, none⟩ = cs[o]?) ∧ b < w1.heap.size ∧ Below w.heap.size w w1 :=
  ⟨fun o => (hb.cell (p := ⟨b, o, none⟩) h.2.1).trans (h.1 o), Nat.lt_of_lt_of_le h.2.1 hb.size, ext_below h.2.2 hb⟩
theorem keep1_alloc {w w0 : World} {b : Nat} {cs : Array Value} (h : (∀ o, w0.cell? ⟨b, o, none⟩ = cs[o]?) ∧ b < w0.heap.size ∧ Below w.heap.size w w0) (o : Obj) :
    (∀ i, (w0.alloc o).cell? ⟨b, i, none⟩ = cs[i]?) ∧ b < (w0.alloc o).heap.size ∧ Below w.heap.size w (w0.alloc o) := keep1 h ((Below.refl _ _).alloc (Nat.le_refl _) o)
theorem keep1_drewN {w w0 : World} {b : Nat} {cs : Array Value} (h : (∀ o, w0.cell? ⟨b, o, none⟩ = cs[o]?) ∧ b < w0.heap.size ∧ Below w.heap.size w w0) (n : Nat) :
    (∀ i, (w0.drewN n).cell? ⟨b, i, none⟩ = cs[i]?) ∧ b < (w0.drewN n).heap.size ∧ Below w.heap.size w (w0.drewN n) := keep1 h (ext_drewN (Below.refl _ _) n)
end Go.Proofs.Ytefhmbmbhiehdaa
