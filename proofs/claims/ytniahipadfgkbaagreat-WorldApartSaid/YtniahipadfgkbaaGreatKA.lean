/- for k, v := range m: maps as functions, keys of ints; two maps with the same keys have as many. Conditions: none. -/
import Derived.Deep.Quiet
import Derived.Deep.QuietTactic
import Derived.BigQuiet
import Derived.StillTail
import Derived.Below
import Derived.WalkKit
import Derived.LaidEqlPtr
import Derived.Laws.Entries
import Derived.Laws.AppendOwn
import Derived.OwnWalk
import Derived.Maps.OwnOps
import Derived.Maps.OwnSet
import Derived.Maps.Views
import Derived.Maps.RangeWalk
namespace Go.Proofs.YtniahipadfgkbaaGreat
open Go Go.RowKit

section
variable {P : Program} {ops : Array Oper} {md : Region.Mode} {C : World → Prop}

/-- f operations from among the first n, in whatever order, each of them quiet in the class; then L. -/
def headAny (P : Program) (md : Region.Mode) (ops : Array Oper) (C : World → Prop) (n : Nat) (L : Array Bool → Act → Prop) : Nat → Array Bool → Act → Prop
  | 0, listed, a => L listed a
  | f + 1, listed, a => Region.ready md ops listed ≠ [] ∧ ∀ i ∈ Region.ready md ops listed, i < n ∧ qOp P ops C i (headAny P md ops C n L f (listed.setIfInBounds i true)) a

theorem any_of_head {n g : Nat} {L : Array Bool → Act → Prop} {Q : Exit → Act → World → Prop} (hL : ∀ listed a w, C w → L listed a → wpAny P md ops Q g listed a w) :
    ∀ (f : Nat) (listed : Array Bool) (a : Act) (w : World), C w → headAny P md ops C n L f listed a → wpAny P md ops Q (f + g) listed a w := by
  intro f
  induction f with
  | zero => intro listed a w hw h; rw [Nat.zero_add]; exact hL _ _ _ hw h
  | succ f ih =>
    intro listed a w hw h
    rw [show f + 1 + g = (f + g) + 1 from by omega]
    exact ⟨fun h0 => absurd h0 h.1, fun i hi => wpOp_of_qOp hw (fun a' w' hw' h' => ih _ a' w' hw' h') (h.2 i hi).2⟩

theorem head_first {n i : Nat} {oi : Oper} {v : Value} {L : Array Bool → Act → Prop} (hi : ops[i]? = some oi) (hsel : ∀ (j : Nat) (o : Oper) cs b, ops[j]? = some o → o.op ≠ .select cs b)
    (hs : Region.sinkB md ops n = true) (hc : Region.chainB md ops n = true) (hn : n < ops.size) (hin : i < n) (hdone : ∀ listed a, L listed a → ∀ j ∈ Region.ready md ops listed, n ≤ j) :
    ∀ (f : Nat) (listed : Array Bool) (a : Act), HeadInv md ops n listed →
      (∀ j oj, ops[j]? = some oj → j ≠ i → listed.getD j true = false → (∀ e ∈ oj.after, Region.binds md e = true → e.on ≠ i) → oi.apart ops oj = true) →
      i ∈ Region.ready md ops listed → YieldsIn P ops C oi v a → headAny P md ops C n L f (listed.setIfInBounds i true) (a.put oi.dst v) → headAny P md ops C n L (f + 1) listed a := by
  intro f
  induction f with
  | zero =>
    intro listed a inv _ hr hy H
    have hun := (mem_ready.1 hr).1
    refine ⟨fun h => (by rw [h] at hr; cases hr), fun j hj => ?_⟩
    have hjn : j < n := Nat.lt_of_not_le fun h => tail_waits hs hc hn inv _ i rfl hin hun j h hj
    refine ⟨hjn, ?_⟩
    by_cases hji : j = i
    · subst hji; exact hy.qOp hi H
    · exact absurd (hdone _ _ H j (ready_mono hj hji)) (by omega)
  | succ f ih =>
    intro listed a inv hfree hr hy H
    have hun := (mem_ready.1 hr).1
    refine ⟨fun h => (by rw [h] at hr; cases hr), fun j hj => ?_⟩
    have hjn : j < n := Nat.lt_of_not_le fun h => tail_waits hs hc hn inv _ i rfl hin hun j h hj
    refine ⟨hjn, ?_⟩
    by_cases hji : j = i
    · subst hji; exact hy.qOp hi H
    · obtain ⟨hjun, oj, hoj, hall⟩ := mem_ready.1 hj
      have hnot : ∀ e ∈ oj.after, Region.binds md e = true → e.on ≠ i := fun e he hb heq => by
        have h1 := hall e he hb
        rw [heq, getD_both hun] at h1
        cases h1
      have h2 := qOp_put hoj (hfree j oj hoj hji hjun hnot) (fun cs b => hsel i oi cs b hi) (fun cs b => hsel j oj cs b hoj) hy (H.2 j (ready_mono hj hji)).2
      refine qOp_mono (fun a' h3 => ih (listed.setIfInBounds j true) a' (inv.set hj hjn) (fun k ok hk hki hu hno => hfree k ok hk hki ?_ hno) (ready_mono hr (Ne.symm hji)) h3.1 ?_) h2
      · by_cases hjk : j = k
        · subst hjk; exact hjun
        · rwa [getD_set_ne true hjk] at hu
      · rw [Array.setIfInBounds_comm _ _ hji]
        exact h3.2

theorem head_lex {n g : Nat} {Lq : Act → Prop} (hsel : Region.noSelect ops = true) (hs : Region.sinkB md ops n = true) (hc : Region.chainB md ops n = true) (hn : n < ops.size) :
    ∀ (l : List Oper) (k : Nat) (listed : Array Bool) (a : Act), (∀ j, j < l.length → l[j]? = ops[k + j]?) → k + l.length = n → HeadInv md ops n listed →
      Region.lexHead md ops g l.length k listed = true → wpQuiet P ops C Lq l a →
      headAny P md ops C n (fun listed' a' => Region.seqB md ops g n listed' = true ∧ Lq a') l.length listed a := by
  intro l
  induction l with
  | nil =>
    intro k listed a _ hk _ hB h
    obtain rfl : k = n := by simpa using hk
    exact ⟨by simpa [Region.lexHead] using hB, h⟩
  | cons o l ih =>
    intro k listed a hl hk inv hB h
    have h0 : ops[k]? = some o := by simpa using (hl 0 (by simp)).symm
    simp only [List.length_cons, Region.lexHead, Bool.and_eq_true] at hB
    obtain ⟨⟨hr, hf⟩, hB'⟩ := hB
    simp only [List.length_cons] at hk
    have hr' : k ∈ Region.ready md ops listed := by simpa using hr
    have hst : qOp P ops C k (wpQuiet P ops C Lq l) a := by unfold qOp; simp only [h0]; exact h
    obtain ⟨v, hy, hK⟩ := yieldsIn_of_qOp h0 hst
    exact head_first h0 (Region.noSelect_spec hsel) hs hc hn (by omega) (fun listed' a' hL => seqB_ready hL.1) l.length listed a inv (Region.free_spec h0 hf) hr' hy
      (ih (k + 1) _ _ (fun j hj => by have := hl (j + 1) (by simp; omega); simpa [Nat.add_assoc, Nat.add_comm 1 j] using this) (by omega) (inv.set hr' (by omega)) hB' hK)

/-- The region: n operations that are quiet in a class of worlds, walked in the order of the text; then the rest, in each world of the class. -/
theorem region_quiet_tail {id : Nat} {Q : Exit → Act → World → Prop} {a : Act} {w : World} {l : List Oper} (n : Nat) (hm : P.follows .mixedOrders = true) (hB : Region.lexTailB .any l.toArray n = true) (hC : C { w with drawn := w.drawn + 1 })
    (h : wpQuiet P l.toArray C (fun a' => ∀ w', C w' → wpList P l.toArray Q (l.drop n) a' w') (l.take n) a) : (Code.region id l.toArray true).wp P Q a w := by
  simp only [Region.lexTailB, Bool.and_eq_true, decide_eq_true_eq] at hB
  obtain ⟨⟨⟨⟨hsel, hn⟩, hs⟩, hc⟩, hlex⟩ := hB
  have hn' : n < l.length := by simpa using hn
  have htl : (l.take n).length = n := by simp; omega
  have hdl : (l.drop n).length = l.toArray.size - n := by simp
  have inv0 : HeadInv .any l.toArray n (Array.replicate l.toArray.size false) :=
    ⟨by simp, fun j oj _ hl => (by rw [getD_replicate_false] at hl; cases hl), fun t _ ht => getD_in (by simpa using ht) (getD_replicate_false _ _)⟩
  have H := head_lex (md := .any) (g := l.toArray.size - n) hsel hs hc hn (l.take n) 0 _ a (fun j hj => by
    rw [htl] at hj; simp [hj]) (by simpa using htl) inv0 (by rw [htl]; exact hlex) h
  refine wp_region_any hm ?_
  have := any_of_head (Q := Q) (g := l.toArray.size - n) (fun listed a' w' hw' hL => by
    have := wpAny_of_seq (md := .any) (Q' := Q) (l.drop n) n listed a' w' (fun j => by simp [List.getElem?_drop]) (by rw [hdl]; exact hL.1) (hL.2 w' hw')
    rwa [hdl] at this) _ _ _ _ hC H
  rw [htl, show n + (l.toArray.size - n) = l.toArray.size from by omega] at this
  exact this
end

/-! ### worlds with more memory -/
/-- more blocks, and how many draws -/
structure More where
  bs : Array Obj
  d : Nat
instance : Inhabited More := ⟨⟨#[], 0⟩⟩
/-- w with more blocks, and so many draws -/
def more (w : World) (m : More) : World := { w with heap := w.heap ++ m.bs, drawn := m.d }
theorem more_cell (w : World) (m : More) (b o : Nat) (h : b < w.heap.size) : (more w m).cell? ⟨b, o, none⟩ = w.cell? ⟨b, o, none⟩ := by
  unfold more World.cell?
  simp [Array.getElem?_append_left h]
theorem more_frozen (w : World) (m : More) (b o : Nat) (h : b < w.heap.size) : (more w m).frozen? ⟨b, o, none⟩ = w.frozen? ⟨b, o, none⟩ := by
  unfold more World.frozen?
  simp [Array.getElem?_append_left h]
theorem more_block (w : World) (m : More) (b : Nat) (h : b < w.heap.size) : (more w m).heap[b]? = w.heap[b]? := Array.getElem?_append_left h
theorem more_size (w : World) (m : More) : w.heap.size ≤ (more w m).heap.size := by unfold more; simp
theorem more_lt (w : World) (m : More) (b : Nat) (h : b < w.heap.size) : b < (more w m).heap.size := Nat.lt_of_lt_of_le h (more_size w m)
theorem more_below (w : World) (m : More) : Below w.heap.size w (more w m) := ⟨rfl, rfl, rfl, more_size w m, fun k hk => more_block w m k hk⟩
theorem below_more {w w' : World} (h : Below w.heap.size w w') : ∃ m, w' = more w m := by
  refine ⟨⟨w'.heap.extract w.heap.size w'.heap.size, w'.drawn⟩, ?_⟩
  obtain ⟨h1, h2, h3, h4, h5⟩ := h
  cases w' with
  | mk heap tape drawn os output =>
    simp only at h1 h2 h3 h4 h5
    subst h1 h2 h3
    unfold more
    congr 1
    apply Array.ext
    · simp; omega
    · intro i hi hi'
      rcases Nat.lt_or_ge i w.heap.size with hlt | hge
      · rw [Array.getElem_append_left hlt]
        have := h5 i hlt
        rw [Array.getElem?_eq_getElem hi, Array.getElem?_eq_getElem hlt] at this
        exact Option.some.inj this
      · rw [Array.getElem_append_right hge]
        simp [Array.getElem_extract]; congr 1; omega
theorem more_more (w : World) (m m' : More) : ∃ m'', more (more w m) m' = more w m'' := ⟨⟨m.bs ++ m'.bs, m'.d⟩, by unfold more; simp⟩
theorem more_drew (w : World) : ∃ m, ({ w with drawn := w.drawn + 1 } : World) = more w m := ⟨⟨#[], w.drawn + 1⟩, by unfold more; simp⟩
/-- The class of worlds that have more than w. -/
def After (w : World) : World → Prop := fun w' => ∃ m, w' = more w m
theorem after_below {w w' : World} (h : After w w') : Below w.heap.size w w' := by obtain ⟨m, rfl⟩ := h; exact more_below w m
/-- A callee's contract, within the class. -/
theorem calls_after {P : Program} {f : FuncId} {args : Array Value} {w : World} {m : More} {v : Value}
    (h : Calls P f args (more w m) fun e w' => e = .returned v ∧ Below (more w m).heap.size (more w m) w') : Calls P f args (more w m) fun e w' => e = .returned v ∧ ∃ m', w' = more w m' :=
  h.mono fun _ _ ⟨he, hb⟩ => ⟨he, by obtain ⟨m', rfl⟩ := below_more hb; exact more_more w m m'⟩
theorem calls_after_same {P : Program} {f : FuncId} {args : Array Value} {w : World} {m : More} {v : Value}
    (h : Calls P f args (more w m) fun e w' => e = .returned v ∧ more w m = w') : Calls P f args (more w m) fun e w' => e = .returned v ∧ ∃ m', w' = more w m' :=
  h.mono fun _ _ ⟨he, hb⟩ => ⟨he, m, hb.symm⟩
theorem calls_after_drewN {P : Program} {f : FuncId} {args : Array Value} {w : World} {m : More} {v : Value}
    (h : Calls P f args (more w m) fun e w' => e = .returned v ∧ ∃ q, w' = (more w m).drewN q) : Calls P f args (more w m) fun e w' => e = .returned v ∧ ∃ m', w' = more w m' :=
  h.mono fun _ _ ⟨he, q, hb⟩ => ⟨he, ⟨m.bs, m.d + q⟩, hb⟩

/-! ### what was there when the call began is as it was -/
section
variable {w w' w'' : World}
theorem ext_drew (h : Below w.heap.size w w') : Below w.heap.size w w'.drew := h.drew
theorem ext_drewN (h : Below w.heap.size w w') (n : Nat) : Below w.heap.size w (w'.drewN n) := ⟨h.os, h.tape, h.output, h.size, h.block⟩
theorem ext_alloc (h : Below w.heap.size w w') (o : Obj) : Below w.heap.size w (w'.alloc o) := h.alloc h.size o
theorem ext_more (h : Below w.heap.size w w') (m : More) : Below w.heap.size w (more w' m) := h.trans ((more_below w' m).mono h.size)
theorem ext_setCell (h : Below w.heap.size w w') {p : Addr} (hp : w.heap.size ≤ p.block) (v : Value) : Below w.heap.size w (w'.setCell p v) := h.setCell hp v
theorem ext_below (h : Below w.heap.size w w') (k : Below w'.heap.size w' w'') : Below w.heap.size w w'' := h.trans (k.mono h.size)
end
/-- A region all of whose operations are quiet in the class of worlds that have more. -/
theorem region_quiet_all {P : Program} {id : Nat} {Q : Exit → Act → World → Prop} {a : Act} {w : World} {l : List Oper} (hm : P.follows .mixedOrders = true) (hB : Region.lexB .any l.toArray = true)
    (h : wpQuiet P l.toArray (fun w' => ∃ m, w' = more w m) (fun a' => ∀ w', (∃ m, w' = more w m) → Q .normal a' w') l a) : (Code.region id l.toArray true).wp P Q a w :=
  wp_region_quiet (C := fun w' => ∃ m, w' = more w m) hm hB (more_drew w) (by simpa using h)
/-- The same, its last operations apart. -/
theorem region_quiet_but {P : Program} {id : Nat} {Q : Exit → Act → World → Prop} {a : Act} {w : World} {l : List Oper} (n : Nat) (hm : P.follows .mixedOrders = true) (hB : Region.lexTailB .any l.toArray n = true)
    (h : wpQuiet P l.toArray (fun w' => ∃ m, w' = more w m) (fun a' => ∀ w', (∃ m, w' = more w m) → wpList P l.toArray Q (l.drop n) a' w') (l.take n) a) : (Code.region id l.toArray true).wp P Q a w :=
  region_quiet_tail n hm hB (more_drew w) h

/-! ### a block that is known whole -/
/-- block b holds these cells, and may be written -/
structure Blk (w : World) (b : Nat) (cs : Array Value) : Prop where
  lt : b < w.heap.size
  cell : ∀ o, w.cell? ⟨b, o, none⟩ = cs[o]?
  free : ∀ o, w.frozen? ⟨b, o, none⟩ = false
theorem Blk.below {w w' : World} {b : Nat} {cs : Array Value} (h : Blk w b cs) (k : Below w.heap.size w w') : Blk w' b cs :=
  ⟨Nat.lt_of_lt_of_le h.lt k.size, fun o => (k.cell (p := ⟨b, o, none⟩) h.lt).trans (h.cell o), fun o => (k.frozen (p := ⟨b, o, none⟩) h.lt).trans (h.free o)⟩
theorem Blk.fresh (w : World) (cs : Array Value) (t : TypeId) : Blk (w.alloc (.cells cs t)) w.heap.size cs :=
  ⟨by simp, fun o => World.cell?_alloc_new w cs t o, fun o => World.frozen?_alloc_new w cs t o⟩
theorem Blk.at (w : World) (b : Nat) (cs : Array Value) (t : TypeId) (h : b = w.heap.size) : Blk (w.alloc (.cells cs t)) b cs := by subst h; exact Blk.fresh w cs t
theorem Blk.alloc {w : World} {b : Nat} {cs : Array Value} (h : Blk w b cs) (o : Obj) : Blk (w.alloc o) b cs := h.below ((Below.refl _ _).alloc (Nat.le_refl _) o)
theorem Blk.drew {w : World} {b : Nat} {cs : Array Value} (h : Blk w b cs) : Blk w.drew b cs := h.below (Below.refl _ _).drew
theorem Blk.drewN {w : World} {b : Nat} {cs : Array Value} (h : Blk w b cs) (n : Nat) : Blk (w.drewN n) b cs := h.below (ext_drewN (Below.refl _ _) n)
theorem Blk.more {w : World} {b : Nat} {cs : Array Value} (h : Blk w b cs) (m : More) : Blk (more w m) b cs := h.below (more_below w m)
theorem Blk.setCell {w : World} {b : Nat} {cs : Array Value} (h : Blk w b cs) (a : Addr) (v : Value) (ha : a.block ≠ b) : Blk (w.setCell a v) b cs := by
  have e : (w.setCell a v).heap[b]? = w.heap[b]? := Below.heap_setCell _ _ _ _ (Ne.symm ha)
  refine ⟨by simpa using h.lt, fun o => ?_, fun o => ?_⟩
  · rw [← h.cell o]; exact World.cell?_of_block (w := w) (w' := w.setCell a v) e
  · rw [← h.free o]; exact World.frozen?_of_block (w := w) (w' := w.setCell a v) e
theorem Blk.set {w : World} {b : Nat} {cs : Array Value} (h : Blk w b cs) (i : Nat) (v : Value) (hi : i < cs.size) : Blk (w.setCell ⟨b, i, none⟩ v) b (cs.setIfInBounds i v) := by
  refine ⟨by simpa using h.lt, fun o => ?_, fun o => (World.frozen?_setCell _ _ _ _).trans (h.free o)⟩
  by_cases e : o = i
  · subst e
    rw [World.cell?_setCell_same' _ _ _ (by rw [h.cell]; simp [hi])]
    simp [hi]
  · rw [World.cell?_setCell_other _ _ _ _ (by intro h'; exact e (congrArg Addr.off h').symm), h.cell]
    rw [Array.getElem?_setIfInBounds_ne (Ne.symm e)]
/-! ### one block, kept through a region -/
end Go.Proofs.YtniahipadfgkbaaGreat
namespace Go.Proofs.YtniahipadfgkbaaGreat
open Go Go.RowKit
theorem Blk.far {w : World} {b g i : Nat} {cs : Array Value} {v : Value} (hne : g ≠ b) (h : Blk w b cs) : Blk (w.setCell ⟨g, i, none⟩ v) b cs := h.setCell _ _ hne
theorem cell_out {w : World} {a : Addr} {v : Value} (h : w.cell? a = none) : (w.setCell a v).cell? a = none := by
  obtain ⟨b, i, s⟩ := a
  unfold World.cell? World.setCell at *
  simp only [Array.getElem?_modify, if_true] at *
  cases hh : w.heap[b]? with
  | none => simp
  | some o =>
    rw [hh] at h
    cases o <;> cases s <;> simp_all
/-- a store into the block -/
theorem Blk.put {w : World} {b i : Nat} {cs : Array Value} {v : Value} (h : Blk w b cs) : Blk (w.setCell ⟨b, i, none⟩ v) b (cs.setIfInBounds i v) := by
  by_cases hi : i < cs.size
  · exact h.set i v hi
  · have e : cs.setIfInBounds i v = cs := by simp [Array.setIfInBounds, hi]
    rw [e]
    refine ⟨by simpa using h.lt, fun o => ?_, fun o => (World.frozen?_setCell _ _ _ _).trans (h.free o)⟩
    by_cases e : o = i
    · subst e
      have h0 : w.cell? ⟨b, o, none⟩ = none := by rw [h.cell]; simp; omega
      rw [cell_out h0, ← h0, h.cell]
    · rw [World.cell?_setCell_other _ _ _ _ (by intro h'; exact e (congrArg Addr.off h').symm), h.cell]
end Go.Proofs.YtniahipadfgkbaaGreat
namespace Go.Proofs.YtniahipadfgkbaaGreat
open Go Go.RowKit
/-- all blocks of w but those of S are in w' as they were -/
structure Mod (S : Nat → Prop) (w w' : World) : Prop where
  os : w'.os = w.os
  tape : w'.tape = w.tape
  output : w'.output = w.output
  size : w.heap.size ≤ w'.heap.size
  block : ∀ b, b < w.heap.size → ¬ S b → w'.heap[b]? = w.heap[b]?
section
variable {S T : Nat → Prop} {w w' w'' : World}
theorem Mod.refl (S : Nat → Prop) (w : World) : Mod S w w := ⟨rfl, rfl, rfl, Nat.le_refl _, fun _ _ _ => rfl⟩
theorem Mod.trans (h : Mod S w w') (k : Mod S w' w'') : Mod S w w'' :=
  ⟨k.os.trans h.os, k.tape.trans h.tape, k.output.trans h.output, Nat.le_trans h.size k.size, fun b hb hs => (k.block b (Nat.lt_of_lt_of_le hb h.size) hs).trans (h.block b hb hs)⟩
theorem Mod.mono (h : Mod S w w') (hs : ∀ b, b < w.heap.size → S b → T b) : Mod T w w' := ⟨h.os, h.tape, h.output, h.size, fun b hb ht => h.block b hb fun h' => ht (hs b hb h')⟩
theorem Mod.of_below (h : Below w.heap.size w w') : Mod S w w' := ⟨h.os, h.tape, h.output, h.size, fun b hb _ => h.block b hb⟩
theorem Mod.below (h : Mod S w w') (k : Below w'.heap.size w' w'') : Mod S w w'' := h.trans (Mod.of_below k)
theorem Mod.alloc (h : Mod S w w') (o : Obj) : Mod S w (w'.alloc o) := h.below ((Below.refl _ _).alloc (Nat.le_refl _) o)
theorem Mod.drew (h : Mod S w w') : Mod S w w'.drew := h.below (Below.refl _ _).drew
theorem Mod.drewN (h : Mod S w w') (n : Nat) : Mod S w (w'.drewN n) := h.below (ext_drewN (Below.refl _ _) n)
theorem Mod.more (h : Mod S w w') (m : More) : Mod S w (more w' m) := h.below (more_below w' m)
theorem Mod.set (h : Mod S w w') {g i : Nat} {v : Value} (hg : S g ∨ w.heap.size ≤ g) : Mod S w (w'.setCell ⟨g, i, none⟩ v) := by
  refine ⟨h.os, h.tape, h.output, by simpa using h.size, fun b hb hs => ?_⟩
  refine (Below.heap_setCell w' ⟨g, i, none⟩ v b ?_).trans (h.block b hb hs)
  intro e
  have e1 : b = g := e
  rcases hg with hg | hg
  · exact hs (e1 ▸ hg)
  · omega
theorem Mod.toBelow (h : Mod S w w') {n : Nat} (hn : n ≤ w.heap.size) (hs : ∀ b, b < n → ¬ S b) : Below n w w' := ⟨h.os, h.tape, h.output, h.size, fun b hb => h.block b (by omega) (hs b hb)⟩
theorem Mod.cell (h : Mod S w w') {b o : Nat} (hb : b < w.heap.size) (hs : ¬ S b) : w'.cell? ⟨b, o, none⟩ = w.cell? ⟨b, o, none⟩ := World.cell?_of_block (h.block b hb hs)
theorem Mod.free (h : Mod S w w') {b o : Nat} (hb : b < w.heap.size) (hs : ¬ S b) : w'.frozen? ⟨b, o, none⟩ = w.frozen? ⟨b, o, none⟩ := World.frozen?_of_block (h.block b hb hs)
theorem Blk.mod {b : Nat} {cs : Array Value} (h : Blk w b cs) (k : Mod S w w') (hs : ¬ S b) : Blk w' b cs :=
  ⟨Nat.lt_of_lt_of_le h.lt k.size, fun o => (k.cell h.lt hs).trans (h.cell o), fun o => (k.free h.lt hs).trans (h.free o)⟩
end
end Go.Proofs.YtniahipadfgkbaaGreat
namespace Go.Proofs.YtniahipadfgkbaaGreat
open Go Go.RowKit
/-- one number changed -/
def put1 (M : Nat → Nat → Int) (i j : Nat) (v : Int) : Nat → Nat → Int := fun a b => if a = i ∧ b = j then v else M a b
theorem put1_same (M : Nat → Nat → Int) (i j : Nat) (v : Int) : put1 M i j v i j = v := by simp [put1]
theorem put1_row (M : Nat → Nat → Int) (i j : Nat) (v : Int) {a : Nat} (h : a ≠ i) (b : Nat) : put1 M i j v a b = M a b := by simp [put1, h]
theorem put1_col (M : Nat → Nat → Int) (i j : Nat) (v : Int) (a : Nat) {b : Nat} (h : b ≠ j) : put1 M i j v a b = M a b := by simp [put1, h]
/-- three numbers side by side changed -/
def put3 (M : Nat → Nat → Int) (i j : Nat) (x y z : Int) : Nat → Nat → Int := put1 (put1 (put1 M i j x) i (j + 1) y) i (j + 2) z
theorem put3_row (M : Nat → Nat → Int) (i j : Nat) (x y z : Int) {a : Nat} (h : a ≠ i) (b : Nat) : put3 M i j x y z a b = M a b := by unfold put3; rw [put1_row _ _ _ _ h, put1_row _ _ _ _ h, put1_row _ _ _ _ h]
theorem put3_col (M : Nat → Nat → Int) (i j : Nat) (x y z : Int) (a : Nat) {b : Nat} (h : b < j ∨ j + 2 < b) : put3 M i j x y z a b = M a b := by
  unfold put3; rw [put1_col _ _ _ _ _ (by omega), put1_col _ _ _ _ _ (by omega), put1_col _ _ _ _ _ (by omega)]

/-- block b holds n rows of c numbers (and perhaps more), and may be written -/
def Tab (w : World) (b n c : Nat) (M : Nat → Nat → Int) : Prop :=
  ∃ (cs : Array Value) (T : TypeId), w.heap[b]? = some (.cells cs T (0, 0)) ∧ ∀ k, k < n → ∀ j, j < c → cs[k * c + j]? = some (.int .i64 (M k j))
section
variable {w w' : World} {b n c : Nat} {M : Nat → Nat → Int}
theorem Tab.lt (h : Tab w b n c M) : b < w.heap.size := by
  obtain ⟨cs, T, h, _⟩ := h
  rcases Nat.lt_or_ge b w.heap.size with hl | hl
  · exact hl
  · rw [Array.getElem?_eq_none hl] at h; cases h
theorem Tab.cell (h : Tab w b n c M) {k j : Nat} (hk : k < n) (hj : j < c) : w.cell? ⟨b, k * c + j, none⟩ = some (.int .i64 (M k j)) := by
  obtain ⟨cs, T, h, hc⟩ := h
  unfold World.cell?
  rw [h]
  simpa using hc k hk j hj
theorem Tab.free (h : Tab w b n c M) (o : Nat) : w.frozen? ⟨b, o, none⟩ = false := by
  obtain ⟨cs, T, h, hc⟩ := h
  simp [World.frozen?, h]
theorem Tab.mod {S : Nat → Prop} (h : Tab w b n c M) (k : Mod S w w') (hs : ¬ S b) : Tab w' b n c M := by
  have hl := h.lt
  obtain ⟨cs, T, h, hc⟩ := h
  exact ⟨cs, T, (k.block b hl hs).trans h, hc⟩
theorem Tab.below (h : Tab w b n c M) (k : Below w.heap.size w w') : Tab w' b n c M := h.mod (S := fun _ => False) (Mod.of_below k) id
theorem Tab.alloc (h : Tab w b n c M) (o : Obj) : Tab (w.alloc o) b n c M := h.below ((Below.refl _ _).alloc (Nat.le_refl _) o)
theorem Tab.drew (h : Tab w b n c M) : Tab w.drew b n c M := h.below (Below.refl _ _).drew
theorem Tab.drewN (h : Tab w b n c M) (k : Nat) : Tab (w.drewN k) b n c M := h.below (ext_drewN (Below.refl _ _) k)
theorem Tab.more (h : Tab w b n c M) (m : More) : Tab (more w m) b n c M := h.below (more_below w m)
theorem Tab.far {g i : Nat} {v : Value} (hne : g ≠ b) (h : Tab w b n c M) : Tab (w.setCell ⟨g, i, none⟩ v) b n c M :=
  h.mod (S := (· = g)) (Mod.set (Mod.refl _ _) (.inl rfl)) (fun e => hne e.symm)
theorem Tab.eq {M' : Nat → Nat → Int} (h : Tab w b n c M) (e : ∀ k, k < n → ∀ j, j < c → M k j = M' k j) : Tab w b n c M' := by
  obtain ⟨cs, T, h, hc⟩ := h
  exact ⟨cs, T, h, fun k hk j hj => by rw [hc k hk j hj, e k hk j hj]⟩
theorem place_inj {c k j k' j' : Nat} (hj : j < c) (hj' : j' < c) (h : k * c + j = k' * c + j') : k = k' ∧ j = j' := by
  have hc : 0 < c := by omega
  have h1 : (k * c + j) / c = k := by rw [Nat.mul_comm, Nat.mul_add_div hc, Nat.div_eq_of_lt hj]; rfl
  have h2 : (k' * c + j') / c = k' := by rw [Nat.mul_comm, Nat.mul_add_div hc, Nat.div_eq_of_lt hj']; rfl
  have : k = k' := by rw [← h1, ← h2, h]
  subst this
  exact ⟨rfl, by omega⟩
theorem Tab.set (h : Tab w b n c M) {i j : Nat} (hi : i < n) (hj : j < c) (v : Int) : Tab (w.setCell ⟨b, i * c + j, none⟩ (.int .i64 v)) b n c (put1 M i j v) := by
  obtain ⟨cs, T, h, hc⟩ := h
  refine ⟨cs.setIfInBounds (i * c + j) (.int .i64 v), T, ?_, fun k hk l hl => ?_⟩
  · simp [World.setCell, Array.getElem?_modify, h]
  · have hs : i * c + j < cs.size := by
      have := hc i hi j hj
      exact (Array.getElem?_eq_some_iff.1 this).1
    unfold put1
    by_cases e : k = i ∧ l = j
    · obtain ⟨rfl, rfl⟩ := e
      simp [hs]
    · rw [if_neg e, Array.getElem?_setIfInBounds_ne, hc k hk l hl]
      intro h'
      obtain ⟨e1, e2⟩ := place_inj hj hl h'
      exact e ⟨e1.symm, e2.symm⟩
theorem Tab.set3 (h : Tab w b n c M) {i j : Nat} (hi : i < n) (hj : j + 2 < c) (x y z : Int) :
    Tab (((w.setCell ⟨b, i * c + j, none⟩ (.int .i64 x)).setCell ⟨b, i * c + j + 1, none⟩ (.int .i64 y)).setCell ⟨b, i * c + j + 2, none⟩ (.int .i64 z)) b n c (put3 M i j x y z) :=
  ((h.set hi (by omega) x).set hi (j := j + 1) (by omega) y).set hi (j := j + 2) (by omega) z
end
/-- two pointers that differ -/
theorem neq_ptr {P : Program} (w : World) {tp te : TypeId} {j : TypeInfo} {p q : Addr} {cp cq : Array Value} {t1 t2 : TypeId} (hp : P.underlying tp = some (.pointer te)) (hte : P.info? te = some j) (hs : j.size ≠ 0) (hne : p ≠ q)
    (hcp : w.heap[p.block]? = some (.cells cp t1 (0, 0))) (hcq : w.heap[q.block]? = some (.cells cq t2 (0, 0))) : (binOp .neq tp (.pointer (some p)) (.pointer (some q))).run P w = .ok (.bool true) w := by
  have h : ∀ d : Nat, (Op.equalIn (d + 1) tp (.pointer (some p)) (.pointer (some q))).run P w = .ok false w := fun d => by
    simp [Op.equalIn, run_underlying hp, sizeOf, typeInfo, hte, hs, run_sameAddr_other w hne hcp hcq]
  simp only [binOp]
  simp [Op.equal, Op.maxDepth, h 9999]
/-- the slice value (A, n, _) reads as n rows of c numbers -/
def Reads (w : World) (A : Option Addr) (n c : Nat) (M : Nat → Nat → Int) : Prop := 0 < n → ∃ b o, A = some ⟨b, o, none⟩ ∧ b < w.heap.size ∧ ∀ k, k < n → ∀ j, j < c → w.cell? ⟨b, o + (k * c + j), none⟩ = some (.int .i64 (M k j))
section
variable {w w' : World} {A : Option Addr} {n c : Nat} {M : Nat → Nat → Int}
theorem Reads.below (h : Reads w A n c M) (k : Below w.heap.size w w') : Reads w' A n c M := fun hn => by
  obtain ⟨b, o, e, hb, hc⟩ := h hn
  exact ⟨b, o, e, Nat.lt_of_lt_of_le hb k.size, fun i hi j hj => (k.cell (p := ⟨b, o + (i * c + j), none⟩) hb).trans (hc i hi j hj)⟩
theorem Reads.mod {S : Nat → Prop} (h : Reads w A n c M) (k : Mod S w w') (hs : ∀ b, b < w.heap.size → ¬ S b) : Reads w' A n c M := h.below (k.toBelow (Nat.le_refl _) hs)
theorem Reads.of_tab {b : Nat} (h : Tab w b n c M) : Reads w (some ⟨b, 0, none⟩) n c M := fun _ => ⟨b, 0, rfl, h.lt, fun k hk j hj => by rw [Nat.zero_add]; exact h.cell hk hj⟩
end
end Go.Proofs.YtniahipadfgkbaaGreat
namespace Go.Proofs.YtniahipadfgkbaaGreat
open Go Go.RowKit
/-- n rows of c numbers, one behind the other -/
def rowsL (M : Nat → Nat → Int) (c n : Nat) : List Value := (List.range (n * c)).map fun q => .int .i64 (M (q / c) (q % c))
theorem rowsL_length (M : Nat → Nat → Int) (c n : Nat) : (rowsL M c n).length = n * c := by simp [rowsL]
theorem rowsL_get (M : Nat → Nat → Int) {c n k j : Nat} (hk : k < n) (hj : j < c) : (rowsL M c n)[k * c + j]? = some (.int .i64 (M k j)) := by
  have hc : 0 < c := by omega
  have h1 : k * c + j < n * c := by
    have := Nat.mul_le_mul_right c (show k + 1 ≤ n from hk)
    rw [Nat.add_mul] at this
    omega
  have h2 : (k * c + j) / c = k := by rw [Nat.mul_comm, Nat.mul_add_div hc, Nat.div_eq_of_lt hj]; rfl
  have h3 : (k * c + j) % c = j := by rw [Nat.mul_comm, Nat.mul_add_mod, Nat.mod_eq_of_lt hj]
  simp [rowsL, h1, h2, h3]
theorem rowsL_one (M : Nat → Nat → Int) (c n : Nat) : ∀ u ∈ rowsL M c n, u.oneCell' = true := by
  intro u hu
  simp only [rowsL, List.mem_map] at hu
  obtain ⟨q, _, rfl⟩ := hu
  rfl
theorem rowsL_cells {w : World} {b o n c : Nat} {M : Nat → Nat → Int} (hc0 : 0 < c) (h : ∀ k, k < n → ∀ j, j < c → w.cell? ⟨b, o + (k * c + j), none⟩ = some (.int .i64 (M k j))) (j : Nat) (u : Value) (hu : (rowsL M c n)[j]? = some u) :
    w.cell? ((⟨b, o, none⟩ : Addr).add j) = some u := by
  have hl : j < n * c := by
    have := (List.getElem?_eq_some_iff.1 hu).1
    rwa [rowsL_length] at this
  have hk : j / c < n := Nat.div_lt_of_lt_mul (by rwa [Nat.mul_comm])
  have hj : j % c < c := Nat.mod_lt _ hc0
  have e : j / c * c + j % c = j := by rw [Nat.mul_comm]; exact Nat.div_add_mod j c
  have h1 := h (j / c) hk (j % c) hj
  rw [e] at h1
  have h2 : (rowsL M c n)[j]? = some (.int .i64 (M (j / c) (j % c))) := by
    have := rowsL_get M hk hj
    rwa [e] at this
  rw [hu] at h2
  rw [Option.some.inj h2, ← h1]
  unfold Addr.add
  split
  · rename_i h0; subst h0; rfl
  · rfl
theorem tab_of_own {w : World} {base : Nat} {e : TypeId} {c n : Nat} {v : Value} {M : Nat → Nat → Int} (h : w.ownsRow base e c v n (rowsL M c n)) (hn : 0 < n) :
    ∃ g cap, v = .slice (some ⟨g, 0, none⟩) n cap ∧ base ≤ g ∧ n ≤ cap ∧ cap ≤ maxLen ∧ Tab w g n c M := by
  obtain ⟨_, ⟨_, h0⟩ | ⟨g, cap, cur, hv, hb, hh, hnc, hcm, hsz, hpre⟩⟩ := h
  · omega
  · refine ⟨g, cap, hv, hb, hnc, hcm, cur, e, hh, fun k hk j hj => ?_⟩
    have h1 := rowsL_get M hk hj
    rw [← hpre, List.getElem?_take] at h1
    split at h1
    · rw [← h1]; simp
    · cases h1
/-- an empty row that has just been made -/
theorem own_empty {w : World} (e : TypeId) (c : Nat) : (w.alloc (.cells #[] e)).ownsRow w.heap.size e c (.slice (some ⟨w.heap.size, 0, none⟩) 0 0) 0 [] :=
  ⟨by simp, .inr ⟨w.heap.size, 0, #[], rfl, Nat.le_refl _, heap_alloc_new w _, Nat.le_refl _, by unfold maxLen; omega, by simp, by simp⟩⟩
end Go.Proofs.YtniahipadfgkbaaGreat
namespace Go.Proofs.YtniahipadfgkbaaGreat
open Go Go.RowKit
section
variable {w w' : World} {base size n : Nat} {e : TypeId} {v : Value} {xs : List Value}
theorem row_mod {S : Nat → Prop} (h : w.ownsRow base e size v n xs) (k : Mod S w w') (hs : ∀ b, v.ownBlock = some b → ¬ S b) : w'.ownsRow base e size v n xs := by
  obtain ⟨hl, h0 | ⟨g, cap, cur, hv, hb, hh, h1, h2, h3, h4⟩⟩ := h
  · exact ⟨hl, .inl h0⟩
  · refine ⟨hl, .inr ⟨g, cap, cur, hv, hb, ?_, h1, h2, h3, h4⟩⟩
    have hlt : g < w.heap.size := by
      rcases Nat.lt_or_ge g w.heap.size with hl | hl
      · exact hl
      · rw [Array.getElem?_eq_none hl] at hh; cases hh
    rw [k.block g hlt (hs g (by rw [hv]; rfl))]
    exact hh
theorem row_below (h : w.ownsRow base e size v n xs) (k : Below w.heap.size w w') : w'.ownsRow base e size v n xs := row_mod h (S := fun _ => False) (Mod.of_below k) fun _ _ => id
theorem row_lt (h : w.ownsRow base e size v n xs) {b : Nat} (hb : v.ownBlock = some b) : b < w.heap.size ∧ base ≤ b := by
  obtain ⟨hl, ⟨h0, _⟩ | ⟨g, cap, cur, hv, hg, hh, _⟩⟩ := h
  · rw [h0] at hb; cases hb
  · rw [hv] at hb
    obtain rfl : g = b := Option.some.inj hb
    refine ⟨?_, hg⟩
    rcases Nat.lt_or_ge g w.heap.size with hl | hl
    · exact hl
    · rw [Array.getElem?_eq_none hl] at hh; cases hh
/-- a row that is not empty lies in a block -/
theorem row_at (h : w.ownsRow base e size v n xs) (hn : 0 < n) : ∃ g cap, v = .slice (some ⟨g, 0, none⟩) n cap ∧ base ≤ g ∧ g < w.heap.size ∧ n ≤ cap ∧ cap ≤ maxLen ∧ (∀ o, w.frozen? ⟨g, o, none⟩ = false) ∧
    (∀ o x, xs[o]? = some x → w.cell? ⟨g, o, none⟩ = some x) ∧ ∃ cs, w.heap[g]? = some (.cells cs e (0, 0)) := by
  obtain ⟨hl, ⟨_, h0⟩ | ⟨g, cap, cur, hv, hb, hh, h1, h2, h3, h4⟩⟩ := h
  · omega
  · refine ⟨g, cap, hv, hb, ?_, h1, h2, ?_, ?_, cur, hh⟩
    · rcases Nat.lt_or_ge g w.heap.size with hl | hl
      · exact hl
      · rw [Array.getElem?_eq_none hl] at hh; cases hh
    · intro o; simp [World.frozen?, hh]
    · intro o x hx
      rw [← h4, List.getElem?_take] at hx
      split at hx
      · unfold World.cell?; rw [hh]; simpa using hx
      · cases hx
/-- a cell of the row is written -/
theorem row_set {g cap i : Nat} {x : Value} (h : w.ownsRow base e size (.slice (some ⟨g, 0, none⟩) n cap) n xs) (_hi : i < xs.length) : (w.setCell ⟨g, i, none⟩ x).ownsRow base e size (.slice (some ⟨g, 0, none⟩) n cap) n (xs.set i x) := by
  obtain ⟨hl, ⟨hv, _⟩ | ⟨g', cap', cur, hv, hb, hh, h1, h2, h3, h4⟩⟩ := h
  · cases hv
  · injection hv with e1 e2 e3
    injection e1 with e1
    injection e1 with e1
    subst e1 e3
    refine ⟨by simpa using hl, .inr ⟨g, cap, cur.setIfInBounds i x, rfl, hb, ?_, h1, h2, by simpa using h3, ?_⟩⟩
    · simp [World.setCell, Array.getElem?_modify, hh]
    · rw [Array.toList_setIfInBounds, List.take_set, h4]
/-- what grows the row alone is a change of its block alone -/
theorem mod_grown {row : Option Nat} (h : w.grownBy w' row) : Mod (fun b => row = some b) w w' :=
  ⟨h.os, h.tape, h.output, h.size, fun b hb hs => h.block b hb fun e => hs e.symm⟩
end
theorem Mod.trans2 {S T : Nat → Prop} {w w' w'' : World} (h : Mod S w w') (k : Mod T w' w'') (hT : ∀ b, b < w.heap.size → T b → S b) : Mod S w w'' :=
  ⟨k.os.trans h.os, k.tape.trans h.tape, k.output.trans h.output, Nat.le_trans h.size k.size, fun b hb hs => (k.block b (Nat.lt_of_lt_of_le hb h.size) fun ht => hs (hT b hb ht)).trans (h.block b hb hs)⟩
/-- a slice value that was v is v' now: what was turned is the blocks of S, and v's; v' has v's block, or one that is new -/
structure Turn (S : Nat → Prop) (w : World) (v : Value) (w' : World) (v' : Value) : Prop where
  mod : Mod (fun b => S b ∨ v.ownBlock = some b) w w'
  own : v'.ownBlock = v.ownBlock ∨ ∀ b, v'.ownBlock = some b → w.heap.size ≤ b
section
variable {S : Nat → Prop} {w w' w'' : World} {v v' v'' : Value}
theorem Turn.refl (S : Nat → Prop) (w : World) (v : Value) : Turn S w v w v := ⟨Mod.refl _ _, .inl rfl⟩
theorem Turn.trans (h : Turn S w v w' v') (k : Turn S w' v' w'' v'') : Turn S w v w'' v'' := by
  refine ⟨?_, ?_⟩
  · refine h.mod.trans2 k.mod fun b hb hs => ?_
    rcases hs with hs | hs
    · exact .inl hs
    · rcases h.own with e | e
      · exact .inr (e ▸ hs)
      · have := e b hs; omega
  · rcases k.own with e | e
    · rcases h.own with e2 | e2
      · exact .inl (e.trans e2)
      · exact .inr fun b hb => e2 b (e ▸ hb)
    · exact .inr fun b hb => Nat.le_trans h.mod.size (e b hb)
end
end Go.Proofs.YtniahipadfgkbaaGreat
namespace Go.Proofs.YtniahipadfgkbaaGreat
open Go Go.Maps Go.WideShapes Go.RowKit
/-- each value reads as itself -/
def holdV (v : Value) : Option (DataW Value × List MemPlace) := some (.held v, [])
/-- the reading D is the function F, with n keys -/
structure IsFn (D : DataW Value) (F : Lit → Option Value) (n : Nat) : Prop where
  has : ∀ k, WideAt.IsKeyLit k → Maps.has D k = (F k).isSome
  at_ : ∀ k z, WideAt.IsKeyLit k → D.atKey k (.held z) = .held ((F k).getD z)
  size : Maps.size D = n
open Classical in
noncomputable def putF (F : Lit → Option Value) (k : Lit) (v : Value) : Lit → Option Value := fun x => if x = k then some v else F x
open Classical in
noncomputable def delF (F : Lit → Option Value) (k : Lit) : Lit → Option Value := fun x => if x = k then none else F x
theorem isFn_nil : IsFn (.map []) (fun _ => none) 0 := ⟨fun _ _ => rfl, fun _ _ _ => rfl, rfl⟩
theorem IsFn.put {D : DataW Value} {F : Lit → Option Value} {n : Nat} (h : IsFn D F n) (hT : Tidy D) {k : Lit} (hk : WideAt.IsKeyLit k) (v : Value) : IsFn (D.put k (.held v)) (putF F k v) (if (F k).isSome then n else n + 1) := by
  refine ⟨fun x hx => ?_, fun x z hx => ?_, ?_⟩
  · unfold putF
    by_cases e : x = k
    · subst e; rw [has_put_same hT.isMap hk, if_pos rfl]; rfl
    · rw [has_put_other e, if_neg e, h.has x hx]
  · unfold putF
    by_cases e : x = k
    · subst e; rw [atKey_put_same hT.isMap hk, if_pos rfl]; rfl
    · rw [atKey_put_other e, if_neg e, h.at_ x z hx]
  · rw [size_put hT, h.has k hk, h.size]
theorem IsFn.del {D : DataW Value} {F : Lit → Option Value} {n : Nat} (h : IsFn D F n) (hT : Tidy D) {k : Lit} (hk : WideAt.IsKeyLit k) : IsFn (D.del k) (delF F k) (if (F k).isSome then n - 1 else n) := by
  refine ⟨fun x hx => ?_, fun x z hx => ?_, ?_⟩
  · unfold delF
    by_cases e : x = k
    · subst e; rw [has_del_same, if_pos rfl]; rfl
    · rw [has_del_other e, if_neg e, h.has x hx]
  · unfold delF
    by_cases e : x = k
    · subst e; rw [atKey_del_same, if_pos rfl]; rfl
    · rw [atKey_del_other e, if_neg e, h.at_ x z hx]
  · have := size_del (k := k) hT
    rw [h.has k hk, h.size] at this
    by_cases e : (F k).isSome = true
    · rw [if_pos e] at this ⊢; omega
    · rw [if_neg e] at this ⊢; omega
/-- block b is a map from keys of type K: what stands at a key is F's; n keys, of at most m that were put -/
def MapV (P : Program) (K : TypeId) (w : World) (b m : Nat) (F : Lit → Option Value) (n : Nat) : Prop := ∃ D, w.ownsMap P K holdV b m D ∧ Tidy D ∧ IsFn D F n
section
variable {P : Program} {K E T : TypeId} {w w' : World} {b m n : Nat} {F : Lit → Option Value}
theorem mapV_made (w : World) (P : Program) (K : TypeId) : MapV P K (w.alloc (.map #[] 0)) w.heap.size 0 (fun _ => none) 0 := ⟨_, World.ownsMap_made w P K holdV, tidy_empty, isFn_nil⟩
theorem MapV.lt (h : MapV P K w b m F n) : b < w.heap.size := by obtain ⟨D, h, _⟩ := h; exact h.lt
theorem MapV.le (h : MapV P K w b m F n) : n ≤ m := by obtain ⟨D, h, _, hf⟩ := h; rw [← hf.size]; exact h.size_le
theorem MapV.mod {S : Nat → Prop} (h : MapV P K w b m F n) (k : Mod S w w') (hs : ¬ S b) : MapV P K w' b m F n := by
  obtain ⟨D, h, ht, hf⟩ := h
  have hlt := h.lt
  obtain ⟨es, clock, hb, hF, hsz, hD⟩ := h
  exact ⟨D, ⟨es, clock, (k.block b hlt hs).trans hb, hF, hsz, hD⟩, ht, hf⟩
theorem MapV.below (h : MapV P K w b m F n) (k : Below w.heap.size w w') : MapV P K w' b m F n := h.mod (S := fun _ => False) (Mod.of_below k) id
/-- a map's block is no cells -/
theorem MapV.ne (h : MapV P K w b m F n) {g : Nat} {cs : Array Value} {t : TypeId} {f : Nat × Nat} (hg : w.heap[g]? = some (.cells cs t f)) : g ≠ b := by
  intro e
  subst e
  obtain ⟨D, ⟨es, clock, hb, _⟩, _⟩ := h
  rw [hb] at hg
  cases hg
theorem MapV.mono (h : MapV P K w b m F n) {m' : Nat} (hm : m ≤ m') : MapV P K w b m' F n := by obtain ⟨D, h, ht, hf⟩ := h; exact ⟨D, h.mono hm, ht, hf⟩
theorem mod_grownBy {row : Option Nat} (h : w.grownBy w' row) : Mod (fun b => row = some b) w w' := ⟨h.os, h.tape, h.output, h.size, fun b hb hs => h.block b hb (fun e => hs e.symm)⟩
section
variable {ops : Array Oper} {rest : List Oper} {o : Oper} {a : Act} {Q : Exit → Act → World → Prop}
/-- v, ok := m[k] -/
theorem at_lookup2 (hg : o.guard = none) (mm x : Operand) (hop : o.op = Op.lookup T mm x true) (LK : Keyed P K) (ht : P.underlying T = some (.map K E)) {z : Value} (hz : (zeroValue E).run P w = .ok z w)
    (hm : a.eval mm = .map (some b)) (hown : MapV P K w b m F n) (key : Value) (kl : Lit) (hx : a.eval x = key) (hkey : keyOf P K key = some kl) (hkl : WideAt.IsKeyLit kl)
    (hK : wpList P ops Q rest (a.put o.dst (.tuple #[(F kl).getD z, .bool (F kl).isSome])) w) : wpList P ops Q (o :: rest) a w := by
  obtain ⟨D, hown, hT, hf⟩ := hown
  refine wpList_plain hg fun K' hK' => ?_
  obtain ⟨v, ps, hrun, hv⟩ := hown.look_ok LK ht hz (zd := .held z) (zp := []) rfl hkey
  unfold Oper.wp
  simp [execOp, hop, hm, hx, hrun, Result.andThen]
  rw [hf.at_ kl z hkl] at hv
  rw [hf.has kl hkl]
  have e : v = (F kl).getD z := by
    unfold holdV at hv
    simp at hv
    exact hv.1
  subst e
  exact hK' _ _ hK
/-- m[k] = v -/
theorem at_update (hg : o.guard = none) (mm x v : Operand) (hop : o.op = Op.mapUpdate T mm x v) (LK : Keyed P K) (ht : P.underlying T = some (.map K E))
    (hm : a.eval mm = .map (some b)) (hown : MapV P K w b m F n) (hmx : m < maxLen) (key val : Value) (kl : Lit) (hx : a.eval x = key) (hv : a.eval v = val) (hkey : keyOf P K key = some kl) (hkl : WideAt.IsKeyLit kl)
    (hK : ∀ w', MapV P K w' b (m + 1) (putF F kl val) (if (F kl).isSome then n else n + 1) → Mod (· = b) w w' → wpList P ops Q rest (a.put o.dst undef) w') : wpList P ops Q (o :: rest) a w := by
  obtain ⟨D, hown, hT, hf⟩ := hown
  refine wpList_plain hg fun K' hK' => ?_
  obtain ⟨w', hrun, r1, r2⟩ := hown.update LK ht hmx hkey (val := val) (d := .held val) (ps := []) rfl
  unfold Oper.wp
  simp [execOp, hop, hm, hx, hv, hrun, Result.andThen]
  exact hK' _ _ (hK w' ⟨_, r1, hT.put hkl _, hf.put hT hkl val⟩ ((mod_grownBy r2).mono fun b' _ e => (Option.some.inj e).symm))
/-- delete(m, k) -/
theorem at_delete1 (hg : o.guard = none) (mm x : Operand) (hop : o.op = Op.call { callee := Callee.builtin Builtin.delete, args := #[mm, x], argTypes := #[T, K] }) (LK : Keyed P K) (ht : P.underlying T = some (.map K E))
    (hm : a.eval mm = .map (some b)) (hown : MapV P K w b m F n) (key : Value) (kl : Lit) (hx : a.eval x = key) (hkey : keyOf P K key = some kl) (hkl : WideAt.IsKeyLit kl)
    (hK : ∀ w', MapV P K w' b m (delF F kl) (if (F kl).isSome then n - 1 else n) → Mod (· = b) w w' → wpList P ops Q rest (a.put o.dst (.tuple #[])) w') : wpList P ops Q (o :: rest) a w := by
  obtain ⟨D, hown, hT, hf⟩ := hown
  refine wpList_plain hg fun K' hK' => ?_
  obtain ⟨w', hrun, r1, r2⟩ := hown.drop LK ht hkey o.type
  unfold Oper.wp
  simp [execOp, hop, resolve, invoke, builtin, hm, hx, hrun, Result.andThen]
  exact hK' _ _ (hK w' ⟨_, r1, hT.del kl, hf.del hT hkl⟩ ((mod_grownBy r2.grown).mono fun b' _ e => (Option.some.inj e).symm))
end
end
theorem intKey_wf {n : Int} (h1 : -9223372036854775808 ≤ n) (h2 : n ≤ 9223372036854775807) : (Lit.int .i64 n).wf = true := by
  simp [Lit.wf, IntKind.min, IntKind.max, IntKind.signed, IntKind.bits]
  exact ⟨h1, h2⟩
end Go.Proofs.YtniahipadfgkbaaGreat
namespace Go.Proofs.YtniahipadfgkbaaGreat
open Go Go.Maps Go.WideShapes Go.RowKit
theorem same_int (x y : Int) : (Lit.int .i64 x).sameKey (.int .i64 y) = decide (x = y) := by
  by_cases h : x = y
  · subst h; simp [Lit.sameKey]
  · rw [decide_eq_false h]
    exact sameKey_ne (fun e => h (by cases e; rfl))
/-- range over the map at b under way, its iterator at r: what stands at a key is F's, n keys; L: which keys are still to come, cnt of them -/
def RangeV (P : Program) (K : TypeId) (w : World) (b r m : Nat) (F : Lit → Option Value) (n : Nat) (L : Int → Bool) (cnt : Nat) : Prop :=
  ∃ D left, w.ranges P K holdV b r m D left cnt ∧ Tidy D ∧ IsFn D F n ∧ ∀ x : Int, left (.int .i64 x) = L x
section
variable {P : Program} {K E T : TypeId} {w w' : World} {b r m n cnt : Nat} {F : Lit → Option Value} {L : Int → Bool}
theorem RangeV.map (h : RangeV P K w b r m F n L cnt) : MapV P K w b m F n := by
  obtain ⟨D, left, h1, h2, h3, _⟩ := h
  exact ⟨D, h1.owns, h2, h3⟩
theorem RangeV.left (h : RangeV P K w b r m F n L cnt) : w.rangeLeft b r = cnt := by
  obtain ⟨D, left, h1, _⟩ := h
  exact h1.left_eq
theorem RangeV.lt (h : RangeV P K w b r m F n L cnt) : r < w.heap.size := by
  obtain ⟨D, left, h1, _⟩ := h
  exact h1.lt
theorem RangeV.ne (h : RangeV P K w b r m F n L cnt) : r ≠ b := by
  obtain ⟨D, left, h1, _⟩ := h
  exact h1.ne
theorem RangeV.mod {S : Nat → Prop} (h : RangeV P K w b r m F n L cnt) (k : Mod S w w') (hb : ¬ S b) (hr : ¬ S r) : RangeV P K w' b r m F n L cnt := by
  have hlt := h.map.lt
  have hrl := h.lt
  obtain ⟨D, left, ⟨es, clock, since, seen, c0, e1, e2, e3, e4, e5, e6⟩, h2⟩ := h
  exact ⟨D, left, ⟨es, clock, since, seen, c0, (k.block b hlt hb).trans e1, e2, e3, e4, (k.block r hrl hr).trans e5, e6⟩, h2⟩
theorem RangeV.below (h : RangeV P K w b r m F n L cnt) (k : Below w.heap.size w w') : RangeV P K w' b r m F n L cnt := h.mod (S := fun _ => False) (Mod.of_below k) id id
variable {ops : Array Oper} {rest : List Oper} {o : Oper} {a : Act} {Q : Exit → Act → World → Prop}
theorem int_wf_key {x : Int} (hK : P.underlying K = some (.int .i64)) (h : (Lit.int .i64 x).wf = true) : keyOf P K (.int .i64 x) = some (.int .i64 x) := by
  simp [keyOf, hK, mapKey, h]
/-- range m -/
theorem at_rangeV (hg : o.guard = none) (mm : Operand) (hop : o.op = Op.range T mm) (LK : Keyed P K) (ht : P.underlying T = some (.map K E)) (hm : a.eval mm = .map (some b)) (hown : MapV P K w b m F n)
    (hK : ∀ w', RangeV P K w' b w.heap.size m F n (fun x => (F (.int .i64 x)).isSome) n → Mod (fun _ => False) w w' → w'.heap.size = w.heap.size + 1 → wpList P ops Q rest (a.put o.dst (.pointer (some ⟨w.heap.size, 0, none⟩))) w') :
    wpList P ops Q (o :: rest) a w := by
  obtain ⟨D, h1, h2, h3⟩ := hown
  refine wpList_range_own w hg mm T hop K E LK ht holdV b m D hm h1 fun w' r1 r2 r3 => ?_
  rw [h3.size] at r1
  exact hK w' ⟨D, _, r1, h2, h3, fun x => h3.has _ trivial⟩ ((mod_grownBy r2).mono fun _ _ h => by cases h) r3
/-- the step -/
theorem at_nextV (hg : o.guard = none) (it : Operand) (hop : o.op = Op.next it false) (LK : Keyed P K) (hKi : P.underlying K = some (.int .i64)) (hit : a.eval it = .pointer (some ⟨r, 0, none⟩)) (h : RangeV P K w b r m F n L cnt)
    (hDone : (∀ x, L x = false) → wpList P ops Q rest (a.put o.dst (.tuple #[.bool false])) w)
    (hMore : ∀ (x : Int) (c : Value) (w' : World) (cnt' : Nat), (Lit.int .i64 x).wf = true → L x = true → F (.int .i64 x) = some c → RangeV P K w' b r m F n (fun z => L z && !decide (z = x)) cnt' → cnt' < cnt → Mod (· = r) w w' → w'.heap.size = w.heap.size →
      (Instr.entry (.pointer (some ⟨r, 0, none⟩))).run P w' = .ok (.tuple #[.int .i64 x, c]) w' → wpList P ops Q rest (a.put o.dst (.tuple #[.bool true, .int .i64 x, c])) w') :
    wpList P ops Q (o :: rest) a w := by
  obtain ⟨D, left, h1, h2, h3, h4⟩ := h
  refine wpList_next_ranges w hg it hop K LK holdV (Value.int .i64) (fun v : Value => v) (fun key kl hkey => by obtain ⟨x, rfl, _⟩ := Maps.keyOf_int_inv hKi hkey; exact ⟨x, rfl⟩) (fun v y _ => ⟨v, rfl⟩) b r m D left cnt hit h1 (fun h0 hl => hDone fun x => by rw [← h4]; exact hl _) ?_
  intro x c kl y w' cnt' hkey hl hR hat hrg hlt hgr hsz hen
  obtain ⟨x', e, rfl, hwf⟩ := Maps.keyOf_int_inv hKi hkey
  cases e
  have hF : F (.int .i64 x) = some c := by
    unfold holdV at hR
    cases hR
    have q1 := hat (.held (.int .i64 0))
    have q2 := hat (.held (.int .i64 1))
    rw [h3.at_ (.int .i64 x) _ trivial] at q1 q2
    cases hFx : F (.int .i64 x) with
    | some v => rw [hFx] at q1; simp at q1; rw [q1]
    | none =>
      rw [hFx] at q1 q2
      simp at q1 q2
      rw [← q1] at q2
      cases q2
  refine hMore x c w' cnt' hwf (by rw [← h4]; exact hl) hF ⟨D, _, hrg, h2, h3, fun z => ?_⟩ hlt ((mod_grownBy hgr).mono fun _ _ e => (Option.some.inj e).symm) hsz hen
  rw [h4, same_int]
end
end Go.Proofs.YtniahipadfgkbaaGreat
