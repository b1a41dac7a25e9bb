/- Rows of pairs, sorted. Conditions: none. -/
import Derived.Test.YtefhmbmbhiehdaaDoorKBt13
import Derived.Test.YtefhmbmbhiehdaaDoorShelf
namespace Go.Proofs.YtefhmbmbhiehdaaDoor
open Go Go.Maps Go.RowKit Go.BigFrame Go.ChangeShapes Go.WideShapes
/-- a region that draws its order: its first operations read or draw, the tail behind -/
theorem region_drew_but {P : Program} {id : Nat} {Q : Exit → Act → World → Prop} {a : Act} {w : World} {l : List Oper} (n : Nat) (hm : P.follows .mixedOrders = true) (hB : Region.lexTailB .any l.toArray n = true)
    (h : wpQuiet P l.toArray (fun w' => ∃ q, w' = w.drewN q) (fun a' => ∀ w', (∃ q, w' = w.drewN q) → wpList P l.toArray Q (l.drop n) a' w') (l.take n) a) : (Code.region id l.toArray true).wp P Q a w :=
  region_quiet_tail (C := fun w' => ∃ q, w' = w.drewN q) n hm hB ⟨1, rfl⟩ h
theorem cell_at {w : World} {g o : Nat} {cs : Array Value} {T : TypeId} (h : g = w.heap.size) : (w.alloc (.cells cs T)).cell? ⟨g, o, none⟩ = cs[o]? := by
  subst h
  exact World.cell?_alloc_new _ _ _ _
def cmpOr (a b : Int) : Int := if a = 0 then b else a
set_option maxRecDepth 100000 in
/-- cmp.Or of two -/
theorem or_c (a b : Int) (g : Nat) (w : World) (h0 : w.cell? ⟨g, 0, none⟩ = some (.int .i64 a)) (h1 : w.cell? ⟨g, 1, none⟩ = some (.int .i64 b)) : Calls Tryd.prog 28 #[.slice (some ⟨g, 0, none⟩) 2 2] w fun e w' => e = .returned (.int .i64 (cmpOr a b)) ∧ w = w' := by
  by_cases ha : a = 0
  · subst ha
    have e : cmpOr 0 b = b := rfl
    rw [e]
    by_cases hb : b = 0
    · subst hb
      go_enter Tryd.func28, Tryd.ntmps28
      go_wp2
      refine wp_loop_rounds 3 ?_
      rw [rounds_succ]
      go_wp2
      rw [rounds_succ]
      go_wp2
      rw [rounds_succ]
      go_wp2
      go_ret
      exact ⟨rfl, rfl⟩
    · have hb' : ((b : Int) == 0) = false := by simpa using hb
      go_enter Tryd.func28, Tryd.ntmps28
      go_wp2
      refine wp_loop_rounds 2 ?_
      rw [rounds_succ]
      go_wp2
      rw [rounds_succ]
      go_wp2
      go_ret
      exact ⟨rfl, rfl⟩
  · have e : cmpOr a b = a := if_neg ha
    rw [e]
    have ha' : ((a : Int) == 0) = false := by simpa using ha
    go_enter Tryd.func28, Tryd.ntmps28
    go_wp2
    refine wp_loop_rounds 1 ?_
    rw [rounds_succ]
    go_wp2
    go_ret
    exact ⟨rfl, rfl⟩
def encP (x : Int × Int) : List Value := [.int .i64 x.1, .int .i64 x.2]
def cfP (x y : Int × Int) : Int := cmpOr (Lib.compareInt x.1 y.1) (Lib.compareInt x.2 y.2)
set_option maxRecDepth 100000 in
set_option maxHeartbeats 2000000 in
/-- the closure -/
theorem pairs_less (x y : Int × Int) (w : World) : Calls Tryd.prog 27 #[.agg (encP x).toArray, .agg (encP y).toArray] w fun e w' => e = .returned (.int .i64 (cfP x y)) ∧ ∃ q os, w' = Sort.grow (w.drewN q) os := by
  obtain ⟨x1, x2⟩ := x
  obtain ⟨y1, y2⟩ := y
  unfold encP
  obtain ⟨r1, hr1⟩ : ∃ r, r = Lib.compareInt x1 y1 := ⟨_, rfl⟩
  obtain ⟨r2, hr2⟩ : ∃ r, r = Lib.compareInt x2 y2 := ⟨_, rfl⟩
  have hc1 : ∀ w', Calls Tryd.prog 29 #[.int .i64 x1, .int .i64 y1] w' fun e w'' => e = .returned (.int .i64 r1) ∧ w'' = w' := fun w' => by rw [hr1]; exact Tryd.cmp_Compare_int x1 y1 w'
  have hc2 : ∀ w', Calls Tryd.prog 29 #[.int .i64 x2, .int .i64 y2] w' fun e w'' => e = .returned (.int .i64 r2) ∧ w'' = w' := fun w' => by rw [hr2]; exact Tryd.cmp_Compare_int x2 y2 w'
  have ecf : cfP (x1, x2) (y1, y2) = cmpOr r1 r2 := by unfold cfP; rw [hr1, hr2]
  rw [ecf]
  have HC1 := Lib.hid hc1
  have HC2 := Lib.hid hc2
  clear hr1 hr2 ecf hc1 hc2
  go_enter Tryd.func27, Tryd.ntmps27
  go_upto_region 1 with fail
  refine region_drew_but 10 (by kernel_rfl) (by kernel_rfl) ?_
  simp only [List.take_succ_cons, List.take_zero, List.drop_succ_cons, List.drop_zero]
  repeat (go_big_quiet_step (first | (go_at_call 29; with_reducible refine (HC1.out _).mono ?_; exact fun _ _ h => ⟨h.1, _, h.2⟩) | (go_at_call 29; with_reducible refine (HC2.out _).mono ?_; exact fun _ _ h => ⟨h.1, _, h.2⟩)))
  refine wpQuiet_nil ?_
  rintro w1 ⟨q, rfl⟩
  go_wp2_with fail
  refine (or_c r1 r2 _ _ ?h0 ?h1).mono ?_
  case h0 =>
    refine (cell_at ?_).trans rfl
    simp
  case h1 =>
    refine (cell_at ?_).trans rfl
    simp
  rintro e w' ⟨rfl, rfl⟩
  go_wp2
  go_ret
  refine ⟨rfl, q, (#[.cells #[.int .i64 x1, .int .i64 x2] 50] ++ #[.cells #[.int .i64 y1, .int .i64 y2] 50]) ++ #[.cells #[.int .i64 r1, .int .i64 r2] 3], ?_⟩
  rw [Sort.alloc_eq_grow, Sort.alloc_eq_grow, Sort.alloc_eq_grow, Sort.grow_grow]
  exact Sort.grow_grow (w.drewN q) _ _
theorem cfP_lt (x y : Int × Int) : ltOf cfP x y = (decide (x.1 < y.1) || (decide (x.1 = y.1) && decide (x.2 < y.2))) := by
  unfold ltOf cfP cmpOr Lib.compareInt
  by_cases h1 : x.1 < y.1
  · simp [h1]
  · by_cases h2 : y.1 < x.1
    · have h3 : ¬ x.1 = y.1 := by omega
      simp [h1, h2, h3]
    · have h3 : x.1 = y.1 := by omega
      by_cases h4 : x.2 < y.2
      · simp [h3, h4]
      · by_cases h5 : y.2 < x.2 <;> simp [h3, h4, h5]
theorem cfP_swo : Go.Sort.SWO (ltOf cfP) where
  irrefl x := by rw [cfP_lt]; simp
  trans x y z h1 h2 := by
    rw [cfP_lt] at *
    simp only [Bool.or_eq_true, Bool.and_eq_true, decide_eq_true_eq] at *
    omega
  ntrans x y z h1 h2 := by
    rw [cfP_lt] at *
    simp only [Bool.or_eq_false_iff, Bool.and_eq_false_iff, decide_eq_false_iff_not] at *
    omega
theorem cfP_tot (x y : Int × Int) (h1 : ltOf cfP x y = false) (h2 : ltOf cfP y x = false) : x = y := by
  rw [cfP_lt] at *
  simp only [Bool.or_eq_false_iff, Bool.and_eq_false_iff, decide_eq_false_iff_not] at *
  obtain ⟨a, b⟩ := x
  obtain ⟨c, d⟩ := y
  simp only [Prod.mk.injEq] at *
  omega
/-- pairs in order -/
def ltP (x y : Int × Int) : Prop := x.1 < y.1 ∨ x.1 = y.1 ∧ x.2 < y.2
def srtP (ps : List (Int × Int)) : List (Int × Int) := ps.mergeSort fun x y => !(ltOf cfP) y x
theorem srtP_sorted {ps : List (Int × Int)} (h : ps.Nodup) : (srtP ps).Pairwise ltP := by
  have h1 := List.pairwise_mergeSort (le := fun x y => !(ltOf cfP) y x) (fun a b c h1 h2 => by
    simp only [cfP_lt, Bool.not_eq_true', Bool.or_eq_false_iff, Bool.and_eq_false_iff, decide_eq_false_iff_not] at *
    omega) (fun a b => by
    simp only [cfP_lt, Bool.or_eq_true, Bool.not_eq_true', Bool.or_eq_false_iff, Bool.and_eq_false_iff, decide_eq_false_iff_not]
    omega) ps
  have h2 : (srtP ps).Nodup := (List.mergeSort_perm _ _).nodup_iff.2 h
  refine (h1.and h2).imp ?_
  rintro ⟨a, b⟩ ⟨c, d⟩ ⟨h3, h4⟩
  simp only [cfP_lt, Bool.not_eq_true', Bool.or_eq_false_iff, Bool.and_eq_false_iff, decide_eq_false_iff_not, ne_eq, Prod.mk.injEq] at h3 h4
  unfold ltP
  simp only
  omega
theorem srtP_mem {ps : List (Int × Int)} {x : Int × Int} : x ∈ srtP ps ↔ x ∈ ps := (List.mergeSort_perm _ _).mem_iff
theorem srtP_len (ps : List (Int × Int)) : (srtP ps).length = ps.length := List.length_mergeSort _
/-- pairs as cells -/
def cellsP (ps : List (Int × Int)) : List Value := ps.flatMap encP
theorem cellsP_len (ps : List (Int × Int)) : (cellsP ps).length = ps.length * 2 := by
  induction ps with
  | nil => rfl
  | cons x ps ih =>
    have e : cellsP (x :: ps) = encP x ++ cellsP ps := rfl
    rw [e, List.length_append, ih]
    simp only [encP, List.length_cons, List.length_nil]
    omega
theorem cellsP_get : ∀ (ps : List (Int × Int)) (t : Nat), t < ps.length * 2 → (cellsP ps)[t]? = some ((encP (ps.toArray[t / 2]!))[t % 2]!) := by
  intro ps
  induction ps with
  | nil => intro t ht; simp at ht
  | cons x ps ih =>
    intro t ht
    have e : cellsP (x :: ps) = encP x ++ cellsP ps := rfl
    rw [e]
    match t with
    | 0 => simp [encP]
    | 1 => simp [encP]
    | t + 2 =>
      have h1 : (encP x ++ cellsP ps)[t + 2]? = (cellsP ps)[t]? := by
        rw [List.getElem?_append_right (by simp [encP])]
        simp [encP]
      have h2 : (t + 2) / 2 = t / 2 + 1 := by omega
      have h3 : (t + 2) % 2 = t % 2 := by omega
      rw [h1, ih t (by simp only [List.length_cons] at ht; omega), h2, h3]
      simp
theorem flatP (ps : List (Int × Int)) : (Go.Sort.flatK encP 2 ps.toArray).toList = cellsP ps := by
  apply List.ext_getElem?
  intro t
  by_cases ht : t < ps.length * 2
  · rw [cellsP_get ps t ht]
    unfold Go.Sort.flatK
    rw [Array.toList_map, List.getElem?_map]
    have h : (Array.range (ps.toArray.size * 2)).toList[t]? = some t := by
      rw [Array.toList_range, List.getElem?_range]
      simpa using ht
    rw [h]
    rfl
  · rw [List.getElem?_eq_none (by simp; omega), List.getElem?_eq_none (by rw [cellsP_len]; omega)]
theorem holdsP {w : World} {g : Nat} {cur : Array Value} {e : TypeId} {ps : List (Int × Int)} (hb : w.heap[g]? = some (.cells cur e (0, 0))) (ht : cur.toList.take (ps.length * 2) = cellsP ps) : Go.Sort.HoldsK encP 2 w g 0 ps.toArray := by
  intro j hj
  have hj' : j < ps.length * 2 := by simpa using hj
  refine ⟨?_, by simp [World.frozen?, hb]⟩
  have h1 : (cur.toList.take (ps.length * 2))[j]? = (cellsP ps)[j]? := by rw [ht]
  rw [List.getElem?_take_of_lt hj', ← flatP] at h1
  simp only [World.cell?, hb, Nat.zero_add, Option.isSome_none, Bool.false_eq_true, if_false]
  rw [← Array.getElem?_toList, h1, Array.getElem?_toList, Array.getElem?_eq_getElem hj, getElem!_pos _ j hj]
  rfl
theorem heapP {w : World} {g n : Nat} {os : Array Obj} {cur : Array Value} {e : TypeId} {fr : Nat × Nat} (d : Array Value) (hb : w.heap[g]? = some (.cells cur e fr)) :
    (Go.Sort.grow (Go.Sort.putRow id (Go.Sort.ahead w n) g 0 d) os).heap[g]? = some (.cells (Go.Sort.putCells id 0 d cur) e fr) := by
  have hg : g < w.heap.size := (Array.getElem?_eq_some_iff.1 hb).1
  rw [Go.Sort.heap_grow_old _ _ (by simpa using hg)]
  simp [Go.Sort.putRow, Go.Sort.mapBlock, Go.Sort.ahead, Array.getElem?_modify, hb, Go.Sort.onCells]
theorem modP {w : World} {g n : Nat} {os : Array Obj} (d : Array Value) : Mod (· = g) w (Go.Sort.grow (Go.Sort.putRow id (Go.Sort.ahead w n) g 0 d) os) := by
  refine ⟨rfl, rfl, rfl, by simp, fun k hk hne => ?_⟩
  rw [Go.Sort.heap_grow_old _ _ (by simpa using hk)]
  have : g ≠ k := fun e => hne e.symm
  simp [Go.Sort.putRow, Go.Sort.mapBlock, Go.Sort.ahead, Array.getElem?_modify, this]
theorem takeP (cur d : Array Value) (h : d.size ≤ cur.size) : (Go.Sort.putCells id 0 d cur).toList.take d.size = d.toList := by
  apply List.ext_getElem?
  intro j
  by_cases hj : j < d.size
  · rw [List.getElem?_take_of_lt hj, Array.getElem?_toList]
    simp [Go.Sort.putCells, hj, show j < cur.size by omega]
  · rw [List.getElem?_take_eq_none (by omega), List.getElem?_eq_none (by simp; omega)]
theorem sortP_c (base : Nat) (v : Value) (ps : List (Int × Int)) (w : World) (h : w.ownsRow base 50 2 v ps.length (cellsP ps)) (hl : ps.length < 1000000) :
    Calls Tryd.prog 26 #[v, .func (.func 27) #[] #[]] w fun e w' => e = .returned (.tuple #[]) ∧ w'.ownsRow base 50 2 v (srtP ps).length (cellsP (srtP ps)) ∧ Mod (fun b => v.ownBlock = some b) w w' := by
  have nilP : ∀ p c, v = .slice p 0 c → ps.length = 0 → Calls Tryd.prog 26 #[v, .func (.func 27) #[] #[]] w fun e w' => e = .returned (.tuple #[]) ∧ w'.ownsRow base 50 2 v (srtP ps).length (cellsP (srtP ps)) ∧ Mod (fun b => v.ownBlock = some b) w w' := by
    rintro p c rfl h0
    have hz := List.length_eq_zero_iff.1 h0
    subst hz
    exact (Tryd.slices_SortFunc_none (α := Int × Int) p c _ w).mono fun e w' ⟨he, hw⟩ => ⟨he, by subst hw; simpa [srtP] using h, by subst hw; exact Mod.refl _ _⟩
  rcases h.2 with ⟨e1, e2⟩ | ⟨g, cap, cur, e1, e2, e3, e4, e5, e6, e7⟩
  · refine nilP _ _ e1 ?_
    have := cellsP_len ps
    rw [e2] at this
    simp at this
    omega
  · rcases Nat.eq_zero_or_pos ps.length with h0 | h0
    · rw [h0] at e1
      exact nilP _ _ e1 h0
    · subst e1
      have hg : g < w.heap.size := (Array.getElem?_eq_some_iff.1 e3).1
      have eg : ∀ args w, (callFunc 27 args).run Tryd.prog w = .ok (.enter 27 args) w := enters_of Tryd.func27 (by kernel_rfl) rfl
      refine (Tryd.slices_SortFunc_total (α := Int × Int) 2 Tryd.isAgg50 Tryd.sizeOf50 encP (fun _ => rfl) (fun x v hv => by simp [encP] at hv; rcases hv with rfl | rfl <;> rfl) cfP cfP_swo 27 #[] g 0 cap ps.toArray w eg (fun _ _ _ _ x y => pairs_less x y _) (holdsP e3 e7) hg (by simp; omega) cfP_tot).mono ?_
      rintro e w' ⟨he, n, os, rfl⟩
      have hs := srtP_len ps
      have hF : (Go.Sort.flatK encP 2 (srtP ps).toArray).size = ps.length * 2 := by simp [hs]
      refine ⟨he, ⟨by rw [cellsP_len], .inr ⟨g, cap, _, by rw [hs], e2, heapP _ e3, by rw [hs]; exact e4, e5, by simp [Go.Sort.putCells, e6], ?_⟩⟩, (modP _).mono fun b _ e => by rw [e]; rfl⟩
      have ht := takeP cur (Go.Sort.flatK encP 2 (srtP ps).toArray) (by rw [hF, e6]; omega)
      rw [hF, flatP, ← hs] at ht
      exact ht
end Go.Proofs.YtefhmbmbhiehdaaDoor
