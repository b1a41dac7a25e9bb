/- The contract of (*interest.Grid).Remove. Conditions: none but that there is not too much. -/
import Derived.Deep.CutRange
import Derived.Deep.CutBlock
import Derived.Test.YtefhmbmbhiehdaaDoorKIgrid
import Derived.Test.YtefhmbmbhiehdaaDoorKLate
import Derived.Test.YtefhmbmbhiehdaaDoorKMapQ
import Derived.Shelf.Abstract
import Derived.RangeFuncWrites
import Derived.RangeFuncNested
namespace Go.Proofs.YtefhmbmbhiehdaaDoor
open Go Go.Maps Go.RowKit Go.BigFrame Go.ChangeShapes Go.WideShapes Go.Shelf
theorem zero_box (w : World) : (zeroValue 34).run Tryd.prog w = .ok (.agg #[.int .i64 0, .int .i64 0, .int .i64 0, .int .i64 0, .int .i64 0, .int .i64 0]) w := by kernel_rfl
theorem zero_ints (w : World) : (zeroValue 39).run Tryd.prog w = .ok (.slice none 0 0) w := by kernel_rfl
theorem cells_len (b : Bx) : b.cells.length ≤ 2299968 := by
  unfold Bx.cells cellsOf
  rw [xL_len]
  have h1 := kc_bd b.a1
  have h2 := kc_bd b.a2
  have h3 := kc_bd b.a3
  have h4 := kc_bd b.b1
  have h5 := kc_bd b.b2
  have h6 := kc_bd b.b3
  show (kc b.b1 - kc b.a1 + 1).toNat * ((kc b.b2 - kc b.a2 + 1).toNat * (kc b.b3 - kc b.a3 + 1).toNat) ≤ 132 * (132 * 132)
  exact Nat.mul_le_mul (by omega) (Nat.mul_le_mul (by omega) (by omega))
/-- delete(m, k) of a map that has it -/
theorem at_deleteI {Q : Exit → Act → World → Prop} {w : World} {b m n : Nat} {f : Int → Option Value} {T E : TypeId} {o : Oper} {ops : Array Oper} {rest : List Oper} {a : Act} {nn : Int} (hg : o.guard = none) (mm x : Operand) (hop : o.op = Op.call { callee := Callee.builtin Builtin.delete, args := #[mm, x], argTypes := #[T, 3] }) (ht : Tryd.prog.underlying T = some (.map 3 E))
    (hm : a.eval mm = .map (some b)) (h : VI w b m n f) (hx : a.eval x = .int .i64 nn) (hkey : keyOf Tryd.prog 3 (.int .i64 nn) = some (.int .i64 nn)) (hs : (f nn).isSome = true)
    (hK : ∀ w', VI w' b m (n - 1) (fun k => if k = nn then none else f k) → Mod (· = b) w w' → wpList Tryd.prog ops Q rest (a.put o.dst (.tuple #[])) w') : wpList Tryd.prog ops Q (o :: rest) a w := by
  obtain ⟨F, hF, hf⟩ := h
  refine at_delete1 hg mm x hop (int_keyed Tryd.underlying3) ht hm hF (.int .i64 nn) (.int .i64 nn) hx hkey trivial ?_
  rintro w' h1 h2
  rw [hf nn, if_pos hs] at h1
  refine hK w' ⟨_, h1, fun k => ?_⟩ h2
  unfold delF
  by_cases e : k = nn
  · simp [e]
  · rw [if_neg (fun e' => e (by injection e')), hf k]
    exact (if_neg e).symm
theorem map_without {D : Int → Option En} {nn : Int} {β : Type} (F : En → β) : (fun k => if k = nn then none else (D k).map F) = fun k => (if k = nn then none else D k).map F := by
  funext k
  by_cases e : k = nn <;> simp [e]
theorem any_quiet_butI {P : Program} {Q : Exit → Act → World → Prop} {a : Act} {w : World} {l : List Oper} (n : Nat) (hB : Region.lexTailB .any l.toArray n = true)
    (h : wpQuiet P l.toArray (fun w' => ∃ m, w' = more w m) (fun a' => ∀ w', (∃ m, w' = more w m) → wpList P l.toArray Q (l.drop n) a' w') (l.take n) a) : wpAny P .any l.toArray Q l.toArray.size (Array.replicate l.toArray.size false) a { w with drawn := w.drawn + 1 } := by
  simp only [Region.lexTailB, Bool.and_eq_true, decide_eq_true_eq] at hB
  obtain ⟨⟨⟨⟨hsel, hn⟩, hs⟩, hc⟩, hlex⟩ := hB
  have hn' : n < l.length := by simpa using hn
  have htl : (l.take n).length = n := by simp; omega
  have hdl : (l.drop n).length = l.toArray.size - n := by simp
  have inv0 : HeadInv .any l.toArray n (Array.replicate l.toArray.size false) :=
    ⟨by simp, fun j oj _ hl => (by rw [getD_replicate_false] at hl; cases hl), fun t _ ht => getD_in (by simpa using ht) (getD_replicate_false _ _)⟩
  have H := head_lex (md := .any) (g := l.toArray.size - n) hsel hs hc hn (l.take n) 0 _ a (fun j hj => by
    rw [htl] at hj; simp [hj]) (by simpa using htl) inv0 (by rw [htl]; exact hlex) h
  have := any_of_head (Q := Q) (g := l.toArray.size - n) (fun listed a' w' hw' hL => by
    have := wpAny_of_seq (md := .any) (Q' := Q) (l.drop n) n listed a' w' (fun j => by simp [List.getElem?_drop]) (by rw [hdl]; exact hL.1) (hL.2 w' hw')
    rwa [hdl] at this) _ _ _ _ (more_drew w) H
  rw [htl, show n + (l.toArray.size - n) = l.toArray.size from by omega] at this
  exact this
theorem keepsFrom_mod {B : Nat} {S : Nat → Prop} {W W' : World} (k : Mod S W W') (hS : ∀ x, S x → x < B) : KeepsFrom B W W' :=
  ⟨k.size, fun b o hb ho _ => by
    have hlt : b < W.heap.size := by
      rw [Array.getElem?_eq_some_iff] at ho
      exact ho.1
    rw [k.block b hlt (fun e => by have := hS b e; omega)]
    exact ho⟩
theorem mod_putObj (w : World) (b : Nat) (o : Obj) : Mod (· = b) w (w.putObj b o) :=
  ⟨rfl, rfl, rfl, by simp [World.putObj], fun _ _ h => World.putObj_heap_other h⟩
theorem lists_del {D : Int → Option En} {L L' : Cl → List Int} {nn : Int} {e : En} (h : Lists D L) (hD : D nn = some e) (hL : ∀ c, clOk c → L' c = if c ∈ e.bx.cells then del (L c) nn else L c) : Lists (fun k => if k = nn then none else D k) L' := by
  refine ⟨fun c hc id => ?_, fun c hc => ?_, fun c hc => ?_⟩
  · rw [hL c hc]
    by_cases hi : c ∈ e.bx.cells
    · rw [if_pos hi]
      have hm : id ∈ del (L c) nn ↔ id ∈ L c ∧ id ≠ nn := by simp [del]
      rw [hm, h.mem c hc id]
      by_cases en : id = nn
      · simp [en]
      · simp [en]
    · rw [if_neg hi, h.mem c hc id]
      by_cases en : id = nn
      · simp only [en, hD, if_true]
        constructor
        · rintro ⟨e', h1, h2⟩
          exact absurd ((Option.some.inj h1) ▸ h2) hi
        · rintro ⟨e', h1, h2⟩
          cases h1
      · simp [en]
  · rw [hL c hc]
    split
    · exact (h.nodup c hc).filter _
    · exact h.nodup c hc
  · rw [hL c hc]
    split
    · exact Nat.le_trans (List.length_filter_le _ _) (h.len c hc)
    · exact h.len c hc
theorem blk_cells {w : World} {b : Nat} {cs : Array Value} (h : Blk w b cs) (h0 : 0 < cs.size) {o : Obj} (ho : w.heap[b]? = some o) : o.isCells = true := by
  have hc := h.cell 0
  rw [Array.getElem?_eq_getElem h0] at hc
  unfold World.cell? at hc
  rw [ho] at hc
  cases o <;> first | rfl | (simp at hc)
theorem zip_one {α β : Type} (a : α) (b : β) : (#[a]).zip #[b] = #[(a, b)] := by
  apply Array.ext'
  simp
theorem fold_one {α β : Type} (f : β → α → β) (b : β) (a : α) : (#[a]).foldl f b = f b a := by simp
theorem wp_frame_named {P : Program} {c : Code} {Q : Exit → Act → World → Prop} {tmps : Array Value} {ds : List Deferred} {w : World} (h : ∀ fr, fr = tmps → Code.wp P c Q { tmps := fr, defers := ds } w) : Code.wp P c Q { tmps := tmps, defers := ds } w := h _ rfl
end Go.Proofs.YtefhmbmbhiehdaaDoor
