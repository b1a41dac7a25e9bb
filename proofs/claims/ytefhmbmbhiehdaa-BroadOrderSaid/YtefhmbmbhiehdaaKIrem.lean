/- The contract of (*interest.Grid).Remove. Conditions: none but that there is not too much. -/
import Derived.Deep.CutRange
import Derived.Deep.CutBlock
import Derived.Test.YtefhmbmbhiehdaaKIgrid
import Derived.Test.YtefhmbmbhiehdaaKLate
import Derived.Test.YtefhmbmbhiehdaaKMapQ
import Derived.Shelf.Abstract
import Derived.RangeFuncWrites
import Derived.RangeFuncNested
namespace Go.Proofs.Ytefhmbmbhiehdaa
open Go Go.Maps Go.RowKit Go.BigFrame Go.ChangeShapes Go.WideShapes Go.Shelf
theorem zero_box (w : World) : (zeroValue 85).run Try.prog w = .ok (.agg #[.int .i64 0, .int .i64 0, .int .i64 0, .int .i64 0, .int .i64 0, .int .i64 0]) w := by kernel_rfl
theorem zero_ints (w : World) : (zeroValue 71).run Try.prog w = .ok (.slice none 0 0) w := by kernel_rfl
theorem zero_cell (w : World) : (zeroValue 124).run Try.prog w = .ok (.agg #[.int .i64 0, .int .i64 0, .int .i64 0]) w := by kernel_rfl
theorem cells_len (b : Bx) : b.cells.length ≤ 2299968 := by
  unfold Bx.cells cellsOf
  rw [xL_len]
  have h1 := kc_bd b.a1
  have h2 := kc_bd b.a2
  have h3 := kc_bd b.a3
  have h4 := kc_bd b.b1
  have h5 := kc_bd b.b2
  have h6 := kc_bd b.b3
  show (kc b.b1 - kc b.a1 + 1).toNat * ((kc b.b2 - kc b.a2 + 1).toNat * (kc b.b3 - kc b.a3 + 1).toNat) ≤ 132 * (132 * 132)
  exact Nat.mul_le_mul (by omega) (Nat.mul_le_mul (by omega) (by omega))
/-- between two rounds of Remove's loop: the lists of the cells that have come are without the number -/
def RemI (w5 : World) (g m : Nat) (D : Int → Option En) (S X : Nat → Prop) (q : GP) (nn : Int) (p2 p3 A : Nat) (pre : List Cl) (W : World) : Prop :=
  (∃ q' : GP, GW W g (m + 2 * pre.length) D S (fun x => X x ∨ (p2 ≤ x ∧ x < w5.heap.size)) q' ∧ (∀ c, clOk c → q'.L c = if c ∈ pre then del (q.L c) nn else q.L c) ∧ q'.mc = q.mc ∧ q'.ml = q.ml ∧ q'.mh = q.mh ∧ q'.mb = q.mb ∧ q'.mt = q.mt ∧ q'.n = q.n) ∧
  Blk W p2 #[.pointer (some ⟨g, 0, none⟩)] ∧ Blk W p3 #[.int .i64 nn] ∧ (p2 < p3 ∧ p3 < A ∧ A + 1 < w5.heap.size ∧ ∀ x, S x → x < w5.heap.size) ∧ Mod S w5 W
/-- delete(m, k) of a map that has it -/
theorem at_deleteI {Q : Exit → Act → World → Prop} {w : World} {b m n : Nat} {f : Int → Option Value} {T E : TypeId} {o : Oper} {ops : Array Oper} {rest : List Oper} {a : Act} {nn : Int} (hg : o.guard = none) (mm x : Operand) (hop : o.op = Op.call { callee := Callee.builtin Builtin.delete, args := #[mm, x], argTypes := #[T, 3] }) (ht : Try.prog.underlying T = some (.map 3 E))
    (hm : a.eval mm = .map (some b)) (h : VI w b m n f) (hx : a.eval x = .int .i64 nn) (hkey : keyOf Try.prog 3 (.int .i64 nn) = some (.int .i64 nn)) (hs : (f nn).isSome = true)
    (hK : ∀ w', VI w' b m (n - 1) (fun k => if k = nn then none else f k) → Mod (· = b) w w' → wpList Try.prog ops Q rest (a.put o.dst (.tuple #[])) w') : wpList Try.prog ops Q (o :: rest) a w := by
  obtain ⟨F, hF, hf⟩ := h
  refine at_delete1 hg mm x hop (int_keyed Try.underlying3) ht hm hF (.int .i64 nn) (.int .i64 nn) hx hkey trivial ?_
  rintro w' h1 h2
  rw [hf nn, if_pos hs] at h1
  refine hK w' ⟨_, h1, fun k => ?_⟩ h2
  unfold delF
  by_cases e : k = nn
  · simp [e]
  · rw [if_neg (fun e' => e (by injection e')), hf k]
    exact (if_neg e).symm
theorem map_without {D : Int → Option En} {nn : Int} {β : Type} (F : En → β) : (fun k => if k = nn then none else (D k).map F) = fun k => (if k = nn then none else D k).map F := by
  funext k
  by_cases e : k = nn <;> simp [e]
theorem GW.del4 {w w1 w2 w3 w4 : World} {g m : Nat} {D : Int → Option En} {S X : Nat → Prop} {q : GP} {nn : Int} (h : GW w g m D S X q) (k1 : Mod (· = q.ml) w w1) (h1 : VI w1 q.ml m (q.n - 1) fun k => if k = nn then none else (D k).map fun e => cv e.bx.lo)
    (k2 : Mod (· = q.mh) w1 w2) (h2 : VI w2 q.mh m (q.n - 1) fun k => if k = nn then none else (D k).map fun e => cv e.bx.hi) (k3 : Mod (· = q.mb) w2 w3) (h3 : VI w3 q.mb m (q.n - 1) fun k => if k = nn then none else (D k).map fun e => e.bx.v)
    (k4 : Mod (· = q.mt) w3 w4) (h4 : VI w4 q.mt m (q.n - 1) fun k => if k = nn then none else (D k).map fun e => .int .i64 e.tm) : GW w4 g m (fun k => if k = nn then none else D k) S X { q with n := q.n - 1 } := by
  obtain ⟨n1, n2, n3, n4, n5, n6, n7, n8, n9, n10⟩ := h.ne
  obtain ⟨g1, g2, g3, g4, g5⟩ := h.gne
  rw [map_without] at h1 h2 h3 h4
  have hk : Mod (fun x => x = q.ml ∨ x = q.mh ∨ x = q.mb ∨ x = q.mt) w w4 := (((k1.mono fun _ _ e => .inl e).trans (k2.mono fun _ _ e => .inr (.inl e))).trans (k3.mono fun _ _ e => .inr (.inr (.inl e)))).trans (k4.mono fun _ _ e => .inr (.inr (.inr e)))
  exact ⟨h.blk.mod hk (by omega), ((h1.mod k2 (by omega)).mod k3 (by omega)).mod k4 (by omega), (h2.mod k3 (by omega)).mod k4 (by omega), h3.mod k4 (by omega), h4, h.cells.mod hk (by omega), h.rows.mod hk (fun c v x e1 e2 e3 => by have := h.rne c v x e1 e2 e3; omega), h.sg, h.srow, h.ne, h.gne, h.rne,
    fun x e => ⟨Nat.lt_of_lt_of_le (h.sl x e).1 hk.size, (h.sl x e).2⟩, fun x e => Nat.lt_of_lt_of_le (h.xl x e) hk.size⟩
theorem GW.grow {w : World} {g m p : Nat} {D : Int → Option En} {S X : Nat → Prop} {q : GP} (h : GW w g m D S X q) (_hp : p ≤ w.heap.size) (hS : ∀ x, S x → x < p) : GW w g (m + 2 * ([] : List Cl).length) D S (fun x => X x ∨ (p ≤ x ∧ x < w.heap.size)) q :=
  ⟨h.blk, h.low, h.high, h.box, h.team, h.cells, h.rows, h.sg, h.srow, h.ne, h.gne, h.rne, fun x e => ⟨(h.sl x e).1, fun e' => e'.elim (h.sl x e).2 (fun e'' => by have := hS x e; omega)⟩, fun x e => e.elim (h.xl x) (fun e' => e'.2)⟩
theorem any_quiet_butI {P : Program} {Q : Exit → Act → World → Prop} {a : Act} {w : World} {l : List Oper} (n : Nat) (hB : Region.lexTailB .any l.toArray n = true)
    (h : wpQuiet P l.toArray (fun w' => ∃ m, w' = more w m) (fun a' => ∀ w', (∃ m, w' = more w m) → wpList P l.toArray Q (l.drop n) a' w') (l.take n) a) : wpAny P .any l.toArray Q l.toArray.size (Array.replicate l.toArray.size false) a { w with drawn := w.drawn + 1 } := by
  simp only [Region.lexTailB, Bool.and_eq_true, decide_eq_true_eq] at hB
  obtain ⟨⟨⟨⟨hsel, hn⟩, hs⟩, hc⟩, hlex⟩ := hB
  have hn' : n < l.length := by simpa using hn
  have htl : (l.take n).length = n := by simp; omega
  have hdl : (l.drop n).length = l.toArray.size - n := by simp
  have inv0 : HeadInv .any l.toArray n (Array.replicate l.toArray.size false) :=
    ⟨by simp, fun j oj _ hl => (by rw [getD_replicate_false] at hl; cases hl), fun t _ ht => getD_in (by simpa using ht) (getD_replicate_false _ _)⟩
  have H := head_lex (md := .any) (g := l.toArray.size - n) hsel hs hc hn (l.take n) 0 _ a (fun j hj => by
    rw [htl] at hj; simp [hj]) (by simpa using htl) inv0 (by rw [htl]; exact hlex) h
  have := any_of_head (Q := Q) (g := l.toArray.size - n) (fun listed a' w' hw' hL => by
    have := wpAny_of_seq (md := .any) (Q' := Q) (l.drop n) n listed a' w' (fun j => by simp [List.getElem?_drop]) (by rw [hdl]; exact hL.1) (hL.2 w' hw')
    rwa [hdl] at this) _ _ _ _ (more_drew w) H
  rw [htl, show n + (l.toArray.size - n) = l.toArray.size from by omega] at this
  exact this
/-- the list of a cell is written -/
theorem GW.setRow {w w' : World} {g m m' nc' : Nat} {D : Int → Option En} {S X : Nat → Prop} {q : GP} (h : GW w g m D S X q) {c : Cl} (hc : clOk c) {v' : Value} {zs : List Int} (k : Mod (fun b => b = q.mc ∨ v'.ownBlock = some b) w w') (hm : MapV Try.prog 124 w' q.mc m' (putF q.Fc (ck c) v') nc') (hmm : m ≤ m')
    (hr : w'.ownsRow 0 3 1 v' zs.length (ints zs)) (hv : ∀ b, v'.ownBlock = some b → ∃ v, q.Fc (ck c) = some v ∧ v.ownBlock = some b) : GW w' g m' D S X { q with Fc := putF q.Fc (ck c) v', nc := nc', L := fun x => if x = c then zs else q.L x } := by
  obtain ⟨n1, n2, n3, n4, n5, n6, n7, n8, n9, n10⟩ := h.ne
  obtain ⟨g1, g2, g3, g4, g5⟩ := h.gne
  have hvr : ∀ b, v'.ownBlock = some b → b ≠ g ∧ b ≠ q.mc ∧ b ≠ q.ml ∧ b ≠ q.mh ∧ b ≠ q.mb ∧ b ≠ q.mt := fun b e => by
    obtain ⟨v, e1, e2⟩ := hv b e
    exact h.rne _ _ _ hc e1 e2
  have hp : ∀ c', clOk c' → putF q.Fc (ck c) v' (ck c') = if c' = c then some v' else q.Fc (ck c') := fun c' hc' => by
    unfold putF
    by_cases e : c' = c
    · rw [if_pos e, if_pos (by rw [e])]
    · rw [if_neg e, if_neg (fun e' => e (ck_inj hc' hc e'))]
  have hown : ∀ c' v x, clOk c' → putF q.Fc (ck c) v' (ck c') = some v → v.ownBlock = some x → ∃ v0, q.Fc (ck c') = some v0 ∧ v0.ownBlock = some x := fun c' v x hc' e1 e2 => by
    rw [hp c' hc'] at e1
    by_cases e : c' = c
    · rw [if_pos e] at e1
      cases e1
      rw [e]
      exact hv x e2
    · rw [if_neg e] at e1
      exact ⟨v, e1, e2⟩
  refine ⟨h.blk.mod k (fun e => e.elim (by omega) (fun e => (hvr _ e).1 rfl)), (h.low.mod k (fun e => e.elim (by omega) (fun e => (hvr _ e).2.2.1 rfl))).more hmm, (h.high.mod k (fun e => e.elim (by omega) (fun e => (hvr _ e).2.2.2.1 rfl))).more hmm, (h.box.mod k (fun e => e.elim (by omega) (fun e => (hvr _ e).2.2.2.2.1 rfl))).more hmm, (h.team.mod k (fun e => e.elim (by omega) (fun e => (hvr _ e).2.2.2.2.2 rfl))).more hmm, hm, ⟨fun c' hc' => ?_, fun c1 c2 v1 v2 h1 h2 hne e1 e2 b f1 f2 => ?_⟩, h.sg, fun c' v x hc' e1 e2 => ?_, h.ne, h.gne, fun c' v x hc' e1 e2 => ?_, fun x e => ⟨Nat.lt_of_lt_of_le (h.sl x e).1 k.size, (h.sl x e).2⟩, fun x e => Nat.lt_of_lt_of_le (h.xl x e) k.size⟩
  · by_cases e : c' = c
    · refine .inr ⟨v', (hp c' hc').trans (if_pos e), ?_⟩
      simp only [if_pos e]
      exact hr
    · rcases h.rows.row c' hc' with ⟨e1, e2⟩ | ⟨v, e1, e2⟩
      · refine .inl ⟨((hp c' hc').trans (if_neg e)).trans e1, ?_⟩
        simp only [if_neg e]
        exact e2
      · refine .inr ⟨v, ((hp c' hc').trans (if_neg e)).trans e1, ?_⟩
        simp only [if_neg e]
        refine row_mod e2 k fun b hb hT => hT.elim (fun e' => (h.rne _ _ _ hc' e1 hb).2.1 e') (fun e' => ?_)
        obtain ⟨v0, f1, f2⟩ := hv b e'
        exact h.rows.apart c' c v v0 hc' hc e e1 f1 b hb f2
  · obtain ⟨u1, r1, t1⟩ := hown _ _ _ h1 e1 f1
    obtain ⟨u2, r2, t2⟩ := hown _ _ _ h2 e2 f2
    exact h.rows.apart _ _ _ _ h1 h2 hne r1 r2 b t1 t2
  · obtain ⟨u1, r1, t1⟩ := hown _ _ _ hc' e1 e2
    exact h.srow _ _ _ hc' r1 t1
  · obtain ⟨u1, r1, t1⟩ := hown _ _ _ hc' e1 e2
    exact h.rne _ _ _ hc' r1 t1
/-- the list of a cell is gone -/
theorem GW.dropRow {w w' : World} {g m m' nc' : Nat} {D : Int → Option En} {S X : Nat → Prop} {q : GP} (h : GW w g m D S X q) {c : Cl} (hc : clOk c) {v' : Value} {F' : Lit → Option Value} (k : Mod (fun b => b = q.mc ∨ v'.ownBlock = some b) w w') (hm : MapV Try.prog 124 w' q.mc m' F' nc') (hmm : m ≤ m')
    (hp : ∀ c', clOk c' → F' (ck c') = if c' = c then none else q.Fc (ck c')) (hv : ∀ b, v'.ownBlock = some b → ∃ v, q.Fc (ck c) = some v ∧ v.ownBlock = some b) : GW w' g m' D S X { q with Fc := F', nc := nc', L := fun x => if x = c then [] else q.L x } := by
  obtain ⟨n1, n2, n3, n4, n5, n6, n7, n8, n9, n10⟩ := h.ne
  obtain ⟨g1, g2, g3, g4, g5⟩ := h.gne
  have hvr : ∀ b, v'.ownBlock = some b → b ≠ g ∧ b ≠ q.mc ∧ b ≠ q.ml ∧ b ≠ q.mh ∧ b ≠ q.mb ∧ b ≠ q.mt := fun b e => by
    obtain ⟨v, e1, e2⟩ := hv b e
    exact h.rne _ _ _ hc e1 e2
  have hown : ∀ c' v, clOk c' → F' (ck c') = some v → q.Fc (ck c') = some v ∧ c' ≠ c := fun c' v hc' e1 => by
    rw [hp c' hc'] at e1
    by_cases e : c' = c
    · rw [if_pos e] at e1
      cases e1
    · rw [if_neg e] at e1
      exact ⟨e1, e⟩
  refine ⟨h.blk.mod k (fun e => e.elim (by omega) (fun e => (hvr _ e).1 rfl)), (h.low.mod k (fun e => e.elim (by omega) (fun e => (hvr _ e).2.2.1 rfl))).more hmm, (h.high.mod k (fun e => e.elim (by omega) (fun e => (hvr _ e).2.2.2.1 rfl))).more hmm, (h.box.mod k (fun e => e.elim (by omega) (fun e => (hvr _ e).2.2.2.2.1 rfl))).more hmm, (h.team.mod k (fun e => e.elim (by omega) (fun e => (hvr _ e).2.2.2.2.2 rfl))).more hmm, hm, ⟨fun c' hc' => ?_, fun c1 c2 v1 v2 h1 h2 hne e1 e2 b f1 f2 => ?_⟩, h.sg, fun c' v x hc' e1 e2 => ?_, h.ne, h.gne, fun c' v x hc' e1 e2 => ?_, fun x e => ⟨Nat.lt_of_lt_of_le (h.sl x e).1 k.size, (h.sl x e).2⟩, fun x e => Nat.lt_of_lt_of_le (h.xl x e) k.size⟩
  · by_cases e : c' = c
    · exact .inl ⟨(hp c' hc').trans (if_pos e), if_pos e⟩
    · rcases h.rows.row c' hc' with ⟨e1, e2⟩ | ⟨v, e1, e2⟩
      · exact .inl ⟨((hp c' hc').trans (if_neg e)).trans e1, (if_neg e).trans e2⟩
      · refine .inr ⟨v, ((hp c' hc').trans (if_neg e)).trans e1, ?_⟩
        simp only [if_neg e]
        refine row_mod e2 k fun b hb hT => hT.elim (fun e' => (h.rne _ _ _ hc' e1 hb).2.1 e') (fun e' => ?_)
        obtain ⟨v0, f1, f2⟩ := hv b e'
        exact h.rows.apart c' c v v0 hc' hc e e1 f1 b hb f2
  · exact h.rows.apart _ _ _ _ h1 h2 hne (hown _ _ h1 e1).1 (hown _ _ h2 e2).1 b f1 f2
  · exact h.srow _ _ _ hc' (hown _ _ hc' e1).1 e2
  · exact h.rne _ _ _ hc' (hown _ _ hc' e1).1 e2
theorem keepsFrom_mod {B : Nat} {S : Nat → Prop} {W W' : World} (k : Mod S W W') (hS : ∀ x, S x → x < B) : KeepsFrom B W W' :=
  ⟨k.size, fun b o hb ho _ => by
    have hlt : b < W.heap.size := by
      rw [Array.getElem?_eq_some_iff] at ho
      exact ho.1
    rw [k.block b hlt (fun e => by have := hS b e; omega)]
    exact ho⟩
theorem mod_putObj (w : World) (b : Nat) (o : Obj) : Mod (· = b) w (w.putObj b o) :=
  ⟨rfl, rfl, rfl, by simp [World.putObj], fun _ _ h => World.putObj_heap_other h⟩
theorem lists_del {D : Int → Option En} {L L' : Cl → List Int} {nn : Int} {e : En} (h : Lists D L) (hD : D nn = some e) (hL : ∀ c, clOk c → L' c = if c ∈ e.bx.cells then del (L c) nn else L c) : Lists (fun k => if k = nn then none else D k) L' := by
  refine ⟨fun c hc id => ?_, fun c hc => ?_, fun c hc => ?_⟩
  · rw [hL c hc]
    by_cases hi : c ∈ e.bx.cells
    · rw [if_pos hi]
      have hm : id ∈ del (L c) nn ↔ id ∈ L c ∧ id ≠ nn := by simp [del]
      rw [hm, h.mem c hc id]
      by_cases en : id = nn
      · simp [en]
      · simp [en]
    · rw [if_neg hi, h.mem c hc id]
      by_cases en : id = nn
      · simp only [en, hD, if_true]
        constructor
        · rintro ⟨e', h1, h2⟩
          exact absurd ((Option.some.inj h1) ▸ h2) hi
        · rintro ⟨e', h1, h2⟩
          cases h1
      · simp [en]
  · rw [hL c hc]
    split
    · exact (h.nodup c hc).filter _
    · exact h.nodup c hc
  · rw [hL c hc]
    split
    · exact Nat.le_trans (List.length_filter_le _ _) (h.len c hc)
    · exact h.len c hc
theorem blk_cells {w : World} {b : Nat} {cs : Array Value} (h : Blk w b cs) (h0 : 0 < cs.size) {o : Obj} (ho : w.heap[b]? = some o) : o.isCells = true := by
  have hc := h.cell 0
  rw [Array.getElem?_eq_getElem h0] at hc
  unfold World.cell? at hc
  rw [ho] at hc
  cases o <;> first | rfl | (simp at hc)
theorem zip_one {α β : Type} (a : α) (b : β) : (#[a]).zip #[b] = #[(a, b)] := by
  apply Array.ext'
  simp
theorem fold_one {α β : Type} (f : β → α → β) (b : β) (a : α) : (#[a]).foldl f b = f b a := by simp
theorem wp_frame_named {P : Program} {c : Code} {Q : Exit → Act → World → Prop} {tmps : Array Value} {ds : List Deferred} {w : World} (h : ∀ fr, fr = tmps → Code.wp P c Q { tmps := fr, defers := ds } w) : Code.wp P c Q { tmps := tmps, defers := ds } w := h _ rfl
theorem RemI.mod {w5 W W' : World} {g m : Nat} {D : Int → Option En} {S X T : Nat → Prop} {q : GP} {nn : Int} {p2 p3 A : Nat} {pre : List Cl} (h : RemI w5 g m D S X q nn p2 p3 A pre W) (k : Mod T W W') (hT : ∀ x, T x → w5.heap.size ≤ x) : RemI w5 g m D S X q nn p2 p3 A pre W' := by
  obtain ⟨⟨q', h1, h2⟩, h3, h4, ⟨a1, a2, a3, a4⟩, h5⟩ := h
  exact ⟨⟨q', h1.modT k (fun x e e' => by have := hT x e; have := a4 x e'; omega), h2⟩, h3.mod k (fun e => by have := hT _ e; omega), h4.mod k (fun e => by have := hT _ e; omega), ⟨a1, a2, a3, a4⟩, h5.trans2 k (fun x hx e => by have := hT x e; omega)⟩
def IRemPost (w : World) (g m : Nat) (D : Int → Option En) (S X : Nat → Prop) (q : GP) (nn : Int) (e : Ending) (w' : World) : Prop :=
  e = .returned (.tuple #[]) ∧ (∃ q', GR w' g (m + 5000000) (fun k => if k = nn then none else D k) S X q' ∧ q'.n = if (D nn).isSome then q.n - 1 else q.n) ∧ Mod S w w'
set_option maxRecDepth 100000 in
set_option maxHeartbeats 16000000 in
theorem iremove_c (w : World) (g m : Nat) (D : Int → Option En) (S X : Nat → Prop) (q : GP) (nn : Int) (hnn : -9223372036854775808 ≤ nn ∧ nn ≤ 9223372036854775807) (h : GR w g m D S X q) (hm : m ≤ 1000000000) :
    Calls Try.prog 20 #[.pointer (some ⟨g, 0, none⟩), .int .i64 nn] w (IRemPost w g m D S X q nn) := by
  have HH := Lib.hid h
  have hkk : keyOf Try.prog 3 (.int .i64 nn) = some (.int .i64 nn) := int_wf_key Try.underlying3 (intKey_wf hnn.1 hnn.2)
  have HK := Lib.hid hkk
  clear h hkk
  refine (callsIn_wide (n := 9)).1 ?_
  refine callsIn_of_wp_marks Try.func20 rfl trivial ?_ rfl
  simp only [Try.ntmps20, List.size_toArray, List.length_cons, List.length_nil, Nat.reduceAdd, Nat.reduceSub, Array.replicate_succ, Array.replicate_zero, List.push_toArray, List.append_toArray, List.nil_append, List.cons_append]
  refine wpIn_wide.2 ?_
  obtain ⟨QQ, hQQ⟩ : ∃ QQ, QQ = bodyPostM Fence.wide 9 Try.prog Try.f20 (IRemPost w g m D S X q nn) := ⟨_, rfl⟩
  rw [← hQQ]
  have HQ := Lib.hid hQQ
  clear hQQ
  go_upto_region 1 with fail
  refine wp_fresh ?_
  rintro w1 hb1
  have HP2 : Hid (Blk w1 w.heap.size #[.pointer (some ⟨g, 0, none⟩)]) := Lib.hid (Blk.below (by repeat (with_reducible (first | assumption | (apply Blk.at; simp; done) | apply Blk.alloc | apply Blk.drew | apply Blk.drewN | apply Blk.more | apply Blk.put | (apply Blk.far; focus (first | assumption | (apply Ne.symm; assumption) | (simp; done) | (simp <;> omega)))))) hb1)
  have HP3 : Hid (Blk w1 (w.heap.size + 1) #[.int .i64 nn]) := Lib.hid (Blk.below (by repeat (with_reducible (first | assumption | (apply Blk.at; simp; done) | apply Blk.alloc | apply Blk.drew | apply Blk.drewN | apply Blk.more | apply Blk.put | (apply Blk.far; focus (first | assumption | (apply Ne.symm; assumption) | (simp; done) | (simp <;> omega)))))) hb1)
  have hv1 : Below w.heap.size w w1 := (by repeat (with_reducible (first | exact Below.refl _ _ | assumption | apply ext_drew | apply ext_drewN | apply ext_alloc | apply ext_more | (refine ext_setCell ?_ (by first | assumption | (simp <;> omega)) _) | (refine ext_below ?_ (by assumption)))))
  have HG1 := Lib.hid (HH.out.raw.below hv1)
  have HV1 := Lib.hid hv1
  have hs1 := HP3.out.lt
  clear hb1 hv1
  obtain ⟨Fb, hFb, hFbv⟩ := HG1.out.box
  have HFB := Lib.hid hFb
  have HFV : Hid (Fb (.int .i64 nn) = (D nn).map fun e => e.bx.v) := Lib.hid (hFbv nn)
  have B2 := HP2.out
  have B3 := HP3.out
  have BG := HG1.out.blk
  clear hFb hFbv
  cases hD : D nn with
  | none =>
    refine region_late [8] 10 ?l1n ?hl1n (by kernel_rfl) (by kernel_rfl) ?_
    case hl1n => simp [lateE]; rfl
    refine any_grow (A := ?A1n) 9 [4] (fun _ => #[.int .i64 0, .int .i64 0, .int .i64 0, .int .i64 0, .int .i64 0, .int .i64 0]) (by kernel_rfl) ?hrun1n ?hq1n ?htail1n
    case hq1n =>
      intro w0 hb0
      simp only [List.take_succ_cons, List.take_zero]
      have C2 := B2.below hb0
      have C3 := B3.below hb0
      have CG := BG.below hb0
      obtain ⟨z2, c2, f2⟩ := id C2
      obtain ⟨z3, c3, f3⟩ := id C3
      obtain ⟨zg, cg, fg⟩ := id CG
      have hmc := more_cell
      repeat (go_big_quiet_step (fail))
      go_big_quiet_want
      refine qlook2 (.tmp 12) (.tmp 13) rfl (int_keyed Try.underlying3) Try.underlying117 zero_box rfl (by rintro _ ⟨mm, rfl⟩; exact (HFB.out.below hb0).below (more_below w0 mm)) (.int .i64 nn) (.int .i64 nn) rfl HK.out trivial ?_
      simp only [Act.put, List.setIfInBounds_toArray, List.set_cons_zero, List.set_cons_succ]
      rw [HFV.out, hD]
      simp only [Option.map_none, Option.getD_none, Option.isSome_none, Bx.v]
      go_big_quiet_on
      repeat (go_big_quiet_step (fail))
      refine wpQuiet_nil ?_
      rfl
    case hrun1n =>
      intro j hj
      match j, hj with
      | 0, _ => exact ⟨_, _, rfl, fun a w => by simp [go_sem]; rfl⟩
    case htail1n =>
      intro gs w2 hb2 hblk hne
      obtain ⟨G0, hg0⟩ := hblk 0 (by decide)
      simp only [List.drop_succ_cons, List.drop_zero, List.length_cons, List.length_nil, laySlots]
      clear hblk hne
      generalize gs 0 = t4 at *
      clear HFB HFV
      obtain ⟨zt, ct, ft⟩ := id G0
      go_wp2
      refine ⟨rfl, ?_⟩
      go_upto_region 2 with fail
      refine wp_fresh ?_
      rintro w3 hb3
      have hv3 : Below w1.heap.size w1 w3 := (by repeat (with_reducible (first | exact Below.refl _ _ | assumption | apply ext_drew | apply ext_drewN | apply ext_alloc | apply ext_more | (refine ext_setCell ?_ (by first | assumption | (simp <;> omega)) _) | (refine ext_below ?_ (by assumption)))))
      have HV3 : Hid (Below w.heap.size w w3) := Lib.hid (HV1.out.trans (hv3.mono HV1.out.size))
      have HDD : Hid ((fun k => if k = nn then none else D k) = D) := Lib.hid (by
        funext k
        by_cases e : k = nn
        · rw [if_pos e, e, hD]
        · rw [if_neg e])
      clear hb3 hv3 zt ct ft G0 hg0 hb2 B2 B3 BG HG1 HP2 HP3 HV1
      go_wp2
      rw [HQ.out]
      refine ⟨_, results_none rfl _ _ _, rfl, ⟨q, ⟨?_, by rw [HDD.out]; exact HH.out.lists⟩, by simp [hD]⟩, Mod.of_below HV3.out⟩
      rw [HDD.out]
      exact (HH.out.raw.below HV3.out).more (by omega)
  | some e =>
    refine region_late [8] 10 ?l1s ?hl1s (by kernel_rfl) (by kernel_rfl) ?_
    case hl1s => simp [lateE]; rfl
    refine any_grow (A := ?A1s) 9 [4] (fun _ => #[.int .i64 0, .int .i64 0, .int .i64 0, .int .i64 0, .int .i64 0, .int .i64 0]) (by kernel_rfl) ?hrun1s ?hq1s ?htail1s
    case hq1s =>
      intro w0 hb0
      simp only [List.take_succ_cons, List.take_zero]
      have C2 := B2.below hb0
      have C3 := B3.below hb0
      have CG := BG.below hb0
      obtain ⟨z2, c2, f2⟩ := id C2
      obtain ⟨z3, c3, f3⟩ := id C3
      obtain ⟨zg, cg, fg⟩ := id CG
      have hmc := more_cell
      repeat (go_big_quiet_step (fail))
      go_big_quiet_want
      refine qlook2 (.tmp 12) (.tmp 13) rfl (int_keyed Try.underlying3) Try.underlying117 zero_box rfl (by rintro _ ⟨mm, rfl⟩; exact (HFB.out.below hb0).below (more_below w0 mm)) (.int .i64 nn) (.int .i64 nn) rfl HK.out trivial ?_
      simp only [Act.put, List.setIfInBounds_toArray, List.set_cons_zero, List.set_cons_succ]
      rw [HFV.out, hD]
      simp only [Option.map_some, Option.getD_some, Option.isSome_some, Bx.v]
      go_big_quiet_on
      repeat (go_big_quiet_step (fail))
      refine wpQuiet_nil ?_
      rfl
    case hrun1s =>
      intro j hj
      match j, hj with
      | 0, _ => exact ⟨_, _, rfl, fun a w => by simp [go_sem]; rfl⟩
    case htail1s =>
      intro gs w2 hb2 hblk hne
      obtain ⟨G0, hg0⟩ := hblk 0 (by decide)
      simp only [List.drop_succ_cons, List.drop_zero, List.length_cons, List.length_nil, laySlots]
      clear hblk hne
      generalize gs 0 = t4 at *
      clear HFB HFV
      obtain ⟨zt, ct, ft⟩ := id G0
      go_wp2
      refine ⟨rfl, ?_⟩
      go_upto_region 3 with fail
      refine wp_fresh ?_
      rintro w3 hb3
      have hv3 : Below w1.heap.size w1 w3 := (by repeat (with_reducible (first | exact Below.refl _ _ | assumption | apply ext_drew | apply ext_drewN | apply ext_alloc | apply ext_more | (refine ext_setCell ?_ (by first | assumption | (simp <;> omega)) _) | (refine ext_below ?_ (by assumption)))))
      have HV3 : Hid (Below w.heap.size w w3) := Lib.hid (HV1.out.trans (hv3.mono HV1.out.size))
      have HG3 := Lib.hid (HG1.out.below hv3)
      have HP23 := Lib.hid (HP2.out.below hv3)
      have HP33 := Lib.hid (HP3.out.below hv3)
      clear hb3 hv3 zt ct ft G0 hg0 hb2 B2 B3 BG HG1 HP2 HP3 HV1
      obtain ⟨Fl, hFl, hFlv⟩ := HG3.out.low
      obtain ⟨Fh, hFh, hFhv⟩ := HG3.out.high
      have HFL := Lib.hid hFl
      have HFH := Lib.hid hFh
      have HFLV : Hid (Fl (.int .i64 nn) = some (cv e.bx.lo)) := Lib.hid ((hFlv nn).trans (by simp only [hD]; rfl))
      have HFHV : Hid (Fh (.int .i64 nn) = some (cv e.bx.hi)) := Lib.hid ((hFhv nn).trans (by simp only [hD]; rfl))
      clear hFl hFlv hFh hFhv
      obtain ⟨z2, c2, f2⟩ := id HP23.out
      obtain ⟨z3, c3, f3⟩ := id HP33.out
      obtain ⟨zg, cg, fg⟩ := id HG3.out.blk
      have hmc := more_cell
      refine region_quiet_but 12 (by kernel_rfl) (by kernel_rfl) ?_
      simp only [List.take_succ_cons, List.take_zero, List.drop_succ_cons, List.drop_zero]
      repeat (go_big_quiet_step (fail))
      go_big_quiet_want
      refine qlook1 (.tmp 22) (.tmp 23) rfl (int_keyed Try.underlying3) Try.underlying116 zero_cell rfl (by rintro _ ⟨mm, rfl⟩; exact HFL.out.below (more_below w3 mm)) (.int .i64 nn) (.int .i64 nn) rfl HK.out trivial ?_
      simp only [Act.put, List.setIfInBounds_toArray, List.set_cons_zero, List.set_cons_succ]
      rw [HFLV.out]
      simp only [Option.getD_some, cv]
      go_big_quiet_on
      repeat (go_big_quiet_step (fail))
      go_big_quiet_want
      refine qlook1 (.tmp 28) (.tmp 29) rfl (int_keyed Try.underlying3) Try.underlying116 zero_cell rfl (by rintro _ ⟨mm, rfl⟩; exact HFH.out.below (more_below w3 mm)) (.int .i64 nn) (.int .i64 nn) rfl HK.out trivial ?_
      simp only [Act.put, List.setIfInBounds_toArray, List.set_cons_zero, List.set_cons_succ]
      rw [HFHV.out]
      simp only [Option.getD_some, cv]
      go_big_quiet_on
      repeat (go_big_quiet_step (fail))
      refine wpQuiet_nil ?_
      rintro w4 hw4
      have hb4 := after_below hw4
      have HV4 : Hid (Below w.heap.size w w4) := Lib.hid (HV3.out.trans (hb4.mono HV3.out.size))
      have HG4 := Lib.hid (HG3.out.below hb4)
      have HP24 := Lib.hid (HP23.out.below hb4)
      have HP34 := Lib.hid (HP33.out.below hb4)
      clear hw4 hb4 hmc z2 c2 f2 z3 c3 f3 zg cg fg HFL HFH HFLV HFHV HG3 HP23 HP33 HV3
      go_wp2_with fail
      refine (ieach_c _ _ _ _ _ _ _).mono ?_
      rintro e1 w5 ⟨rfl, hA5, hB5, hb5⟩
      have HV5 : Hid (Below w.heap.size w w5) := Lib.hid (HV4.out.trans (hb5.mono HV4.out.size))
      have HG5 := Lib.hid (HG4.out.below hb5)
      have HP25 := Lib.hid (HP24.out.below hb5)
      have HP35 := Lib.hid (HP34.out.below hb5)
      have hA4 := hA5.lt
      have hs4 := HV4.out.size
      have HA5 := Lib.hid hA5
      have HB5 := Lib.hid hB5
      obtain ⟨A, hA⟩ : ∃ A, A = w4.heap.size := ⟨_, rfl⟩
      have HPQ : Hid (w.heap.size + 1 < A) := Lib.hid (by rw [hA]; exact HP34.out.lt)
      rw [← hA] at HA5 HB5
      rw [← hA]
      clear hA hb5 HG4 HP24 HP34 HV4 hA5 hB5 hA4 hs4
      go_wp2_with fail
      have hlo := lo_ok e.bx
      have hhi := hi_ok e.bx
      refine wp_frame_named ?_
      rintro fr hfr
      refine (wpIn_wide (n := 9)).1 (wpIn_rangeFunc_ownH (F := Fence.wide) rfl (by omega) (gf := 93) (lb := #[.pointer (some ⟨A, 0, none⟩), .pointer (some ⟨A + 1, 0, none⟩)]) (by rw [hfr]; rfl) trivial (enters_of Try.func93 (by kernel_rfl) rfl) (each_stops 8 (by omega) A (A + 1) _ _ _ _ _ _ hlo hhi w5 HA5.out HB5.out) (fun {_ _ _} h k => KpAB.trans h k) ?hKb (Below.refl _ _) (fun _ => rfl)
        (fun pre W => RemI w5 g m D S X q nn w.heap.size (w.heap.size + 1) A (pre.map (·.1)) W) (fun _ _ _ => False) ?hI (fun _ _ _ _ _ h _ _ => h) ?h0
        (fun x a' W => ∃ Bx, A + 1 < Bx ∧ Blk W Bx #[.int .i64 x.1.1, .int .i64 x.1.2.1, .int .i64 x.1.2.2] ∧ a' = { tmps := (fr.setIfInBounds 32 (cv x.1)).setIfInBounds 6 (.pointer (some ⟨Bx, 0, none⟩)), defers := [] }) ?hAx ?assign ?body ?done (fun _ _ _ _ _ _ h _ => h.elim))
      case hKb =>
        intro W l o o' hl _ _ _
        exact ⟨by simp, fun k hk => World.putObj_heap_other (fun e => by have := HA5.out.lt; have := HB5.out.lt; omega)⟩
      case hI => exact fun pre W W' row hs hg hr => RemI.mod hs (mod_grownBy hg) (fun x e => (hr x e).1)
      case hAx =>
        intro x a' _ W W' row hs hg hr
        obtain ⟨Bx, h1, h2, h3⟩ := hs
        exact ⟨Bx, h1, h2.mod (mod_grownBy hg) (fun e => by obtain ⟨_, o, ho, hc⟩ := hr Bx e; rw [blk_cells h2 (by simp) ho] at hc; cases hc), h3⟩
      case h0 =>
        refine ⟨⟨q, HG5.out.grow HV5.out.size (fun x e => (HH.out.raw.sl x e).1), fun c _ => by simp, rfl, rfl, rfl, rfl, rfl, rfl⟩, HP25.out, HP35.out, ⟨by omega, HPQ.out, HB5.out.lt, fun x e => Nat.lt_of_lt_of_le (HH.out.raw.sl x e).1 HV5.out.size⟩, Mod.refl _ _⟩
      case assign =>
        intro l pre x W K hI hK
        simp only [zip_one, fold_one]
        show Code.wpIn _ _ _ _ _ { tmps := fr.setIfInBounds 32 (cv x.1), defers := [] } W
        obtain ⟨fr', hfr'⟩ : ∃ fr', fr' = fr.setIfInBounds 32 (cv x.1) := ⟨_, rfl⟩
        rw [← hfr']
        rw [hfr] at hfr'
        simp only [List.setIfInBounds_toArray, List.set_cons_succ, List.set_cons_zero, cv] at hfr'
        rw [hfr']
        refine region_inRound (by kernel_rfl) (fun ⟨_, _, h⟩ => h) ?_
        go_wp2
        refine hK _ _ ((KeepsOthers.alloc _ _).from _) ⟨by simp, fun k hk => ?_⟩ (hI.mod ((Mod.refl (fun _ => False) W).alloc _) (fun _ e => e.elim)) ⟨W.heap.size, ?_, by apply Blk.at; simp, ?_⟩
        · have := hI.2.2.2.2.size
          have := HB5.out.lt
          exact heap_alloc_old W _ k (by omega)
        · have := hI.2.2.2.2.size
          have := HB5.out.lt
          omega
        · rw [hfr]
          simp only [List.setIfInBounds_toArray, List.set_cons_succ, List.set_cons_zero, cv]
      case done =>
        rintro D1 xs W hD1 hxs hI hK1
        obtain ⟨⟨q', hG6, hL6, r1, r2, r3, r4, r5, r6⟩, hP26, hP36, ⟨a1, a2, a3, a4⟩, hM6⟩ := hI
        have HR6 : Hid (q'.mc = q.mc ∧ q'.ml = q.ml ∧ q'.mh = q.mh ∧ q'.mb = q.mb ∧ q'.mt = q.mt ∧ q'.n = q.n) := Lib.hid ⟨r1, r2, r3, r4, r5, r6⟩
        clear r1 r2 r3 r4 r5 r6
        have HG6 := Lib.hid hG6
        have HL6 := Lib.hid hL6
        have HP26 := Lib.hid hP26
        have HP36 := Lib.hid hP36
        have HM6 := Lib.hid hM6
        have HK1 := Lib.hid hK1
        have HXS := Lib.hid hxs
        clear hG6 hL6 hP26 hP36 hM6 hK1 hxs
        simp only [hfr]
        obtain ⟨z2, c2, f2⟩ := id HP26.out
        obtain ⟨z3, c3, f3⟩ := id HP36.out
        obtain ⟨zg, cg, fg⟩ := id HG6.out.blk
        go_upto_region 9 with fail
        have hmc := more_cell
        refine region_quiet_but 5 (by kernel_rfl) (by kernel_rfl) ?_
        simp only [List.take_succ_cons, List.take_zero, List.drop_succ_cons, List.drop_zero]
        repeat (go_big_quiet_step (fail))
        refine wpQuiet_nil ?_
        rintro w7 hw7
        have hb7 := after_below hw7
        clear hw7 hmc
        have HG7 := Lib.hid (HG6.out.below hb7)
        have HP27 := Lib.hid (HP26.out.below hb7)
        have HP37 := Lib.hid (HP36.out.below hb7)
        have HB7 := Lib.hid hb7
        clear hb7 z2 c2 f2 z3 c3 f3 zg cg fg
        obtain ⟨n1, n2, n3, n4, n5, n6, n7, n8, n9, n10⟩ := HG7.out.ne
        obtain ⟨g1, g2, g3, g4, g5⟩ := HG7.out.gne
        refine at_deleteI rfl (.tmp 58) (.tmp 59) rfl Try.underlying116 rfl HG7.out.low rfl HK.out (by simp only [hD]; rfl) ?_
        rintro w8 h8 k8
        simp only [Act.put]
        have HSQ : Hid (S q'.ml ∧ S q'.mh ∧ S q'.mb ∧ S q'.mt) := Lib.hid ⟨HG7.out.sg.2.2.1, HG7.out.sg.2.2.2.1, HG7.out.sg.2.2.2.2.1, HG7.out.sg.2.2.2.2.2⟩
        have HBG7 := Lib.hid HG7.out.blk
        have hm8 : ∀ x, x = q'.ml → x < w.heap.size := fun x e => (HH.out.raw.sl _ (e ▸ HSQ.out.1)).1
        have hp28 := HP27.out.mod k8 (fun e => by have := hm8 _ e; omega)
        have hp38 := HP37.out.mod k8 (fun e => by have := hm8 _ e; omega)
        have hbg8 := HBG7.out.mod k8 (by omega)
        obtain ⟨z2, c2, f2⟩ := id hp28
        obtain ⟨z3, c3, f3⟩ := id hp38
        obtain ⟨zg, cg, fg⟩ := id hbg8
        have HP28 := Lib.hid hp28
        have HP38 := Lib.hid hp38
        have HBG8 := Lib.hid hbg8
        have HKK8 := Lib.hid k8
        have HV8 := Lib.hid h8
        clear hp28 hp38 hbg8 k8 h8 hm8
        go_upto_region 10 with fail
        have hmc := more_cell
        refine region_quiet_but 5 (by kernel_rfl) (by kernel_rfl) ?_
        simp only [List.take_succ_cons, List.take_zero, List.drop_succ_cons, List.drop_zero]
        repeat (go_big_quiet_step (fail))
        refine wpQuiet_nil ?_
        rintro w9 hw9
        have hb9 := after_below hw9
        have HP29 := Lib.hid (HP28.out.below hb9)
        have HP39 := Lib.hid (HP38.out.below hb9)
        have HBG9 := Lib.hid (HBG8.out.below hb9)
        have HKK9 := Lib.hid (HKK8.out.below hb9)
        have HV9 := Lib.hid (HV8.out.mod (S := fun _ => False) (Mod.of_below hb9) id)
        clear hw9 hb9 hmc z2 c2 f2 z3 c3 f3 zg cg fg HP28 HP38 HBG8 HKK8 HV8
        refine at_deleteI rfl (.tmp 63) (.tmp 64) rfl Try.underlying116 rfl (HG7.out.high.mod HKK9.out (by omega)) rfl HK.out (by simp only [hD]; rfl) ?_
        rintro w10 h10 k10
        simp only [Act.put]
        have hm10 : ∀ x, x = q'.mh → x < w.heap.size := fun x e => (HH.out.raw.sl _ (e ▸ HSQ.out.2.1)).1
        have hp210 := HP29.out.mod k10 (fun e => by have := hm10 _ e; omega)
        have hp310 := HP39.out.mod k10 (fun e => by have := hm10 _ e; omega)
        have hbg10 := HBG9.out.mod k10 (by omega)
        obtain ⟨z2, c2, f2⟩ := id hp210
        obtain ⟨z3, c3, f3⟩ := id hp310
        obtain ⟨zg, cg, fg⟩ := id hbg10
        have HP210 := Lib.hid hp210
        have HP310 := Lib.hid hp310
        have HBG10 := Lib.hid hbg10
        have HKK10 := Lib.hid k10
        have HV10 := Lib.hid h10
        clear hp210 hp310 hbg10 k10 h10 hm10
        go_upto_region 11 with fail
        have hmc := more_cell
        refine region_quiet_but 5 (by kernel_rfl) (by kernel_rfl) ?_
        simp only [List.take_succ_cons, List.take_zero, List.drop_succ_cons, List.drop_zero]
        repeat (go_big_quiet_step (fail))
        refine wpQuiet_nil ?_
        rintro w11 hw11
        have hb11 := after_below hw11
        have HP211 := Lib.hid (HP210.out.below hb11)
        have HP311 := Lib.hid (HP310.out.below hb11)
        have HBG11 := Lib.hid (HBG10.out.below hb11)
        have HKK11 := Lib.hid (HKK10.out.below hb11)
        have HV11 := Lib.hid (HV10.out.mod (S := fun _ => False) (Mod.of_below hb11) id)
        clear hw11 hb11 hmc z2 c2 f2 z3 c3 f3 zg cg fg HP210 HP310 HBG10 HKK10 HV10
        refine at_deleteI rfl (.tmp 68) (.tmp 69) rfl Try.underlying117 rfl ((HG7.out.box.mod HKK9.out (by omega)).mod HKK11.out (by omega)) rfl HK.out (by simp only [hD]; rfl) ?_
        rintro w12 h12 k12
        simp only [Act.put]
        have hm12 : ∀ x, x = q'.mb → x < w.heap.size := fun x e => (HH.out.raw.sl _ (e ▸ HSQ.out.2.2.1)).1
        have hp212 := HP211.out.mod k12 (fun e => by have := hm12 _ e; omega)
        have hp312 := HP311.out.mod k12 (fun e => by have := hm12 _ e; omega)
        have hbg12 := HBG11.out.mod k12 (by omega)
        obtain ⟨z2, c2, f2⟩ := id hp212
        obtain ⟨z3, c3, f3⟩ := id hp312
        obtain ⟨zg, cg, fg⟩ := id hbg12
        have HP212 := Lib.hid hp212
        have HP312 := Lib.hid hp312
        have HBG12 := Lib.hid hbg12
        have HKK12 := Lib.hid k12
        have HV12 := Lib.hid h12
        clear hp212 hp312 hbg12 k12 h12 hm12
        go_upto_region 12 with fail
        have hmc := more_cell
        refine region_quiet_but 5 (by kernel_rfl) (by kernel_rfl) ?_
        simp only [List.take_succ_cons, List.take_zero, List.drop_succ_cons, List.drop_zero]
        repeat (go_big_quiet_step (fail))
        refine wpQuiet_nil ?_
        rintro w13 hw13
        have hb13 := after_below hw13
        have HP213 := Lib.hid (HP212.out.below hb13)
        have HP313 := Lib.hid (HP312.out.below hb13)
        have HBG13 := Lib.hid (HBG12.out.below hb13)
        have HKK13 := Lib.hid (HKK12.out.below hb13)
        have HV13 := Lib.hid (HV12.out.mod (S := fun _ => False) (Mod.of_below hb13) id)
        clear hw13 hb13 hmc z2 c2 f2 z3 c3 f3 zg cg fg HP212 HP312 HBG12 HKK12 HV12
        refine at_deleteI rfl (.tmp 73) (.tmp 74) rfl Try.underlying118 rfl (((HG7.out.team.mod HKK9.out (by omega)).mod HKK11.out (by omega)).mod HKK13.out (by omega)) rfl HK.out (by simp only [hD]; rfl) ?_
        rintro w14 h14 k14
        simp only [Act.put]
        go_wp2
        rw [HQ.out]
        have hmod : Mod (fun x => x = q'.ml ∨ x = q'.mh ∨ x = q'.mb ∨ x = q'.mt) W w14 := (((((Mod.of_below HB7.out).trans (HKK9.out.mono fun _ _ e => .inl e)).trans (HKK11.out.mono fun _ _ e => .inr (.inl e))).trans (HKK13.out.mono fun _ _ e => .inr (.inr (.inl e)))).trans (k14.mono fun _ _ e => .inr (.inr (.inr e))))
        have hml : ∀ x, (x = q'.ml ∨ x = q'.mh ∨ x = q'.mb ∨ x = q'.mt) → S x := fun x e => by
          rcases e with e | e | e | e
          · exact e ▸ HSQ.out.1
          · exact e ▸ HSQ.out.2.1
          · exact e ▸ HSQ.out.2.2.1
          · exact e ▸ HSQ.out.2.2.2
        refine ⟨by simp, .inl ⟨_, _, rfl, run_takeDeferred ?hdef, ?_⟩⟩
        case hdef =>
          have hlt : D1 < W.heap.size := by
            have := HK1.out
            rw [Array.getElem?_eq_some_iff] at this
            exact this.1
          rw [hmod.block D1 hlt (fun e => by have := a4 _ (hml _ e); omega)]
          exact HK1.out
        refine ⟨_, results_none rfl _ _ _, rfl, ⟨{ q' with n := q'.n - 1 }, ⟨?_, ?_⟩, by have := HR6.out.2.2.2.2.2; simp [hD, this]⟩, ?_⟩
        · exact (((HG7.out.lessX (fun x e => .inl e)).del4 HKK9.out (HV9.out) HKK11.out HV11.out HKK13.out HV13.out k14 h14).modT (mod_putObj w14 D1 _) (fun x e e' => by have := a4 x e'; omega)).more (by
            rw [HXS.out]
            have := cells_len e.bx
            show m + 2 * e.bx.cells.length ≤ m + 5000000
            omega)
        · refine lists_del HH.out.lists hD fun c hc => ?_
          have := HL6.out c hc
          rw [HXS.out] at this
          exact this
        · have := HV5.out.size
          exact (((Mod.of_below HV5.out).trans HM6.out).trans (hmod.mono fun x _ e => hml x e)).trans2 (mod_putObj w14 D1 _) (fun b hb e => by omega)
      case body =>
        rintro l pre x a' W hl _ hI ⟨Bx, hBx, hbx, rfl⟩ hpl
        obtain ⟨⟨q', hG6, hL6, r1, r2, r3, r4, r5, r6⟩, hP26, hP36, ⟨a1, a2, a3, a4⟩, hM6⟩ := hI
        have HR6 : Hid (q'.mc = q.mc ∧ q'.ml = q.ml ∧ q'.mh = q.mh ∧ q'.mb = q.mb ∧ q'.mt = q.mt ∧ q'.n = q.n) := Lib.hid ⟨r1, r2, r3, r4, r5, r6⟩
        clear r1 r2 r3 r4 r5 r6
        have HBX := Lib.hid hbx
        have HG6 := Lib.hid hG6
        have HL6 := Lib.hid hL6
        have HP26 := Lib.hid hP26
        have HP36 := Lib.hid hP36
        have HM6 := Lib.hid hM6
        clear hG6 hL6 hP26 hP36 hM6 hbx
        have hxc : clOk x.1 := cells_ok (b := e.bx) x.2
        simp only [hfr, List.setIfInBounds_toArray, List.set_cons_succ, List.set_cons_zero, cv]
        obtain ⟨z2, c2, f2⟩ := id HP26.out
        obtain ⟨z3, c3, f3⟩ := id HP36.out
        obtain ⟨z6, c6, f6⟩ := id HBX.out
        obtain ⟨zg, cg, fg⟩ := id HG6.out.blk
        gi_wp2
        have hmc := more_cell
        refine region_inRound_any (by kernel_rfl) (by kernel_rfl) (fun ⟨_, _, h⟩ => h) ?_
        refine any_quiet_butI 7 (by kernel_rfl) ?_
        simp only [List.take_succ_cons, List.take_zero, List.drop_succ_cons, List.drop_zero]
        repeat (go_big_quiet_step (fail))
        go_big_quiet_want
        refine qlook1 (.tmp 36) (.tmp 37) rfl cell_keyed Try.underlying115 zero_ints rfl (by rintro _ ⟨mm, rfl⟩; exact HG6.out.cells.below (more_below W mm)) (cv x.1) (ck x.1) rfl (key_cell hxc) trivial ?_
        simp only [Act.put, List.setIfInBounds_toArray, List.set_cons_zero, List.set_cons_succ]
        go_big_quiet_on
        repeat (go_big_quiet_step (fail))
        refine wpQuiet_nil ?_
        rintro w7 hw7
        have hb7 := after_below hw7
        clear hw7 hmc
        have hlen : (q'.L x.1).length ≤ 1000 := by
          rw [HL6.out _ hxc]
          split
          · exact Nat.le_trans (List.length_filter_le _ _) (HH.out.lists.len _ hxc)
          · exact HH.out.lists.len _ hxc
        obtain ⟨v, hv⟩ : ∃ v, v = (q'.Fc (ck x.1)).getD (.slice none 0 0) := ⟨_, rfl⟩
        have hvr : W.ownsRow 0 3 1 v (q'.L x.1).length (ints (q'.L x.1)) := by
          rcases HG6.out.rows.row _ hxc with ⟨e1, e2⟩ | ⟨v', e1, e2⟩
          · rw [hv, e1, e2]
            exact ⟨by simp [ints], .inl ⟨rfl, rfl⟩⟩
          · rw [hv, e1]
            exact e2
        have hvS : ∀ b, v.ownBlock = some b → S b := by
          intro b hb
          rw [hv] at hb
          cases hF : q'.Fc (ck x.1) with
          | none => rw [hF] at hb; cases hb
          | some v' => rw [hF] at hb; exact HG6.out.srow _ _ _ hxc hF hb
        rw [← hv]
        have HVV := Lib.hid hv
        clear hv
        have HG7 := Lib.hid (HG6.out.below hb7)
        have HP27 := Lib.hid (HP26.out.below hb7)
        have HP37 := Lib.hid (HP36.out.below hb7)
        have HBX7 := Lib.hid (HBX.out.below hb7)
        have HVR := Lib.hid (row_mod hvr (Mod.of_below (S := fun _ => False) hb7) (fun _ _ => id))
        have HB7 := Lib.hid hb7
        clear hb7 hvr z2 c2 f2 z3 c3 f3 z6 c6 f6 zg cg fg HP26 HP36 HBX
        go_wp2_with fail
        refine (deleteNum_c 0 _ v _ nn (w.heap.size + 1) w7 (by omega) HVR.out (by have := HP37.out.cell 0; simpa using this) HP37.out.lt (fun e => by have := (HH.out.raw.sl _ (hvS _ e)).1; omega)).mono ?_
        rintro e8 w8 ⟨v', rfl, hr8, hb8, hm8⟩
        go_wp2_with fail
        have HNE := Lib.hid HG7.out.ne
        have hvn : ∀ b, v.ownBlock = some b → b ≠ g ∧ b ≠ q'.mc ∧ b ≠ q'.ml ∧ b ≠ q'.mh ∧ b ≠ q'.mb ∧ b ≠ q'.mt := by
          intro b hb
          rw [HVV.out] at hb
          cases hF : q'.Fc (ck x.1) with
          | none => rw [hF] at hb; cases hb
          | some v' => rw [hF] at hb; exact HG7.out.rne _ _ _ hxc hF hb
        have hvlt : ∀ b, v.ownBlock = some b → b < w.heap.size := fun b hb => (HH.out.raw.sl _ (hvS b hb)).1
        have hcells := HG7.out.cells.mod hm8 (fun e => (hvn _ e).2.1 rfl)
        have hp2 := HP27.out.mod hm8 (fun e => by have := hvlt _ e; omega)
        have hp3 := HP37.out.mod hm8 (fun e => by have := hvlt _ e; omega)
        have hpx := HBX7.out.mod hm8 (fun e => by have := hvlt _ e; have := HB5.out.lt; have := HV5.out.size; omega)
        have hpg := HG7.out.blk.mod hm8 (fun e => (hvn _ e).1 rfl)
        obtain ⟨z2, c2, f2⟩ := id hp2
        obtain ⟨z6, c6, f6⟩ := id hpx
        obtain ⟨zg, cg, fg⟩ := id hpg
        have HP28 := Lib.hid hp2
        have HP38 := Lib.hid hp3
        have HBX8 := Lib.hid hpx
        have HBG8 := Lib.hid hpg
        have HC8 := Lib.hid hcells
        have HR8 := Lib.hid hr8
        have HBE8 := Lib.hid hb8
        have HM8 := Lib.hid hm8
        clear hcells hp2 hp3 hpx hpg hr8 hb8 hm8
        gi_wp2
        have hmc := more_cell
        refine region_inRound_any (by kernel_rfl) (by kernel_rfl) (fun ⟨_, _, h⟩ => h) ?_
        refine any_quiet_butI 6 (by kernel_rfl) ?_
        simp only [List.take_succ_cons, List.take_zero, List.drop_succ_cons, List.drop_zero]
        repeat (go_big_quiet_step (fail))
        refine wpQuiet_nil ?_
        rintro w9 hw9
        have hb9 := after_below hw9
        clear hw9 hmc z2 c2 f2 z6 c6 f6 zg cg fg
        refine at_update rfl (.tmp 44) (.tmp 45) (.tmp 46) rfl cell_keyed Try.underlying115 rfl (HC8.out.below hb9) ?_ (cv x.1) v' (ck x.1) rfl rfl (key_cell hxc) trivial ?_
        · have h1 := cells_len e.bx
          have h2 : pre.length < e.bx.cells.length := hpl
          rw [List.length_map]
          unfold maxLen
          omega
        rintro w10 h10 k10
        simp only [Act.put]
        gi_wp2
        have hvf : ∃ A c, v' = .slice A (del (q'.L x.1) nn).length c := by
          rcases HR8.out.2 with ⟨e1, h0⟩ | ⟨g', cap, cur, e1, _⟩
          · exact ⟨none, 0, by rw [e1, h0]⟩
          · exact ⟨_, cap, e1⟩
        obtain ⟨A', c', rfl⟩ := hvf
        go_wp2
        refine wpIn_seq_k fun K7 hK7 => ?_
        refine region_inRound (by kernel_rfl) ?hq7 ?_
        case hq7 => exact fun ⟨_, _, h⟩ => h
        go_wp2
        by_cases hz : (del (q'.L x.1) nn).length = 0
        · simp only [hz]
          gi_wp2
          have HP210 := Lib.hid ((HP28.out.below hb9).mod k10 (fun e => by have := (HH.out.raw.sl _ (e ▸ HG7.out.sg.2.1)).1; omega))
          have HBX10 := Lib.hid ((HBX8.out.below hb9).mod k10 (fun e => by have := (HH.out.raw.sl _ (e ▸ HG7.out.sg.2.1)).1; omega))
          have HBG10 := Lib.hid ((HBG8.out.below hb9).mod k10 (fun e => HG7.out.gne.1 e))
          obtain ⟨z2, c2, f2⟩ := id HP210.out
          obtain ⟨z6, c6, f6⟩ := id HBX10.out
          obtain ⟨zg, cg, fg⟩ := id HBG10.out
          have hmc := more_cell
          refine region_inRound_any (by kernel_rfl) (by kernel_rfl) (fun ⟨_, _, h⟩ => h) ?_
          refine any_quiet_butI 5 (by kernel_rfl) ?_
          simp only [List.take_succ_cons, List.take_zero, List.drop_succ_cons, List.drop_zero]
          repeat (go_big_quiet_step (fail))
          refine wpQuiet_nil ?_
          rintro w11 hw11
          have hb11 := after_below hw11
          clear hw11 hmc z2 c2 f2 z6 c6 f6 zg cg fg
          refine at_delete1 rfl (.tmp 53) (.tmp 54) rfl cell_keyed Try.underlying115 rfl (h10.below hb11) (cv x.1) (ck x.1) rfl (key_cell hxc) trivial ?_
          rintro w12 h12 k12
          simp only [Act.put]
          go_wp2
          have hks : Mod S W w12 := (((((Mod.of_below HB7.out).trans (HM8.out.mono fun b _ e => hvS b e)).trans (Mod.of_below hb9)).trans (k10.mono fun b _ e => e ▸ HG7.out.sg.2.1)).trans (Mod.of_below hb11)).trans (k12.mono fun b _ e => e ▸ HG7.out.sg.2.1)
          refine ⟨?kf, ?kp, ⟨_, (HG7.out.dropRow hxc (((((HM8.out.mono fun b _ e => .inr (HBE8.out.trans e)).trans (Mod.of_below hb9)).trans (k10.mono fun b _ e => .inl e)).trans (Mod.of_below hb11)).trans (k12.mono fun b _ e => .inl e)) h12 (Nat.le_succ _) ?row ?own).more (by simp only [List.length_map, List.length_append, List.length_singleton]; omega), ?lst, HR6.out⟩, ?p2, ?p3, ⟨a1, a2, a3, a4⟩, HM6.out.trans hks⟩
          case row =>
            intro c' hc'
            unfold delF putF
            by_cases e1 : c' = x.1
            · rw [if_pos (by rw [e1]), if_pos e1]
            · rw [if_neg (fun e2 => e1 (ck_inj hc' hxc e2)), if_neg (fun e2 => e1 (ck_inj hc' hxc e2)), if_neg e1]
          case lst =>
            intro c hc
            simp only [List.map_append, List.map_cons, List.map_nil, List.mem_append, List.mem_singleton]
            by_cases e1 : c = x.1
            · simp only [e1, if_true, or_true]
              have hz' := List.length_eq_zero_iff.1 hz
              rw [HL6.out _ hxc] at hz'
              rw [← hz']
              split <;> simp [del]
            · simp only [e1, if_false, or_false]
              exact HL6.out _ hc
          case p2 => exact (HP210.out.below hb11).mod k12 (fun e => by have := (HH.out.raw.sl _ (e ▸ HG7.out.sg.2.1)).1; omega)
          case p3 => exact (((HP38.out.below hb9).mod k10 (fun e => by have := (HH.out.raw.sl _ (e ▸ HG7.out.sg.2.1)).1; omega)).below hb11).mod k12 (fun e => by have := (HH.out.raw.sl _ (e ▸ HG7.out.sg.2.1)).1; omega)
          case own =>
            intro b hb
            have hb' : v.ownBlock = some b := HBE8.out.symm.trans hb
            rw [HVV.out] at hb'
            cases hF : q'.Fc (ck x.1) with
            | none => rw [hF] at hb'; cases hb'
            | some u => rw [hF] at hb'; exact ⟨u, rfl, hb'⟩
          case kp =>
            refine ⟨hks.size, fun k hk => hks.block k ?_ (fun e => ?_)⟩
            · have := HM6.out.size
              omega
            · have := (HH.out.raw.sl _ e).1
              omega
          case kf => exact keepsFrom_mod hks a4
        · have hz2 : (((del (q'.L x.1) nn).length : Int) == 0) = false := by simpa using hz
          simp only [hz2]
          gi_wp2
          have hks : Mod S W w10 := (((Mod.of_below HB7.out).trans (HM8.out.mono fun b _ e => hvS b e)).trans (Mod.of_below hb9)).trans (k10.mono fun b _ e => e ▸ HG7.out.sg.2.1)
          refine ⟨?kf, ?kp, ⟨_, (HG7.out.setRow (zs := del (q'.L x.1) nn) hxc (((HM8.out.mono fun b _ e => .inr (HBE8.out.trans e)).trans (Mod.of_below hb9)).trans (k10.mono fun b _ e => .inl e)) h10 (Nat.le_succ _) ?row ?own).more (by simp only [List.length_map, List.length_append, List.length_singleton]; omega), ?lst, HR6.out⟩, ?p2, ?p3, ⟨a1, a2, a3, a4⟩, HM6.out.trans hks⟩
          case row => exact row_mod (row_mod HR8.out (Mod.of_below (S := fun _ => False) hb9) (fun _ _ => id)) k10 (fun b hb e => (hvn b (HBE8.out ▸ hb)).2.1 e)
          case lst =>
            intro c hc
            simp only [List.map_append, List.map_cons, List.map_nil, List.mem_append, List.mem_singleton]
            by_cases e1 : c = x.1
            · simp only [e1, if_true, or_true]
              rw [HL6.out _ hxc]
              split <;> simp [del]
            · simp only [e1, if_false, or_false]
              exact HL6.out _ hc
          case p2 => exact (HP28.out.below hb9).mod k10 (fun e => by have := (HH.out.raw.sl _ (e ▸ HG7.out.sg.2.1)).1; omega)
          case p3 => exact (HP38.out.below hb9).mod k10 (fun e => by have := (HH.out.raw.sl _ (e ▸ HG7.out.sg.2.1)).1; omega)
          case own =>
            intro b hb
            have hb' : v.ownBlock = some b := HBE8.out.symm.trans hb
            rw [HVV.out] at hb'
            cases hF : q'.Fc (ck x.1) with
            | none => rw [hF] at hb'; cases hb'
            | some u => rw [hF] at hb'; exact ⟨u, rfl, hb'⟩
          case kp =>
            refine ⟨hks.size, fun k hk => hks.block k ?_ (fun e => ?_)⟩
            · have := HM6.out.size
              omega
            · have := (HH.out.raw.sl _ e).1
              omega
          case kf => exact keepsFrom_mod hks a4
end Go.Proofs.Ytefhmbmbhiehdaa
