/- Steps of regions that draw their order: m[k] taken and stored to, append of a number. A cell compared. Conditions: none. -/
import Derived.Test.YtefhmbmbhiehdaaKIputP
import Derived.Test.YtefhmbmbhiehdaaKHeldA
import Derived.Test.YtefhmbmbhiehdaaKApp
namespace Go.Proofs.Ytefhmbmbhiehdaa
open Go Go.Maps Go.WideShapes Go.RowKit Go.BigFrame Go.ChangeShapes
section
variable {P : Program} {K E T : TypeId} {w w' : World} {b m n : Nat} {F : Lit → Option Value}
/-- the store into a map whose entry is open -/
theorem step_entry {ops : Array Oper} {o : Oper} {a : Act} {KK : Act → World → Prop} {Q : Exit → Act → World → Prop} {EE : Prop} (hg : o.guard = none) (mm x : Operand) (hop : o.op = Op.mapEntry T mm x) (LK : Keyed P K) (ht : P.underlying T = some (.map K E)) {z : Value} (hz : ∀ u : World, (zeroValue E).run P u = .ok z u)
    (hm : a.eval mm = .map (some b)) (hown : MapV P K w b m F n) (hmx : m < maxLen) (key : Value) (kl : Lit) (hx : a.eval x = key) (hkey : keyOf P K key = some kl) (hkl : WideAt.IsKeyLit kl)
    (hK : ∀ (st : Nat) (w1 : World), Mod (· = b) w w1 → Opened P K T w1 b m n st F kl → KK (a.put o.dst (.tuple #[(F kl).getD z, goInt st])) w1) :
    if Region.wanted o (yielded ops a.tmps) = true then Oper.wp P o a w KK Q else EE := by
  have hw : Region.wanted o (yielded ops a.tmps) = true := by simp [Region.wanted, hg]
  rw [if_pos hw]
  obtain ⟨st, w1, hrun, h1, h2⟩ := entry_law LK ht hz hown hmx hkey hkl
  unfold Oper.wp
  simp [execOp, hop, hm, hx, hrun, Result.andThen]
  exact hK st w1 h1 h2
theorem step_store {ops : Array Oper} {o : Oper} {a : Act} {KK : Act → World → Prop} {Q : Exit → Act → World → Prop} {EE : Prop} {st : Nat} {kl : Lit} (hg : o.guard = none) (mm x v : Operand) (hop : o.op = Op.entryStore T mm x v)
    (hm : a.eval mm = .map (some b)) (hx : a.eval x = goInt st) (hO : Opened P K T w b m n st F kl)
    (hK : ∀ w2 : World, MapV P K w2 b (m + 1) (putF F kl (a.eval v)) (if (F kl).isSome then n else n + 1) → Mod (· = b) w w2 → KK (a.put o.dst undef) w2) :
    if Region.wanted o (yielded ops a.tmps) = true then Oper.wp P o a w KK Q else EE := by
  have hw : Region.wanted o (yielded ops a.tmps) = true := by simp [Region.wanted, hg]
  rw [if_pos hw]
  obtain ⟨w2, hrun, h1, h2⟩ := hO.2 w rfl (a.eval v)
  unfold Oper.wp
  simp [execOp, hop, hm, hx, hrun, Result.andThen]
  exact hK w2 h1 h2
end
theorem intInfo : (Try.prog.info? 3).map (fun i => (i.zero, i.size, i.bytes)) = some (some (.int .i64 0), 1, 8) := by kernel_rfl
/-- append(s, x) of one number -/
theorem step_num {ops : Array Oper} {o : Oper} {a : Act} {w : World} {K : Act → World → Prop} {Q : Exit → Act → World → Prop} {E : Prop} (hg : o.guard = none) (s x : Operand) (ho : o.op = .call { callee := .builtin .append, args := #[s, x], argTypes := #[71, 71] })
    (v : Value) (zs : List Int) (hs : a.eval s = v) (hown : w.ownsRow 0 3 1 v zs.length (ints zs)) {p : Nat} {nn : Int} (hx : a.eval x = .slice (some ⟨p, 0, none⟩) 1 1) (hc : Blk w p #[.int .i64 nn]) (hn : zs.length < 4000000)
    (hK : ∀ v' w', w'.ownsRow 0 3 1 v' (zs ++ [nn]).length (ints (zs ++ [nn])) → Mod (fun b => v.ownBlock = some b) w w' → (v'.ownBlock = v.ownBlock ∨ v'.ownBlock = some w.heap.size) → K (a.put o.dst v') w') :
    if Region.wanted o (yielded ops a.tmps) = true then Oper.wp Try.prog o a w K Q else E := by
  have hw : Region.wanted o (yielded ops a.tmps) = true := by simp [Region.wanted, hg]
  rw [if_pos hw]
  obtain ⟨i, hi, hz, hsize, hbytes⟩ := info_three intInfo
  obtain ⟨v', w', hr, h2, h3, h4, h5⟩ := run_append_own_at (P := Try.prog) w 0 71 o.type 3 i (.int .i64 0) 1 8 Try.underlying71 hi hz hsize hbytes rfl (by decide) v zs.length (ints zs) hown ⟨p, 0, none⟩ 1 1 [.int .i64 nn] rfl (fun j u hu => by
    cases j with
    | zero =>
      have e : (⟨p, 0, none⟩ : Addr).add 0 = ⟨p, 0, none⟩ := rfl
      rw [e, hc.cell 0]
      exact hu
    | succ j => simp at hu) (by intro u hu; rw [List.mem_singleton] at hu; subst hu; rfl) (by unfold maxLen; omega) (by omega) (Nat.zero_le _)
  unfold Oper.wp execOp
  simp only [ho, resolve, invoke, builtin, Sem.run_bind, Sem.run_pure, Result.andThen_ok, List.map_toArray, List.map_cons, List.map_nil, hs, hx, hr]
  exact hK v' w' (by rw [List.length_append, ints_app]; exact h2) ((mod_grown h3).mono fun _ _ h => h) h5
theorem blk_as {w : World} {b : Nat} {cs cs' : Array Value} (h : Blk w b cs) (e : cs = cs') : Blk w b cs' := e ▸ h
/-- cells compared -/
def eqC (c d : Cl) : Bool := c.1 == d.1 && c.2.1 == d.2.1 && c.2.2 == d.2.2
theorem eqC_iff (c d : Cl) : eqC c d = true ↔ c = d := by
  unfold eqC
  simp only [Bool.and_eq_true, beq_iff_eq]
  exact ⟨fun ⟨⟨h1, h2⟩, h3⟩ => by obtain ⟨a, b, c⟩ := c; obtain ⟨x, y, z⟩ := d; simp only at h1 h2 h3; rw [h1, h2, h3], fun h => by rw [h]; exact ⟨⟨rfl, rfl⟩, rfl⟩⟩
theorem run_equalIn_cell (d : Nat) (x1 x2 x3 y1 y2 y3 : Int) (w : World) : (Op.equalIn (d + 2) 124 (.agg #[.int .i64 x1, .int .i64 x2, .int .i64 x3]) (.agg #[.int .i64 y1, .int .i64 y2, .int .i64 y3])).run Try.prog w = .ok (eqC (x1, x2, x3) (y1, y2, y3)) w := by
  rw [run_equalIn_struct w (d + 1) _ _ _ (by kernel_rfl) (by kernel_rfl)]
  simp only [Program.fieldsOf, Try.underlying124]
  simp only [Op.eqFields]
  unfold eqC
  cases h1 : (x1 == y1) <;> cases h2 : (x2 == y2) <;> cases h3 : (x3 == y3) <;> simp [go_sem, Try.underlying3, h1, h2, h3]
theorem run_neq_cell (c d : Cl) (w : World) : (binOp .neq 124 (.agg #[.int .i64 c.1, .int .i64 c.2.1, .int .i64 c.2.2]) (.agg #[.int .i64 d.1, .int .i64 d.2.1, .int .i64 d.2.2])).run Try.prog w = .ok (.bool (!(eqC c d))) w := by
  rw [run_neq_struct, run_equalIn_cell 9998]
  rfl
/-- m[k] = x: what a map of ints as a function has behind it -/
theorem vi_put {w : World} {b m n n' : Nat} {D : Int → Option En} {Fm : En → Value} {F : Lit → Option Value} {nn : Int} {val : Value} {e0 : En} (hf : ∀ k : Int, F (.int .i64 k) = (D k).map Fm) (h : MapV Try.prog 3 w b m (putF F (.int .i64 nn) val) n') (hn : n' = if (F (.int .i64 nn)).isSome then n else n + 1) (hv : val = Fm e0) : VI w b m (if (D nn).isSome then n else n + 1) (fun k => if k = nn then some (Fm e0) else (D k).map Fm) := by
  rw [hf nn, Option.isSome_map] at hn
  subst hn hv
  refine ⟨_, h, fun k => ?_⟩
  unfold putF
  by_cases e : k = nn
  · simp [e]
  · rw [if_neg (fun e' => e (by injection e')), hf k]
    exact (if_neg e).symm
theorem map_with {D : Int → Option En} {nn : Int} {e0 : En} {β : Type} (F : En → β) : (fun k => if k = nn then some (F e0) else (D k).map F) = fun k => (if k = nn then some e0 else D k).map F := by
  funext k
  by_cases e : k = nn <;> simp [e]
/-- the four maps written -/
theorem GW.put4 {w w1 w2 w3 w4 : World} {g m : Nat} {D : Int → Option En} {S X : Nat → Prop} {q : GP} {nn : Int} {e0 : En} (h : GW w g m D S X q) (k1 : Mod (· = q.ml) w w1) (h1 : VI w1 q.ml (m + 1) (if (D nn).isSome then q.n else q.n + 1) fun k => if k = nn then some (cv e0.bx.lo) else (D k).map fun e => cv e.bx.lo)
    (k2 : Mod (· = q.mh) w1 w2) (h2 : VI w2 q.mh (m + 1) (if (D nn).isSome then q.n else q.n + 1) fun k => if k = nn then some (cv e0.bx.hi) else (D k).map fun e => cv e.bx.hi) (k3 : Mod (· = q.mb) w2 w3) (h3 : VI w3 q.mb (m + 1) (if (D nn).isSome then q.n else q.n + 1) fun k => if k = nn then some e0.bx.v else (D k).map fun e => e.bx.v)
    (k4 : Mod (· = q.mt) w3 w4) (h4 : VI w4 q.mt (m + 1) (if (D nn).isSome then q.n else q.n + 1) fun k => if k = nn then some (.int .i64 e0.tm) else (D k).map fun e => .int .i64 e.tm) : GW w4 g (m + 1) (fun k => if k = nn then some e0 else D k) S X { q with n := if (D nn).isSome then q.n else q.n + 1 } := by
  obtain ⟨n1, n2, n3, n4, n5, n6, n7, n8, n9, n10⟩ := h.ne
  obtain ⟨g1, g2, g3, g4, g5⟩ := h.gne
  rw [map_with (F := fun e : En => cv e.bx.lo)] at h1
  rw [map_with (F := fun e : En => cv e.bx.hi)] at h2
  rw [map_with (F := fun e : En => e.bx.v)] at h3
  rw [map_with (F := fun e : En => Value.int .i64 e.tm)] at h4
  have hk : Mod (fun x => x = q.ml ∨ x = q.mh ∨ x = q.mb ∨ x = q.mt) w w4 := (((k1.mono fun _ _ e => .inl e).trans (k2.mono fun _ _ e => .inr (.inl e))).trans (k3.mono fun _ _ e => .inr (.inr (.inl e)))).trans (k4.mono fun _ _ e => .inr (.inr (.inr e)))
  exact ⟨h.blk.mod hk (by omega), ((h1.mod k2 (by omega)).mod k3 (by omega)).mod k4 (by omega), (h2.mod k3 (by omega)).mod k4 (by omega), h3.mod k4 (by omega), h4, (h.cells.mod hk (by omega)).mono (Nat.le_succ _), h.rows.mod hk (fun c v x e1 e2 e3 => by have := h.rne c v x e1 e2 e3; omega), h.sg, h.srow, h.ne, h.gne, h.rne,
    fun x e => ⟨Nat.lt_of_lt_of_le (h.sl x e).1 hk.size, (h.sl x e).2⟩, fun x e => Nat.lt_of_lt_of_le (h.xl x e) hk.size⟩
/-- less that may be written -/
theorem GW.lessS {w : World} {g m : Nat} {D : Int → Option En} {S S0 X : Nat → Prop} {q : GP} (h : GW w g m D S X q) (hs : ∀ x, S0 x → S x) (hg : S0 g ∧ S0 q.mc ∧ S0 q.ml ∧ S0 q.mh ∧ S0 q.mb ∧ S0 q.mt) (hr : ∀ c v x, clOk c → q.Fc (ck c) = some v → v.ownBlock = some x → S0 x) : GW w g m D S0 X q :=
  ⟨h.blk, h.low, h.high, h.box, h.team, h.cells, h.rows, hg, hr, h.ne, h.gne, h.rne, fun x e => h.sl x (hs x e), h.xl⟩
/-- the blocks of the rows -/
def RowB (F : Lit → Option Value) (x : Nat) : Prop := ∃ c v, clOk c ∧ F (ck c) = some v ∧ v.ownBlock = some x
theorem GW.rowCells {w : World} {g m : Nat} {D : Int → Option En} {S X : Nat → Prop} {q : GP} (h : GW w g m D S X q) {x : Nat} (hx : RowB q.Fc x) : ∃ cs t f, w.heap[x]? = some (.cells cs t f) := by
  obtain ⟨c, v, h1, h2, h3⟩ := hx
  rcases h.rows.row c h1 with ⟨e1, _⟩ | ⟨v', e1, e2⟩
  · rw [e1] at h2; cases h2
  · rw [e1] at h2
    cases h2
    rcases e2.2 with ⟨e3, _⟩ | ⟨g', cap, cur, e3, _, e5, _⟩
    · rw [e3] at h3; cases h3
    · rw [e3] at h3
      cases h3
      exact ⟨_, _, _, e5⟩
theorem RowB.put {F : Lit → Option Value} {c : Cl} {v : Value} {x : Nat} (h : RowB (putF F (ck c) v) x) : RowB F x ∨ v.ownBlock = some x := by
  obtain ⟨c', v', h1, h2, h3⟩ := h
  unfold putF at h2
  split at h2
  · cases h2; exact .inr h3
  · exact .inl ⟨c', v', h1, h2, h3⟩
theorem mapV_pos {w : World} {b m n : Nat} {F : Lit → Option Value} {K : TypeId} (h : MapV Try.prog K w b m F n) {k : Lit} (hk : WideAt.IsKeyLit k) (hs : (F k).isSome = true) : 0 < n := by
  obtain ⟨D, h1, h2, h3⟩ := h
  rw [← h3.size]
  have := h3.has k hk
  rw [hs] at this
  apply Nat.pos_of_ne_zero
  intro h0
  cases D with
  | map es =>
    cases es with
    | nil => simp [Maps.has] at this
    | cons e es => simp [Maps.size] at h0
  | _ => simp [Maps.has] at this
theorem zero_ints' : ∀ w : World, (zeroValue 71).run Try.prog w = .ok (.slice none 0 0) w := zero_ints
theorem zero_cell' : ∀ w : World, (zeroValue 124).run Try.prog w = .ok (.agg #[.int .i64 0, .int .i64 0, .int .i64 0]) w := zero_cell
theorem zero_box' : ∀ w : World, (zeroValue 85).run Try.prog w = .ok (.agg #[.int .i64 0, .int .i64 0, .int .i64 0, .int .i64 0, .int .i64 0, .int .i64 0]) w := zero_box
theorem zero_int' : ∀ w : World, (zeroValue 3).run Try.prog w = .ok (.int .i64 0) w := fun w => by kernel_rfl
/-- what Put reads at its end -/
def PutS (p2 p3 p4 p5 g : Nat) (f : Nat → Int) (b : Bx) (q : GP) (w : World) : Prop :=
  Blk w p2 #[.pointer (some ⟨g, 0, none⟩)] ∧ Blk w p3 #[.int .i64 (f 0), .int .i64 (f 1), .int .i64 (f 2), .int .i64 (f 3), .int .i64 (f 4), .int .i64 (f 5), .int .i64 (f 6), .int .i64 (f 7), .int .i64 (f 8), .int .i64 (f 9), .int .i64 (f 10), .int .i64 (f 11), .int .i64 (f 12), .int .i64 (f 13), .int .i64 (f 14), .int .i64 (f 15), .int .i64 (f 16)] ∧ Blk w p4 #[.int .i64 b.a1, .int .i64 b.a2, .int .i64 b.a3, .int .i64 b.b1, .int .i64 b.b2, .int .i64 b.b3] ∧ Blk w p5 #[.int .i64 (kc b.a1), .int .i64 (kc b.a2), .int .i64 (kc b.a3)] ∧ Blk w (p5 + 1) #[.int .i64 (kc b.b1), .int .i64 (kc b.b2), .int .i64 (kc b.b3)] ∧ Blk w g #[.map (some q.mc), .map (some q.ml), .map (some q.mh), .map (some q.mb), .map (some q.mt)]
theorem PutS.mod {p2 p3 p4 p5 g : Nat} {f : Nat → Int} {b : Bx} {q : GP} {w w' : World} {T : Nat → Prop} (h : PutS p2 p3 p4 p5 g f b q w) (k : Mod T w w') (h2 : ¬ T p2) (h3 : ¬ T p3) (h4 : ¬ T p4) (h5 : ¬ T p5) (h6 : ¬ T (p5 + 1)) (hg : ¬ T g) : PutS p2 p3 p4 p5 g f b q w' :=
  ⟨h.1.mod k h2, h.2.1.mod k h3, h.2.2.1.mod k h4, h.2.2.2.1.mod k h5, h.2.2.2.2.1.mod k h6, h.2.2.2.2.2.mod k hg⟩
end Go.Proofs.Ytefhmbmbhiehdaa
