/- Steps of regions that draw their order: m[k] taken and stored to, append of a number. A cell compared. Conditions: none. -/
import Derived.Test.YtefhmbmbhiehdaaDoorKIrem
import Derived.Test.YtefhmbmbhiehdaaDoorKHeldA
import Derived.Test.YtefhmbmbhiehdaaDoorKApp
namespace Go.Proofs.YtefhmbmbhiehdaaDoor
open Go Go.Maps Go.RowKit Go.BigFrame Go.ChangeShapes Go.WideShapes
theorem zL_nodup (a3 x y : Int) : ∀ k, (zL a3 x y k).Nodup
  | 0 => List.nodup_nil
  | k + 1 => by
    rw [zL_succ]
    refine List.nodup_append.2 ⟨zL_nodup a3 x y k, by simp, ?_⟩
    intro a ha b hb e
    rw [List.mem_singleton] at hb
    have h := (zL_mem.1 ha).2.2.2
    rw [e, hb] at h
    simp only at h
    omega
theorem yL_nodup (a2 a3 : Int) (nz : Nat) (x : Int) : ∀ k, (yL a2 a3 nz x k).Nodup
  | 0 => List.nodup_nil
  | k + 1 => by
    rw [yL_succ]
    refine List.nodup_append.2 ⟨yL_nodup a2 a3 nz x k, zL_nodup _ _ _ _, ?_⟩
    intro a ha b hb e
    have h := (yL_mem.1 ha).2.1.2
    have h' := (zL_mem.1 hb).2.1
    rw [e] at h
    omega
theorem xL_nodup (a1 a2 a3 : Int) (ny nz : Nat) : ∀ k, (xL a1 a2 a3 ny nz k).Nodup
  | 0 => List.nodup_nil
  | k + 1 => by
    rw [xL_succ]
    refine List.nodup_append.2 ⟨xL_nodup a1 a2 a3 ny nz k, yL_nodup _ _ _ _ _, ?_⟩
    intro a ha b hb e
    have h := (xL_mem.1 ha).1.2
    have h' := (yL_mem.1 hb).1
    rw [e] at h
    omega
theorem cells_nodup (b : Bx) : b.cells.Nodup := xL_nodup _ _ _ _ _ _
/-- the body's number is in the lists of its cells -/
theorem lists_put {D : Int → Option En} {L L' : Cl → List Int} {nn : Int} {e : En} {ids : List Int} (h : Lists D L) (hD : D nn = none) (hi : ∀ k, D k ≠ none → k ∈ ids) (hn : nn ∈ ids) (hl : ids.length ≤ 1000) (hL : ∀ c, clOk c → L' c = if c ∈ e.bx.cells then L c ++ [nn] else L c) : Lists (fun k => if k = nn then some e else D k) L' := by
  have hno : ∀ c, clOk c → nn ∉ L c := fun c hc hm => by
    obtain ⟨e', h1, _⟩ := (h.mem c hc nn).1 hm
    rw [hD] at h1
    cases h1
  have hmem : ∀ c, clOk c → ∀ id, id ∈ L' c ↔ ∃ e', (if id = nn then some e else D id) = some e' ∧ c ∈ e'.bx.cells := fun c hc id => by
    rw [hL c hc]
    by_cases hi : c ∈ e.bx.cells
    · rw [if_pos hi, List.mem_append, List.mem_singleton, h.mem c hc id]
      by_cases en : id = nn
      · simp [en, hi]
      · simp [en]
    · rw [if_neg hi]
      by_cases en : id = nn
      · rw [en]
        simp only [if_true]
        exact ⟨fun h' => absurd h' (hno c hc), fun ⟨e', h1, h2⟩ => absurd (Option.some.inj h1 ▸ h2) hi⟩
      · rw [h.mem c hc id]
        simp [en]
  have hnd : ∀ c, clOk c → (L' c).Nodup := fun c hc => by
    rw [hL c hc]
    split
    · refine List.nodup_append.2 ⟨h.nodup c hc, by simp, ?_⟩
      intro a ha b hb e
      rw [List.mem_singleton] at hb
      exact hno c hc (hb ▸ e ▸ ha)
    · exact h.nodup c hc
  refine ⟨hmem, hnd, fun c hc => Nat.le_trans ?_ hl⟩
  refine List.Nodup.length_le_of_subset (hnd c hc) fun id hid => ?_
  obtain ⟨e', h1, _⟩ := (hmem c hc id).1 hid
  by_cases en : id = nn
  · rw [en]
    exact hn
  · rw [if_neg en] at h1
    exact hi id (by rw [h1]; exact Option.some_ne_none _)
/-- the box has the same cells: the lists are as they were -/
theorem lists_same {D : Int → Option En} {L : Cl → List Int} {nn : Int} {e e0 : En} (h : Lists D L) (hD : D nn = some e0) (he : e.bx.cells = e0.bx.cells) : Lists (fun k => if k = nn then some e else D k) L := by
  refine ⟨fun c hc id => ?_, h.nodup, h.len⟩
  rw [h.mem c hc id]
  by_cases en : id = nn
  · rw [en, hD]
    simp [he]
  · simp [en]
end Go.Proofs.YtefhmbmbhiehdaaDoor
namespace Go.Proofs.YtefhmbmbhiehdaaDoor
open Go Go.Maps Go.WideShapes Go.RowKit Go.BigFrame Go.ChangeShapes
section
variable {P : Program} {K E T : TypeId} {w w' : World} {b m n : Nat} {F : Lit → Option Value}
/-- the store into a map whose entry is open -/
theorem step_entry {ops : Array Oper} {o : Oper} {a : Act} {KK : Act → World → Prop} {Q : Exit → Act → World → Prop} {EE : Prop} (hg : o.guard = none) (mm x : Operand) (hop : o.op = Op.mapEntry T mm x) (LK : Keyed P K) (ht : P.underlying T = some (.map K E)) {z : Value} (hz : ∀ u : World, (zeroValue E).run P u = .ok z u)
    (hm : a.eval mm = .map (some b)) (hown : MapV P K w b m F n) (hmx : m < maxLen) (key : Value) (kl : Lit) (hx : a.eval x = key) (hkey : keyOf P K key = some kl) (hkl : WideAt.IsKeyLit kl)
    (hK : ∀ (st : Nat) (w1 : World), Mod (· = b) w w1 → Opened P K T w1 b m n st F kl → KK (a.put o.dst (.tuple #[(F kl).getD z, goInt st])) w1) :
    if Region.wanted o (yielded ops a.tmps) = true then Oper.wp P o a w KK Q else EE := by
  have hw : Region.wanted o (yielded ops a.tmps) = true := by simp [Region.wanted, hg]
  rw [if_pos hw]
  obtain ⟨st, w1, hrun, h1, h2⟩ := entry_law LK ht hz hown hmx hkey hkl
  unfold Oper.wp
  simp [execOp, hop, hm, hx, hrun, Result.andThen]
  exact hK st w1 h1 h2
theorem step_store {ops : Array Oper} {o : Oper} {a : Act} {KK : Act → World → Prop} {Q : Exit → Act → World → Prop} {EE : Prop} {st : Nat} {kl : Lit} (hg : o.guard = none) (mm x v : Operand) (hop : o.op = Op.entryStore T mm x v)
    (hm : a.eval mm = .map (some b)) (hx : a.eval x = goInt st) (hO : Opened P K T w b m n st F kl)
    (hK : ∀ w2 : World, MapV P K w2 b (m + 1) (putF F kl (a.eval v)) (if (F kl).isSome then n else n + 1) → Mod (· = b) w w2 → KK (a.put o.dst undef) w2) :
    if Region.wanted o (yielded ops a.tmps) = true then Oper.wp P o a w KK Q else EE := by
  have hw : Region.wanted o (yielded ops a.tmps) = true := by simp [Region.wanted, hg]
  rw [if_pos hw]
  obtain ⟨w2, hrun, h1, h2⟩ := hO.2 w rfl (a.eval v)
  unfold Oper.wp
  simp [execOp, hop, hm, hx, hrun, Result.andThen]
  exact hK w2 h1 h2
end
theorem intInfo : (Tryd.prog.info? 3).map (fun i => (i.zero, i.size, i.bytes)) = some (some (.int .i64 0), 1, 8) := by kernel_rfl
/-- append(s, x) of one number -/
theorem step_num {ops : Array Oper} {o : Oper} {a : Act} {w : World} {K : Act → World → Prop} {Q : Exit → Act → World → Prop} {E : Prop} (hg : o.guard = none) (s x : Operand) (ho : o.op = .call { callee := .builtin .append, args := #[s, x], argTypes := #[39, 39] })
    (v : Value) (zs : List Int) (hs : a.eval s = v) (hown : w.ownsRow 0 3 1 v zs.length (ints zs)) {p : Nat} {nn : Int} (hx : a.eval x = .slice (some ⟨p, 0, none⟩) 1 1) (hc : Blk w p #[.int .i64 nn]) (hn : zs.length < 4000000)
    (hK : ∀ v' w', w'.ownsRow 0 3 1 v' (zs ++ [nn]).length (ints (zs ++ [nn])) → Mod (fun b => v.ownBlock = some b) w w' → (v'.ownBlock = v.ownBlock ∨ v'.ownBlock = some w.heap.size) → K (a.put o.dst v') w') :
    if Region.wanted o (yielded ops a.tmps) = true then Oper.wp Tryd.prog o a w K Q else E := by
  have hw : Region.wanted o (yielded ops a.tmps) = true := by simp [Region.wanted, hg]
  rw [if_pos hw]
  obtain ⟨i, hi, hz, hsize, hbytes⟩ := info_three intInfo
  obtain ⟨v', w', hr, h2, h3, h4, h5⟩ := run_append_own_at (P := Tryd.prog) w 0 39 o.type 3 i (.int .i64 0) 1 8 Tryd.underlying39 hi hz hsize hbytes rfl (by decide) v zs.length (ints zs) hown ⟨p, 0, none⟩ 1 1 [.int .i64 nn] rfl (fun j u hu => by
    cases j with
    | zero =>
      have e : (⟨p, 0, none⟩ : Addr).add 0 = ⟨p, 0, none⟩ := rfl
      rw [e, hc.cell 0]
      exact hu
    | succ j => simp at hu) (by intro u hu; rw [List.mem_singleton] at hu; subst hu; rfl) (by unfold maxLen; omega) (by omega) (Nat.zero_le _)
  unfold Oper.wp execOp
  simp only [ho, resolve, invoke, builtin, Sem.run_bind, Sem.run_pure, Result.andThen_ok, List.map_toArray, List.map_cons, List.map_nil, hs, hx, hr]
  exact hK v' w' (by rw [List.length_append, ints_app]; exact h2) ((mod_grown h3).mono fun _ _ h => h) h5
theorem blk_as {w : World} {b : Nat} {cs cs' : Array Value} (h : Blk w b cs) (e : cs = cs') : Blk w b cs' := e ▸ h
/-- cells compared -/
def eqC (c d : Cl) : Bool := c.1 == d.1 && c.2.1 == d.2.1 && c.2.2 == d.2.2
theorem eqC_iff (c d : Cl) : eqC c d = true ↔ c = d := by
  unfold eqC
  simp only [Bool.and_eq_true, beq_iff_eq]
  exact ⟨fun ⟨⟨h1, h2⟩, h3⟩ => by obtain ⟨a, b, c⟩ := c; obtain ⟨x, y, z⟩ := d; simp only at h1 h2 h3; rw [h1, h2, h3], fun h => by rw [h]; exact ⟨⟨rfl, rfl⟩, rfl⟩⟩
/-- m[k] = x: what a map of ints as a function has behind it -/
theorem vi_put {w : World} {b m n n' : Nat} {D : Int → Option En} {Fm : En → Value} {F : Lit → Option Value} {nn : Int} {val : Value} {e0 : En} (hf : ∀ k : Int, F (.int .i64 k) = (D k).map Fm) (h : MapV Tryd.prog 3 w b m (putF F (.int .i64 nn) val) n') (hn : n' = if (F (.int .i64 nn)).isSome then n else n + 1) (hv : val = Fm e0) : VI w b m (if (D nn).isSome then n else n + 1) (fun k => if k = nn then some (Fm e0) else (D k).map Fm) := by
  rw [hf nn, Option.isSome_map] at hn
  subst hn hv
  refine ⟨_, h, fun k => ?_⟩
  unfold putF
  by_cases e : k = nn
  · simp [e]
  · rw [if_neg (fun e' => e (by injection e')), hf k]
    exact (if_neg e).symm
theorem map_with {D : Int → Option En} {nn : Int} {e0 : En} {β : Type} (F : En → β) : (fun k => if k = nn then some (F e0) else (D k).map F) = fun k => (if k = nn then some e0 else D k).map F := by
  funext k
  by_cases e : k = nn <;> simp [e]
/-- the blocks of the rows -/
def RowB (F : Lit → Option Value) (x : Nat) : Prop := ∃ c v, clOk c ∧ F (ck c) = some v ∧ v.ownBlock = some x
theorem RowB.put {F : Lit → Option Value} {c : Cl} {v : Value} {x : Nat} (h : RowB (putF F (ck c) v) x) : RowB F x ∨ v.ownBlock = some x := by
  obtain ⟨c', v', h1, h2, h3⟩ := h
  unfold putF at h2
  split at h2
  · cases h2; exact .inr h3
  · exact .inl ⟨c', v', h1, h2, h3⟩
theorem mapV_pos {w : World} {b m n : Nat} {F : Lit → Option Value} {K : TypeId} (h : MapV Tryd.prog K w b m F n) {k : Lit} (hk : WideAt.IsKeyLit k) (hs : (F k).isSome = true) : 0 < n := by
  obtain ⟨D, h1, h2, h3⟩ := h
  rw [← h3.size]
  have := h3.has k hk
  rw [hs] at this
  apply Nat.pos_of_ne_zero
  intro h0
  cases D with
  | map es =>
    cases es with
    | nil => simp [Maps.has] at this
    | cons e es => simp [Maps.size] at h0
  | _ => simp [Maps.has] at this
theorem zero_ints' : ∀ w : World, (zeroValue 39).run Tryd.prog w = .ok (.slice none 0 0) w := zero_ints
theorem zero_box' : ∀ w : World, (zeroValue 34).run Tryd.prog w = .ok (.agg #[.int .i64 0, .int .i64 0, .int .i64 0, .int .i64 0, .int .i64 0, .int .i64 0]) w := zero_box
theorem zero_int' : ∀ w : World, (zeroValue 3).run Tryd.prog w = .ok (.int .i64 0) w := fun w => by kernel_rfl
/-- what Put reads at its end -/
def PutS (p2 p3 p4 p5 g : Nat) (f : Nat → Int) (b : Bx) (q : GP) (w : World) : Prop :=
  Blk w p2 #[.pointer (some ⟨g, 0, none⟩)] ∧ Blk w p3 #[.int .i64 (f 0), .int .i64 (f 1), .int .i64 (f 2), .int .i64 (f 3), .int .i64 (f 4), .int .i64 (f 5), .int .i64 (f 6), .int .i64 (f 7), .int .i64 (f 8), .int .i64 (f 9), .int .i64 (f 10), .int .i64 (f 11), .int .i64 (f 12), .int .i64 (f 13), .int .i64 (f 14), .int .i64 (f 15), .int .i64 (f 16)] ∧ Blk w p4 #[.int .i64 b.a1, .int .i64 b.a2, .int .i64 b.a3, .int .i64 b.b1, .int .i64 b.b2, .int .i64 b.b3] ∧ Blk w p5 #[.int .i64 (kc b.a1), .int .i64 (kc b.a2), .int .i64 (kc b.a3)] ∧ Blk w (p5 + 1) #[.int .i64 (kc b.b1), .int .i64 (kc b.b2), .int .i64 (kc b.b3)] ∧ Blk w g #[.map (some q.mc), .map (some q.ml), .map (some q.mh), .map (some q.mb), .map (some q.mt)]
theorem PutS.mod {p2 p3 p4 p5 g : Nat} {f : Nat → Int} {b : Bx} {q : GP} {w w' : World} {T : Nat → Prop} (h : PutS p2 p3 p4 p5 g f b q w) (k : Mod T w w') (h2 : ¬ T p2) (h3 : ¬ T p3) (h4 : ¬ T p4) (h5 : ¬ T p5) (h6 : ¬ T (p5 + 1)) (hg : ¬ T g) : PutS p2 p3 p4 p5 g f b q w' :=
  ⟨h.1.mod k h2, h.2.1.mod k h3, h.2.2.1.mod k h4, h.2.2.2.1.mod k h5, h.2.2.2.2.1.mod k h6, h.2.2.2.2.2.mod k hg⟩
end Go.Proofs.YtefhmbmbhiehdaaDoor
