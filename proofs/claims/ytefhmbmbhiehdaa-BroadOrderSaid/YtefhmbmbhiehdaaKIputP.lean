/- What Put does to a grid, in plain Lean. Conditions: none. -/
import Derived.Test.YtefhmbmbhiehdaaKIrem
namespace Go.Proofs.Ytefhmbmbhiehdaa
open Go Go.Maps Go.RowKit Go.BigFrame Go.ChangeShapes Go.WideShapes
theorem zL_nodup (a3 x y : Int) : ∀ k, (zL a3 x y k).Nodup
  | 0 => List.nodup_nil
  | k + 1 => by
    rw [zL_succ]
    refine List.nodup_append.2 ⟨zL_nodup a3 x y k, by simp, ?_⟩
    intro a ha b hb e
    rw [List.mem_singleton] at hb
    have h := (zL_mem.1 ha).2.2.2
    rw [e, hb] at h
    simp only at h
    omega
theorem yL_nodup (a2 a3 : Int) (nz : Nat) (x : Int) : ∀ k, (yL a2 a3 nz x k).Nodup
  | 0 => List.nodup_nil
  | k + 1 => by
    rw [yL_succ]
    refine List.nodup_append.2 ⟨yL_nodup a2 a3 nz x k, zL_nodup _ _ _ _, ?_⟩
    intro a ha b hb e
    have h := (yL_mem.1 ha).2.1.2
    have h' := (zL_mem.1 hb).2.1
    rw [e] at h
    omega
theorem xL_nodup (a1 a2 a3 : Int) (ny nz : Nat) : ∀ k, (xL a1 a2 a3 ny nz k).Nodup
  | 0 => List.nodup_nil
  | k + 1 => by
    rw [xL_succ]
    refine List.nodup_append.2 ⟨xL_nodup a1 a2 a3 ny nz k, yL_nodup _ _ _ _ _, ?_⟩
    intro a ha b hb e
    have h := (xL_mem.1 ha).1.2
    have h' := (yL_mem.1 hb).1
    rw [e] at h
    omega
theorem cells_nodup (b : Bx) : b.cells.Nodup := xL_nodup _ _ _ _ _ _
/-- the list of a cell is written, perhaps into a new block -/
theorem GW.addRow {w w' : World} {g m m' nc' : Nat} {D : Int → Option En} {S X : Nat → Prop} {q : GP} (h : GW w g m D S X q) {c : Cl} (hc : clOk c) {v' : Value} {zs : List Int} (k : Mod (fun b => b = q.mc ∨ ∃ v, q.Fc (ck c) = some v ∧ v.ownBlock = some b) w w') (hm : MapV Try.prog 124 w' q.mc m' (putF q.Fc (ck c) v') nc') (hmm : m ≤ m')
    (hr : w'.ownsRow 0 3 1 v' zs.length (ints zs)) (hv : ∀ b, v'.ownBlock = some b → (∃ v, q.Fc (ck c) = some v ∧ v.ownBlock = some b) ∨ w.heap.size ≤ b) : GW w' g m' D (fun x => S x ∨ v'.ownBlock = some x) X { q with Fc := putF q.Fc (ck c) v', nc := nc', L := fun x => if x = c then zs else q.L x } := by
  obtain ⟨n1, n2, n3, n4, n5, n6, n7, n8, n9, n10⟩ := h.ne
  obtain ⟨g1, g2, g3, g4, g5⟩ := h.gne
  have hT : ∀ b, (∃ v, q.Fc (ck c) = some v ∧ v.ownBlock = some b) → b ≠ g ∧ b ≠ q.mc ∧ b ≠ q.ml ∧ b ≠ q.mh ∧ b ≠ q.mb ∧ b ≠ q.mt := fun b ⟨v, e1, e2⟩ => h.rne _ _ _ hc e1 e2
  have hvr : ∀ b, v'.ownBlock = some b → b ≠ g ∧ b ≠ q.mc ∧ b ≠ q.ml ∧ b ≠ q.mh ∧ b ≠ q.mb ∧ b ≠ q.mt := fun b e => by
    rcases hv b e with e1 | e1
    · exact hT b e1
    · have := h.blk.lt
      have := h.cells.lt
      have := h.low.lt
      have := h.high.lt
      have := h.box.lt
      have := h.team.lt
      omega
  have hp : ∀ c', clOk c' → putF q.Fc (ck c) v' (ck c') = if c' = c then some v' else q.Fc (ck c') := fun c' hc' => by
    unfold putF
    by_cases e : c' = c
    · rw [if_pos e, if_pos (by rw [e])]
    · rw [if_neg e, if_neg (fun e' => e (ck_inj hc' hc e'))]
  have hold : ∀ c' v x, clOk c' → q.Fc (ck c') = some v → v.ownBlock = some x → x < w.heap.size := fun c' v x hc' e1 e2 => (h.sl _ (h.srow _ _ _ hc' e1 e2)).1
  have hown : ∀ c' v x, clOk c' → putF q.Fc (ck c) v' (ck c') = some v → v.ownBlock = some x → (∃ v0, q.Fc (ck c') = some v0 ∧ v0.ownBlock = some x) ∨ (c' = c ∧ v = v' ∧ w.heap.size ≤ x) := fun c' v x hc' e1 e2 => by
    rw [hp c' hc'] at e1
    by_cases e : c' = c
    · rw [if_pos e] at e1
      cases e1
      rcases hv x e2 with e3 | e3
      · rw [e]
        exact .inl e3
      · exact .inr ⟨e, rfl, e3⟩
    · rw [if_neg e] at e1
      exact .inl ⟨v, e1, e2⟩
  have hvl : ∀ x, v'.ownBlock = some x → x < w'.heap.size := fun x e => by
    rcases hr.2 with ⟨e1, _⟩ | ⟨g', cap, cur, e1, _, e3, _⟩
    · rw [e1] at e
      cases e
    · rw [e1] at e
      cases e
      rw [Array.getElem?_eq_some_iff] at e3
      exact e3.1
  refine ⟨h.blk.mod k (fun e => e.elim (by omega) (fun e => (hT _ e).1 rfl)), (h.low.mod k (fun e => e.elim (by omega) (fun e => (hT _ e).2.2.1 rfl))).more hmm, (h.high.mod k (fun e => e.elim (by omega) (fun e => (hT _ e).2.2.2.1 rfl))).more hmm, (h.box.mod k (fun e => e.elim (by omega) (fun e => (hT _ e).2.2.2.2.1 rfl))).more hmm, (h.team.mod k (fun e => e.elim (by omega) (fun e => (hT _ e).2.2.2.2.2 rfl))).more hmm, hm, ⟨fun c' hc' => ?_, fun c1 c2 v1 v2 h1 h2 hne e1 e2 b f1 f2 => ?_⟩, ?_, fun c' v x hc' e1 e2 => ?_, h.ne, h.gne, fun c' v x hc' e1 e2 => ?_, fun x e => ?_, fun x e => Nat.lt_of_lt_of_le (h.xl x e) k.size⟩
  · by_cases e : c' = c
    · refine .inr ⟨v', (hp c' hc').trans (if_pos e), ?_⟩
      simp only [if_pos e]
      exact hr
    · rcases h.rows.row c' hc' with ⟨e1, e2⟩ | ⟨v, e1, e2⟩
      · refine .inl ⟨((hp c' hc').trans (if_neg e)).trans e1, ?_⟩
        simp only [if_neg e]
        exact e2
      · refine .inr ⟨v, ((hp c' hc').trans (if_neg e)).trans e1, ?_⟩
        simp only [if_neg e]
        refine row_mod e2 k fun b hb hT => hT.elim (fun e' => (h.rne _ _ _ hc' e1 hb).2.1 e') (fun e' => ?_)
        obtain ⟨v0, f1, f2⟩ := e'
        exact h.rows.apart c' c v v0 hc' hc e e1 f1 b hb f2
  · rcases hown _ _ _ h1 e1 f1 with ⟨u1, r1, t1⟩ | ⟨r1, s1, t1⟩
    · rcases hown _ _ _ h2 e2 f2 with ⟨u2, r2, t2⟩ | ⟨r2, s2, t2⟩
      · exact h.rows.apart _ _ _ _ h1 h2 hne r1 r2 b t1 t2
      · have := hold _ _ _ h1 r1 t1
        omega
    · rcases hown _ _ _ h2 e2 f2 with ⟨u2, r2, t2⟩ | ⟨r2, s2, t2⟩
      · have := hold _ _ _ h2 r2 t2
        omega
      · exact hne (r1.trans r2.symm)
  · obtain ⟨s1, s2, s3, s4, s5, s6⟩ := h.sg
    exact ⟨.inl s1, .inl s2, .inl s3, .inl s4, .inl s5, .inl s6⟩
  · rcases hown _ _ _ hc' e1 e2 with ⟨u1, r1, t1⟩ | ⟨r1, s1, t1⟩
    · exact .inl (h.srow _ _ _ hc' r1 t1)
    · exact .inr (s1 ▸ e2)
  · rcases hown _ _ _ hc' e1 e2 with ⟨u1, r1, t1⟩ | ⟨r1, s1, t1⟩
    · exact h.rne _ _ _ hc' r1 t1
    · exact hvr _ (s1 ▸ e2)
  · rcases e with e | e
    · exact ⟨Nat.lt_of_lt_of_le (h.sl x e).1 k.size, (h.sl x e).2⟩
    · refine ⟨hvl x e, fun hX => ?_⟩
      rcases hv x e with ⟨v, e1, e2⟩ | e1
      · exact (h.sl _ (h.srow _ _ _ hc e1 e2)).2 hX
      · have := h.xl x hX
        omega
/-- the body's number is in the lists of its cells -/
theorem lists_put {D : Int → Option En} {L L' : Cl → List Int} {nn : Int} {e : En} {ids : List Int} (h : Lists D L) (hD : D nn = none) (hi : ∀ k, D k ≠ none → k ∈ ids) (hn : nn ∈ ids) (hl : ids.length ≤ 1000) (hL : ∀ c, clOk c → L' c = if c ∈ e.bx.cells then L c ++ [nn] else L c) : Lists (fun k => if k = nn then some e else D k) L' := by
  have hno : ∀ c, clOk c → nn ∉ L c := fun c hc hm => by
    obtain ⟨e', h1, _⟩ := (h.mem c hc nn).1 hm
    rw [hD] at h1
    cases h1
  have hmem : ∀ c, clOk c → ∀ id, id ∈ L' c ↔ ∃ e', (if id = nn then some e else D id) = some e' ∧ c ∈ e'.bx.cells := fun c hc id => by
    rw [hL c hc]
    by_cases hi : c ∈ e.bx.cells
    · rw [if_pos hi, List.mem_append, List.mem_singleton, h.mem c hc id]
      by_cases en : id = nn
      · simp [en, hi]
      · simp [en]
    · rw [if_neg hi]
      by_cases en : id = nn
      · rw [en]
        simp only [if_true]
        exact ⟨fun h' => absurd h' (hno c hc), fun ⟨e', h1, h2⟩ => absurd (Option.some.inj h1 ▸ h2) hi⟩
      · rw [h.mem c hc id]
        simp [en]
  have hnd : ∀ c, clOk c → (L' c).Nodup := fun c hc => by
    rw [hL c hc]
    split
    · refine List.nodup_append.2 ⟨h.nodup c hc, by simp, ?_⟩
      intro a ha b hb e
      rw [List.mem_singleton] at hb
      exact hno c hc (hb ▸ e ▸ ha)
    · exact h.nodup c hc
  refine ⟨hmem, hnd, fun c hc => Nat.le_trans ?_ hl⟩
  refine List.Nodup.length_le_of_subset (hnd c hc) fun id hid => ?_
  obtain ⟨e', h1, _⟩ := (hmem c hc id).1 hid
  by_cases en : id = nn
  · rw [en]
    exact hn
  · rw [if_neg en] at h1
    exact hi id (by rw [h1]; exact Option.some_ne_none _)
/-- the box has the same cells: the lists are as they were -/
theorem lists_same {D : Int → Option En} {L : Cl → List Int} {nn : Int} {e e0 : En} (h : Lists D L) (hD : D nn = some e0) (he : e.bx.cells = e0.bx.cells) : Lists (fun k => if k = nn then some e else D k) L := by
  refine ⟨fun c hc id => ?_, h.nodup, h.len⟩
  rw [h.mem c hc id]
  by_cases en : id = nn
  · rw [en, hD]
    simp [he]
  · simp [en]
end Go.Proofs.Ytefhmbmbhiehdaa
