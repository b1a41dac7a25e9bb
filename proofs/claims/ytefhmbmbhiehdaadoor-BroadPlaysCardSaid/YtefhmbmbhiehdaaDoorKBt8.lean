/- broad.Tree: a leaf taken out, or put in, whatever the tree is. Conditions: none. -/
import Derived.Test.YtefhmbmbhiehdaaDoorKBt7
namespace Go.Proofs.YtefhmbmbhiehdaaDoor
open Go Go.Maps Go.RowKit Go.BigFrame Go.ChangeShapes Go.WideShapes
/-- what a call leaves of the tree's own cells -/
structure Chg (w w' : World) (t : Nat) (s s' : BT) : Prop where
  bx : s'.bx = s.bx
  lf : s'.lf = s.lf
  fat : s'.fat = s.fat
  mod : Mod (TB t s) w w'
  own : ∀ x, TB t s' x → TB t s x ∨ w.heap.size ≤ x
theorem Chg.trans {w w' w'' : World} {t : Nat} {s s' s'' : BT} (h : Chg w w' t s s') (k : Chg w' w'' t s' s'') : Chg w w'' t s s'' :=
  ⟨k.bx.trans h.bx, k.lf.trans h.lf, k.fat.trans h.fat, h.mod.trans2 k.mod (fun b hb h1 => (h.own b h1).elim id (fun h2 => by omega)), fun x hx => (k.own x hx).elim (h.own x) (fun h2 => .inr (Nat.le_trans h.mod.size h2))⟩
theorem fv_own {w w' : World} {t : Nat} {s : BT} {nb cap nn : Nat} {fv : Value} {rt : Int} {sm : Bool} (h : FvPost w w' s.fv fv) (hn : nb = s.nb ∨ w.heap.size ≤ nb) : ∀ x, TB t { s with nb := nb, cap := cap, nn := nn, fv := fv, root := rt, som := sm } x → TB t s x ∨ w.heap.size ≤ x := by
  rintro x (e | e | e | e)
  · exact .inl (.inl e)
  · rcases hn with h2 | h2
    · exact .inl (.inr (.inl (e.trans h2)))
    · exact .inr (by have e2 : x = nb := e; omega)
  · rcases h with h2 | h2
    · exact .inl (.inr (.inr (.inl (h2 ▸ e))))
    · exact .inr (h2 x e)
  · exact .inl (.inr (.inr (.inr e)))
/-- the tree behind a call: its leaves' rows are as they were -/
structure TreP (w w' : World) (t : Nat) (s : BT) (M : Nat → Nat → Int) (m n : Nat) (f : Int → Option Nat) (g : Nat) (s' : BT) (M' : Nat → Nat → Int) (F' : List Nat) (o' : Option Tr) : Prop where
  tw : TW w' t s' M' F' m n f
  tre : Tre s'.som s'.root s'.nn M' F' n f o'
  row : ∀ id y, f id = some y → ∀ j, j ≠ 6 → M' y j = M y j
  nn : s'.nn ≤ g
  chg : Chg w w' t s s'
theorem all_one {T : Tr} {k : Nat} (h : [k].Perm T.all) : T = .lf k := by
  cases T with
  | lf x =>
    have := List.perm_singleton.1 h.symm
    simp only [Tr.all, List.cons.injEq, and_true] at this
    rw [this]
  | nd x l r =>
    have := h.length_eq
    simp only [Tr.all, List.length_cons, List.length_append, List.length_nil] at this
    have a := List.length_pos_of_mem l.ix_mem
    omega
theorem out_c (w : World) (t : Nat) (s : BT) (M : Nat → Nat → Int) (F : List Nat) (m n : Nat) (f : Int → Option Nat) (k : Nat) (id_ : Int) (o : Option Tr) (hW : TW w t s M F m n f) (hT : Tre s.som s.root s.nn M F n f o) (hf : f id_ = some k) (hkey : keyOf Tryd.prog 3 (.int .i64 id_) = some (.int .i64 id_)) (hnn : s.nn < 800000) :
    Calls Tryd.prog 20 #[.pointer (some ⟨t, 0, none⟩), .int .i64 (k : Int)] w fun e w' => e = .returned (.tuple #[]) ∧ ∃ (s' : BT) (M' : Nat → Nat → Int) (F' : List Nat) (o' : Option Tr), TreP w w' t s M m (n - 1) (fun y => if y = id_ then none else f y) s.nn s' M' F' o' := by
  cases o with
  | none => have := (hT.none_ rfl).2.1 id_; rw [hf] at this; cases this
  | some T =>
    obtain ⟨hsom, hroot, hR, hb, hid, hlen⟩ := hT.some_ T rfl
    obtain ⟨hk, hk9⟩ := (hid id_ k).1 hf
    have hFl : F.length < 800000 := by
      have := nodup_bound (List.nodup_append.1 hT.nd).2.1 (fun x hx => hT.lt x (List.mem_append_right _ hx))
      omega
    have hAl : T.all.length ≤ 800000 := by
      have := nodup_bound (l := T.all) (List.nodup_append.1 hT.nd).1 (fun x hx => hT.lt x (List.mem_append_left _ hx))
      omega
    obtain ⟨c, z1, z2, z3, z4, z5⟩ := Tr.zip (root := s.root) (c := .top) hR ⟨hR.up, hroot⟩ k hk
    have z3 : (k :: c.all).Perm T.all := by simpa [Cx.all] using z3
    have z4 : (k :: c.lvs).Perm T.lvs := by simpa [Cx.lvs] using z4
    have hcb := z5 hb trivial
    have hkk : k < s.nn := hT.lt k (List.mem_append_left _ (T.lvs_sub k hk))
    have hisf : (f id_).isSome = true := by rw [hf]; rfl
    have hTn : T.all.Nodup := (List.nodup_append.1 hT.nd).1
    have hTl : ∀ x ∈ T.all, x < s.nn := fun x hx => hT.lt x (List.mem_append_left _ hx)
    have up : ∀ (U : Nat) (O : Tr) (c2 : Cx) (w' : World) (lvs : List Nat), (k :: U :: (O.all ++ c2.all)).Perm T.all → (k :: (O.lvs ++ c2.lvs)).Perm T.lvs → Bal1 O c2 → OutUp w t s M F m n f k id_ U O c2 (.returned (.tuple #[])) w' → ∃ (s' : BT) (M' : Nat → Nat → Int) (F' : List Nat) (o' : Option Tr), TreP w w' t s M m (n - 1) (fun y => if y = id_ then none else f y) s.nn s' M' F' o' := by
      rintro U O c2 w' lvs p1 p2 hbal ⟨-, fv', M', T', htw, hR', ha, hl, hK, hh, hm, hfv, hmod⟩
      have hT' := hT.out_up hf p1 p2 hR' (hm.bal hbal).1 ha hl hK hh
      refine ⟨_, M', _, some T', htw, ?_, fun id y hy j hj => ?_, Nat.le_refl _, ⟨rfl, rfl, rfl, hmod, fv_own (cap := s.cap) (nn := s.nn) (rt := (T'.ix : Int)) (sm := s.som) hfv (.inl rfl)⟩⟩
      · rw [show ({ s with root := (T'.ix : Int), fv := fv' } : BT).som = true from hsom]
        exact hT'
      · have h1 := (((hT'.some_ T' rfl).2.2.2.2.1 id y).1 hy).1
        exact hK.leaf y (hl.mem_iff.1 h1) j hj
    cases c with
    | top =>
      have e := all_one (T := T) (by simpa [Cx.all] using z3)
      subst e
      refine (out_top w t s M F m n f k id_ hW hkk hk9 hkey hisf hR.1 (by omega)).mono ?_
      rintro e w' ⟨rfl, fv', htw, hfv, hmod⟩
      refine ⟨rfl, _, M, _, none, htw, hT.out_top hf, fun id y hy j _ => rfl, Nat.le_refl _, ⟨rfl, rfl, rfl, hmod, fv_own (cap := s.cap) (nn := s.nn) (rt := s.root) (sm := false) hfv (.inl rfl)⟩⟩
    | lft U c O =>
      have p1 : (k :: U :: (O.all ++ c.all)).Perm T.all := z3
      have p2 : (k :: (O.lvs ++ c.lvs)).Perm T.lvs := z4
      refine (out_lft w t s M F m n f k id_ U O c hW hk9 hkey hisf z2 (p1.nodup_iff.2 hTn) (fun x hx => hTl x (p1.mem_iff.1 hx)) (by have := p1.length_eq; simp only [List.length_cons] at this; omega) hT.high hFl).mono ?_
      rintro e w' h
      obtain ⟨b1, b2, b3, b4⟩ := hcb
      have h0 := O.h0
      exact ⟨h.1, up U O c w' [] p1 p2 ⟨b3, _, b4, by omega, by omega⟩ ⟨rfl, h.2⟩⟩
    | rgt U O c =>
      have p1 : (k :: U :: (O.all ++ c.all)).Perm T.all := z3
      have p2 : (k :: (O.lvs ++ c.lvs)).Perm T.lvs := z4
      refine (out_rgt w t s M F m n f k id_ U O c hW hk9 hkey hisf z2 (p1.nodup_iff.2 hTn) (fun x hx => hTl x (p1.mem_iff.1 hx)) (by have := p1.length_eq; simp only [List.length_cons] at this; omega) hT.high hFl).mono ?_
      rintro e w' h
      obtain ⟨b1, b2, b3, b4⟩ := hcb
      have h0 := O.h0
      exact ⟨h.1, up U O c w' [] p1 p2 ⟨b3, _, b4, by omega, by omega⟩ ⟨rfl, h.2⟩⟩
/-- in: s, M, F as a new node left them -/
theorem in_c (w : World) (t : Nat) (s : BT) (M0 : Nat → Nat → Int) (F0 F : List Nat) (m n nn0 : Nat) (f : Int → Option Nat) (k : Nat) (id_ : Int) (x : Nat → Int) (o : Option Tr) (hW : TW w t s (setRow M0 k x) F m n f) (hT : Tre s.som s.root nn0 M0 F0 n f o) (hway : NodeWay F0 nn0 k F s.nn) (x7 : x 7 = -1) (x9 : x 9 = id_) (x10 : x 10 = 0) (hf : f id_ = none) (hkey : keyOf Tryd.prog 3 (.int .i64 id_) = some (.int .i64 id_)) (hm : m < 900000) (hnn : nn0 < 800000) :
    Calls Tryd.prog 21 #[.pointer (some ⟨t, 0, none⟩), .int .i64 (k : Int)] w fun e w' => e = .returned (.tuple #[]) ∧ ∃ (s' : BT) (M' : Nat → Nat → Int) (F' : List Nat) (o' : Option Tr), TreP w w' t s (setRow M0 k x) (m + 1) (n + 1) (fun y => if y = id_ then some k else f y) (nn0 + 2) s' M' F' o' := by
  have e9 : setRow M0 k x k 9 = id_ := by simp [setRow, x9]
  have e7 : setRow M0 k x k 7 = -1 := by simp [setRow, x7]
  have e10 : setRow M0 k x k 10 = 0 := by simp [setRow, x10]
  cases o with
  | none =>
    obtain ⟨y1, y2, y3, y4, y5, y6⟩ := hway.facts (A := []) hT.nd hT.lt
    refine (in_top w t s _ F m n f k id_ hW (hT.none_ rfl).1 y5 e9 hkey hf hm).mono ?_
    rintro e w' ⟨rfl, htw, hmod⟩
    have hT' := hT.in_top hway x7 x9 x10 (n' := n + 1) rfl
    refine ⟨rfl, _, _, F, some (.lf k), htw, hT', fun id y hy j hj => ?_, by show s.nn ≤ _; omega, ⟨rfl, rfl, rfl, hmod, fun z hz => .inl hz⟩⟩
    unfold put1
    rw [if_neg (fun h => hj h.2)]
  | some T =>
    obtain ⟨hsom, hroot, hR, hb, hid, hlen⟩ := hT.some_ T rfl
    obtain ⟨y1, y2, y3, y4, y5, y6⟩ := hway.facts (A := T.all) hT.nd hT.lt
    have hkT : k ∉ T.all := by
      have : (T.all ++ k :: F).Perm ((k :: T.all) ++ F) := List.perm_middle
      have := this.nodup_iff.1 y1
      exact fun hm => (List.nodup_cons.1 this).1 (List.mem_append_left _ hm)
    have hR' : Rep (setRow M0 k x) (-1) T := hR.same (List.nodup_append.1 hT.nd).1 (fun y hy j => by unfold setRow; rw [if_neg (fun e : y = k => hkT (e ▸ hy))])
    have ea : (T.all ++ k :: F) = ((T.all ++ [k]) ++ F) := by simp
    refine (in_up w t s _ F m n f k id_ T hW hsom y5 e9 hkey hf hm hroot hR' hb (ea ▸ y1) (ea ▸ y2) e7 e10 (fun y hy => ?_) (by omega)).mono ?_
    · by_cases e : y = k
      · subst e; rw [e10]; omega
      · have : setRow M0 k x y 10 = M0 y 10 := by unfold setRow; rw [if_neg e]
        rw [this]
        exact hT.high y (y6 y hy e)
    · rintro e w' ⟨rfl, i, nb', cap', nn', fv', F', M', T', htw, hway2, hR2, hb2, ha, hl, hK, hh, hfv, hnb, hmod⟩
      have hT' := hT.in_up hway hway2 x9 hf (n' := n + 1) rfl hR2 hb2 ha hl hK hh
      have hnn' : nn' ≤ s.nn + 1 := by rcases hway2 with ⟨_, _, _, e⟩ | ⟨_, e⟩ <;> omega
      refine ⟨rfl, _, M', F', some T', htw, ?_, fun id y hy j hj => ?_, by show nn' ≤ _; omega, ⟨rfl, rfl, rfl, hmod, fv_own (cap := cap') (nn := nn') (rt := (T'.ix : Int)) (sm := s.som) hfv hnb⟩⟩
      · rw [show ({ s with nb := nb', cap := cap', nn := nn', fv := fv', root := (T'.ix : Int) } : BT).som = true from hsom]
        exact hT'
      · have h1 := (((hT'.some_ T' rfl).2.2.2.2.1 id y).1 hy).1
        exact hK.leaf y (hl.mem_iff.1 h1) j hj
end Go.Proofs.YtefhmbmbhiehdaaDoor
