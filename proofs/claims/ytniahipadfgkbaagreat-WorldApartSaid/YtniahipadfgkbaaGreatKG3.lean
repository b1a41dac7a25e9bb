/- more, in of broad.Tree. Conditions: none. -/
import Derived.Deep.CutRange
import Derived.Deep.CutBlock
import Derived.Test.YtniahipadfgkbaaGreatKG2
import Derived.Test.YtniahipadfgkbaaGreatKX2
import Derived.Test.YtniahipadfgkbaaGreatKApp
namespace Go.Proofs.YtniahipadfgkbaaGreat
open Go Go.Maps Go.RowKit Go.BigFrame Go.ChangeShapes Go.WideShapes
theorem VI.below {w w' : World} {b m n : Nat} {f : Int → Option Value} (h : VI w b m n f) (k : Below w.heap.size w w') : VI w' b m n f := by
  obtain ⟨F, h1, h2⟩ := h
  exact ⟨F, h1.below k, h2⟩
/-- delete(m, k) of a map that has it -/
theorem at_delT {Q : Exit → Act → World → Prop} {w : World} {b m n : Nat} {f : Int → Option Value} {T E : TypeId} {o : Oper} {ops : Array Oper} {rest : List Oper} {a : Act} {nn : Int} (hg : o.guard = none) (mm x : Operand) (hop : o.op = Op.call { callee := Callee.builtin Builtin.delete, args := #[mm, x], argTypes := #[T, 3] }) (ht : Tryz.prog.underlying T = some (.map 3 E))
    (hm : a.eval mm = .map (some b)) (h : VI w b m n f) (hx : a.eval x = .int .i64 nn) (hkey : keyOf Tryz.prog 3 (.int .i64 nn) = some (.int .i64 nn)) (hs : (f nn).isSome = true)
    (hK : ∀ w', VI w' b m (n - 1) (fun k => if k = nn then none else f k) → Mod (· = b) w w' → wpList Tryz.prog ops Q rest (a.put o.dst (.tuple #[])) w') : wpList Tryz.prog ops Q (o :: rest) a w := by
  obtain ⟨F, hF, hf⟩ := h
  refine at_delete1 hg mm x hop (int_keyed Tryz.underlying3) ht hm hF (.int .i64 nn) (.int .i64 nn) hx hkey trivial ?_
  rintro w' h1 h2
  rw [hf nn, if_pos hs] at h1
  refine hK w' ⟨_, h1, fun k => ?_⟩ h2
  unfold delF
  by_cases e : k = nn
  · simp [e]
  · rw [if_neg (fun e' => e (by injection e')), hf k]
    exact (if_neg e).symm
/-- m[k] = v -/
theorem at_putT {Q : Exit → Act → World → Prop} {w : World} {b m n : Nat} {f : Int → Option Value} {T E : TypeId} {o : Oper} {ops : Array Oper} {rest : List Oper} {a : Act} {nn : Int} {val : Value} (hg : o.guard = none) (mm x v : Operand) (hop : o.op = Op.mapUpdate T mm x v) (ht : Tryz.prog.underlying T = some (.map 3 E))
    (hm : a.eval mm = .map (some b)) (h : VI w b m n f) (hmx : m < maxLen) (hx : a.eval x = .int .i64 nn) (hv : a.eval v = val) (hkey : keyOf Tryz.prog 3 (.int .i64 nn) = some (.int .i64 nn))
    (hK : ∀ w', VI w' b (m + 1) (if (f nn).isSome then n else n + 1) (fun k => if k = nn then some val else f k) → Mod (· = b) w w' → wpList Tryz.prog ops Q rest (a.put o.dst undef) w') : wpList Tryz.prog ops Q (o :: rest) a w := by
  obtain ⟨F, hF, hf⟩ := h
  refine at_update hg mm x v hop (int_keyed Tryz.underlying3) ht hm hF hmx (.int .i64 nn) val (.int .i64 nn) hx hv hkey trivial ?_
  rintro w' h1 h2
  rw [hf nn] at h1
  refine hK w' ⟨_, h1, fun k => ?_⟩ h2
  unfold putF
  by_cases e : k = nn
  · simp [e]
  · rw [if_neg (fun e' => e (by injection e')), hf k]
    exact (if_neg e).symm
/-- v, ok := m[k] -/
theorem at_lookT {Q : Exit → Act → World → Prop} {w : World} {b m n : Nat} {f : Int → Option Value} {T E : TypeId} {o : Oper} {ops : Array Oper} {rest : List Oper} {a : Act} {nn : Int} {z : Value} (hg : o.guard = none) (mm x : Operand) (hop : o.op = Op.lookup T mm x true) (ht : Tryz.prog.underlying T = some (.map 3 E)) (hz : (zeroValue E).run Tryz.prog w = .ok z w)
    (hm : a.eval mm = .map (some b)) (h : VI w b m n f) (hx : a.eval x = .int .i64 nn) (hkey : keyOf Tryz.prog 3 (.int .i64 nn) = some (.int .i64 nn))
    (hK : wpList Tryz.prog ops Q rest (a.put o.dst (.tuple #[(f nn).getD z, .bool (f nn).isSome])) w) : wpList Tryz.prog ops Q (o :: rest) a w := by
  obtain ⟨F, hF, hf⟩ := h
  refine at_lookup2 hg mm x hop (int_keyed Tryz.underlying3) ht hz hm hF (.int .i64 nn) (.int .i64 nn) hx hkey trivial ?_
  rw [hf nn]
  exact hK
/-- the tree's parts in memory, but the map of boxes: F which nodes are free, f which node is whose leaf -/
structure TW (w : World) (t : Nat) (s : BT) (M : Nat → Nat → Int) (F : List Nat) (m n : Nat) (f : Int → Option Nat) : Prop where
  blk : Blk w t s.cs
  nt : NT w s.nb s.cap s.nn M
  free : w.ownsRow 0 3 1 s.fv F.length (ints (F.map fun (x : Nat) => (x : Int)))
  lfm : VI w s.lf m n (fun id => (f id).map fun (k : Nat) => .int .i64 (k : Int))
  tn : t ≠ s.nb
  ft : s.fv.ownBlock ≠ some t
  fn : s.fv.ownBlock ≠ some s.nb
  lt : s.lf ≠ t
  ln : s.lf ≠ s.nb
  lv : s.fv.ownBlock ≠ some s.lf
/-- the blocks of a tree -/
def TB (t : Nat) (s : BT) (x : Nat) : Prop := x = t ∨ x = s.nb ∨ s.fv.ownBlock = some x ∨ x = s.lf
theorem TW.below {w w' : World} {t : Nat} {s : BT} {M : Nat → Nat → Int} {F : List Nat} {m n : Nat} {f : Int → Option Nat} (h : TW w t s M F m n f) (k : Below w.heap.size w w') : TW w' t s M F m n f :=
  ⟨h.blk.below k, h.nt.below k, row_below h.free k, h.lfm.below k, h.tn, h.ft, h.fn, h.lt, h.ln, h.lv⟩
theorem TW.mod {S : Nat → Prop} {w w' : World} {t : Nat} {s : BT} {M : Nat → Nat → Int} {F : List Nat} {m n : Nat} {f : Int → Option Nat} (h : TW w t s M F m n f) (k : Mod S w w') (hs : ∀ x, TB t s x → ¬ S x) : TW w' t s M F m n f :=
  ⟨h.blk.mod k (hs _ (.inl rfl)), h.nt.mod k (hs _ (.inr (.inl rfl))), row_mod h.free k (fun _ e => hs _ (.inr (.inr (.inl e)))), h.lfm.mod k (hs _ (.inr (.inr (.inr rfl)))), h.tn, h.ft, h.fn, h.lt, h.ln, h.lv⟩
/-- less one -/
theorem f_less (f : Int → Option Nat) (id : Int) : (fun y => if y = id then none else (f y).map fun (k : Nat) => Value.int .i64 (k : Int)) = fun y => ((fun y => if y = id then none else f y) y).map fun (k : Nat) => Value.int .i64 (k : Int) := by
  funext y
  by_cases e : y = id <;> simp [e]
theorem f_more (f : Int → Option Nat) (id : Int) (q : Nat) : (fun y => if y = id then some (Value.int .i64 (q : Int)) else (f y).map fun (k : Nat) => Value.int .i64 (k : Int)) = fun y => ((fun y => if y = id then some q else f y) y).map fun (k : Nat) => Value.int .i64 (k : Int) := by
  funext y
  by_cases e : y = id <;> simp [e]
/-- a place taken out of a way -/
theorem RepC.hang {M M2 : Nat → Nat → Int} {root : Int} {h h' : Nat} {c : Cx} (hc : RepC M root h c) (hn : c.all.Nodup) (hh : h ∉ c.all) (e : ∀ k ∈ c.all, ∀ j, M2 k j = hangM M c.up h h' k j) (e6 : M2 h' 6 = c.up) : RepC M2 (hangR root c.up h') h' c := by
  cases c with
  | top => exact ⟨e6, rfl⟩
  | lft k c r =>
    obtain ⟨c1, c2, c3, c4, c5⟩ := hc
    have hn' := List.nodup_cons.1 hn
    have hap := List.nodup_append.1 hn'.2
    have hk0 : ¬ ((k : Int) < 0) := by omega
    have er : hangR root (Cx.lft k c r).up h' = root := by unfold hangR; rw [show (Cx.lft k c r).up = (k : Int) from rfl, if_neg hk0]
    have em : hangM M (Cx.lft k c r).up h h' = put1 M k 7 h' := by
      unfold hangM
      rw [show (Cx.lft k c r).up = (k : Int) from rfl, if_neg hk0, Int.toNat_natCast, if_pos c2]
    rw [em] at e
    have ek := e k (by simp [Cx.all])
    have eo : ∀ x, x ∈ r.all ++ c.all → ∀ j, M2 x j = M x j := fun x hx j => by
      rw [e x (List.mem_cons_of_mem _ hx)]
      unfold put1
      rw [if_neg]
      rintro ⟨e1, _⟩
      exact hn'.1 (e1 ▸ hx)
    rw [er]
    refine ⟨e6, ?_, ?_, c4.same hap.1 (fun x hx => eo x (List.mem_append_left _ hx)), c5.same hap.2.1 (fun x hx => eo x (List.mem_append_right _ hx)) ?_⟩
    · rw [ek]; simp [put1]
    · rw [ek]; simp [put1, c3]
    · rw [ek]; simp [put1]
  | rgt k l c =>
    obtain ⟨c1, c2, c3, c4, c5⟩ := hc
    have hn' := List.nodup_cons.1 hn
    have hap := List.nodup_append.1 hn'.2
    have hk0 : ¬ ((k : Int) < 0) := by omega
    have hlh : ¬ ((l.ix : Int) = (h : Int)) := fun e => hh (by rw [show h = l.ix by omega]; simp [Cx.all, l.ix_mem])
    have er : hangR root (Cx.rgt k l c).up h' = root := by unfold hangR; rw [show (Cx.rgt k l c).up = (k : Int) from rfl, if_neg hk0]
    have em : hangM M (Cx.rgt k l c).up h h' = put1 M k 8 h' := by
      unfold hangM
      rw [show (Cx.rgt k l c).up = (k : Int) from rfl, if_neg hk0, Int.toNat_natCast, c2, if_neg hlh]
    rw [em] at e
    have ek := e k (by simp [Cx.all])
    have eo : ∀ x, x ∈ l.all ++ c.all → ∀ j, M2 x j = M x j := fun x hx j => by
      rw [e x (List.mem_cons_of_mem _ hx)]
      unfold put1
      rw [if_neg]
      rintro ⟨e1, _⟩
      exact hn'.1 (e1 ▸ hx)
    rw [er]
    refine ⟨e6, ?_, ?_, c4.same hap.1 (fun x hx => eo x (List.mem_append_left _ hx)), c5.same hap.2.1 (fun x hx => eo x (List.mem_append_right _ hx)) ?_⟩
    · rw [ek]; simp [put1, c2]
    · rw [ek]; simp [put1]
    · rw [ek]; simp [put1]
/-- the map of leafs written -/
theorem TW.leaf {w w' : World} {t : Nat} {s : BT} {M : Nat → Nat → Int} {F : List Nat} {m n m' n' : Nat} {f f' : Int → Option Nat} (h : TW w t s M F m n f) (k : Mod (· = s.lf) w w') (h2 : VI w' s.lf m' n' (fun id => (f' id).map fun (k : Nat) => .int .i64 (k : Int))) : TW w' t s M F m' n' f' :=
  ⟨h.blk.mod k (fun e => h.lt e.symm), h.nt.mod k (fun e => h.ln e.symm), row_mod h.free k (fun _ e e' => h.lv (e' ▸ e)), h2, h.tn, h.ft, h.fn, h.lt, h.ln, h.lv⟩
theorem intInfoT : (Tryz.prog.info? 3).map (fun i => (i.zero, i.size, i.bytes)) = some (some (.int .i64 0), 1, 8) := by kernel_rfl
/-- the slice of the free is as it was, or a new one -/
def FvPost (w0 _w : World) (v0 v : Value) : Prop := v.ownBlock = v0.ownBlock ∨ ∀ b, v.ownBlock = some b → w0.heap.size ≤ b
theorem ints_snoc (F : List Nat) (k : Nat) : ints (F.map fun (x : Nat) => (x : Int)) ++ (#[.int .i64 (k : Int)] : Array Value).toList = ints ((F ++ [k]).map fun (x : Nat) => (x : Int)) := by simp [ints]
/-- one more free -/
theorem TW.push {w w3 : World} {t : Nat} {s : BT} {M : Nat → Nat → Int} {F : List Nat} {m n g c k : Nat} {f : Int → Option Nat} (h : TW w t s M F m n f) (hown : w3.ownsRow 0 3 1 (.slice (some ⟨g, 0, none⟩) (F.length + 1) c) (F.length + 1) (ints (F.map fun (x : Nat) => (x : Int)) ++ (#[.int .i64 (k : Int)] : Array Value).toList)) (hmod : Mod (fun b => s.fv.ownBlock = some b) w w3) (hg : s.fv.ownBlock = some g ∨ w.heap.size < g) :
    TW (w3.setCell ⟨t, 1, none⟩ (.slice (some ⟨g, 0, none⟩) (F.length + 1) c)) t { s with fv := .slice (some ⟨g, 0, none⟩) (F.length + 1) c } M (F ++ [k]) m n f ∧ Mod (TB t s) w (w3.setCell ⟨t, 1, none⟩ (.slice (some ⟨g, 0, none⟩) (F.length + 1) c)) ∧ FvPost w w3 s.fv (.slice (some ⟨g, 0, none⟩) (F.length + 1) c) := by
  have htl := h.blk.lt
  have hnl := h.nt.lt
  have hll := h.lfm.lt
  have gt : g ≠ t := fun e => hg.elim (fun e' => h.ft (e ▸ e')) (fun e' => by omega)
  have gn : g ≠ s.nb := fun e => hg.elim (fun e' => h.fn (e ▸ e')) (fun e' => by omega)
  have gl : g ≠ s.lf := fun e => hg.elim (fun e' => h.lv (e ▸ e')) (fun e' => by omega)
  have hm : Mod (· = t) w3 (w3.setCell ⟨t, 1, none⟩ (.slice (some ⟨g, 0, none⟩) (F.length + 1) c)) := Mod.set (S := (· = t)) (Mod.refl _ _) (.inl rfl)
  rw [ints_snoc] at hown
  refine ⟨⟨Blk.put (i := 1) (h.blk.mod hmod h.ft), (h.nt.mod hmod h.fn).mod hm (fun e => h.tn e.symm), ?_, (h.lfm.mod hmod h.lv).mod hm h.lt, h.tn, fun e => gt (Option.some.inj e), fun e => gn (Option.some.inj e), h.lt, h.ln, fun e => gl (Option.some.inj e)⟩, (hmod.mono fun _ _ e => .inr (.inr (.inl e))).trans (hm.mono fun _ _ e => .inl e), ?_⟩
  · rw [List.length_append]
    exact row_mod hown hm (fun _ e e' => gt ((Option.some.inj e).trans e'))
  · rcases hg with e | e
    · exact .inl e.symm
    · exact .inr (fun b e' => by have e2 : g = b := Option.some.inj e'; omega)
/-- out: the only one taken -/
def OutTop (w : World) (t : Nat) (s : BT) (M : Nat → Nat → Int) (F : List Nat) (m n : Nat) (f : Int → Option Nat) (k : Nat) (id : Int) (e : Ending) (w' : World) : Prop :=
  e = .returned (.tuple #[]) ∧ ∃ fv', TW w' t { s with som := false, fv := fv' } M (F ++ [k]) m (n - 1) (fun y => if y = id then none else f y) ∧ FvPost w w' s.fv fv' ∧ Mod (TB t s) w w'
set_option maxRecDepth 100000 in
set_option maxHeartbeats 8000000 in
theorem out_top (w : World) (t : Nat) (s : BT) (M : Nat → Nat → Int) (F : List Nat) (m n : Nat) (f : Int → Option Nat) (k : Nat) (id_ : Int) (hW : TW w t s M F m n f) (hk : k < s.nn) (hid : M k 9 = id_) (hkey : keyOf Tryz.prog 3 (.int .i64 id_) = some (.int .i64 id_)) (hf : (f id_).isSome = true) (h6 : M k 6 = -1) (hF : F.length < 900000) :
    Calls Tryz.prog 45 #[.pointer (some ⟨t, 0, none⟩), .int .i64 (k : Int)] w (OutTop w t s M F m n f k id_) := by
  have HW := Lib.hid hW
  have HB : Hid (Blk w t #[.slice (some ⟨s.nb, 0, none⟩) s.nn s.cap, s.fv, .int .i64 s.root, .bool s.som, .map (some s.lf), .map (some s.bx), .int .i64 s.fat]) := Lib.hid hW.blk
  have HID := Lib.hid hid
  have HKEY := Lib.hid hkey
  have HFK := Lib.hid hf
  have HK := Lib.hid hk
  have HFL := Lib.hid hF
  have H6 := Lib.hid h6
  have q9 : w.cell? ⟨s.nb, k * 11 + 9, none⟩ = some (.int .i64 id_) := by rw [← hid]; exact hW.nt.cell hk (j := 9) (by decide)
  obtain ⟨zt, ct, ft⟩ := id HB.out
  have hbl : s.nb < w.heap.size := hW.nt.lt
  clear hW hid hkey hf hF h6
  go_enter Tryz.func45, Tryz.ntmps45
  go_upto_region 0 with fail
  have hmc := more_cell
  refine region_quiet_but 12 (by kernel_rfl) (by kernel_rfl) ?_
  simp only [List.take_succ_cons, List.take_zero, List.drop_succ_cons, List.drop_zero]
  repeat (go_big_quiet_step (fail))
  refine wpQuiet_nil ?_
  rintro w1 hw1
  have hb1 := after_below hw1
  clear hw1 hmc zt ct ft q9 hbl
  have HW1 := Lib.hid (HW.out.below hb1)
  have HM1 : Hid (Mod (TB t s) w w1) := Lib.hid (Mod.of_below hb1)
  clear hb1
  refine at_delT rfl (.tmp 10) (.tmp 18) rfl Tryz.underlying87 rfl HW1.out.lfm rfl HKEY.out (by rw [Option.isSome_map]; exact HFK.out) ?_
  intro w2 h2 k2
  have HM2 : Hid (Mod (TB t s) w w2) := Lib.hid (HM1.out.trans (k2.mono fun _ _ e => .inr (.inr (.inr e))))
  rw [f_less] at h2
  have HW2 := Lib.hid (HW1.out.leaf k2 h2)
  clear h2 k2
  have HB2 : Hid (Blk w2 t #[.slice (some ⟨s.nb, 0, none⟩) s.nn s.cap, s.fv, .int .i64 s.root, .bool s.som, .map (some s.lf), .map (some s.bx), .int .i64 s.fat]) := Lib.hid HW2.out.blk
  have HID2 : Hid (w2.heap.size ≥ w.heap.size) := Lib.hid HM2.out.size
  obtain ⟨zt, ct, ft⟩ := id HB2.out
  have q6 : w2.cell? ⟨s.nb, k * 11 + 6, none⟩ = some (.int .i64 (-1)) := by rw [← H6.out]; exact HW2.out.nt.cell HK.out (j := 6) (by decide)
  go_upto_region 2 with fail
  clear q6
  go_upto_region 3 with (at_builtin; go_must (refine app_one rfl (.tmp 31) (.tmp 33) 86 rfl Tryz.underlying86 intInfoT rfl (by decide) (by decide) 0 s.fv (F).length _ rfl HW2.out.free #[.int .i64 (k : Int)] rfl rfl rfl (one_int _ _) (by have := HFL.out; omega) (Nat.zero_le _) ?_; intro g' c' w3 hown hmod hwh hbg; have HOWN := Lib.hid hown; have HMOD := Lib.hid hmod; have HWH := Lib.hid hwh; have HB3 := HB2.out.mod hmod HW2.out.ft; obtain ⟨zt3, ct3, ft3⟩ := HB3; clear hown hmod hwh hbg))
  refine wp_named ?_
  rintro w4 hw4
  obtain ⟨hW4, hM4, hV4⟩ := HW2.out.push HOWN.out HMOD.out HWH.out
  rw [← hw4] at hW4 hM4
  have HW4 := Lib.hid hW4
  have HM4 : Hid (Mod (TB t s) w w4) := Lib.hid (HM2.out.trans hM4)
  have HV4 : Hid (FvPost w w4 s.fv (.slice (some ⟨g', 0, none⟩) (F.length + 1) c')) := Lib.hid (hV4.imp id fun h b e => Nat.le_trans HID2.out (h b e))
  have HB4 : Hid (Blk w4 t #[.slice (some ⟨s.nb, 0, none⟩) s.nn s.cap, .slice (some ⟨g', 0, none⟩) (F.length + 1) c', .int .i64 s.root, .bool s.som, .map (some s.lf), .map (some s.bx), .int .i64 s.fat]) := Lib.hid hW4.blk
  clear hW4 hM4 hV4 hw4 zt ct ft zt3 ct3 ft3 HOWN HMOD HWH
  obtain ⟨zt, ct, ft⟩ := id HB4.out
  go_wp2_with fail
  (try simp only [Exit.inBlock, Exit.then]); refine bodyPost_ret (results_none rfl _ _ _) rfl ?_
  have hm5 : Mod (· = t) w4 (w4.setCell ⟨t, 3, none⟩ (.bool false)) := Mod.set (S := (· = t)) (Mod.refl _ _) (.inl rfl)
  have h4 := HW4.out
  exact ⟨rfl, _, ⟨Blk.put (i := 3) HB4.out, h4.nt.mod hm5 (fun e => h4.tn e.symm), row_mod h4.free hm5 (fun _ e e' => h4.ft (e' ▸ e)), h4.lfm.mod hm5 h4.lt, h4.tn, h4.ft, h4.fn, h4.lt, h4.ln, h4.lv⟩, HV4.out, HM4.out.trans (hm5.mono fun _ _ e => .inl e)⟩
theorem TW.nodes {w w' : World} {t : Nat} {s : BT} {M M' : Nat → Nat → Int} {F : List Nat} {m n : Nat} {f : Int → Option Nat} {rt : Int} (h : TW w t s M F m n f) (k : Mod (fun x => x = t ∨ x = s.nb) w w') (hb : Blk w' t { s with root := rt }.cs) (hn : NT w' s.nb s.cap s.nn M') : TW w' t { s with root := rt } M' F m n f :=
  ⟨hb, hn, row_mod h.free k (fun _ e e' => e'.elim (fun e2 => h.ft (e2 ▸ e)) (fun e2 => h.fn (e2 ▸ e))), h.lfm.mod k (fun e' => e'.elim h.lt h.ln), h.tn, h.ft, h.fn, h.lt, h.ln, h.lv⟩
theorem hangM_put6 {M : Nat → Nat → Int} {o x j : Nat} {v up was is : Int} (h : x ≠ o ∨ j ≠ 6) : hangM (put1 M o 6 v) up was is x j = hangM M up was is x j := by
  have e : ∀ y, put1 M o 6 v y 7 = M y 7 := fun y => by simp [put1]
  have e2 : put1 M o 6 v x j = M x j := by
    unfold put1
    rw [if_neg]
    rintro ⟨e1, e2⟩
    exact h.elim (fun h => h e1) (fun h => h e2)
  unfold hangM
  rw [e]
  split
  · exact e2
  · split
    · unfold put1 at e2 ⊢
      rw [e2]
    · unfold put1 at e2 ⊢
      rw [e2]
/-- a leaf and the node above it taken out: the other one is hung in -/
theorem out_step {M : Nat → Nat → Int} {root : Int} {U : Nat} {O : Tr} {c : Cx} (hO : Rep M U O) (hC : RepC M root U c) (hnd : (U :: (O.all ++ c.all)).Nodup) :
    Rep (hangM (put1 M O.ix 6 c.up) c.up U O.ix) c.up O ∧ RepC (hangM (put1 M O.ix 6 c.up) c.up U O.ix) (hangR root c.up O.ix) O.ix c ∧ Kept M (hangM (put1 M O.ix 6 c.up) c.up U O.ix) (O.all ++ c.all) (O.lvs ++ c.lvs) ∧ ∀ x, hangM (put1 M O.ix 6 c.up) c.up U O.ix x 10 = M x 10 := by
  obtain ⟨h1, h2⟩ := List.nodup_cons.1 hnd
  obtain ⟨h3, h4, h5⟩ := List.nodup_append.1 h2
  have upc : ∀ x : Nat, 0 ≤ c.up → x = c.up.toNat → x ∈ c.all := fun x h0 e => Cx.up_mem (by omega)
  have far : ∀ x j, (0 ≤ c.up → x = c.up.toNat → j ≠ 7 ∧ j ≠ 8) → (x ≠ O.ix ∨ j ≠ 6) → hangM (put1 M O.ix 6 c.up) c.up U O.ix x j = M x j := fun x j ha hb => by
    rw [hangM_put6 hb, hangM_other ha]
  have o6 : hangM (put1 M O.ix 6 c.up) c.up U O.ix O.ix 6 = c.up := by
    rw [hangM_other (fun _ _ => by omega)]
    simp [put1]
  have inO : ∀ x ∈ O.all, ∀ j, 0 ≤ c.up → x = c.up.toNat → j ≠ 7 ∧ j ≠ 8 := fun x hx j h0 e => absurd rfl (h5 x hx x (upc x h0 e))
  refine ⟨hO.move h3 (fun x hx j hj => far x j (inO x hx j) (.inr hj)) (fun x hx hne => far x 6 (inO x hx 6) (.inl hne)) o6, hC.hang h4 (fun h => h1 (List.mem_append_right _ h)) (fun x hx j => hangM_put6 (.inl fun e => h5 _ O.ix_mem x hx e.symm)) o6, ⟨fun x hx j => ?_, fun x hx j hj => ?_⟩, fun x => far x 10 (fun _ _ => by omega) (.inr (by omega))⟩
  · exact far x j (fun h0 e => absurd (List.mem_append_right _ (upc x h0 e)) hx) (.inl fun e => hx (by rw [e]; exact List.mem_append_left _ O.ix_mem))
  · refine far x j (fun h0 e => ?_) (.inr hj)
    rcases List.mem_append.1 hx with h | h
    · exact inO x (O.lvs_sub x h) j h0 e
    · exact absurd (show (x : Int) = c.up by omega) (Cx.up_no h4 x h)
/-- out: a leaf that has a node above it -/
def OutUp (w : World) (t : Nat) (s : BT) (M : Nat → Nat → Int) (F : List Nat) (m n : Nat) (f : Int → Option Nat) (k : Nat) (id : Int) (U : Nat) (O : Tr) (c : Cx) (e : Ending) (w' : World) : Prop :=
  e = .returned (.tuple #[]) ∧ ∃ fv' M' T', TW w' t { s with root := (T'.ix : Int), fv := fv' } M' (F ++ [k] ++ [U]) m (n - 1) (fun y => if y = id then none else f y) ∧ Rep M' (-1) T' ∧ T'.all.Perm (O.all ++ c.all) ∧ T'.lvs.Perm (O.lvs ++ c.lvs) ∧ Kept M M' (O.all ++ c.all) (O.lvs ++ c.lvs) ∧ (∀ x, x < s.nn → 0 ≤ M' x 10 ∧ M' x 10 ≤ 1000000) ∧ Mends O c T' .top ∧ FvPost w w' s.fv fv' ∧ Mod (TB t s) w w'
set_option maxRecDepth 100000 in
set_option maxHeartbeats 8000000 in
theorem out_lft (w : World) (t : Nat) (s : BT) (M : Nat → Nat → Int) (F : List Nat) (m n : Nat) (f : Int → Option Nat) (k : Nat) (id_ : Int) (U : Nat) (O : Tr) (c : Cx) (hW : TW w t s M F m n f) (hid : M k 9 = id_) (hkey : keyOf Tryz.prog 3 (.int .i64 id_) = some (.int .i64 id_)) (hf : (f id_).isSome = true) (hC : RepC M s.root k (.lft U c O)) (hnd : (k :: U :: (O.all ++ c.all)).Nodup) (hall : ∀ x ∈ k :: U :: (O.all ++ c.all), x < s.nn) (hlen : (O.all ++ c.all).length ≤ 1000000) (hh : ∀ x, x < s.nn → 0 ≤ M x 10 ∧ M x 10 ≤ 1000000) (hF : F.length < 800000) :
    Calls Tryz.prog 45 #[.pointer (some ⟨t, 0, none⟩), .int .i64 (k : Int)] w (OutUp w t s M F m n f k id_ U O c) := by
  obtain ⟨h6, h7, h8, hO, hCU⟩ := hC
  have hk : k < s.nn := hall k (by simp)
  have HQ : Hid (M k 6 = (U : Int) ∧ M U 7 = (k : Int) ∧ M U 8 = (O.ix : Int) ∧ M U 6 = c.up) := Lib.hid ⟨h6, h7, h8, hCU.up⟩
  have hnd1 := (List.nodup_cons.1 hnd).2
  have HST := Lib.hid (out_step hO hCU hnd1)
  have HND : Hid ((O.all ++ c.all).Nodup) := Lib.hid (List.nodup_cons.1 hnd1).2
  have HALL : Hid (∀ x ∈ O.all ++ c.all, x < s.nn) := Lib.hid fun x hx => hall x (by simp only [List.mem_cons]; exact .inr (.inr hx))
  have HUN : Hid (U < s.nn ∧ O.ix < s.nn) := Lib.hid ⟨hall U (by simp), hall O.ix (by simp [O.ix_mem])⟩
  have HLEN := Lib.hid hlen
  have HH := Lib.hid hh
  have HOK : Hid (O.ix ≠ k) := Lib.hid fun e => (List.nodup_cons.1 hnd).1 (by rw [← e]; simp [O.ix_mem])
  have HW := Lib.hid hW
  have HB : Hid (Blk w t #[.slice (some ⟨s.nb, 0, none⟩) s.nn s.cap, s.fv, .int .i64 s.root, .bool s.som, .map (some s.lf), .map (some s.bx), .int .i64 s.fat]) := Lib.hid hW.blk
  have HID := Lib.hid hid
  have HKEY := Lib.hid hkey
  have HFK := Lib.hid hf
  have HK := Lib.hid hk
  have HFL := Lib.hid hF
  have q9 : w.cell? ⟨s.nb, k * 11 + 9, none⟩ = some (.int .i64 id_) := by rw [← hid]; exact hW.nt.cell hk (j := 9) (by decide)
  obtain ⟨zt, ct, ft⟩ := id HB.out
  have hbl : s.nb < w.heap.size := hW.nt.lt
  clear hW hid hkey hf hF h6 h7 h8 hO hCU hnd1 hnd hall hlen hh
  go_enter Tryz.func45, Tryz.ntmps45
  go_upto_region 0 with fail
  have hmc := more_cell
  refine region_quiet_but 12 (by kernel_rfl) (by kernel_rfl) ?_
  simp only [List.take_succ_cons, List.take_zero, List.drop_succ_cons, List.drop_zero]
  repeat (go_big_quiet_step (fail))
  refine wpQuiet_nil ?_
  rintro w1 hw1
  have hb1 := after_below hw1
  clear hw1 hmc zt ct ft q9 hbl
  have HW1 := Lib.hid (HW.out.below hb1)
  have HM1 : Hid (Mod (TB t s) w w1) := Lib.hid (Mod.of_below hb1)
  clear hb1
  refine at_delT rfl (.tmp 10) (.tmp 18) rfl Tryz.underlying87 rfl HW1.out.lfm rfl HKEY.out (by rw [Option.isSome_map]; exact HFK.out) ?_
  intro w2 h2 k2
  have HM2 : Hid (Mod (TB t s) w w2) := Lib.hid (HM1.out.trans (k2.mono fun _ _ e => .inr (.inr (.inr e))))
  rw [f_less] at h2
  have HW2 := Lib.hid (HW1.out.leaf k2 h2)
  clear h2 k2
  have HB2 : Hid (Blk w2 t #[.slice (some ⟨s.nb, 0, none⟩) s.nn s.cap, s.fv, .int .i64 s.root, .bool s.som, .map (some s.lf), .map (some s.bx), .int .i64 s.fat]) := Lib.hid HW2.out.blk
  have HID2 : Hid (w2.heap.size ≥ w.heap.size) := Lib.hid HM2.out.size
  obtain ⟨zt, ct, ft⟩ := id HB2.out
  have q6 : w2.cell? ⟨s.nb, k * 11 + 6, none⟩ = some (.int .i64 (U : Int)) := by rw [← HQ.out.1]; exact HW2.out.nt.cell HK.out (j := 6) (by decide)
  go_upto_region 2 with fail
  clear q6
  go_upto_region 3 with (at_builtin; go_must (refine app_one rfl (.tmp 31) (.tmp 33) 86 rfl Tryz.underlying86 intInfoT rfl (by decide) (by decide) 0 s.fv (F).length _ rfl HW2.out.free #[.int .i64 (k : Int)] rfl rfl rfl (one_int _ _) (by have := HFL.out; omega) (Nat.zero_le _) ?_; intro g' c' w3 hown hmod hwh hbg; have HOWN := Lib.hid hown; have HMOD := Lib.hid hmod; have HWH := Lib.hid hwh; have HB3 := HB2.out.mod hmod HW2.out.ft; obtain ⟨zt3, ct3, ft3⟩ := HB3; clear hown hmod hwh hbg))
  refine wp_named ?_
  rintro w4 hw4
  obtain ⟨hW4, hM4, hV4⟩ := HW2.out.push HOWN.out HMOD.out HWH.out
  rw [← hw4] at hW4 hM4
  have HM4 : Hid (Mod (TB t s) w w4) := Lib.hid (HM2.out.trans hM4)
  have HV4 : Hid (FvPost w w4 s.fv (.slice (some ⟨g', 0, none⟩) (F.length + 1) c')) := Lib.hid (hV4.imp id fun h b e => Nat.le_trans HID2.out (h b e))
  obtain ⟨fv4, hfv4⟩ : ∃ v : Value, v = .slice (some ⟨g', 0, none⟩) (F.length + 1) c' := ⟨_, rfl⟩
  rw [← hfv4] at hW4 HV4
  have HW4 := Lib.hid hW4
  have HB4 : Hid (Blk w4 t #[.slice (some ⟨s.nb, 0, none⟩) s.nn s.cap, fv4, .int .i64 s.root, .bool s.som, .map (some s.lf), .map (some s.bx), .int .i64 s.fat]) := Lib.hid hW4.blk
  clear hW4 hM4 hV4 hw4 zt ct ft zt3 ct3 ft3 HOWN HMOD HWH hfv4
  obtain ⟨zt, ct, ft⟩ := id HB4.out
  have hbl : s.nb < w4.heap.size := HW4.out.nt.lt
  obtain ⟨oo, hoo⟩ : ∃ x : Nat, x = O.ix := ⟨_, rfl⟩
  obtain ⟨aa, haa⟩ : ∃ x : Int, x = c.up := ⟨_, rfl⟩
  have HOO := Lib.hid (And.intro hoo haa)
  have hun : U < s.nn := HUN.out.1
  have hon : oo < s.nn := hoo ▸ HUN.out.2
  have q6 : w4.cell? ⟨s.nb, U * 11 + 6, none⟩ = some (.int .i64 aa) := by rw [haa, ← HQ.out.2.2.2]; exact HW4.out.nt.cell hun (j := 6) (by decide)
  have q7 : w4.cell? ⟨s.nb, U * 11 + 7, none⟩ = some (.int .i64 (k : Int)) := by rw [← HQ.out.2.1]; exact HW4.out.nt.cell hun (j := 7) (by decide)
  have q8 : w4.cell? ⟨s.nb, U * 11 + 8, none⟩ = some (.int .i64 (oo : Int)) := by rw [hoo]; rw [← HQ.out.2.2.1]; exact HW4.out.nt.cell hun (j := 8) (by decide)
  have qo := HW4.out.nt.cell hon (j := 6) (by decide)
  have fq := HW4.out.nt.free
  have d0 : decide ((U : Int) < 0) = false := decide_eq_false (by omega)
  clear hoo haa
  go_upto_region 10 with fail
  refine wp_named ?_
  rintro w5 hw5
  have hW5 : TW w5 t { s with fv := fv4 } (put1 M oo 6 aa) (F ++ [k]) m (n - 1) (fun y => if y = id_ then none else f y) := by
    have hm : Mod (fun x => x = t ∨ x = s.nb) w4 w5 := by rw [hw5]; exact Mod.set (Mod.refl _ _) (.inl (.inr rfl))
    exact HW4.out.nodes (rt := s.root) hm (by rw [hw5]; exact Blk.far (fun e => HW4.out.tn e.symm) HB4.out) (by rw [hw5]; exact HW4.out.nt.set hon (j := 6) (by decide) aa)
  have HW5 := Lib.hid hW5
  have HM5 : Hid (Mod (TB t s) w w5) := Lib.hid (HM4.out.trans (by rw [hw5]; exact Mod.set (Mod.refl _ _) (.inl (.inr (.inl rfl)))))
  have HSZ5 : Hid (w4.heap.size ≤ w5.heap.size) := Lib.hid (by rw [hw5]; exact (Mod.set (S := (· = s.nb)) (Mod.refl _ w4) (.inl rfl)).size)
  have hup : aa < (s.nn : Int) := by
    rw [HOO.out.2]
    rcases Int.lt_or_le c.up 0 with h | h
    · omega
    · have := HALL.out c.up.toNat (List.mem_append_right _ (Cx.up_mem (by omega)))
      omega
  clear hW5 hw5 zt ct ft hbl hun hon q6 q7 q8 qo fq d0 
  go_wp2_with fail
  refine (hang_c _ t { s with fv := fv4 } (put1 M oo 6 aa) aa U oo HW5.out.blk HW5.out.nt HW5.out.tn hup).mono ?_
  rintro e w6 ⟨rfl, hB6, hN6, hM6⟩
  have hW6 := HW5.out.nodes (rt := hangR s.root aa oo) hM6 hB6 hN6
  have HM6 : Hid (Mod (TB t s) w w6) := Lib.hid (HM5.out.trans (hM6.mono fun _ _ e => e.elim .inl (fun e => .inr (.inl e))))
  have HSZ6 : Hid (w.heap.size ≤ w6.heap.size) := Lib.hid HM6.out.size
  obtain ⟨rt6, hrt6⟩ : ∃ x, x = hangR s.root aa oo := ⟨_, rfl⟩
  obtain ⟨M1, hM1⟩ : ∃ x, x = hangM (put1 M oo 6 aa) aa U oo := ⟨_, rfl⟩
  obtain ⟨F2, hF2⟩ : ∃ x, x = F ++ [k] := ⟨_, rfl⟩
  rw [← hrt6, ← hM1, ← hF2] at hW6
  have HF2 := Lib.hid hF2
  have HRM := Lib.hid (And.intro hrt6 hM1)
  have HW6 := Lib.hid hW6
  have HB6 : Hid (Blk w6 t #[.slice (some ⟨s.nb, 0, none⟩) s.nn s.cap, fv4, .int .i64 rt6, .bool s.som, .map (some s.lf), .map (some s.bx), .int .i64 s.fat]) := Lib.hid hW6.blk
  have HFL6 : Hid (F2.length < 1000000) := Lib.hid (by rw [hF2, List.length_append]; have := HFL.out; simp; omega)
  clear hB6 hN6 hM6 hW6 hrt6 hM1 hup hF2
  obtain ⟨zt, ct, ft⟩ := id HB6.out
  go_upto_region 11 with fail
  go_upto_region 12 with (at_builtin; go_must (refine app_one rfl (.tmp 86) (.tmp 88) 86 rfl Tryz.underlying86 intInfoT rfl (by decide) (by decide) 0 fv4 (F2).length _ rfl HW6.out.free #[.int .i64 (U : Int)] rfl rfl rfl (one_int _ _) (HFL6.out) (Nat.zero_le _) ?_; intro g2 c2 w7 hown hmod hwh hbg; have HOWN := Lib.hid hown; have HMOD := Lib.hid hmod; have HWH := Lib.hid hwh; have HB7 := HB6.out.mod hmod HW6.out.ft; obtain ⟨zt7, ct7, ft7⟩ := HB7; clear hown hmod hwh hbg))
  refine wp_named ?_
  rintro w8 hw8
  obtain ⟨hW8, hM8, hV8⟩ := HW6.out.push HOWN.out HMOD.out HWH.out
  rw [← hw8] at hW8 hM8
  have HV8 : Hid (FvPost w w8 s.fv (.slice (some ⟨g2, 0, none⟩) (F2.length + 1) c2)) := Lib.hid (by
    rcases hV8 with e | e
    · rcases HV4.out with e' | e'
      · exact .inl (e.trans e')
      · exact .inr (fun b h => e' b (e ▸ h))
    · exact .inr (fun b h => Nat.le_trans HSZ6.out (e b h)))
  have HW8 := Lib.hid hW8
  have HM8 : Hid (Mod (TB t s) w w8) := Lib.hid (HM6.out.trans2 hM8 (fun b hb h => by
    rcases h with h | h | h | h
    · exact .inl h
    · exact .inr (.inl h)
    · rcases HV4.out with e | e
      · exact .inr (.inr (.inl (e ▸ h)))
      · exact absurd (e b h) (by omega)
    · exact .inr (.inr (.inr h))))
  clear hW8 hM8 hV8 hw8 zt ct ft zt7 ct7 ft7 HOWN HMOD HWH
  obtain ⟨hoo, haa⟩ := HOO.out
  subst hoo haa
  obtain ⟨hrt, hM1⟩ := HRM.out
  subst hrt hM1
  go_wp2_with fail
  refine (mend_c _ t _ _ O c (O.all ++ c.all) (O.lvs ++ c.lvs) HW8.out.tn HND.out HALL.out HLEN.out HW8.out.blk HW8.out.nt HST.out.1 HST.out.2.1 (List.Perm.refl _) (List.Perm.refl _) (fun x hx => by rw [HST.out.2.2.2 x]; exact HH.out x hx)).mono ?_
  rintro e w9 ⟨rfl, M', T', hR⟩
  have HR := Lib.hid hR
  clear hR
  go_wp2
  go_end0
  have r := HR.out
  have eF := HF2.out
  subst eF
  refine ⟨rfl, _, M', T', HW8.out.nodes (rt := (T'.ix : Int)) r.mod r.blk r.nt, r.rep, ?_, ?_, HST.out.2.2.1.trans r.kept, r.high, r.men, HV8.out, HM8.out.trans (r.mod.mono fun _ _ e => e.elim .inl (fun e => .inr (.inl e)))⟩
  · have := r.perm
    simpa [Cx.all] using this
  · have := r.plv
    simpa [Cx.lvs] using this
set_option maxRecDepth 100000 in
set_option maxHeartbeats 8000000 in
theorem out_rgt (w : World) (t : Nat) (s : BT) (M : Nat → Nat → Int) (F : List Nat) (m n : Nat) (f : Int → Option Nat) (k : Nat) (id_ : Int) (U : Nat) (O : Tr) (c : Cx) (hW : TW w t s M F m n f) (hid : M k 9 = id_) (hkey : keyOf Tryz.prog 3 (.int .i64 id_) = some (.int .i64 id_)) (hf : (f id_).isSome = true) (hC : RepC M s.root k (.rgt U O c)) (hnd : (k :: U :: (O.all ++ c.all)).Nodup) (hall : ∀ x ∈ k :: U :: (O.all ++ c.all), x < s.nn) (hlen : (O.all ++ c.all).length ≤ 1000000) (hh : ∀ x, x < s.nn → 0 ≤ M x 10 ∧ M x 10 ≤ 1000000) (hF : F.length < 800000) :
    Calls Tryz.prog 45 #[.pointer (some ⟨t, 0, none⟩), .int .i64 (k : Int)] w (OutUp w t s M F m n f k id_ U O c) := by
  obtain ⟨h6, h7, h8, hO, hCU⟩ := hC
  have hk : k < s.nn := hall k (by simp)
  have HQ : Hid (M k 6 = (U : Int) ∧ M U 7 = (O.ix : Int) ∧ M U 8 = (k : Int) ∧ M U 6 = c.up) := Lib.hid ⟨h6, h7, h8, hCU.up⟩
  have hnd1 := (List.nodup_cons.1 hnd).2
  have HST := Lib.hid (out_step hO hCU hnd1)
  have HND : Hid ((O.all ++ c.all).Nodup) := Lib.hid (List.nodup_cons.1 hnd1).2
  have HALL : Hid (∀ x ∈ O.all ++ c.all, x < s.nn) := Lib.hid fun x hx => hall x (by simp only [List.mem_cons]; exact .inr (.inr hx))
  have HUN : Hid (U < s.nn ∧ O.ix < s.nn) := Lib.hid ⟨hall U (by simp), hall O.ix (by simp [O.ix_mem])⟩
  have HLEN := Lib.hid hlen
  have HH := Lib.hid hh
  have HOK : Hid (O.ix ≠ k) := Lib.hid fun e => (List.nodup_cons.1 hnd).1 (by rw [← e]; simp [O.ix_mem])
  have HW := Lib.hid hW
  have HB : Hid (Blk w t #[.slice (some ⟨s.nb, 0, none⟩) s.nn s.cap, s.fv, .int .i64 s.root, .bool s.som, .map (some s.lf), .map (some s.bx), .int .i64 s.fat]) := Lib.hid hW.blk
  have HID := Lib.hid hid
  have HKEY := Lib.hid hkey
  have HFK := Lib.hid hf
  have HK := Lib.hid hk
  have HFL := Lib.hid hF
  have q9 : w.cell? ⟨s.nb, k * 11 + 9, none⟩ = some (.int .i64 id_) := by rw [← hid]; exact hW.nt.cell hk (j := 9) (by decide)
  obtain ⟨zt, ct, ft⟩ := id HB.out
  have hbl : s.nb < w.heap.size := hW.nt.lt
  clear hW hid hkey hf hF h6 h7 h8 hO hCU hnd1 hnd hall hlen hh
  go_enter Tryz.func45, Tryz.ntmps45
  go_upto_region 0 with fail
  have hmc := more_cell
  refine region_quiet_but 12 (by kernel_rfl) (by kernel_rfl) ?_
  simp only [List.take_succ_cons, List.take_zero, List.drop_succ_cons, List.drop_zero]
  repeat (go_big_quiet_step (fail))
  refine wpQuiet_nil ?_
  rintro w1 hw1
  have hb1 := after_below hw1
  clear hw1 hmc zt ct ft q9 hbl
  have HW1 := Lib.hid (HW.out.below hb1)
  have HM1 : Hid (Mod (TB t s) w w1) := Lib.hid (Mod.of_below hb1)
  clear hb1
  refine at_delT rfl (.tmp 10) (.tmp 18) rfl Tryz.underlying87 rfl HW1.out.lfm rfl HKEY.out (by rw [Option.isSome_map]; exact HFK.out) ?_
  intro w2 h2 k2
  have HM2 : Hid (Mod (TB t s) w w2) := Lib.hid (HM1.out.trans (k2.mono fun _ _ e => .inr (.inr (.inr e))))
  rw [f_less] at h2
  have HW2 := Lib.hid (HW1.out.leaf k2 h2)
  clear h2 k2
  have HB2 : Hid (Blk w2 t #[.slice (some ⟨s.nb, 0, none⟩) s.nn s.cap, s.fv, .int .i64 s.root, .bool s.som, .map (some s.lf), .map (some s.bx), .int .i64 s.fat]) := Lib.hid HW2.out.blk
  have HID2 : Hid (w2.heap.size ≥ w.heap.size) := Lib.hid HM2.out.size
  obtain ⟨zt, ct, ft⟩ := id HB2.out
  have q6 : w2.cell? ⟨s.nb, k * 11 + 6, none⟩ = some (.int .i64 (U : Int)) := by rw [← HQ.out.1]; exact HW2.out.nt.cell HK.out (j := 6) (by decide)
  go_upto_region 2 with fail
  clear q6
  go_upto_region 3 with (at_builtin; go_must (refine app_one rfl (.tmp 31) (.tmp 33) 86 rfl Tryz.underlying86 intInfoT rfl (by decide) (by decide) 0 s.fv (F).length _ rfl HW2.out.free #[.int .i64 (k : Int)] rfl rfl rfl (one_int _ _) (by have := HFL.out; omega) (Nat.zero_le _) ?_; intro g' c' w3 hown hmod hwh hbg; have HOWN := Lib.hid hown; have HMOD := Lib.hid hmod; have HWH := Lib.hid hwh; have HB3 := HB2.out.mod hmod HW2.out.ft; obtain ⟨zt3, ct3, ft3⟩ := HB3; clear hown hmod hwh hbg))
  refine wp_named ?_
  rintro w4 hw4
  obtain ⟨hW4, hM4, hV4⟩ := HW2.out.push HOWN.out HMOD.out HWH.out
  rw [← hw4] at hW4 hM4
  have HM4 : Hid (Mod (TB t s) w w4) := Lib.hid (HM2.out.trans hM4)
  have HV4 : Hid (FvPost w w4 s.fv (.slice (some ⟨g', 0, none⟩) (F.length + 1) c')) := Lib.hid (hV4.imp id fun h b e => Nat.le_trans HID2.out (h b e))
  obtain ⟨fv4, hfv4⟩ : ∃ v : Value, v = .slice (some ⟨g', 0, none⟩) (F.length + 1) c' := ⟨_, rfl⟩
  rw [← hfv4] at hW4 HV4
  have HW4 := Lib.hid hW4
  have HB4 : Hid (Blk w4 t #[.slice (some ⟨s.nb, 0, none⟩) s.nn s.cap, fv4, .int .i64 s.root, .bool s.som, .map (some s.lf), .map (some s.bx), .int .i64 s.fat]) := Lib.hid hW4.blk
  clear hW4 hM4 hV4 hw4 zt ct ft zt3 ct3 ft3 HOWN HMOD HWH hfv4
  obtain ⟨zt, ct, ft⟩ := id HB4.out
  have hbl : s.nb < w4.heap.size := HW4.out.nt.lt
  obtain ⟨oo, hoo⟩ : ∃ x : Nat, x = O.ix := ⟨_, rfl⟩
  obtain ⟨aa, haa⟩ : ∃ x : Int, x = c.up := ⟨_, rfl⟩
  have HOO := Lib.hid (And.intro hoo haa)
  have hun : U < s.nn := HUN.out.1
  have hon : oo < s.nn := hoo ▸ HUN.out.2
  have q6 : w4.cell? ⟨s.nb, U * 11 + 6, none⟩ = some (.int .i64 aa) := by rw [haa, ← HQ.out.2.2.2]; exact HW4.out.nt.cell hun (j := 6) (by decide)
  have q7 : w4.cell? ⟨s.nb, U * 11 + 7, none⟩ = some (.int .i64 (oo : Int)) := by rw [hoo]; rw [← HQ.out.2.1]; exact HW4.out.nt.cell hun (j := 7) (by decide)
  have q8 : w4.cell? ⟨s.nb, U * 11 + 8, none⟩ = some (.int .i64 (k : Int)) := by rw [← HQ.out.2.2.1]; exact HW4.out.nt.cell hun (j := 8) (by decide)
  have qo := HW4.out.nt.cell hon (j := 6) (by decide)
  have fq := HW4.out.nt.free
  have d0 : decide ((U : Int) < 0) = false := decide_eq_false (by omega)
  have dk : ((oo : Int) == (k : Int)) = false := by have := HOK.out; simp; omega
  clear hoo haa
  go_upto_region 10 with fail
  refine wp_named ?_
  rintro w5 hw5
  have hW5 : TW w5 t { s with fv := fv4 } (put1 M oo 6 aa) (F ++ [k]) m (n - 1) (fun y => if y = id_ then none else f y) := by
    have hm : Mod (fun x => x = t ∨ x = s.nb) w4 w5 := by rw [hw5]; exact Mod.set (Mod.refl _ _) (.inl (.inr rfl))
    exact HW4.out.nodes (rt := s.root) hm (by rw [hw5]; exact Blk.far (fun e => HW4.out.tn e.symm) HB4.out) (by rw [hw5]; exact HW4.out.nt.set hon (j := 6) (by decide) aa)
  have HW5 := Lib.hid hW5
  have HM5 : Hid (Mod (TB t s) w w5) := Lib.hid (HM4.out.trans (by rw [hw5]; exact Mod.set (Mod.refl _ _) (.inl (.inr (.inl rfl)))))
  have HSZ5 : Hid (w4.heap.size ≤ w5.heap.size) := Lib.hid (by rw [hw5]; exact (Mod.set (S := (· = s.nb)) (Mod.refl _ w4) (.inl rfl)).size)
  have hup : aa < (s.nn : Int) := by
    rw [HOO.out.2]
    rcases Int.lt_or_le c.up 0 with h | h
    · omega
    · have := HALL.out c.up.toNat (List.mem_append_right _ (Cx.up_mem (by omega)))
      omega
  clear hW5 hw5 zt ct ft hbl hun hon q6 q7 q8 qo fq d0 dk
  go_wp2_with fail
  refine (hang_c _ t { s with fv := fv4 } (put1 M oo 6 aa) aa U oo HW5.out.blk HW5.out.nt HW5.out.tn hup).mono ?_
  rintro e w6 ⟨rfl, hB6, hN6, hM6⟩
  have hW6 := HW5.out.nodes (rt := hangR s.root aa oo) hM6 hB6 hN6
  have HM6 : Hid (Mod (TB t s) w w6) := Lib.hid (HM5.out.trans (hM6.mono fun _ _ e => e.elim .inl (fun e => .inr (.inl e))))
  have HSZ6 : Hid (w.heap.size ≤ w6.heap.size) := Lib.hid HM6.out.size
  obtain ⟨rt6, hrt6⟩ : ∃ x, x = hangR s.root aa oo := ⟨_, rfl⟩
  obtain ⟨M1, hM1⟩ : ∃ x, x = hangM (put1 M oo 6 aa) aa U oo := ⟨_, rfl⟩
  obtain ⟨F2, hF2⟩ : ∃ x, x = F ++ [k] := ⟨_, rfl⟩
  rw [← hrt6, ← hM1, ← hF2] at hW6
  have HF2 := Lib.hid hF2
  have HRM := Lib.hid (And.intro hrt6 hM1)
  have HW6 := Lib.hid hW6
  have HB6 : Hid (Blk w6 t #[.slice (some ⟨s.nb, 0, none⟩) s.nn s.cap, fv4, .int .i64 rt6, .bool s.som, .map (some s.lf), .map (some s.bx), .int .i64 s.fat]) := Lib.hid hW6.blk
  have HFL6 : Hid (F2.length < 1000000) := Lib.hid (by rw [hF2, List.length_append]; have := HFL.out; simp; omega)
  clear hB6 hN6 hM6 hW6 hrt6 hM1 hup hF2
  obtain ⟨zt, ct, ft⟩ := id HB6.out
  go_upto_region 11 with fail
  go_upto_region 12 with (at_builtin; go_must (refine app_one rfl (.tmp 86) (.tmp 88) 86 rfl Tryz.underlying86 intInfoT rfl (by decide) (by decide) 0 fv4 (F2).length _ rfl HW6.out.free #[.int .i64 (U : Int)] rfl rfl rfl (one_int _ _) (HFL6.out) (Nat.zero_le _) ?_; intro g2 c2 w7 hown hmod hwh hbg; have HOWN := Lib.hid hown; have HMOD := Lib.hid hmod; have HWH := Lib.hid hwh; have HB7 := HB6.out.mod hmod HW6.out.ft; obtain ⟨zt7, ct7, ft7⟩ := HB7; clear hown hmod hwh hbg))
  refine wp_named ?_
  rintro w8 hw8
  obtain ⟨hW8, hM8, hV8⟩ := HW6.out.push HOWN.out HMOD.out HWH.out
  rw [← hw8] at hW8 hM8
  have HV8 : Hid (FvPost w w8 s.fv (.slice (some ⟨g2, 0, none⟩) (F2.length + 1) c2)) := Lib.hid (by
    rcases hV8 with e | e
    · rcases HV4.out with e' | e'
      · exact .inl (e.trans e')
      · exact .inr (fun b h => e' b (e ▸ h))
    · exact .inr (fun b h => Nat.le_trans HSZ6.out (e b h)))
  have HW8 := Lib.hid hW8
  have HM8 : Hid (Mod (TB t s) w w8) := Lib.hid (HM6.out.trans2 hM8 (fun b hb h => by
    rcases h with h | h | h | h
    · exact .inl h
    · exact .inr (.inl h)
    · rcases HV4.out with e | e
      · exact .inr (.inr (.inl (e ▸ h)))
      · exact absurd (e b h) (by omega)
    · exact .inr (.inr (.inr h))))
  clear hW8 hM8 hV8 hw8 zt ct ft zt7 ct7 ft7 HOWN HMOD HWH
  obtain ⟨hoo, haa⟩ := HOO.out
  subst hoo haa
  obtain ⟨hrt, hM1⟩ := HRM.out
  subst hrt hM1
  go_wp2_with fail
  refine (mend_c _ t _ _ O c (O.all ++ c.all) (O.lvs ++ c.lvs) HW8.out.tn HND.out HALL.out HLEN.out HW8.out.blk HW8.out.nt HST.out.1 HST.out.2.1 (List.Perm.refl _) (List.Perm.refl _) (fun x hx => by rw [HST.out.2.2.2 x]; exact HH.out x hx)).mono ?_
  rintro e w9 ⟨rfl, M', T', hR⟩
  have HR := Lib.hid hR
  clear hR
  go_wp2
  go_end0
  have r := HR.out
  have eF := HF2.out
  subst eF
  refine ⟨rfl, _, M', T', HW8.out.nodes (rt := (T'.ix : Int)) r.mod r.blk r.nt, r.rep, ?_, ?_, HST.out.2.2.1.trans r.kept, r.high, r.men, HV8.out, HM8.out.trans (r.mod.mono fun _ _ e => e.elim .inl (fun e => .inr (.inl e)))⟩
  · have := r.perm
    simpa [Cx.all] using this
  · have := r.plv
    simpa [Cx.lvs] using this
end Go.Proofs.YtniahipadfgkbaaGreat
namespace Go.Proofs.YtniahipadfgkbaaGreat
open Go Go.Maps Go.RowKit Go.BigFrame Go.ChangeShapes Go.WideShapes
theorem size_c (a1 a2 a3 a4 a5 a6 : Int) : ∃ z : Int, ∀ w, Calls Tryz.prog 88 #[.agg #[.int .i64 a1, .int .i64 a2, .int .i64 a3, .int .i64 a4, .int .i64 a5, .int .i64 a6]] w fun e w' => e = .returned (.int .i64 z) ∧ Below w.heap.size w w' := by
  refine ⟨wrap64 (wrap64 (wrap64 (wrap64 (wrap64 (a4 - a1) + a5) - a2) + a6) - a3), fun w => ?_⟩
  go_enter Tryz.func88, Tryz.ntmps88
  go_wp2
  go_ret
  refine ⟨rfl, ?_⟩
  exact (by repeat (with_reducible (first | exact Below.refl _ _ | assumption | apply ext_drew | apply ext_drewN | apply ext_alloc | apply ext_more | (refine ext_setCell ?_ (by first | assumption | (simp <;> omega)) _) | (refine ext_below ?_ (by assumption)))))
set_option maxRecDepth 100000 in
set_option maxHeartbeats 4000000 in
theorem more_c (w : World) (t : Nat) (s : BT) (M : Nat → Nat → Int) (n k : Nat) (hB : Blk w t s.cs) (hN : NT w s.nb s.cap s.nn M) (hn : n < s.nn) (hk : k < s.nn) :
    ∃ z : Int, Calls Tryz.prog 76 #[.pointer (some ⟨t, 0, none⟩), .int .i64 (n : Int), .int .i64 (k : Int)] w fun e w' => e = .returned (.int .i64 z) ∧ Below w.heap.size w w' := by
  obtain ⟨z1, h1⟩ := size_c (min (M n 0) (M k 0)) (min (M n 1) (M k 1)) (min (M n 2) (M k 2)) (max (M n 3) (M k 3)) (max (M n 4) (M k 4)) (max (M n 5) (M k 5))
  obtain ⟨z2, h2⟩ := size_c (M n 0) (M n 1) (M n 2) (M n 3) (M n 4) (M n 5)
  have H1 := Lib.hid h1
  have H2 := Lib.hid h2
  refine ⟨wrap64 (z1 - z2), ?_⟩
  have HB : Hid (Blk w t #[.slice (some ⟨s.nb, 0, none⟩) s.nn s.cap, s.fv, .int .i64 s.root, .bool s.som, .map (some s.lf), .map (some s.bx), .int .i64 s.fat]) := Lib.hid hB
  have hbl : s.nb < w.heap.size := hN.lt
  have q0 := hN.cell hn (j := 0) (by decide)
  have r0 := hN.cell hk (j := 0) (by decide)
  have q1 := hN.cell hn (j := 1) (by decide)
  have r1 := hN.cell hk (j := 1) (by decide)
  have q2 := hN.cell hn (j := 2) (by decide)
  have r2 := hN.cell hk (j := 2) (by decide)
  have q3 := hN.cell hn (j := 3) (by decide)
  have r3 := hN.cell hk (j := 3) (by decide)
  have q4 := hN.cell hn (j := 4) (by decide)
  have r4 := hN.cell hk (j := 4) (by decide)
  have q5 := hN.cell hn (j := 5) (by decide)
  have r5 := hN.cell hk (j := 5) (by decide)
  simp only [Nat.add_zero] at q0 r0
  clear hB hN h1 h2
  obtain ⟨zt, ct, ft⟩ := id HB.out
  go_enter Tryz.func76, Tryz.ntmps76
  go_upto_region 1 with fail
  have hmc := more_cell
  refine region_quiet_but 28 (by kernel_rfl) (by kernel_rfl) ?_
  simp only [List.take_succ_cons, List.take_zero, List.drop_succ_cons, List.drop_zero]
  repeat (go_big_quiet_step (first | (go_at_call 89; exact calls_after (both_c _ _ _ _ _ _ _ _ _ _ _ _ _)) | (go_at_call 88; first | (with_reducible exact calls_after (H2.out _)) | (with_reducible exact calls_after (H1.out _)))))
  refine wpQuiet_nil ?_
  rintro w1 hw1
  have hb1 := after_below hw1
  clear hw1 hmc zt ct ft
  go_wp2_with fail
  go_ret
  exact ⟨rfl, hb1⟩
/-- a new node -/
structure NodePost (w : World) (t : Nat) (s : BT) (M : Nat → Nat → Int) (F : List Nat) (m n : Nat) (f : Int → Option Nat) (x : Nat → Int) (w' : World) (i nb' cap' nn' : Nat) (fv' : Value) (F' : List Nat) : Prop where
  tw : TW w' t { s with nb := nb', cap := cap', nn := nn', fv := fv' } (setRow M i x) F' m n f
  way : (F = [] ∧ F' = [] ∧ i = s.nn ∧ nn' = s.nn + 1) ∨ (F = F' ++ [i] ∧ nn' = s.nn)
  fv : FvPost w w' s.fv fv'
  nb : nb' = s.nb ∨ w.heap.size ≤ nb'
  mod : Mod (TB t s) w w'
theorem row_nil {w : World} {v : Value} {xs : List Value} (h : w.ownsRow 0 3 1 v 0 xs) : ∃ A C, v = .slice A 0 C := by
  rcases h.2 with ⟨e, _⟩ | ⟨g, cap, cur, e, _⟩
  · exact ⟨none, 0, e⟩
  · exact ⟨_, cap, e⟩
set_option maxHeartbeats 4000000 in
theorem node_c (w : World) (t : Nat) (s : BT) (M : Nat → Nat → Int) (F : List Nat) (m n : Nat) (f : Int → Option Nat) (x : Nat → Int) (hW : TW w t s M F m n f) (hF : ∀ y ∈ F, y < s.nn) (hnn : s.nn < 900000) :
    Calls Tryz.prog 47 #[.pointer (some ⟨t, 0, none⟩), .agg #[.int .i64 (x 0), .int .i64 (x 1), .int .i64 (x 2), .int .i64 (x 3), .int .i64 (x 4), .int .i64 (x 5), .int .i64 (x 6), .int .i64 (x 7), .int .i64 (x 8), .int .i64 (x 9), .int .i64 (x 10)]] w fun e w' => ∃ (i nb' cap' nn' : Nat) (fv' : Value) (F' : List Nat), e = .returned (.int .i64 (i : Int)) ∧ NodePost w t s M F m n f x w' i nb' cap' nn' fv' F' := by
  have htl := hW.blk.lt
  have hll := hW.lfm.lt
  have hfl : ∀ b, s.fv.ownBlock = some b → b < w.heap.size := fun b e => (row_lt hW.free e).1
  have hnl := hW.nt.lt
  rcases List.eq_nil_or_concat F with rfl | ⟨F', i, rfl⟩
  · obtain ⟨A, C, hfv⟩ := row_nil hW.free
    have hB : Blk w t #[.slice (some ⟨s.nb, 0, none⟩) s.nn s.cap, s.fv, .int .i64 s.root, .bool s.som, .map (some s.lf), .map (some s.bx), .int .i64 s.fat] := hW.blk
    rw [hfv] at hB
    refine (node_app w t _ A C s.nn s.root s.som (some s.lf) (some s.bx) s.fat M x hB hW.nt (fun e => hW.tn (Option.some.inj e).symm) hnn).mono ?_
    rintro e w' ⟨rfl, b, cap, hB', hN', hb, hM⟩
    have hb' : b = s.nb ∨ w.heap.size ≤ b := hb.imp (fun e => (Option.some.inj e).symm) id
    have hM' : Mod (fun y => y = t ∨ y = s.nb) w w' := hM.mono fun _ _ e => e.imp id (fun e => (Option.some.inj e).symm)
    have hne : ∀ y, y < w.heap.size → s.nb ≠ y → b ≠ y := fun y h1 h2 e => hb'.elim (fun h => h2 (h ▸ e)) (fun h => by omega)
    refine ⟨s.nn, b, cap, s.nn + 1, s.fv, [], rfl, ⟨⟨?_, hN', row_mod hW.free hM' (fun c e e' => e'.elim (fun e2 => hW.ft (e2 ▸ e)) (fun e2 => hW.fn (e2 ▸ e))), hW.lfm.mod hM' (fun e' => e'.elim hW.lt hW.ln), (hne t htl (fun e => hW.tn e.symm)).symm, hW.ft, fun e => hne b (hfl b e) (fun e' => hW.fn (e' ▸ e)) rfl, hW.lt, (hne s.lf hll (fun e => hW.ln e.symm)).symm, hW.lv⟩, .inl ⟨rfl, rfl, rfl, rfl⟩, .inl rfl, hb', hM'.mono fun _ _ e => e.elim .inl (fun e => .inr (.inl e))⟩⟩
    rw [hfv] at *
    exact hB'
  · rw [List.concat_eq_append] at *
    have hfr := hW.free
    rw [List.length_append, List.map_append] at hfr
    obtain ⟨g, C, hfv, -, -, -, -, -, -, -⟩ := row_at hfr (by simp)
    have hB : Blk w t #[.slice (some ⟨s.nb, 0, none⟩) s.nn s.cap, s.fv, .int .i64 s.root, .bool s.som, .map (some s.lf), .map (some s.bx), .int .i64 s.fat] := hW.blk
    rw [hfv] at hB hfr
    have hgt : s.fv.ownBlock = some g := by rw [hfv]; rfl
    refine (node_free w t s.nb s.cap s.nn g F'.length C (F'.map fun (x : Nat) => (x : Int)) s.root s.som (some s.lf) (some s.bx) s.fat M i x (by simp) hB hW.nt hfr (hF i (by simp)) hW.tn (fun e => hW.ft (e ▸ hgt)) (fun e => hW.fn (e ▸ hgt))).mono ?_
    rintro e w' ⟨rfl, hB', hN', hF', hM⟩
    refine ⟨i, s.nb, s.cap, s.nn, .slice (some ⟨g, 0, none⟩) F'.length C, F', rfl, ⟨⟨hB', hN', hF', hW.lfm.mod hM (fun e' => e'.elim hW.lt hW.ln), hW.tn, fun e => hW.ft (hgt.trans e), fun e => hW.fn (hgt.trans e), hW.lt, hW.ln, fun e => hW.lv (hgt.trans e)⟩, .inr ⟨rfl, rfl⟩, .inl hgt.symm, .inl rfl, hM.mono fun _ _ e => e.elim .inl (fun e => .inr (.inl e))⟩⟩
end Go.Proofs.YtniahipadfgkbaaGreat
