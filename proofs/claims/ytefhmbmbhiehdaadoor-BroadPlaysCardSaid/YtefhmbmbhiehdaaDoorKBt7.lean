/- in of broad.Tree. Conditions: none. -/
import Derived.Test.YtefhmbmbhiehdaaDoorKC
import Derived.Test.YtefhmbmbhiehdaaDoorKBt6
namespace Go.Proofs.YtefhmbmbhiehdaaDoor
open Go Go.Maps Go.RowKit Go.BigFrame Go.ChangeShapes Go.WideShapes
theorem TW.own {w w' : World} {t : Nat} {s : BT} {M : Nat → Nat → Int} {F : List Nat} {m n : Nat} {f : Int → Option Nat} {rt : Int} {sm : Bool} (h : TW w t s M F m n f) (k : Mod (· = t) w w') (hb : Blk w' t { s with root := rt, som := sm }.cs) : TW w' t { s with root := rt, som := sm } M F m n f :=
  ⟨hb, h.nt.mod k (fun e => h.tn e.symm), row_mod h.free k (fun _ e e' => h.ft (e' ▸ e)), h.lfm.mod k h.lt, h.tn, h.ft, h.fn, h.lt, h.ln, h.lv⟩
theorem TW.row {w w' : World} {t : Nat} {s : BT} {M M' : Nat → Nat → Int} {F : List Nat} {m n : Nat} {f : Int → Option Nat} (h : TW w t s M F m n f) (k : Mod (· = s.nb) w w') (hn : NT w' s.nb s.cap s.nn M') : TW w' t s M' F m n f :=
  ⟨h.blk.mod k h.tn, hn, row_mod h.free k (fun _ e e' => h.fn (e' ▸ e)), h.lfm.mod k h.ln, h.tn, h.ft, h.fn, h.lt, h.ln, h.lv⟩
theorem Kept.perm {M M' : Nat → Nat → Int} {all lvs all' lvs' : List Nat} (h : Kept M M' all lvs) (ha : all.Perm all') (hl : lvs.Perm lvs') : Kept M M' all' lvs' :=
  ⟨fun k hk j => h.out k (fun hm => hk (ha.mem_iff.1 hm)) j, fun k hk j hj => h.leaf k (hl.mem_iff.2 hk) j hj⟩
/-- in: the first one -/
def InTop (w : World) (t : Nat) (s : BT) (M : Nat → Nat → Int) (F : List Nat) (m n : Nat) (f : Int → Option Nat) (k : Nat) (id : Int) (e : Ending) (w' : World) : Prop :=
  e = .returned (.tuple #[]) ∧ TW w' t { s with root := (k : Int), som := true } (put1 M k 6 (-1)) F (m + 1) (n + 1) (fun y => if y = id then some k else f y) ∧ Mod (TB t s) w w'
set_option maxRecDepth 100000 in
set_option maxHeartbeats 8000000 in
theorem in_top (w : World) (t : Nat) (s : BT) (M : Nat → Nat → Int) (F : List Nat) (m n : Nat) (f : Int → Option Nat) (k : Nat) (id_ : Int) (hW : TW w t s M F m n f) (hsom : s.som = false) (hk : k < s.nn) (hid : M k 9 = id_) (hkey : keyOf Tryd.prog 3 (.int .i64 id_) = some (.int .i64 id_)) (hf : f id_ = none) (hm : m < 900000) :
    Calls Tryd.prog 21 #[.pointer (some ⟨t, 0, none⟩), .int .i64 (k : Int)] w (InTop w t s M F m n f k id_) := by
  have HW := Lib.hid hW
  have HB : Hid (Blk w t #[.slice (some ⟨s.nb, 0, none⟩) s.nn s.cap, s.fv, .int .i64 s.root, .bool false, .map (some s.lf), .map (some s.bx), .int .i64 s.fat]) := Lib.hid (by rw [← hsom]; exact hW.blk)
  have HID := Lib.hid hid
  have HKEY := Lib.hid hkey
  have HFK := Lib.hid hf
  have HK := Lib.hid hk
  have HM := Lib.hid hm
  have HSOM := Lib.hid hsom
  have q9 : w.cell? ⟨s.nb, k * 11 + 9, none⟩ = some (.int .i64 id_) := by rw [← hid]; exact hW.nt.cell hk (j := 9) (by decide)
  obtain ⟨zt, ct, ft⟩ := id HB.out
  have hbl : s.nb < w.heap.size := hW.nt.lt
  clear hW hid hkey hf hm hsom
  go_enter Tryd.func21, Tryd.ntmps21
  go_upto_region 0 with fail
  have hmc := more_cell
  refine region_quiet_but 13 (by kernel_rfl) (by kernel_rfl) ?_
  simp only [List.take_succ_cons, List.take_zero, List.drop_succ_cons, List.drop_zero]
  repeat (go_big_quiet_step (fail))
  refine wpQuiet_nil ?_
  rintro w1 hw1
  have hb1 := after_below hw1
  clear hw1 hmc zt ct ft q9 hbl
  have HW1 := Lib.hid (HW.out.below hb1)
  have HM1 : Hid (Mod (TB t s) w w1) := Lib.hid (Mod.of_below hb1)
  clear hb1
  refine at_putT (val := .int .i64 (k : Int)) rfl (.tmp 12) (.tmp 20) (.tmp 21) rfl Tryd.underlying52 rfl HW1.out.lfm (by have := HM.out; unfold maxLen; omega) rfl rfl HKEY.out ?_
  intro w2 h2 k2
  have HM2 : Hid (Mod (TB t s) w w2) := Lib.hid (HM1.out.trans (k2.mono fun _ _ e => .inr (.inr (.inr e))))
  have hfk := HFK.out
  simp only [Option.isSome_map, hfk, Option.isSome_none, Bool.false_eq_true, if_false] at h2
  rw [f_more] at h2
  have HW2 := Lib.hid (HW1.out.leaf k2 h2)
  clear h2 k2 hfk
  have HB2 : Hid (Blk w2 t #[.slice (some ⟨s.nb, 0, none⟩) s.nn s.cap, s.fv, .int .i64 s.root, .bool false, .map (some s.lf), .map (some s.bx), .int .i64 s.fat]) := Lib.hid (by rw [← HSOM.out]; exact HW2.out.blk)
  obtain ⟨zt, ct, ft⟩ := id HB2.out
  go_upto_region 3 with fail
  refine wp_named ?_
  rintro w3 hw3
  have hm3 : Mod (· = t) w2 w3 := by rw [hw3]; exact Mod.set (S := (· = t)) (Mod.set (S := (· = t)) (Mod.refl _ _) (.inl rfl)) (.inl rfl)
  have hb3 : Blk w3 t { s with root := (k : Int), som := true }.cs := by rw [hw3]; exact Blk.put (i := 3) (Blk.put (i := 2) HB2.out)
  have HW3 := Lib.hid (HW2.out.own hm3 hb3)
  have HM3 : Hid (Mod (TB t s) w w3) := Lib.hid (HM2.out.trans (hm3.mono fun _ _ e => .inl e))
  clear hm3 hb3 hw3 zt ct ft
  have HB3 : Hid (Blk w3 t #[.slice (some ⟨s.nb, 0, none⟩) s.nn s.cap, s.fv, .int .i64 (k : Int), .bool true, .map (some s.lf), .map (some s.bx), .int .i64 s.fat]) := Lib.hid HW3.out.blk
  obtain ⟨zt, ct, ft⟩ := id HB3.out
  have q6 := HW3.out.nt.cell (show k < s.nn from HK.out) (j := 6) (by decide)
  have fq := HW3.out.nt.free
  simp only [] at q6 fq
  go_wp2_with fail
  (try simp only [Exit.inBlock, Exit.then]); refine bodyPost_ret (results_none rfl _ _ _) rfl ?_
  have hm4 : Mod (· = s.nb) w3 (w3.setCell ⟨s.nb, k * 11 + 6, none⟩ (.int .i64 (-1))) := Mod.set (Mod.refl _ _) (.inl rfl)
  exact ⟨rfl, HW3.out.row hm4 (HW3.out.nt.set HK.out (j := 6) (by decide) (-1)), HM3.out.trans (hm4.mono fun _ _ e => .inr (.inl e))⟩
/-- the way down -/
structure InR (w0 wr : World) (M : Nat → Nat → Int) (rt : Int) (T0 T : Tr) (c : Cx) : Prop where
  rep : Rep M c.up T
  repc : RepC M rt T.ix c
  perm : (T.all ++ c.all).Perm T0.all
  plv : (T.lvs ++ c.lvs).Perm T0.lvs
  bal : T.bal ∧ c.bal T.h
  ext : Below w0.heap.size w0 wr
/-- in: one more -/
def InUp (w : World) (t : Nat) (s : BT) (M : Nat → Nat → Int) (F : List Nat) (m n : Nat) (f : Int → Option Nat) (k : Nat) (id : Int) (T : Tr) (e : Ending) (w' : World) : Prop :=
  e = .returned (.tuple #[]) ∧ ∃ (i nb' cap' nn' : Nat) (fv' : Value) (F' : List Nat) (M' : Nat → Nat → Int) (T' : Tr), TW w' t { s with nb := nb', cap := cap', nn := nn', fv := fv', root := (T'.ix : Int) } M' F' (m + 1) (n + 1) (fun y => if y = id then some k else f y) ∧ NodeWay F s.nn i F' nn' ∧ Rep M' (-1) T' ∧ T'.bal ∧ T'.all.Perm (i :: k :: T.all) ∧ T'.lvs.Perm (k :: T.lvs) ∧ Kept M M' (i :: k :: T.all) (k :: T.lvs) ∧ (∀ y, y < nn' → 0 ≤ M' y 10 ∧ M' y 10 ≤ 1000000) ∧ FvPost w w' s.fv fv' ∧ (nb' = s.nb ∨ w.heap.size ≤ nb') ∧ Mod (TB t s) w w'
set_option maxRecDepth 100000 in
set_option maxHeartbeats 16000000 in
theorem in_up (w : World) (t : Nat) (s : BT) (M : Nat → Nat → Int) (F : List Nat) (m n : Nat) (f : Int → Option Nat) (k : Nat) (id_ : Int) (T : Tr) (hW : TW w t s M F m n f) (hsom : s.som = true) (hk : k < s.nn) (hid : M k 9 = id_) (hkey : keyOf Tryd.prog 3 (.int .i64 id_) = some (.int .i64 id_)) (hf : f id_ = none) (hm : m < 900000)
    (hrt : s.root = (T.ix : Int)) (hT : Rep M (-1) T) (hbal : T.bal) (hnd : ((T.all ++ [k]) ++ F).Nodup) (hlt : ∀ x ∈ (T.all ++ [k]) ++ F, x < s.nn) (hk7 : M k 7 = -1) (hk10 : M k 10 = 0) (hh : ∀ x, x < s.nn → 0 ≤ M x 10 ∧ M x 10 ≤ 1000000) (hnn : s.nn < 900000) :
    Calls Tryd.prog 21 #[.pointer (some ⟨t, 0, none⟩), .int .i64 (k : Int)] w (InUp w t s M F m n f k id_ T) := by
  have HR0 : Hid (RepC M s.root T.ix .top) := Lib.hid ⟨hT.up, hrt⟩
  have HT := Lib.hid hT
  have HBAL := Lib.hid hbal
  have HND := Lib.hid hnd
  have HLT := Lib.hid hlt
  have HK7 := Lib.hid (And.intro hk7 hk10)
  have HH := Lib.hid hh
  have HNN := Lib.hid hnn
  clear hT hbal hnd hlt hk7 hk10 hh hnn
  have hrt0 := Lib.hid hrt
  clear hrt
  have HW := Lib.hid hW
  have HB : Hid (Blk w t #[.slice (some ⟨s.nb, 0, none⟩) s.nn s.cap, s.fv, .int .i64 s.root, .bool true, .map (some s.lf), .map (some s.bx), .int .i64 s.fat]) := Lib.hid (by rw [← hsom]; exact hW.blk)
  have HID := Lib.hid hid
  have HKEY := Lib.hid hkey
  have HFK := Lib.hid hf
  have HK := Lib.hid hk
  have HM := Lib.hid hm
  have HSOM := Lib.hid hsom
  have q9 : w.cell? ⟨s.nb, k * 11 + 9, none⟩ = some (.int .i64 id_) := by rw [← hid]; exact hW.nt.cell hk (j := 9) (by decide)
  obtain ⟨zt, ct, ft⟩ := id HB.out
  have hbl : s.nb < w.heap.size := hW.nt.lt
  clear hW hid hkey hf hm hsom
  go_enter Tryd.func21, Tryd.ntmps21
  go_upto_region 0 with fail
  have hmc := more_cell
  refine region_quiet_but 13 (by kernel_rfl) (by kernel_rfl) ?_
  simp only [List.take_succ_cons, List.take_zero, List.drop_succ_cons, List.drop_zero]
  repeat (go_big_quiet_step (fail))
  refine wpQuiet_nil ?_
  rintro w1 hw1
  have hb1 := after_below hw1
  clear hw1 hmc zt ct ft q9 hbl
  have HW1 := Lib.hid (HW.out.below hb1)
  have HM1 : Hid (Mod (TB t s) w w1) := Lib.hid (Mod.of_below hb1)
  clear hb1
  refine at_putT (val := .int .i64 (k : Int)) rfl (.tmp 12) (.tmp 20) (.tmp 21) rfl Tryd.underlying52 rfl HW1.out.lfm (by have := HM.out; unfold maxLen; omega) rfl rfl HKEY.out ?_
  intro w2 h2 k2
  have HM2 : Hid (Mod (TB t s) w w2) := Lib.hid (HM1.out.trans (k2.mono fun _ _ e => .inr (.inr (.inr e))))
  have hfk := HFK.out
  simp only [Option.isSome_map, hfk, Option.isSome_none, Bool.false_eq_true, if_false] at h2
  rw [f_more] at h2
  have HW2 := Lib.hid (HW1.out.leaf k2 h2)
  clear h2 k2 hfk
  have HB2 : Hid (Blk w2 t #[.slice (some ⟨s.nb, 0, none⟩) s.nn s.cap, s.fv, .int .i64 s.root, .bool true, .map (some s.lf), .map (some s.bx), .int .i64 s.fat]) := Lib.hid (by rw [← HSOM.out]; exact HW2.out.blk)
  obtain ⟨zt, ct, ft⟩ := id HB2.out
  go_upto_region 4 with fail
  go_wp2_with fail
  go_loopg [4] (T.all.length) (fun g v wr => ∃ (T' : Tr) (c : Cx), v = .int .i64 (T'.ix : Int) ∧ g = T'.all.length ∧ InR w2 wr M s.root T T' c)
  case atStart => exact ⟨T, .top, by rw [hrt0.out], rfl, HT.out, HR0.out, by simp [Cx.all], by simp [Cx.lvs], ⟨HBAL.out, trivial⟩, Below.refl _ _⟩
  case round =>
    clear zt ct ft
    obtain ⟨T', c, rfl, hg, hR⟩ := hrel
    have HR := Lib.hid hR
    have hTl : T'.ix < s.nn := HLT.out _ (List.mem_append_left _ (List.mem_append_left _ (hR.perm.mem_iff.1 (List.mem_append_left _ T'.ix_mem))))
    have HWr := Lib.hid (HW2.out.below hR.ext)
    clear hR
    have HBr : Hid (Blk wr t #[.slice (some ⟨s.nb, 0, none⟩) s.nn s.cap, s.fv, .int .i64 s.root, .bool true, .map (some s.lf), .map (some s.bx), .int .i64 s.fat]) := Lib.hid (by rw [← HSOM.out]; exact HWr.out.blk)
    obtain ⟨zt, ct, ft⟩ := id HBr.out
    have q7 := HWr.out.nt.cell hTl (j := 7) (by decide)
    cases T' with
    | nd n' l r =>
      have h7 : M n' 7 = (l.ix : Int) := HR.out.rep.2.1
      have h8 : M n' 8 = (r.ix : Int) := HR.out.rep.2.2.1
      have hTl' : n' < s.nn := hTl
      clear hTl
      have q8 := HWr.out.nt.cell hTl' (j := 8) (by decide)
      simp only [Tr.ix] at q7
      rw [h7] at q7
      rw [h8] at q8
      have hbl : s.nb < wr.heap.size := HWr.out.nt.lt
      have HH78 := Lib.hid (And.intro h7 h8)
      have hp : ∀ x ∈ l.all ++ r.all, x < s.nn := fun x hx => HLT.out _ (List.mem_append_left _ (List.mem_append_left _ (HR.out.perm.mem_iff.1 (List.mem_append_left _ (by simp only [Tr.all]; exact List.mem_cons_of_mem _ hx)))))
      have hll : l.ix < s.nn := hp _ (List.mem_append_left _ l.ix_mem)
      have hrl : r.ix < s.nn := hp _ (List.mem_append_right _ r.ix_mem)
      have HLR := Lib.hid (And.intro hll hrl)
      have hgl : Hid (l.all.length < gk ∧ r.all.length < gk) := Lib.hid (by rw [hg]; simp only [Tr.all, List.length_cons, List.length_append]; omega)
      clear h7 h8 hg hp hll hrl
      obtain ⟨li, hli⟩ : ∃ x : Nat, x = l.ix := ⟨_, rfl⟩
      obtain ⟨ri, hri⟩ : ∃ x : Nat, x = r.ix := ⟨_, rfl⟩
      rw [← hli] at q7
      rw [← hri] at q8
      have HLI := Lib.hid (And.intro hli hri)
      clear hli hri
      have d0 : decide ((0 : Int) ≤ (li : Int)) = true := decide_eq_true (by omega)
      simp only [Tr.ix]
      go_upto_region 6 with fail
      have hmc := more_cell
      refine region_quiet_all (by kernel_rfl) (by kernel_rfl) ?_
      repeat (go_big_quiet_step (fail))
      refine wpQuiet_nil ?_
      rintro w3 hw3
      have hb3 := after_below hw3
      clear hw3 hmc zt ct ft q7 q8 hbl d0 hTl'
      have HW3 := Lib.hid (HWr.out.below hb3)
      have HE3 : Hid (Below w2.heap.size w2 w3) := Lib.hid (HR.out.ext.trans (hb3.mono HR.out.ext.size))
      clear hb3
      obtain ⟨z1, hz1⟩ := more_c w3 t s M li k HW3.out.blk HW3.out.nt (HLI.out.1 ▸ HLR.out.1) HK.out
      go_wp2_with fail
      refine hz1.mono ?_
      rintro e w4 ⟨rfl, hb4⟩
      have HW4 := Lib.hid (HW3.out.below hb4)
      have HE4 : Hid (Below w2.heap.size w2 w4) := Lib.hid (HE3.out.trans (hb4.mono HE3.out.size))
      clear hb4 hz1
      obtain ⟨z2, hz2⟩ := more_c w4 t s M ri k HW4.out.blk HW4.out.nt (HLI.out.2 ▸ HLR.out.2) HK.out
      go_wp2_with fail
      refine hz2.mono ?_
      rintro e w5 ⟨rfl, hb5⟩
      have HE5 : Hid (Below w2.heap.size w2 w5) := Lib.hid (HE4.out.trans (hb5.mono HE4.out.size))
      clear hb5 hz2
      by_cases hle : z1 ≤ z2
      · go_wp2
        go_roundg (l.all.length)
        case measure => exact hgl.out.1
        case rel =>
          obtain ⟨r1, r2, r3, r4, ⟨⟨b1, b2, b3, b4⟩, b5⟩, _⟩ := HR.out
          obtain ⟨_, e7, e8, _, e1, e2⟩ := r1
          refine ⟨l, .lft n' c r, by rw [HLI.out.1], rfl, e1, ⟨e1.up, e7, e8, e2, r2⟩, List.Perm.trans ?_ r3, List.Perm.trans ?_ r4, ⟨b3, b1, b2, b4, b5⟩, HE5.out⟩
          · simp only [Cx.all, Tr.all, List.cons_append, List.append_assoc]
            exact List.perm_middle
          · simp only [Cx.lvs, Tr.lvs, List.append_assoc]
            exact List.Perm.refl _
      · have hle' := Int.not_le.1 hle
        go_wp2
        go_roundg (r.all.length)
        case measure => exact hgl.out.2
        case rel =>
          obtain ⟨r1, r2, r3, r4, ⟨⟨b1, b2, b3, b4⟩, b5⟩, _⟩ := HR.out
          obtain ⟨_, e7, e8, _, e1, e2⟩ := r1
          refine ⟨r, .rgt n' l c, by rw [HLI.out.2], rfl, e2, ⟨e2.up, e7, e8, e1, r2⟩, List.Perm.trans ?_ r3, List.Perm.trans ?_ r4, ⟨b4, b2, b1, b3, b5⟩, HE5.out⟩
          · simp only [Cx.all, Tr.all, List.cons_append, List.append_assoc]
            refine List.perm_middle.trans (List.Perm.cons _ ?_)
            rw [← List.append_assoc, ← List.append_assoc]
            exact List.Perm.append_right _ List.perm_append_comm
          · simp only [Cx.lvs, Tr.lvs, List.append_assoc]
            rw [← List.append_assoc, ← List.append_assoc]
            exact List.Perm.append_right _ List.perm_append_comm
    | lf a =>
      have h7 : M a 7 = -1 := HR.out.rep.2.1
      have h6 : M a 6 = c.up := HR.out.rep.1
      have hal : a < s.nn := hTl
      clear hTl hg
      have q6 := HWr.out.nt.cell hal (j := 6) (by decide)
      simp only [Tr.ix] at q7 ⊢
      rw [h7] at q7
      rw [h6] at q6
      obtain ⟨u, hu⟩ : ∃ u, u = c.up := ⟨_, rfl⟩
      rw [← hu] at q6
      have HU := Lib.hid hu
      have HAL := Lib.hid hal
      clear h7 h6 hu
      obtain ⟨x, x0, x1, x2, x3, x4, x5, x6, x7, x8, x9, x10⟩ : ∃ x : Nat → Int, x 0 = 0 ∧ x 1 = 0 ∧ x 2 = 0 ∧ x 3 = 0 ∧ x 4 = 0 ∧ x 5 = 0 ∧ x 6 = u ∧ x 7 = (a : Int) ∧ x 8 = (k : Int) ∧ x 9 = -1 ∧ x 10 = 0 := ⟨fun j => if j = 6 then u else if j = 7 then (a : Int) else if j = 8 then (k : Int) else if j = 9 then -1 else 0, by simp, by simp, by simp, by simp, by simp, by simp, by simp, by simp, by simp, by simp, by simp⟩
      have HX := Lib.hid (And.intro x6 (And.intro x7 (And.intro x8 x10)))
      have hc := node_c wr t s M F (m + 1) (n + 1) _ x HWr.out (fun y hy => HLT.out y (List.mem_append_right _ hy)) HNN.out
      rw [x0, x1, x2, x3, x4, x5, x6, x7, x8, x9, x10] at hc
      have HC := Lib.hid hc
      clear hc x0 x1 x2 x3 x4 x5 x6 x7 x8 x9 x10
      go_wp2_with fail
      refine HC.out.mono ?_
      rintro e w3 ⟨i, nb', cap', nn', fv', F', rfl, hNP⟩
      have HWAY := Lib.hid hNP.way
      obtain ⟨s2, hs2⟩ : ∃ s2 : BT, s2 = { s with nb := nb', cap := cap', nn := nn', fv := fv' } := ⟨_, rfl⟩
      have hW3 : TW w3 t s2 (setRow M i x) F' (m + 1) (n + 1) (fun y => if y = id_ then some k else f y) := by rw [hs2]; exact hNP.tw
      have HW3 := Lib.hid hW3
      have HNP := Lib.hid hNP
      have HS2 := Lib.hid hs2
      have hsm : s2.som = true := by rw [hs2]; exact HSOM.out
      have hnn2 : s2.nn = nn' := by rw [hs2]
      have HB3 : Hid (Blk w3 t #[.slice (some ⟨s2.nb, 0, none⟩) s2.nn s2.cap, s2.fv, .int .i64 s2.root, .bool s2.som, .map (some s2.lf), .map (some s2.bx), .int .i64 s2.fat]) := Lib.hid hW3.blk
      have HN3 : Hid (NT w3 s2.nb s2.cap s2.nn (setRow M i x)) := Lib.hid hW3.nt
      have hne : t ≠ s2.nb := hW3.tn
      obtain ⟨y1, y2, y3, y4, y5, y6⟩ := NodeWay.facts (A := T.all ++ [k]) (show NodeWay F s.nn i F' nn' from HNP.out.way) HND.out HLT.out
      have HY := Lib.hid (And.intro y1 (And.intro y2 (And.intro y3 (And.intro y5 y6))))
      have hal2 : a < s2.nn := by have := HAL.out; omega
      have hkl2 : k < s2.nn := by have := HK.out; omega
      have hil2 : i < s2.nn := by omega
      clear y1 y2 y3 y4 y5 y6 hNP hs2 hW3 zt ct ft q6 q7 hal hsm hnn2
      obtain ⟨zt, ct, ft⟩ := id HB3.out
      go_upto_region 12 with fail
      have hSa : Blk w3.drew t #[.slice (some ⟨s2.nb, 0, none⟩) s2.nn s2.cap, s2.fv, .int .i64 s2.root, .bool s2.som, .map (some s2.lf), .map (some s2.bx), .int .i64 s2.fat] := (HB3.out).below (ext_drew (Below.refl _ _))
      have HN3D : Hid (NT w3.drew s2.nb s2.cap s2.nn (setRow M i x)) := Lib.hid (HN3.out.below (ext_drew (Below.refl _ _)))
      refine Code.wp_mono (Q := NQ _) (fun e a w h => by obtain ⟨rfl, h⟩ := h; exact h) (wp_region_held_drew (S := fun w' => Blk w' t #[.slice (some ⟨s2.nb, 0, none⟩) s2.nn s2.cap, s2.fv, .int .i64 s2.root, .bool s2.som, .map (some s2.lf), .map (some s2.bx), .int .i64 s2.fat]) (by kernel_rfl) hSa (fun hHeld => ?_))
      refine wpAnyH_take (i := 0) (v := .pointer (some ⟨t, 0, none⟩)) rfl (by kernel_rfl) (by kernel_rfl) (by kernel_rfl) (fun _ _ _ h => nomatch h.1) (Or.inl ⟨by kernel_rfl, ?ya_0⟩) hHeld ?ra_0
      case ya_0 =>
        intro w hSw
        go_simp
        try with_reducible rfl
      try simp only [Act.put, List.getElem_toArray, List.getElem_cons_zero, List.setIfInBounds_toArray, List.set_cons_zero, List.set_cons_succ]
      refine wpAnyH_take (i := 1) (v := .pointer (some ⟨t, 0, none⟩)) rfl (by kernel_rfl) (by kernel_rfl) (by kernel_rfl) (fun _ _ _ h => nomatch h.1) (Or.inl ⟨by kernel_rfl, ?ya_1⟩) hHeld ?ra_1
      case ya_1 =>
        intro w hSw
        go_simp
        try with_reducible rfl
      try simp only [Act.put, List.getElem_toArray, List.getElem_cons_zero, List.getElem_cons_succ, List.setIfInBounds_toArray, List.set_cons_zero, List.set_cons_succ]
      refine wpAnyH_take (i := 2) (v := .pointer (some ⟨t, 0, none⟩)) rfl (by kernel_rfl) (by kernel_rfl) (by kernel_rfl) (fun _ _ _ h => nomatch h.1) (Or.inl ⟨by kernel_rfl, ?ya_2⟩) hHeld ?ra_2
      case ya_2 =>
        intro w hSw
        go_simp
        try with_reducible rfl
      try simp only [Act.put, List.getElem_toArray, List.getElem_cons_zero, List.getElem_cons_succ, List.setIfInBounds_toArray, List.set_cons_zero, List.set_cons_succ]
      refine wpAnyH_take (i := 3) (v := .slice (some ⟨s2.nb, 0, none⟩) s2.nn s2.cap) rfl (by kernel_rfl) (by kernel_rfl) (by kernel_rfl) (fun _ _ _ h => nomatch h.1) (Or.inl ⟨by kernel_rfl, ?ya_3⟩) hHeld ?ra_3
      case ya_3 =>
        intro w hSw
        obtain ⟨zt, ct, ft⟩ := hSw
        go_simp
        try with_reducible rfl
      try simp only [Act.put, List.getElem_toArray, List.getElem_cons_zero, List.getElem_cons_succ, List.setIfInBounds_toArray, List.set_cons_zero, List.set_cons_succ]
      refine wpAnyH_take (i := 4) (v := .int .i64 (a : Int)) rfl (by kernel_rfl) (by kernel_rfl) (by kernel_rfl) (fun _ _ _ h => nomatch h.1) (Or.inl ⟨by kernel_rfl, ?ya_4⟩) hHeld ?ra_4
      case ya_4 =>
        intro w hSw
        go_simp
        try with_reducible rfl
      try simp only [Act.put, List.getElem_toArray, List.getElem_cons_zero, List.getElem_cons_succ, List.setIfInBounds_toArray, List.set_cons_zero, List.set_cons_succ]
      refine wpAnyH_take (i := 5) (v := .pointer (some ⟨t, 0, none⟩)) rfl (by kernel_rfl) (by kernel_rfl) (by kernel_rfl) (fun _ _ _ h => nomatch h.1) (Or.inl ⟨by kernel_rfl, ?ya_5⟩) hHeld ?ra_5
      case ya_5 =>
        intro w hSw
        go_simp
        try with_reducible rfl
      try simp only [Act.put, List.getElem_toArray, List.getElem_cons_zero, List.getElem_cons_succ, List.setIfInBounds_toArray, List.set_cons_zero, List.set_cons_succ]
      refine wpAnyH_take (i := 6) (v := .pointer (some ⟨t, 0, none⟩)) rfl (by kernel_rfl) (by kernel_rfl) (by kernel_rfl) (fun _ _ _ h => nomatch h.1) (Or.inl ⟨by kernel_rfl, ?ya_6⟩) hHeld ?ra_6
      case ya_6 =>
        intro w hSw
        go_simp
        try with_reducible rfl
      try simp only [Act.put, List.getElem_toArray, List.getElem_cons_zero, List.getElem_cons_succ, List.setIfInBounds_toArray, List.set_cons_zero, List.set_cons_succ]
      refine wpAnyH_take (i := 7) (v := .pointer (some ⟨t, 0, none⟩)) rfl (by kernel_rfl) (by kernel_rfl) (by kernel_rfl) (fun _ _ _ h => nomatch h.1) (Or.inl ⟨by kernel_rfl, ?ya_7⟩) hHeld ?ra_7
      case ya_7 =>
        intro w hSw
        go_simp
        try with_reducible rfl
      try simp only [Act.put, List.getElem_toArray, List.getElem_cons_zero, List.getElem_cons_succ, List.setIfInBounds_toArray, List.set_cons_zero, List.set_cons_succ]
      refine wpAnyH_take (i := 8) (v := .slice (some ⟨s2.nb, 0, none⟩) s2.nn s2.cap) rfl (by kernel_rfl) (by kernel_rfl) (by kernel_rfl) (fun _ _ _ h => nomatch h.1) (Or.inl ⟨by kernel_rfl, ?ya_8⟩) hHeld ?ra_8
      case ya_8 =>
        intro w hSw
        obtain ⟨zt, ct, ft⟩ := hSw
        go_simp
        try with_reducible rfl
      try simp only [Act.put, List.getElem_toArray, List.getElem_cons_zero, List.getElem_cons_succ, List.setIfInBounds_toArray, List.set_cons_zero, List.set_cons_succ]
      refine wpAnyH_take (i := 9) (v := .int .i64 (k : Int)) rfl (by kernel_rfl) (by kernel_rfl) (by kernel_rfl) (fun _ _ _ h => nomatch h.1) (Or.inl ⟨by kernel_rfl, ?ya_9⟩) hHeld ?ra_9
      case ya_9 =>
        intro w hSw
        go_simp
        try with_reducible rfl
      try simp only [Act.put, List.getElem_toArray, List.getElem_cons_zero, List.getElem_cons_succ, List.setIfInBounds_toArray, List.set_cons_zero, List.set_cons_succ]
      refine wpAnyH_take (i := 10) (v := .int .i64 (i : Int)) rfl (by kernel_rfl) (by kernel_rfl) (by kernel_rfl) (fun _ _ _ h => nomatch h.1) (Or.inl ⟨by kernel_rfl, ?ya_10⟩) hHeld ?ra_10
      case ya_10 =>
        intro w hSw
        go_simp
        try with_reducible rfl
      try simp only [Act.put, List.getElem_toArray, List.getElem_cons_zero, List.getElem_cons_succ, List.setIfInBounds_toArray, List.set_cons_zero, List.set_cons_succ]
      refine wpAnyH_take (i := 11) (v := .int .i64 (i : Int)) rfl (by kernel_rfl) (by kernel_rfl) (by kernel_rfl) (fun _ _ _ h => nomatch h.1) (Or.inl ⟨by kernel_rfl, ?ya_11⟩) hHeld ?ra_11
      case ya_11 =>
        intro w hSw
        go_simp
        try with_reducible rfl
      try simp only [Act.put, List.getElem_toArray, List.getElem_cons_zero, List.getElem_cons_succ, List.setIfInBounds_toArray, List.set_cons_zero, List.set_cons_succ]
      refine wpAnyH_take (i := 12) (v := .pointer (some ⟨s2.nb, a * 11, none⟩)) rfl (by kernel_rfl) (by kernel_rfl) (by kernel_rfl) (fun _ _ _ h => nomatch h.1) (Or.inl ⟨by kernel_rfl, ?ya_12⟩) hHeld ?ra_12
      case ya_12 =>
        intro w hSw
        go_simp
        try with_reducible rfl
      try simp only [Act.put, List.getElem_toArray, List.getElem_cons_zero, List.getElem_cons_succ, List.setIfInBounds_toArray, List.set_cons_zero, List.set_cons_succ]
      refine wpAnyH_take (i := 13) (v := .pointer (some ⟨s2.nb, a * 11 + 6, none⟩)) rfl (by kernel_rfl) (by kernel_rfl) (by kernel_rfl) (fun _ _ _ h => nomatch h.1) (Or.inl ⟨by kernel_rfl, ?ya_13⟩) hHeld ?ra_13
      case ya_13 =>
        intro w hSw
        go_simp
        try with_reducible rfl
      try simp only [Act.put, List.getElem_toArray, List.getElem_cons_zero, List.getElem_cons_succ, List.setIfInBounds_toArray, List.set_cons_zero, List.set_cons_succ]
      have fqax := HN3D.out.free
      have cqax := HN3D.out.cell hal2 (j := 6) (by decide)
      refine wpAnyH_ready (rs := [14]) (by kernel_rfl) (by simp) ?_
      refine AllReadyH.cons (o := _) rfl (fun K hK => ?_) AllReadyH.nil
      go_simp
      try dsimp only
      refine hK.out _ _ (hHeld.mod (Mod.set (S := (· = s2.nb)) (Mod.refl _ _) (.inl rfl)) hne) (fun hHeld => ?_)
      clear hK K fqax cqax
      try simp only [Act.put, List.getElem_toArray, List.getElem_cons_zero, List.getElem_cons_succ, List.setIfInBounds_toArray, List.set_cons_zero, List.set_cons_succ]
      refine any_named ?_ hHeld
      clear hHeld
      rintro w4 hwn hHeld
      have HN3x : Hid (NT w4 s2.nb s2.cap s2.nn (put1 (setRow M i x) a 6 i)) := Lib.hid (by rw [hwn]; exact HN3D.out.set hal2 (j := 6) (by decide) _)
      have HN3xM : Hid (Mod (· = s2.nb) w3.drew w4) := Lib.hid (by rw [hwn]; exact Mod.set (Mod.refl _ _) (.inl rfl))
      clear hwn
      refine wpAnyH_take (i := 15) (v := .pointer (some ⟨s2.nb, k * 11, none⟩)) rfl (by kernel_rfl) (by kernel_rfl) (by kernel_rfl) (fun _ _ _ h => nomatch h.1) (Or.inl ⟨by kernel_rfl, ?yaz_15⟩) hHeld ?raz_15
      case yaz_15 =>
        intro w hSw
        go_simp
        try with_reducible rfl
      try simp only [Act.put, List.getElem_toArray, List.getElem_cons_zero, List.getElem_cons_succ, List.setIfInBounds_toArray, List.set_cons_zero, List.set_cons_succ]
      refine wpAnyH_take (i := 16) (v := .pointer (some ⟨s2.nb, k * 11 + 6, none⟩)) rfl (by kernel_rfl) (by kernel_rfl) (by kernel_rfl) (fun _ _ _ h => nomatch h.1) (Or.inl ⟨by kernel_rfl, ?yaz_16⟩) hHeld ?raz_16
      case yaz_16 =>
        intro w hSw
        go_simp
        try with_reducible rfl
      try simp only [Act.put, List.getElem_toArray, List.getElem_cons_zero, List.getElem_cons_succ, List.setIfInBounds_toArray, List.set_cons_zero, List.set_cons_succ]
      have fqay := HN3x.out.free
      have cqay := HN3x.out.cell hkl2 (j := 6) (by decide)
      refine wpAnyH_ready (rs := [17]) (by kernel_rfl) (by simp) ?_
      refine AllReadyH.cons (o := _) rfl (fun K hK => ?_) AllReadyH.nil
      go_simp
      try dsimp only
      refine hK.out _ _ (hHeld.mod (Mod.set (S := (· = s2.nb)) (Mod.refl _ _) (.inl rfl)) hne) (fun hHeld => ?_)
      clear hK K fqay cqay
      try simp only [Act.put, List.getElem_toArray, List.getElem_cons_zero, List.getElem_cons_succ, List.setIfInBounds_toArray, List.set_cons_zero, List.set_cons_succ]
      refine any_named ?_ hHeld
      clear hHeld
      rintro w5 hwn hHeld
      have HN3y : Hid (NT w5 s2.nb s2.cap s2.nn (put1 (put1 (setRow M i x) a 6 i) k 6 i)) := Lib.hid (by rw [hwn]; exact HN3x.out.set hkl2 (j := 6) (by decide) _)
      have HN3yM : Hid (Mod (· = s2.nb) w4 w5) := Lib.hid (by rw [hwn]; exact Mod.set (Mod.refl _ _) (.inl rfl))
      clear hwn
      refine wpAnyH_done (by kernel_rfl) ?_ _
      refine ⟨rfl, ?_⟩
      try skip
      have HB5 : Hid (Blk w5 t #[.slice (some ⟨s2.nb, 0, none⟩) s2.nn s2.cap, s2.fv, .int .i64 s2.root, .bool s2.som, .map (some s2.lf), .map (some s2.bx), .int .i64 s2.fat]) := Lib.hid hHeld
      clear hHeld hSa
      have HMM5 : Hid (Mod (· = s2.nb) w3 w5) := Lib.hid ((((Mod.of_below (ext_drew (Below.refl _ _))).trans HN3xM.out).trans HN3yM.out))
      have HW5 := Lib.hid (HW3.out.row HMM5.out HN3y.out)
      have hup : u < (s2.nn : Int) := by
        rw [HU.out]
        rcases Int.lt_or_le c.up 0 with h | h
        · omega
        · have := HLT.out c.up.toNat (List.mem_append_left _ (List.mem_append_left _ (HR.out.perm.mem_iff.1 (List.mem_append_right _ (Cx.up_mem (by omega))))))
          have := HY.out.2.2.1
          have : s2.nn = nn' := by rw [HS2.out]
          omega
      have HUP := Lib.hid hup
      clear hup
      clear zt ct ft
      obtain ⟨zt, ct, ft⟩ := id HB5.out
      go_wp2_with fail
      refine (hang_c _ t s2 (put1 (put1 (setRow M i x) a 6 i) k 6 i) u a i HW5.out.blk HW5.out.nt HW5.out.tn HUP.out).mono ?_
      rintro e w6 ⟨rfl, hB6, hN6, hM6⟩
      have HW6 := Lib.hid (HW5.out.nodes (rt := hangR s2.root u i) hM6 hB6 hN6)
      have HM6 := Lib.hid hM6
      clear hB6 hN6 hM6 zt ct ft
      obtain ⟨rt6, hrt6⟩ : ∃ x, x = hangR s2.root u i := ⟨_, rfl⟩
      have HRT6 := Lib.hid hrt6
      rw [← hrt6] at HW6
      clear hrt6
      have HB6 : Hid (Blk w6 t #[.slice (some ⟨s2.nb, 0, none⟩) s2.nn s2.cap, s2.fv, .int .i64 rt6, .bool s2.som, .map (some s2.lf), .map (some s2.bx), .int .i64 s2.fat]) := Lib.hid HW6.out.blk
      obtain ⟨zt, ct, ft⟩ := id HB6.out
      go_wp2_with fail
      obtain ⟨r1, r2, r3, r4, ⟨_, b5⟩, r6⟩ := HR.out
      have hu := HU.out
      have hac : (a :: c.all).Perm T.all := r3
      have hlc : (a :: c.lvs).Perm T.lvs := r4
      have hpp : (a :: k :: i :: c.all).Perm (i :: (T.all ++ [k])) := by
        have e1 : (a :: k :: i :: c.all).Perm (k :: i :: a :: c.all) := by
          refine List.Perm.trans ?_ (List.Perm.cons k (List.Perm.swap i a _))
          exact List.Perm.swap k a _
        have e2 : (k :: i :: a :: c.all).Perm (i :: k :: a :: c.all) := List.Perm.swap i k _
        refine e1.trans (e2.trans (List.Perm.cons i ?_))
        refine (List.Perm.cons k hac).trans ?_
        exact List.perm_append_comm (l₁ := [k]) (l₂ := T.all)
      have hnd3 : (a :: k :: i :: c.all).Nodup := by
        have h1 := HY.out.1
        have h2 : ((T.all ++ [k]) ++ i :: F').Perm ((i :: (T.all ++ [k])) ++ F') := List.perm_middle
        exact hpp.nodup_iff.2 (List.nodup_append.1 (h2.nodup_iff.1 h1)).1
      have hlt3 : ∀ y ∈ a :: k :: i :: c.all, y < nn' := fun y hy => HY.out.2.1 y (by
        have := hpp.mem_iff.1 hy
        rcases List.mem_cons.1 this with e | e
        · exact List.mem_append_right _ (by simp [e])
        · exact List.mem_append_left _ e)
      have hstep := in_step (x := x) r1 r2 HK7.out.1 HK7.out.2 hnd3 (by rw [← hu]; exact HX.out.1) HX.out.2.1 HX.out.2.2.1 HX.out.2.2.2
      rw [← hu] at hstep
      have hs2 := HS2.out
      have hroot : s2.root = s.root := by rw [hs2]
      have hnn2 : s2.nn = nn' := by rw [hs2]
      have hlen3 : (a :: i :: k :: c.all).length ≤ 1000000 := by
        have h1 := nodup_bound hnd3 hlt3
        have h2 : nn' ≤ s.nn + 1 := by
          rcases HWAY.out with ⟨_, _, _, e⟩ | ⟨_, e⟩ <;> omega
        have h3 := HNN.out
        simp only [List.length_cons] at h1 ⊢
        omega
      have hnd4 : (a :: i :: k :: c.all).Nodup := (List.Perm.cons a (List.Perm.swap i k _)).nodup_iff.1 hnd3
      have hlt4 : ∀ y ∈ a :: i :: k :: c.all, y < s2.nn := fun y hy => by rw [hnn2]; exact hlt3 y ((List.Perm.cons a (List.Perm.swap i k _)).mem_iff.2 hy)
      have hhi : ∀ y, y < s2.nn → 0 ≤ hangM (put1 (put1 (setRow M i x) a 6 i) k 6 i) u a i y 10 ∧ hangM (put1 (put1 (setRow M i x) a 6 i) k 6 i) u a i y 10 ≤ 1000000 := fun y hy => by
        rw [hstep.2.2.2 y]
        split
        · omega
        · rename_i hyi
          exact HH.out y (HY.out.2.2.2.2 y (by omega) hyi)
      refine (mend_c w6 t { s2 with root := rt6 } (hangM (put1 (put1 (setRow M i x) a 6 i) k 6 i) u a i) (.lf a) (.lft i c (.lf k)) (a :: i :: k :: c.all) (a :: k :: c.lvs) HW6.out.tn hnd4 hlt4 hlen3 HW6.out.blk HW6.out.nt hstep.1 (by rw [show ({ s2 with root := rt6 } : BT).root = rt6 from rfl, HRT6.out, hroot]; exact hstep.2.1) (List.Perm.refl _) (List.Perm.refl _) hhi).mono ?_
      rintro e w7 ⟨rfl, M', T2, hR⟩
      have HST := Lib.hid hstep
      have HQQ := Lib.hid (And.intro hac (And.intro hlc b5))
      have HR2 := Lib.hid hR
      clear hR hstep r1 r2 r3 r4 b5 r6 hu hac hlc hpp hnd3 hlt3 hs2 hroot hnn2 hlen3 hnd4 hlt4 hhi
      go_wp2
      go_end0
      have hR := HR2.out
      have hs2 := HS2.out
      obtain ⟨hac, hlc, b5⟩ := HQQ.out
      have hperm : T2.all.Perm (i :: k :: T.all) := by
        have h1 : T2.all.Perm (a :: i :: k :: c.all) := by have := hR.perm; simpa [Cx.all] using this
        refine h1.trans ?_
        have e1 : (a :: i :: k :: c.all).Perm (i :: k :: a :: c.all) := (List.Perm.swap i a _).trans (List.Perm.cons i (List.Perm.swap k a _))
        exact e1.trans (List.Perm.cons i (List.Perm.cons k hac))
      have hplv : T2.lvs.Perm (k :: T.lvs) := by
        have h1 : T2.lvs.Perm (a :: k :: c.lvs) := by have := hR.plv; simpa [Cx.lvs] using this
        exact h1.trans ((List.Perm.swap k a _).trans (List.Perm.cons k hlc))
      have hbal2 : T2.bal := by
        rcases hR.men.balIn b5 with ⟨e, e2⟩ | h
        · cases e2
        · exact h.1
      have hkept : Kept M M' (i :: k :: T.all) (k :: T.lvs) := (HST.out.2.2.1.trans hR.kept).perm (((List.Perm.swap i a _).trans (List.Perm.cons i (List.Perm.swap k a _))).trans (List.Perm.cons i (List.Perm.cons k hac))) ((List.Perm.swap k a _).trans (List.Perm.cons k hlc))
      have hm2 : Mod (TB t s) w wr := HM2.out.trans (Mod.of_below HR.out.ext)
      have hm3 : Mod (TB t s) w w3 := hm2.trans HNP.out.mod
      have hm7 : Mod (TB t s) w w7 := hm3.trans2 (T := fun y => y = t ∨ y = s2.nb) (((HMM5.out.mono fun _ _ e => .inr e).trans HM6.out).trans hR.mod) (fun b hb h => by
        rcases h with h | h
        · exact .inl h
        · have e : s2.nb = nb' := by rw [hs2]
          rw [e] at h
          rcases HNP.out.nb with e2 | e2
          · exact .inr (.inl (h.trans e2))
          · have := hm2.size
            omega)
      have hfv : FvPost w w7 s.fv fv' := HNP.out.fv.imp id (fun h b e => Nat.le_trans hm2.size (h b e))
      have hnb : nb' = s.nb ∨ w.heap.size ≤ nb' := HNP.out.nb.imp id (fun h => Nat.le_trans hm2.size h)
      have htw := HW6.out.nodes (rt := (T2.ix : Int)) hR.mod hR.blk hR.nt
      have hhig := hR.high
      rw [hs2] at htw hhig
      exact ⟨rfl, i, nb', cap', nn', fv', F', M', T2, htw, HNP.out.way, hR.rep, hbal2, hperm, hplv, hkept, hhig, hfv, hnb, hm7⟩
end Go.Proofs.YtefhmbmbhiehdaaDoor
