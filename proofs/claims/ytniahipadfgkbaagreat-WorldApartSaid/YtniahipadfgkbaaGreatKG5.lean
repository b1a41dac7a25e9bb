/- broad.wrong, broad.beyond, broad.New; the tree as a whole, with the map of boxes. Conditions: none. -/
import Derived.Test.YtniahipadfgkbaaGreatKG4
import Derived.Test.YtniahipadfgkbaaGreatKG3
import Derived.Test.YtniahipadfgkbaaGreatKH
import Derived.Test.YtniahipadfgkbaaGreatKErr
namespace Go.Proofs.YtniahipadfgkbaaGreat
open Go Go.Maps Go.RowKit Go.BigFrame Go.ChangeShapes Go.WideShapes
theorem TW.own {w w' : World} {t : Nat} {s : BT} {M : Nat → Nat → Int} {F : List Nat} {m n : Nat} {f : Int → Option Nat} {rt : Int} {sm : Bool} (h : TW w t s M F m n f) (k : Mod (· = t) w w') (hb : Blk w' t { s with root := rt, som := sm }.cs) : TW w' t { s with root := rt, som := sm } M F m n f :=
  ⟨hb, h.nt.mod k (fun e => h.tn e.symm), row_mod h.free k (fun _ e e' => h.ft (e' ▸ e)), h.lfm.mod k h.lt, h.tn, h.ft, h.fn, h.lt, h.ln, h.lv⟩
theorem TW.row {w w' : World} {t : Nat} {s : BT} {M M' : Nat → Nat → Int} {F : List Nat} {m n : Nat} {f : Int → Option Nat} (h : TW w t s M F m n f) (k : Mod (· = s.nb) w w') (hn : NT w' s.nb s.cap s.nn M') : TW w' t s M' F m n f :=
  ⟨h.blk.mod k h.tn, hn, row_mod h.free k (fun _ e e' => h.fn (e' ▸ e)), h.lfm.mod k h.ln, h.tn, h.ft, h.fn, h.lt, h.ln, h.lv⟩
theorem Kept.perm {M M' : Nat → Nat → Int} {all lvs all' lvs' : List Nat} (h : Kept M M' all lvs) (ha : all.Perm all') (hl : lvs.Perm lvs') : Kept M M' all' lvs' :=
  ⟨fun k hk j => h.out k (fun hm => hk (ha.mem_iff.1 hm)) j, fun k hk j hj => h.leaf k (hl.mem_iff.2 hk) j hj⟩
/-- in: the first one -/
def InTop (w : World) (t : Nat) (s : BT) (M : Nat → Nat → Int) (F : List Nat) (m n : Nat) (f : Int → Option Nat) (k : Nat) (id : Int) (e : Ending) (w' : World) : Prop :=
  e = .returned (.tuple #[]) ∧ TW w' t { s with root := (k : Int), som := true } (put1 M k 6 (-1)) F (m + 1) (n + 1) (fun y => if y = id then some k else f y) ∧ Mod (TB t s) w w'
set_option maxRecDepth 100000 in
set_option maxHeartbeats 8000000 in
theorem in_top (w : World) (t : Nat) (s : BT) (M : Nat → Nat → Int) (F : List Nat) (m n : Nat) (f : Int → Option Nat) (k : Nat) (id_ : Int) (hW : TW w t s M F m n f) (hsom : s.som = false) (hk : k < s.nn) (hid : M k 9 = id_) (hkey : keyOf Tryz.prog 3 (.int .i64 id_) = some (.int .i64 id_)) (hf : f id_ = none) (hm : m < 900000) :
    Calls Tryz.prog 46 #[.pointer (some ⟨t, 0, none⟩), .int .i64 (k : Int)] w (InTop w t s M F m n f k id_) := by
  have HW := Lib.hid hW
  have HB : Hid (Blk w t #[.slice (some ⟨s.nb, 0, none⟩) s.nn s.cap, s.fv, .int .i64 s.root, .bool false, .map (some s.lf), .map (some s.bx), .int .i64 s.fat]) := Lib.hid (by rw [← hsom]; exact hW.blk)
  have HID := Lib.hid hid
  have HKEY := Lib.hid hkey
  have HFK := Lib.hid hf
  have HK := Lib.hid hk
  have HM := Lib.hid hm
  have HSOM := Lib.hid hsom
  have q9 : w.cell? ⟨s.nb, k * 11 + 9, none⟩ = some (.int .i64 id_) := by rw [← hid]; exact hW.nt.cell hk (j := 9) (by decide)
  obtain ⟨zt, ct, ft⟩ := id HB.out
  have hbl : s.nb < w.heap.size := hW.nt.lt
  clear hW hid hkey hf hm hsom
  go_enter Tryz.func46, Tryz.ntmps46
  go_upto_region 0 with fail
  have hmc := more_cell
  refine region_quiet_but 13 (by kernel_rfl) (by kernel_rfl) ?_
  simp only [List.take_succ_cons, List.take_zero, List.drop_succ_cons, List.drop_zero]
  repeat (go_big_quiet_step (fail))
  refine wpQuiet_nil ?_
  rintro w1 hw1
  have hb1 := after_below hw1
  clear hw1 hmc zt ct ft q9 hbl
  have HW1 := Lib.hid (HW.out.below hb1)
  have HM1 : Hid (Mod (TB t s) w w1) := Lib.hid (Mod.of_below hb1)
  clear hb1
  refine at_putT (val := .int .i64 (k : Int)) rfl (.tmp 12) (.tmp 20) (.tmp 21) rfl Tryz.underlying87 rfl HW1.out.lfm (by have := HM.out; unfold maxLen; omega) rfl rfl HKEY.out ?_
  intro w2 h2 k2
  have HM2 : Hid (Mod (TB t s) w w2) := Lib.hid (HM1.out.trans (k2.mono fun _ _ e => .inr (.inr (.inr e))))
  have hfk := HFK.out
  simp only [Option.isSome_map, hfk, Option.isSome_none, Bool.false_eq_true, if_false] at h2
  rw [f_more] at h2
  have HW2 := Lib.hid (HW1.out.leaf k2 h2)
  clear h2 k2 hfk
  have HB2 : Hid (Blk w2 t #[.slice (some ⟨s.nb, 0, none⟩) s.nn s.cap, s.fv, .int .i64 s.root, .bool false, .map (some s.lf), .map (some s.bx), .int .i64 s.fat]) := Lib.hid (by rw [← HSOM.out]; exact HW2.out.blk)
  obtain ⟨zt, ct, ft⟩ := id HB2.out
  go_upto_region 3 with fail
  refine wp_named ?_
  rintro w3 hw3
  have hm3 : Mod (· = t) w2 w3 := by rw [hw3]; exact Mod.set (S := (· = t)) (Mod.set (S := (· = t)) (Mod.refl _ _) (.inl rfl)) (.inl rfl)
  have hb3 : Blk w3 t { s with root := (k : Int), som := true }.cs := by rw [hw3]; exact Blk.put (i := 3) (Blk.put (i := 2) HB2.out)
  have HW3 := Lib.hid (HW2.out.own hm3 hb3)
  have HM3 : Hid (Mod (TB t s) w w3) := Lib.hid (HM2.out.trans (hm3.mono fun _ _ e => .inl e))
  clear hm3 hb3 hw3 zt ct ft
  have HB3 : Hid (Blk w3 t #[.slice (some ⟨s.nb, 0, none⟩) s.nn s.cap, s.fv, .int .i64 (k : Int), .bool true, .map (some s.lf), .map (some s.bx), .int .i64 s.fat]) := Lib.hid HW3.out.blk
  obtain ⟨zt, ct, ft⟩ := id HB3.out
  have q6 := HW3.out.nt.cell (show k < s.nn from HK.out) (j := 6) (by decide)
  have fq := HW3.out.nt.free
  simp only [] at q6 fq
  go_wp2_with fail
  (try simp only [Exit.inBlock, Exit.then]); refine bodyPost_ret (results_none rfl _ _ _) rfl ?_
  have hm4 : Mod (· = s.nb) w3 (w3.setCell ⟨s.nb, k * 11 + 6, none⟩ (.int .i64 (-1))) := Mod.set (Mod.refl _ _) (.inl rfl)
  exact ⟨rfl, HW3.out.row hm4 (HW3.out.nt.set HK.out (j := 6) (by decide) (-1)), HM3.out.trans (hm4.mono fun _ _ e => .inr (.inl e))⟩
/-- the way down -/
structure InR (w0 wr : World) (M : Nat → Nat → Int) (rt : Int) (T0 T : Tr) (c : Cx) : Prop where
  rep : Rep M c.up T
  repc : RepC M rt T.ix c
  perm : (T.all ++ c.all).Perm T0.all
  plv : (T.lvs ++ c.lvs).Perm T0.lvs
  bal : T.bal ∧ c.bal T.h
  ext : Below w0.heap.size w0 wr
/-- in: one more -/
def InUp (w : World) (t : Nat) (s : BT) (M : Nat → Nat → Int) (F : List Nat) (m n : Nat) (f : Int → Option Nat) (k : Nat) (id : Int) (T : Tr) (e : Ending) (w' : World) : Prop :=
  e = .returned (.tuple #[]) ∧ ∃ (i nb' cap' nn' : Nat) (fv' : Value) (F' : List Nat) (M' : Nat → Nat → Int) (T' : Tr), TW w' t { s with nb := nb', cap := cap', nn := nn', fv := fv', root := (T'.ix : Int) } M' F' (m + 1) (n + 1) (fun y => if y = id then some k else f y) ∧ NodeWay F s.nn i F' nn' ∧ Rep M' (-1) T' ∧ T'.bal ∧ T'.all.Perm (i :: k :: T.all) ∧ T'.lvs.Perm (k :: T.lvs) ∧ Kept M M' (i :: k :: T.all) (k :: T.lvs) ∧ (∀ y, y < nn' → 0 ≤ M' y 10 ∧ M' y 10 ≤ 1000000) ∧ FvPost w w' s.fv fv' ∧ (nb' = s.nb ∨ w.heap.size ≤ nb') ∧ Mod (TB t s) w w'
set_option maxRecDepth 100000 in
set_option maxHeartbeats 16000000 in
theorem in_up (w : World) (t : Nat) (s : BT) (M : Nat → Nat → Int) (F : List Nat) (m n : Nat) (f : Int → Option Nat) (k : Nat) (id_ : Int) (T : Tr) (hW : TW w t s M F m n f) (hsom : s.som = true) (hk : k < s.nn) (hid : M k 9 = id_) (hkey : keyOf Tryz.prog 3 (.int .i64 id_) = some (.int .i64 id_)) (hf : f id_ = none) (hm : m < 900000)
    (hrt : s.root = (T.ix : Int)) (hT : Rep M (-1) T) (hbal : T.bal) (hnd : ((T.all ++ [k]) ++ F).Nodup) (hlt : ∀ x ∈ (T.all ++ [k]) ++ F, x < s.nn) (hk7 : M k 7 = -1) (hk10 : M k 10 = 0) (hh : ∀ x, x < s.nn → 0 ≤ M x 10 ∧ M x 10 ≤ 1000000) (hnn : s.nn < 900000) :
    Calls Tryz.prog 46 #[.pointer (some ⟨t, 0, none⟩), .int .i64 (k : Int)] w (InUp w t s M F m n f k id_ T) := by
  have HR0 : Hid (RepC M s.root T.ix .top) := Lib.hid ⟨hT.up, hrt⟩
  have HT := Lib.hid hT
  have HBAL := Lib.hid hbal
  have HND := Lib.hid hnd
  have HLT := Lib.hid hlt
  have HK7 := Lib.hid (And.intro hk7 hk10)
  have HH := Lib.hid hh
  have HNN := Lib.hid hnn
  clear hT hbal hnd hlt hk7 hk10 hh hnn
  have hrt0 := Lib.hid hrt
  clear hrt
  have HW := Lib.hid hW
  have HB : Hid (Blk w t #[.slice (some ⟨s.nb, 0, none⟩) s.nn s.cap, s.fv, .int .i64 s.root, .bool true, .map (some s.lf), .map (some s.bx), .int .i64 s.fat]) := Lib.hid (by rw [← hsom]; exact hW.blk)
  have HID := Lib.hid hid
  have HKEY := Lib.hid hkey
  have HFK := Lib.hid hf
  have HK := Lib.hid hk
  have HM := Lib.hid hm
  have HSOM := Lib.hid hsom
  have q9 : w.cell? ⟨s.nb, k * 11 + 9, none⟩ = some (.int .i64 id_) := by rw [← hid]; exact hW.nt.cell hk (j := 9) (by decide)
  obtain ⟨zt, ct, ft⟩ := id HB.out
  have hbl : s.nb < w.heap.size := hW.nt.lt
  clear hW hid hkey hf hm hsom
  go_enter Tryz.func46, Tryz.ntmps46
  go_upto_region 0 with fail
  have hmc := more_cell
  refine region_quiet_but 13 (by kernel_rfl) (by kernel_rfl) ?_
  simp only [List.take_succ_cons, List.take_zero, List.drop_succ_cons, List.drop_zero]
  repeat (go_big_quiet_step (fail))
  refine wpQuiet_nil ?_
  rintro w1 hw1
  have hb1 := after_below hw1
  clear hw1 hmc zt ct ft q9 hbl
  have HW1 := Lib.hid (HW.out.below hb1)
  have HM1 : Hid (Mod (TB t s) w w1) := Lib.hid (Mod.of_below hb1)
  clear hb1
  refine at_putT (val := .int .i64 (k : Int)) rfl (.tmp 12) (.tmp 20) (.tmp 21) rfl Tryz.underlying87 rfl HW1.out.lfm (by have := HM.out; unfold maxLen; omega) rfl rfl HKEY.out ?_
  intro w2 h2 k2
  have HM2 : Hid (Mod (TB t s) w w2) := Lib.hid (HM1.out.trans (k2.mono fun _ _ e => .inr (.inr (.inr e))))
  have hfk := HFK.out
  simp only [Option.isSome_map, hfk, Option.isSome_none, Bool.false_eq_true, if_false] at h2
  rw [f_more] at h2
  have HW2 := Lib.hid (HW1.out.leaf k2 h2)
  clear h2 k2 hfk
  have HB2 : Hid (Blk w2 t #[.slice (some ⟨s.nb, 0, none⟩) s.nn s.cap, s.fv, .int .i64 s.root, .bool true, .map (some s.lf), .map (some s.bx), .int .i64 s.fat]) := Lib.hid (by rw [← HSOM.out]; exact HW2.out.blk)
  obtain ⟨zt, ct, ft⟩ := id HB2.out
  go_upto_region 4 with fail
  go_wp2_with fail
  go_loopg [4] (T.all.length) (fun g v wr => ∃ (T' : Tr) (c : Cx), v = .int .i64 (T'.ix : Int) ∧ g = T'.all.length ∧ InR w2 wr M s.root T T' c)
  case atStart => exact ⟨T, .top, by rw [hrt0.out], rfl, HT.out, HR0.out, by simp [Cx.all], by simp [Cx.lvs], ⟨HBAL.out, trivial⟩, Below.refl _ _⟩
  case round =>
    clear zt ct ft
    obtain ⟨T', c, rfl, hg, hR⟩ := hrel
    have HR := Lib.hid hR
    have hTl : T'.ix < s.nn := HLT.out _ (List.mem_append_left _ (List.mem_append_left _ (hR.perm.mem_iff.1 (List.mem_append_left _ T'.ix_mem))))
    have HWr := Lib.hid (HW2.out.below hR.ext)
    clear hR
    have HBr : Hid (Blk wr t #[.slice (some ⟨s.nb, 0, none⟩) s.nn s.cap, s.fv, .int .i64 s.root, .bool true, .map (some s.lf), .map (some s.bx), .int .i64 s.fat]) := Lib.hid (by rw [← HSOM.out]; exact HWr.out.blk)
    obtain ⟨zt, ct, ft⟩ := id HBr.out
    have q7 := HWr.out.nt.cell hTl (j := 7) (by decide)
    cases T' with
    | nd n' l r =>
      have h7 : M n' 7 = (l.ix : Int) := HR.out.rep.2.1
      have h8 : M n' 8 = (r.ix : Int) := HR.out.rep.2.2.1
      have hTl' : n' < s.nn := hTl
      clear hTl
      have q8 := HWr.out.nt.cell hTl' (j := 8) (by decide)
      simp only [Tr.ix] at q7
      rw [h7] at q7
      rw [h8] at q8
      have hbl : s.nb < wr.heap.size := HWr.out.nt.lt
      have HH78 := Lib.hid (And.intro h7 h8)
      have hp : ∀ x ∈ l.all ++ r.all, x < s.nn := fun x hx => HLT.out _ (List.mem_append_left _ (List.mem_append_left _ (HR.out.perm.mem_iff.1 (List.mem_append_left _ (by simp only [Tr.all]; exact List.mem_cons_of_mem _ hx)))))
      have hll : l.ix < s.nn := hp _ (List.mem_append_left _ l.ix_mem)
      have hrl : r.ix < s.nn := hp _ (List.mem_append_right _ r.ix_mem)
      have HLR := Lib.hid (And.intro hll hrl)
      have hgl : Hid (l.all.length < gk ∧ r.all.length < gk) := Lib.hid (by rw [hg]; simp only [Tr.all, List.length_cons, List.length_append]; omega)
      clear h7 h8 hg hp hll hrl
      obtain ⟨li, hli⟩ : ∃ x : Nat, x = l.ix := ⟨_, rfl⟩
      obtain ⟨ri, hri⟩ : ∃ x : Nat, x = r.ix := ⟨_, rfl⟩
      rw [← hli] at q7
      rw [← hri] at q8
      have HLI := Lib.hid (And.intro hli hri)
      clear hli hri
      have d0 : decide ((0 : Int) ≤ (li : Int)) = true := decide_eq_true (by omega)
      simp only [Tr.ix]
      go_upto_region 6 with fail
      have hmc := more_cell
      refine region_quiet_all (by kernel_rfl) (by kernel_rfl) ?_
      repeat (go_big_quiet_step (fail))
      refine wpQuiet_nil ?_
      rintro w3 hw3
      have hb3 := after_below hw3
      clear hw3 hmc zt ct ft q7 q8 hbl d0 hTl'
      have HW3 := Lib.hid (HWr.out.below hb3)
      have HE3 : Hid (Below w2.heap.size w2 w3) := Lib.hid (HR.out.ext.trans (hb3.mono HR.out.ext.size))
      clear hb3
      obtain ⟨z1, hz1⟩ := more_c w3 t s M li k HW3.out.blk HW3.out.nt (HLI.out.1 ▸ HLR.out.1) HK.out
      go_wp2_with fail
      refine hz1.mono ?_
      rintro e w4 ⟨rfl, hb4⟩
      have HW4 := Lib.hid (HW3.out.below hb4)
      have HE4 : Hid (Below w2.heap.size w2 w4) := Lib.hid (HE3.out.trans (hb4.mono HE3.out.size))
      clear hb4 hz1
      obtain ⟨z2, hz2⟩ := more_c w4 t s M ri k HW4.out.blk HW4.out.nt (HLI.out.2 ▸ HLR.out.2) HK.out
      go_wp2_with fail
      refine hz2.mono ?_
      rintro e w5 ⟨rfl, hb5⟩
      have HE5 : Hid (Below w2.heap.size w2 w5) := Lib.hid (HE4.out.trans (hb5.mono HE4.out.size))
      clear hb5 hz2
      by_cases hle : z1 ≤ z2
      · go_wp2
        go_roundg (l.all.length)
        case measure => exact hgl.out.1
        case rel =>
          obtain ⟨r1, r2, r3, r4, ⟨⟨b1, b2, b3, b4⟩, b5⟩, _⟩ := HR.out
          obtain ⟨_, e7, e8, _, e1, e2⟩ := r1
          refine ⟨l, .lft n' c r, by rw [HLI.out.1], rfl, e1, ⟨e1.up, e7, e8, e2, r2⟩, List.Perm.trans ?_ r3, List.Perm.trans ?_ r4, ⟨b3, b1, b2, b4, b5⟩, HE5.out⟩
          · simp only [Cx.all, Tr.all, List.cons_append, List.append_assoc]
            exact List.perm_middle
          · simp only [Cx.lvs, Tr.lvs, List.append_assoc]
            exact List.Perm.refl _
      · have hle' := Int.not_le.1 hle
        go_wp2
        go_roundg (r.all.length)
        case measure => exact hgl.out.2
        case rel =>
          obtain ⟨r1, r2, r3, r4, ⟨⟨b1, b2, b3, b4⟩, b5⟩, _⟩ := HR.out
          obtain ⟨_, e7, e8, _, e1, e2⟩ := r1
          refine ⟨r, .rgt n' l c, by rw [HLI.out.2], rfl, e2, ⟨e2.up, e7, e8, e1, r2⟩, List.Perm.trans ?_ r3, List.Perm.trans ?_ r4, ⟨b4, b2, b1, b3, b5⟩, HE5.out⟩
          · simp only [Cx.all, Tr.all, List.cons_append, List.append_assoc]
            refine List.perm_middle.trans (List.Perm.cons _ ?_)
            rw [← List.append_assoc, ← List.append_assoc]
            exact List.Perm.append_right _ List.perm_append_comm
          · simp only [Cx.lvs, Tr.lvs, List.append_assoc]
            rw [← List.append_assoc, ← List.append_assoc]
            exact List.Perm.append_right _ List.perm_append_comm
    | lf a =>
      have h7 : M a 7 = -1 := HR.out.rep.2.1
      have h6 : M a 6 = c.up := HR.out.rep.1
      have hal : a < s.nn := hTl
      clear hTl hg
      have q6 := HWr.out.nt.cell hal (j := 6) (by decide)
      simp only [Tr.ix] at q7 ⊢
      rw [h7] at q7
      rw [h6] at q6
      obtain ⟨u, hu⟩ : ∃ u, u = c.up := ⟨_, rfl⟩
      rw [← hu] at q6
      have HU := Lib.hid hu
      have HAL := Lib.hid hal
      clear h7 h6 hu
      obtain ⟨x, x0, x1, x2, x3, x4, x5, x6, x7, x8, x9, x10⟩ : ∃ x : Nat → Int, x 0 = 0 ∧ x 1 = 0 ∧ x 2 = 0 ∧ x 3 = 0 ∧ x 4 = 0 ∧ x 5 = 0 ∧ x 6 = u ∧ x 7 = (a : Int) ∧ x 8 = (k : Int) ∧ x 9 = -1 ∧ x 10 = 0 := ⟨fun j => if j = 6 then u else if j = 7 then (a : Int) else if j = 8 then (k : Int) else if j = 9 then -1 else 0, by simp, by simp, by simp, by simp, by simp, by simp, by simp, by simp, by simp, by simp, by simp⟩
      have HX := Lib.hid (And.intro x6 (And.intro x7 (And.intro x8 x10)))
      have hc := node_c wr t s M F (m + 1) (n + 1) _ x HWr.out (fun y hy => HLT.out y (List.mem_append_right _ hy)) HNN.out
      rw [x0, x1, x2, x3, x4, x5, x6, x7, x8, x9, x10] at hc
      have HC := Lib.hid hc
      clear hc x0 x1 x2 x3 x4 x5 x6 x7 x8 x9 x10
      go_wp2_with fail
      refine HC.out.mono ?_
      rintro e w3 ⟨i, nb', cap', nn', fv', F', rfl, hNP⟩
      have HWAY := Lib.hid hNP.way
      obtain ⟨s2, hs2⟩ : ∃ s2 : BT, s2 = { s with nb := nb', cap := cap', nn := nn', fv := fv' } := ⟨_, rfl⟩
      have hW3 : TW w3 t s2 (setRow M i x) F' (m + 1) (n + 1) (fun y => if y = id_ then some k else f y) := by rw [hs2]; exact hNP.tw
      have HW3 := Lib.hid hW3
      have HNP := Lib.hid hNP
      have HS2 := Lib.hid hs2
      have hsm : s2.som = true := by rw [hs2]; exact HSOM.out
      have hnn2 : s2.nn = nn' := by rw [hs2]
      have HB3 : Hid (Blk w3 t #[.slice (some ⟨s2.nb, 0, none⟩) s2.nn s2.cap, s2.fv, .int .i64 s2.root, .bool s2.som, .map (some s2.lf), .map (some s2.bx), .int .i64 s2.fat]) := Lib.hid hW3.blk
      have HN3 : Hid (NT w3 s2.nb s2.cap s2.nn (setRow M i x)) := Lib.hid hW3.nt
      have hne : t ≠ s2.nb := hW3.tn
      obtain ⟨y1, y2, y3, y4, y5, y6⟩ := NodeWay.facts (A := T.all ++ [k]) (show NodeWay F s.nn i F' nn' from HNP.out.way) HND.out HLT.out
      have HY := Lib.hid (And.intro y1 (And.intro y2 (And.intro y3 (And.intro y5 y6))))
      have hal2 : a < s2.nn := by have := HAL.out; omega
      have hkl2 : k < s2.nn := by have := HK.out; omega
      have hil2 : i < s2.nn := by omega
      clear y1 y2 y3 y4 y5 y6 hNP hs2 hW3 zt ct ft q6 q7 hal hsm hnn2
      obtain ⟨zt, ct, ft⟩ := id HB3.out
      go_upto_region 12 with fail
      have hSa : Blk w3.drew t #[.slice (some ⟨s2.nb, 0, none⟩) s2.nn s2.cap, s2.fv, .int .i64 s2.root, .bool s2.som, .map (some s2.lf), .map (some s2.bx), .int .i64 s2.fat] := (HB3.out).below (ext_drew (Below.refl _ _))
      have HN3D : Hid (NT w3.drew s2.nb s2.cap s2.nn (setRow M i x)) := Lib.hid (HN3.out.below (ext_drew (Below.refl _ _)))
      refine Code.wp_mono (Q := NQ _) (fun e a w h => by obtain ⟨rfl, h⟩ := h; exact h) (wp_region_held_drew (S := fun w' => Blk w' t #[.slice (some ⟨s2.nb, 0, none⟩) s2.nn s2.cap, s2.fv, .int .i64 s2.root, .bool s2.som, .map (some s2.lf), .map (some s2.bx), .int .i64 s2.fat]) (by kernel_rfl) hSa (fun hHeld => ?_))
      refine wpAnyH_take (i := 0) (v := .pointer (some ⟨t, 0, none⟩)) rfl (by kernel_rfl) (by kernel_rfl) (by kernel_rfl) (fun _ _ _ h => nomatch h.1) (Or.inl ⟨by kernel_rfl, ?ya_0⟩) hHeld ?ra_0
      case ya_0 =>
        intro w hSw
        go_simp
        try with_reducible rfl
      try simp only [Act.put, List.getElem_toArray, List.getElem_cons_zero, List.setIfInBounds_toArray, List.set_cons_zero, List.set_cons_succ]
      refine wpAnyH_take (i := 1) (v := .pointer (some ⟨t, 0, none⟩)) rfl (by kernel_rfl) (by kernel_rfl) (by kernel_rfl) (fun _ _ _ h => nomatch h.1) (Or.inl ⟨by kernel_rfl, ?ya_1⟩) hHeld ?ra_1
      case ya_1 =>
        intro w hSw
        go_simp
        try with_reducible rfl
      try simp only [Act.put, List.getElem_toArray, List.getElem_cons_zero, List.getElem_cons_succ, List.setIfInBounds_toArray, List.set_cons_zero, List.set_cons_succ]
      refine wpAnyH_take (i := 2) (v := .pointer (some ⟨t, 0, none⟩)) rfl (by kernel_rfl) (by kernel_rfl) (by kernel_rfl) (fun _ _ _ h => nomatch h.1) (Or.inl ⟨by kernel_rfl, ?ya_2⟩) hHeld ?ra_2
      case ya_2 =>
        intro w hSw
        go_simp
        try with_reducible rfl
      try simp only [Act.put, List.getElem_toArray, List.getElem_cons_zero, List.getElem_cons_succ, List.setIfInBounds_toArray, List.set_cons_zero, List.set_cons_succ]
      refine wpAnyH_take (i := 3) (v := .slice (some ⟨s2.nb, 0, none⟩) s2.nn s2.cap) rfl (by kernel_rfl) (by kernel_rfl) (by kernel_rfl) (fun _ _ _ h => nomatch h.1) (Or.inl ⟨by kernel_rfl, ?ya_3⟩) hHeld ?ra_3
      case ya_3 =>
        intro w hSw
        obtain ⟨zt, ct, ft⟩ := hSw
        go_simp
        try with_reducible rfl
      try simp only [Act.put, List.getElem_toArray, List.getElem_cons_zero, List.getElem_cons_succ, List.setIfInBounds_toArray, List.set_cons_zero, List.set_cons_succ]
      refine wpAnyH_take (i := 4) (v := .int .i64 (a : Int)) rfl (by kernel_rfl) (by kernel_rfl) (by kernel_rfl) (fun _ _ _ h => nomatch h.1) (Or.inl ⟨by kernel_rfl, ?ya_4⟩) hHeld ?ra_4
      case ya_4 =>
        intro w hSw
        go_simp
        try with_reducible rfl
      try simp only [Act.put, List.getElem_toArray, List.getElem_cons_zero, List.getElem_cons_succ, List.setIfInBounds_toArray, List.set_cons_zero, List.set_cons_succ]
      refine wpAnyH_take (i := 5) (v := .pointer (some ⟨t, 0, none⟩)) rfl (by kernel_rfl) (by kernel_rfl) (by kernel_rfl) (fun _ _ _ h => nomatch h.1) (Or.inl ⟨by kernel_rfl, ?ya_5⟩) hHeld ?ra_5
      case ya_5 =>
        intro w hSw
        go_simp
        try with_reducible rfl
      try simp only [Act.put, List.getElem_toArray, List.getElem_cons_zero, List.getElem_cons_succ, List.setIfInBounds_toArray, List.set_cons_zero, List.set_cons_succ]
      refine wpAnyH_take (i := 6) (v := .pointer (some ⟨t, 0, none⟩)) rfl (by kernel_rfl) (by kernel_rfl) (by kernel_rfl) (fun _ _ _ h => nomatch h.1) (Or.inl ⟨by kernel_rfl, ?ya_6⟩) hHeld ?ra_6
      case ya_6 =>
        intro w hSw
        go_simp
        try with_reducible rfl
      try simp only [Act.put, List.getElem_toArray, List.getElem_cons_zero, List.getElem_cons_succ, List.setIfInBounds_toArray, List.set_cons_zero, List.set_cons_succ]
      refine wpAnyH_take (i := 7) (v := .pointer (some ⟨t, 0, none⟩)) rfl (by kernel_rfl) (by kernel_rfl) (by kernel_rfl) (fun _ _ _ h => nomatch h.1) (Or.inl ⟨by kernel_rfl, ?ya_7⟩) hHeld ?ra_7
      case ya_7 =>
        intro w hSw
        go_simp
        try with_reducible rfl
      try simp only [Act.put, List.getElem_toArray, List.getElem_cons_zero, List.getElem_cons_succ, List.setIfInBounds_toArray, List.set_cons_zero, List.set_cons_succ]
      refine wpAnyH_take (i := 8) (v := .slice (some ⟨s2.nb, 0, none⟩) s2.nn s2.cap) rfl (by kernel_rfl) (by kernel_rfl) (by kernel_rfl) (fun _ _ _ h => nomatch h.1) (Or.inl ⟨by kernel_rfl, ?ya_8⟩) hHeld ?ra_8
      case ya_8 =>
        intro w hSw
        obtain ⟨zt, ct, ft⟩ := hSw
        go_simp
        try with_reducible rfl
      try simp only [Act.put, List.getElem_toArray, List.getElem_cons_zero, List.getElem_cons_succ, List.setIfInBounds_toArray, List.set_cons_zero, List.set_cons_succ]
      refine wpAnyH_take (i := 9) (v := .int .i64 (k : Int)) rfl (by kernel_rfl) (by kernel_rfl) (by kernel_rfl) (fun _ _ _ h => nomatch h.1) (Or.inl ⟨by kernel_rfl, ?ya_9⟩) hHeld ?ra_9
      case ya_9 =>
        intro w hSw
        go_simp
        try with_reducible rfl
      try simp only [Act.put, List.getElem_toArray, List.getElem_cons_zero, List.getElem_cons_succ, List.setIfInBounds_toArray, List.set_cons_zero, List.set_cons_succ]
      refine wpAnyH_take (i := 10) (v := .int .i64 (i : Int)) rfl (by kernel_rfl) (by kernel_rfl) (by kernel_rfl) (fun _ _ _ h => nomatch h.1) (Or.inl ⟨by kernel_rfl, ?ya_10⟩) hHeld ?ra_10
      case ya_10 =>
        intro w hSw
        go_simp
        try with_reducible rfl
      try simp only [Act.put, List.getElem_toArray, List.getElem_cons_zero, List.getElem_cons_succ, List.setIfInBounds_toArray, List.set_cons_zero, List.set_cons_succ]
      refine wpAnyH_take (i := 11) (v := .int .i64 (i : Int)) rfl (by kernel_rfl) (by kernel_rfl) (by kernel_rfl) (fun _ _ _ h => nomatch h.1) (Or.inl ⟨by kernel_rfl, ?ya_11⟩) hHeld ?ra_11
      case ya_11 =>
        intro w hSw
        go_simp
        try with_reducible rfl
      try simp only [Act.put, List.getElem_toArray, List.getElem_cons_zero, List.getElem_cons_succ, List.setIfInBounds_toArray, List.set_cons_zero, List.set_cons_succ]
      refine wpAnyH_take (i := 12) (v := .pointer (some ⟨s2.nb, a * 11, none⟩)) rfl (by kernel_rfl) (by kernel_rfl) (by kernel_rfl) (fun _ _ _ h => nomatch h.1) (Or.inl ⟨by kernel_rfl, ?ya_12⟩) hHeld ?ra_12
      case ya_12 =>
        intro w hSw
        go_simp
        try with_reducible rfl
      try simp only [Act.put, List.getElem_toArray, List.getElem_cons_zero, List.getElem_cons_succ, List.setIfInBounds_toArray, List.set_cons_zero, List.set_cons_succ]
      refine wpAnyH_take (i := 13) (v := .pointer (some ⟨s2.nb, a * 11 + 6, none⟩)) rfl (by kernel_rfl) (by kernel_rfl) (by kernel_rfl) (fun _ _ _ h => nomatch h.1) (Or.inl ⟨by kernel_rfl, ?ya_13⟩) hHeld ?ra_13
      case ya_13 =>
        intro w hSw
        go_simp
        try with_reducible rfl
      try simp only [Act.put, List.getElem_toArray, List.getElem_cons_zero, List.getElem_cons_succ, List.setIfInBounds_toArray, List.set_cons_zero, List.set_cons_succ]
      have fqax := HN3D.out.free
      have cqax := HN3D.out.cell hal2 (j := 6) (by decide)
      refine wpAnyH_ready (rs := [14]) (by kernel_rfl) (by simp) ?_
      refine AllReadyH.cons (o := _) rfl (fun K hK => ?_) AllReadyH.nil
      go_simp
      try dsimp only
      refine hK.out _ _ (hHeld.mod (Mod.set (S := (· = s2.nb)) (Mod.refl _ _) (.inl rfl)) hne) (fun hHeld => ?_)
      clear hK K fqax cqax
      try simp only [Act.put, List.getElem_toArray, List.getElem_cons_zero, List.getElem_cons_succ, List.setIfInBounds_toArray, List.set_cons_zero, List.set_cons_succ]
      refine any_named ?_ hHeld
      clear hHeld
      rintro w4 hwn hHeld
      have HN3x : Hid (NT w4 s2.nb s2.cap s2.nn (put1 (setRow M i x) a 6 i)) := Lib.hid (by rw [hwn]; exact HN3D.out.set hal2 (j := 6) (by decide) _)
      have HN3xM : Hid (Mod (· = s2.nb) w3.drew w4) := Lib.hid (by rw [hwn]; exact Mod.set (Mod.refl _ _) (.inl rfl))
      clear hwn
      refine wpAnyH_take (i := 15) (v := .pointer (some ⟨s2.nb, k * 11, none⟩)) rfl (by kernel_rfl) (by kernel_rfl) (by kernel_rfl) (fun _ _ _ h => nomatch h.1) (Or.inl ⟨by kernel_rfl, ?yaz_15⟩) hHeld ?raz_15
      case yaz_15 =>
        intro w hSw
        go_simp
        try with_reducible rfl
      try simp only [Act.put, List.getElem_toArray, List.getElem_cons_zero, List.getElem_cons_succ, List.setIfInBounds_toArray, List.set_cons_zero, List.set_cons_succ]
      refine wpAnyH_take (i := 16) (v := .pointer (some ⟨s2.nb, k * 11 + 6, none⟩)) rfl (by kernel_rfl) (by kernel_rfl) (by kernel_rfl) (fun _ _ _ h => nomatch h.1) (Or.inl ⟨by kernel_rfl, ?yaz_16⟩) hHeld ?raz_16
      case yaz_16 =>
        intro w hSw
        go_simp
        try with_reducible rfl
      try simp only [Act.put, List.getElem_toArray, List.getElem_cons_zero, List.getElem_cons_succ, List.setIfInBounds_toArray, List.set_cons_zero, List.set_cons_succ]
      have fqay := HN3x.out.free
      have cqay := HN3x.out.cell hkl2 (j := 6) (by decide)
      refine wpAnyH_ready (rs := [17]) (by kernel_rfl) (by simp) ?_
      refine AllReadyH.cons (o := _) rfl (fun K hK => ?_) AllReadyH.nil
      go_simp
      try dsimp only
      refine hK.out _ _ (hHeld.mod (Mod.set (S := (· = s2.nb)) (Mod.refl _ _) (.inl rfl)) hne) (fun hHeld => ?_)
      clear hK K fqay cqay
      try simp only [Act.put, List.getElem_toArray, List.getElem_cons_zero, List.getElem_cons_succ, List.setIfInBounds_toArray, List.set_cons_zero, List.set_cons_succ]
      refine any_named ?_ hHeld
      clear hHeld
      rintro w5 hwn hHeld
      have HN3y : Hid (NT w5 s2.nb s2.cap s2.nn (put1 (put1 (setRow M i x) a 6 i) k 6 i)) := Lib.hid (by rw [hwn]; exact HN3x.out.set hkl2 (j := 6) (by decide) _)
      have HN3yM : Hid (Mod (· = s2.nb) w4 w5) := Lib.hid (by rw [hwn]; exact Mod.set (Mod.refl _ _) (.inl rfl))
      clear hwn
      refine wpAnyH_done (by kernel_rfl) ?_ _
      refine ⟨rfl, ?_⟩
      try skip
      have HB5 : Hid (Blk w5 t #[.slice (some ⟨s2.nb, 0, none⟩) s2.nn s2.cap, s2.fv, .int .i64 s2.root, .bool s2.som, .map (some s2.lf), .map (some s2.bx), .int .i64 s2.fat]) := Lib.hid hHeld
      clear hHeld hSa
      have HMM5 : Hid (Mod (· = s2.nb) w3 w5) := Lib.hid ((((Mod.of_below (ext_drew (Below.refl _ _))).trans HN3xM.out).trans HN3yM.out))
      have HW5 := Lib.hid (HW3.out.row HMM5.out HN3y.out)
      have hup : u < (s2.nn : Int) := by
        rw [HU.out]
        rcases Int.lt_or_le c.up 0 with h | h
        · omega
        · have := HLT.out c.up.toNat (List.mem_append_left _ (List.mem_append_left _ (HR.out.perm.mem_iff.1 (List.mem_append_right _ (Cx.up_mem (by omega))))))
          have := HY.out.2.2.1
          have : s2.nn = nn' := by rw [HS2.out]
          omega
      have HUP := Lib.hid hup
      clear hup
      clear zt ct ft
      obtain ⟨zt, ct, ft⟩ := id HB5.out
      go_wp2_with fail
      refine (hang_c _ t s2 (put1 (put1 (setRow M i x) a 6 i) k 6 i) u a i HW5.out.blk HW5.out.nt HW5.out.tn HUP.out).mono ?_
      rintro e w6 ⟨rfl, hB6, hN6, hM6⟩
      have HW6 := Lib.hid (HW5.out.nodes (rt := hangR s2.root u i) hM6 hB6 hN6)
      have HM6 := Lib.hid hM6
      clear hB6 hN6 hM6 zt ct ft
      obtain ⟨rt6, hrt6⟩ : ∃ x, x = hangR s2.root u i := ⟨_, rfl⟩
      have HRT6 := Lib.hid hrt6
      rw [← hrt6] at HW6
      clear hrt6
      have HB6 : Hid (Blk w6 t #[.slice (some ⟨s2.nb, 0, none⟩) s2.nn s2.cap, s2.fv, .int .i64 rt6, .bool s2.som, .map (some s2.lf), .map (some s2.bx), .int .i64 s2.fat]) := Lib.hid HW6.out.blk
      obtain ⟨zt, ct, ft⟩ := id HB6.out
      go_wp2_with fail
      obtain ⟨r1, r2, r3, r4, ⟨_, b5⟩, r6⟩ := HR.out
      have hu := HU.out
      have hac : (a :: c.all).Perm T.all := r3
      have hlc : (a :: c.lvs).Perm T.lvs := r4
      have hpp : (a :: k :: i :: c.all).Perm (i :: (T.all ++ [k])) := by
        have e1 : (a :: k :: i :: c.all).Perm (k :: i :: a :: c.all) := by
          refine List.Perm.trans ?_ (List.Perm.cons k (List.Perm.swap i a _))
          exact List.Perm.swap k a _
        have e2 : (k :: i :: a :: c.all).Perm (i :: k :: a :: c.all) := List.Perm.swap i k _
        refine e1.trans (e2.trans (List.Perm.cons i ?_))
        refine (List.Perm.cons k hac).trans ?_
        exact List.perm_append_comm (l₁ := [k]) (l₂ := T.all)
      have hnd3 : (a :: k :: i :: c.all).Nodup := by
        have h1 := HY.out.1
        have h2 : ((T.all ++ [k]) ++ i :: F').Perm ((i :: (T.all ++ [k])) ++ F') := List.perm_middle
        exact hpp.nodup_iff.2 (List.nodup_append.1 (h2.nodup_iff.1 h1)).1
      have hlt3 : ∀ y ∈ a :: k :: i :: c.all, y < nn' := fun y hy => HY.out.2.1 y (by
        have := hpp.mem_iff.1 hy
        rcases List.mem_cons.1 this with e | e
        · exact List.mem_append_right _ (by simp [e])
        · exact List.mem_append_left _ e)
      have hstep := in_step (x := x) r1 r2 HK7.out.1 HK7.out.2 hnd3 (by rw [← hu]; exact HX.out.1) HX.out.2.1 HX.out.2.2.1 HX.out.2.2.2
      rw [← hu] at hstep
      have hs2 := HS2.out
      have hroot : s2.root = s.root := by rw [hs2]
      have hnn2 : s2.nn = nn' := by rw [hs2]
      have hlen3 : (a :: i :: k :: c.all).length ≤ 1000000 := by
        have h1 := nodup_bound hnd3 hlt3
        have h2 : nn' ≤ s.nn + 1 := by
          rcases HWAY.out with ⟨_, _, _, e⟩ | ⟨_, e⟩ <;> omega
        have h3 := HNN.out
        simp only [List.length_cons] at h1 ⊢
        omega
      have hnd4 : (a :: i :: k :: c.all).Nodup := (List.Perm.cons a (List.Perm.swap i k _)).nodup_iff.1 hnd3
      have hlt4 : ∀ y ∈ a :: i :: k :: c.all, y < s2.nn := fun y hy => by rw [hnn2]; exact hlt3 y ((List.Perm.cons a (List.Perm.swap i k _)).mem_iff.2 hy)
      have hhi : ∀ y, y < s2.nn → 0 ≤ hangM (put1 (put1 (setRow M i x) a 6 i) k 6 i) u a i y 10 ∧ hangM (put1 (put1 (setRow M i x) a 6 i) k 6 i) u a i y 10 ≤ 1000000 := fun y hy => by
        rw [hstep.2.2.2 y]
        split
        · omega
        · rename_i hyi
          exact HH.out y (HY.out.2.2.2.2 y (by omega) hyi)
      refine (mend_c w6 t { s2 with root := rt6 } (hangM (put1 (put1 (setRow M i x) a 6 i) k 6 i) u a i) (.lf a) (.lft i c (.lf k)) (a :: i :: k :: c.all) (a :: k :: c.lvs) HW6.out.tn hnd4 hlt4 hlen3 HW6.out.blk HW6.out.nt hstep.1 (by rw [show ({ s2 with root := rt6 } : BT).root = rt6 from rfl, HRT6.out, hroot]; exact hstep.2.1) (List.Perm.refl _) (List.Perm.refl _) hhi).mono ?_
      rintro e w7 ⟨rfl, M', T2, hR⟩
      have HST := Lib.hid hstep
      have HQQ := Lib.hid (And.intro hac (And.intro hlc b5))
      have HR2 := Lib.hid hR
      clear hR hstep r1 r2 r3 r4 b5 r6 hu hac hlc hpp hnd3 hlt3 hs2 hroot hnn2 hlen3 hnd4 hlt4 hhi
      go_wp2
      go_end0
      have hR := HR2.out
      have hs2 := HS2.out
      obtain ⟨hac, hlc, b5⟩ := HQQ.out
      have hperm : T2.all.Perm (i :: k :: T.all) := by
        have h1 : T2.all.Perm (a :: i :: k :: c.all) := by have := hR.perm; simpa [Cx.all] using this
        refine h1.trans ?_
        have e1 : (a :: i :: k :: c.all).Perm (i :: k :: a :: c.all) := (List.Perm.swap i a _).trans (List.Perm.cons i (List.Perm.swap k a _))
        exact e1.trans (List.Perm.cons i (List.Perm.cons k hac))
      have hplv : T2.lvs.Perm (k :: T.lvs) := by
        have h1 : T2.lvs.Perm (a :: k :: c.lvs) := by have := hR.plv; simpa [Cx.lvs] using this
        exact h1.trans ((List.Perm.swap k a _).trans (List.Perm.cons k hlc))
      have hbal2 : T2.bal := by
        rcases hR.men.balIn b5 with ⟨e, e2⟩ | h
        · cases e2
        · exact h.1
      have hkept : Kept M M' (i :: k :: T.all) (k :: T.lvs) := (HST.out.2.2.1.trans hR.kept).perm (((List.Perm.swap i a _).trans (List.Perm.cons i (List.Perm.swap k a _))).trans (List.Perm.cons i (List.Perm.cons k hac))) ((List.Perm.swap k a _).trans (List.Perm.cons k hlc))
      have hm2 : Mod (TB t s) w wr := HM2.out.trans (Mod.of_below HR.out.ext)
      have hm3 : Mod (TB t s) w w3 := hm2.trans HNP.out.mod
      have hm7 : Mod (TB t s) w w7 := hm3.trans2 (T := fun y => y = t ∨ y = s2.nb) (((HMM5.out.mono fun _ _ e => .inr e).trans HM6.out).trans hR.mod) (fun b hb h => by
        rcases h with h | h
        · exact .inl h
        · have e : s2.nb = nb' := by rw [hs2]
          rw [e] at h
          rcases HNP.out.nb with e2 | e2
          · exact .inr (.inl (h.trans e2))
          · have := hm2.size
            omega)
      have hfv : FvPost w w7 s.fv fv' := HNP.out.fv.imp id (fun h b e => Nat.le_trans hm2.size (h b e))
      have hnb : nb' = s.nb ∨ w.heap.size ≤ nb' := HNP.out.nb.imp id (fun h => Nat.le_trans hm2.size h)
      have htw := HW6.out.nodes (rt := (T2.ix : Int)) hR.mod hR.blk hR.nt
      have hhig := hR.high
      rw [hs2] at htw hhig
      exact ⟨rfl, i, nb', cap', nn', fv', F', M', T2, htw, HNP.out.way, hR.rep, hbal2, hperm, hplv, hkept, hhig, hfv, hnb, hm7⟩
end Go.Proofs.YtniahipadfgkbaaGreat
namespace Go.Proofs.YtniahipadfgkbaaGreat
open Go Go.Maps Go.RowKit Go.BigFrame Go.ChangeShapes Go.WideShapes
/-- what a call leaves of the tree's own cells -/
structure Chg (w w' : World) (t : Nat) (s s' : BT) : Prop where
  bx : s'.bx = s.bx
  lf : s'.lf = s.lf
  fat : s'.fat = s.fat
  mod : Mod (TB t s) w w'
  own : ∀ x, TB t s' x → TB t s x ∨ w.heap.size ≤ x
theorem Chg.trans {w w' w'' : World} {t : Nat} {s s' s'' : BT} (h : Chg w w' t s s') (k : Chg w' w'' t s' s'') : Chg w w'' t s s'' :=
  ⟨k.bx.trans h.bx, k.lf.trans h.lf, k.fat.trans h.fat, h.mod.trans2 k.mod (fun b hb h1 => (h.own b h1).elim id (fun h2 => by omega)), fun x hx => (k.own x hx).elim (h.own x) (fun h2 => .inr (Nat.le_trans h.mod.size h2))⟩
theorem fv_own {w w' : World} {t : Nat} {s : BT} {nb cap nn : Nat} {fv : Value} {rt : Int} {sm : Bool} (h : FvPost w w' s.fv fv) (hn : nb = s.nb ∨ w.heap.size ≤ nb) : ∀ x, TB t { s with nb := nb, cap := cap, nn := nn, fv := fv, root := rt, som := sm } x → TB t s x ∨ w.heap.size ≤ x := by
  rintro x (e | e | e | e)
  · exact .inl (.inl e)
  · rcases hn with h2 | h2
    · exact .inl (.inr (.inl (e.trans h2)))
    · exact .inr (by have e2 : x = nb := e; omega)
  · rcases h with h2 | h2
    · exact .inl (.inr (.inr (.inl (h2 ▸ e))))
    · exact .inr (h2 x e)
  · exact .inl (.inr (.inr (.inr e)))
/-- the tree behind a call: its leaves' rows are as they were -/
structure TreP (w w' : World) (t : Nat) (s : BT) (M : Nat → Nat → Int) (m n : Nat) (f : Int → Option Nat) (g : Nat) (s' : BT) (M' : Nat → Nat → Int) (F' : List Nat) (o' : Option Tr) : Prop where
  tw : TW w' t s' M' F' m n f
  tre : Tre s'.som s'.root s'.nn M' F' n f o'
  row : ∀ id y, f id = some y → ∀ j, j ≠ 6 → M' y j = M y j
  nn : s'.nn ≤ g
  chg : Chg w w' t s s'
theorem all_one {T : Tr} {k : Nat} (h : [k].Perm T.all) : T = .lf k := by
  cases T with
  | lf x =>
    have := List.perm_singleton.1 h.symm
    simp only [Tr.all, List.cons.injEq, and_true] at this
    rw [this]
  | nd x l r =>
    have := h.length_eq
    simp only [Tr.all, List.length_cons, List.length_append, List.length_nil] at this
    have a := List.length_pos_of_mem l.ix_mem
    omega
theorem out_c (w : World) (t : Nat) (s : BT) (M : Nat → Nat → Int) (F : List Nat) (m n : Nat) (f : Int → Option Nat) (k : Nat) (id_ : Int) (o : Option Tr) (hW : TW w t s M F m n f) (hT : Tre s.som s.root s.nn M F n f o) (hf : f id_ = some k) (hkey : keyOf Tryz.prog 3 (.int .i64 id_) = some (.int .i64 id_)) (hnn : s.nn < 800000) :
    Calls Tryz.prog 45 #[.pointer (some ⟨t, 0, none⟩), .int .i64 (k : Int)] w fun e w' => e = .returned (.tuple #[]) ∧ ∃ (s' : BT) (M' : Nat → Nat → Int) (F' : List Nat) (o' : Option Tr), TreP w w' t s M m (n - 1) (fun y => if y = id_ then none else f y) s.nn s' M' F' o' := by
  cases o with
  | none => have := (hT.none_ rfl).2.1 id_; rw [hf] at this; cases this
  | some T =>
    obtain ⟨hsom, hroot, hR, hb, hid, hlen⟩ := hT.some_ T rfl
    obtain ⟨hk, hk9⟩ := (hid id_ k).1 hf
    have hFl : F.length < 800000 := by
      have := nodup_bound (List.nodup_append.1 hT.nd).2.1 (fun x hx => hT.lt x (List.mem_append_right _ hx))
      omega
    have hAl : T.all.length ≤ 800000 := by
      have := nodup_bound (l := T.all) (List.nodup_append.1 hT.nd).1 (fun x hx => hT.lt x (List.mem_append_left _ hx))
      omega
    obtain ⟨c, z1, z2, z3, z4, z5⟩ := Tr.zip (root := s.root) (c := .top) hR ⟨hR.up, hroot⟩ k hk
    have z3 : (k :: c.all).Perm T.all := by simpa [Cx.all] using z3
    have z4 : (k :: c.lvs).Perm T.lvs := by simpa [Cx.lvs] using z4
    have hcb := z5 hb trivial
    have hkk : k < s.nn := hT.lt k (List.mem_append_left _ (T.lvs_sub k hk))
    have hisf : (f id_).isSome = true := by rw [hf]; rfl
    have hTn : T.all.Nodup := (List.nodup_append.1 hT.nd).1
    have hTl : ∀ x ∈ T.all, x < s.nn := fun x hx => hT.lt x (List.mem_append_left _ hx)
    have up : ∀ (U : Nat) (O : Tr) (c2 : Cx) (w' : World) (lvs : List Nat), (k :: U :: (O.all ++ c2.all)).Perm T.all → (k :: (O.lvs ++ c2.lvs)).Perm T.lvs → Bal1 O c2 → OutUp w t s M F m n f k id_ U O c2 (.returned (.tuple #[])) w' → ∃ (s' : BT) (M' : Nat → Nat → Int) (F' : List Nat) (o' : Option Tr), TreP w w' t s M m (n - 1) (fun y => if y = id_ then none else f y) s.nn s' M' F' o' := by
      rintro U O c2 w' lvs p1 p2 hbal ⟨-, fv', M', T', htw, hR', ha, hl, hK, hh, hm, hfv, hmod⟩
      have hT' := hT.out_up hf p1 p2 hR' (hm.bal hbal).1 ha hl hK hh
      refine ⟨_, M', _, some T', htw, ?_, fun id y hy j hj => ?_, Nat.le_refl _, ⟨rfl, rfl, rfl, hmod, fv_own (cap := s.cap) (nn := s.nn) (rt := (T'.ix : Int)) (sm := s.som) hfv (.inl rfl)⟩⟩
      · rw [show ({ s with root := (T'.ix : Int), fv := fv' } : BT).som = true from hsom]
        exact hT'
      · have h1 := (((hT'.some_ T' rfl).2.2.2.2.1 id y).1 hy).1
        exact hK.leaf y (hl.mem_iff.1 h1) j hj
    cases c with
    | top =>
      have e := all_one (T := T) (by simpa [Cx.all] using z3)
      subst e
      refine (out_top w t s M F m n f k id_ hW hkk hk9 hkey hisf hR.1 (by omega)).mono ?_
      rintro e w' ⟨rfl, fv', htw, hfv, hmod⟩
      refine ⟨rfl, _, M, _, none, htw, hT.out_top hf, fun id y hy j _ => rfl, Nat.le_refl _, ⟨rfl, rfl, rfl, hmod, fv_own (cap := s.cap) (nn := s.nn) (rt := s.root) (sm := false) hfv (.inl rfl)⟩⟩
    | lft U c O =>
      have p1 : (k :: U :: (O.all ++ c.all)).Perm T.all := z3
      have p2 : (k :: (O.lvs ++ c.lvs)).Perm T.lvs := z4
      refine (out_lft w t s M F m n f k id_ U O c hW hk9 hkey hisf z2 (p1.nodup_iff.2 hTn) (fun x hx => hTl x (p1.mem_iff.1 hx)) (by have := p1.length_eq; simp only [List.length_cons] at this; omega) hT.high hFl).mono ?_
      rintro e w' h
      obtain ⟨b1, b2, b3, b4⟩ := hcb
      have h0 := O.h0
      exact ⟨h.1, up U O c w' [] p1 p2 ⟨b3, _, b4, by omega, by omega⟩ ⟨rfl, h.2⟩⟩
    | rgt U O c =>
      have p1 : (k :: U :: (O.all ++ c.all)).Perm T.all := z3
      have p2 : (k :: (O.lvs ++ c.lvs)).Perm T.lvs := z4
      refine (out_rgt w t s M F m n f k id_ U O c hW hk9 hkey hisf z2 (p1.nodup_iff.2 hTn) (fun x hx => hTl x (p1.mem_iff.1 hx)) (by have := p1.length_eq; simp only [List.length_cons] at this; omega) hT.high hFl).mono ?_
      rintro e w' h
      obtain ⟨b1, b2, b3, b4⟩ := hcb
      have h0 := O.h0
      exact ⟨h.1, up U O c w' [] p1 p2 ⟨b3, _, b4, by omega, by omega⟩ ⟨rfl, h.2⟩⟩
/-- in: s, M, F as a new node left them -/
theorem in_c (w : World) (t : Nat) (s : BT) (M0 : Nat → Nat → Int) (F0 F : List Nat) (m n nn0 : Nat) (f : Int → Option Nat) (k : Nat) (id_ : Int) (x : Nat → Int) (o : Option Tr) (hW : TW w t s (setRow M0 k x) F m n f) (hT : Tre s.som s.root nn0 M0 F0 n f o) (hway : NodeWay F0 nn0 k F s.nn) (x7 : x 7 = -1) (x9 : x 9 = id_) (x10 : x 10 = 0) (hf : f id_ = none) (hkey : keyOf Tryz.prog 3 (.int .i64 id_) = some (.int .i64 id_)) (hm : m < 900000) (hnn : nn0 < 800000) :
    Calls Tryz.prog 46 #[.pointer (some ⟨t, 0, none⟩), .int .i64 (k : Int)] w fun e w' => e = .returned (.tuple #[]) ∧ ∃ (s' : BT) (M' : Nat → Nat → Int) (F' : List Nat) (o' : Option Tr), TreP w w' t s (setRow M0 k x) (m + 1) (n + 1) (fun y => if y = id_ then some k else f y) (nn0 + 2) s' M' F' o' := by
  have e9 : setRow M0 k x k 9 = id_ := by simp [setRow, x9]
  have e7 : setRow M0 k x k 7 = -1 := by simp [setRow, x7]
  have e10 : setRow M0 k x k 10 = 0 := by simp [setRow, x10]
  cases o with
  | none =>
    obtain ⟨y1, y2, y3, y4, y5, y6⟩ := hway.facts (A := []) hT.nd hT.lt
    refine (in_top w t s _ F m n f k id_ hW (hT.none_ rfl).1 y5 e9 hkey hf hm).mono ?_
    rintro e w' ⟨rfl, htw, hmod⟩
    have hT' := hT.in_top hway x7 x9 x10 (n' := n + 1) rfl
    refine ⟨rfl, _, _, F, some (.lf k), htw, hT', fun id y hy j hj => ?_, by show s.nn ≤ _; omega, ⟨rfl, rfl, rfl, hmod, fun z hz => .inl hz⟩⟩
    unfold put1
    rw [if_neg (fun h => hj h.2)]
  | some T =>
    obtain ⟨hsom, hroot, hR, hb, hid, hlen⟩ := hT.some_ T rfl
    obtain ⟨y1, y2, y3, y4, y5, y6⟩ := hway.facts (A := T.all) hT.nd hT.lt
    have hkT : k ∉ T.all := by
      have : (T.all ++ k :: F).Perm ((k :: T.all) ++ F) := List.perm_middle
      have := this.nodup_iff.1 y1
      exact fun hm => (List.nodup_cons.1 this).1 (List.mem_append_left _ hm)
    have hR' : Rep (setRow M0 k x) (-1) T := hR.same (List.nodup_append.1 hT.nd).1 (fun y hy j => by unfold setRow; rw [if_neg (fun e : y = k => hkT (e ▸ hy))])
    have ea : (T.all ++ k :: F) = ((T.all ++ [k]) ++ F) := by simp
    refine (in_up w t s _ F m n f k id_ T hW hsom y5 e9 hkey hf hm hroot hR' hb (ea ▸ y1) (ea ▸ y2) e7 e10 (fun y hy => ?_) (by omega)).mono ?_
    · by_cases e : y = k
      · subst e; rw [e10]; omega
      · have : setRow M0 k x y 10 = M0 y 10 := by unfold setRow; rw [if_neg e]
        rw [this]
        exact hT.high y (y6 y hy e)
    · rintro e w' ⟨rfl, i, nb', cap', nn', fv', F', M', T', htw, hway2, hR2, hb2, ha, hl, hK, hh, hfv, hnb, hmod⟩
      have hT' := hT.in_up hway hway2 x9 hf (n' := n + 1) rfl hR2 hb2 ha hl hK hh
      have hnn' : nn' ≤ s.nn + 1 := by rcases hway2 with ⟨_, _, _, e⟩ | ⟨_, e⟩ <;> omega
      refine ⟨rfl, _, M', F', some T', htw, ?_, fun id y hy j hj => ?_, by show nn' ≤ _; omega, ⟨rfl, rfl, rfl, hmod, fv_own (cap := cap') (nn := nn') (rt := (T'.ix : Int)) (sm := s.som) hfv hnb⟩⟩
      · rw [show ({ s with nb := nb', cap := cap', nn := nn', fv := fv', root := (T'.ix : Int) } : BT).som = true from hsom]
        exact hT'
      · have h1 := (((hT'.some_ T' rfl).2.2.2.2.1 id y).1 hy).1
        exact hK.leaf y (hl.mem_iff.1 h1) j hj
end Go.Proofs.YtniahipadfgkbaaGreat
namespace Go.Proofs.YtniahipadfgkbaaGreat
open Go Go.Maps Go.RowKit Go.BigFrame Go.ChangeShapes Go.WideShapes
/-- a box as a value -/
def bxV (b : Bx) : Value := .agg #[.int .i64 b.a1, .int .i64 b.a2, .int .i64 b.a3, .int .i64 b.b1, .int .i64 b.b2, .int .i64 b.b3]
def wrongX (b : Bx) : Bool := decide (b.b1 < b.a1) || decide (b.b2 < b.a2) || decide (b.b3 < b.a3)
def beyondX (b : Bx) : Bool := decide (min (min b.a1 b.a2) b.a3 < -70368744177664) || decide (70368744177664 < max (max b.b1 b.b2) b.b3)
theorem wrong_c (b : Bx) {v : Bool} (hv : wrongX b = v) (w : World) : Calls Tryz.prog 42 #[bxV b] w fun e w' => e = .returned (.bool v) ∧ Below w.heap.size w w' := by
  obtain ⟨a1, a2, a3, a4, a5, a6⟩ := b
  subst hv
  unfold bxV wrongX
  go_enter Tryz.func42, Tryz.ntmps42
  go_wp2
  all_goals
    go_ret
    refine ⟨?_, (by repeat (with_reducible (first | exact Below.refl _ _ | assumption | apply ext_drew | apply ext_drewN | apply ext_alloc | apply ext_more | (refine ext_setCell ?_ (by first | assumption | (simp <;> omega)) _) | (refine ext_below ?_ (by assumption)))))⟩
    refine congrArg (fun b => Ending.returned (Value.bool b)) ?_
    first
    | rfl
    | (rw [Bool.eq_iff_iff]; simp only [Bool.or_eq_true, decide_eq_true_eq, true_iff]; omega)
theorem beyond_c (b : Bx) {v : Bool} (hv : beyondX b = v) (w : World) : Calls Tryz.prog 43 #[bxV b] w fun e w' => e = .returned (.bool v) ∧ Below w.heap.size w w' := by
  obtain ⟨a1, a2, a3, a4, a5, a6⟩ := b
  subst hv
  unfold bxV beyondX
  go_enter Tryz.func43, Tryz.ntmps43
  go_wp2
  all_goals
    go_ret
    refine ⟨?_, (by repeat (with_reducible (first | exact Below.refl _ _ | assumption | apply ext_drew | apply ext_drewN | apply ext_alloc | apply ext_more | (refine ext_setCell ?_ (by first | assumption | (simp <;> omega)) _) | (refine ext_below ?_ (by assumption)))))⟩
    refine congrArg (fun b => Ending.returned (Value.bool b)) ?_
    rw [Bool.eq_iff_iff]
    simp only [Bool.or_eq_true, decide_eq_true_eq, true_iff]
    omega
/-- all of a tree's own blocks -/
def BB (t : Nat) (s : BT) (x : Nat) : Prop := TB t s x ∨ x = s.bx
/-- the tree in memory: D the bodies' boxes, n how many -/
structure BWx (w : World) (t : Nat) (s : BT) (M : Nat → Nat → Int) (F : List Nat) (m mb n : Nat) (f : Int → Option Nat) (o : Option Tr) (D : Int → Option Bx) : Prop where
  tw : TW w t s M F m n f
  tre : Tre s.som s.root s.nn M F n f o
  bxm : VI w s.bx mb n (fun id => (D id).map bxV)
  bxs : Bxs M f D
  bt : s.bx ≠ t
  bn : s.bx ≠ s.nb
  bl : s.bx ≠ s.lf
  bf : s.fv.ownBlock ≠ some s.bx
theorem BWx.below {w w' : World} {t : Nat} {s : BT} {M : Nat → Nat → Int} {F : List Nat} {m mb n : Nat} {f : Int → Option Nat} {o : Option Tr} {D : Int → Option Bx} (h : BWx w t s M F m mb n f o D) (k : Below w.heap.size w w') : BWx w' t s M F m mb n f o D :=
  ⟨h.tw.below k, h.tre, h.bxm.below k, h.bxs, h.bt, h.bn, h.bl, h.bf⟩
theorem BWx.mod {w w' : World} {S : Nat → Prop} {t : Nat} {s : BT} {M : Nat → Nat → Int} {F : List Nat} {m mb n : Nat} {f : Int → Option Nat} {o : Option Tr} {D : Int → Option Bx} (h : BWx w t s M F m mb n f o D) (k : Mod S w w') (hs : ∀ x, BB t s x → ¬ S x) : BWx w' t s M F m mb n f o D :=
  ⟨h.tw.mod k (fun x hx => hs x (.inl hx)), h.tre, h.bxm.mod k (hs _ (.inr rfl)), h.bxs, h.bt, h.bn, h.bl, h.bf⟩
theorem BWx.lt {w : World} {t : Nat} {s : BT} {M : Nat → Nat → Int} {F : List Nat} {m mb n : Nat} {f : Int → Option Nat} {o : Option Tr} {D : Int → Option Bx} (h : BWx w t s M F m mb n f o D) : ∀ x, BB t s x → x < w.heap.size := by
  rintro x ((e | e | e | e) | e)
  · exact e ▸ h.tw.blk.lt
  · exact e ▸ h.tw.nt.lt
  · exact (row_lt h.tw.free e).1
  · exact e ▸ h.tw.lfm.lt
  · exact e ▸ h.bxm.lt
/-- what Put, or Remove, leaves -/
structure PutP (w w' : World) (t : Nat) (s : BT) (m mb n' : Nat) (D' : Int → Option Bx) (s' : BT) (M' : Nat → Nat → Int) (F' : List Nat) (m' mb' : Nat) (f' : Int → Option Nat) (o' : Option Tr) : Prop where
  bw : BWx w' t s' M' F' m' mb' n' f' o' D'
  fat : s'.fat = s.fat
  m : m' ≤ m + 1
  mb : mb' ≤ mb + 1
  nn : s'.nn ≤ s.nn + 2
  mod : Mod (BB t s) w w'
  own : ∀ x, BB t s' x → BB t s x ∨ w.heap.size ≤ x
/-- the boxes with this one -/
def updD (D : Int → Option Bx) (id : Int) (b : Bx) : Int → Option Bx := fun y => if y = id then some b else D y
theorem bx_more (D : Int → Option Bx) (id : Int) (b : Bx) : (fun y => if y = id then some (bxV b) else (D y).map bxV) = fun y => (updD D id b y).map bxV := by
  funext y
  by_cases e : y = id <;> simp [e, updD]
/-- a new tree -/
structure BF (w : World) (t lf bx : Nat) (fat : Int) : Prop where
  blk : Blk w t #[.slice none 0 0, .slice none 0 0, .int .i64 0, .bool false, .map (some lf), .map (some bx), .int .i64 fat]
  lfm : VI w lf 0 0 (fun _ => none)
  bxm : VI w bx 0 0 (fun _ => none)
  lt : lf ≠ t
  bt : bx ≠ t
  bl : bx ≠ lf
def BFB (t lf bx x : Nat) : Prop := x = t ∨ x = lf ∨ x = bx
theorem BF.mod {S : Nat → Prop} {w w' : World} {t lf bx : Nat} {fat : Int} (h : BF w t lf bx fat) (k : Mod S w w') (hs : ∀ x, BFB t lf bx x → ¬ S x) : BF w' t lf bx fat :=
  ⟨h.blk.mod k (hs _ (.inl rfl)), h.lfm.mod k (hs _ (.inr (.inl rfl))), h.bxm.mod k (hs _ (.inr (.inr rfl))), h.lt, h.bt, h.bl⟩
theorem BF.below {w w' : World} {t lf bx : Nat} {fat : Int} (h : BF w t lf bx fat) (k : Below w.heap.size w w') : BF w' t lf bx fat := h.mod (S := fun _ => False) (Mod.of_below k) (fun _ _ h => h)
/-- the tree in memory, p how many Puts there were at most, S its blocks -/
def BW (w : World) (t : Nat) (fat : Int) (p : Nat) (D : Int → Option Bx) (n : Nat) (S : Nat → Prop) : Prop :=
  ((∃ lf bx, BF w t lf bx fat ∧ D = (fun _ => none) ∧ n = 0 ∧ ∀ x, BFB t lf bx x → S x) ∨
  ∃ (s : BT) (M : Nat → Nat → Int) (F : List Nat) (m mb : Nat) (f : Int → Option Nat) (o : Option Tr), BWx w t s M F m mb n f o D ∧ s.fat = fat ∧ m ≤ p ∧ mb ≤ p ∧ s.nn ≤ 2 * p ∧ n ≤ 60 ∧ (∀ x, BB t s x → S x)) ∧ ∀ x, S x → x < w.heap.size
theorem BW.mod {w w' : World} {t p n : Nat} {fat : Int} {D : Int → Option Bx} {S R : Nat → Prop} (h : BW w t fat p D n S) (k : Mod R w w') (hs : ∀ x, S x → ¬ R x) : BW w' t fat p D n S := by
  obtain ⟨h, h7⟩ := h
  refine ⟨?_, fun x hx => Nat.lt_of_lt_of_le (h7 x hx) k.size⟩
  rcases h with ⟨lf, bx, hF, hD, hn, hS⟩ | ⟨s, M, F, m, mb, f, o, hX, h1, h2, h3, h4, h5, h6⟩
  · exact .inl ⟨lf, bx, hF.mod k (fun x hx => hs x (hS x hx)), hD, hn, hS⟩
  · exact .inr ⟨s, M, F, m, mb, f, o, hX.mod k (fun x hx => hs x (h6 x hx)), h1, h2, h3, h4, h5, h6⟩
theorem BW.below {w w' : World} {t p n : Nat} {fat : Int} {D : Int → Option Bx} {S : Nat → Prop} (h : BW w t fat p D n S) (k : Below w.heap.size w w') : BW w' t fat p D n S := h.mod (R := fun _ => False) (Mod.of_below k) (fun _ _ h => h)
theorem BW.le {w : World} {t p p' n : Nat} {fat : Int} {D : Int → Option Bx} {S : Nat → Prop} (h : BW w t fat p D n S) (hp : p ≤ p') : BW w t fat p' D n S := by
  obtain ⟨h, h7⟩ := h
  refine ⟨h.imp id ?_, h7⟩
  rintro ⟨s, M, F, m, mb, f, o, hX, h1, h2, h3, h4, h5, h6⟩
  exact ⟨s, M, F, m, mb, f, o, hX, h1, by omega, by omega, by omega, h5, h6⟩
theorem BW.of {w w' : World} {t p : Nat} {fat : Int} {s : BT} {m mb n' : Nat} {D' : Int → Option Bx} {S : Nat → Prop} {s' : BT} {M' : Nat → Nat → Int} {F' : List Nat} {m' mb' : Nat} {f' : Int → Option Nat} {o' : Option Tr}
    (hS : ∀ x, BB t s x → S x) (hL : ∀ x, S x → x < w.heap.size) (h1 : s.fat = fat) (h2 : m ≤ p) (h3 : mb ≤ p) (h4 : s.nn ≤ 2 * p) (hn : n' ≤ 60) (h : PutP w w' t s m mb n' D' s' M' F' m' mb' f' o') :
    Mod S w w' ∧ ∃ S', BW w' t fat (p + 1) D' n' S' ∧ ∀ x, S' x → S x ∨ w.heap.size ≤ x :=
  ⟨h.mod.mono (fun x _ hx => hS x hx), fun x => S x ∨ BB t s' x, ⟨.inr ⟨s', M', F', m', mb', f', o', h.bw, h.fat.trans h1, by have := h.m; omega, by have := h.mb; omega, by have := h.nn; omega, hn, fun x hx => .inr hx⟩, fun x hx => hx.elim (fun e => Nat.lt_of_lt_of_le (hL x e) h.mod.size) (fun e => h.bw.lt x e)⟩, fun x hx => hx.elim .inl (fun e => (h.own x e).imp (hS x) id)⟩
/-- New -/
theorem bnew_c (fat : Int) (hf : 0 ≤ fat ∧ fat ≤ 3276800) (w : World) : Calls Tryz.prog 30 #[.int .i64 fat] w fun e w' => ∃ t S, e = .returned (.tuple #[.pointer (some ⟨t, 0, none⟩), .nilIface]) ∧ Below w.heap.size w w' ∧ BW w' t fat 0 (fun _ => none) 0 S ∧ ∀ x, S x → w.heap.size ≤ x := by
  have h0 : 0 ≤ fat := hf.1
  have h1 : fat ≤ 3276800 := hf.2
  clear hf
  have hmk := @run_makeMap Tryz.prog
  go_enter Tryz.func30, Tryz.ntmps30
  go_wp2
  exact bodyPost_ret (v := .tuple #[.pointer (some ⟨w.heap.size + 1 + 1, 0, none⟩), .nilIface]) (by simp [results, Tryz.results30, go_sem, *]) rfl (by
    refine ⟨w.heap.size + 1 + 1, fun x => w.heap.size ≤ x ∧ x < w.heap.size + 3, rfl, (by repeat (with_reducible (first | exact Below.refl _ _ | assumption | apply ext_drew | apply ext_drewN | apply ext_alloc | apply ext_more | (refine ext_setCell ?_ (by first | assumption | (simp <;> omega)) _) | (refine ext_below ?_ (by assumption))))), ⟨.inl ⟨w.heap.size, w.heap.size + 1, ⟨by apply Blk.at; simp, ((vi_made _).below (ballocT _ _)).below (ballocT _ _), ?_, by omega, by omega, by omega⟩, rfl, rfl, ?_⟩, ?_⟩, fun x hx => hx.1⟩
    · have h := (vi_made (w.alloc (.map #[] 0))).below (ballocT _ (.cells #[.slice none 0 0, .slice none 0 0, .int .i64 0, .bool false, .map (some w.heap.size), .map (some (w.heap.size + 1)), .int .i64 fat] 90))
      simpa using h
    · rintro x (e | e | e) <;> omega
    · intro x hx
      have a1 : ∀ (w : World) (o : Obj), (w.alloc o).heap.size = w.heap.size + 1 := fun w o => by simp
      simp only [a1]
      omega)
end Go.Proofs.YtniahipadfgkbaaGreat
