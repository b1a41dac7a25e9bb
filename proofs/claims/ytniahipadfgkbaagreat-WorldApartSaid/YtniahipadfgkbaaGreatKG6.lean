/- Remove of broad.Tree. Conditions: none. -/
import Derived.Test.YtniahipadfgkbaaGreatKG5
import Derived.Test.YtniahipadfgkbaaGreatKX2
namespace Go.Proofs.YtniahipadfgkbaaGreat
open Go Go.Maps Go.RowKit Go.BigFrame Go.ChangeShapes Go.WideShapes
/-- the tree's own cells and its maps -/
structure BH (w : World) (t : Nat) (nv fv : Value) (rt : Int) (som : Bool) (lf bx : Nat) (fat : Int) (m mb n nb : Nat) (f : Int → Option Nat) (D : Int → Option Bx) : Prop where
  blk : Blk w t #[nv, fv, .int .i64 rt, .bool som, .map (some lf), .map (some bx), .int .i64 fat]
  lfm : VI w lf m n (fun id => (f id).map fun (k : Nat) => .int .i64 (k : Int))
  bxm : VI w bx mb nb (fun id => (D id).map bxV)
  bt : bx ≠ t
theorem BH.below {w w' : World} {t : Nat} {nv fv : Value} {rt : Int} {som : Bool} {lf bx : Nat} {fat : Int} {m mb n nb : Nat} {f : Int → Option Nat} {D : Int → Option Bx} (h : BH w t nv fv rt som lf bx fat m mb n nb f D) (k : Below w.heap.size w w') : BH w' t nv fv rt som lf bx fat m mb n nb f D :=
  ⟨h.blk.below k, h.lfm.below k, h.bxm.below k, h.bt⟩
/-- len of a map, whose guard says yes -/
theorem at_lenG {Q : Exit → Act → World → Prop} {w : World} {b m n : Nat} {f : Int → Option Value} {T E : TypeId} {o : Oper} {ops : Array Oper} {rest : List Oper} {a : Act} (hw : Region.wanted o (yielded ops a.tmps) = true) (mm : Operand) (hop : o.op = Op.call { callee := Callee.builtin Builtin.len, args := #[mm], argTypes := #[T] }) (ht : Tryz.prog.underlying T = some (.map 3 E))
    (hm : a.eval mm = .map (some b)) (h : VI w b m n f) (hK : wpList Tryz.prog ops Q rest (a.put o.dst (.int .i64 n)) w) : wpList Tryz.prog ops Q (o :: rest) a w := by
  obtain ⟨F, ⟨D, hown, hT, hf⟩, _⟩ := h
  refine wpList_want hw fun K' hK' => ?_
  unfold Oper.wp
  simp [execOp, hop, resolve, invoke, builtin, hm, hown.len ht o.type, Result.andThen]
  rw [hf.size]
  exact hK' _ _ hK
theorem zero_intT (w : World) : (zeroValue 3).run Tryz.prog w = .ok (.int .i64 0) w := Tryz.zeroValue3 w
set_option maxRecDepth 100000 in
set_option maxHeartbeats 4000000 in
theorem put_wrong (w : World) (t : Nat) (id_ : Int) (b : Bx) (hwr : wrongX b = true) :
    Calls Tryz.prog 23 #[.pointer (some ⟨t, 0, none⟩), .int .i64 id_, bxV b] w fun e w' => e = .returned (errV 1) ∧ Below w.heap.size w w' := by
  unfold bxV
  go_enter Tryz.func23, Tryz.ntmps23
  go_upto_region 1 with fail
  refine wp_fresh ?_
  rintro w1 hb1
  have B1 : Blk w1 w.heap.size #[.int .i64 b.a1, .int .i64 b.a2, .int .i64 b.a3, .int .i64 b.b1, .int .i64 b.b2, .int .i64 b.b3] := Blk.below (by repeat (with_reducible (first | assumption | (apply Blk.at; simp; done) | apply Blk.alloc | apply Blk.drew | apply Blk.drewN | apply Blk.more | apply Blk.put | (apply Blk.far; focus (first | assumption | (apply Ne.symm; assumption) | (simp; done) | (simp <;> omega)))))) hb1
  have hv1 : Below w.heap.size w w1 := (by repeat (with_reducible (first | exact Below.refl _ _ | assumption | apply ext_drew | apply ext_drewN | apply ext_alloc | apply ext_more | (refine ext_setCell ?_ (by first | assumption | (simp <;> omega)) _) | (refine ext_below ?_ (by assumption)))))
  clear hb1
  obtain ⟨p, hp⟩ : ∃ p, p = w.heap.size := ⟨_, rfl⟩
  rw [← hp] at B1 ⊢
  have HP := Lib.hid hp
  have HB1 := Lib.hid B1
  have HV1 := Lib.hid hv1
  clear hp B1 hv1
  obtain ⟨zp, cp, fp⟩ := id HB1.out
  go_wp2_with fail
  refine (wrong_c b hwr _).mono ?_
  rintro e w2 ⟨rfl, hb2⟩
  have HB2 := Lib.hid (HB1.out.below hb2)
  have HV2 : Hid (Below w.heap.size w w2) := Lib.hid (HV1.out.trans (hb2.mono HV1.out.size))
  clear hb2 zp cp fp
  obtain ⟨zp, cp, fp⟩ := id HB2.out
  go_wp2
  go_ret
  exact ⟨rfl, HV2.out⟩
set_option maxRecDepth 100000 in
set_option maxHeartbeats 4000000 in
theorem put_beyond (w : World) (t : Nat) (id_ : Int) (b : Bx) (hwr : wrongX b = false) (hbe : beyondX b = true) :
    Calls Tryz.prog 23 #[.pointer (some ⟨t, 0, none⟩), .int .i64 id_, bxV b] w fun e w' => e = .returned (errV 2) ∧ Below w.heap.size w w' := by
  unfold bxV
  go_enter Tryz.func23, Tryz.ntmps23
  go_upto_region 1 with fail
  refine wp_fresh ?_
  rintro w1 hb1
  have B1 : Blk w1 w.heap.size #[.int .i64 b.a1, .int .i64 b.a2, .int .i64 b.a3, .int .i64 b.b1, .int .i64 b.b2, .int .i64 b.b3] := Blk.below (by repeat (with_reducible (first | assumption | (apply Blk.at; simp; done) | apply Blk.alloc | apply Blk.drew | apply Blk.drewN | apply Blk.more | apply Blk.put | (apply Blk.far; focus (first | assumption | (apply Ne.symm; assumption) | (simp; done) | (simp <;> omega)))))) hb1
  have hv1 : Below w.heap.size w w1 := (by repeat (with_reducible (first | exact Below.refl _ _ | assumption | apply ext_drew | apply ext_drewN | apply ext_alloc | apply ext_more | (refine ext_setCell ?_ (by first | assumption | (simp <;> omega)) _) | (refine ext_below ?_ (by assumption)))))
  clear hb1
  obtain ⟨p, hp⟩ : ∃ p, p = w.heap.size := ⟨_, rfl⟩
  rw [← hp] at B1 ⊢
  have HP := Lib.hid hp
  have HB1 := Lib.hid B1
  have HV1 := Lib.hid hv1
  clear hp B1 hv1
  obtain ⟨zp, cp, fp⟩ := id HB1.out
  go_wp2_with fail
  refine (wrong_c b hwr _).mono ?_
  rintro e w2 ⟨rfl, hb2⟩
  have HB2 := Lib.hid (HB1.out.below hb2)
  have HV2 : Hid (Below w.heap.size w w2) := Lib.hid (HV1.out.trans (hb2.mono HV1.out.size))
  clear hb2 zp cp fp
  obtain ⟨zp, cp, fp⟩ := id HB2.out
  go_wp2_with fail
  refine (beyond_c b hbe _).mono ?_
  rintro e w3 ⟨rfl, hb3⟩
  have HB3 := Lib.hid (HB2.out.below hb3)
  have HV3 : Hid (Below w.heap.size w w3) := Lib.hid (HV2.out.trans (hb3.mono HV2.out.size))
  clear hb3 zp cp fp
  obtain ⟨zp, cp, fp⟩ := id HB3.out
  go_wp2
  go_ret
  exact ⟨rfl, HV3.out⟩
set_option maxRecDepth 100000 in
set_option maxHeartbeats 4000000 in
theorem put_limit (w : World) (t : Nat) (id_ : Int) (b : Bx) (nv fv : Value) (rt : Int) (som : Bool) (lf bx : Nat) (fat : Int) (m mb n nb : Nat) (f : Int → Option Nat) (D : Int → Option Bx) (hH : BH w t nv fv rt som lf bx fat m mb n nb f D) (hwr : wrongX b = false) (hbe : beyondX b = false) (hkey : keyOf Tryz.prog 3 (.int .i64 id_) = some (.int .i64 id_)) (hf : f id_ = none) (hn : 60 ≤ n) :
    Calls Tryz.prog 23 #[.pointer (some ⟨t, 0, none⟩), .int .i64 id_, bxV b] w fun e w' => e = .returned (errV 4) ∧ Below w.heap.size w w' := by
  have HH := Lib.hid hH
  have HKEY := Lib.hid hkey
  have HF := Lib.hid hf
  clear hH hkey hf
  unfold bxV
  go_enter Tryz.func23, Tryz.ntmps23
  go_upto_region 1 with fail
  refine wp_fresh ?_
  rintro w1 hb1
  have B1 : Blk w1 w.heap.size #[.int .i64 b.a1, .int .i64 b.a2, .int .i64 b.a3, .int .i64 b.b1, .int .i64 b.b2, .int .i64 b.b3] := Blk.below (by repeat (with_reducible (first | assumption | (apply Blk.at; simp; done) | apply Blk.alloc | apply Blk.drew | apply Blk.drewN | apply Blk.more | apply Blk.put | (apply Blk.far; focus (first | assumption | (apply Ne.symm; assumption) | (simp; done) | (simp <;> omega)))))) hb1
  have hv1 : Below w.heap.size w w1 := (by repeat (with_reducible (first | exact Below.refl _ _ | assumption | apply ext_drew | apply ext_drewN | apply ext_alloc | apply ext_more | (refine ext_setCell ?_ (by first | assumption | (simp <;> omega)) _) | (refine ext_below ?_ (by assumption)))))
  clear hb1
  obtain ⟨p, hp⟩ : ∃ p, p = w.heap.size := ⟨_, rfl⟩
  rw [← hp] at B1 ⊢
  have HP := Lib.hid hp
  have HB1 := Lib.hid B1
  have HV1 := Lib.hid hv1
  clear hp B1 hv1
  obtain ⟨zp, cp, fp⟩ := id HB1.out
  go_wp2_with fail
  refine (wrong_c b hwr _).mono ?_
  rintro e w2 ⟨rfl, hb2⟩
  have HB2 := Lib.hid (HB1.out.below hb2)
  have HV2 : Hid (Below w.heap.size w w2) := Lib.hid (HV1.out.trans (hb2.mono HV1.out.size))
  clear hb2 zp cp fp
  obtain ⟨zp, cp, fp⟩ := id HB2.out
  go_wp2_with fail
  refine (beyond_c b hbe _).mono ?_
  rintro e w3 ⟨rfl, hb3⟩
  have HB3 := Lib.hid (HB2.out.below hb3)
  have HV3 : Hid (Below w.heap.size w w3) := Lib.hid (HV2.out.trans (hb3.mono HV2.out.size))
  clear hb3 zp cp fp
  obtain ⟨zp, cp, fp⟩ := id HB3.out
  have HH3 := Lib.hid (HH.out.below HV3.out)
  obtain ⟨zt, ct, ft⟩ := id HH3.out.blk
  go_upto_region 6 with (at_lookup; refine at_lookT rfl _ _ rfl Tryz.underlying87 (zero_intT _) rfl HH3.out.lfm rfl HKEY.out ?_; rw [HF.out])
  try simp only [Option.map_none, Option.getD_none, Option.isSome_none]
  have hn' : (60 : Int) ≤ (n : Int) := by omega
  have d60 : decide ((60 : Int) ≤ (n : Int)) = true := decide_eq_true hn'
  go_wp2_with (at_len; refine at_lenG (by rfl) _ rfl Tryz.underlying87 rfl HH3.out.lfm ?_)
  go_ret
  exact ⟨rfl, HV3.out⟩
set_option maxRecDepth 100000 in
set_option maxHeartbeats 4000000 in
theorem put_new (w : World) (t : Nat) (id_ : Int) (b : Bx) (nv fv : Value) (rt : Int) (som : Bool) (lf bx : Nat) (fat : Int) (m mb n nb : Nat) (f : Int → Option Nat) (D : Int → Option Bx) (hH : BH w t nv fv rt som lf bx fat m mb n nb f D) (hwr : wrongX b = false) (hbe : beyondX b = false) (hkey : keyOf Tryz.prog 3 (.int .i64 id_) = some (.int .i64 id_)) (hf : f id_ = none) (hn : n < 60) (hmb : mb < 900000) (R : World → Prop) (HN : ∀ w1 w2, Below w.heap.size w w1 → Mod (· = bx) w1 w2 → VI w2 bx (mb + 1) (if (D id_).isSome then nb else nb + 1) (fun y => (updD D id_ b y).map bxV) → Calls Tryz.prog 47 #[.pointer (some ⟨t, 0, none⟩), .agg #[.int .i64 (sub b.a1 fat), .int .i64 (sub b.a2 fat), .int .i64 (sub b.a3 fat), .int .i64 (add b.b1 fat), .int .i64 (add b.b2 fat), .int .i64 (add b.b3 fat), .int .i64 0, .int .i64 (-1), .int .i64 (-1), .int .i64 id_, .int .i64 0]] w2 fun e w3 => ∃ k : Nat, e = .returned (.int .i64 (k : Int)) ∧ Calls Tryz.prog 46 #[.pointer (some ⟨t, 0, none⟩), .int .i64 (k : Int)] w3 fun e w4 => e = .returned (.tuple #[]) ∧ R w4) :
    Calls Tryz.prog 23 #[.pointer (some ⟨t, 0, none⟩), .int .i64 id_, bxV b] w fun e w' => e = .returned .nilIface ∧ R w' := by
  have HH := Lib.hid hH
  have HKEY := Lib.hid hkey
  have HF := Lib.hid hf
  clear hH hkey hf
  have HMB := Lib.hid hmb
  have hnn : n < 60 := hn
  clear hmb
  unfold bxV
  go_enter Tryz.func23, Tryz.ntmps23
  go_upto_region 1 with fail
  refine wp_fresh ?_
  rintro w1 hb1
  have B1 : Blk w1 w.heap.size #[.int .i64 b.a1, .int .i64 b.a2, .int .i64 b.a3, .int .i64 b.b1, .int .i64 b.b2, .int .i64 b.b3] := Blk.below (by repeat (with_reducible (first | assumption | (apply Blk.at; simp; done) | apply Blk.alloc | apply Blk.drew | apply Blk.drewN | apply Blk.more | apply Blk.put | (apply Blk.far; focus (first | assumption | (apply Ne.symm; assumption) | (simp; done) | (simp <;> omega)))))) hb1
  have hv1 : Below w.heap.size w w1 := (by repeat (with_reducible (first | exact Below.refl _ _ | assumption | apply ext_drew | apply ext_drewN | apply ext_alloc | apply ext_more | (refine ext_setCell ?_ (by first | assumption | (simp <;> omega)) _) | (refine ext_below ?_ (by assumption)))))
  clear hb1
  obtain ⟨p, hp⟩ : ∃ p, p = w.heap.size := ⟨_, rfl⟩
  rw [← hp] at B1 ⊢
  have HP := Lib.hid hp
  have HB1 := Lib.hid B1
  have HV1 := Lib.hid hv1
  clear hp B1 hv1
  obtain ⟨zp, cp, fp⟩ := id HB1.out
  go_wp2_with fail
  refine (wrong_c b hwr _).mono ?_
  rintro e w2 ⟨rfl, hb2⟩
  have HB2 := Lib.hid (HB1.out.below hb2)
  have HV2 : Hid (Below w.heap.size w w2) := Lib.hid (HV1.out.trans (hb2.mono HV1.out.size))
  clear hb2 zp cp fp
  obtain ⟨zp, cp, fp⟩ := id HB2.out
  go_wp2_with fail
  refine (beyond_c b hbe _).mono ?_
  rintro e w3 ⟨rfl, hb3⟩
  have HB3 := Lib.hid (HB2.out.below hb3)
  have HV3 : Hid (Below w.heap.size w w3) := Lib.hid (HV2.out.trans (hb3.mono HV2.out.size))
  clear hb3 zp cp fp
  obtain ⟨zp, cp, fp⟩ := id HB3.out
  have HH3 := Lib.hid (HH.out.below HV3.out)
  obtain ⟨zt, ct, ft⟩ := id HH3.out.blk
  go_upto_region 6 with (at_lookup; refine at_lookT rfl _ _ rfl Tryz.underlying87 (zero_intT _) rfl HH3.out.lfm rfl HKEY.out ?_; rw [HF.out])
  try simp only [Option.map_none, Option.getD_none, Option.isSome_none]
  have hn' : (n : Int) < 60 := by omega
  have d60 : decide ((60 : Int) ≤ (n : Int)) = false := decide_eq_false (by omega)
  clear hn
  have HPX : Hid (¬ p = bx) := Lib.hid (by rw [HP.out]; have := HH.out.bxm.lt; omega)
  go_upto_region 8 with (at_len; refine at_lenG (by rfl) _ rfl Tryz.underlying87 rfl HH3.out.lfm ?_)
  have hmc := more_cell
  refine region_quiet_all (by kernel_rfl) (by kernel_rfl) ?_
  repeat (go_big_quiet_step (fail))
  refine wpQuiet_nil ?_
  rintro w4 hw4
  have hb4 := after_below hw4
  clear hw4 hmc zt ct ft zp cp fp
  have HH4 := Lib.hid (HH3.out.below hb4)
  have HB4 := Lib.hid (HB3.out.below hb4)
  have HV4 : Hid (Below w.heap.size w w4) := Lib.hid (HV3.out.trans (hb4.mono HV3.out.size))
  clear hb4
  obtain ⟨zp, cp, fp⟩ := id HB4.out
  obtain ⟨zt, ct, ft⟩ := id HH4.out.blk
  go_upto_region 13 with fail
  have hmc := more_cell
  refine region_quiet_but 6 (by kernel_rfl) (by kernel_rfl) ?_
  simp only [List.take_succ_cons, List.take_zero, List.drop_succ_cons, List.drop_zero]
  repeat (go_big_quiet_step (fail))
  refine wpQuiet_nil ?_
  rintro w5 hw5
  have hb5 := after_below hw5
  clear hw5 hmc zt ct ft zp cp fp
  have HH5 := Lib.hid (HH4.out.below hb5)
  have HB5 := Lib.hid (HB4.out.below hb5)
  have HV5 : Hid (Below w.heap.size w w5) := Lib.hid (HV4.out.trans (hb5.mono HV4.out.size))
  clear hb5
  refine at_putT (val := bxV b) rfl (.tmp 61) (.tmp 62) (.tmp 63) rfl Tryz.underlying88 rfl HH5.out.bxm (by have := HMB.out; unfold maxLen; omega) rfl rfl HKEY.out ?_
  intro w6 h6 k6
  rw [bx_more] at h6
  simp only [Option.isSome_map] at h6
  have HBX := Lib.hid h6
  have HK6 := Lib.hid k6
  have HB6 : Hid (Blk w6 p _) := Lib.hid (HB5.out.mod k6 HPX.out)
  have HT6 : Hid (Blk w6 t #[nv, fv, .int .i64 rt, .bool som, .map (some lf), .map (some bx), .int .i64 fat]) := Lib.hid (HH5.out.blk.mod k6 (fun e => HH5.out.bt e.symm))
  clear h6 k6
  obtain ⟨zp, cp, fp⟩ := id HB6.out
  obtain ⟨zt, ct, ft⟩ := id HT6.out
  try simp only [Act.put]
  go_upto_region 14 with fail
  refine region_late [0] 10 ?l1 ?hl1 (by kernel_rfl) (by kernel_rfl) ?_
  case hl1 => simp [lateE]; rfl
  have hmc := more_cell
  refine any_quiet_butI 10 (by kernel_rfl) ?_
  simp only [List.take_succ_cons, List.take_zero, List.drop_succ_cons, List.drop_zero]
  repeat (go_big_quiet_step (first | (go_at_call 48; exact calls_after (fat_c _ _ _ _ _ _ _ _))))
  refine wpQuiet_nil ?_
  rintro w7 hw7
  have hb7 := after_below hw7
  clear hw7 hmc zt ct ft zp cp fp
  go_wp2_with fail
  refine (HN w5 w7 HV5.out (HK6.out.below hb7) (HBX.out.below hb7)).mono ?_
  rintro e v1 ⟨k, rfl, hin⟩
  have HIN := Lib.hid hin
  clear hin
  go_wp2_with fail
  refine HIN.out.mono ?_
  rintro e v2 ⟨rfl, hR⟩
  have HR := Lib.hid hR
  clear hR
  go_wp2_with fail
  refine ⟨rfl, ?_⟩
  try skip
  go_wp2
  go_ret
  exact ⟨rfl, HR.out⟩
set_option maxRecDepth 100000 in
set_option maxHeartbeats 4000000 in
theorem put_within (w : World) (t : Nat) (id_ : Int) (b : Bx) (nv fv : Value) (rt : Int) (som : Bool) (lf bx : Nat) (fat : Int) (m mb n nb : Nat) (f : Int → Option Nat) (D : Int → Option Bx) (hH : BH w t nv fv rt som lf bx fat m mb n nb f D) (hwr : wrongX b = false) (hbe : beyondX b = false) (hkey : keyOf Tryz.prog 3 (.int .i64 id_) = some (.int .i64 id_)) (nbk cap nn k : Nat) (M : Nat → Nat → Int) (hnv : nv = .slice (some ⟨nbk, 0, none⟩) nn cap) (hN : NT w nbk cap nn M) (hk : k < nn) (hf : f id_ = some k) (hwi : withinB b.a1 b.a2 b.a3 b.b1 b.b2 b.b3 (M k 0) (M k 1) (M k 2) (M k 3) (M k 4) (M k 5) = true) (hmb : mb < 900000) (R : World → Prop) (HR : ∀ w1 w2, Below w.heap.size w w1 → Mod (· = bx) w1 w2 → VI w2 bx (mb + 1) (if (D id_).isSome then nb else nb + 1) (fun y => (updD D id_ b y).map bxV) → R w2) :
    Calls Tryz.prog 23 #[.pointer (some ⟨t, 0, none⟩), .int .i64 id_, bxV b] w fun e w' => e = .returned .nilIface ∧ R w' := by
  subst hnv
  have HMB := Lib.hid hmb
  have HN := Lib.hid hN
  have HKK := Lib.hid hk
  have HWI := Lib.hid hwi
  clear hmb hN hwi hk
  have HH := Lib.hid hH
  have HKEY := Lib.hid hkey
  have HF := Lib.hid hf
  clear hH hkey hf
  unfold bxV
  go_enter Tryz.func23, Tryz.ntmps23
  go_upto_region 1 with fail
  refine wp_fresh ?_
  rintro w1 hb1
  have B1 : Blk w1 w.heap.size #[.int .i64 b.a1, .int .i64 b.a2, .int .i64 b.a3, .int .i64 b.b1, .int .i64 b.b2, .int .i64 b.b3] := Blk.below (by repeat (with_reducible (first | assumption | (apply Blk.at; simp; done) | apply Blk.alloc | apply Blk.drew | apply Blk.drewN | apply Blk.more | apply Blk.put | (apply Blk.far; focus (first | assumption | (apply Ne.symm; assumption) | (simp; done) | (simp <;> omega)))))) hb1
  have hv1 : Below w.heap.size w w1 := (by repeat (with_reducible (first | exact Below.refl _ _ | assumption | apply ext_drew | apply ext_drewN | apply ext_alloc | apply ext_more | (refine ext_setCell ?_ (by first | assumption | (simp <;> omega)) _) | (refine ext_below ?_ (by assumption)))))
  clear hb1
  obtain ⟨p, hp⟩ : ∃ p, p = w.heap.size := ⟨_, rfl⟩
  rw [← hp] at B1 ⊢
  have HP := Lib.hid hp
  have HB1 := Lib.hid B1
  have HV1 := Lib.hid hv1
  clear hp B1 hv1
  obtain ⟨zp, cp, fp⟩ := id HB1.out
  go_wp2_with fail
  refine (wrong_c b hwr _).mono ?_
  rintro e w2 ⟨rfl, hb2⟩
  have HB2 := Lib.hid (HB1.out.below hb2)
  have HV2 : Hid (Below w.heap.size w w2) := Lib.hid (HV1.out.trans (hb2.mono HV1.out.size))
  clear hb2 zp cp fp
  obtain ⟨zp, cp, fp⟩ := id HB2.out
  go_wp2_with fail
  refine (beyond_c b hbe _).mono ?_
  rintro e w3 ⟨rfl, hb3⟩
  have HB3 := Lib.hid (HB2.out.below hb3)
  have HV3 : Hid (Below w.heap.size w w3) := Lib.hid (HV2.out.trans (hb3.mono HV2.out.size))
  clear hb3 zp cp fp
  obtain ⟨zp, cp, fp⟩ := id HB3.out
  have HH3 := Lib.hid (HH.out.below HV3.out)
  obtain ⟨zt, ct, ft⟩ := id HH3.out.blk
  go_upto_region 6 with (at_lookup; refine at_lookT rfl _ _ rfl Tryz.underlying87 (zero_intT _) rfl HH3.out.lfm rfl HKEY.out ?_; rw [HF.out])
  try simp only [Option.map_some, Option.getD_some, Option.isSome_some]
  have HPX : Hid (¬ p = bx) := Lib.hid (by rw [HP.out]; have := HH.out.bxm.lt; omega)
  go_upto_region 8 with fail
  have HN3 := Lib.hid (HN.out.below HV3.out)
  have hk := HKK.out
  have hbl := HN3.out.lt
  have q0 := HN3.out.cell hk (j := 0) (by decide)
  have q1 := HN3.out.cell hk (j := 1) (by decide)
  have q2 := HN3.out.cell hk (j := 2) (by decide)
  have q3 := HN3.out.cell hk (j := 3) (by decide)
  have q4 := HN3.out.cell hk (j := 4) (by decide)
  have q5 := HN3.out.cell hk (j := 5) (by decide)
  simp only [Nat.add_zero] at q0
  have hmc := more_cell
  refine region_quiet_all (by kernel_rfl) (by kernel_rfl) ?_
  repeat (go_big_quiet_step (first | (go_at_call 44; exact calls_after (within_c _ _ _ _ _ _ _ _ _ _ _ _ _))))
  refine wpQuiet_nil ?_
  rw [HWI.out]
  rintro w4 hw4
  have hb4 := after_below hw4
  clear hw4 hmc zt ct ft zp cp fp q0 q1 q2 q3 q4 q5 hk hbl
  have HH4 := Lib.hid (HH3.out.below hb4)
  have HB4 := Lib.hid (HB3.out.below hb4)
  have HV4 : Hid (Below w.heap.size w w4) := Lib.hid (HV3.out.trans (hb4.mono HV3.out.size))
  clear hb4
  obtain ⟨zp, cp, fp⟩ := id HB4.out
  obtain ⟨zt, ct, ft⟩ := id HH4.out.blk
  go_upto_region 9 with fail
  have hmc := more_cell
  refine region_quiet_but 6 (by kernel_rfl) (by kernel_rfl) ?_
  simp only [List.take_succ_cons, List.take_zero, List.drop_succ_cons, List.drop_zero]
  repeat (go_big_quiet_step (fail))
  refine wpQuiet_nil ?_
  rintro w5 hw5
  have hb5 := after_below hw5
  clear hw5 hmc zt ct ft zp cp fp
  have HH5 := Lib.hid (HH4.out.below hb5)
  have HV5 : Hid (Below w.heap.size w w5) := Lib.hid (HV4.out.trans (hb5.mono HV4.out.size))
  clear hb5
  refine at_putT (val := bxV b) rfl (.tmp 51) (.tmp 52) (.tmp 53) rfl Tryz.underlying88 rfl HH5.out.bxm (by have := HMB.out; unfold maxLen; omega) rfl rfl HKEY.out ?_
  intro w6 h6 k6
  rw [bx_more] at h6
  simp only [Option.isSome_map] at h6
  have HBX := Lib.hid h6
  have HK6 := Lib.hid k6
  clear h6 k6
  go_wp2
  go_ret
  exact ⟨rfl, HR w5 w6 HV5.out HK6.out HBX.out⟩
set_option maxRecDepth 100000 in
set_option maxHeartbeats 4000000 in
theorem put_move (w : World) (t : Nat) (id_ : Int) (b : Bx) (nv fv : Value) (rt : Int) (som : Bool) (lf bx : Nat) (fat : Int) (m mb n nb : Nat) (f : Int → Option Nat) (D : Int → Option Bx) (hH : BH w t nv fv rt som lf bx fat m mb n nb f D) (hwr : wrongX b = false) (hbe : beyondX b = false) (hkey : keyOf Tryz.prog 3 (.int .i64 id_) = some (.int .i64 id_)) (nbk cap nn k : Nat) (M : Nat → Nat → Int) (hnv : nv = .slice (some ⟨nbk, 0, none⟩) nn cap) (hN : NT w nbk cap nn M) (hk : k < nn) (hf : f id_ = some k) (hwi : withinB b.a1 b.a2 b.a3 b.b1 b.b2 b.b3 (M k 0) (M k 1) (M k 2) (M k 3) (M k 4) (M k 5) = false) (hmb : mb < 900000) (R : World → Prop) (HO : ∀ w1, Below w.heap.size w w1 → Calls Tryz.prog 45 #[.pointer (some ⟨t, 0, none⟩), .int .i64 (k : Int)] w1 fun e w2 => e = .returned (.tuple #[]) ∧ Mod (fun x => x < w.heap.size ∧ x ≠ bx) w1 w2 ∧ (∃ nv2 fv2 rt2 som2, Blk w2 t #[nv2, fv2, .int .i64 rt2, .bool som2, .map (some lf), .map (some bx), .int .i64 fat]) ∧ ∀ w3 w4, Below w2.heap.size w2 w3 → Mod (· = bx) w3 w4 → VI w4 bx (mb + 1) (if (D id_).isSome then nb else nb + 1) (fun y => (updD D id_ b y).map bxV) → Calls Tryz.prog 47 #[.pointer (some ⟨t, 0, none⟩), .agg #[.int .i64 (sub b.a1 fat), .int .i64 (sub b.a2 fat), .int .i64 (sub b.a3 fat), .int .i64 (add b.b1 fat), .int .i64 (add b.b2 fat), .int .i64 (add b.b3 fat), .int .i64 0, .int .i64 (-1), .int .i64 (-1), .int .i64 id_, .int .i64 0]] w4 fun e w5 => ∃ i : Nat, e = .returned (.int .i64 (i : Int)) ∧ Calls Tryz.prog 46 #[.pointer (some ⟨t, 0, none⟩), .int .i64 (i : Int)] w5 fun e w6 => e = .returned (.tuple #[]) ∧ R w6) :
    Calls Tryz.prog 23 #[.pointer (some ⟨t, 0, none⟩), .int .i64 id_, bxV b] w fun e w' => e = .returned .nilIface ∧ R w' := by
  subst hnv
  have HMB := Lib.hid hmb
  have HN := Lib.hid hN
  have HKK := Lib.hid hk
  have HWI := Lib.hid hwi
  clear hmb hN hwi hk
  have HH := Lib.hid hH
  have HKEY := Lib.hid hkey
  have HF := Lib.hid hf
  clear hH hkey hf
  unfold bxV
  go_enter Tryz.func23, Tryz.ntmps23
  go_upto_region 1 with fail
  refine wp_fresh ?_
  rintro w1 hb1
  have B1 : Blk w1 w.heap.size #[.int .i64 b.a1, .int .i64 b.a2, .int .i64 b.a3, .int .i64 b.b1, .int .i64 b.b2, .int .i64 b.b3] := Blk.below (by repeat (with_reducible (first | assumption | (apply Blk.at; simp; done) | apply Blk.alloc | apply Blk.drew | apply Blk.drewN | apply Blk.more | apply Blk.put | (apply Blk.far; focus (first | assumption | (apply Ne.symm; assumption) | (simp; done) | (simp <;> omega)))))) hb1
  have hv1 : Below w.heap.size w w1 := (by repeat (with_reducible (first | exact Below.refl _ _ | assumption | apply ext_drew | apply ext_drewN | apply ext_alloc | apply ext_more | (refine ext_setCell ?_ (by first | assumption | (simp <;> omega)) _) | (refine ext_below ?_ (by assumption)))))
  clear hb1
  obtain ⟨p, hp⟩ : ∃ p, p = w.heap.size := ⟨_, rfl⟩
  rw [← hp] at B1 ⊢
  have HP := Lib.hid hp
  have HB1 := Lib.hid B1
  have HV1 := Lib.hid hv1
  clear hp B1 hv1
  obtain ⟨zp, cp, fp⟩ := id HB1.out
  go_wp2_with fail
  refine (wrong_c b hwr _).mono ?_
  rintro e w2 ⟨rfl, hb2⟩
  have HB2 := Lib.hid (HB1.out.below hb2)
  have HV2 : Hid (Below w.heap.size w w2) := Lib.hid (HV1.out.trans (hb2.mono HV1.out.size))
  clear hb2 zp cp fp
  obtain ⟨zp, cp, fp⟩ := id HB2.out
  go_wp2_with fail
  refine (beyond_c b hbe _).mono ?_
  rintro e w3 ⟨rfl, hb3⟩
  have HB3 := Lib.hid (HB2.out.below hb3)
  have HV3 : Hid (Below w.heap.size w w3) := Lib.hid (HV2.out.trans (hb3.mono HV2.out.size))
  clear hb3 zp cp fp
  obtain ⟨zp, cp, fp⟩ := id HB3.out
  have HH3 := Lib.hid (HH.out.below HV3.out)
  obtain ⟨zt, ct, ft⟩ := id HH3.out.blk
  go_upto_region 6 with (at_lookup; refine at_lookT rfl _ _ rfl Tryz.underlying87 (zero_intT _) rfl HH3.out.lfm rfl HKEY.out ?_; rw [HF.out])
  try simp only [Option.map_some, Option.getD_some, Option.isSome_some]
  have HPX : Hid (¬ p = bx) := Lib.hid (by rw [HP.out]; have := HH.out.bxm.lt; omega)
  go_upto_region 8 with fail
  have HN3 := Lib.hid (HN.out.below HV3.out)
  have hk := HKK.out
  have hbl := HN3.out.lt
  have q0 := HN3.out.cell hk (j := 0) (by decide)
  have q1 := HN3.out.cell hk (j := 1) (by decide)
  have q2 := HN3.out.cell hk (j := 2) (by decide)
  have q3 := HN3.out.cell hk (j := 3) (by decide)
  have q4 := HN3.out.cell hk (j := 4) (by decide)
  have q5 := HN3.out.cell hk (j := 5) (by decide)
  simp only [Nat.add_zero] at q0
  have hmc := more_cell
  refine region_quiet_all (by kernel_rfl) (by kernel_rfl) ?_
  repeat (go_big_quiet_step (first | (go_at_call 44; exact calls_after (within_c _ _ _ _ _ _ _ _ _ _ _ _ _))))
  refine wpQuiet_nil ?_
  rw [HWI.out]
  rintro w4 hw4
  have hb4 := after_below hw4
  clear hw4 hmc zt ct ft zp cp fp q0 q1 q2 q3 q4 q5 hk hbl
  have HH4 := Lib.hid (HH3.out.below hb4)
  have HB4 := Lib.hid (HB3.out.below hb4)
  have HV4 : Hid (Below w.heap.size w w4) := Lib.hid (HV3.out.trans (hb4.mono HV3.out.size))
  clear hb4
  obtain ⟨zp, cp, fp⟩ := id HB4.out
  obtain ⟨zt, ct, ft⟩ := id HH4.out.blk
  go_wp2_with fail
  refine (HO w4 HV4.out).mono ?_
  rintro e w5 ⟨rfl, hm5, ⟨nv2, fv2, rt2, som2, hb5⟩, hnn⟩
  have HNN := Lib.hid hnn
  have HT5 := Lib.hid hb5
  have HX5 := Lib.hid (HH4.out.bxm.mod hm5 (fun h => h.2 rfl))
  have HB5 := Lib.hid (HB4.out.mod hm5 (fun h => by have := HP.out; have := h.1; omega))
  clear hm5 hb5 hnn zt ct ft zp cp fp
  obtain ⟨zp, cp, fp⟩ := id HB5.out
  obtain ⟨zt, ct, ft⟩ := id HT5.out
  go_upto_region 13 with fail
  have hmc := more_cell
  refine region_quiet_but 6 (by kernel_rfl) (by kernel_rfl) ?_
  simp only [List.take_succ_cons, List.take_zero, List.drop_succ_cons, List.drop_zero]
  repeat (go_big_quiet_step (fail))
  refine wpQuiet_nil ?_
  rintro w6 hw6
  have hb6 := after_below hw6
  clear hw6 hmc zt ct ft zp cp fp
  have HH6 := Lib.hid (And.intro (HT5.out.below hb6) (HX5.out.below hb6))
  have HB6 := Lib.hid (HB5.out.below hb6)
  have HV6 : Hid (Below w5.heap.size w5 w6) := Lib.hid hb6
  clear hb6
  refine at_putT (val := bxV b) rfl (.tmp 61) (.tmp 62) (.tmp 63) rfl Tryz.underlying88 rfl HH6.out.2 (by have := HMB.out; unfold maxLen; omega) rfl rfl HKEY.out ?_
  intro w7 h7 k7
  rw [bx_more] at h7
  simp only [Option.isSome_map] at h7
  have HBX := Lib.hid h7
  have HK7 := Lib.hid k7
  have HB7 : Hid (Blk w7 p _) := Lib.hid (HB6.out.mod k7 HPX.out)
  have HT7 : Hid (Blk w7 t #[nv2, fv2, .int .i64 rt2, .bool som2, .map (some lf), .map (some bx), .int .i64 fat]) := Lib.hid (HH6.out.1.mod k7 (fun e => HH.out.bt e.symm))
  clear h7 k7
  obtain ⟨zp, cp, fp⟩ := id HB7.out
  obtain ⟨zt, ct, ft⟩ := id HT7.out
  try simp only [Act.put]
  go_upto_region 14 with fail
  refine region_late [0] 10 ?l1 ?hl1 (by kernel_rfl) (by kernel_rfl) ?_
  case hl1 => simp [lateE]; rfl
  have hmc := more_cell
  refine any_quiet_butI 10 (by kernel_rfl) ?_
  simp only [List.take_succ_cons, List.take_zero, List.drop_succ_cons, List.drop_zero]
  repeat (go_big_quiet_step (first | (go_at_call 48; exact calls_after (fat_c _ _ _ _ _ _ _ _))))
  refine wpQuiet_nil ?_
  rintro w8 hw8
  have hb8 := after_below hw8
  clear hw8 hmc zt ct ft zp cp fp
  go_wp2_with fail
  refine (HNN.out w6 w8 HV6.out (HK7.out.below hb8) (HBX.out.below hb8)).mono ?_
  rintro e v1 ⟨i, rfl, hin⟩
  have HIN := Lib.hid hin
  clear hin
  go_wp2_with fail
  refine HIN.out.mono ?_
  rintro e v2 ⟨rfl, hR⟩
  have HR := Lib.hid hR
  clear hR
  go_wp2_with fail
  refine ⟨rfl, ?_⟩
  try skip
  go_wp2
  go_ret
  exact ⟨rfl, HR.out⟩
end Go.Proofs.YtniahipadfgkbaaGreat
namespace Go.Proofs.YtniahipadfgkbaaGreat
open Go Go.Maps Go.RowKit Go.BigFrame Go.ChangeShapes Go.WideShapes
/-- a new leaf's row -/
def leafX (b : Bx) (fat id : Int) : Nat → Int := fun j => match j with
  | 0 => sub b.a1 fat
  | 1 => sub b.a2 fat
  | 2 => sub b.a3 fat
  | 3 => add b.b1 fat
  | 4 => add b.b2 fat
  | 5 => add b.b3 fat
  | 6 => 0
  | 7 => -1
  | 8 => -1
  | 9 => id
  | _ => 0
theorem fat_in {b : Bx} {fat : Int} (hf : 0 ≤ fat) (hb : beyondX b = false) : inX b ⟨sub b.a1 fat, sub b.a2 fat, sub b.a3 fat, add b.b1 fat, add b.b2 fat, add b.b3 fat⟩ := by
  unfold beyondX at hb
  simp only [Bool.or_eq_false_iff, decide_eq_false_iff_not] at hb
  have h1 : ∀ a, -70368744177664 ≤ a → sub a fat ≤ a := fun a h => by unfold sub cut; omega
  have h2 : ∀ a, a ≤ 70368744177664 → a ≤ add a fat := fun a h => by unfold add cut; omega
  exact ⟨h1 _ (by omega), h1 _ (by omega), h1 _ (by omega), h2 _ (by omega), h2 _ (by omega), h2 _ (by omega)⟩
theorem Tre.mem {som : Bool} {root : Int} {nn : Nat} {M : Nat → Nat → Int} {F : List Nat} {n : Nat} {f : Int → Option Nat} {o : Option Tr} (h : Tre som root nn M F n f o) {id : Int} {y : Nat} (hy : f id = some y) : y ∈ oall o := by
  cases o with
  | none => have := (h.none_ rfl).2.1 id; rw [hy] at this; cases this
  | some T => exact T.lvs_sub y (((h.some_ T rfl).2.2.2.2.1 id y).1 hy).1
theorem NodeWay.fresh {F F' : List Nat} {nn nn' i : Nat} (h : NodeWay F nn i F' nn') {A : List Nat} (hn : (A ++ F).Nodup) (hl : ∀ x ∈ A ++ F, x < nn) : i ∉ A := by
  obtain ⟨y1, _⟩ := h.facts hn hl
  have : (A ++ i :: F').Perm ((i :: A) ++ F') := List.perm_middle
  exact fun hm => (List.nodup_cons.1 (this.nodup_iff.1 y1)).1 (List.mem_append_left _ hm)
/-- in: the whole tree behind it -/
theorem in_fin (w : World) (t : Nat) (s : BT) (M0 : Nat → Nat → Int) (F0 F : List Nat) (m mb n nn0 : Nat) (f : Int → Option Nat) (k : Nat) (id_ : Int) (b : Bx) (o : Option Tr) (D : Int → Option Bx) (hW : TW w t s (setRow M0 k (leafX b s.fat id_)) F m n f) (hT : Tre s.som s.root nn0 M0 F0 n f o) (hway : NodeWay F0 nn0 k F s.nn)
    (hs : ∀ y, y ≠ id_ → (f y).isSome = (D y).isSome) (hi : ∀ y k b', y ≠ id_ → f y = some k → D y = some b' → inX b' (nodeBx M0 k)) (hf : f id_ = none) (hkey : keyOf Tryz.prog 3 (.int .i64 id_) = some (.int .i64 id_)) (hm : m < 400000) (hnn : nn0 < 800000)
    (hbx : VI w s.bx mb (n + 1) (fun y => (updD D id_ b y).map bxV)) (hbt : ∀ x, TB t s x → x ≠ s.bx) (hfat : 0 ≤ s.fat) (hbe : beyondX b = false) :
    Calls Tryz.prog 46 #[.pointer (some ⟨t, 0, none⟩), .int .i64 (k : Int)] w fun e w' => e = .returned (.tuple #[]) ∧ ∃ (s' : BT) (M' : Nat → Nat → Int) (F' : List Nat) (f' : Int → Option Nat) (o' : Option Tr), BWx w' t s' M' F' (m + 1) mb (n + 1) f' o' (updD D id_ b) ∧ s'.nn ≤ nn0 + 2 ∧ Chg w w' t s s' := by
  refine (in_c w t s M0 F0 F m n nn0 f k id_ (leafX b s.fat id_) o hW hT hway rfl rfl rfl hf hkey (by omega) hnn).mono ?_
  rintro e w' ⟨rfl, s', M', F', o', hP⟩
  refine ⟨rfl, s', M', F', (fun y => if y = id_ then some k else f y), o', ?_, hP.nn, hP.chg⟩
  have hbl := hbx.lt
  have own : ∀ x, TB t s' x → s'.bx ≠ x := fun x hx e => by
    rw [hP.chg.bx] at e
    rcases hP.chg.own x hx with h | h
    · exact hbt x h e.symm
    · omega
  refine ⟨hP.tw, hP.tre, ?_, ⟨fun y => ?_, fun y q b' h1 h2 => ?_⟩, own _ (.inl rfl), own _ (.inr (.inl rfl)), own _ (.inr (.inr (.inr rfl))), fun e => own _ (.inr (.inr (.inl e))) rfl⟩
  · rw [hP.chg.bx]
    exact hbx.mod hP.chg.mod (fun h => hbt _ h rfl)
  · unfold updD
    by_cases e : y = id_
    · simp [e]
    · simp only [e, if_false]
      exact hs y e
  · unfold updD at h2
    by_cases e : y = id_
    · simp only [e, if_true] at h1 h2
      have e2 : k = q := Option.some.inj h1
      have e3 : b = b' := Option.some.inj h2
      subst e2 e3
      have hr := hP.row id_ k (by simp)
      have e4 : nodeBx M' k = ⟨sub b.a1 s.fat, sub b.a2 s.fat, sub b.a3 s.fat, add b.b1 s.fat, add b.b2 s.fat, add b.b3 s.fat⟩ := by
        unfold nodeBx
        rw [hr 0 (by omega), hr 1 (by omega), hr 2 (by omega), hr 3 (by omega), hr 4 (by omega), hr 5 (by omega)]
        simp [setRow, leafX]
      rw [e4]
      exact fat_in hfat hbe
    · simp only [e, if_false] at h1 h2
      have hr := hP.row y q (by simp only [e, if_false]; exact h1)
      have hqk : q ≠ k := fun e2 => hway.fresh hT.nd hT.lt (e2 ▸ hT.mem h1)
      have e4 : nodeBx M' q = nodeBx M0 q := by
        unfold nodeBx
        rw [hr 0 (by omega), hr 1 (by omega), hr 2 (by omega), hr 3 (by omega), hr 4 (by omega), hr 5 (by omega)]
        simp [setRow, hqk]
      rw [e4]
      exact hi y q b' e h1 h2
/-- node, in: the whole tree behind them -/
theorem put_fin (w : World) (t : Nat) (s : BT) (M : Nat → Nat → Int) (F : List Nat) (m mb n : Nat) (f : Int → Option Nat) (id_ : Int) (b : Bx) (o : Option Tr) (D : Int → Option Bx) (hW : TW w t s M F m n f) (hT : Tre s.som s.root s.nn M F n f o)
    (hs : ∀ y, y ≠ id_ → (f y).isSome = (D y).isSome) (hi : ∀ y k b', y ≠ id_ → f y = some k → D y = some b' → inX b' (nodeBx M k)) (hf : f id_ = none) (hkey : keyOf Tryz.prog 3 (.int .i64 id_) = some (.int .i64 id_)) (hm : m < 400000) (hnn : s.nn < 800000)
    (hbx : VI w s.bx mb (n + 1) (fun y => (updD D id_ b y).map bxV)) (hbt : ∀ x, TB t s x → x ≠ s.bx) (hfat : 0 ≤ s.fat) (hbe : beyondX b = false) :
    Calls Tryz.prog 47 #[.pointer (some ⟨t, 0, none⟩), .agg #[.int .i64 (sub b.a1 s.fat), .int .i64 (sub b.a2 s.fat), .int .i64 (sub b.a3 s.fat), .int .i64 (add b.b1 s.fat), .int .i64 (add b.b2 s.fat), .int .i64 (add b.b3 s.fat), .int .i64 0, .int .i64 (-1), .int .i64 (-1), .int .i64 id_, .int .i64 0]] w fun e w3 => ∃ k : Nat, e = .returned (.int .i64 (k : Int)) ∧
    Calls Tryz.prog 46 #[.pointer (some ⟨t, 0, none⟩), .int .i64 (k : Int)] w3 fun e w' => e = .returned (.tuple #[]) ∧ ∃ (s' : BT) (M' : Nat → Nat → Int) (F' : List Nat) (f' : Int → Option Nat) (o' : Option Tr), BWx w' t s' M' F' (m + 1) mb (n + 1) f' o' (updD D id_ b) ∧ s'.nn ≤ s.nn + 2 ∧ Chg w w' t s s' := by
  refine Calls.mono (node_c w t s M F m n f (leafX b s.fat id_) hW (fun y hy => hT.lt y (List.mem_append_right _ hy)) (by omega)) ?_
  rintro e w3 ⟨i, nb', cap', nn', fv', F', rfl, hP⟩
  refine ⟨i, rfl, ?_⟩
  have hch : Chg w w3 t s { s with nb := nb', cap := cap', nn := nn', fv := fv' } := ⟨rfl, rfl, rfl, hP.mod, fun x hx => fv_own (cap := cap') (nn := nn') (rt := s.root) (sm := s.som) hP.fv hP.nb x hx⟩
  have hbl := hbx.lt
  refine (in_fin w3 t { s with nb := nb', cap := cap', nn := nn', fv := fv' } M F F' m mb n s.nn f i id_ b o D hP.tw hT hP.way hs hi hf hkey hm hnn (hbx.mod hP.mod (fun h => hbt _ h rfl)) (fun x hx e => ?_) hfat hbe).mono ?_
  · rcases hch.own x hx with h | h
    · exact hbt x h e
    · have e' : x = s.bx := e
      omega
  · rintro e w4 ⟨rfl, s', M', F2, f', o', h1, h2, h3⟩
    exact ⟨rfl, s', M', F2, f', o', h1, h2, hch.trans h3⟩
/-- what Put answers -/
def putE (D : Int → Option Bx) (n : Nat) (id : Int) (b : Bx) : Int := if wrongX b then 1 else if beyondX b then 2 else if (D id).isNone ∧ 60 ≤ n then 4 else 0
def putD (D : Int → Option Bx) (n : Nat) (id : Int) (b : Bx) : Int → Option Bx := if putE D n id b = 0 then updD D id b else D
def putN (D : Int → Option Bx) (n : Nat) (id : Int) (b : Bx) : Nat := if putE D n id b = 0 then (if (D id).isSome then n else n + 1) else n
def PutPost (w : World) (t : Nat) (fat : Int) (p : Nat) (D : Int → Option Bx) (n : Nat) (S : Nat → Prop) (id : Int) (b : Bx) (w' : World) : Prop :=
  Mod S w w' ∧ ∃ S', BW w' t fat (p + 1) (putD D n id b) (putN D n id b) S' ∧ ∀ x, S' x → S x ∨ w.heap.size ≤ x
theorem put_still {w w' : World} {t p n : Nat} {fat : Int} {D : Int → Option Bx} {S : Nat → Prop} {id : Int} {b : Bx} (h : BW w t fat p D n S) (hb : Below w.heap.size w w') (he : putE D n id b ≠ 0) : PutPost w t fat p D n S id b w' :=
  ⟨Mod.of_below hb, S, by rw [show putD D n id b = D from if_neg he, show putN D n id b = n from if_neg he]; exact (h.below hb).le (by omega), fun x hx => .inl hx⟩
theorem BWx.head {w : World} {t : Nat} {s : BT} {M : Nat → Nat → Int} {F : List Nat} {m mb n : Nat} {f : Int → Option Nat} {o : Option Tr} {D : Int → Option Bx} (h : BWx w t s M F m mb n f o D) : BH w t (.slice (some ⟨s.nb, 0, none⟩) s.nn s.cap) s.fv s.root s.som s.lf s.bx s.fat m mb n n f D :=
  ⟨h.tw.blk, h.tw.lfm, h.bxm, h.bt⟩
theorem BWx.bxne {w : World} {t : Nat} {s : BT} {M : Nat → Nat → Int} {F : List Nat} {m mb n : Nat} {f : Int → Option Nat} {o : Option Tr} {D : Int → Option Bx} (h : BWx w t s M F m mb n f o D) : ∀ x, TB t s x → x ≠ s.bx := by
  rintro x (e | e | e | e) e2
  · exact h.bt (e2 ▸ e)
  · exact h.bn (e2 ▸ e)
  · exact h.bf (e2 ▸ e)
  · exact h.bl (e2 ▸ e)
theorem put_c (w : World) (t : Nat) (id_ : Int) (b : Bx) (fat : Int) (p : Nat) (D : Int → Option Bx) (n : Nat) (S : Nat → Prop) (hB : BW w t fat p D n S) (hfat : 0 ≤ fat) (hp : p < 300000) (hkey : keyOf Tryz.prog 3 (.int .i64 id_) = some (.int .i64 id_)) :
    Calls Tryz.prog 23 #[.pointer (some ⟨t, 0, none⟩), .int .i64 id_, bxV b] w fun e w' => e = .returned (errV (putE D n id_ b)) ∧ PutPost w t fat p D n S id_ b w' := by
  cases hwr : wrongX b with
  | true =>
    have he : putE D n id_ b = 1 := by simp [putE, hwr]
    refine (put_wrong w t id_ b hwr).mono ?_
    rintro e w' ⟨rfl, hb⟩
    exact ⟨by rw [he], put_still hB hb (by rw [he]; decide)⟩
  | false =>
  cases hbe : beyondX b with
  | true =>
    have he : putE D n id_ b = 2 := by simp [putE, hwr, hbe]
    refine (put_beyond w t id_ b hwr hbe).mono ?_
    rintro e w' ⟨rfl, hb⟩
    exact ⟨by rw [he], put_still hB hb (by rw [he]; decide)⟩
  | false =>
  obtain ⟨hB', hL⟩ := id hB
  rcases hB' with ⟨lf, bx, hF, hD, hn, hS⟩ | ⟨s, M, F, m, mb, f, o, hX, h1, h2, h3, h4, h5, h6⟩
  · subst hD hn
    have he : putE (fun _ => none) 0 id_ b = 0 := by simp [putE, hwr, hbe]
    have hpd : putD (fun _ => none) 0 id_ b = updD (fun _ => none) id_ b := if_pos he
    have hpn : putN (fun _ => none) 0 id_ b = 1 := by unfold putN; rw [if_pos he]; rfl
    have hcall := put_new w t id_ b (.slice none 0 0) (.slice none 0 0) 0 false lf bx fat 0 0 0 0 (fun _ => none) (fun _ => none) ⟨hF.blk, hF.lfm, hF.bxm, hF.bt⟩ hwr hbe hkey rfl (by omega) (by omega) (fun w' => PutPost w t fat p (fun _ => none) 0 S id_ b w') (fun w1 w2 hb1 hm2 hv2 => by
      have hF1 := hF.below hb1
      have hF2t : Blk w2 t #[.slice none 0 0, .slice none 0 0, .int .i64 0, .bool false, .map (some lf), .map (some bx), .int .i64 fat] := hF1.blk.mod hm2 (fun e => hF.bt e.symm)
      have hF2l := hF1.lfm.mod hm2 (fun e => hF.bl e.symm)
      have hnil : w2.ownsRow 0 93 11 (.slice none 0 0) 0 (rowsL (fun _ _ => 0) 11 0) := ⟨by simp [rowsL], .inl ⟨rfl, by simp⟩⟩
      refine Calls.mono (node_app w2 t (.slice none 0 0) none 0 0 0 false (some lf) (some bx) fat (fun _ _ => 0) (leafX b fat id_) hF2t hnil (fun e => by cases e) (by omega)) ?_
      rintro e w3 ⟨rfl, nb, cap, hB3, hN3, hnb, hM3⟩
      refine ⟨0, rfl, ?_⟩
      have hnb' : w2.heap.size ≤ nb := hnb.elim (fun e => by cases e) id
      have hM3' : Mod (fun y => y = t) w2 w3 := hM3.mono fun x _ e => e.elim id (fun e => by cases e)
      have ht2 := hF2t.lt
      have hl2 := hF2l.lt
      have hb2 := hv2.lt
      obtain ⟨s3, hs3⟩ : ∃ s3 : BT, s3 = ⟨nb, cap, 1, .slice none 0 0, 0, false, lf, bx, fat⟩ := ⟨_, rfl⟩
      have hW3 : TW w3 t s3 (setRow (fun _ _ => 0) 0 (leafX b s3.fat id_)) [] 0 0 (fun _ => none) := by
        subst hs3
        exact ⟨hB3, hN3, ⟨by simp [ints], .inl ⟨rfl, by simp⟩⟩, hF2l.mod hM3' hF.lt, (by show t ≠ nb; omega), fun e => (by cases e), fun e => (by cases e), hF.lt, (by show lf ≠ nb; omega), fun e => (by cases e)⟩
      have hT3 : Tre s3.som s3.root 0 (fun _ _ => 0) [] 0 (fun _ => none) none := by
        subst hs3
        exact ⟨by simp [oall], by simp [oall], fun x hx => absurd hx (by omega), fun _ => ⟨rfl, fun _ => rfl, rfl⟩, fun T e => (by cases e)⟩
      have hv3 : VI w3 s3.bx 1 1 (fun y => (updD (fun _ => none) id_ b y).map bxV) := by
        subst hs3
        exact hv2.mod hM3' hF.bt
      refine (in_fin w3 t s3 (fun _ _ => 0) [] [] 0 1 0 0 (fun _ => none) 0 id_ b none (fun _ => none) hW3 hT3 (by subst hs3; exact .inl ⟨rfl, rfl, rfl, rfl⟩) (fun y _ => rfl) (fun y k b' _ h => by cases h) rfl hkey (by omega) (by omega) hv3 (fun x hx e => ?_) (by subst hs3; exact hfat) hbe).mono ?_
      · subst hs3
        have e' : x = bx := e
        rcases hx with h | h | h | h
        · exact hF.bt (e' ▸ h)
        · have h' : x = nb := h
          omega
        · cases h
        · exact hF.bl (e' ▸ h)
      · rintro e w4 ⟨rfl, s', M', F', f', o', hX', hn', hc'⟩
        have e1 : s'.bx = bx := by rw [hc'.bx, hs3]
        have hTB : ∀ x, TB t s3 x → BFB t lf bx x ∨ w2.heap.size ≤ x := by
          subst hs3
          rintro x (h | h | h | h)
          · exact .inl (.inl h)
          · exact .inr (by have h' : x = nb := h; omega)
          · cases h
          · exact .inl (.inr (.inl h))
        have hm12 : Mod (BFB t lf bx) w w2 := (Mod.of_below hb1).trans (hm2.mono fun x _ e => .inr (.inr e))
        have hm13 : Mod (BFB t lf bx) w w3 := hm12.trans (hM3'.mono fun x _ e => .inl e)
        have hm14 : Mod (BFB t lf bx) w w4 := hm13.trans2 hc'.mod (fun x hx h => (hTB x h).elim id (fun h => by have := hm12.size; omega))
        refine ⟨rfl, hm14.mono fun x _ h => hS x h, fun x => S x ∨ BB t s' x, ⟨.inr ⟨s', M', F', 0 + 1, 1, f', o', (by rw [hpd, hpn]; exact hX'), by rw [hc'.fat, hs3], by omega, by omega, by omega, by rw [hpn]; omega, fun x hx => .inr hx⟩, fun x hx => hx.elim (fun h => Nat.lt_of_lt_of_le (hL x h) hm14.size) (hX'.lt x)⟩, fun x hx => ?_⟩
        rcases hx with h | h | h
        · exact .inl h
        · rcases hc'.own x h with h | h
          · rcases hTB x h with h | h
            · exact .inl (hS x h)
            · exact .inr (Nat.le_trans hm12.size h)
          · exact .inr (Nat.le_trans hm13.size h)
        · exact .inl (hS x (.inr (.inr (h.trans e1)))))
    refine hcall.mono ?_
    rintro e w' ⟨rfl, h⟩
    exact ⟨by rw [he]; rfl, h⟩
  · have hbxl := hX.bxm.lt
    have hlt : ∀ x, TB t s x → x < w.heap.size := fun x hx => hX.lt x (.inl hx)
    have hfat' : 0 ≤ s.fat := by rw [h1]; exact hfat
    cases hf : f id_ with
    | none =>
      have hD : D id_ = none := by
        have := hX.bxs.same id_
        rw [hf] at this
        cases hd : D id_ with
        | none => rfl
        | some _ => rw [hd] at this; cases this
      rcases Nat.lt_or_ge n 60 with hn | hn
      · have he : putE D n id_ b = 0 := by
          unfold putE
          rw [if_neg (by simp [hwr]), if_neg (by simp [hbe]), if_neg (by omega)]
        have hpd : putD D n id_ b = updD D id_ b := if_pos he
        have hpn : putN D n id_ b = n + 1 := by unfold putN; rw [if_pos he, hD]; rfl
        have hcall := put_new w t id_ b _ _ _ _ _ _ _ _ _ _ _ _ _ hX.head hwr hbe hkey hf hn (by omega) (fun w' => PutPost w t fat p D n S id_ b w') (fun w1 w2 hb1 hm2 hv2 => by
          have hX1 := hX.below hb1
          have hW2 := hX1.tw.mod hm2 (fun x hx => hX.bxne x hx)
          rw [hD] at hv2
          have hm12 : Mod (BB t s) w w2 := (Mod.of_below hb1).trans (hm2.mono fun x _ e => .inr e)
          refine Calls.mono (put_fin w2 t s M F m (mb + 1) n f id_ b o D hW2 hX.tre (fun y _ => hX.bxs.same y) (fun y k b' _ q1 q2 => hX.bxs.ins y k b' q1 q2) hf hkey (by omega) (by omega) hv2 hX.bxne hfat' hbe) ?_
          rintro e w3 ⟨k, rfl, hin⟩
          refine ⟨k, rfl, hin.mono ?_⟩
          rintro e w4 ⟨rfl, s', M', F', f', o', g1, g2, g3⟩
          refine ⟨rfl, ?_⟩
          have hP : PutP w w4 t s m mb (n + 1) (updD D id_ b) s' M' F' (m + 1) (mb + 1) f' o' := ⟨g1, g3.fat, by omega, by omega, g2, hm12.trans2 g3.mod (fun x _ h => .inl h), fun x hx => by
            rcases hx with h | h
            · rcases g3.own x h with h | h
              · exact .inl (.inl h)
              · exact .inr (Nat.le_trans hm12.size h)
            · exact .inl (.inr (h.trans g3.bx))⟩
          have := BW.of h6 hL h1 h2 h3 h4 (by omega) hP
          unfold PutPost
          rw [hpd, hpn]
          exact this)
        refine hcall.mono ?_
        rintro e w' ⟨rfl, h⟩
        exact ⟨by rw [he]; rfl, h⟩
      · have he : putE D n id_ b = 4 := by
          unfold putE
          rw [if_neg (by simp [hwr]), if_neg (by simp [hbe]), if_pos ⟨by rw [hD]; rfl, hn⟩]
        refine (put_limit w t id_ b _ _ _ _ _ _ _ _ _ _ _ _ _ hX.head hwr hbe hkey hf hn).mono ?_
        rintro e w' ⟨rfl, hb⟩
        exact ⟨by rw [he], put_still hB hb (by rw [he]; decide)⟩
    | some k =>
      have hD : (D id_).isSome = true := by rw [← hX.bxs.same id_, hf]; rfl
      have he : putE D n id_ b = 0 := by
        unfold putE
        rw [if_neg (by simp [hwr]), if_neg (by simp [hbe]), if_neg (by rintro ⟨h, _⟩; rw [Option.isNone_iff_eq_none] at h; rw [h] at hD; cases hD)]
      have hpd : putD D n id_ b = updD D id_ b := if_pos he
      have hpn : putN D n id_ b = n := by unfold putN; rw [if_pos he, if_pos hD]
      have hkm := hX.tre.mem hf
      have hk : k < s.nn := hX.tre.lt k (List.mem_append_left _ hkm)
      have hn1 : n - 1 + 1 = n := by
        cases o with
        | none => cases hkm
        | some T =>
          have := (hX.tre.some_ T rfl).2.2.2.2.2
          have := T.lvs_pos
          omega
      cases hwi : withinB b.a1 b.a2 b.a3 b.b1 b.b2 b.b3 (M k 0) (M k 1) (M k 2) (M k 3) (M k 4) (M k 5) with
      | true =>
        have hcall := put_within w t id_ b _ _ _ _ _ _ _ _ _ _ _ _ _ hX.head hwr hbe hkey s.nb s.cap s.nn k M rfl hX.tw.nt hk hf hwi (by omega) (fun w' => PutPost w t fat p D n S id_ b w') (fun w1 w2 hb1 hm2 hv2 => by
          have hX1 := hX.below hb1
          have hW2 := hX1.tw.mod hm2 (fun x hx => hX.bxne x hx)
          rw [if_pos hD] at hv2
          have hP : PutP w w2 t s m mb n (updD D id_ b) s M F m (mb + 1) f o := ⟨⟨hW2, hX.tre, hv2, ⟨fun y => ?_, fun y q b' q1 q2 => ?_⟩, hX.bt, hX.bn, hX.bl, hX.bf⟩, rfl, by omega, by omega, by omega, (Mod.of_below hb1).trans (hm2.mono fun x _ e => .inr e), fun x hx => .inl hx⟩
          · have := BW.of h6 hL h1 h2 h3 h4 h5 hP
            unfold PutPost
            rw [hpd, hpn]
            exact this
          · unfold updD
            by_cases e : y = id_
            · simp [e, hf]
            · simp only [e, if_false]
              exact hX.bxs.same y
          · unfold updD at q2
            by_cases e : y = id_
            · simp only [e, if_true] at q2
              have e3 : b = b' := Option.some.inj q2
              rw [e, hf] at q1
              have e2 : k = q := Option.some.inj q1
              subst e2 e3
              unfold withinB at hwi
              simp only [Bool.and_eq_true, decide_eq_true_eq] at hwi
              refine ⟨?_, ?_, ?_, ?_, ?_, ?_⟩ <;> simp only [nodeBx] <;> omega
            · simp only [e, if_false] at q2
              exact hX.bxs.ins y q b' q1 q2)
        refine hcall.mono ?_
        rintro e w' ⟨rfl, h⟩
        exact ⟨by rw [he]; rfl, h⟩
      | false =>
        have hcall := put_move w t id_ b _ _ _ _ _ _ _ _ _ _ _ _ _ hX.head hwr hbe hkey s.nb s.cap s.nn k M rfl hX.tw.nt hk hf hwi (by omega) (fun w' => PutPost w t fat p D n S id_ b w') (fun w1 hb1 => by
          have hX1 := hX.below hb1
          refine Calls.mono (out_c w1 t s M F m n f k id_ o hX1.tw hX.tre hf hkey (by omega)) ?_
          rintro e w2 ⟨rfl, s1, M1, F1, o1, hP1⟩
          have hc1 := hP1.chg
          refine ⟨rfl, hc1.mod.mono (fun x _ h => ⟨hlt x h, hX.bxne x h⟩), ⟨.slice (some ⟨s1.nb, 0, none⟩) s1.nn s1.cap, s1.fv, s1.root, s1.som, by rw [← hc1.bx, ← hc1.lf, ← hc1.fat]; exact hP1.tw.blk⟩, ?_⟩
          intro w3 w4 hb3 hm4 hv4
          rw [if_pos hD] at hv4
          have hbx1 : ∀ x, TB t s1 x → x ≠ s1.bx := fun x hx e => by
            rw [hc1.bx] at e
            rcases hc1.own x hx with h | h
            · exact hX.bxne x h e
            · have := hb1.size; omega
          have hW4 := (hP1.tw.below hb3).mod hm4 (fun x hx e => hbx1 x hx (by rw [hc1.bx]; exact e))
          have hs1 := hP1.nn
          have hmm : Mod (BB t s) w w4 := (((Mod.of_below hb1).trans (hc1.mod.mono fun x _ h => .inl h)).trans (Mod.of_below hb3)).trans (hm4.mono fun x _ e => .inr e)
          have hsz : w.heap.size ≤ w1.heap.size := hb1.size
          rw [← hc1.fat]
          refine Calls.mono (put_fin w4 t s1 M1 F1 m (mb + 1) (n - 1) _ id_ b o1 D hW4 hP1.tre (fun y hy => ?_) (fun y q b' hy q1 q2 => ?_) (by simp) hkey (by omega) (by omega) (by rw [hn1, hc1.bx]; exact hv4) hbx1 (by rw [hc1.fat]; exact hfat') hbe) ?_
          · simp only [hy, if_false]
            exact hX.bxs.same y
          · have hr := hP1.row y q q1
            simp only [hy, if_false] at q1
            have e4 : nodeBx M1 q = nodeBx M q := by
              unfold nodeBx
              rw [hr 0 (by omega), hr 1 (by omega), hr 2 (by omega), hr 3 (by omega), hr 4 (by omega), hr 5 (by omega)]
            rw [e4]
            exact hX.bxs.ins y q b' q1 q2
          · rintro e w5 ⟨i, rfl, hin⟩
            refine ⟨i, rfl, hin.mono ?_⟩
            rintro e w6 ⟨rfl, s', M', F', f', o', g1, g2, g3⟩
            refine ⟨rfl, ?_⟩
            rw [hn1] at g1
            have hP : PutP w w6 t s m mb n (updD D id_ b) s' M' F' (m + 1) (mb + 1) f' o' := ⟨g1, g3.fat.trans hc1.fat, by omega, by omega, by omega, hmm.trans2 g3.mod (fun x hx h => (hc1.own x h).elim .inl (fun h => by omega)), fun x hx => by
              rcases hx with h | h
              · rcases g3.own x h with h | h
                · rcases hc1.own x h with h | h
                  · exact .inl (.inl h)
                  · exact .inr (Nat.le_trans hsz h)
                · exact .inr (Nat.le_trans hmm.size h)
              · exact .inl (.inr (h.trans (g3.bx.trans hc1.bx)))⟩
            have := BW.of h6 hL h1 h2 h3 h4 h5 hP
            unfold PutPost
            rw [hpd, hpn]
            exact this)
        refine hcall.mono ?_
        rintro e w' ⟨rfl, h⟩
        exact ⟨by rw [he]; rfl, h⟩
end Go.Proofs.YtniahipadfgkbaaGreat
namespace Go.Proofs.YtniahipadfgkbaaGreat
open Go Go.Maps Go.RowKit Go.BigFrame Go.ChangeShapes Go.WideShapes
end Go.Proofs.YtniahipadfgkbaaGreat
