/- Put of broad.Tree, way by way. Conditions: none. -/
import Derived.Test.YtefhmbmbhiehdaaKBt9
import Derived.Test.YtefhmbmbhiehdaaKMapQ
namespace Go.Proofs.Ytefhmbmbhiehdaa
open Go Go.Maps Go.RowKit Go.BigFrame Go.ChangeShapes Go.WideShapes
/-- the tree's own cells and its maps -/
structure BH (w : World) (t : Nat) (nv fv : Value) (rt : Int) (som : Bool) (lf bx : Nat) (fat : Int) (m mb n nb : Nat) (f : Int → Option Nat) (D : Int → Option Bx) : Prop where
  blk : Blk w t #[nv, fv, .int .i64 rt, .bool som, .map (some lf), .map (some bx), .int .i64 fat]
  lfm : VI w lf m n (fun id => (f id).map fun (k : Nat) => .int .i64 (k : Int))
  bxm : VI w bx mb nb (fun id => (D id).map bxV)
  bt : bx ≠ t
theorem BH.below {w w' : World} {t : Nat} {nv fv : Value} {rt : Int} {som : Bool} {lf bx : Nat} {fat : Int} {m mb n nb : Nat} {f : Int → Option Nat} {D : Int → Option Bx} (h : BH w t nv fv rt som lf bx fat m mb n nb f D) (k : Below w.heap.size w w') : BH w' t nv fv rt som lf bx fat m mb n nb f D :=
  ⟨h.blk.below k, h.lfm.below k, h.bxm.below k, h.bt⟩
/-- len of a map, whose guard says yes -/
theorem at_lenG {Q : Exit → Act → World → Prop} {w : World} {b m n : Nat} {f : Int → Option Value} {T E : TypeId} {o : Oper} {ops : Array Oper} {rest : List Oper} {a : Act} (hw : Region.wanted o (yielded ops a.tmps) = true) (mm : Operand) (hop : o.op = Op.call { callee := Callee.builtin Builtin.len, args := #[mm], argTypes := #[T] }) (ht : Try.prog.underlying T = some (.map 3 E))
    (hm : a.eval mm = .map (some b)) (h : VI w b m n f) (hK : wpList Try.prog ops Q rest (a.put o.dst (.int .i64 n)) w) : wpList Try.prog ops Q (o :: rest) a w := by
  obtain ⟨F, ⟨D, hown, hT, hf⟩, _⟩ := h
  refine wpList_want hw fun K' hK' => ?_
  unfold Oper.wp
  simp [execOp, hop, resolve, invoke, builtin, hm, hown.len ht o.type, Result.andThen]
  rw [hf.size]
  exact hK' _ _ hK
theorem zero_intT (w : World) : (zeroValue 3).run Try.prog w = .ok (.int .i64 0) w := Try.zeroValue3 w
set_option maxRecDepth 100000 in
set_option maxHeartbeats 4000000 in
theorem put_wrong (w : World) (t : Nat) (id_ : Int) (b : Bx) (hwr : wrongX b = true) :
    Calls Try.prog 28 #[.pointer (some ⟨t, 0, none⟩), .int .i64 id_, bxV b] w fun e w' => e = .returned (errV 1) ∧ Below w.heap.size w w' := by
  unfold bxV
  go_enter Try.func28, Try.ntmps28
  go_upto_region 1 with fail
  refine wp_fresh ?_
  rintro w1 hb1
  have B1 : Blk w1 w.heap.size #[.int .i64 b.a1, .int .i64 b.a2, .int .i64 b.a3, .int .i64 b.b1, .int .i64 b.b2, .int .i64 b.b3] := Blk.below (by repeat (with_reducible (first | assumption | (apply Blk.at; simp; done) | apply Blk.alloc | apply Blk.drew | apply Blk.drewN | apply Blk.more | apply Blk.put | (apply Blk.far; focus (first | assumption | (apply Ne.symm; assumption) | (simp; done) | (simp <;> omega)))))) hb1
  have hv1 : Below w.heap.size w w1 := (by repeat (with_reducible (first | exact Below.refl _ _ | assumption | apply ext_drew | apply ext_drewN | apply ext_alloc | apply ext_more | (refine ext_setCell ?_ (by first | assumption | (simp <;> omega)) _) | (refine ext_below ?_ (by assumption)))))
  clear hb1
  obtain ⟨p, hp⟩ : ∃ p, p = w.heap.size := ⟨_, rfl⟩
  rw [← hp] at B1 ⊢
  have HP := Lib.hid hp
  have HB1 := Lib.hid B1
  have HV1 := Lib.hid hv1
  clear hp B1 hv1
  obtain ⟨zp, cp, fp⟩ := id HB1.out
  go_wp2_with fail
  refine (wrong_c b hwr _).mono ?_
  rintro e w2 ⟨rfl, hb2⟩
  have HB2 := Lib.hid (HB1.out.below hb2)
  have HV2 : Hid (Below w.heap.size w w2) := Lib.hid (HV1.out.trans (hb2.mono HV1.out.size))
  clear hb2 zp cp fp
  obtain ⟨zp, cp, fp⟩ := id HB2.out
  go_wp2
  go_ret
  exact ⟨rfl, HV2.out⟩
set_option maxRecDepth 100000 in
set_option maxHeartbeats 4000000 in
theorem put_beyond (w : World) (t : Nat) (id_ : Int) (b : Bx) (hwr : wrongX b = false) (hbe : beyondX b = true) :
    Calls Try.prog 28 #[.pointer (some ⟨t, 0, none⟩), .int .i64 id_, bxV b] w fun e w' => e = .returned (errV 2) ∧ Below w.heap.size w w' := by
  unfold bxV
  go_enter Try.func28, Try.ntmps28
  go_upto_region 1 with fail
  refine wp_fresh ?_
  rintro w1 hb1
  have B1 : Blk w1 w.heap.size #[.int .i64 b.a1, .int .i64 b.a2, .int .i64 b.a3, .int .i64 b.b1, .int .i64 b.b2, .int .i64 b.b3] := Blk.below (by repeat (with_reducible (first | assumption | (apply Blk.at; simp; done) | apply Blk.alloc | apply Blk.drew | apply Blk.drewN | apply Blk.more | apply Blk.put | (apply Blk.far; focus (first | assumption | (apply Ne.symm; assumption) | (simp; done) | (simp <;> omega)))))) hb1
  have hv1 : Below w.heap.size w w1 := (by repeat (with_reducible (first | exact Below.refl _ _ | assumption | apply ext_drew | apply ext_drewN | apply ext_alloc | apply ext_more | (refine ext_setCell ?_ (by first | assumption | (simp <;> omega)) _) | (refine ext_below ?_ (by assumption)))))
  clear hb1
  obtain ⟨p, hp⟩ : ∃ p, p = w.heap.size := ⟨_, rfl⟩
  rw [← hp] at B1 ⊢
  have HP := Lib.hid hp
  have HB1 := Lib.hid B1
  have HV1 := Lib.hid hv1
  clear hp B1 hv1
  obtain ⟨zp, cp, fp⟩ := id HB1.out
  go_wp2_with fail
  refine (wrong_c b hwr _).mono ?_
  rintro e w2 ⟨rfl, hb2⟩
  have HB2 := Lib.hid (HB1.out.below hb2)
  have HV2 : Hid (Below w.heap.size w w2) := Lib.hid (HV1.out.trans (hb2.mono HV1.out.size))
  clear hb2 zp cp fp
  obtain ⟨zp, cp, fp⟩ := id HB2.out
  go_wp2_with fail
  refine (beyond_c b hbe _).mono ?_
  rintro e w3 ⟨rfl, hb3⟩
  have HB3 := Lib.hid (HB2.out.below hb3)
  have HV3 : Hid (Below w.heap.size w w3) := Lib.hid (HV2.out.trans (hb3.mono HV2.out.size))
  clear hb3 zp cp fp
  obtain ⟨zp, cp, fp⟩ := id HB3.out
  go_wp2
  go_ret
  exact ⟨rfl, HV3.out⟩
set_option maxRecDepth 100000 in
set_option maxHeartbeats 4000000 in
theorem put_limit (w : World) (t : Nat) (id_ : Int) (b : Bx) (nv fv : Value) (rt : Int) (som : Bool) (lf bx : Nat) (fat : Int) (m mb n nb : Nat) (f : Int → Option Nat) (D : Int → Option Bx) (hH : BH w t nv fv rt som lf bx fat m mb n nb f D) (hwr : wrongX b = false) (hbe : beyondX b = false) (hkey : keyOf Try.prog 3 (.int .i64 id_) = some (.int .i64 id_)) (hf : f id_ = none) (hn : 60 ≤ n) :
    Calls Try.prog 28 #[.pointer (some ⟨t, 0, none⟩), .int .i64 id_, bxV b] w fun e w' => e = .returned (errV 4) ∧ Below w.heap.size w w' := by
  have HH := Lib.hid hH
  have HKEY := Lib.hid hkey
  have HF := Lib.hid hf
  clear hH hkey hf
  unfold bxV
  go_enter Try.func28, Try.ntmps28
  go_upto_region 1 with fail
  refine wp_fresh ?_
  rintro w1 hb1
  have B1 : Blk w1 w.heap.size #[.int .i64 b.a1, .int .i64 b.a2, .int .i64 b.a3, .int .i64 b.b1, .int .i64 b.b2, .int .i64 b.b3] := Blk.below (by repeat (with_reducible (first | assumption | (apply Blk.at; simp; done) | apply Blk.alloc | apply Blk.drew | apply Blk.drewN | apply Blk.more | apply Blk.put | (apply Blk.far; focus (first | assumption | (apply Ne.symm; assumption) | (simp; done) | (simp <;> omega)))))) hb1
  have hv1 : Below w.heap.size w w1 := (by repeat (with_reducible (first | exact Below.refl _ _ | assumption | apply ext_drew | apply ext_drewN | apply ext_alloc | apply ext_more | (refine ext_setCell ?_ (by first | assumption | (simp <;> omega)) _) | (refine ext_below ?_ (by assumption)))))
  clear hb1
  obtain ⟨p, hp⟩ : ∃ p, p = w.heap.size := ⟨_, rfl⟩
  rw [← hp] at B1 ⊢
  have HP := Lib.hid hp
  have HB1 := Lib.hid B1
  have HV1 := Lib.hid hv1
  clear hp B1 hv1
  obtain ⟨zp, cp, fp⟩ := id HB1.out
  go_wp2_with fail
  refine (wrong_c b hwr _).mono ?_
  rintro e w2 ⟨rfl, hb2⟩
  have HB2 := Lib.hid (HB1.out.below hb2)
  have HV2 : Hid (Below w.heap.size w w2) := Lib.hid (HV1.out.trans (hb2.mono HV1.out.size))
  clear hb2 zp cp fp
  obtain ⟨zp, cp, fp⟩ := id HB2.out
  go_wp2_with fail
  refine (beyond_c b hbe _).mono ?_
  rintro e w3 ⟨rfl, hb3⟩
  have HB3 := Lib.hid (HB2.out.below hb3)
  have HV3 : Hid (Below w.heap.size w w3) := Lib.hid (HV2.out.trans (hb3.mono HV2.out.size))
  clear hb3 zp cp fp
  obtain ⟨zp, cp, fp⟩ := id HB3.out
  have HH3 := Lib.hid (HH.out.below HV3.out)
  obtain ⟨zt, ct, ft⟩ := id HH3.out.blk
  go_upto_region 6 with (at_lookup; refine at_lookT rfl _ _ rfl Try.underlying118 (zero_intT _) rfl HH3.out.lfm rfl HKEY.out ?_; rw [HF.out])
  try simp only [Option.map_none, Option.getD_none, Option.isSome_none]
  have hn' : (60 : Int) ≤ (n : Int) := by omega
  have d60 : decide ((60 : Int) ≤ (n : Int)) = true := decide_eq_true hn'
  go_wp2_with (at_len; refine at_lenG (by rfl) _ rfl Try.underlying118 rfl HH3.out.lfm ?_)
  go_ret
  exact ⟨rfl, HV3.out⟩
set_option maxRecDepth 100000 in
set_option maxHeartbeats 4000000 in
theorem put_new (w : World) (t : Nat) (id_ : Int) (b : Bx) (nv fv : Value) (rt : Int) (som : Bool) (lf bx : Nat) (fat : Int) (m mb n nb : Nat) (f : Int → Option Nat) (D : Int → Option Bx) (hH : BH w t nv fv rt som lf bx fat m mb n nb f D) (hwr : wrongX b = false) (hbe : beyondX b = false) (hkey : keyOf Try.prog 3 (.int .i64 id_) = some (.int .i64 id_)) (hf : f id_ = none) (hn : n < 60) (hmb : mb < 900000) (R : World → Prop) (HN : ∀ w1 w2, Below w.heap.size w w1 → Mod (· = bx) w1 w2 → VI w2 bx (mb + 1) (if (D id_).isSome then nb else nb + 1) (fun y => (updD D id_ b y).map bxV) → Calls Try.prog 65 #[.pointer (some ⟨t, 0, none⟩), .agg #[.int .i64 (sub b.a1 fat), .int .i64 (sub b.a2 fat), .int .i64 (sub b.a3 fat), .int .i64 (add b.b1 fat), .int .i64 (add b.b2 fat), .int .i64 (add b.b3 fat), .int .i64 0, .int .i64 (-1), .int .i64 (-1), .int .i64 id_, .int .i64 0]] w2 fun e w3 => ∃ k : Nat, e = .returned (.int .i64 (k : Int)) ∧ Calls Try.prog 64 #[.pointer (some ⟨t, 0, none⟩), .int .i64 (k : Int)] w3 fun e w4 => e = .returned (.tuple #[]) ∧ R w4) :
    Calls Try.prog 28 #[.pointer (some ⟨t, 0, none⟩), .int .i64 id_, bxV b] w fun e w' => e = .returned .nilIface ∧ R w' := by
  have HH := Lib.hid hH
  have HKEY := Lib.hid hkey
  have HF := Lib.hid hf
  clear hH hkey hf
  have HMB := Lib.hid hmb
  have hnn : n < 60 := hn
  clear hmb
  unfold bxV
  go_enter Try.func28, Try.ntmps28
  go_upto_region 1 with fail
  refine wp_fresh ?_
  rintro w1 hb1
  have B1 : Blk w1 w.heap.size #[.int .i64 b.a1, .int .i64 b.a2, .int .i64 b.a3, .int .i64 b.b1, .int .i64 b.b2, .int .i64 b.b3] := Blk.below (by repeat (with_reducible (first | assumption | (apply Blk.at; simp; done) | apply Blk.alloc | apply Blk.drew | apply Blk.drewN | apply Blk.more | apply Blk.put | (apply Blk.far; focus (first | assumption | (apply Ne.symm; assumption) | (simp; done) | (simp <;> omega)))))) hb1
  have hv1 : Below w.heap.size w w1 := (by repeat (with_reducible (first | exact Below.refl _ _ | assumption | apply ext_drew | apply ext_drewN | apply ext_alloc | apply ext_more | (refine ext_setCell ?_ (by first | assumption | (simp <;> omega)) _) | (refine ext_below ?_ (by assumption)))))
  clear hb1
  obtain ⟨p, hp⟩ : ∃ p, p = w.heap.size := ⟨_, rfl⟩
  rw [← hp] at B1 ⊢
  have HP := Lib.hid hp
  have HB1 := Lib.hid B1
  have HV1 := Lib.hid hv1
  clear hp B1 hv1
  obtain ⟨zp, cp, fp⟩ := id HB1.out
  go_wp2_with fail
  refine (wrong_c b hwr _).mono ?_
  rintro e w2 ⟨rfl, hb2⟩
  have HB2 := Lib.hid (HB1.out.below hb2)
  have HV2 : Hid (Below w.heap.size w w2) := Lib.hid (HV1.out.trans (hb2.mono HV1.out.size))
  clear hb2 zp cp fp
  obtain ⟨zp, cp, fp⟩ := id HB2.out
  go_wp2_with fail
  refine (beyond_c b hbe _).mono ?_
  rintro e w3 ⟨rfl, hb3⟩
  have HB3 := Lib.hid (HB2.out.below hb3)
  have HV3 : Hid (Below w.heap.size w w3) := Lib.hid (HV2.out.trans (hb3.mono HV2.out.size))
  clear hb3 zp cp fp
  obtain ⟨zp, cp, fp⟩ := id HB3.out
  have HH3 := Lib.hid (HH.out.below HV3.out)
  obtain ⟨zt, ct, ft⟩ := id HH3.out.blk
  go_upto_region 6 with (at_lookup; refine at_lookT rfl _ _ rfl Try.underlying118 (zero_intT _) rfl HH3.out.lfm rfl HKEY.out ?_; rw [HF.out])
  try simp only [Option.map_none, Option.getD_none, Option.isSome_none]
  have hn' : (n : Int) < 60 := by omega
  have d60 : decide ((60 : Int) ≤ (n : Int)) = false := decide_eq_false (by omega)
  clear hn
  have HPX : Hid (¬ p = bx) := Lib.hid (by rw [HP.out]; have := HH.out.bxm.lt; omega)
  go_upto_region 8 with (at_len; refine at_lenG (by rfl) _ rfl Try.underlying118 rfl HH3.out.lfm ?_)
  have hmc := more_cell
  refine region_quiet_all (by kernel_rfl) (by kernel_rfl) ?_
  repeat (go_big_quiet_step (fail))
  refine wpQuiet_nil ?_
  rintro w4 hw4
  have hb4 := after_below hw4
  clear hw4 hmc zt ct ft zp cp fp
  have HH4 := Lib.hid (HH3.out.below hb4)
  have HB4 := Lib.hid (HB3.out.below hb4)
  have HV4 : Hid (Below w.heap.size w w4) := Lib.hid (HV3.out.trans (hb4.mono HV3.out.size))
  clear hb4
  obtain ⟨zp, cp, fp⟩ := id HB4.out
  obtain ⟨zt, ct, ft⟩ := id HH4.out.blk
  go_upto_region 13 with fail
  have hmc := more_cell
  refine region_quiet_but 6 (by kernel_rfl) (by kernel_rfl) ?_
  simp only [List.take_succ_cons, List.take_zero, List.drop_succ_cons, List.drop_zero]
  repeat (go_big_quiet_step (fail))
  refine wpQuiet_nil ?_
  rintro w5 hw5
  have hb5 := after_below hw5
  clear hw5 hmc zt ct ft zp cp fp
  have HH5 := Lib.hid (HH4.out.below hb5)
  have HB5 := Lib.hid (HB4.out.below hb5)
  have HV5 : Hid (Below w.heap.size w w5) := Lib.hid (HV4.out.trans (hb5.mono HV4.out.size))
  clear hb5
  refine at_putT (val := bxV b) rfl (.tmp 61) (.tmp 62) (.tmp 63) rfl Try.underlying117 rfl HH5.out.bxm (by have := HMB.out; unfold maxLen; omega) rfl rfl HKEY.out ?_
  intro w6 h6 k6
  rw [bx_more] at h6
  simp only [Option.isSome_map] at h6
  have HBX := Lib.hid h6
  have HK6 := Lib.hid k6
  have HB6 : Hid (Blk w6 p _) := Lib.hid (HB5.out.mod k6 HPX.out)
  have HT6 : Hid (Blk w6 t #[nv, fv, .int .i64 rt, .bool som, .map (some lf), .map (some bx), .int .i64 fat]) := Lib.hid (HH5.out.blk.mod k6 (fun e => HH5.out.bt e.symm))
  clear h6 k6
  obtain ⟨zp, cp, fp⟩ := id HB6.out
  obtain ⟨zt, ct, ft⟩ := id HT6.out
  try simp only [Act.put]
  go_upto_region 14 with fail
  refine region_late [0] 10 ?l1 ?hl1 (by kernel_rfl) (by kernel_rfl) ?_
  case hl1 => simp [lateE]; rfl
  have hmc := more_cell
  refine any_quiet_butI 10 (by kernel_rfl) ?_
  simp only [List.take_succ_cons, List.take_zero, List.drop_succ_cons, List.drop_zero]
  repeat (go_big_quiet_step (first | (go_at_call 52; exact calls_after (fat_c _ _ _ _ _ _ _ _))))
  refine wpQuiet_nil ?_
  rintro w7 hw7
  have hb7 := after_below hw7
  clear hw7 hmc zt ct ft zp cp fp
  go_wp2_with fail
  refine (HN w5 w7 HV5.out (HK6.out.below hb7) (HBX.out.below hb7)).mono ?_
  rintro e v1 ⟨k, rfl, hin⟩
  have HIN := Lib.hid hin
  clear hin
  go_wp2_with fail
  refine HIN.out.mono ?_
  rintro e v2 ⟨rfl, hR⟩
  have HR := Lib.hid hR
  clear hR
  go_wp2_with fail
  refine ⟨rfl, ?_⟩
  try skip
  go_wp2
  go_ret
  exact ⟨rfl, HR.out⟩
set_option maxRecDepth 100000 in
set_option maxHeartbeats 4000000 in
theorem put_within (w : World) (t : Nat) (id_ : Int) (b : Bx) (nv fv : Value) (rt : Int) (som : Bool) (lf bx : Nat) (fat : Int) (m mb n nb : Nat) (f : Int → Option Nat) (D : Int → Option Bx) (hH : BH w t nv fv rt som lf bx fat m mb n nb f D) (hwr : wrongX b = false) (hbe : beyondX b = false) (hkey : keyOf Try.prog 3 (.int .i64 id_) = some (.int .i64 id_)) (nbk cap nn k : Nat) (M : Nat → Nat → Int) (hnv : nv = .slice (some ⟨nbk, 0, none⟩) nn cap) (hN : NT w nbk cap nn M) (hk : k < nn) (hf : f id_ = some k) (hwi : withinB b.a1 b.a2 b.a3 b.b1 b.b2 b.b3 (M k 0) (M k 1) (M k 2) (M k 3) (M k 4) (M k 5) = true) (hmb : mb < 900000) (R : World → Prop) (HR : ∀ w1 w2, Below w.heap.size w w1 → Mod (· = bx) w1 w2 → VI w2 bx (mb + 1) (if (D id_).isSome then nb else nb + 1) (fun y => (updD D id_ b y).map bxV) → R w2) :
    Calls Try.prog 28 #[.pointer (some ⟨t, 0, none⟩), .int .i64 id_, bxV b] w fun e w' => e = .returned .nilIface ∧ R w' := by
  subst hnv
  have HMB := Lib.hid hmb
  have HN := Lib.hid hN
  have HKK := Lib.hid hk
  have HWI := Lib.hid hwi
  clear hmb hN hwi hk
  have HH := Lib.hid hH
  have HKEY := Lib.hid hkey
  have HF := Lib.hid hf
  clear hH hkey hf
  unfold bxV
  go_enter Try.func28, Try.ntmps28
  go_upto_region 1 with fail
  refine wp_fresh ?_
  rintro w1 hb1
  have B1 : Blk w1 w.heap.size #[.int .i64 b.a1, .int .i64 b.a2, .int .i64 b.a3, .int .i64 b.b1, .int .i64 b.b2, .int .i64 b.b3] := Blk.below (by repeat (with_reducible (first | assumption | (apply Blk.at; simp; done) | apply Blk.alloc | apply Blk.drew | apply Blk.drewN | apply Blk.more | apply Blk.put | (apply Blk.far; focus (first | assumption | (apply Ne.symm; assumption) | (simp; done) | (simp <;> omega)))))) hb1
  have hv1 : Below w.heap.size w w1 := (by repeat (with_reducible (first | exact Below.refl _ _ | assumption | apply ext_drew | apply ext_drewN | apply ext_alloc | apply ext_more | (refine ext_setCell ?_ (by first | assumption | (simp <;> omega)) _) | (refine ext_below ?_ (by assumption)))))
  clear hb1
  obtain ⟨p, hp⟩ : ∃ p, p = w.heap.size := ⟨_, rfl⟩
  rw [← hp] at B1 ⊢
  have HP := Lib.hid hp
  have HB1 := Lib.hid B1
  have HV1 := Lib.hid hv1
  clear hp B1 hv1
  obtain ⟨zp, cp, fp⟩ := id HB1.out
  go_wp2_with fail
  refine (wrong_c b hwr _).mono ?_
  rintro e w2 ⟨rfl, hb2⟩
  have HB2 := Lib.hid (HB1.out.below hb2)
  have HV2 : Hid (Below w.heap.size w w2) := Lib.hid (HV1.out.trans (hb2.mono HV1.out.size))
  clear hb2 zp cp fp
  obtain ⟨zp, cp, fp⟩ := id HB2.out
  go_wp2_with fail
  refine (beyond_c b hbe _).mono ?_
  rintro e w3 ⟨rfl, hb3⟩
  have HB3 := Lib.hid (HB2.out.below hb3)
  have HV3 : Hid (Below w.heap.size w w3) := Lib.hid (HV2.out.trans (hb3.mono HV2.out.size))
  clear hb3 zp cp fp
  obtain ⟨zp, cp, fp⟩ := id HB3.out
  have HH3 := Lib.hid (HH.out.below HV3.out)
  obtain ⟨zt, ct, ft⟩ := id HH3.out.blk
  go_upto_region 6 with (at_lookup; refine at_lookT rfl _ _ rfl Try.underlying118 (zero_intT _) rfl HH3.out.lfm rfl HKEY.out ?_; rw [HF.out])
  try simp only [Option.map_some, Option.getD_some, Option.isSome_some]
  have HPX : Hid (¬ p = bx) := Lib.hid (by rw [HP.out]; have := HH.out.bxm.lt; omega)
  go_upto_region 8 with fail
  have HN3 := Lib.hid (HN.out.below HV3.out)
  have hk := HKK.out
  have hbl := HN3.out.lt
  have q0 := HN3.out.cell hk (j := 0) (by decide)
  have q1 := HN3.out.cell hk (j := 1) (by decide)
  have q2 := HN3.out.cell hk (j := 2) (by decide)
  have q3 := HN3.out.cell hk (j := 3) (by decide)
  have q4 := HN3.out.cell hk (j := 4) (by decide)
  have q5 := HN3.out.cell hk (j := 5) (by decide)
  simp only [Nat.add_zero] at q0
  have hmc := more_cell
  refine region_quiet_all (by kernel_rfl) (by kernel_rfl) ?_
  repeat (go_big_quiet_step (first | (go_at_call 62; exact calls_after (within_c _ _ _ _ _ _ _ _ _ _ _ _ _))))
  refine wpQuiet_nil ?_
  rw [HWI.out]
  rintro w4 hw4
  have hb4 := after_below hw4
  clear hw4 hmc zt ct ft zp cp fp q0 q1 q2 q3 q4 q5 hk hbl
  have HH4 := Lib.hid (HH3.out.below hb4)
  have HB4 := Lib.hid (HB3.out.below hb4)
  have HV4 : Hid (Below w.heap.size w w4) := Lib.hid (HV3.out.trans (hb4.mono HV3.out.size))
  clear hb4
  obtain ⟨zp, cp, fp⟩ := id HB4.out
  obtain ⟨zt, ct, ft⟩ := id HH4.out.blk
  go_upto_region 9 with fail
  have hmc := more_cell
  refine region_quiet_but 6 (by kernel_rfl) (by kernel_rfl) ?_
  simp only [List.take_succ_cons, List.take_zero, List.drop_succ_cons, List.drop_zero]
  repeat (go_big_quiet_step (fail))
  refine wpQuiet_nil ?_
  rintro w5 hw5
  have hb5 := after_below hw5
  clear hw5 hmc zt ct ft zp cp fp
  have HH5 := Lib.hid (HH4.out.below hb5)
  have HV5 : Hid (Below w.heap.size w w5) := Lib.hid (HV4.out.trans (hb5.mono HV4.out.size))
  clear hb5
  refine at_putT (val := bxV b) rfl (.tmp 51) (.tmp 52) (.tmp 53) rfl Try.underlying117 rfl HH5.out.bxm (by have := HMB.out; unfold maxLen; omega) rfl rfl HKEY.out ?_
  intro w6 h6 k6
  rw [bx_more] at h6
  simp only [Option.isSome_map] at h6
  have HBX := Lib.hid h6
  have HK6 := Lib.hid k6
  clear h6 k6
  go_wp2
  go_ret
  exact ⟨rfl, HR w5 w6 HV5.out HK6.out HBX.out⟩
set_option maxRecDepth 100000 in
set_option maxHeartbeats 4000000 in
theorem put_move (w : World) (t : Nat) (id_ : Int) (b : Bx) (nv fv : Value) (rt : Int) (som : Bool) (lf bx : Nat) (fat : Int) (m mb n nb : Nat) (f : Int → Option Nat) (D : Int → Option Bx) (hH : BH w t nv fv rt som lf bx fat m mb n nb f D) (hwr : wrongX b = false) (hbe : beyondX b = false) (hkey : keyOf Try.prog 3 (.int .i64 id_) = some (.int .i64 id_)) (nbk cap nn k : Nat) (M : Nat → Nat → Int) (hnv : nv = .slice (some ⟨nbk, 0, none⟩) nn cap) (hN : NT w nbk cap nn M) (hk : k < nn) (hf : f id_ = some k) (hwi : withinB b.a1 b.a2 b.a3 b.b1 b.b2 b.b3 (M k 0) (M k 1) (M k 2) (M k 3) (M k 4) (M k 5) = false) (hmb : mb < 900000) (R : World → Prop) (HO : ∀ w1, Below w.heap.size w w1 → Calls Try.prog 63 #[.pointer (some ⟨t, 0, none⟩), .int .i64 (k : Int)] w1 fun e w2 => e = .returned (.tuple #[]) ∧ Mod (fun x => x < w.heap.size ∧ x ≠ bx) w1 w2 ∧ (∃ nv2 fv2 rt2 som2, Blk w2 t #[nv2, fv2, .int .i64 rt2, .bool som2, .map (some lf), .map (some bx), .int .i64 fat]) ∧ ∀ w3 w4, Below w2.heap.size w2 w3 → Mod (· = bx) w3 w4 → VI w4 bx (mb + 1) (if (D id_).isSome then nb else nb + 1) (fun y => (updD D id_ b y).map bxV) → Calls Try.prog 65 #[.pointer (some ⟨t, 0, none⟩), .agg #[.int .i64 (sub b.a1 fat), .int .i64 (sub b.a2 fat), .int .i64 (sub b.a3 fat), .int .i64 (add b.b1 fat), .int .i64 (add b.b2 fat), .int .i64 (add b.b3 fat), .int .i64 0, .int .i64 (-1), .int .i64 (-1), .int .i64 id_, .int .i64 0]] w4 fun e w5 => ∃ i : Nat, e = .returned (.int .i64 (i : Int)) ∧ Calls Try.prog 64 #[.pointer (some ⟨t, 0, none⟩), .int .i64 (i : Int)] w5 fun e w6 => e = .returned (.tuple #[]) ∧ R w6) :
    Calls Try.prog 28 #[.pointer (some ⟨t, 0, none⟩), .int .i64 id_, bxV b] w fun e w' => e = .returned .nilIface ∧ R w' := by
  subst hnv
  have HMB := Lib.hid hmb
  have HN := Lib.hid hN
  have HKK := Lib.hid hk
  have HWI := Lib.hid hwi
  clear hmb hN hwi hk
  have HH := Lib.hid hH
  have HKEY := Lib.hid hkey
  have HF := Lib.hid hf
  clear hH hkey hf
  unfold bxV
  go_enter Try.func28, Try.ntmps28
  go_upto_region 1 with fail
  refine wp_fresh ?_
  rintro w1 hb1
  have B1 : Blk w1 w.heap.size #[.int .i64 b.a1, .int .i64 b.a2, .int .i64 b.a3, .int .i64 b.b1, .int .i64 b.b2, .int .i64 b.b3] := Blk.below (by repeat (with_reducible (first | assumption | (apply Blk.at; simp; done) | apply Blk.alloc | apply Blk.drew | apply Blk.drewN | apply Blk.more | apply Blk.put | (apply Blk.far; focus (first | assumption | (apply Ne.symm; assumption) | (simp; done) | (simp <;> omega)))))) hb1
  have hv1 : Below w.heap.size w w1 := (by repeat (with_reducible (first | exact Below.refl _ _ | assumption | apply ext_drew | apply ext_drewN | apply ext_alloc | apply ext_more | (refine ext_setCell ?_ (by first | assumption | (simp <;> omega)) _) | (refine ext_below ?_ (by assumption)))))
  clear hb1
  obtain ⟨p, hp⟩ : ∃ p, p = w.heap.size := ⟨_, rfl⟩
  rw [← hp] at B1 ⊢
  have HP := Lib.hid hp
  have HB1 := Lib.hid B1
  have HV1 := Lib.hid hv1
  clear hp B1 hv1
  obtain ⟨zp, cp, fp⟩ := id HB1.out
  go_wp2_with fail
  refine (wrong_c b hwr _).mono ?_
  rintro e w2 ⟨rfl, hb2⟩
  have HB2 := Lib.hid (HB1.out.below hb2)
  have HV2 : Hid (Below w.heap.size w w2) := Lib.hid (HV1.out.trans (hb2.mono HV1.out.size))
  clear hb2 zp cp fp
  obtain ⟨zp, cp, fp⟩ := id HB2.out
  go_wp2_with fail
  refine (beyond_c b hbe _).mono ?_
  rintro e w3 ⟨rfl, hb3⟩
  have HB3 := Lib.hid (HB2.out.below hb3)
  have HV3 : Hid (Below w.heap.size w w3) := Lib.hid (HV2.out.trans (hb3.mono HV2.out.size))
  clear hb3 zp cp fp
  obtain ⟨zp, cp, fp⟩ := id HB3.out
  have HH3 := Lib.hid (HH.out.below HV3.out)
  obtain ⟨zt, ct, ft⟩ := id HH3.out.blk
  go_upto_region 6 with (at_lookup; refine at_lookT rfl _ _ rfl Try.underlying118 (zero_intT _) rfl HH3.out.lfm rfl HKEY.out ?_; rw [HF.out])
  try simp only [Option.map_some, Option.getD_some, Option.isSome_some]
  have HPX : Hid (¬ p = bx) := Lib.hid (by rw [HP.out]; have := HH.out.bxm.lt; omega)
  go_upto_region 8 with fail
  have HN3 := Lib.hid (HN.out.below HV3.out)
  have hk := HKK.out
  have hbl := HN3.out.lt
  have q0 := HN3.out.cell hk (j := 0) (by decide)
  have q1 := HN3.out.cell hk (j := 1) (by decide)
  have q2 := HN3.out.cell hk (j := 2) (by decide)
  have q3 := HN3.out.cell hk (j := 3) (by decide)
  have q4 := HN3.out.cell hk (j := 4) (by decide)
  have q5 := HN3.out.cell hk (j := 5) (by decide)
  simp only [Nat.add_zero] at q0
  have hmc := more_cell
  refine region_quiet_all (by kernel_rfl) (by kernel_rfl) ?_
  repeat (go_big_quiet_step (first | (go_at_call 62; exact calls_after (within_c _ _ _ _ _ _ _ _ _ _ _ _ _))))
  refine wpQuiet_nil ?_
  rw [HWI.out]
  rintro w4 hw4
  have hb4 := after_below hw4
  clear hw4 hmc zt ct ft zp cp fp q0 q1 q2 q3 q4 q5 hk hbl
  have HH4 := Lib.hid (HH3.out.below hb4)
  have HB4 := Lib.hid (HB3.out.below hb4)
  have HV4 : Hid (Below w.heap.size w w4) := Lib.hid (HV3.out.trans (hb4.mono HV3.out.size))
  clear hb4
  obtain ⟨zp, cp, fp⟩ := id HB4.out
  obtain ⟨zt, ct, ft⟩ := id HH4.out.blk
  go_wp2_with fail
  refine (HO w4 HV4.out).mono ?_
  rintro e w5 ⟨rfl, hm5, ⟨nv2, fv2, rt2, som2, hb5⟩, hnn⟩
  have HNN := Lib.hid hnn
  have HT5 := Lib.hid hb5
  have HX5 := Lib.hid (HH4.out.bxm.mod hm5 (fun h => h.2 rfl))
  have HB5 := Lib.hid (HB4.out.mod hm5 (fun h => by have := HP.out; have := h.1; omega))
  clear hm5 hb5 hnn zt ct ft zp cp fp
  obtain ⟨zp, cp, fp⟩ := id HB5.out
  obtain ⟨zt, ct, ft⟩ := id HT5.out
  go_upto_region 13 with fail
  have hmc := more_cell
  refine region_quiet_but 6 (by kernel_rfl) (by kernel_rfl) ?_
  simp only [List.take_succ_cons, List.take_zero, List.drop_succ_cons, List.drop_zero]
  repeat (go_big_quiet_step (fail))
  refine wpQuiet_nil ?_
  rintro w6 hw6
  have hb6 := after_below hw6
  clear hw6 hmc zt ct ft zp cp fp
  have HH6 := Lib.hid (And.intro (HT5.out.below hb6) (HX5.out.below hb6))
  have HB6 := Lib.hid (HB5.out.below hb6)
  have HV6 : Hid (Below w5.heap.size w5 w6) := Lib.hid hb6
  clear hb6
  refine at_putT (val := bxV b) rfl (.tmp 61) (.tmp 62) (.tmp 63) rfl Try.underlying117 rfl HH6.out.2 (by have := HMB.out; unfold maxLen; omega) rfl rfl HKEY.out ?_
  intro w7 h7 k7
  rw [bx_more] at h7
  simp only [Option.isSome_map] at h7
  have HBX := Lib.hid h7
  have HK7 := Lib.hid k7
  have HB7 : Hid (Blk w7 p _) := Lib.hid (HB6.out.mod k7 HPX.out)
  have HT7 : Hid (Blk w7 t #[nv2, fv2, .int .i64 rt2, .bool som2, .map (some lf), .map (some bx), .int .i64 fat]) := Lib.hid (HH6.out.1.mod k7 (fun e => HH.out.bt e.symm))
  clear h7 k7
  obtain ⟨zp, cp, fp⟩ := id HB7.out
  obtain ⟨zt, ct, ft⟩ := id HT7.out
  try simp only [Act.put]
  go_upto_region 14 with fail
  refine region_late [0] 10 ?l1 ?hl1 (by kernel_rfl) (by kernel_rfl) ?_
  case hl1 => simp [lateE]; rfl
  have hmc := more_cell
  refine any_quiet_butI 10 (by kernel_rfl) ?_
  simp only [List.take_succ_cons, List.take_zero, List.drop_succ_cons, List.drop_zero]
  repeat (go_big_quiet_step (first | (go_at_call 52; exact calls_after (fat_c _ _ _ _ _ _ _ _))))
  refine wpQuiet_nil ?_
  rintro w8 hw8
  have hb8 := after_below hw8
  clear hw8 hmc zt ct ft zp cp fp
  go_wp2_with fail
  refine (HNN.out w6 w8 HV6.out (HK7.out.below hb8) (HBX.out.below hb8)).mono ?_
  rintro e v1 ⟨i, rfl, hin⟩
  have HIN := Lib.hid hin
  clear hin
  go_wp2_with fail
  refine HIN.out.mono ?_
  rintro e v2 ⟨rfl, hR⟩
  have HR := Lib.hid hR
  clear hR
  go_wp2_with fail
  refine ⟨rfl, ?_⟩
  try skip
  go_wp2
  go_ret
  exact ⟨rfl, HR.out⟩
end Go.Proofs.Ytefhmbmbhiehdaa
