/- Proved: Rows.GeomBoxesSaid: what is done with boxes is the document's. Conditions: none. -/
import Derived.Test.YtfagkbmphohelaaBoxes2
import Derived.Deep.RegionHeld3
import Derived.Deep.RegionWith
import Derived.Deep.DeepCutAuto
import Derived.Test.YtfagkbmphohelaaGrow
import Derived.Test.YtfagkbmphohelaaBoxes
import Derived.Test.YtfagkbmphohelaaLift
namespace Go.Proofs.Ytfagkbmphohelaa
open Go.ChangeShapes Go.WideShapes Go.ChangeAt Go.RowKit Go.BigFrame

set_option maxRecDepth 100000 in
set_option maxHeartbeats 40000000 in
theorem geomBoxes_w (a1 a2 a3 a4 a5 a6 b1 b2 b3 b4 b5 b6 p1 p2 p3 k : Int) (w : World) :
    Calls Try.prog 4 #[.agg #[.int .i64 a1, .int .i64 a2, .int .i64 a3, .int .i64 a4, .int .i64 a5, .int .i64 a6], .agg #[.int .i64 b1, .int .i64 b2, .int .i64 b3, .int .i64 b4, .int .i64 b5, .int .i64 b6], .agg #[.int .i64 p1, .int .i64 p2, .int .i64 p3], .int .i64 k] w fun e w' => e = .returned (.bool true) ∧ Below w.heap.size w w' := by
  have hmc := more_cell
  have hmf := more_frozen
  have hml := more_lt
  go_enter Try.func4, Try.ntmps4
  go_wp2_with fail
  refine wp_fresh ?_
  rintro w1 hb1
  have B1_0 : Blk w1 (w.heap.size) #[.int .i64 a1, .int .i64 a2, .int .i64 a3, .int .i64 a4, .int .i64 a5, .int .i64 a6] := Blk.below (by repeat (with_reducible (first | assumption | (refine Blk.at _ _ _ _ ?_; simp; done) | apply Blk.alloc | apply Blk.drew | apply Blk.drewN | apply Blk.more | (refine Blk.setCell ?_ _ _ ?_; rotate_left; focus (simp <;> omega))))) hb1
  obtain ⟨z1_0, c1_0, f1_0⟩ := id B1_0
  have B1_1 : Blk w1 (w.heap.size + 1) #[.int .i64 b1, .int .i64 b2, .int .i64 b3, .int .i64 b4, .int .i64 b5, .int .i64 b6] := Blk.below (by repeat (with_reducible (first | assumption | (refine Blk.at _ _ _ _ ?_; simp; done) | apply Blk.alloc | apply Blk.drew | apply Blk.drewN | apply Blk.more | (refine Blk.setCell ?_ _ _ ?_; rotate_left; focus (simp <;> omega))))) hb1
  obtain ⟨z1_1, c1_1, f1_1⟩ := id B1_1
  have B1_2 : Blk w1 (w.heap.size + 1 + 1) #[.int .i64 p1, .int .i64 p2, .int .i64 p3] := Blk.below (by repeat (with_reducible (first | assumption | (refine Blk.at _ _ _ _ ?_; simp; done) | apply Blk.alloc | apply Blk.drew | apply Blk.drewN | apply Blk.more | (refine Blk.setCell ?_ _ _ ?_; rotate_left; focus (simp <;> omega))))) hb1
  obtain ⟨z1_2, c1_2, f1_2⟩ := id B1_2
  refine region_grow (A := ?A) 4 [9, 10] (fun _ => #[.int .i64 0, .int .i64 0, .int .i64 0, .int .i64 0, .int .i64 0, .int .i64 0]) (by kernel_rfl) (by kernel_rfl) ?hrun ?hq ?htail
  case hq =>
    intro w0 hb0
    simp only [List.take_succ_cons, List.take_zero]
    have B0_0 : Blk w0 _ _ := B1_0.below hb0
    obtain ⟨z0_0, c0_0, f0_0⟩ := id B0_0
    have B0_1 : Blk w0 _ _ := B1_1.below hb0
    obtain ⟨z0_1, c0_1, f0_1⟩ := id B0_1
    have B0_2 : Blk w0 _ _ := B1_2.below hb0
    obtain ⟨z0_2, c0_2, f0_2⟩ := id B0_2
    repeat (go_big_quiet_step ((go_at_call 18; exact calls_after (box_c _ _ _ _ _ _ _))))
    refine wpQuiet_nil ?_
    rfl
  case hrun =>
    intro j hj
    match j, hj with
    | 0, _ => exact ⟨_, _, rfl, fun a w => by simp [go_sem]; rfl⟩
    | 1, _ => exact ⟨_, _, rfl, fun a w => by simp [go_sem]; rfl⟩
  case htail =>
    intro gs w2 hb2 hblk hne
    obtain ⟨Bg, hg⟩ := hblk 0 (by decide)
    obtain ⟨Bh, hh⟩ := hblk 1 (by decide)
    have hgh := hne 0 1 (by decide) (by decide) (by decide)
    simp only [List.drop_succ_cons, List.drop_zero, List.length_cons, List.length_nil, laySlots]
    clear hblk hne
    generalize gs 0 = g at *
    generalize gs 1 = h at *
    have B2_0 : Blk w2 _ _ := B1_0.below hb2
    have B2_1 : Blk w2 _ _ := B1_1.below hb2
    have B2_2 : Blk w2 _ _ := B1_2.below hb2
    obtain ⟨zg, cg, fg⟩ := id Bg
    obtain ⟨zh, ch, fh⟩ := id Bh
    obtain ⟨z2, c2, f2⟩ := id B2_2
    go_wp2_with fail
    have hwg : w.heap.size ≤ g := by have := hb1.size; simp only [World.size_alloc] at this; omega
    have hwh : w.heap.size ≤ h := by have := hb1.size; simp only [World.size_alloc] at this; omega
    have Bg' := ((((((((((((Bg.set 0 (.int .i64 a1) (by simp)).set 1 (.int .i64 a2) (by simp)).set 2 (.int .i64 a3) (by simp)).set 3 (.int .i64 a4) (by simp)).set 4 (.int .i64 a5) (by simp)).set 5 (.int .i64 a6) (by simp)).setCell ⟨h, 0, none⟩ (.int .i64 b1) (Ne.symm hgh)).setCell ⟨h, 1, none⟩ (.int .i64 b2) (Ne.symm hgh)).setCell ⟨h, 2, none⟩ (.int .i64 b3) (Ne.symm hgh)).setCell ⟨h, 3, none⟩ (.int .i64 b4) (Ne.symm hgh)).setCell ⟨h, 4, none⟩ (.int .i64 b5) (Ne.symm hgh)).setCell ⟨h, 5, none⟩ (.int .i64 b6) (Ne.symm hgh))
    have Bh' := ((((((((((((Bh.setCell ⟨g, 0, none⟩ (.int .i64 a1) hgh).setCell ⟨g, 1, none⟩ (.int .i64 a2) hgh).setCell ⟨g, 2, none⟩ (.int .i64 a3) hgh).setCell ⟨g, 3, none⟩ (.int .i64 a4) hgh).setCell ⟨g, 4, none⟩ (.int .i64 a5) hgh).setCell ⟨g, 5, none⟩ (.int .i64 a6) hgh).set 0 (.int .i64 b1) (by simp)).set 1 (.int .i64 b2) (by simp)).set 2 (.int .i64 b3) (by simp)).set 3 (.int .i64 b4) (by simp)).set 4 (.int .i64 b5) (by simp)).set 5 (.int .i64 b6) (by simp))
    simp only [List.setIfInBounds_toArray, List.set_cons_zero, List.set_cons_succ] at Bg' Bh'
    refine wp_fresh ?_
    rintro w3 hb3
    have B3_0 : Blk w3 (w.heap.size) #[.int .i64 a1, .int .i64 a2, .int .i64 a3, .int .i64 a4, .int .i64 a5, .int .i64 a6] := Blk.below (by repeat (with_reducible (first | assumption | (refine Blk.at _ _ _ _ ?_; simp; done) | apply Blk.alloc | apply Blk.drew | apply Blk.drewN | apply Blk.more | (refine Blk.setCell ?_ _ _ ?_; rotate_left; focus (simp <;> omega))))) hb3
    obtain ⟨z3_0, c3_0, f3_0⟩ := id B3_0
    have B3_1 : Blk w3 (w.heap.size + 1) #[.int .i64 b1, .int .i64 b2, .int .i64 b3, .int .i64 b4, .int .i64 b5, .int .i64 b6] := Blk.below (by repeat (with_reducible (first | assumption | (refine Blk.at _ _ _ _ ?_; simp; done) | apply Blk.alloc | apply Blk.drew | apply Blk.drewN | apply Blk.more | (refine Blk.setCell ?_ _ _ ?_; rotate_left; focus (simp <;> omega))))) hb3
    obtain ⟨z3_1, c3_1, f3_1⟩ := id B3_1
    have B3_2 : Blk w3 (w.heap.size + 1 + 1) #[.int .i64 p1, .int .i64 p2, .int .i64 p3] := Blk.below (by repeat (with_reducible (first | assumption | (refine Blk.at _ _ _ _ ?_; simp; done) | apply Blk.alloc | apply Blk.drew | apply Blk.drewN | apply Blk.more | (refine Blk.setCell ?_ _ _ ?_; rotate_left; focus (simp <;> omega))))) hb3
    obtain ⟨z3_2, c3_2, f3_2⟩ := id B3_2
    have B3_3 : Blk w3 (g) #[.int .i64 a1, .int .i64 a2, .int .i64 a3, .int .i64 a4, .int .i64 a5, .int .i64 a6] := Blk.below (by repeat (with_reducible (first | assumption | (refine Blk.at _ _ _ _ ?_; simp; done) | apply Blk.alloc | apply Blk.drew | apply Blk.drewN | apply Blk.more | (refine Blk.setCell ?_ _ _ ?_; rotate_left; focus (simp <;> omega))))) hb3
    obtain ⟨z3_3, c3_3, f3_3⟩ := id B3_3
    have B3_4 : Blk w3 (h) #[.int .i64 b1, .int .i64 b2, .int .i64 b3, .int .i64 b4, .int .i64 b5, .int .i64 b6] := Blk.below (by repeat (with_reducible (first | assumption | (refine Blk.at _ _ _ _ ?_; simp; done) | apply Blk.alloc | apply Blk.drew | apply Blk.drewN | apply Blk.more | (refine Blk.setCell ?_ _ _ ?_; rotate_left; focus (simp <;> omega))))) hb3
    obtain ⟨z3_4, c3_4, f3_4⟩ := id B3_4
    refine region_quiet_all (by kernel_rfl) (by kernel_rfl) ?_
    repeat (go_big_quiet_step (first | (go_at_call 19; exact calls_after (meet_c _ _ _ _ _ _ _ _ _ _ _ _ _)) | (go_at_call 20; exact calls_after (rmeet_c _ _ _ _ _ _ _ _ _ _ _ _ _)) | (go_at_call 21; exact calls_after (within_c _ _ _ _ _ _ _ _ _ _ _ _ _)) | (go_at_call 22; exact calls_after (rwithin_c _ _ _ _ _ _ _ _ _ _ _ _ _)) | (go_at_call 23; exact calls_after (both_c _ _ _ _ _ _ _ _ _ _ _ _ _)) | (go_at_call 24; exact calls_after (rboth_c _ _ _ _ _ _ _ _ _ _ _ _ _)) | (go_at_call 25; exact calls_after (fat_c _ _ _ _ _ _ _ _)) | (go_at_call 26; exact calls_after (rfat_c _ _ _ _ _ _ _ _)) | (go_at_call 27; exact calls_after (near_c _ _ _ _ _ _ _ _ _ _)) | (go_at_call 28; exact calls_after (rnear_c _ _ _ _ _ _ _ _ _ _)) | (go_at_call 18; exact calls_after (box_c _ _ _ _ _ _ _))))
    refine wpQuiet_nil ?_
    rintro _ ⟨m, rfl⟩
    go_wp2
    exact bodyPost_ret (v := .bool true) (by simp [results, Try.results4, go_sem, *]) rfl ⟨rfl, (by repeat (with_reducible (first | exact Below.refl _ _ | assumption | apply ext_drew | apply ext_drewN | apply ext_alloc | apply ext_more | (refine ext_setCell ?_ (by simp <;> omega) _) | (refine ext_below ?_ (by assumption)))))⟩

set_option maxRecDepth 100000 in
theorem geomBoxes_lifted (os : Os) (started : os.Started) (H : Type) (enc : TypeId × Value → H) :
    ReturnsInHanded {} Try.checked os 4 .any (Rows.geomBoxesSpec.pre6 enc Try.prog Try.f4 Rows.geomBoxesRow.domain false) (Rows.geomBoxesSpec.post enc Try.prog Try.f4 false true false false) := by
  refine returnsInHanded_of_change (C := Try.checked) own started (by kernel_rfl) Try.func4
    (ChangeSpec.witness6 (enc := enc) (C := Try.checked) false ⟨#[], #[.agg #[.int .i64 0, .int .i64 0, .int .i64 0, .int .i64 0, .int .i64 0, .int .i64 0], .agg #[.int .i64 0, .int .i64 0, .int .i64 0, .int .i64 0, .int .i64 0, .int .i64 0], .agg #[.int .i64 0, .int .i64 0, .int .i64 0], .int .i64 0], []⟩ 8 (by kernel_rfl) (by kernel_rfl) (by kernel_rfl) (by kernel_rfl)) ?_
  intro W base args ds gs before hval0 hW hcnd _
  have hval : ∀ (j : Nat) t v, Try.f4.params[j]? = some t → args[j]? = some v → Value.okWide Try.prog W .any base t v := hval0
  obtain ⟨p, q, hA0, _⟩ := id hW
  have hsz := (trodAll_length _ _ _ _ hA0).1
  obtain ⟨v0, v1, v2, v3, rfl⟩ : ∃ v0 v1 v2 v3, args = #[v0, v1, v2, v3] := by
    rcases args with ⟨_ | ⟨v0, _ | ⟨v1, _ | ⟨v2, _ | ⟨v3, _ | ⟨v4, l⟩⟩⟩⟩⟩⟩ <;> first | exact ⟨v0, v1, v2, v3, rfl⟩ | (simp [Try.params4] at hsz)
  obtain ⟨l0, e0, rfl, b0⟩ := agg_of_ok 6 Try.underlying3 Try.underlying39 (by kernel_rfl) (by kernel_rfl) (hval 0 39 v0 (by rw [Try.params4]; rfl) rfl)
  obtain ⟨a0_0, a0_1, a0_2, a0_3, a0_4, a0_5, rfl⟩ := list6 l0 e0
  obtain ⟨l1, e1, rfl, b1⟩ := agg_of_ok 6 Try.underlying3 Try.underlying39 (by kernel_rfl) (by kernel_rfl) (hval 1 39 v1 (by rw [Try.params4]; rfl) rfl)
  obtain ⟨a1_0, a1_1, a1_2, a1_3, a1_4, a1_5, rfl⟩ := list6 l1 e1
  obtain ⟨l2, e2, rfl, b2⟩ := agg_of_ok 3 Try.underlying3 Try.underlying23 (by kernel_rfl) (by kernel_rfl) (hval 2 23 v2 (by rw [Try.params4]; rfl) rfl)
  obtain ⟨a2_0, a2_1, a2_2, rfl⟩ := list3 l2 e2
  obtain ⟨a3, rfl, b3⟩ := int_of_okv Try.underlying3 (hval 3 3 v3 (by rw [Try.params4]; rfl) rfl)
  refine (geomBoxes_w a0_0 a0_1 a0_2 a0_3 a0_4 a0_5 a1_0 a1_1 a1_2 a1_3 a1_4 a1_5 a2_0 a2_1 a2_2 a3 W).mono fun e W' ⟨he, hb⟩ => ⟨_, he, ?_⟩
  exact law_post laid (by kernel_rfl) (by kernel_rfl) Try.underlying4 rfl (fun ds h => by match ds, h with | [d0, d1, d2, d3], _ => rfl) hW hb

theorem geomBoxes_over : Rows.geomBoxesRow.holds Try.pinned (OpenSpec.ofChange Rows.geomBoxesSpec) :=
  OpenClaim.holds_of_wide 4 Try.f4 rfl rfl rfl rfl rfl rfl rfl ⟨rfl, rfl, rfl, rfl, rfl⟩ rfl rfl rfl rfl rfl (by kernel_rfl) Try.func4 (by kernel_rfl)
    (of_decide_eq_true (by kernel_rfl)) (by unfold Func.isWrapper; first | (rw [if_pos (by decide +kernel)]; kernel_rfl) | (rw [if_neg (by decide +kernel)]; exact ⟨rfl, rfl⟩))
    (fun os started H enc _ => geomBoxes_lifted os started H enc)

theorem geomBoxes_holds : Rows.GeomBoxesSaid := geomBoxes_over
#print axioms geomBoxes_holds
end Go.Proofs.Ytfagkbmphohelaa
