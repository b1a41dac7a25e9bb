/- Proved: Rows.GeomShapesSaid: which shapes may be, and the box around one, is the document's. Conditions: none. -/
import Derived.Test.YtfagkbmphohelaaGeom2
import Derived.Test.YtfagkbmphohelaaLift
namespace Go.Proofs.Ytfagkbmphohelaa
open Go.ChangeShapes Go.WideShapes Go.ChangeAt Go.RowKit Go.BigFrame

set_option maxHeartbeats 1000000 in
theorem geomShapes_w (k x y z a1 a2 a3 : Int) (w : World) :
    Calls Try.prog 5 #[.agg #[.int .i64 k, .int .i64 x, .int .i64 y, .int .i64 z], .agg #[.int .i64 a1, .int .i64 a2, .int .i64 a3]] w fun e w' => e = .returned (.bool true) ∧ Below w.heap.size w w' := by
  have hmc := more_cell
  have hmf := more_frozen
  have hml := more_lt
  go_enter Try.func5, Try.ntmps5
  go_wp2
  refine region_quiet_but 15 (by kernel_rfl) (by kernel_rfl) ?_
  simp only [List.take_succ_cons, List.take_zero, List.drop_succ_cons, List.drop_zero]
  repeat (go_big_quiet_step (first | (go_at_call 29; exact calls_after (right_c _ _ _ _ _)) | (go_at_call 30; exact calls_after (rright_c _ _ _ _ _)) | (go_at_call 31; exact calls_after (around_c _ _ _ _ _ _ _ _)) | (go_at_call 32; exact calls_after (raround_c _ _ _ _ _ _ _ _)) | (go_at_call 18; exact calls_after (box_c _ _ _ _ _ _ _))))
  refine wpQuiet_nil ?_
  rintro _ ⟨m, rfl⟩
  go_wp2
  go_ret
  exact ⟨rfl, (by repeat (with_reducible (first | exact Below.refl _ _ | assumption | apply ext_drew | apply ext_drewN | apply ext_alloc | apply ext_more | (refine ext_setCell ?_ (by simp <;> omega) _) | (refine ext_below ?_ (by assumption)))))⟩

set_option maxRecDepth 100000 in
theorem geomShapes_lifted (os : Os) (started : os.Started) (H : Type) (enc : TypeId × Value → H) :
    ReturnsInHanded {} Try.checked os 5 .any (Rows.geomShapesSpec.pre6 enc Try.prog Try.f5 Rows.geomShapesRow.domain false) (Rows.geomShapesSpec.post enc Try.prog Try.f5 false true false false) := by
  refine returnsInHanded_of_change (C := Try.checked) own started (by kernel_rfl) Try.func5
    (ChangeSpec.witness6 (enc := enc) (C := Try.checked) false ⟨#[], #[.agg #[.int .i64 0, .int .i64 0, .int .i64 0, .int .i64 0], .agg #[.int .i64 0, .int .i64 0, .int .i64 0]], []⟩ 8 (by kernel_rfl) (by kernel_rfl) (by kernel_rfl) (by kernel_rfl)) ?_
  intro W base args ds gs before hval0 hW hcnd _
  have hval : ∀ (j : Nat) t v, Try.f5.params[j]? = some t → args[j]? = some v → Value.okWide Try.prog W .any base t v := hval0
  obtain ⟨p, q, hA0, _⟩ := id hW
  have hsz := (trodAll_length _ _ _ _ hA0).1
  obtain ⟨v0, v1, rfl⟩ : ∃ v0 v1, args = #[v0, v1] := by
    rcases args with ⟨_ | ⟨v0, _ | ⟨v1, _ | ⟨v2, l⟩⟩⟩⟩ <;> first | exact ⟨v0, v1, rfl⟩ | (simp [Try.params5] at hsz)
  obtain ⟨l0, e0, rfl, b0⟩ := agg_of_ok 4 Try.underlying3 Try.underlying25 (by kernel_rfl) (by kernel_rfl) (hval 0 25 v0 (by rw [Try.params5]; rfl) rfl)
  obtain ⟨a0_0, a0_1, a0_2, a0_3, rfl⟩ := list4 l0 e0
  obtain ⟨l1, e1, rfl, b1⟩ := agg_of_ok 3 Try.underlying3 Try.underlying23 (by kernel_rfl) (by kernel_rfl) (hval 1 23 v1 (by rw [Try.params5]; rfl) rfl)
  obtain ⟨a1_0, a1_1, a1_2, rfl⟩ := list3 l1 e1
  refine (geomShapes_w a0_0 a0_1 a0_2 a0_3 a1_0 a1_1 a1_2 W).mono fun e W' ⟨he, hb⟩ => ⟨_, he, ?_⟩
  exact law_post laid (by kernel_rfl) (by kernel_rfl) Try.underlying4 rfl (fun ds h => by match ds, h with | [d0, d1], _ => rfl) hW hb

theorem geomShapes_over : Rows.geomShapesRow.holds Try.pinned (OpenSpec.ofChange Rows.geomShapesSpec) :=
  OpenClaim.holds_of_wide 5 Try.f5 rfl rfl rfl rfl rfl rfl rfl ⟨rfl, rfl, rfl, rfl, rfl⟩ rfl rfl rfl rfl rfl (by kernel_rfl) Try.func5 (by kernel_rfl)
    (of_decide_eq_true (by kernel_rfl)) (by unfold Func.isWrapper; first | (rw [if_pos (by decide +kernel)]; kernel_rfl) | (rw [if_neg (by decide +kernel)]; exact ⟨rfl, rfl⟩))
    (fun os started H enc _ => geomShapes_lifted os started H enc)

theorem geomShapes_holds : Rows.GeomShapesSaid := geomShapes_over
#print axioms geomShapes_holds
end Go.Proofs.Ytfagkbmphohelaa
