/- Proved: Rows.FxVectorsSaid: what is done with vectors is the document's. Conditions: none. -/
import Derived.Test.YtfagkbmphohelaaVec3
import Derived.Test.YtfagkbmphohelaaLift
namespace Go.Proofs.Ytfagkbmphohelaa
open Go.ChangeShapes Go.WideShapes Go.ChangeAt Go.RowKit Go.BigFrame

set_option maxHeartbeats 1000000 in
theorem fxVectors_w (a1 a2 a3 b1 b2 b3 k : Int) (hk : k ≤ 9223372036854775807) (w : World) :
    Calls Try.prog 9 #[.agg #[.int .i64 a1, .int .i64 a2, .int .i64 a3], .agg #[.int .i64 b1, .int .i64 b2, .int .i64 b3], .int .i64 k] w fun e w' => e = .returned (.bool true) ∧ Below w.heap.size w w' := by
  have hmc := more_cell
  have hmf := more_frozen
  have hml := more_lt
  go_enter Try.func9, Try.ntmps9
  go_wp2
  refine region_quiet_but 57 (by kernel_rfl) (by kernel_rfl) ?_
  simp only [List.take_succ_cons, List.take_zero, List.drop_succ_cons, List.drop_zero]
  repeat (go_big_quiet_step (first | (go_at_call 58; exact calls_after (plus_c _ _ _ _ _ _ _)) | (go_at_call 59; exact calls_after (rplus_c _ _ _ _ _ _ _)) | (go_at_call 60; exact calls_after (minus_c _ _ _ _ _ _ _)) | (go_at_call 61; exact calls_after (rminus_c _ _ _ _ _ _ _)) | (go_at_call 62; exact calls_after (times_c _ _ _ _ _)) | (go_at_call 63; exact calls_after (rtimes_c _ _ _ _ _)) | (go_at_call 64; exact calls_after (dot_c _ _ _ _ _ _ _)) | (go_at_call 65; exact calls_after (rdot_c _ _ _ _ _ _ _)) | (go_at_call 66; exact calls_after (long_c _ _ _ _)) | (go_at_call 67; exact calls_after (rlong_c _ _ _ _)) | (go_at_call 68; exact calls_after (unit_c _ _ _ _)) | (go_at_call 69; exact calls_after (runit_c _ _ _ _)) | (go_at_call 70; exact calls_after (clamp_c _ _ _ _ hk _)) | (go_at_call 71; exact calls_after (rclamp_c _ _ _ _ hk _))))
  refine wpQuiet_nil ?_
  rintro _ ⟨m, rfl⟩
  go_wp2
  go_ret
  exact ⟨rfl, (by repeat (first | exact Below.refl _ _ | assumption | apply ext_drew | (refine ext_below ?_ (by assumption)) | apply ext_drewN | apply ext_alloc | apply ext_more | (refine ext_setCell ?_ (by simp <;> omega) _)))⟩

set_option maxRecDepth 100000 in
theorem fxVectors_lifted (os : Os) (started : os.Started) (H : Type) (enc : TypeId × Value → H) :
    ReturnsInHanded {} Try.checked os 9 .any (Rows.fxVectorsSpec.pre6 enc Try.prog Try.f9 Rows.fxVectorsRow.domain false) (Rows.fxVectorsSpec.post enc Try.prog Try.f9 false true false false) := by
  refine returnsInHanded_of_change (C := Try.checked) own started (by kernel_rfl) Try.func9
    (ChangeSpec.witness6 (enc := enc) (C := Try.checked) false ⟨#[], #[.agg #[.int .i64 0, .int .i64 0, .int .i64 0], .agg #[.int .i64 0, .int .i64 0, .int .i64 0], .int .i64 0], []⟩ 8 (by kernel_rfl) (by kernel_rfl) (by kernel_rfl) (by kernel_rfl)) ?_
  intro W base args ds gs before hval0 hW hcnd _
  have hval : ∀ (j : Nat) t v, Try.f9.params[j]? = some t → args[j]? = some v → Value.okWide Try.prog W .any base t v := hval0
  obtain ⟨p, q, hA0, _⟩ := id hW
  have hsz := (trodAll_length _ _ _ _ hA0).1
  obtain ⟨v0, v1, v2, rfl⟩ : ∃ v0 v1 v2, args = #[v0, v1, v2] := by
    rcases args with ⟨_ | ⟨v0, _ | ⟨v1, _ | ⟨v2, _ | ⟨v3, l⟩⟩⟩⟩⟩ <;> first | exact ⟨v0, v1, v2, rfl⟩ | (simp [Try.params9] at hsz)
  obtain ⟨l0, e0, rfl, b0⟩ := agg_of_ok 3 Try.underlying3 Try.underlying23 (by kernel_rfl) (by kernel_rfl) (hval 0 23 v0 (by rw [Try.params9]; rfl) rfl)
  obtain ⟨a0_0, a0_1, a0_2, rfl⟩ := list3 l0 e0
  obtain ⟨l1, e1, rfl, b1⟩ := agg_of_ok 3 Try.underlying3 Try.underlying23 (by kernel_rfl) (by kernel_rfl) (hval 1 23 v1 (by rw [Try.params9]; rfl) rfl)
  obtain ⟨a1_0, a1_1, a1_2, rfl⟩ := list3 l1 e1
  obtain ⟨a2, rfl, b2⟩ := int_of_okv Try.underlying3 (hval 2 3 v2 (by rw [Try.params9]; rfl) rfl)
  refine (fxVectors_w a0_0 a0_1 a0_2 a1_0 a1_1 a1_2 a2 b2.2 W).mono fun e W' ⟨he, hb⟩ => ⟨_, he, ?_⟩
  exact law_post laid (by kernel_rfl) (by kernel_rfl) Try.underlying4 rfl (fun ds h => by match ds, h with | [d0, d1, d2], _ => rfl) hW hb

theorem fxVectors_over : Rows.fxVectorsRow.holds Try.pinned (OpenSpec.ofChange Rows.fxVectorsSpec) :=
  OpenClaim.holds_of_wide 9 Try.f9 rfl rfl rfl rfl rfl rfl rfl ⟨rfl, rfl, rfl, rfl, rfl⟩ rfl rfl rfl rfl rfl (by kernel_rfl) Try.func9 (by kernel_rfl)
    (of_decide_eq_true (by kernel_rfl)) (by unfold Func.isWrapper; first | (rw [if_pos (by decide +kernel)]; kernel_rfl) | (rw [if_neg (by decide +kernel)]; exact ⟨rfl, rfl⟩))
    (fun os started H enc _ => fxVectors_lifted os started H enc)

theorem fxVectors_holds : Rows.FxVectorsSaid := fxVectors_over
#print axioms fxVectors_holds
end Go.Proofs.Ytfagkbmphohelaa
