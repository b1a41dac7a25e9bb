/- Proved: Rows.WireBackSaid. Conditions: none. -/
import Derived.Test.YtnkinnfpebploaaWback
import Derived.Test.YtnkinnfpebploaaOpenC
namespace Go.Proofs.Ytnkinnfpebploaa
open Go.ChangeShapes Go.WideShapes Go.ChangeAt Go.RowKit
set_option maxRecDepth 100000 in
theorem wireBack_lifted (os : Os) (started : os.Started) (H : Type) (enc : TypeId × Value → H) :
    ReturnsInHanded {} Try.checked os 3 .any (Rows.wireBackSpec.pre6 enc Try.prog Try.f3 Rows.wireBackRow.domain false) (Rows.wireBackSpec.post enc Try.prog Try.f3 false true false false) := by
  refine returnsInHanded_of_change (C := Try.checked) own started (by kernel_rfl) Try.func3
    (ChangeSpec.witness6 (enc := enc) (C := Try.checked) false ⟨#[], #[.agg #[.int .i64 0, .int .i64 0, .int .i64 0, .int .i64 0, .int .i64 0, .int .i64 0, .int .i64 0, .int .i64 0], .int .i64 0, .int .i64 0, .slice none 0 0], []⟩ 8 (by kernel_rfl) (by kernel_rfl) (by kernel_rfl) (by kernel_rfl)) ?_
  intro W base args ds gs before hval0 hW hcnd _
  have hval : ∀ (j : Nat) t v, Try.f3.params[j]? = some t → args[j]? = some v → Value.okWide Try.prog W .any base t v := hval0
  obtain ⟨p, q, hA0, _⟩ := id hW
  have hsz := (trodAll_length _ _ _ _ hA0).1
  obtain ⟨v0, v1, v2, v3, rfl⟩ : ∃ v0 v1 v2 v3, args = #[v0, v1, v2, v3] := by
    rcases args with ⟨_ | ⟨v0, _ | ⟨v1, _ | ⟨v2, _ | ⟨v3, _ | ⟨v4, l⟩⟩⟩⟩⟩⟩ <;> first | exact ⟨v0, v1, v2, v3, rfl⟩ | (simp [Try.params3] at hsz)
  obtain ⟨l0, e0, rfl, b0⟩ := agg_of_ok 8 Try.underlying3 Try.underlying25 (by kernel_rfl) (by kernel_rfl) (hval 0 25 v0 (by rw [Try.params3]; rfl) rfl)
  obtain ⟨a0_0, a0_1, a0_2, a0_3, a0_4, a0_5, a0_6, a0_7, rfl⟩ := list8 l0 e0
  obtain ⟨a1, rfl, b1⟩ := int_of_okv Try.underlying3 (hval 1 3 v1 (by rw [Try.params3]; rfl) rfl)
  obtain ⟨a2, rfl, b2⟩ := int_of_okv Try.underlying3 (hval 2 3 v2 (by rw [Try.params3]; rfl) rfl)
  obtain ⟨d3, p3, t3⟩ := trodAll_at _ _ _ _ hA0 3 26 v3 (by rw [Try.params3]; rfl) rfl
  obtain ⟨l3, hB3, h83, hl3⟩ := open_bytes Try.underlying26 Try.underlying5 (by kernel_rfl) (slice_of_okv Try.underlying26 (hval 3 26 v3 (by rw [Try.params3]; rfl) rfl)) t3
  refine (wireBack_w a0_0 a0_1 a0_2 a0_3 a0_4 a0_5 a0_6 a0_7 a1 a2 v3 l3 W hB3 h83 hl3 (trod_cap Try.underlying26 t3)).mono fun e W' ⟨he, hb⟩ => ⟨_, he, ?_⟩
  exact law_post laid (by kernel_rfl) (by kernel_rfl) Try.underlying4 rfl (fun ds h => by match ds, h with | [d0, d1, d2, d3], _ => rfl) hW hb

theorem wireBack_over : Rows.wireBackRow.holds Try.pinned (OpenSpec.ofChange Rows.wireBackSpec) :=
  OpenClaim.holds_of_wide 3 Try.f3 rfl rfl rfl rfl rfl rfl rfl ⟨rfl, rfl, rfl, rfl, rfl⟩ rfl rfl rfl rfl rfl (by kernel_rfl) Try.func3 (by kernel_rfl)
    (of_decide_eq_true (by kernel_rfl)) (by unfold Func.isWrapper; first | (rw [if_pos (by decide +kernel)]; kernel_rfl) | (rw [if_neg (by decide +kernel)]; exact ⟨rfl, rfl⟩))
    (fun os started H enc _ => wireBack_lifted os started H enc)

theorem wireBack_holds : Rows.WireBackSaid := wireBack_over
#print axioms wireBack_holds
end Go.Proofs.Ytnkinnfpebploaa
