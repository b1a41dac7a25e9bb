/- Proved: Rows.BroadOrderSaid: which boxes meet hangs on the boxes alone. Conditions: none. -/
import Derived.Test.YtefhmbmbhiehdaaKBord
import Derived.Test.YtefhmbmbhiehdaaKLift
import Derived.Test.YtefhmbmbhiehdaaKOpen
namespace Go.Proofs.Ytefhmbmbhiehdaa
open Go.ChangeShapes Go.WideShapes Go.ChangeAt Go.RowKit Go.BigFrame
set_option maxRecDepth 100000 in
theorem broadOrder_lifted (os : Os) (started : os.Started) (H : Type) (enc : TypeId × Value → H) :
    ReturnsInHanded {} Try.checked os 5 .any (Rows.broadOrderSpec.pre6 enc Try.prog Try.f5 Rows.broadOrderRow.domain false) (Rows.broadOrderSpec.post enc Try.prog Try.f5 false true false false) := by
  refine returnsInHanded_of_change (C := Try.checked) own started (by kernel_rfl) Try.func5
    (ChangeSpec.witness6 (enc := enc) (C := Try.checked) false ⟨#[], #[.slice none 0 0, .int .i64 0, .int .i64 0], []⟩ 8 (by kernel_rfl) (by kernel_rfl) (by kernel_rfl) (by kernel_rfl)) ?_
  intro W base args ds gs before hval0 hW hcnd _
  have hval : ∀ (j : Nat) t v, Try.f5.params[j]? = some t → args[j]? = some v → Value.okWide Try.prog W .any base t v := hval0
  obtain ⟨p, q, hA0, _⟩ := id hW
  have hsz := (trodAll_length _ _ _ _ hA0).1
  obtain ⟨v0, v1, v2, rfl⟩ : ∃ v0 v1 v2, args = #[v0, v1, v2] := by
    rcases args with ⟨_ | ⟨v0, _ | ⟨v1, _ | ⟨v2, _ | ⟨v3, l⟩⟩⟩⟩⟩ <;> first | exact ⟨v0, v1, v2, rfl⟩ | (simp [Try.params5] at hsz)
  obtain ⟨d0, p0, t0⟩ := trodAll_at _ _ _ _ hA0 0 75 v0 (by rw [Try.params5]; rfl) rfl
  obtain ⟨A0, n0, c0, M0, rfl, hn0, hR0, hM0⟩ := open_rows 8 6 Try.underlying75 (by kernel_rfl) (by kernel_rfl) (by decide) (slice_of_okv Try.underlying75 (hval 0 75 v0 (by rw [Try.params5]; rfl) rfl)) t0
  obtain ⟨a1, rfl, b1⟩ := int_of_okv Try.underlying3 (hval 1 3 v1 (by rw [Try.params5]; rfl) rfl)
  obtain ⟨a2, rfl, b2⟩ := int_of_okv Try.underlying3 (hval 2 3 v2 (by rw [Try.params5]; rfl) rfl)
  refine (broadOrder_w A0 n0 c0 M0 a1 a2 W hn0 hR0 hM0).mono fun e W' ⟨he, hb⟩ => ⟨_, he, ?_⟩
  exact law_post laid (by kernel_rfl) (by kernel_rfl) Try.underlying4 rfl (fun ds h => by match ds, h with | [d0, d1, d2], _ => rfl) hW hb

theorem broadOrder_over : Rows.broadOrderRow.holds Try.pinned (OpenSpec.ofChange Rows.broadOrderSpec) :=
  OpenClaim.holds_of_wide 5 Try.f5 rfl rfl rfl rfl rfl rfl rfl ⟨rfl, rfl, rfl, rfl, rfl⟩ rfl rfl rfl rfl rfl (by kernel_rfl) Try.func5 (by kernel_rfl)
    (of_decide_eq_true (by kernel_rfl)) (by unfold Func.isWrapper; first | (rw [if_pos (by decide +kernel)]; kernel_rfl) | (rw [if_neg (by decide +kernel)]; exact ⟨rfl, rfl⟩))
    (fun os started H enc _ => broadOrder_lifted os started H enc)

theorem broadOrder_holds : Rows.BroadOrderSaid := broadOrder_over
#print axioms broadOrder_holds
end Go.Proofs.Ytefhmbmbhiehdaa
