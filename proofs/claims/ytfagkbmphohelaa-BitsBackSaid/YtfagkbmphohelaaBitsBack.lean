/- Proved: Rows.BitsBackSaid: what was written is read again, number by number; what is left is less than a byte. Conditions: none. -/
import Derived.Test.YtfagkbmphohelaaBits5
namespace Go.Proofs.Ytfagkbmphohelaa
open Go.ChangeShapes Go.WideShapes Go.ChangeAt Go.RowKit
set_option maxRecDepth 100000 in
theorem bitsBack_lifted (os : Os) (started : os.Started) (H : Type) (enc : TypeId × Value → H) :
    ReturnsInHanded {} Try.checked os 6 .any (Rows.bitsBackSpec.pre6 enc Try.prog Try.f6 Rows.bitsBackRow.domain false) (Rows.bitsBackSpec.post enc Try.prog Try.f6 false true false false) := by
  refine returnsInHanded_of_change (C := Try.checked) own started (by kernel_rfl) Try.func6
    (ChangeSpec.witness6 (enc := enc) (C := Try.checked) false ⟨#[], #[.slice none 0 0], []⟩ 8 (by kernel_rfl) (by kernel_rfl) (by kernel_rfl) (by kernel_rfl)) ?_
  intro W base args ds gs before hval0 hW hcnd _
  have hval : ∀ (j : Nat) t v, Try.f6.params[j]? = some t → args[j]? = some v → Value.okWide Try.prog W .any base t v := hval0
  obtain ⟨p, q, hA0, _⟩ := id hW
  have hsz := (trodAll_length _ _ _ _ hA0).1
  obtain ⟨v0, rfl⟩ : ∃ v0, args = #[v0] := by
    rcases args with ⟨_ | ⟨v0, _ | ⟨v1, l⟩⟩⟩ <;> first | exact ⟨v0, rfl⟩ | (simp [Try.params6] at hsz)
  obtain ⟨d0, p0, t0⟩ := trodAll_at _ _ _ _ hA0 0 55 v0 (by rw [Try.params6]; rfl) rfl
  obtain ⟨A0, n0, c0, M0, rfl, hn0, hR0, hM0⟩ := open_rows 8 3 Try.underlying55 (by kernel_rfl) (by kernel_rfl) (by decide) (slice_of_okv Try.underlying55 (hval 0 55 v0 (by rw [Try.params6]; rfl) rfl)) t0
  refine (bitsBack_w A0 n0 c0 M0 W hn0 hR0 hM0).mono fun e W' ⟨he, hb⟩ => ⟨_, he, ?_⟩
  exact law_post laid (by kernel_rfl) (by kernel_rfl) Try.underlying4 rfl (fun ds h => by match ds, h with | [d0], _ => rfl) hW hb

theorem bitsBack_over : Rows.bitsBackRow.holds Try.pinned (OpenSpec.ofChange Rows.bitsBackSpec) :=
  OpenClaim.holds_of_wide 6 Try.f6 rfl rfl rfl rfl rfl rfl rfl ⟨rfl, rfl, rfl, rfl, rfl⟩ rfl rfl rfl rfl rfl (by kernel_rfl) Try.func6 (by kernel_rfl)
    (of_decide_eq_true (by kernel_rfl)) (by unfold Func.isWrapper; first | (rw [if_pos (by decide +kernel)]; kernel_rfl) | (rw [if_neg (by decide +kernel)]; exact ⟨rfl, rfl⟩))
    (fun os started H enc _ => bitsBack_lifted os started H enc)

theorem bitsBack_holds : Rows.BitsBackSaid := bitsBack_over
#print axioms bitsBack_holds
end Go.Proofs.Ytfagkbmphohelaa
