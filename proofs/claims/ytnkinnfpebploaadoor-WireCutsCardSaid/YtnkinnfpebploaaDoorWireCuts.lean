/- Proved: Rows.WireCutsCardSaid. Conditions: none. -/
import Derived.Test.YtnkinnfpebploaaDoorWcuts
import Derived.Test.YtnkinnfpebploaaDoorLaid
import Derived.Test.YtnkinnfpebploaaDoorOpen
import Derived.Test.YtnkinnfpebploaaDoorOpenB
import Derived.Test.YtnkinnfpebploaaDoorOpenC
namespace Go.Proofs.YtnkinnfpebploaaDoor
open Go.ChangeShapes Go.WideShapes Go.ChangeAt Go.RowKit
set_option maxRecDepth 100000 in
theorem wireCuts_lifted (os : Os) (started : os.Started) (H : Type) (enc : TypeId × Value → H) :
    ReturnsInHanded {} Tryd.checked os 3 .any (fun w args => (Rows.wireCutsSpec.pre enc Tryd.prog Tryd.f3 [] false w args ∧ laidMetH Tryd.prog [("errors.errorType", Rows.laid_errors_errorType)] w) ∧ sizedMet enc Tryd.prog Tryd.f3 (OpenSpec.ofChange Rows.wireCutsSpec) false w args)
      (Rows.wireCutsSpec.post enc Tryd.prog Tryd.f3 false true false false) := by
  refine returnsInHanded_of_change_and (C := Tryd.checked) (X := fun w _ => laidMetH Tryd.prog [("errors.errorType", Rows.laid_errors_errorType)] w) (fun _ _ _ hh h => h.of_heap hh) own started (by kernel_rfl) Tryd.func3
    (ChangeSpec.witness_at (enc := enc) (C := Tryd.checked) (os := os) (X := fun w _ => laidMetH Tryd.prog [("errors.errorType", Rows.laid_errors_errorType)] w) false (laidWorld os) #[.int .i64 0, .int .i64 0, .slice none 0 0, .int .i64 0] 8 rfl (by kernel_rfl) (by kernel_rfl) (by kernel_rfl) (by kernel_rfl) (by kernel_rfl) (laidWorld_met os _)) ?_
  intro W base args ds gs before hval0 hW _ _ hL _
  have hval : ∀ (j : Nat) t v, Tryd.f3.params[j]? = some t → args[j]? = some v → Value.okWide Tryd.prog W .any base t v := hval0
  have hH := handle_of_laid hL
  obtain ⟨p, q, hA0, _⟩ := id hW
  have hsz := (trodAll_length _ _ _ _ hA0).1
  obtain ⟨v0, v1, v2, v3, rfl⟩ : ∃ v0 v1 v2 v3, args = #[v0, v1, v2, v3] := by
    rcases args with ⟨_ | ⟨v0, _ | ⟨v1, _ | ⟨v2, _ | ⟨v3, _ | ⟨v4, l⟩⟩⟩⟩⟩⟩ <;> first | exact ⟨v0, v1, v2, v3, rfl⟩ | (simp [Tryd.params3] at hsz)
  obtain ⟨a0, rfl, b0⟩ := int_of_okv Tryd.underlying3 (hval 0 3 v0 (by rw [Tryd.params3]; rfl) rfl)
  obtain ⟨a1, rfl, b1⟩ := int_of_okv Tryd.underlying3 (hval 1 3 v1 (by rw [Tryd.params3]; rfl) rfl)
  obtain ⟨d2, p2, t2⟩ := trodAll_at _ _ _ _ hA0 2 22 v2 (by rw [Tryd.params3]; rfl) rfl
  obtain ⟨l2, hB2, h82, hl2⟩ := open_bytes Tryd.underlying22 Tryd.underlying5 (by kernel_rfl) (slice_of_okv Tryd.underlying22 (hval 2 22 v2 (by rw [Tryd.params3]; rfl) rfl)) t2
  obtain ⟨a3, rfl, b3⟩ := int_of_okv Tryd.underlying3 (hval 3 3 v3 (by rw [Tryd.params3]; rfl) rfl)
  refine (wireCuts_w a0 a1 v2 l2 a3 W hH hB2 h82 hl2 (trod_cap Tryd.underlying22 t2)).mono fun e W' ⟨he, hb⟩ => ⟨_, he, ?_⟩
  exact law_post laid (by kernel_rfl) (by kernel_rfl) Tryd.underlying4 rfl (fun ds h => by match ds, h with | [d0, d1, d2, d3], _ => rfl) hW hb

theorem wireCuts_over : Rows.wireCutsRow.holds Tryd.pinned (OpenSpec.ofChange Rows.wireCutsSpec) :=
  OpenClaim.holds_of_wide 3 Tryd.f3 rfl rfl rfl rfl rfl rfl rfl ⟨rfl, rfl, rfl, rfl, rfl⟩ rfl rfl rfl rfl rfl (by kernel_rfl) Tryd.func3 (by kernel_rfl)
    (of_decide_eq_true (by kernel_rfl)) (by unfold Func.isWrapper; first | (rw [if_pos (by decide +kernel)]; kernel_rfl) | (rw [if_neg (by decide +kernel)]; exact ⟨rfl, rfl⟩))
    (fun os started H enc _ => wireCuts_lifted os started H enc)
theorem wireCuts_stand : ∀ t ∈ Tryd.f3.params.toList, Tryd.prog.wantsStandIn t = false := by
  rw [Tryd.params3]
  intro t ht
  simp only [List.mem_cons, List.mem_nil_iff, or_false] at ht
  rcases ht with rfl | rfl | rfl | rfl <;> kernel_rfl
theorem wireCuts_card : Rows.WireCutsCardSaid :=
  Claim7.holds_tied_plain_at .later [] [.handle] true Rows.wireCutsCard.stood.harness true
    wireCuts_over (fun _ h => by cases h) (by kernel_rfl) (fun _ h => by cases h) wireCuts_row_tie rfl ⟨rfl, rfl⟩ (by kernel_rfl) rfl
    (fun f fn hf hfn => by
      obtain rfl : f = 3 := Option.some.inj ((show Tryd.prog.funcNamed "gyre/gyrelaw.WireCuts" = some 3 by kernel_rfl).symm.trans hf) |>.symm
      obtain rfl : fn = Tryd.f3 := (Option.some.inj (Tryd.func3.symm.trans hfn)).symm
      exact ⟨by kernel_rfl, fun j t ht => wireCuts_stand t (List.mem_of_getElem? (by simpa using ht))⟩)
    (by kernel_rfl)
#print axioms wireCuts_card
end Go.Proofs.YtnkinnfpebploaaDoor
