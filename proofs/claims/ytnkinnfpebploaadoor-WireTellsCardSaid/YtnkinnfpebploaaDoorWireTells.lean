/- Proved: Rows.WireTellsCardSaid. Conditions: none. -/
import Derived.Test.YtnkinnfpebploaaDoorWtells
import Derived.Test.YtnkinnfpebploaaDoorLaid
import Derived.Test.YtnkinnfpebploaaDoorOpen
import Derived.Test.YtnkinnfpebploaaDoorOpenP
namespace Go.Proofs.YtnkinnfpebploaaDoor
open Go.ChangeShapes Go.WideShapes Go.ChangeAt Go.RowKit
set_option maxRecDepth 100000 in
theorem wireTells_lifted (os : Os) (started : os.Started) (H : Type) (enc : TypeId × Value → H) :
    ReturnsInHanded {} Tryd.checked os 8 .any (fun w args => (Rows.wireTellsSpec.pre enc Tryd.prog Tryd.f8 [] false w args ∧ laidMetH Tryd.prog [("errors.errorType", Rows.laid_errors_errorType)] w) ∧ sizedMet enc Tryd.prog Tryd.f8 (OpenSpec.ofChange Rows.wireTellsSpec) false w args)
      (Rows.wireTellsSpec.post enc Tryd.prog Tryd.f8 false true false false) := by
  refine returnsInHanded_of_change_and (C := Tryd.checked) (X := fun w _ => laidMetH Tryd.prog [("errors.errorType", Rows.laid_errors_errorType)] w) (fun _ _ _ hh h => h.of_heap hh) own started (by kernel_rfl) Tryd.func8
    (ChangeSpec.witness_at (enc := enc) (C := Tryd.checked) (os := os) (X := fun w _ => laidMetH Tryd.prog [("errors.errorType", Rows.laid_errors_errorType)] w) false (laidWorld os) #[.agg #[.int .i64 0, .int .i64 0, .int .i64 0, .int .i64 0, .slice none 0 0]] 8 rfl (by kernel_rfl) (by kernel_rfl) (by kernel_rfl) (by kernel_rfl) (by kernel_rfl) (laidWorld_met os _)) ?_
  intro W base args ds gs before hval0 hW _ _ hL _
  have hval : ∀ (j : Nat) t v, Tryd.f8.params[j]? = some t → args[j]? = some v → Value.okWide Tryd.prog W .any base t v := hval0
  have hH := handle_of_laid hL
  obtain ⟨p, q, hA0, _⟩ := id hW
  have hsz := (trodAll_length _ _ _ _ hA0).1
  obtain ⟨v0, rfl⟩ : ∃ v0, args = #[v0] := by
    rcases args with ⟨_ | ⟨v0, _ | ⟨v1, l⟩⟩⟩ <;> first | exact ⟨v0, rfl⟩ | (simp [Tryd.params8] at hsz)
  obtain ⟨d0, p0, t0⟩ := trodAll_at _ _ _ _ hA0 0 36 v0 (by rw [Tryd.params8]; rfl) rfl
  obtain ⟨xs0, A0, N0, c0, l0, e0, n0, b0, hS0, hN0, h80, hl0⟩ := open_agg_bytes 4 Tryd.underlying3 Tryd.underlying22 Tryd.underlying5 (by kernel_rfl) (by kernel_rfl) Tryd.underlying36 (by kernel_rfl) (by kernel_rfl) (by kernel_rfl) (hval 0 36 v0 (by rw [Tryd.params8]; rfl) rfl) t0
  obtain ⟨a0_0, a0_1, a0_2, a0_3, rfl⟩ := list4 xs0 n0
  refine (wireTells_w v0 a0_0 a0_1 a0_2 a0_3 A0 N0 c0 l0 W hH e0 hS0 hN0 h80 hl0).mono fun e W' ⟨he, hb⟩ => ⟨_, he, ?_⟩
  exact law_post laid (by kernel_rfl) (by kernel_rfl) Tryd.underlying4 rfl (fun ds h => by match ds, h with | [d0], _ => rfl) hW hb

theorem wireTells_over : Rows.wireTellsRow.holds Tryd.pinned (OpenSpec.ofChange Rows.wireTellsSpec) :=
  OpenClaim.holds_of_wide 8 Tryd.f8 rfl rfl rfl rfl rfl rfl rfl ⟨rfl, rfl, rfl, rfl, rfl⟩ rfl rfl rfl rfl rfl (by kernel_rfl) Tryd.func8 (by kernel_rfl)
    (of_decide_eq_true (by kernel_rfl)) (by unfold Func.isWrapper; first | (rw [if_pos (by decide +kernel)]; kernel_rfl) | (rw [if_neg (by decide +kernel)]; exact ⟨rfl, rfl⟩))
    (fun os started H enc _ => wireTells_lifted os started H enc)
theorem wireTells_stand : ∀ t ∈ Tryd.f8.params.toList, Tryd.prog.wantsStandIn t = false := by
  rw [Tryd.params8]
  intro t ht
  simp only [List.mem_cons, List.mem_nil_iff, or_false] at ht
  rcases ht with rfl <;> kernel_rfl
theorem wireTells_card : Rows.WireTellsCardSaid :=
  Claim7.holds_tied_plain_at .later [] [.handle] true Rows.wireTellsCard.stood.harness true
    wireTells_over (fun _ h => by cases h) (by kernel_rfl) (fun _ h => by cases h) wireTells_row_tie rfl ⟨rfl, rfl⟩ (by kernel_rfl) rfl
    (fun f fn hf hfn => by
      obtain rfl : f = 8 := Option.some.inj ((show Tryd.prog.funcNamed "gyre/gyrelaw.WireTells" = some 8 by kernel_rfl).symm.trans hf) |>.symm
      obtain rfl : fn = Tryd.f8 := (Option.some.inj (Tryd.func8.symm.trans hfn)).symm
      exact ⟨by kernel_rfl, fun j t ht => wireTells_stand t (List.mem_of_getElem? (by simpa using ht))⟩)
    (by kernel_rfl)
#print axioms wireTells_card
end Go.Proofs.YtnkinnfpebploaaDoor
