/- Proved: Rows.BroadPlaysCardSaid. Conditions: none. -/
import Derived.Test.YtefhmbmbhiehdaaDoorKF
import Derived.Test.YtefhmbmbhiehdaaDoorKLaid
import Derived.Test.YtefhmbmbhiehdaaDoorKOpen
namespace Go.Proofs.YtefhmbmbhiehdaaDoor
open Go.ChangeShapes Go.WideShapes Go.ChangeAt Go.RowKit
set_option maxRecDepth 100000 in
theorem broadPlays_lifted (os : Os) (started : os.Started) (H : Type) (enc : TypeId × Value → H) :
    ReturnsInHanded {} Tryd.checked os 3 .any (fun w args => (Rows.broadPlaysSpec.pre enc Tryd.prog Tryd.f3 [] false w args ∧ laidMetH Tryd.prog [("errors.errorType", Rows.laid_errors_errorType)] w) ∧ sizedMet enc Tryd.prog Tryd.f3 (OpenSpec.ofChange Rows.broadPlaysSpec) false w args)
      (Rows.broadPlaysSpec.post enc Tryd.prog Tryd.f3 false true false false) := by
  refine returnsInHanded_of_change_and (C := Tryd.checked) (X := fun w _ => laidMetH Tryd.prog [("errors.errorType", Rows.laid_errors_errorType)] w) (fun _ _ _ hh h => h.of_heap hh) own started (by kernel_rfl) Tryd.func3
    (ChangeSpec.witness_at (enc := enc) (C := Tryd.checked) (os := os) (X := fun w _ => laidMetH Tryd.prog [("errors.errorType", Rows.laid_errors_errorType)] w) false (laidWorld os) #[.int .i64 0, .slice none 0 0] 8 rfl (by kernel_rfl) (by kernel_rfl) (by kernel_rfl) (by kernel_rfl) (by kernel_rfl) (laidWorld_met os _)) ?_
  intro W base args ds gs before hval0 hW _ _ hL _
  have hval : ∀ (j : Nat) t v, Tryd.f3.params[j]? = some t → args[j]? = some v → Value.okWide Tryd.prog W .any base t v := hval0
  have hH := handle_of_laid hL
  obtain ⟨p, q, hA0, _⟩ := id hW
  have hsz := (trodAll_length _ _ _ _ hA0).1
  obtain ⟨v0, v1, rfl⟩ : ∃ v0 v1, args = #[v0, v1] := by
    rcases args with ⟨_ | ⟨v0, _ | ⟨v1, _ | ⟨v2, l⟩⟩⟩⟩ <;> first | exact ⟨v0, v1, rfl⟩ | (simp [Tryd.params3] at hsz)
  obtain ⟨a0, rfl, b0⟩ := int_of_okv Tryd.underlying3 (hval 0 3 v0 (by rw [Tryd.params3]; rfl) rfl)
  obtain ⟨d1, p1, t1⟩ := trodAll_at _ _ _ _ hA0 1 22 v1 (by rw [Tryd.params3]; rfl) rfl
  obtain ⟨A1, n1, c1, M1, rfl, hn1, hR1, hM1⟩ := open_rows 8 8 Tryd.underlying22 (by kernel_rfl) (by kernel_rfl) (by decide) (slice_of_okv Tryd.underlying22 (hval 1 22 v1 (by rw [Tryd.params3]; rfl) rfl)) t1
  refine (broadPlays_w a0 A1 n1 c1 M1 W hH hn1 hR1 hM1).mono fun e W' ⟨he, hb⟩ => ⟨_, he, ?_⟩
  exact law_post laid (by kernel_rfl) (by kernel_rfl) Tryd.underlying4 rfl (fun ds h => by match ds, h with | [d0, d1], _ => rfl) hW hb

theorem broadPlays_over : Rows.broadPlaysRow.holds Tryd.pinned (OpenSpec.ofChange Rows.broadPlaysSpec) :=
  OpenClaim.holds_of_wide 3 Tryd.f3 rfl rfl rfl rfl rfl rfl rfl ⟨rfl, rfl, rfl, rfl, rfl⟩ rfl rfl rfl rfl rfl (by kernel_rfl) Tryd.func3 (by kernel_rfl)
    (of_decide_eq_true (by kernel_rfl)) (by unfold Func.isWrapper; first | (rw [if_pos (by decide +kernel)]; kernel_rfl) | (rw [if_neg (by decide +kernel)]; exact ⟨rfl, rfl⟩))
    (fun os started H enc _ => broadPlays_lifted os started H enc)
theorem broadPlays_stand : ∀ t ∈ Tryd.f3.params.toList, Tryd.prog.wantsStandIn t = false := by
  rw [Tryd.params3]
  intro t ht
  simp only [List.mem_cons, List.mem_nil_iff, or_false] at ht
  rcases ht with rfl | rfl <;> kernel_rfl
theorem broadPlays_card : Rows.BroadPlaysCardSaid :=
  Claim7.holds_tied_plain_at .later [] [.handle] true Rows.broadPlaysCard.stood.harness true
    broadPlays_over (fun _ h => by cases h) (by kernel_rfl) (fun _ h => by cases h) broadPlays_row_tie rfl ⟨rfl, rfl⟩ (by kernel_rfl) rfl
    (fun f fn hf hfn => by
      obtain rfl : f = 3 := Option.some.inj ((show Tryd.prog.funcNamed "gyre/gyrelaw.BroadPlays" = some 3 by kernel_rfl).symm.trans hf) |>.symm
      obtain rfl : fn = Tryd.f3 := (Option.some.inj (Tryd.func3.symm.trans hfn)).symm
      exact ⟨by kernel_rfl, fun j t ht => broadPlays_stand t (List.mem_of_getElem? (by simpa using ht))⟩)
    (by kernel_rfl)
#print axioms broadPlays_card
end Go.Proofs.YtefhmbmbhiehdaaDoor
