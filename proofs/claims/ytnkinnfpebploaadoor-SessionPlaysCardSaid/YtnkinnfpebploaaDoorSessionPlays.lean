/- Proved: Rows.SessionPlaysCardSaid. Conditions: none. -/
import Derived.Test.YtnkinnfpebploaaDoorSplays
import Derived.Test.YtnkinnfpebploaaDoorLaid
import Derived.Test.YtnkinnfpebploaaDoorOpen
namespace Go.Proofs.YtnkinnfpebploaaDoor
open Go.ChangeShapes Go.WideShapes Go.ChangeAt Go.RowKit
set_option maxRecDepth 100000 in
theorem sessionPlays_lifted (os : Os) (started : os.Started) (H : Type) (enc : TypeId × Value → H) :
    ReturnsInHanded {} Tryd.checked os 5 .any (fun w args => (Rows.sessionPlaysSpec.pre enc Tryd.prog Tryd.f5 [] false w args ∧ laidMetH Tryd.prog [("errors.errorType", Rows.laid_errors_errorType)] w) ∧ sizedMet enc Tryd.prog Tryd.f5 (OpenSpec.ofChange Rows.sessionPlaysSpec) false w args)
      (Rows.sessionPlaysSpec.post enc Tryd.prog Tryd.f5 false true false false) := by
  refine returnsInHanded_of_change_and (C := Tryd.checked) (X := fun w _ => laidMetH Tryd.prog [("errors.errorType", Rows.laid_errors_errorType)] w) (fun _ _ _ hh h => h.of_heap hh) own started (by kernel_rfl) Tryd.func5
    (ChangeSpec.witness_at (enc := enc) (C := Tryd.checked) (os := os) (X := fun w _ => laidMetH Tryd.prog [("errors.errorType", Rows.laid_errors_errorType)] w) false (laidWorld os) #[.int .i64 0, .int .i64 0, .int .i64 0, .slice none 0 0] 8 rfl (by kernel_rfl) (by kernel_rfl) (by kernel_rfl) (by kernel_rfl) (by kernel_rfl) (laidWorld_met os _)) ?_
  intro W base args ds gs before hval0 hW _ _ hL _
  have hval : ∀ (j : Nat) t v, Tryd.f5.params[j]? = some t → args[j]? = some v → Value.okWide Tryd.prog W .any base t v := hval0
  have hH := handle_of_laid hL
  obtain ⟨p, q, hA0, _⟩ := id hW
  have hsz := (trodAll_length _ _ _ _ hA0).1
  obtain ⟨v0, v1, v2, v3, rfl⟩ : ∃ v0 v1 v2 v3, args = #[v0, v1, v2, v3] := by
    rcases args with ⟨_ | ⟨v0, _ | ⟨v1, _ | ⟨v2, _ | ⟨v3, _ | ⟨v4, l⟩⟩⟩⟩⟩⟩ <;> first | exact ⟨v0, v1, v2, v3, rfl⟩ | (simp [Tryd.params5] at hsz)
  obtain ⟨a0, rfl, b0⟩ := int_of_okv Tryd.underlying3 (hval 0 3 v0 (by rw [Tryd.params5]; rfl) rfl)
  obtain ⟨a1, rfl, b1⟩ := int_of_okv Tryd.underlying3 (hval 1 3 v1 (by rw [Tryd.params5]; rfl) rfl)
  obtain ⟨a2, rfl, b2⟩ := int_of_okv Tryd.underlying3 (hval 2 3 v2 (by rw [Tryd.params5]; rfl) rfl)
  obtain ⟨d3, p3, t3⟩ := trodAll_at _ _ _ _ hA0 3 53 v3 (by rw [Tryd.params5]; rfl) rfl
  obtain ⟨A3, n3, c3, M3, rfl, hn3, hR3, hM3⟩ := open_rows 8 3 Tryd.underlying53 (by kernel_rfl) (by kernel_rfl) (by decide) (slice_of_okv Tryd.underlying53 (hval 3 53 v3 (by rw [Tryd.params5]; rfl) rfl)) t3
  refine (sessionPlays_w a0 a1 a2 A3 n3 c3 M3 W hH hn3 hR3 hM3).mono fun e W' ⟨he, hb⟩ => ⟨_, he, ?_⟩
  exact law_post laid (by kernel_rfl) (by kernel_rfl) Tryd.underlying4 rfl (fun ds h => by match ds, h with | [d0, d1, d2, d3], _ => rfl) hW hb

theorem sessionPlays_over : Rows.sessionPlaysRow.holds Tryd.pinned (OpenSpec.ofChange Rows.sessionPlaysSpec) :=
  OpenClaim.holds_of_wide 5 Tryd.f5 rfl rfl rfl rfl rfl rfl rfl ⟨rfl, rfl, rfl, rfl, rfl⟩ rfl rfl rfl rfl rfl (by kernel_rfl) Tryd.func5 (by kernel_rfl)
    (of_decide_eq_true (by kernel_rfl)) (by unfold Func.isWrapper; first | (rw [if_pos (by decide +kernel)]; kernel_rfl) | (rw [if_neg (by decide +kernel)]; exact ⟨rfl, rfl⟩))
    (fun os started H enc _ => sessionPlays_lifted os started H enc)
theorem sessionPlays_stand : ∀ t ∈ Tryd.f5.params.toList, Tryd.prog.wantsStandIn t = false := by
  rw [Tryd.params5]
  intro t ht
  simp only [List.mem_cons, List.mem_nil_iff, or_false] at ht
  rcases ht with rfl | rfl | rfl | rfl <;> kernel_rfl
theorem sessionPlays_card : Rows.SessionPlaysCardSaid :=
  Claim7.holds_tied_plain_at .later [] [.handle] true Rows.sessionPlaysCard.stood.harness true
    sessionPlays_over (fun _ h => by cases h) (by kernel_rfl) (fun _ h => by cases h) sessionPlays_row_tie rfl ⟨rfl, rfl⟩ (by kernel_rfl) rfl
    (fun f fn hf hfn => by
      obtain rfl : f = 5 := Option.some.inj ((show Tryd.prog.funcNamed "gyre/gyrelaw.SessionPlays" = some 5 by kernel_rfl).symm.trans hf) |>.symm
      obtain rfl : fn = Tryd.f5 := (Option.some.inj (Tryd.func5.symm.trans hfn)).symm
      exact ⟨by kernel_rfl, fun j t ht => sessionPlays_stand t (List.mem_of_getElem? (by simpa using ht))⟩)
    (by kernel_rfl)
#print axioms sessionPlays_card
end Go.Proofs.YtnkinnfpebploaaDoor
