/- Proved: Rows.SessionOnceCardSaid. Conditions: none. -/
import Derived.Test.YtnkinnfpebploaaDoorSonce
import Derived.Test.YtnkinnfpebploaaDoorLaid
import Derived.Test.YtnkinnfpebploaaDoorOpen
namespace Go.Proofs.YtnkinnfpebploaaDoor
open Go.ChangeShapes Go.WideShapes Go.ChangeAt Go.RowKit
set_option maxRecDepth 100000 in
theorem sessionOnce_lifted (os : Os) (started : os.Started) (H : Type) (enc : TypeId × Value → H) :
    ReturnsInHanded {} Tryd.checked os 4 .any (fun w args => (Rows.sessionOnceSpec.pre enc Tryd.prog Tryd.f4 [] false w args ∧ laidMetH Tryd.prog [("errors.errorType", Rows.laid_errors_errorType)] w) ∧ sizedMet enc Tryd.prog Tryd.f4 (OpenSpec.ofChange Rows.sessionOnceSpec) false w args)
      (Rows.sessionOnceSpec.post enc Tryd.prog Tryd.f4 false true false false) := by
  refine returnsInHanded_of_change_and (C := Tryd.checked) (X := fun w _ => laidMetH Tryd.prog [("errors.errorType", Rows.laid_errors_errorType)] w) (fun _ _ _ hh h => h.of_heap hh) own started (by kernel_rfl) Tryd.func4
    (ChangeSpec.witness_at (enc := enc) (C := Tryd.checked) (os := os) (X := fun w _ => laidMetH Tryd.prog [("errors.errorType", Rows.laid_errors_errorType)] w) false (laidWorld os) #[.int .i64 0, .int .i64 0, .slice none 0 0] 8 rfl (by kernel_rfl) (by kernel_rfl) (by kernel_rfl) (by kernel_rfl) (by kernel_rfl) (laidWorld_met os _)) ?_
  intro W base args ds gs before hval0 hW _ _ hL _
  have hval : ∀ (j : Nat) t v, Tryd.f4.params[j]? = some t → args[j]? = some v → Value.okWide Tryd.prog W .any base t v := hval0
  have hH := handle_of_laid hL
  obtain ⟨p, q, hA0, _⟩ := id hW
  have hsz := (trodAll_length _ _ _ _ hA0).1
  obtain ⟨v0, v1, v2, rfl⟩ : ∃ v0 v1 v2, args = #[v0, v1, v2] := by
    rcases args with ⟨_ | ⟨v0, _ | ⟨v1, _ | ⟨v2, _ | ⟨v3, l⟩⟩⟩⟩⟩ <;> first | exact ⟨v0, v1, v2, rfl⟩ | (simp [Tryd.params4] at hsz)
  obtain ⟨a0, rfl, b0⟩ := int_of_okv Tryd.underlying3 (hval 0 3 v0 (by rw [Tryd.params4]; rfl) rfl)
  obtain ⟨a1, rfl, b1⟩ := int_of_okv Tryd.underlying3 (hval 1 3 v1 (by rw [Tryd.params4]; rfl) rfl)
  obtain ⟨d2, p2, t2⟩ := trodAll_at _ _ _ _ hA0 2 39 v2 (by rw [Tryd.params4]; rfl) rfl
  obtain ⟨A2, n2, c2, M2, rfl, hn2, hR2, hM2⟩ := open_rows 8 2 Tryd.underlying39 (by kernel_rfl) (by kernel_rfl) (by decide) (slice_of_okv Tryd.underlying39 (hval 2 39 v2 (by rw [Tryd.params4]; rfl) rfl)) t2
  refine (sessionOnce_w a0 a1 A2 n2 c2 M2 W hH hn2 hR2 hM2).mono fun e W' ⟨he, hb⟩ => ⟨_, he, ?_⟩
  exact law_post laid (by kernel_rfl) (by kernel_rfl) Tryd.underlying4 rfl (fun ds h => by match ds, h with | [d0, d1, d2], _ => rfl) hW hb

theorem sessionOnce_over : Rows.sessionOnceRow.holds Tryd.pinned (OpenSpec.ofChange Rows.sessionOnceSpec) :=
  OpenClaim.holds_of_wide 4 Tryd.f4 rfl rfl rfl rfl rfl rfl rfl ⟨rfl, rfl, rfl, rfl, rfl⟩ rfl rfl rfl rfl rfl (by kernel_rfl) Tryd.func4 (by kernel_rfl)
    (of_decide_eq_true (by kernel_rfl)) (by unfold Func.isWrapper; first | (rw [if_pos (by decide +kernel)]; kernel_rfl) | (rw [if_neg (by decide +kernel)]; exact ⟨rfl, rfl⟩))
    (fun os started H enc _ => sessionOnce_lifted os started H enc)
theorem sessionOnce_stand : ∀ t ∈ Tryd.f4.params.toList, Tryd.prog.wantsStandIn t = false := by
  rw [Tryd.params4]
  intro t ht
  simp only [List.mem_cons, List.mem_nil_iff, or_false] at ht
  rcases ht with rfl | rfl | rfl <;> kernel_rfl
theorem sessionOnce_card : Rows.SessionOnceCardSaid :=
  Claim7.holds_tied_plain_at .later [] [.handle] true Rows.sessionOnceCard.stood.harness true
    sessionOnce_over (fun _ h => by cases h) (by kernel_rfl) (fun _ h => by cases h) sessionOnce_row_tie rfl ⟨rfl, rfl⟩ (by kernel_rfl) rfl
    (fun f fn hf hfn => by
      obtain rfl : f = 4 := Option.some.inj ((show Tryd.prog.funcNamed "gyre/gyrekeep.SessionOnce" = some 4 by kernel_rfl).symm.trans hf) |>.symm
      obtain rfl : fn = Tryd.f4 := (Option.some.inj (Tryd.func4.symm.trans hfn)).symm
      exact ⟨by kernel_rfl, fun j t ht => sessionOnce_stand t (List.mem_of_getElem? (by simpa using ht))⟩)
    (by kernel_rfl)
#print axioms sessionOnce_card
end Go.Proofs.YtnkinnfpebploaaDoor
