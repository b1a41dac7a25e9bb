/- Proved: Rows.SnapDeltasCardSaid. Conditions: none. -/
import Derived.Test.YtnkinnfpebploaaDoorSdeltas
import Derived.Test.YtnkinnfpebploaaDoorLaid
import Derived.Test.YtnkinnfpebploaaDoorOpen
import Derived.Test.YtnkinnfpebploaaDoorSized
namespace Go.Proofs.YtnkinnfpebploaaDoor
open Go.ChangeShapes Go.WideShapes Go.ChangeAt Go.RowKit
set_option maxRecDepth 100000 in
theorem snapDeltas_lifted (os : Os) (started : os.Started) (H : Type) (enc : TypeId × Value → H) :
    ReturnsInHanded {} Tryd.checked os 10 .any (fun w args => (Rows.snapDeltasSpec.pre enc Tryd.prog Tryd.f10 [] false w args ∧ laidMetH Tryd.prog [("errors.errorType", Rows.laid_errors_errorType)] w) ∧ sizedMet enc Tryd.prog Tryd.f10 (OpenSpec.ofChange Rows.snapDeltasSpec) false w args)
      (Rows.snapDeltasSpec.post enc Tryd.prog Tryd.f10 false true false false) := by
  refine returnsInHanded_of_change_and (C := Tryd.checked) (X := fun w _ => laidMetH Tryd.prog [("errors.errorType", Rows.laid_errors_errorType)] w) (fun _ _ _ hh h => h.of_heap hh) own started (by kernel_rfl) Tryd.func10
    (ChangeSpec.witness_at (enc := enc) (C := Tryd.checked) (os := os) (X := fun w _ => laidMetH Tryd.prog [("errors.errorType", Rows.laid_errors_errorType)] w) false (laidWorld os) #[.slice none 0 0, .slice none 0 0] 8 rfl (by kernel_rfl) (by kernel_rfl) (by kernel_rfl) (by kernel_rfl) (by kernel_rfl) (laidWorld_met os _)) ?_
  intro W base args ds gs before hval0 hW _ hwt hL _
  have hval : ∀ (j : Nat) t v, Tryd.f10.params[j]? = some t → args[j]? = some v → Value.okWide Tryd.prog W .any base t v := hval0
  have hH := handle_of_laid hL
  obtain ⟨p, q, hA0, _⟩ := id hW
  have hsz := (trodAll_length _ _ _ _ hA0).1
  obtain ⟨v0, v1, rfl⟩ : ∃ v0 v1, args = #[v0, v1] := by
    rcases args with ⟨_ | ⟨v0, _ | ⟨v1, _ | ⟨v2, l⟩⟩⟩⟩ <;> first | exact ⟨v0, v1, rfl⟩ | (simp [Tryd.params10] at hsz)
  obtain ⟨d0, p0, g0, t0⟩ := trodAll_in _ _ _ _ hA0 0 101 v0 (by rw [Tryd.params10]; rfl) rfl
  obtain ⟨A0, n0, c0, M0, rfl, hn0, hR0, hM0⟩ := open_rows 8 11 Tryd.underlying101 (by kernel_rfl) (by kernel_rfl) (by decide) (slice_of_okv Tryd.underlying101 (hval 0 101 v0 (by rw [Tryd.params10]; rfl) rfl)) t0
  have hz0 := slice_reach hwt (t := 101) (j := 0) (by rw [Tryd.params10]; rfl) (ds_in g0) Tryd.underlying101 t0
  have hk0 : n0 ≤ 1599289640354 := by
    rw [show Tryd.checked.prog.bytesOf 145 = 88 from by kernel_rfl] at hz0
    unfold reachBytes at hz0
    omega
  obtain ⟨d1, p1, g1, t1⟩ := trodAll_in _ _ _ _ hA0 1 101 v1 (by rw [Tryd.params10]; rfl) rfl
  obtain ⟨A1, n1, c1, M1, rfl, hn1, hR1, hM1⟩ := open_rows 8 11 Tryd.underlying101 (by kernel_rfl) (by kernel_rfl) (by decide) (slice_of_okv Tryd.underlying101 (hval 1 101 v1 (by rw [Tryd.params10]; rfl) rfl)) t1
  have hz1 := slice_reach hwt (t := 101) (j := 1) (by rw [Tryd.params10]; rfl) (ds_in g1) Tryd.underlying101 t1
  have hk1 : n1 ≤ 1599289640354 := by
    rw [show Tryd.checked.prog.bytesOf 145 = 88 from by kernel_rfl] at hz1
    unfold reachBytes at hz1
    omega
  refine (snapDeltas_w A0 n0 c0 M0 A1 n1 c1 M1 W hH hn0 hR0 hM0 hk0 hn1 hR1 hM1 hk1).mono fun e W' ⟨he, hb⟩ => ⟨_, he, ?_⟩
  exact law_post laid (by kernel_rfl) (by kernel_rfl) Tryd.underlying4 rfl (fun ds h => by match ds, h with | [d0, d1], _ => rfl) hW hb

theorem snapDeltas_over : Rows.snapDeltasRow.holds Tryd.pinned (OpenSpec.ofChange Rows.snapDeltasSpec) :=
  OpenClaim.holds_of_wide 10 Tryd.f10 rfl rfl rfl rfl rfl rfl rfl ⟨rfl, rfl, rfl, rfl, rfl⟩ rfl rfl rfl rfl rfl (by kernel_rfl) Tryd.func10 (by kernel_rfl)
    (of_decide_eq_true (by kernel_rfl)) (by unfold Func.isWrapper; first | (rw [if_pos (by decide +kernel)]; kernel_rfl) | (rw [if_neg (by decide +kernel)]; exact ⟨rfl, rfl⟩))
    (fun os started H enc _ => snapDeltas_lifted os started H enc)
theorem snapDeltas_stand : ∀ t ∈ Tryd.f10.params.toList, Tryd.prog.wantsStandIn t = false := by
  rw [Tryd.params10]
  intro t ht
  simp only [List.mem_cons, List.mem_nil_iff, or_false] at ht
  rcases ht with rfl | rfl <;> kernel_rfl
theorem snapDeltas_card : Rows.SnapDeltasCardSaid :=
  Claim7.holds_tied_plain_at .later [] [.handle] true Rows.snapDeltasCard.stood.harness true
    snapDeltas_over (fun _ h => by cases h) (by kernel_rfl) (fun _ h => by cases h) snapDeltas_row_tie rfl ⟨rfl, rfl⟩ (by kernel_rfl) rfl
    (fun f fn hf hfn => by
      obtain rfl : f = 10 := Option.some.inj ((show Tryd.prog.funcNamed "gyre/gyrelaw.SnapDeltas" = some 10 by kernel_rfl).symm.trans hf) |>.symm
      obtain rfl : fn = Tryd.f10 := (Option.some.inj (Tryd.func10.symm.trans hfn)).symm
      exact ⟨by kernel_rfl, fun j t ht => snapDeltas_stand t (List.mem_of_getElem? (by simpa using ht))⟩)
    (by kernel_rfl)
#print axioms snapDeltas_card
end Go.Proofs.YtnkinnfpebploaaDoor
