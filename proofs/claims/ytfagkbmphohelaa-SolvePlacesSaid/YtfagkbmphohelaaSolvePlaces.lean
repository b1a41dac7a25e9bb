/- Proved: Rows.SolvePlacesSaid: how far bodies that are in each other are moved apart is the document's. Conditions: none. -/
import Derived.Test.YtfagkbmphohelaaSolve8
import Derived.Test.YtfagkbmphohelaaSolve9
import Derived.Test.YtfagkbmphohelaaLift
import Derived.Test.YtfagkbmphohelaaOpen
namespace Go.Proofs.Ytfagkbmphohelaa
open Go.ChangeShapes Go.WideShapes Go.ChangeAt Go.RowKit Go.BigFrame

set_option maxRecDepth 100000 in
set_option maxHeartbeats 4000000 in
theorem solvePlaces_w (A0 : Option Addr) (n0 c0 : Nat) (M0 : Nat → Nat → Int) (A1 : Option Addr) (n1 c1 : Nat) (M1 : Nat → Nat → Int) (w : World) (_hn0 : n0 ≤ maxLen) (hR0 : Reads w A0 n0 17 M0) (_ : ∀ i j, -9223372036854775808 ≤ M0 i j ∧ M0 i j ≤ 9223372036854775807) (hZ0 : A0 = none → n0 = 0 ∧ c0 = 0)
    (_hn1 : n1 ≤ maxLen) (hR1 : Reads w A1 n1 6 M1) (_ : ∀ i j, -9223372036854775808 ≤ M1 i j ∧ M1 i j ≤ 9223372036854775807) (_hZ1 : A1 = none → n1 = 0 ∧ c1 = 0) :
    Calls Try.prog 10 #[.slice A0 n0 c0, .slice A1 n1 c1] w fun e w' => e = .returned (.bool true) ∧ Below w.heap.size w w' := by
  by_cases h0 : 30 < n0
  · go_enter Try.func10, Try.ntmps10
    go_wp2
    go_ret
    exact ⟨rfl, Below.refl _ _⟩
  by_cases h1 : 60 < n1
  · go_enter Try.func10, Try.ntmps10
    go_wp2
    go_ret
    exact ⟨rfl, Below.refl _ _⟩
  go_enter Try.func10, Try.ntmps10
  go_wp2_with fail
  refine (alone_c M0 A0 n0 c0 _ (by omega) hR0).mono ?_
  rintro e w1 ⟨⟨b, rfl⟩, hb1⟩
  cases b with
  | false =>
    go_wp2
    go_ret
    exact ⟨rfl, hb1⟩
  | true =>
    go_wp2_with fail
    refine (places_c M0 M1 A0 A1 n0 c0 n1 c1 _ (hR0.below hb1) hZ0 (by omega) (hR1.below hb1) (by omega)).mono ?_
    rintro e w2 ⟨B1, k1, rfl, hO1, hb2⟩
    have hb02 := hb1.trans (hb2.mono hb1.size)
    go_wp2_with fail
    refine (rplaces_c M0 M1 A0 A1 n0 c0 n1 c1 _ (hR0.below hb02) hZ0 (by omega) (hR1.below hb02) (by omega)).mono ?_
    rintro e w3 ⟨B2, k2, rfl, hO2, hb3⟩
    have hb03 := hb02.trans (hb3.mono hb02.size)
    go_wp2_with fail
    refine (same_o _ B1 B2 n0 k1 k2 _ (by omega) (hO1.below hb3).own hO2.own).mono ?_
    rintro e w4 ⟨rfl, hb4⟩
    have hb04 := hb03.trans (hb4.mono hb03.size)
    go_wp2
    go_ret
    exact ⟨rfl, hb04⟩

set_option maxRecDepth 100000 in
theorem solvePlaces_lifted (os : Os) (started : os.Started) (H : Type) (enc : TypeId × Value → H) :
    ReturnsInHanded {} Try.checked os 10 .any (Rows.solvePlacesSpec.pre6 enc Try.prog Try.f10 Rows.solvePlacesRow.domain false) (Rows.solvePlacesSpec.post enc Try.prog Try.f10 false true false false) := by
  refine returnsInHanded_of_change (C := Try.checked) own started (by kernel_rfl) Try.func10
    (ChangeSpec.witness6 (enc := enc) (C := Try.checked) false ⟨#[], #[.slice none 0 0, .slice none 0 0], []⟩ 8 (by kernel_rfl) (by kernel_rfl) (by kernel_rfl) (by kernel_rfl)) ?_
  intro W base args ds gs before hval0 hW hcnd _
  have hval : ∀ (j : Nat) t v, Try.f10.params[j]? = some t → args[j]? = some v → Value.okWide Try.prog W .any base t v := hval0
  obtain ⟨p, q, hA0, _⟩ := id hW
  have hsz := (trodAll_length _ _ _ _ hA0).1
  obtain ⟨v0, v1, rfl⟩ : ∃ v0 v1, args = #[v0, v1] := by
    rcases args with ⟨_ | ⟨v0, _ | ⟨v1, _ | ⟨v2, l⟩⟩⟩⟩ <;> first | exact ⟨v0, v1, rfl⟩ | (simp [Try.params10] at hsz)
  obtain ⟨d0, p0, t0⟩ := trodAll_at _ _ _ _ hA0 0 85 v0 (by rw [Try.params10]; rfl) rfl
  obtain ⟨A0, n0, c0, M0, rfl, hn0, hR0, hM0⟩ := open_rows 8 17 Try.underlying85 (by kernel_rfl) (by kernel_rfl) (by decide) (slice_of_okv Try.underlying85 (hval 0 85 v0 (by rw [Try.params10]; rfl) rfl)) t0
  have hZ0 := slice_nil0 Try.underlying85 t0
  obtain ⟨d1, p1, t1⟩ := trodAll_at _ _ _ _ hA0 1 86 v1 (by rw [Try.params10]; rfl) rfl
  obtain ⟨A1, n1, c1, M1, rfl, hn1, hR1, hM1⟩ := open_rows 8 6 Try.underlying86 (by kernel_rfl) (by kernel_rfl) (by decide) (slice_of_okv Try.underlying86 (hval 1 86 v1 (by rw [Try.params10]; rfl) rfl)) t1
  have hZ1 := slice_nil0 Try.underlying86 t1
  refine (solvePlaces_w A0 n0 c0 M0 A1 n1 c1 M1 W hn0 hR0 hM0 hZ0 hn1 hR1 hM1 hZ1).mono fun e W' ⟨he, hb⟩ => ⟨_, he, ?_⟩
  exact law_post laid (by kernel_rfl) (by kernel_rfl) Try.underlying4 rfl (fun ds h => by match ds, h with | [d0, d1], _ => rfl) hW hb

theorem solvePlaces_over : Rows.solvePlacesRow.holds Try.pinned (OpenSpec.ofChange Rows.solvePlacesSpec) :=
  OpenClaim.holds_of_wide 10 Try.f10 rfl rfl rfl rfl rfl rfl rfl ⟨rfl, rfl, rfl, rfl, rfl⟩ rfl rfl rfl rfl rfl (by kernel_rfl) Try.func10 (by kernel_rfl)
    (of_decide_eq_true (by kernel_rfl)) (by unfold Func.isWrapper; first | (rw [if_pos (by decide +kernel)]; kernel_rfl) | (rw [if_neg (by decide +kernel)]; exact ⟨rfl, rfl⟩))
    (fun os started H enc _ => solvePlaces_lifted os started H enc)

theorem solvePlaces_holds : Rows.SolvePlacesSaid := solvePlaces_over
#print axioms solvePlaces_holds
end Go.Proofs.Ytfagkbmphohelaa
