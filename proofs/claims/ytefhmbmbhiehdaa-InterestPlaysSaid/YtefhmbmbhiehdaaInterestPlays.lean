/- Proved: Rows.InterestPlaysSaid: whichever bodies are put, moved, and taken away, what an eye sees is the document's. Conditions: none. -/
import Derived.Test.YtefhmbmbhiehdaaIplays
import Derived.Test.YtefhmbmbhiehdaaLift
namespace Go.Proofs.Ytefhmbmbhiehdaa
open Go.ChangeShapes Go.WideShapes Go.ChangeAt Go.RowKit Go.BigFrame
section
variable {H : Type} {enc : TypeId × Value → H} {P : Program} {w : World} {base : Nat} {spare : Nat → Bool} {held : Bool}
/-- a slice that is nil has no elements -/
theorem slice_nil0 {t e : TypeId} {A : Option Addr} {n cap : Nat} {d : DataW H} {p : List MemPlace} (ht : P.underlying t = some (.slice e)) (h : DataW.Trod enc P w base spare held t (.slice A n cap) d p) : A = none → n = 0 ∧ cap = 0 := by
  obtain ⟨fuel, hf⟩ := h
  rintro rfl
  rcases Go.Deep.open_slice ht hf with ⟨h0, _⟩ | ⟨a, len, cap, m, n, D, Pl, hcs, _⟩
  · simp [Value.cells] at h0
    exact h0
  · simp [Value.cells] at hcs
end
set_option maxRecDepth 100000 in
theorem interestPlays_lifted (os : Os) (started : os.Started) (H : Type) (enc : TypeId × Value → H) :
    ReturnsInHanded {} Try.checked os 4 .any (Rows.interestPlaysSpec.pre6 enc Try.prog Try.f4 Rows.interestPlaysRow.domain false) (Rows.interestPlaysSpec.post enc Try.prog Try.f4 false true false false) := by
  refine returnsInHanded_of_change (C := Try.checked) own started (by kernel_rfl) Try.func4
    (ChangeSpec.witness6 (enc := enc) (C := Try.checked) false ⟨#[], #[.slice none 0 0], []⟩ 8 (by kernel_rfl) (by kernel_rfl) (by kernel_rfl) (by kernel_rfl)) ?_
  intro W base args ds gs before hval0 hW hcnd _
  have hval : ∀ (j : Nat) t v, Try.f4.params[j]? = some t → args[j]? = some v → Value.okWide Try.prog W .any base t v := hval0
  obtain ⟨p, q, hA0, _⟩ := id hW
  have hsz := (trodAll_length _ _ _ _ hA0).1
  obtain ⟨v0, rfl⟩ : ∃ v0, args = #[v0] := by
    rcases args with ⟨_ | ⟨v0, _ | ⟨v1, l⟩⟩⟩ <;> first | exact ⟨v0, rfl⟩ | (simp [Try.params4] at hsz)
  obtain ⟨d0, p0, t0⟩ := trodAll_at _ _ _ _ hA0 0 52 v0 (by rw [Try.params4]; rfl) rfl
  obtain ⟨A0, n0, c0, M0, rfl, hn0, hR0, hM0⟩ := open_rows 8 23 Try.underlying52 (by kernel_rfl) (by kernel_rfl) (by decide) (slice_of_okv Try.underlying52 (hval 0 52 v0 (by rw [Try.params4]; rfl) rfl)) t0
  have hZ0 := slice_nil0 Try.underlying52 t0
  refine (interestPlays_w A0 n0 c0 M0 W hn0 hR0 hM0 hZ0).mono fun e W' ⟨he, hb⟩ => ⟨_, he, ?_⟩
  exact law_post laid (by kernel_rfl) (by kernel_rfl) Try.underlying4 rfl (fun ds h => by match ds, h with | [d0], _ => rfl) hW hb

theorem interestPlays_over : Rows.interestPlaysRow.holds Try.pinned (OpenSpec.ofChange Rows.interestPlaysSpec) :=
  OpenClaim.holds_of_wide 4 Try.f4 rfl rfl rfl rfl rfl rfl rfl ⟨rfl, rfl, rfl, rfl, rfl⟩ rfl rfl rfl rfl rfl (by kernel_rfl) Try.func4 (by kernel_rfl)
    (of_decide_eq_true (by kernel_rfl)) (by unfold Func.isWrapper; first | (rw [if_pos (by decide +kernel)]; kernel_rfl) | (rw [if_neg (by decide +kernel)]; exact ⟨rfl, rfl⟩))
    (fun os started H enc _ => interestPlays_lifted os started H enc)

theorem interestPlays_holds : Rows.InterestPlaysSaid := interestPlays_over
#print axioms interestPlays_holds
end Go.Proofs.Ytefhmbmbhiehdaa
