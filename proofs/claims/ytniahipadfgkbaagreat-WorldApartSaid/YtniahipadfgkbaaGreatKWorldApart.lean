/- Proved: Rows.WorldApartSaid: a world with more bodies, of which none ever touches one of the others, goes on, for these, just as without them. Conditions: none. -/
import Derived.Test.YtniahipadfgkbaaGreatKW11
import Derived.Test.YtniahipadfgkbaaGreatKLift
import Derived.Test.YtniahipadfgkbaaGreatKOpen
import Derived.LoopTactic
import Derived.WalkKit
namespace Go.Proofs.YtniahipadfgkbaaGreat
open Go.ChangeShapes Go.WideShapes Go.ChangeAt Go.RowKit Go.BigFrame
set_option maxRecDepth 100000 in
theorem worldApart_lifted (os : Os) (started : os.Started) (H : Type) (enc : TypeId × Value → H) :
    ReturnsInHanded {} Tryz.checked os 4 .any (Rows.worldApartSpec.pre6 enc Tryz.prog Tryz.f4 Rows.worldApartRow.domain false) (Rows.worldApartSpec.post enc Tryz.prog Tryz.f4 false true false false) := by
  refine returnsInHanded_of_change (C := Tryz.checked) own started (by kernel_rfl) Tryz.func4
    (ChangeSpec.witness6 (enc := enc) (C := Tryz.checked) false ⟨#[], #[.slice none 0 0, .slice none 0 0, .agg #[.int .i64 0, .int .i64 0, .int .i64 0], .int .i64 0, .int .i64 0, .int .i64 0, .int .i64 0], []⟩ 8 (by kernel_rfl) (by kernel_rfl) (by kernel_rfl) (by kernel_rfl)) ?_
  intro W base args ds gs before hval0 hW hcnd _
  have hval : ∀ (j : Nat) t v, Tryz.f4.params[j]? = some t → args[j]? = some v → Value.okWide Tryz.prog W .any base t v := hval0
  obtain ⟨p, q, hA0, _⟩ := id hW
  have hsz := (trodAll_length _ _ _ _ hA0).1
  obtain ⟨v0, v1, v2, v3, v4, v5, v6, rfl⟩ : ∃ v0 v1 v2 v3 v4 v5 v6, args = #[v0, v1, v2, v3, v4, v5, v6] := by
    rcases args with ⟨_ | ⟨v0, _ | ⟨v1, _ | ⟨v2, _ | ⟨v3, _ | ⟨v4, _ | ⟨v5, _ | ⟨v6, _ | ⟨v7, l⟩⟩⟩⟩⟩⟩⟩⟩⟩ <;> first | exact ⟨v0, v1, v2, v3, v4, v5, v6, rfl⟩ | (simp [Tryz.params4] at hsz)
  obtain ⟨d0, p0, t0⟩ := trodAll_at _ _ _ _ hA0 0 22 v0 (by rw [Tryz.params4]; rfl) rfl
  obtain ⟨A0, n0, c0, M0, rfl, hn0, hR0, hM0⟩ := open_rows 8 17 Tryz.underlying22 (by kernel_rfl) (by kernel_rfl) (by decide) (slice_of_okv Tryz.underlying22 (hval 0 22 v0 (by rw [Tryz.params4]; rfl) rfl)) t0
  obtain ⟨d1, p1, t1⟩ := trodAll_at _ _ _ _ hA0 1 22 v1 (by rw [Tryz.params4]; rfl) rfl
  obtain ⟨A1, n1, c1, M1, rfl, hn1, hR1, hM1⟩ := open_rows 8 17 Tryz.underlying22 (by kernel_rfl) (by kernel_rfl) (by decide) (slice_of_okv Tryz.underlying22 (hval 1 22 v1 (by rw [Tryz.params4]; rfl) rfl)) t1
  obtain ⟨l2, e2, rfl, b2⟩ := agg_of_ok 3 Tryz.underlying3 Tryz.underlying24 (by kernel_rfl) (by kernel_rfl) (hval 2 24 v2 (by rw [Tryz.params4]; rfl) rfl)
  obtain ⟨a2_0, a2_1, a2_2, rfl⟩ := list3 l2 e2
  obtain ⟨a3, rfl, b3⟩ := int_of_okv Tryz.underlying3 (hval 3 3 v3 (by rw [Tryz.params4]; rfl) rfl)
  obtain ⟨a4, rfl, b4⟩ := int_of_okv Tryz.underlying3 (hval 4 3 v4 (by rw [Tryz.params4]; rfl) rfl)
  obtain ⟨a5, rfl, b5⟩ := int_of_okv Tryz.underlying3 (hval 5 3 v5 (by rw [Tryz.params4]; rfl) rfl)
  obtain ⟨a6, rfl, b6⟩ := int_of_okv Tryz.underlying3 (hval 6 3 v6 (by rw [Tryz.params4]; rfl) rfl)
  refine (worldApart_w A0 n0 c0 M0 A1 n1 c1 M1 a2_0 a2_1 a2_2 a3 a4 a5 a6 W hn0 hR0 hM0 hn1 hR1 hM1).mono fun e W' ⟨he, hb⟩ => ⟨_, he, ?_⟩
  exact law_post laid (by kernel_rfl) (by kernel_rfl) Tryz.underlying4 rfl (fun ds h => by match ds, h with | [d0, d1, d2, d3, d4, d5, d6], _ => rfl) hW hb

theorem worldApart_over : Rows.worldApartRow.holds Tryz.pinned (OpenSpec.ofChange Rows.worldApartSpec) :=
  OpenClaim.holds_of_wide 4 Tryz.f4 rfl rfl rfl rfl rfl rfl rfl ⟨rfl, rfl, rfl, rfl, rfl⟩ rfl rfl rfl rfl rfl (by kernel_rfl) Tryz.func4 (by kernel_rfl)
    (of_decide_eq_true (by kernel_rfl)) (by unfold Func.isWrapper; first | (rw [if_pos (by decide +kernel)]; kernel_rfl) | (rw [if_neg (by decide +kernel)]; exact ⟨rfl, rfl⟩))
    (fun os started H enc _ => worldApart_lifted os started H enc)

theorem worldApart_holds : Rows.WorldApartSaid := worldApart_over
#print axioms worldApart_holds
end Go.Proofs.YtniahipadfgkbaaGreat
