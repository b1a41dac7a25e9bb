/- Proved: Rows.SnapLooksSaid: how a body is seen is the document's. Conditions: none. -/
import Derived.Test.YtfagkbmphohelaaLooks
import Derived.Test.YtfagkbmphohelaaLift
import Derived.Deep.RegionHeld3
namespace Go.Proofs.Ytfagkbmphohelaa
open Go.ChangeShapes Go.WideShapes Go.ChangeAt Go.RowKit Go.BigFrame
theorem list17 {α : Type} (l : List α) (h : l.length = 17) : ∃ x0 x1 x2 x3 x4 x5 x6 x7 x8 x9 x10 x11 x12 x13 x14 x15 x16 : α, l = [x0, x1, x2, x3, x4, x5, x6, x7, x8, x9, x10, x11, x12, x13, x14, x15, x16] := by
  match l, h with
  | [x0, x1, x2, x3, x4, x5, x6, x7, x8, x9, x10, x11, x12, x13, x14, x15, x16], _ => exact ⟨x0, x1, x2, x3, x4, x5, x6, x7, x8, x9, x10, x11, x12, x13, x14, x15, x16, rfl⟩

set_option maxRecDepth 100000 in
set_option maxHeartbeats 1000000 in
theorem snapLooks_w (i ow k s1 s2 s3 a1 a2 a3 v1 v2 v3 p1 p2 p3 ms tm : Int) (hs : ∀ x ∈ [s1, s2, s3, a1, a2, a3, v1, v2, v3], -9223372036854775808 ≤ x ∧ x ≤ 9223372036854775807) (w : World) :
    Calls Try.prog 3 #[.agg #[.int .i64 i, .int .i64 ow, .int .i64 k, .int .i64 s1, .int .i64 s2, .int .i64 s3, .int .i64 a1, .int .i64 a2, .int .i64 a3, .int .i64 v1, .int .i64 v2, .int .i64 v3, .int .i64 p1, .int .i64 p2, .int .i64 p3, .int .i64 ms, .int .i64 tm]] w fun e w' => e = .returned (.bool true) ∧ Below w.heap.size w w' := by
  have HS := Lib.hid hs
  clear hs
  go_enter Try.func3, Try.ntmps3
  go_wp2
  go_region_held3 (fun w' => (∀ o, w'.cell? ⟨w.heap.size, o, none⟩ = (#[.int .i64 i, .int .i64 ow, .int .i64 k, .int .i64 s1, .int .i64 s2, .int .i64 s3, .int .i64 a1, .int .i64 a2, .int .i64 a3, .int .i64 v1, .int .i64 v2, .int .i64 v3, .int .i64 p1, .int .i64 p2, .int .i64 p3, .int .i64 ms, .int .i64 tm] : Array Value)[o]?) ∧ w.heap.size < w'.heap.size ∧ Below w.heap.size w w') (first | assumption | (with_reducible exact keep1_alloc (by assumption) _) | (with_reducible exact keep1_drewN (by assumption) _) | exact ⟨fun o => by simp [go_sem], by simp, (by repeat (with_reducible (first | exact Below.refl _ _ | assumption | apply ext_drew | apply ext_drewN | apply ext_alloc | apply ext_more | (refine ext_setCell ?_ (by simp <;> omega) _) | (refine ext_below ?_ (by assumption)))))⟩)
    (first
      | (go_at_call 16; refine (look_c _ _ _ _ _ _ _ _ _ _ _ _ _ _ _ _ _ _).mono ?_; rintro e w1 ⟨rfl, hb1⟩; have hS1 := keep1 (by assumption) hb1)
      | (go_at_call 17; refine (rlook_c _ _ _ _ _ _ _ _ _ _ _ _ _ _ _ _ _ HS.out _).mono ?_; rintro e w2 ⟨rfl, hb2⟩; have hS2 := keep1 (by assumption) hb2)
      | (go_at_call 15; refine (sameView1_c _ _ _ _ _ _ _ _ _ _ _ _ _ _ (by repeat (with_reducible (first | assumption | (refine Blk.at _ _ _ _ ?_; simp; done) | apply Blk.alloc | apply Blk.drew | apply Blk.drewN | refine Blk.below ?_ hb2 | refine Blk.below ?_ hb1))) (by repeat (with_reducible (first | assumption | (refine Blk.at _ _ _ _ ?_; simp; done) | apply Blk.alloc | apply Blk.drew | apply Blk.drewN | refine Blk.below ?_ hb2 | refine Blk.below ?_ hb1)))).mono ?_; rintro e w3 ⟨rfl, q, rfl⟩))
  all_goals
    go_wp2
    go_ret
    exact ⟨rfl, ext_drewN (by repeat (with_reducible (first | assumption | exact hS2.2.2 | apply ext_alloc | refine ext_below ?_ hb2 | exact hS1.2.2))) _⟩

set_option maxRecDepth 100000 in
theorem snapLooks_lifted (os : Os) (started : os.Started) (H : Type) (enc : TypeId × Value → H) :
    ReturnsInHanded {} Try.checked os 3 .any (Rows.snapLooksSpec.pre6 enc Try.prog Try.f3 Rows.snapLooksRow.domain false) (Rows.snapLooksSpec.post enc Try.prog Try.f3 false true false false) := by
  refine returnsInHanded_of_change (C := Try.checked) own started (by kernel_rfl) Try.func3
    (ChangeSpec.witness6 (enc := enc) (C := Try.checked) false ⟨#[], #[.agg #[.int .i64 0, .int .i64 0, .int .i64 0, .int .i64 0, .int .i64 0, .int .i64 0, .int .i64 0, .int .i64 0, .int .i64 0, .int .i64 0, .int .i64 0, .int .i64 0, .int .i64 0, .int .i64 0, .int .i64 0, .int .i64 0, .int .i64 0]], []⟩ 8 (by kernel_rfl) (by kernel_rfl) (by kernel_rfl) (by kernel_rfl)) ?_
  intro W base args ds gs before hval0 hW hcnd _
  have hval : ∀ (j : Nat) t v, Try.f3.params[j]? = some t → args[j]? = some v → Value.okWide Try.prog W .any base t v := hval0
  obtain ⟨p, q, hA0, _⟩ := id hW
  have hsz := (trodAll_length _ _ _ _ hA0).1
  obtain ⟨v0, rfl⟩ : ∃ v0, args = #[v0] := by
    rcases args with ⟨_ | ⟨v0, _ | ⟨v1, l⟩⟩⟩ <;> first | exact ⟨v0, rfl⟩ | (simp [Try.params3] at hsz)
  obtain ⟨l0, e0, rfl, b0⟩ := agg_of_ok 17 Try.underlying3 Try.underlying27 (by kernel_rfl) (by kernel_rfl) (hval 0 27 v0 (by rw [Try.params3]; rfl) rfl)
  obtain ⟨a0_0, a0_1, a0_2, a0_3, a0_4, a0_5, a0_6, a0_7, a0_8, a0_9, a0_10, a0_11, a0_12, a0_13, a0_14, a0_15, a0_16, rfl⟩ := list17 l0 e0
  refine (snapLooks_w a0_0 a0_1 a0_2 a0_3 a0_4 a0_5 a0_6 a0_7 a0_8 a0_9 a0_10 a0_11 a0_12 a0_13 a0_14 a0_15 a0_16 (fun x hx => b0 x (by simp at hx ⊢; rcases hx with h | h | h | h | h | h | h | h | h <;> simp [h])) W).mono fun e W' ⟨he, hb⟩ => ⟨_, he, ?_⟩
  exact law_post laid (by kernel_rfl) (by kernel_rfl) Try.underlying4 rfl (fun ds h => by match ds, h with | [d0], _ => rfl) hW hb

theorem snapLooks_over : Rows.snapLooksRow.holds Try.pinned (OpenSpec.ofChange Rows.snapLooksSpec) :=
  OpenClaim.holds_of_wide 3 Try.f3 rfl rfl rfl rfl rfl rfl rfl ⟨rfl, rfl, rfl, rfl, rfl⟩ rfl rfl rfl rfl rfl (by kernel_rfl) Try.func3 (by kernel_rfl)
    (of_decide_eq_true (by kernel_rfl)) (by unfold Func.isWrapper; first | (rw [if_pos (by decide +kernel)]; kernel_rfl) | (rw [if_neg (by decide +kernel)]; exact ⟨rfl, rfl⟩))
    (fun os started H enc _ => snapLooks_lifted os started H enc)

theorem snapLooks_holds : Rows.SnapLooksSaid := snapLooks_over
#print axioms snapLooks_holds
end Go.Proofs.Ytfagkbmphohelaa
