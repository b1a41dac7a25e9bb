/- Proved: Rows.FxRootsSaid: a root is a root, a product hangs on no order. Conditions: none. -/
import Derived.Test.YtfagkbmphohelaaFx2
import Derived.Test.YtfagkbmphohelaaLift
import Derived.Test.YtfagkbmphohelaaMath2
namespace Go.Proofs.Ytfagkbmphohelaa
open Go.ChangeShapes Go.WideShapes Go.ChangeAt Go.RowKit

theorem counted_c (w : World) : Calls Try.prog 45 #[] w fun e w' => e = .returned (.bool true) ∧ ∃ q, w' = w.drewN q := by
  have h1 : mul 196608 32768 = 98304 := by decide
  have h2 : div 65536 131072 = 32768 := by decide
  have h3 : root 262144 = 131072 := by decide +kernel
  go_enter Try.func45, Try.ntmps45
  go_wp2_with (first
    | (go_at_call 48; refine (mul_c _ _ _).mono ?_; rintro e w' ⟨rfl, rfl⟩)
    | (go_at_call 55; refine (div_c _ _ _).mono ?_; rintro e w' ⟨rfl, q, rfl⟩)
    | (go_at_call 47; refine (root_c _ _).mono ?_; rintro e w' ⟨rfl, rfl⟩))
  go_ret
  exact ⟨rfl, q, rfl⟩

theorem fxRoots_w (a b : Int) (w : World) :
    Calls Try.prog 7 #[.int .i64 a, .int .i64 b] w fun e w' => e = .returned (.bool true) ∧ Below w.heap.size w w' := by
  obtain ⟨c0, c1⟩ := cut_bd a
  obtain ⟨m0, m1⟩ := mag_bd a
  obtain ⟨r0, r1⟩ := root_bd (mag a)
  obtain ⟨q0, q1⟩ := root_is a
  have q2 : 0 ≤ root (mag a) * root (mag a) := Int.mul_nonneg r0 r0
  have q3 : (root (mag a) + 1) * (root (mag a) + 1) = root (mag a) * root (mag a) + 2 * root (mag a) + 1 := by
    rw [Int.mul_add, Int.add_mul]; omega
  have q4 : 0 ≤ (root (mag a) + 1) * (root (mag a) + 1) := by omega
  have q5 : (root (mag a) + 1) * (root (mag a) + 1) < 9223372036854775808 := by omega
  have t1 : (mul a b == mul b a) = true := by rw [mul_comm' a b]; simp
  have t2 : (mul (-cut a) b == -mul a b) = true := by rw [mul_negL]; simp
  have t3 : (sub a b == -sub b a) = true := by rw [← sub_neg]; simp
  have t4 : decide (root (mag a) * root (mag a) ≤ mag a * 65536) = true := by simpa using q0
  have t5 : decide (mag a * 65536 < (root (mag a) + 1) * (root (mag a) + 1)) = true := by simpa using q1
  obtain ⟨p0, p1⟩ := mul_bd a b
  obtain ⟨s0, s1⟩ := sub_bd b a
  clear q3
  by_cases h : cut a < 0
  · have Hm := Lib.hid (show -cut a = mag a by unfold mag; rw [if_pos h])
    go_enter Try.func7, Try.ntmps7
    go_wp2_with (first
      | (go_at_call 45; refine (counted_c _).mono ?_; rintro e w' ⟨rfl, q, rfl⟩)
      | (go_at_call 46; refine (cut_c _ _).mono ?_; rintro e w' ⟨rfl, rfl⟩)
      | (go_at_call 47; rw [Hm.out]; refine (root_c _ _).mono ?_; rintro e w' ⟨rfl, rfl⟩)
      | (go_at_call 48; refine (mul_c _ _ _).mono ?_; rintro e w' ⟨rfl, rfl⟩)
      | (go_at_call 49; refine (sub_c _ _ _).mono ?_; rintro e w' ⟨rfl, rfl⟩))
    go_ret
    exact ⟨rfl, rfl, rfl, rfl, Nat.le_refl _, fun _ _ => rfl⟩
  · have Hm := Lib.hid (show cut a = mag a by unfold mag; rw [if_neg h])
    go_enter Try.func7, Try.ntmps7
    go_wp2_with (first
      | (go_at_call 45; refine (counted_c _).mono ?_; rintro e w' ⟨rfl, q, rfl⟩)
      | (go_at_call 46; refine (cut_c _ _).mono ?_; rintro e w' ⟨rfl, rfl⟩)
      | (go_at_call 47; rw [Hm.out]; refine (root_c _ _).mono ?_; rintro e w' ⟨rfl, rfl⟩)
      | (go_at_call 48; refine (mul_c _ _ _).mono ?_; rintro e w' ⟨rfl, rfl⟩)
      | (go_at_call 49; refine (sub_c _ _ _).mono ?_; rintro e w' ⟨rfl, rfl⟩))
    go_ret
    exact ⟨rfl, rfl, rfl, rfl, Nat.le_refl _, fun _ _ => rfl⟩

set_option maxRecDepth 100000 in
theorem fxRoots_lifted (os : Os) (started : os.Started) (H : Type) (enc : TypeId × Value → H) :
    ReturnsInHanded {} Try.checked os 7 .any (Rows.fxRootsSpec.pre6 enc Try.prog Try.f7 Rows.fxRootsRow.domain false) (Rows.fxRootsSpec.post enc Try.prog Try.f7 false true false false) := by
  refine returnsInHanded_of_change (C := Try.checked) own started (by kernel_rfl) Try.func7
    (ChangeSpec.witness6 (enc := enc) (C := Try.checked) false ⟨#[], #[.int .i64 0, .int .i64 0], []⟩ 8 (by kernel_rfl) (by kernel_rfl) (by kernel_rfl) (by kernel_rfl)) ?_
  intro W base args ds gs before hval0 hW hcnd _
  have hval : ∀ (j : Nat) t v, Try.f7.params[j]? = some t → args[j]? = some v → Value.okWide Try.prog W .any base t v := hval0
  obtain ⟨p, q, hA0, _⟩ := id hW
  have hsz := (trodAll_length _ _ _ _ hA0).1
  obtain ⟨v0, v1, rfl⟩ : ∃ v0 v1, args = #[v0, v1] := by
    rcases args with ⟨_ | ⟨v0, _ | ⟨v1, _ | ⟨v2, l⟩⟩⟩⟩ <;> first | exact ⟨v0, v1, rfl⟩ | (simp [Try.params7] at hsz)
  obtain ⟨a0, rfl, b0⟩ := int_of_okv Try.underlying3 (hval 0 3 v0 (by rw [Try.params7]; rfl) rfl)
  obtain ⟨a1, rfl, b1⟩ := int_of_okv Try.underlying3 (hval 1 3 v1 (by rw [Try.params7]; rfl) rfl)
  refine (fxRoots_w a0 a1 W).mono fun e W' ⟨he, hb⟩ => ⟨_, he, ?_⟩
  exact law_post laid (by kernel_rfl) (by kernel_rfl) Try.underlying4 rfl (fun ds h => by match ds, h with | [d0, d1], _ => rfl) hW hb

theorem fxRoots_over : Rows.fxRootsRow.holds Try.pinned (OpenSpec.ofChange Rows.fxRootsSpec) :=
  OpenClaim.holds_of_wide 7 Try.f7 rfl rfl rfl rfl rfl rfl rfl ⟨rfl, rfl, rfl, rfl, rfl⟩ rfl rfl rfl rfl rfl (by kernel_rfl) Try.func7 (by kernel_rfl)
    (of_decide_eq_true (by kernel_rfl)) (by unfold Func.isWrapper; first | (rw [if_pos (by decide +kernel)]; kernel_rfl) | (rw [if_neg (by decide +kernel)]; exact ⟨rfl, rfl⟩))
    (fun os started H enc _ => fxRoots_lifted os started H enc)

theorem fxRoots_holds : Rows.FxRootsSaid := fxRoots_over
#print axioms fxRoots_holds
end Go.Proofs.Ytfagkbmphohelaa
