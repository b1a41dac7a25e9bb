/- The walk of gyrelaw.WireAsks. Conditions: what the variable errors.errorType holds. -/
import Derived.Test.YtnkinnfpebploaaDoorRask
import Derived.Test.YtnkinnfpebploaaDoorWtells
namespace Go.Proofs.YtnkinnfpebploaaDoor
open Go.ChangeShapes Go.WideShapes Go.ChangeAt Go.RowKit Go.BigFrame
open B
theorem list8 {α : Type} (l : List α) (h : l.length = 8) : ∃ x0 x1 x2 x3 x4 x5 x6 x7 : α, l = [x0, x1, x2, x3, x4, x5, x6, x7] := by
  match l, h with
  | [x0, x1, x2, x3, x4, x5, x6, x7], _ => exact ⟨x0, x1, x2, x3, x4, x5, x6, x7, rfl⟩
theorem command_c (t n s k b x y z : Int) (w : World) : Calls Tryd.prog 48 #[.agg #[.int .i64 t, .int .i64 n, .int .i64 s, .int .i64 k, .int .i64 b, .int .i64 x, .int .i64 y, .int .i64 z]] w fun e w' => e = .returned (.agg #[.int .i64 t, .int .i64 n, .int .i64 s, .int .i64 k, .int .i64 b, .int .i64 x, .int .i64 y, .int .i64 z]) ∧ Below w.heap.size w w' := by
  go_enter Tryd.func48, Tryd.ntmps48
  go_wp2
  exact bodyPost_ret (v := .agg #[.int .i64 t, .int .i64 n, .int .i64 s, .int .i64 k, .int .i64 b, .int .i64 x, .int .i64 y, .int .i64 z]) (by simp [results, Tryd.results48, go_sem, *]) rfl ⟨rfl, (by repeat (with_reducible (first | exact Below.refl _ _ | assumption | apply ext_drew | apply ext_drewN | apply ext_alloc | apply ext_more | (refine ext_setCell ?_ (by simp <;> omega) _) | (refine ext_below ?_ (by assumption)))))⟩
theorem ask_c (t n s k b x y z : Int) (w : World) (h0 : 0 ≤ k) (h2 : k ≤ 2) : Calls Tryd.prog 49 #[.agg #[.int .i64 t, .int .i64 n, .int .i64 s, .int .i64 k, .int .i64 b, .int .i64 x, .int .i64 y, .int .i64 z]] w (AskPost t n s k b x y z w) := by
  have : k = 0 ∨ k = 1 ∨ k = 2 := by omega
  rcases this with rfl | rfl | rfl
  · exact ask_0 t n s b x y z w
  · exact ask_1 t n s b x y z w
  · exact ask_2 t n s b x y z w
theorem rask_c (t n s k b x y z : Int) (w : World) (h0 : 0 ≤ k) (h2 : k ≤ 2) : Calls Tryd.prog 47 #[.agg #[.int .i64 t, .int .i64 n, .int .i64 s, .int .i64 k, .int .i64 b, .int .i64 x, .int .i64 y, .int .i64 z]] w (RAskPost t n s k b x y z w) := by
  have : k = 0 ∨ k = 1 ∨ k = 2 := by omega
  rcases this with rfl | rfl | rfl
  · exact rask_0 t n s b x y z w
  · exact rask_1 t n s b x y z w
  · exact rask_2 t n s b x y z w
theorem askL_bin (t n s k b x y z : Int) : Bin (askL t n s k b x y z) := by
  have hv : ∀ xs : List Int, Bin (varsL xs) := by
    intro xs
    induction xs with
    | nil => exact Bin.nil
    | cons a xs ih => have e : varsL (a :: xs) = varL a.toNat ++ varsL xs := by unfold varsL; simp
                      rw [e]; exact (varL_bin _).append ih
  have hi : ∀ xs : List Int, Bin (intsL xs) := by
    intro xs
    induction xs with
    | nil => exact Bin.nil
    | cons a xs ih => have e : intsL (a :: xs) = intL a ++ intsL xs := by unfold intsL; simp
                      rw [e]; exact (intL_bin _).append ih
  unfold askL
  refine Bin.append (Bin.append (Bin.append (hv _) (bitsOf_bin _ _)) ?_) ?_
  · split
    · exact hv _
    · exact Bin.nil
  · split
    · exact hi _
    · exact Bin.nil
set_option maxHeartbeats 2000000 in
theorem wireAsks_w (t n s k b x y z : Int) (w : World) (hH : Handle w) : Calls Tryd.prog 9 #[.agg #[.int .i64 t, .int .i64 n, .int .i64 s, .int .i64 k, .int .i64 b, .int .i64 x, .int .i64 y, .int .i64 z]] w fun e w' => e = .returned (.bool true) ∧ Below w.heap.size w w' := by
  obtain ⟨AL, hAL⟩ : ∃ l, l = pack (askL t n s k b x y z) := ⟨_, rfl⟩
  have HAL := Lib.hid hAL
  clear hAL
  by_cases hk : k < 0 ∨ 2 < k
  · have HK := Lib.hid hk
    clear hk
    go_enter Tryd.func9, Tryd.ntmps9
    go_wp2_with fail
    with_reducible refine (command_c t n s k b x y z _).mono ?_
    rintro e w0 ⟨rfl, hb0⟩
    go_wp2_with fail
    with_reducible refine (rask_kind t n s k b x y z _ HK.out).mono ?_
    rintro e w1 ⟨rfl, hb1⟩
    have hr1 : Rdb w1 (.slice none 0 0) [] := ⟨none, 0, rfl, fun h => absurd h (by simp)⟩
    have hX1 := (Blk.fresh w #[.int .i64 t, .int .i64 n, .int .i64 s, .int .i64 k, .int .i64 b, .int .i64 x, .int .i64 y, .int .i64 z] 94).below (hb0.trans (hb1.mono hb0.size))
    have hB1 : Below w.heap.size w w1 := (balloc _ _).trans ((hb0.trans (hb1.mono hb0.size)).mono (by simp))
    obtain ⟨z1, c1', f1⟩ := id hX1
    go_wp2_with fail
    with_reducible refine (ask_kind t n s k b x y z _ HK.out).mono ?_
    rintro e w2 ⟨rfl, hb2⟩
    have hr2 : Rdb w2 (.slice none 0 0) [] := ⟨none, 0, rfl, fun h => absurd h (by simp)⟩
    have hB2 := hB1.trans (hb2.mono hB1.size)
    have hr1 := hr1.below hb2
    clear hX1 z1 c1' f1
    go_wp2_with fail
    with_reducible refine (lbare_eq2 1 1 (.iface 25 (.int .i64 1)) _ (hH.below hB2) rfl rfl).mono ?_
    rintro e w3 ⟨rfl, hb3⟩
    have hc1 := conv_rdb (hr1.below hb3)
    have hc2 := conv_rdb (hr2.below hb3)
    clear hr1 hr2
    go_wp2
    go_ret
    exact ⟨rfl, hB2.trans (hb3.mono hB2.size)⟩
  · have hk0 : 0 ≤ k := by omega
    have hk2 : k ≤ 2 := by omega
    have HK0 := Lib.hid hk0
    have HK2 := Lib.hid hk2
    clear hk hk0 hk2
    by_cases hok : AskOk t n s k b x y z
    · have HOK := Lib.hid hok
      clear hok
      go_enter Tryd.func9, Tryd.ntmps9
      go_wp2_with fail
      with_reducible refine (command_c t n s k b x y z _).mono ?_
      rintro e w0 ⟨rfl, hb0⟩
      go_wp2_with fail
      with_reducible refine (rask_c t n s k b x y z _ HK0.out HK2.out).mono ?_
      rintro e w1 (⟨_, A1, c1, rfl, hs1, hb1⟩ | ⟨hno, _⟩)
      rotate_left
      · exact absurd HOK.out hno
      have hr1 := Rdb.of_row hs1
      rw [← HAL.out] at hr1
      rw [← HAL.out]
      have hX1 := (Blk.fresh w #[.int .i64 t, .int .i64 n, .int .i64 s, .int .i64 k, .int .i64 b, .int .i64 x, .int .i64 y, .int .i64 z] 94).below (hb0.trans (hb1.mono hb0.size))
      have hB1 : Below w.heap.size w w1 := (balloc _ _).trans ((hb0.trans (hb1.mono hb0.size)).mono (by simp))
      obtain ⟨z1, c1', f1⟩ := id hX1
      go_wp2_with fail
      with_reducible refine (ask_c t n s k b x y z _ HK0.out HK2.out).mono ?_
      rintro e w2 (⟨_, A2, c2, rfl, hs2, hb2⟩ | ⟨hno, _⟩)
      rotate_left
      · exact absurd HOK.out hno
      have hr2 := Rdb.of_row hs2
      rw [← HAL.out] at hr2
      rw [← HAL.out]
      have hB2 := hB1.trans (hb2.mono hB1.size)
      have hr1 := hr1.below hb2
      clear hX1 z1 c1' f1
      go_wp2_with fail
      with_reducible refine (lbare_eq2 0 0 .nilIface _ (hH.below hB2) rfl rfl).mono ?_
      rintro e w3 ⟨rfl, hb3⟩
      have hc1 := conv_rdb (hr1.below hb3)
      have hc2 := conv_rdb (hr2.below hb3)
      clear hr1 hr2
      go_wp2
      go_ret
      exact ⟨rfl, hB2.trans (hb3.mono hB2.size)⟩
    · have HOK := Lib.hid hok
      clear hok
      go_enter Tryd.func9, Tryd.ntmps9
      go_wp2_with fail
      with_reducible refine (command_c t n s k b x y z _).mono ?_
      rintro e w0 ⟨rfl, hb0⟩
      go_wp2_with fail
      with_reducible refine (rask_c t n s k b x y z _ HK0.out HK2.out).mono ?_
      rintro e w1 (⟨hyes, _⟩ | ⟨_, rfl, hb1⟩)
      · exact absurd hyes HOK.out
      have hr1 : Rdb w1 (.slice none 0 0) [] := ⟨none, 0, rfl, fun h => absurd h (by simp)⟩
      have hX1 := (Blk.fresh w #[.int .i64 t, .int .i64 n, .int .i64 s, .int .i64 k, .int .i64 b, .int .i64 x, .int .i64 y, .int .i64 z] 94).below (hb0.trans (hb1.mono hb0.size))
      have hB1 : Below w.heap.size w w1 := (balloc _ _).trans ((hb0.trans (hb1.mono hb0.size)).mono (by simp))
      obtain ⟨z1, c1', f1⟩ := id hX1
      go_wp2_with fail
      with_reducible refine (ask_c t n s k b x y z _ HK0.out HK2.out).mono ?_
      rintro e w2 (⟨hyes, _⟩ | ⟨_, rfl, hb2⟩)
      · exact absurd hyes HOK.out
      have hr2 : Rdb w2 (.slice none 0 0) [] := ⟨none, 0, rfl, fun h => absurd h (by simp)⟩
      have hB2 := hB1.trans (hb2.mono hB1.size)
      have hr1 := hr1.below hb2
      clear hX1 z1 c1' f1
      go_wp2_with fail
      with_reducible refine (lbare_eq2 2 2 (.iface 25 (.int .i64 2)) _ (hH.below hB2) rfl rfl).mono ?_
      rintro e w3 ⟨rfl, hb3⟩
      have hc1 := conv_rdb (hr1.below hb3)
      have hc2 := conv_rdb (hr2.below hb3)
      clear hr1 hr2
      go_wp2
      go_ret
      exact ⟨rfl, hB2.trans (hb3.mono hB2.size)⟩
end Go.Proofs.YtnkinnfpebploaaDoor
