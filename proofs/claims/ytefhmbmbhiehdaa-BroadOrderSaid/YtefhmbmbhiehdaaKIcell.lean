/- interest: cells and corners. Conditions: none. -/
import Derived.Test.YtefhmbmbhiehdaaProg
import Derived.Test.YtefhmbmbhiehdaaKA
import Derived.Test.YtefhmbmbhiehdaaKGrow
namespace Go.Proofs.Ytefhmbmbhiehdaa
open Go.RowKit Go.BigFrame
/-- within the world, and a body's size more -/
def kl (n : Int) : Int := max (-68812800) (min 68812800 n)
/-- where a number is -/
def kc (n : Int) : Int := kl n / 1048576
theorem kl_bd (n : Int) : -68812800 ≤ kl n ∧ kl n ≤ 68812800 := by unfold kl; omega
theorem kc_bd (n : Int) : -66 ≤ kc n ∧ kc n ≤ 65 := by have := kl_bd n; unfold kc; omega
theorem kc_mono {a b : Int} (h : a ≤ b) : kc a ≤ kc b := by unfold kc kl; omega
set_option maxHeartbeats 1000000 in
theorem down_c (n : Int) (hn : -68812800 ≤ n ∧ n ≤ 68812800) (w : World) : Calls Try.prog 92 #[.int .i64 n] w fun e w' => e = .returned (.int .i64 (n / 1048576)) ∧ w = w' := by
  go_enter Try.func92, Try.ntmps92
  by_cases h : n < 0
  · have d : decide (n < 0) = true := decide_eq_true h
    go_wp2
    go_ret
    exact ⟨congrArg (fun x => Ending.returned (.int .i64 x)) (show -((1048575 - n) / 1048576) = n / 1048576 by omega), rfl⟩
  · have d : decide (n < 0) = false := decide_eq_false h
    go_wp2
    go_ret
    exact ⟨rfl, rfl⟩
set_option maxHeartbeats 1000000 in
theorem kc_c (n : Int) (w : World) : Calls Try.prog 91 #[.int .i64 n] w fun e w' => e = .returned (.int .i64 (kc n)) ∧ w = w' := by
  go_enter Try.func91, Try.ntmps91
  rcases Int.lt_or_le n 68812800 with h1 | h1
  · rcases Int.lt_or_le (-68812800) n with h2 | h2
    · have hk : kc n = n / 1048576 := by unfold kc kl; omega
      go_wp2_with fail
      refine (down_c n (by omega) _).mono ?_
      rintro e w' ⟨rfl, rfl⟩
      go_wp2
      go_ret
      rw [hk]
      exact ⟨rfl, rfl⟩
    · have hk : kc n = -68812800 / 1048576 := by unfold kc kl; omega
      have h3 : ¬ -68812800 < n := by omega
      go_wp2_with fail
      refine (down_c (-68812800) (by omega) _).mono ?_
      rintro e w' ⟨rfl, rfl⟩
      go_wp2
      go_ret
      rw [hk]
      exact ⟨rfl, rfl⟩
  · have hk : kc n = 68812800 / 1048576 := by unfold kc kl; omega
    have h3 : ¬ n < 68812800 := by omega
    go_wp2_with fail
    refine (down_c 68812800 (by omega) _).mono ?_
    rintro e w' ⟨rfl, rfl⟩
    go_wp2
    go_ret
    rw [hk]
    exact ⟨rfl, rfl⟩
set_option maxRecDepth 100000 in
set_option maxHeartbeats 2000000 in
theorem corner_c (x y z : Int) (w : World) : Calls Try.prog 90 #[.agg #[.int .i64 (x), .int .i64 (y), .int .i64 (z)]] w fun e w' => e = .returned (.agg #[.int .i64 (kc x), .int .i64 (kc y), .int .i64 (kc z)]) ∧ Below w.heap.size w w' := by
  have hmc := more_cell
  have hmf := more_frozen
  have hml := more_lt
  go_enter Try.func90, Try.ntmps90
  go_wp2_with fail
  refine wp_fresh ?_
  rintro w1 hb1
  have B1_0 : Blk w1 (w.heap.size) _ := Blk.below (by repeat (with_reducible (first | assumption | (apply Blk.at; simp; done) | apply Blk.alloc | apply Blk.drew | apply Blk.drewN | apply Blk.more | apply Blk.put | (apply Blk.far; focus (first | assumption | (apply Ne.symm; assumption) | (simp; done) | (simp <;> omega)))))) hb1
  obtain ⟨z1_0, c1_0, f1_0⟩ := id B1_0
  have B1_1 : Blk w1 (w.heap.size + 1) _ := Blk.below (by repeat (with_reducible (first | assumption | (apply Blk.at; simp; done) | apply Blk.alloc | apply Blk.drew | apply Blk.drewN | apply Blk.more | apply Blk.put | (apply Blk.far; focus (first | assumption | (apply Ne.symm; assumption) | (simp; done) | (simp <;> omega)))))) hb1
  obtain ⟨z1_1, c1_1, f1_1⟩ := id B1_1
  refine region_quiet_but 13 (by kernel_rfl) (by kernel_rfl) ?_
  simp only [List.take_succ_cons, List.take_zero, List.drop_succ_cons, List.drop_zero]
  repeat (go_big_quiet_step ((go_at_call 91; exact calls_after_same (kc_c _ _))))
  refine wpQuiet_nil ?_
  rintro w2 hw2
  have hb2 := after_below hw2
  clear hw2
  have B2_0 : Blk w2 (w.heap.size) _ := Blk.below (by repeat (with_reducible (first | assumption | (apply Blk.at; simp; done) | apply Blk.alloc | apply Blk.drew | apply Blk.drewN | apply Blk.more | apply Blk.put | (apply Blk.far; focus (first | assumption | (apply Ne.symm; assumption) | (simp; done) | (simp <;> omega)))))) hb2
  obtain ⟨z2_0, c2_0, f2_0⟩ := id B2_0
  have B2_1 : Blk w2 (w.heap.size + 1) _ := Blk.below (by repeat (with_reducible (first | assumption | (apply Blk.at; simp; done) | apply Blk.alloc | apply Blk.drew | apply Blk.drewN | apply Blk.more | apply Blk.put | (apply Blk.far; focus (first | assumption | (apply Ne.symm; assumption) | (simp; done) | (simp <;> omega)))))) hb2
  obtain ⟨z2_1, c2_1, f2_1⟩ := id B2_1
  go_wp2
  exact bodyPost_ret (v := .agg #[.int .i64 (kc x), .int .i64 (kc y), .int .i64 (kc z)]) (by simp [results, Try.results90, go_sem, *]) rfl ⟨rfl, (by repeat (with_reducible (first | exact Below.refl _ _ | assumption | apply ext_drew | apply ext_drewN | apply ext_alloc | apply ext_more | (refine ext_setCell ?_ (by first | assumption | (simp <;> omega)) _) | (refine ext_below ?_ (by assumption)))))⟩

set_option maxRecDepth 100000 in
set_option maxHeartbeats 2000000 in
theorem corners_c (a1 a2 a3 b1 b2 b3 : Int) (w : World) : Calls Try.prog 48 #[.agg #[.int .i64 (a1), .int .i64 (a2), .int .i64 (a3), .int .i64 (b1), .int .i64 (b2), .int .i64 (b3)]] w fun e w' => e = .returned (.tuple #[.agg #[.int .i64 (kc a1), .int .i64 (kc a2), .int .i64 (kc a3)], .agg #[.int .i64 (kc b1), .int .i64 (kc b2), .int .i64 (kc b3)]]) ∧ Below w.heap.size w w' := by
  have hmc := more_cell
  have hmf := more_frozen
  have hml := more_lt
  go_enter Try.func48, Try.ntmps48
  go_wp2_with fail
  refine wp_fresh ?_
  rintro w1 hb1
  have B1_0 : Blk w1 (w.heap.size) _ := Blk.below (by repeat (with_reducible (first | assumption | (apply Blk.at; simp; done) | apply Blk.alloc | apply Blk.drew | apply Blk.drewN | apply Blk.more | apply Blk.put | (apply Blk.far; focus (first | assumption | (apply Ne.symm; assumption) | (simp; done) | (simp <;> omega)))))) hb1
  obtain ⟨z1_0, c1_0, f1_0⟩ := id B1_0
  have B1_1 : Blk w1 (w.heap.size + 1) _ := Blk.below (by repeat (with_reducible (first | assumption | (apply Blk.at; simp; done) | apply Blk.alloc | apply Blk.drew | apply Blk.drewN | apply Blk.more | apply Blk.put | (apply Blk.far; focus (first | assumption | (apply Ne.symm; assumption) | (simp; done) | (simp <;> omega)))))) hb1
  obtain ⟨z1_1, c1_1, f1_1⟩ := id B1_1
  have B1_2 : Blk w1 (w.heap.size + 1 + 1) _ := Blk.below (by repeat (with_reducible (first | assumption | (apply Blk.at; simp; done) | apply Blk.alloc | apply Blk.drew | apply Blk.drewN | apply Blk.more | apply Blk.put | (apply Blk.far; focus (first | assumption | (apply Ne.symm; assumption) | (simp; done) | (simp <;> omega)))))) hb1
  obtain ⟨z1_2, c1_2, f1_2⟩ := id B1_2
  refine region_quiet_but 8 (by kernel_rfl) (by kernel_rfl) ?_
  simp only [List.take_succ_cons, List.take_zero, List.drop_succ_cons, List.drop_zero]
  repeat (go_big_quiet_step ((go_at_call 90; exact calls_after (corner_c _ _ _ _))))
  refine wpQuiet_nil ?_
  rintro w2 hw2
  have hb2 := after_below hw2
  clear hw2
  have B2_0 : Blk w2 (w.heap.size) _ := Blk.below (by repeat (with_reducible (first | assumption | (apply Blk.at; simp; done) | apply Blk.alloc | apply Blk.drew | apply Blk.drewN | apply Blk.more | apply Blk.put | (apply Blk.far; focus (first | assumption | (apply Ne.symm; assumption) | (simp; done) | (simp <;> omega)))))) hb2
  obtain ⟨z2_0, c2_0, f2_0⟩ := id B2_0
  have B2_1 : Blk w2 (w.heap.size + 1) _ := Blk.below (by repeat (with_reducible (first | assumption | (apply Blk.at; simp; done) | apply Blk.alloc | apply Blk.drew | apply Blk.drewN | apply Blk.more | apply Blk.put | (apply Blk.far; focus (first | assumption | (apply Ne.symm; assumption) | (simp; done) | (simp <;> omega)))))) hb2
  obtain ⟨z2_1, c2_1, f2_1⟩ := id B2_1
  have B2_2 : Blk w2 (w.heap.size + 1 + 1) _ := Blk.below (by repeat (with_reducible (first | assumption | (apply Blk.at; simp; done) | apply Blk.alloc | apply Blk.drew | apply Blk.drewN | apply Blk.more | apply Blk.put | (apply Blk.far; focus (first | assumption | (apply Ne.symm; assumption) | (simp; done) | (simp <;> omega)))))) hb2
  obtain ⟨z2_2, c2_2, f2_2⟩ := id B2_2
  go_wp2
  exact bodyPost_ret (v := .tuple #[.agg #[.int .i64 (kc a1), .int .i64 (kc a2), .int .i64 (kc a3)], .agg #[.int .i64 (kc b1), .int .i64 (kc b2), .int .i64 (kc b3)]]) (by simp [results, Try.results48, go_sem, *]) rfl ⟨rfl, (by repeat (with_reducible (first | exact Below.refl _ _ | assumption | apply ext_drew | apply ext_drewN | apply ext_alloc | apply ext_more | (refine ext_setCell ?_ (by first | assumption | (simp <;> omega)) _) | (refine ext_below ?_ (by assumption)))))⟩

end Go.Proofs.Ytefhmbmbhiehdaa
