/- The contracts of solve.give, of the closure that gyreref.Speeds gives with, and of Right of both laws; plain: what a push does. Conditions: none. -/
import Derived.Test.YtfagkbmphohelaaSolve6
import Derived.Test.YtfagkbmphohelaaVec3
namespace Go.Proofs.Ytfagkbmphohelaa
open Go.ChangeShapes Go.WideShapes Go.ChangeAt Go.RowKit Go.BigFrame
/-- what giving does to two rows -/
def giveM (M : Nat → Nat → Int) (i k : Nat) (u1 u2 u3 j x y : Int) : Nat → Nat → Int :=
  put3 (put3 M i 9 (sub (M i 9) (mul u1 (mul j x))) (sub (M i 10) (mul u2 (mul j x))) (sub (M i 11) (mul u3 (mul j x)))) k 9 (add (M k 9) (mul u1 (mul j y))) (add (M k 10) (mul u2 (mul j y))) (add (M k 11) (mul u3 (mul j y)))

set_option maxRecDepth 100000 in
set_option maxHeartbeats 8000000 in
theorem give_c (M : Nat → Nat → Int) (b n i k : Nat) (u1 u2 u3 j x y : Int) (w : World) (hT : Tab w b n 17 M) (hi : i < n) (hk : k < n) (hne : i ≠ k) :
    Calls Try.prog 125 #[.pointer (some ⟨b, i * 17, none⟩), .pointer (some ⟨b, k * 17, none⟩), .agg #[.int .i64 u1, .int .i64 u2, .int .i64 u3], .int .i64 j, .int .i64 x, .int .i64 y] w fun e w' => e = .returned (.tuple #[]) ∧ Tab w' b n 17 (giveM M i k u1 u2 u3 j x y) ∧ Mod (· = b) w w' := by
  have hmc := more_cell
  have hmf := more_frozen
  have hml := more_lt
  have hT0 := hT
  have nbw : b ≠ w.heap.size := by have := hT.lt; omega
  go_enter Try.func125, Try.ntmps125
  go_wp2_with fail
  refine wp_fresh ?_
  rintro w1 hb1
  have B1_0 : Blk w1 (w.heap.size) _ := Blk.below (by repeat (with_reducible (first | assumption | (apply Blk.at; simp; done) | apply Blk.alloc | apply Blk.drew | apply Blk.drewN | apply Blk.more | apply Blk.put | (apply Blk.far; focus (first | assumption | (apply Ne.symm; assumption) | (simp; done) | (simp <;> omega)))))) hb1
  obtain ⟨z1_0, c1_0, f1_0⟩ := id B1_0
  have hT1 : Tab w1 b n 17 M := ((show Tab _ b n 17 M from (by repeat (with_reducible (first | assumption | apply Tab.alloc | apply Tab.drew | apply Tab.drewN | apply Tab.more | (apply Tab.far; focus (first | assumption | (apply Ne.symm; assumption) | (simp; done) | (simp <;> omega)))))))).below hb1
  have ya_0 := hT1.cell hi (j := 9) (by decide)
  have ya_1 := hT1.cell hi (j := 10) (by decide)
  have ya_2 := hT1.cell hi (j := 11) (by decide)
  have zba := hT1.lt
  go_wp2_with fail
  refine region_quiet_but 13 (by kernel_rfl) (by kernel_rfl) ?_
  simp only [List.take_succ_cons, List.take_zero, List.drop_succ_cons, List.drop_zero]
  repeat (go_big_quiet_step (first | (go_at_call 48; exact calls_after_same (mul_c _ _ _)) | (go_at_call 62; exact calls_after (times_c _ _ _ _ _)) | (go_at_call 60; exact calls_after (minus_c _ _ _ _ _ _ _))))
  refine wpQuiet_nil ?_
  rintro w2 hw2
  have hb2 := after_below hw2
  clear hw2
  have B2_0 : Blk w2 (w.heap.size) _ := Blk.below (by repeat (with_reducible (first | assumption | (apply Blk.at; simp; done) | apply Blk.alloc | apply Blk.drew | apply Blk.drewN | apply Blk.more | apply Blk.put | (apply Blk.far; focus (first | assumption | (apply Ne.symm; assumption) | (simp; done) | (simp <;> omega)))))) hb2
  obtain ⟨z2_0, c2_0, f2_0⟩ := id B2_0
  have hT2 : Tab w2 b n 17 M := ((show Tab _ b n 17 M from (by repeat (with_reducible (first | assumption | apply Tab.alloc | apply Tab.drew | apply Tab.drewN | apply Tab.more | (apply Tab.far; focus (first | assumption | (apply Ne.symm; assumption) | (simp; done) | (simp <;> omega)))))))).below hb2
  have va_0 : w2.cell? ⟨b, i * 17 + 9, none⟩ = some (.int .i64 (M i 9)) := hT2.cell hi (j := 9) (by decide)
  have ua_0 : w2.frozen? ⟨b, i * 17 + 9, none⟩ = false := hT2.free _
  have va_1 : w2.cell? ⟨b, i * 17 + 9 + 1, none⟩ = some (.int .i64 (M i 10)) := hT2.cell hi (j := 10) (by decide)
  have ua_1 : w2.frozen? ⟨b, i * 17 + 9 + 1, none⟩ = false := hT2.free _
  have va_2 : w2.cell? ⟨b, i * 17 + 9 + 2, none⟩ = some (.int .i64 (M i 11)) := hT2.cell hi (j := 11) (by decide)
  have ua_2 : w2.frozen? ⟨b, i * 17 + 9 + 2, none⟩ = false := hT2.free _
  have sa := hT2.lt
  go_wp2_with fail
  refine wp_fresh ?_
  rintro w3 hb3
  have B3_0 : Blk w3 (w.heap.size) _ := Blk.below (by repeat (with_reducible (first | assumption | (apply Blk.at; simp; done) | apply Blk.alloc | apply Blk.drew | apply Blk.drewN | apply Blk.more | apply Blk.put | (apply Blk.far; focus (first | assumption | (apply Ne.symm; assumption) | (simp; done) | (simp <;> omega)))))) hb3
  obtain ⟨z3_0, c3_0, f3_0⟩ := id B3_0
  obtain ⟨M1, hM1⟩ : ∃ N, N = put3 M i 9 (sub (M i 9) (mul u1 (mul j x))) (sub (M i 10) (mul u2 (mul j x))) (sub (M i 11) (mul u3 (mul j x))) := ⟨_, rfl⟩
  have hT3 : Tab w3 b n 17 M1 := by rw [hM1]; exact (hT2.set3 hi (j := 9) (by decide) _ _ _).below hb3
  have HM1 := Lib.hid hM1
  clear hM1
  go_wp2_with fail
  refine wp_fresh ?_
  rintro w4 hb4
  have B4_0 : Blk w4 (w.heap.size) _ := Blk.below (by repeat (with_reducible (first | assumption | (apply Blk.at; simp; done) | apply Blk.alloc | apply Blk.drew | apply Blk.drewN | apply Blk.more | apply Blk.put | (apply Blk.far; focus (first | assumption | (apply Ne.symm; assumption) | (simp; done) | (simp <;> omega)))))) hb4
  obtain ⟨z4_0, c4_0, f4_0⟩ := id B4_0
  have hT4 : Tab w4 b n 17 M1 := ((show Tab _ b n 17 M1 from (by repeat (with_reducible (first | assumption | apply Tab.alloc | apply Tab.drew | apply Tab.drewN | apply Tab.more | (apply Tab.far; focus (first | assumption | (apply Ne.symm; assumption) | (simp; done) | (simp <;> omega)))))))).below hb4
  have yb_0 := hT4.cell hk (j := 9) (by decide)
  have yb_1 := hT4.cell hk (j := 10) (by decide)
  have yb_2 := hT4.cell hk (j := 11) (by decide)
  have zbb := hT4.lt
  go_wp2_with fail
  refine region_quiet_but 13 (by kernel_rfl) (by kernel_rfl) ?_
  simp only [List.take_succ_cons, List.take_zero, List.drop_succ_cons, List.drop_zero]
  repeat (go_big_quiet_step (first | (go_at_call 48; exact calls_after_same (mul_c _ _ _)) | (go_at_call 62; exact calls_after (times_c _ _ _ _ _)) | (go_at_call 58; exact calls_after (plus_c _ _ _ _ _ _ _))))
  refine wpQuiet_nil ?_
  rintro w5 hw5
  have hb5 := after_below hw5
  clear hw5
  have B5_0 : Blk w5 (w.heap.size) _ := Blk.below (by repeat (with_reducible (first | assumption | (apply Blk.at; simp; done) | apply Blk.alloc | apply Blk.drew | apply Blk.drewN | apply Blk.more | apply Blk.put | (apply Blk.far; focus (first | assumption | (apply Ne.symm; assumption) | (simp; done) | (simp <;> omega)))))) hb5
  obtain ⟨z5_0, c5_0, f5_0⟩ := id B5_0
  have hT5 : Tab w5 b n 17 M1 := ((show Tab _ b n 17 M1 from (by repeat (with_reducible (first | assumption | apply Tab.alloc | apply Tab.drew | apply Tab.drewN | apply Tab.more | (apply Tab.far; focus (first | assumption | (apply Ne.symm; assumption) | (simp; done) | (simp <;> omega)))))))).below hb5
  have vb_0 : w5.cell? ⟨b, k * 17 + 9, none⟩ = some (.int .i64 (M1 k 9)) := hT5.cell hk (j := 9) (by decide)
  have ub_0 : w5.frozen? ⟨b, k * 17 + 9, none⟩ = false := hT5.free _
  have vb_1 : w5.cell? ⟨b, k * 17 + 9 + 1, none⟩ = some (.int .i64 (M1 k 10)) := hT5.cell hk (j := 10) (by decide)
  have ub_1 : w5.frozen? ⟨b, k * 17 + 9 + 1, none⟩ = false := hT5.free _
  have vb_2 : w5.cell? ⟨b, k * 17 + 9 + 2, none⟩ = some (.int .i64 (M1 k 11)) := hT5.cell hk (j := 11) (by decide)
  have ub_2 : w5.frozen? ⟨b, k * 17 + 9 + 2, none⟩ = false := hT5.free _
  have sb := hT5.lt
  go_wp2
  go_end0
  exact ⟨rfl, Tab.eq (hT5.set3 hk (j := 9) (by decide) _ _ _) (fun a _ c _ => by unfold giveM; rw [HM1.out]; simp only [put3_row _ _ _ _ _ _ (Ne.symm hne)]), (by repeat (with_reducible (first | exact Mod.refl _ _ | assumption | apply Mod.drew | apply Mod.drewN | apply Mod.alloc | apply Mod.more | (refine Mod.set ?_ (Or.inl rfl)) | (refine Mod.below ?_ (by assumption)))))⟩

set_option maxRecDepth 100000 in
set_option maxHeartbeats 8000000 in
theorem rgive_c (M : Nat → Nat → Int) (b n i k : Nat) (u1 u2 u3 j x y : Int) (cap pl pi px pk py : Nat) (w : World) (hT : Tab w b n 17 M) (hi : i < n) (hk : k < n) (hne : i ≠ k) (Bpl : Blk w pl #[.slice (some ⟨b, 0, none⟩) n cap]) (npl : b ≠ pl) (Bpi : Blk w pi #[.int .i64 i]) (npi : b ≠ pi) (Bpx : Blk w px #[.int .i64 x]) (npx : b ≠ px) (Bpk : Blk w pk #[.int .i64 k]) (npk : b ≠ pk) (Bpy : Blk w py #[.int .i64 y]) (npy : b ≠ py) :
    Calls Try.prog 116 #[.agg #[.int .i64 u1, .int .i64 u2, .int .i64 u3], .int .i64 j, .pointer (some ⟨pl, 0, none⟩), .pointer (some ⟨pi, 0, none⟩), .pointer (some ⟨px, 0, none⟩), .pointer (some ⟨pk, 0, none⟩), .pointer (some ⟨py, 0, none⟩)] w fun e w' => e = .returned (.tuple #[]) ∧ Tab w' b n 17 (giveM M i k u1 u2 u3 j x y) ∧ Mod (· = b) w w' := by
  have hmc := more_cell
  have hmf := more_frozen
  have hml := more_lt
  obtain ⟨zz4, cc4, ff4⟩ := id Bpy
  obtain ⟨zz3, cc3, ff3⟩ := id Bpk
  obtain ⟨zz2, cc2, ff2⟩ := id Bpx
  obtain ⟨zz1, cc1, ff1⟩ := id Bpi
  obtain ⟨zz0, cc0, ff0⟩ := id Bpl
  have hT0 := hT
  have nbw : b ≠ w.heap.size := by have := hT.lt; omega
  go_enter Try.func116, Try.ntmps116
  go_wp2_with fail
  refine wp_fresh ?_
  rintro w1 hb1
  have B1_0 : Blk w1 (pl) _ := Blk.below (by repeat (with_reducible (first | assumption | (apply Blk.at; simp; done) | apply Blk.alloc | apply Blk.drew | apply Blk.drewN | apply Blk.more | apply Blk.put | (apply Blk.far; focus (first | assumption | (apply Ne.symm; assumption) | (simp; done) | (simp <;> omega)))))) hb1
  obtain ⟨z1_0, c1_0, f1_0⟩ := id B1_0
  have B1_1 : Blk w1 (pi) _ := Blk.below (by repeat (with_reducible (first | assumption | (apply Blk.at; simp; done) | apply Blk.alloc | apply Blk.drew | apply Blk.drewN | apply Blk.more | apply Blk.put | (apply Blk.far; focus (first | assumption | (apply Ne.symm; assumption) | (simp; done) | (simp <;> omega)))))) hb1
  obtain ⟨z1_1, c1_1, f1_1⟩ := id B1_1
  have B1_2 : Blk w1 (px) _ := Blk.below (by repeat (with_reducible (first | assumption | (apply Blk.at; simp; done) | apply Blk.alloc | apply Blk.drew | apply Blk.drewN | apply Blk.more | apply Blk.put | (apply Blk.far; focus (first | assumption | (apply Ne.symm; assumption) | (simp; done) | (simp <;> omega)))))) hb1
  obtain ⟨z1_2, c1_2, f1_2⟩ := id B1_2
  have B1_3 : Blk w1 (pk) _ := Blk.below (by repeat (with_reducible (first | assumption | (apply Blk.at; simp; done) | apply Blk.alloc | apply Blk.drew | apply Blk.drewN | apply Blk.more | apply Blk.put | (apply Blk.far; focus (first | assumption | (apply Ne.symm; assumption) | (simp; done) | (simp <;> omega)))))) hb1
  obtain ⟨z1_3, c1_3, f1_3⟩ := id B1_3
  have B1_4 : Blk w1 (py) _ := Blk.below (by repeat (with_reducible (first | assumption | (apply Blk.at; simp; done) | apply Blk.alloc | apply Blk.drew | apply Blk.drewN | apply Blk.more | apply Blk.put | (apply Blk.far; focus (first | assumption | (apply Ne.symm; assumption) | (simp; done) | (simp <;> omega)))))) hb1
  obtain ⟨z1_4, c1_4, f1_4⟩ := id B1_4
  have B1_5 : Blk w1 (w.heap.size) _ := Blk.below (by repeat (with_reducible (first | assumption | (apply Blk.at; simp; done) | apply Blk.alloc | apply Blk.drew | apply Blk.drewN | apply Blk.more | apply Blk.put | (apply Blk.far; focus (first | assumption | (apply Ne.symm; assumption) | (simp; done) | (simp <;> omega)))))) hb1
  obtain ⟨z1_5, c1_5, f1_5⟩ := id B1_5
  have hT1 : Tab w1 b n 17 M := ((show Tab _ b n 17 M from (by repeat (with_reducible (first | assumption | apply Tab.alloc | apply Tab.drew | apply Tab.drewN | apply Tab.more | (apply Tab.far; focus (first | assumption | (apply Ne.symm; assumption) | (simp; done) | (simp <;> omega)))))))).below hb1
  have ya_0 := hT1.cell hi (j := 9) (by decide)
  have ya_1 := hT1.cell hi (j := 10) (by decide)
  have ya_2 := hT1.cell hi (j := 11) (by decide)
  have zba := hT1.lt
  go_wp2_with fail
  refine region_quiet_but 15 (by kernel_rfl) (by kernel_rfl) ?_
  simp only [List.take_succ_cons, List.take_zero, List.drop_succ_cons, List.drop_zero]
  repeat (go_big_quiet_step (first | (go_at_call 54; exact calls_after_same (rmul_c _ _ _)) | (go_at_call 63; exact calls_after (rtimes_c _ _ _ _ _)) | (go_at_call 61; exact calls_after (rminus_c _ _ _ _ _ _ _))))
  refine wpQuiet_nil ?_
  rintro w2 hw2
  have hb2 := after_below hw2
  clear hw2
  have B2_0 : Blk w2 (pl) _ := Blk.below (by repeat (with_reducible (first | assumption | (apply Blk.at; simp; done) | apply Blk.alloc | apply Blk.drew | apply Blk.drewN | apply Blk.more | apply Blk.put | (apply Blk.far; focus (first | assumption | (apply Ne.symm; assumption) | (simp; done) | (simp <;> omega)))))) hb2
  obtain ⟨z2_0, c2_0, f2_0⟩ := id B2_0
  have B2_1 : Blk w2 (pi) _ := Blk.below (by repeat (with_reducible (first | assumption | (apply Blk.at; simp; done) | apply Blk.alloc | apply Blk.drew | apply Blk.drewN | apply Blk.more | apply Blk.put | (apply Blk.far; focus (first | assumption | (apply Ne.symm; assumption) | (simp; done) | (simp <;> omega)))))) hb2
  obtain ⟨z2_1, c2_1, f2_1⟩ := id B2_1
  have B2_2 : Blk w2 (px) _ := Blk.below (by repeat (with_reducible (first | assumption | (apply Blk.at; simp; done) | apply Blk.alloc | apply Blk.drew | apply Blk.drewN | apply Blk.more | apply Blk.put | (apply Blk.far; focus (first | assumption | (apply Ne.symm; assumption) | (simp; done) | (simp <;> omega)))))) hb2
  obtain ⟨z2_2, c2_2, f2_2⟩ := id B2_2
  have B2_3 : Blk w2 (pk) _ := Blk.below (by repeat (with_reducible (first | assumption | (apply Blk.at; simp; done) | apply Blk.alloc | apply Blk.drew | apply Blk.drewN | apply Blk.more | apply Blk.put | (apply Blk.far; focus (first | assumption | (apply Ne.symm; assumption) | (simp; done) | (simp <;> omega)))))) hb2
  obtain ⟨z2_3, c2_3, f2_3⟩ := id B2_3
  have B2_4 : Blk w2 (py) _ := Blk.below (by repeat (with_reducible (first | assumption | (apply Blk.at; simp; done) | apply Blk.alloc | apply Blk.drew | apply Blk.drewN | apply Blk.more | apply Blk.put | (apply Blk.far; focus (first | assumption | (apply Ne.symm; assumption) | (simp; done) | (simp <;> omega)))))) hb2
  obtain ⟨z2_4, c2_4, f2_4⟩ := id B2_4
  have B2_5 : Blk w2 (w.heap.size) _ := Blk.below (by repeat (with_reducible (first | assumption | (apply Blk.at; simp; done) | apply Blk.alloc | apply Blk.drew | apply Blk.drewN | apply Blk.more | apply Blk.put | (apply Blk.far; focus (first | assumption | (apply Ne.symm; assumption) | (simp; done) | (simp <;> omega)))))) hb2
  obtain ⟨z2_5, c2_5, f2_5⟩ := id B2_5
  have hT2 : Tab w2 b n 17 M := ((show Tab _ b n 17 M from (by repeat (with_reducible (first | assumption | apply Tab.alloc | apply Tab.drew | apply Tab.drewN | apply Tab.more | (apply Tab.far; focus (first | assumption | (apply Ne.symm; assumption) | (simp; done) | (simp <;> omega)))))))).below hb2
  have va_0 : w2.cell? ⟨b, i * 17 + 9, none⟩ = some (.int .i64 (M i 9)) := hT2.cell hi (j := 9) (by decide)
  have ua_0 : w2.frozen? ⟨b, i * 17 + 9, none⟩ = false := hT2.free _
  have va_1 : w2.cell? ⟨b, i * 17 + 9 + 1, none⟩ = some (.int .i64 (M i 10)) := hT2.cell hi (j := 10) (by decide)
  have ua_1 : w2.frozen? ⟨b, i * 17 + 9 + 1, none⟩ = false := hT2.free _
  have va_2 : w2.cell? ⟨b, i * 17 + 9 + 2, none⟩ = some (.int .i64 (M i 11)) := hT2.cell hi (j := 11) (by decide)
  have ua_2 : w2.frozen? ⟨b, i * 17 + 9 + 2, none⟩ = false := hT2.free _
  have sa := hT2.lt
  go_wp2_with fail
  refine wp_fresh ?_
  rintro w3 hb3
  have B3_0 : Blk w3 (pl) _ := Blk.below (by repeat (with_reducible (first | assumption | (apply Blk.at; simp; done) | apply Blk.alloc | apply Blk.drew | apply Blk.drewN | apply Blk.more | apply Blk.put | (apply Blk.far; focus (first | assumption | (apply Ne.symm; assumption) | (simp; done) | (simp <;> omega)))))) hb3
  obtain ⟨z3_0, c3_0, f3_0⟩ := id B3_0
  have B3_1 : Blk w3 (pi) _ := Blk.below (by repeat (with_reducible (first | assumption | (apply Blk.at; simp; done) | apply Blk.alloc | apply Blk.drew | apply Blk.drewN | apply Blk.more | apply Blk.put | (apply Blk.far; focus (first | assumption | (apply Ne.symm; assumption) | (simp; done) | (simp <;> omega)))))) hb3
  obtain ⟨z3_1, c3_1, f3_1⟩ := id B3_1
  have B3_2 : Blk w3 (px) _ := Blk.below (by repeat (with_reducible (first | assumption | (apply Blk.at; simp; done) | apply Blk.alloc | apply Blk.drew | apply Blk.drewN | apply Blk.more | apply Blk.put | (apply Blk.far; focus (first | assumption | (apply Ne.symm; assumption) | (simp; done) | (simp <;> omega)))))) hb3
  obtain ⟨z3_2, c3_2, f3_2⟩ := id B3_2
  have B3_3 : Blk w3 (pk) _ := Blk.below (by repeat (with_reducible (first | assumption | (apply Blk.at; simp; done) | apply Blk.alloc | apply Blk.drew | apply Blk.drewN | apply Blk.more | apply Blk.put | (apply Blk.far; focus (first | assumption | (apply Ne.symm; assumption) | (simp; done) | (simp <;> omega)))))) hb3
  obtain ⟨z3_3, c3_3, f3_3⟩ := id B3_3
  have B3_4 : Blk w3 (py) _ := Blk.below (by repeat (with_reducible (first | assumption | (apply Blk.at; simp; done) | apply Blk.alloc | apply Blk.drew | apply Blk.drewN | apply Blk.more | apply Blk.put | (apply Blk.far; focus (first | assumption | (apply Ne.symm; assumption) | (simp; done) | (simp <;> omega)))))) hb3
  obtain ⟨z3_4, c3_4, f3_4⟩ := id B3_4
  have B3_5 : Blk w3 (w.heap.size) _ := Blk.below (by repeat (with_reducible (first | assumption | (apply Blk.at; simp; done) | apply Blk.alloc | apply Blk.drew | apply Blk.drewN | apply Blk.more | apply Blk.put | (apply Blk.far; focus (first | assumption | (apply Ne.symm; assumption) | (simp; done) | (simp <;> omega)))))) hb3
  obtain ⟨z3_5, c3_5, f3_5⟩ := id B3_5
  obtain ⟨M1, hM1⟩ : ∃ N, N = put3 M i 9 (sub (M i 9) (mul u1 (mul j x))) (sub (M i 10) (mul u2 (mul j x))) (sub (M i 11) (mul u3 (mul j x))) := ⟨_, rfl⟩
  have hT3 : Tab w3 b n 17 M1 := by rw [hM1]; exact (hT2.set3 hi (j := 9) (by decide) _ _ _).below hb3
  have HM1 := Lib.hid hM1
  clear hM1
  go_wp2_with fail
  refine wp_fresh ?_
  rintro w4 hb4
  have B4_0 : Blk w4 (pl) _ := Blk.below (by repeat (with_reducible (first | assumption | (apply Blk.at; simp; done) | apply Blk.alloc | apply Blk.drew | apply Blk.drewN | apply Blk.more | apply Blk.put | (apply Blk.far; focus (first | assumption | (apply Ne.symm; assumption) | (simp; done) | (simp <;> omega)))))) hb4
  obtain ⟨z4_0, c4_0, f4_0⟩ := id B4_0
  have B4_1 : Blk w4 (pi) _ := Blk.below (by repeat (with_reducible (first | assumption | (apply Blk.at; simp; done) | apply Blk.alloc | apply Blk.drew | apply Blk.drewN | apply Blk.more | apply Blk.put | (apply Blk.far; focus (first | assumption | (apply Ne.symm; assumption) | (simp; done) | (simp <;> omega)))))) hb4
  obtain ⟨z4_1, c4_1, f4_1⟩ := id B4_1
  have B4_2 : Blk w4 (px) _ := Blk.below (by repeat (with_reducible (first | assumption | (apply Blk.at; simp; done) | apply Blk.alloc | apply Blk.drew | apply Blk.drewN | apply Blk.more | apply Blk.put | (apply Blk.far; focus (first | assumption | (apply Ne.symm; assumption) | (simp; done) | (simp <;> omega)))))) hb4
  obtain ⟨z4_2, c4_2, f4_2⟩ := id B4_2
  have B4_3 : Blk w4 (pk) _ := Blk.below (by repeat (with_reducible (first | assumption | (apply Blk.at; simp; done) | apply Blk.alloc | apply Blk.drew | apply Blk.drewN | apply Blk.more | apply Blk.put | (apply Blk.far; focus (first | assumption | (apply Ne.symm; assumption) | (simp; done) | (simp <;> omega)))))) hb4
  obtain ⟨z4_3, c4_3, f4_3⟩ := id B4_3
  have B4_4 : Blk w4 (py) _ := Blk.below (by repeat (with_reducible (first | assumption | (apply Blk.at; simp; done) | apply Blk.alloc | apply Blk.drew | apply Blk.drewN | apply Blk.more | apply Blk.put | (apply Blk.far; focus (first | assumption | (apply Ne.symm; assumption) | (simp; done) | (simp <;> omega)))))) hb4
  obtain ⟨z4_4, c4_4, f4_4⟩ := id B4_4
  have B4_5 : Blk w4 (w.heap.size) _ := Blk.below (by repeat (with_reducible (first | assumption | (apply Blk.at; simp; done) | apply Blk.alloc | apply Blk.drew | apply Blk.drewN | apply Blk.more | apply Blk.put | (apply Blk.far; focus (first | assumption | (apply Ne.symm; assumption) | (simp; done) | (simp <;> omega)))))) hb4
  obtain ⟨z4_5, c4_5, f4_5⟩ := id B4_5
  have hT4 : Tab w4 b n 17 M1 := ((show Tab _ b n 17 M1 from (by repeat (with_reducible (first | assumption | apply Tab.alloc | apply Tab.drew | apply Tab.drewN | apply Tab.more | (apply Tab.far; focus (first | assumption | (apply Ne.symm; assumption) | (simp; done) | (simp <;> omega)))))))).below hb4
  have yb_0 := hT4.cell hk (j := 9) (by decide)
  have yb_1 := hT4.cell hk (j := 10) (by decide)
  have yb_2 := hT4.cell hk (j := 11) (by decide)
  have zbb := hT4.lt
  go_wp2_with fail
  refine region_quiet_but 15 (by kernel_rfl) (by kernel_rfl) ?_
  simp only [List.take_succ_cons, List.take_zero, List.drop_succ_cons, List.drop_zero]
  repeat (go_big_quiet_step (first | (go_at_call 54; exact calls_after_same (rmul_c _ _ _)) | (go_at_call 63; exact calls_after (rtimes_c _ _ _ _ _)) | (go_at_call 59; exact calls_after (rplus_c _ _ _ _ _ _ _))))
  refine wpQuiet_nil ?_
  rintro w5 hw5
  have hb5 := after_below hw5
  clear hw5
  have B5_0 : Blk w5 (pl) _ := Blk.below (by repeat (with_reducible (first | assumption | (apply Blk.at; simp; done) | apply Blk.alloc | apply Blk.drew | apply Blk.drewN | apply Blk.more | apply Blk.put | (apply Blk.far; focus (first | assumption | (apply Ne.symm; assumption) | (simp; done) | (simp <;> omega)))))) hb5
  obtain ⟨z5_0, c5_0, f5_0⟩ := id B5_0
  have B5_1 : Blk w5 (pi) _ := Blk.below (by repeat (with_reducible (first | assumption | (apply Blk.at; simp; done) | apply Blk.alloc | apply Blk.drew | apply Blk.drewN | apply Blk.more | apply Blk.put | (apply Blk.far; focus (first | assumption | (apply Ne.symm; assumption) | (simp; done) | (simp <;> omega)))))) hb5
  obtain ⟨z5_1, c5_1, f5_1⟩ := id B5_1
  have B5_2 : Blk w5 (px) _ := Blk.below (by repeat (with_reducible (first | assumption | (apply Blk.at; simp; done) | apply Blk.alloc | apply Blk.drew | apply Blk.drewN | apply Blk.more | apply Blk.put | (apply Blk.far; focus (first | assumption | (apply Ne.symm; assumption) | (simp; done) | (simp <;> omega)))))) hb5
  obtain ⟨z5_2, c5_2, f5_2⟩ := id B5_2
  have B5_3 : Blk w5 (pk) _ := Blk.below (by repeat (with_reducible (first | assumption | (apply Blk.at; simp; done) | apply Blk.alloc | apply Blk.drew | apply Blk.drewN | apply Blk.more | apply Blk.put | (apply Blk.far; focus (first | assumption | (apply Ne.symm; assumption) | (simp; done) | (simp <;> omega)))))) hb5
  obtain ⟨z5_3, c5_3, f5_3⟩ := id B5_3
  have B5_4 : Blk w5 (py) _ := Blk.below (by repeat (with_reducible (first | assumption | (apply Blk.at; simp; done) | apply Blk.alloc | apply Blk.drew | apply Blk.drewN | apply Blk.more | apply Blk.put | (apply Blk.far; focus (first | assumption | (apply Ne.symm; assumption) | (simp; done) | (simp <;> omega)))))) hb5
  obtain ⟨z5_4, c5_4, f5_4⟩ := id B5_4
  have B5_5 : Blk w5 (w.heap.size) _ := Blk.below (by repeat (with_reducible (first | assumption | (apply Blk.at; simp; done) | apply Blk.alloc | apply Blk.drew | apply Blk.drewN | apply Blk.more | apply Blk.put | (apply Blk.far; focus (first | assumption | (apply Ne.symm; assumption) | (simp; done) | (simp <;> omega)))))) hb5
  obtain ⟨z5_5, c5_5, f5_5⟩ := id B5_5
  have hT5 : Tab w5 b n 17 M1 := ((show Tab _ b n 17 M1 from (by repeat (with_reducible (first | assumption | apply Tab.alloc | apply Tab.drew | apply Tab.drewN | apply Tab.more | (apply Tab.far; focus (first | assumption | (apply Ne.symm; assumption) | (simp; done) | (simp <;> omega)))))))).below hb5
  have vb_0 : w5.cell? ⟨b, k * 17 + 9, none⟩ = some (.int .i64 (M1 k 9)) := hT5.cell hk (j := 9) (by decide)
  have ub_0 : w5.frozen? ⟨b, k * 17 + 9, none⟩ = false := hT5.free _
  have vb_1 : w5.cell? ⟨b, k * 17 + 9 + 1, none⟩ = some (.int .i64 (M1 k 10)) := hT5.cell hk (j := 10) (by decide)
  have ub_1 : w5.frozen? ⟨b, k * 17 + 9 + 1, none⟩ = false := hT5.free _
  have vb_2 : w5.cell? ⟨b, k * 17 + 9 + 2, none⟩ = some (.int .i64 (M1 k 11)) := hT5.cell hk (j := 11) (by decide)
  have ub_2 : w5.frozen? ⟨b, k * 17 + 9 + 2, none⟩ = false := hT5.free _
  have sb := hT5.lt
  go_wp2
  go_end0
  exact ⟨rfl, Tab.eq (hT5.set3 hk (j := 9) (by decide) _ _ _) (fun a _ c _ => by unfold giveM; rw [HM1.out]; simp only [put3_row _ _ _ _ _ _ (Ne.symm hne)]), (by repeat (with_reducible (first | exact Mod.refl _ _ | assumption | apply Mod.drew | apply Mod.drewN | apply Mod.alloc | apply Mod.more | (refine Mod.set ?_ (Or.inl rfl)) | (refine Mod.below ?_ (by assumption)))))⟩

end Go.Proofs.Ytfagkbmphohelaa
