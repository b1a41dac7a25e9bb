/- The contract of geom.Touches. Conditions: shapes that may be. -/
import Derived.Test.YtfagkbmphohelaaTouchP
import Derived.Test.YtfagkbmphohelaaLate
namespace Go.Proofs.Ytfagkbmphohelaa
open Go.ChangeShapes Go.WideShapes Go.ChangeAt Go.RowKit Go.BigFrame
theorem bcell {W w1 : World} (hb : Below W.heap.size W w1) : (∀ b o, b < W.heap.size → w1.cell? ⟨b, o, none⟩ = W.cell? ⟨b, o, none⟩) ∧ (∀ b o, b < W.heap.size → w1.frozen? ⟨b, o, none⟩ = W.frozen? ⟨b, o, none⟩) :=
  ⟨fun b o h => hb.cell (p := ⟨b, o, none⟩) h, fun b o h => hb.frozen (p := ⟨b, o, none⟩) h⟩

theorem balls_l (r p1 p2 p3 s q1 q2 q3 : Int) (w : World) : Calls Try.prog 110 #[.int .i64 r, .agg #[.int .i64 p1, .int .i64 p2, .int .i64 p3], .int .i64 s, .agg #[.int .i64 q1, .int .i64 q2, .int .i64 q3]] w fun e w' => e = .returned (.tuple #[.agg #[.int .i64 (tx (ballsT r p1 p2 p3 s q1 q2 q3)), .int .i64 (ty (ballsT r p1 p2 p3 s q1 q2 q3)), .int .i64 (tz (ballsT r p1 p2 p3 s q1 q2 q3))], .int .i64 (td (ballsT r p1 p2 p3 s q1 q2 q3)), .bool (tk (ballsT r p1 p2 p3 s q1 q2 q3))]) ∧ Below w.heap.size w w' := balls_t r p1 p2 p3 s q1 q2 q3 w
theorem blocks_l (a1 a2 a3 a4 a5 a6 b1 b2 b3 b4 b5 b6 : Int) (w : World) : Calls Try.prog 112 #[.agg #[.int .i64 a1, .int .i64 a2, .int .i64 a3, .int .i64 a4, .int .i64 a5, .int .i64 a6], .agg #[.int .i64 b1, .int .i64 b2, .int .i64 b3, .int .i64 b4, .int .i64 b5, .int .i64 b6]] w fun e w' => e = .returned (.tuple #[.agg #[.int .i64 (tx (blocksT a1 a2 a3 a4 a5 a6 b1 b2 b3 b4 b5 b6)), .int .i64 (ty (blocksT a1 a2 a3 a4 a5 a6 b1 b2 b3 b4 b5 b6)), .int .i64 (tz (blocksT a1 a2 a3 a4 a5 a6 b1 b2 b3 b4 b5 b6))], .int .i64 (td (blocksT a1 a2 a3 a4 a5 a6 b1 b2 b3 b4 b5 b6)), .bool (tk (blocksT a1 a2 a3 a4 a5 a6 b1 b2 b3 b4 b5 b6))]) ∧ Below w.heap.size w w' := blocks_t a1 a2 a3 a4 a5 a6 b1 b2 b3 b4 b5 b6 w
theorem ballAt_l (r p1 p2 p3 k x y z q1 q2 q3 : Int) (hr : 1 ≤ r ∧ r ≤ 3276800) (hs : shapeB k x y z = true) (w : World) : Calls Try.prog 111 #[.int .i64 r, .agg #[.int .i64 p1, .int .i64 p2, .int .i64 p3], .agg #[.int .i64 (sub q1 (hf k x x)), .int .i64 (sub q2 (hf k x y)), .int .i64 (sub q3 (hf k x z)), .int .i64 (add q1 (hf k x x)), .int .i64 (add q2 (hf k x y)), .int .i64 (add q3 (hf k x z))]] w fun e w' => e = .returned (.tuple #[.agg #[.int .i64 (tx (ballAt r p1 p2 p3 k x y z q1 q2 q3)), .int .i64 (ty (ballAt r p1 p2 p3 k x y z q1 q2 q3)), .int .i64 (tz (ballAt r p1 p2 p3 k x y z q1 q2 q3))], .int .i64 (td (ballAt r p1 p2 p3 k x y z q1 q2 q3)), .bool (tk (ballAt r p1 p2 p3 k x y z q1 q2 q3))]) ∧ Below w.heap.size w w' := ballAt_t r p1 p2 p3 k x y z q1 q2 q3 hr hs w
set_option maxHeartbeats 2000000 in
theorem touches_bb (k x y z p1 p2 p3 k' x' y' z' q1 q2 q3 : Int) (e1 : (k == 1) = true) (e2 : (k' == 1) = true)  (w : World) : Calls Try.prog 76 #[.agg #[.int .i64 k, .int .i64 x, .int .i64 y, .int .i64 z], .agg #[.int .i64 p1, .int .i64 p2, .int .i64 p3], .agg #[.int .i64 k', .int .i64 x', .int .i64 y', .int .i64 z'], .agg #[.int .i64 q1, .int .i64 q2, .int .i64 q3]] w fun e w' => e = .returned (.tuple #[.agg #[.int .i64 (tx (ballsT x p1 p2 p3 x' q1 q2 q3)), .int .i64 (ty (ballsT x p1 p2 p3 x' q1 q2 q3)), .int .i64 (tz (ballsT x p1 p2 p3 x' q1 q2 q3))], .int .i64 (td (ballsT x p1 p2 p3 x' q1 q2 q3)), .bool (tk (ballsT x p1 p2 p3 x' q1 q2 q3))]) ∧ Below w.heap.size w w' := by
  have hmc := more_cell
  have hmf := more_frozen
  have hml := more_lt
  go_enter Try.func76, Try.ntmps76
  go_wp2_with fail
  refine (balls_l _ _ _ _ _ _ _ _ _).mono ?_
  rintro e w1 ⟨rfl, hb1⟩
  have B1_0 : Blk w1 (w.heap.size) _ := Blk.below (by repeat (with_reducible (first | assumption | (apply Blk.at; simp; done) | apply Blk.alloc | apply Blk.drew | apply Blk.drewN | apply Blk.more | apply Blk.put | (apply Blk.far; focus (first | assumption | (apply Ne.symm; assumption) | (simp; done) | (simp <;> omega)))))) hb1
  obtain ⟨z1_0, c1_0, f1_0⟩ := id B1_0
  have B1_1 : Blk w1 (w.heap.size + 1) _ := Blk.below (by repeat (with_reducible (first | assumption | (apply Blk.at; simp; done) | apply Blk.alloc | apply Blk.drew | apply Blk.drewN | apply Blk.more | apply Blk.put | (apply Blk.far; focus (first | assumption | (apply Ne.symm; assumption) | (simp; done) | (simp <;> omega)))))) hb1
  obtain ⟨z1_1, c1_1, f1_1⟩ := id B1_1
  have B1_2 : Blk w1 (w.heap.size + 1 + 1) _ := Blk.below (by repeat (with_reducible (first | assumption | (apply Blk.at; simp; done) | apply Blk.alloc | apply Blk.drew | apply Blk.drewN | apply Blk.more | apply Blk.put | (apply Blk.far; focus (first | assumption | (apply Ne.symm; assumption) | (simp; done) | (simp <;> omega)))))) hb1
  obtain ⟨z1_2, c1_2, f1_2⟩ := id B1_2
  have B1_3 : Blk w1 (w.heap.size + 1 + 1 + 1) _ := Blk.below (by repeat (with_reducible (first | assumption | (apply Blk.at; simp; done) | apply Blk.alloc | apply Blk.drew | apply Blk.drewN | apply Blk.more | apply Blk.put | (apply Blk.far; focus (first | assumption | (apply Ne.symm; assumption) | (simp; done) | (simp <;> omega)))))) hb1
  obtain ⟨z1_3, c1_3, f1_3⟩ := id B1_3
  have B1_4 : Blk w1 (w.heap.size + 1 + 1 + 1 + 1) _ := Blk.below (by repeat (with_reducible (first | assumption | (apply Blk.at; simp; done) | apply Blk.alloc | apply Blk.drew | apply Blk.drewN | apply Blk.more | apply Blk.put | (apply Blk.far; focus (first | assumption | (apply Ne.symm; assumption) | (simp; done) | (simp <;> omega)))))) hb1
  obtain ⟨z1_4, c1_4, f1_4⟩ := id B1_4
  go_wp2
  exact bodyPost_ret (v := .tuple #[.agg #[.int .i64 (tx (ballsT x p1 p2 p3 x' q1 q2 q3)), .int .i64 (ty (ballsT x p1 p2 p3 x' q1 q2 q3)), .int .i64 (tz (ballsT x p1 p2 p3 x' q1 q2 q3))], .int .i64 (td (ballsT x p1 p2 p3 x' q1 q2 q3)), .bool (tk (ballsT x p1 p2 p3 x' q1 q2 q3))]) (by simp [results, Try.results76, go_sem, *]) rfl ⟨rfl, (by repeat (with_reducible (first | exact Below.refl _ _ | assumption | apply ext_drew | apply ext_drewN | apply ext_alloc | apply ext_more | (refine ext_setCell ?_ (by simp <;> omega) _) | (refine ext_below ?_ (by assumption)))))⟩

set_option maxHeartbeats 2000000 in
theorem touches_ba (k x y z p1 p2 p3 k' x' y' z' q1 q2 q3 : Int) (e1 : (k == 1) = true) (e2 : (k' == 1) = false) (hr : 1 ≤ x ∧ x ≤ 3276800) (hs : shapeB k' x' y' z' = true) (w : World) : Calls Try.prog 76 #[.agg #[.int .i64 k, .int .i64 x, .int .i64 y, .int .i64 z], .agg #[.int .i64 p1, .int .i64 p2, .int .i64 p3], .agg #[.int .i64 k', .int .i64 x', .int .i64 y', .int .i64 z'], .agg #[.int .i64 q1, .int .i64 q2, .int .i64 q3]] w fun e w' => e = .returned (.tuple #[.agg #[.int .i64 (tx (ballAt x p1 p2 p3 k' x' y' z' q1 q2 q3)), .int .i64 (ty (ballAt x p1 p2 p3 k' x' y' z' q1 q2 q3)), .int .i64 (tz (ballAt x p1 p2 p3 k' x' y' z' q1 q2 q3))], .int .i64 (td (ballAt x p1 p2 p3 k' x' y' z' q1 q2 q3)), .bool (tk (ballAt x p1 p2 p3 k' x' y' z' q1 q2 q3))]) ∧ Below w.heap.size w w' := by
  have hmc := more_cell
  have hmf := more_frozen
  have hml := more_lt
  have HR := Lib.hid hr
  have HS := Lib.hid hs
  clear hr hs
  go_enter Try.func76, Try.ntmps76
  go_wp2_with fail
  refine region_quiet_but 11 (by kernel_rfl) (by kernel_rfl) ?_
  simp only [List.take_succ_cons, List.take_zero, List.drop_succ_cons, List.drop_zero]
  repeat (go_big_quiet_step (first | (go_at_call 31; exact calls_after (around_c _ _ _ _ _ _ _ _)) | (go_at_call 111; exact calls_after (ballAt_l x p1 p2 p3 k' x' y' z' q1 q2 q3 HR.out HS.out _))))
  refine wpQuiet_nil ?_
  rintro w1 hw1
  have hb1 := after_below hw1
  clear hw1
  have B1_0 : Blk w1 (w.heap.size) _ := Blk.below (by repeat (with_reducible (first | assumption | (apply Blk.at; simp; done) | apply Blk.alloc | apply Blk.drew | apply Blk.drewN | apply Blk.more | apply Blk.put | (apply Blk.far; focus (first | assumption | (apply Ne.symm; assumption) | (simp; done) | (simp <;> omega)))))) hb1
  obtain ⟨z1_0, c1_0, f1_0⟩ := id B1_0
  have B1_1 : Blk w1 (w.heap.size + 1) _ := Blk.below (by repeat (with_reducible (first | assumption | (apply Blk.at; simp; done) | apply Blk.alloc | apply Blk.drew | apply Blk.drewN | apply Blk.more | apply Blk.put | (apply Blk.far; focus (first | assumption | (apply Ne.symm; assumption) | (simp; done) | (simp <;> omega)))))) hb1
  obtain ⟨z1_1, c1_1, f1_1⟩ := id B1_1
  have B1_2 : Blk w1 (w.heap.size + 1 + 1) _ := Blk.below (by repeat (with_reducible (first | assumption | (apply Blk.at; simp; done) | apply Blk.alloc | apply Blk.drew | apply Blk.drewN | apply Blk.more | apply Blk.put | (apply Blk.far; focus (first | assumption | (apply Ne.symm; assumption) | (simp; done) | (simp <;> omega)))))) hb1
  obtain ⟨z1_2, c1_2, f1_2⟩ := id B1_2
  have B1_3 : Blk w1 (w.heap.size + 1 + 1 + 1) _ := Blk.below (by repeat (with_reducible (first | assumption | (apply Blk.at; simp; done) | apply Blk.alloc | apply Blk.drew | apply Blk.drewN | apply Blk.more | apply Blk.put | (apply Blk.far; focus (first | assumption | (apply Ne.symm; assumption) | (simp; done) | (simp <;> omega)))))) hb1
  obtain ⟨z1_3, c1_3, f1_3⟩ := id B1_3
  have B1_4 : Blk w1 (w.heap.size + 1 + 1 + 1 + 1) _ := Blk.below (by repeat (with_reducible (first | assumption | (apply Blk.at; simp; done) | apply Blk.alloc | apply Blk.drew | apply Blk.drewN | apply Blk.more | apply Blk.put | (apply Blk.far; focus (first | assumption | (apply Ne.symm; assumption) | (simp; done) | (simp <;> omega)))))) hb1
  obtain ⟨z1_4, c1_4, f1_4⟩ := id B1_4
  go_wp2
  exact bodyPost_ret (v := .tuple #[.agg #[.int .i64 (tx (ballAt x p1 p2 p3 k' x' y' z' q1 q2 q3)), .int .i64 (ty (ballAt x p1 p2 p3 k' x' y' z' q1 q2 q3)), .int .i64 (tz (ballAt x p1 p2 p3 k' x' y' z' q1 q2 q3))], .int .i64 (td (ballAt x p1 p2 p3 k' x' y' z' q1 q2 q3)), .bool (tk (ballAt x p1 p2 p3 k' x' y' z' q1 q2 q3))]) (by simp [results, Try.results76, go_sem, *]) rfl ⟨rfl, (by repeat (with_reducible (first | exact Below.refl _ _ | assumption | apply ext_drew | apply ext_drewN | apply ext_alloc | apply ext_more | (refine ext_setCell ?_ (by simp <;> omega) _) | (refine ext_below ?_ (by assumption)))))⟩

set_option maxHeartbeats 2000000 in
theorem touches_ab (k x y z p1 p2 p3 k' x' y' z' q1 q2 q3 : Int) (e1 : (k == 1) = false) (e2 : (k' == 1) = true) (hr : 1 ≤ x' ∧ x' ≤ 3276800) (hs : shapeB k x y z = true) (w : World) : Calls Try.prog 76 #[.agg #[.int .i64 k, .int .i64 x, .int .i64 y, .int .i64 z], .agg #[.int .i64 p1, .int .i64 p2, .int .i64 p3], .agg #[.int .i64 k', .int .i64 x', .int .i64 y', .int .i64 z'], .agg #[.int .i64 q1, .int .i64 q2, .int .i64 q3]] w fun e w' => e = .returned (.tuple #[.agg #[.int .i64 (-tx (ballAt x' q1 q2 q3 k x y z p1 p2 p3)), .int .i64 (-ty (ballAt x' q1 q2 q3 k x y z p1 p2 p3)), .int .i64 (-tz (ballAt x' q1 q2 q3 k x y z p1 p2 p3))], .int .i64 (td (ballAt x' q1 q2 q3 k x y z p1 p2 p3)), .bool (tk (ballAt x' q1 q2 q3 k x y z p1 p2 p3))]) ∧ Below w.heap.size w w' := by
  have hmc := more_cell
  have hmf := more_frozen
  have hml := more_lt
  have HR := Lib.hid hr
  have HS := Lib.hid hs
  clear hr hs
  obtain ⟨⟨u1, u2⟩, ⟨u3, u4⟩, u5, u6⟩ := t_bd (ballT_wb x' q1 q2 q3 (sub p1 (hf k x x)) (sub p2 (hf k x y)) (sub p3 (hf k x z)) (add p1 (hf k x x)) (add p2 (hf k x y)) (add p3 (hf k x z)))
  change _ ≤ tx (ballAt x' q1 q2 q3 k x y z p1 p2 p3) at u1
  change tx (ballAt x' q1 q2 q3 k x y z p1 p2 p3) ≤ _ at u2
  change _ ≤ ty (ballAt x' q1 q2 q3 k x y z p1 p2 p3) at u3
  change ty (ballAt x' q1 q2 q3 k x y z p1 p2 p3) ≤ _ at u4
  change _ ≤ tz (ballAt x' q1 q2 q3 k x y z p1 p2 p3) at u5
  change tz (ballAt x' q1 q2 q3 k x y z p1 p2 p3) ≤ _ at u6
  go_enter Try.func76, Try.ntmps76
  go_wp2_with fail
  refine wp_fresh ?_
  rintro w1 hb1
  have B1_0 : Blk w1 (w.heap.size) _ := Blk.below (by repeat (with_reducible (first | assumption | (apply Blk.at; simp; done) | apply Blk.alloc | apply Blk.drew | apply Blk.drewN | apply Blk.more | apply Blk.put | (apply Blk.far; focus (first | assumption | (apply Ne.symm; assumption) | (simp; done) | (simp <;> omega)))))) hb1
  obtain ⟨z1_0, c1_0, f1_0⟩ := id B1_0
  have B1_1 : Blk w1 (w.heap.size + 1) _ := Blk.below (by repeat (with_reducible (first | assumption | (apply Blk.at; simp; done) | apply Blk.alloc | apply Blk.drew | apply Blk.drewN | apply Blk.more | apply Blk.put | (apply Blk.far; focus (first | assumption | (apply Ne.symm; assumption) | (simp; done) | (simp <;> omega)))))) hb1
  obtain ⟨z1_1, c1_1, f1_1⟩ := id B1_1
  have B1_2 : Blk w1 (w.heap.size + 1 + 1) _ := Blk.below (by repeat (with_reducible (first | assumption | (apply Blk.at; simp; done) | apply Blk.alloc | apply Blk.drew | apply Blk.drewN | apply Blk.more | apply Blk.put | (apply Blk.far; focus (first | assumption | (apply Ne.symm; assumption) | (simp; done) | (simp <;> omega)))))) hb1
  obtain ⟨z1_2, c1_2, f1_2⟩ := id B1_2
  have B1_3 : Blk w1 (w.heap.size + 1 + 1 + 1) _ := Blk.below (by repeat (with_reducible (first | assumption | (apply Blk.at; simp; done) | apply Blk.alloc | apply Blk.drew | apply Blk.drewN | apply Blk.more | apply Blk.put | (apply Blk.far; focus (first | assumption | (apply Ne.symm; assumption) | (simp; done) | (simp <;> omega)))))) hb1
  obtain ⟨z1_3, c1_3, f1_3⟩ := id B1_3
  have B1_4 : Blk w1 (w.heap.size + 1 + 1 + 1 + 1) _ := Blk.below (by repeat (with_reducible (first | assumption | (apply Blk.at; simp; done) | apply Blk.alloc | apply Blk.drew | apply Blk.drewN | apply Blk.more | apply Blk.put | (apply Blk.far; focus (first | assumption | (apply Ne.symm; assumption) | (simp; done) | (simp <;> omega)))))) hb1
  obtain ⟨z1_4, c1_4, f1_4⟩ := id B1_4
  refine region_late [10, 11] 13 ?l2 ?hl2 (by kernel_rfl) (by kernel_rfl) ?_
  case hl2 => simp [lateE]; rfl
  refine any_grow (A := ?A2) 12 [11] (fun _ => #[.int .i64 0, .int .i64 0, .int .i64 0]) (by kernel_rfl) ?hrun2 ?hq2 ?htail2
  case hq2 =>
    intro w0 hb0
    simp only [List.take_succ_cons, List.take_zero]
    have B0_0 : Blk w0 _ _ := B1_0.below hb0
    obtain ⟨z0_0, c0_0, f0_0⟩ := id B0_0
    have B0_1 : Blk w0 _ _ := B1_1.below hb0
    obtain ⟨z0_1, c0_1, f0_1⟩ := id B0_1
    have B0_2 : Blk w0 _ _ := B1_2.below hb0
    obtain ⟨z0_2, c0_2, f0_2⟩ := id B0_2
    have B0_3 : Blk w0 _ _ := B1_3.below hb0
    obtain ⟨z0_3, c0_3, f0_3⟩ := id B0_3
    have B0_4 : Blk w0 _ _ := B1_4.below hb0
    obtain ⟨z0_4, c0_4, f0_4⟩ := id B0_4
    repeat (go_big_quiet_step ((first | (go_at_call 31; exact calls_after (around_c _ _ _ _ _ _ _ _)) | (go_at_call 111; exact calls_after (ballAt_l x' q1 q2 q3 k x y z p1 p2 p3 HR.out HS.out _)))))
    refine wpQuiet_nil ?_
    rfl
  case hrun2 =>
    intro j hj
    match j, hj with
    | 0, _ => exact ⟨_, _, rfl, fun a w => by simp [go_sem]; rfl⟩
  case htail2 =>
    intro gs w2 hb2 hblk hne
    obtain ⟨G2_0, hg2_0⟩ := hblk 0 (by decide)
    simp only [List.drop_succ_cons, List.drop_zero, List.length_cons, List.length_nil, laySlots]
    clear hblk hne
    generalize gs 0 = g2_0 at *
    have B2_0 : Blk w2 _ _ := B1_0.below hb2
    obtain ⟨z2_0, c2_0, f2_0⟩ := id B2_0
    have B2_1 : Blk w2 _ _ := B1_1.below hb2
    obtain ⟨z2_1, c2_1, f2_1⟩ := id B2_1
    have B2_2 : Blk w2 _ _ := B1_2.below hb2
    obtain ⟨z2_2, c2_2, f2_2⟩ := id B2_2
    have B2_3 : Blk w2 _ _ := B1_3.below hb2
    obtain ⟨z2_3, c2_3, f2_3⟩ := id B2_3
    have B2_4 : Blk w2 _ _ := B1_4.below hb2
    obtain ⟨z2_4, c2_4, f2_4⟩ := id B2_4
    obtain ⟨zg2_0, cg2_0, fg2_0⟩ := id G2_0
    have ne2_0_0 : g2_0 ≠ w.heap.size := by omega
    have ne2_0_1 : g2_0 ≠ w.heap.size + 1 := by omega
    have ne2_0_2 : g2_0 ≠ w.heap.size + 1 + 1 := by omega
    have ne2_0_3 : g2_0 ≠ w.heap.size + 1 + 1 + 1 := by omega
    have ne2_0_4 : g2_0 ≠ w.heap.size + 1 + 1 + 1 + 1 := by omega
    go_wp2_with fail
    refine ⟨rfl, ?_⟩
    go_wp2
    exact bodyPost_ret (v := .tuple #[.agg #[.int .i64 (-tx (ballAt x' q1 q2 q3 k x y z p1 p2 p3)), .int .i64 (-ty (ballAt x' q1 q2 q3 k x y z p1 p2 p3)), .int .i64 (-tz (ballAt x' q1 q2 q3 k x y z p1 p2 p3))], .int .i64 (td (ballAt x' q1 q2 q3 k x y z p1 p2 p3)), .bool (tk (ballAt x' q1 q2 q3 k x y z p1 p2 p3))]) (by simp [results, Try.results76, go_sem, *]) rfl ⟨rfl, (by repeat (with_reducible (first | exact Below.refl _ _ | assumption | apply ext_drew | apply ext_drewN | apply ext_alloc | apply ext_more | (refine ext_setCell ?_ (by simp <;> omega) _) | (refine ext_below ?_ (by assumption)))))⟩

set_option maxHeartbeats 2000000 in
theorem touches_aa (k x y z p1 p2 p3 k' x' y' z' q1 q2 q3 : Int) (e1 : (k == 1) = false) (e2 : (k' == 1) = false)  (w : World) : Calls Try.prog 76 #[.agg #[.int .i64 k, .int .i64 x, .int .i64 y, .int .i64 z], .agg #[.int .i64 p1, .int .i64 p2, .int .i64 p3], .agg #[.int .i64 k', .int .i64 x', .int .i64 y', .int .i64 z'], .agg #[.int .i64 q1, .int .i64 q2, .int .i64 q3]] w fun e w' => e = .returned (.tuple #[.agg #[.int .i64 (tx (blocksT (sub p1 (hf k x x)) (sub p2 (hf k x y)) (sub p3 (hf k x z)) (add p1 (hf k x x)) (add p2 (hf k x y)) (add p3 (hf k x z)) (sub q1 (hf k' x' x')) (sub q2 (hf k' x' y')) (sub q3 (hf k' x' z')) (add q1 (hf k' x' x')) (add q2 (hf k' x' y')) (add q3 (hf k' x' z')))), .int .i64 (ty (blocksT (sub p1 (hf k x x)) (sub p2 (hf k x y)) (sub p3 (hf k x z)) (add p1 (hf k x x)) (add p2 (hf k x y)) (add p3 (hf k x z)) (sub q1 (hf k' x' x')) (sub q2 (hf k' x' y')) (sub q3 (hf k' x' z')) (add q1 (hf k' x' x')) (add q2 (hf k' x' y')) (add q3 (hf k' x' z')))), .int .i64 (tz (blocksT (sub p1 (hf k x x)) (sub p2 (hf k x y)) (sub p3 (hf k x z)) (add p1 (hf k x x)) (add p2 (hf k x y)) (add p3 (hf k x z)) (sub q1 (hf k' x' x')) (sub q2 (hf k' x' y')) (sub q3 (hf k' x' z')) (add q1 (hf k' x' x')) (add q2 (hf k' x' y')) (add q3 (hf k' x' z'))))], .int .i64 (td (blocksT (sub p1 (hf k x x)) (sub p2 (hf k x y)) (sub p3 (hf k x z)) (add p1 (hf k x x)) (add p2 (hf k x y)) (add p3 (hf k x z)) (sub q1 (hf k' x' x')) (sub q2 (hf k' x' y')) (sub q3 (hf k' x' z')) (add q1 (hf k' x' x')) (add q2 (hf k' x' y')) (add q3 (hf k' x' z')))), .bool (tk (blocksT (sub p1 (hf k x x)) (sub p2 (hf k x y)) (sub p3 (hf k x z)) (add p1 (hf k x x)) (add p2 (hf k x y)) (add p3 (hf k x z)) (sub q1 (hf k' x' x')) (sub q2 (hf k' x' y')) (sub q3 (hf k' x' z')) (add q1 (hf k' x' x')) (add q2 (hf k' x' y')) (add q3 (hf k' x' z'))))]) ∧ Below w.heap.size w w' := by
  have hmc := more_cell
  have hmf := more_frozen
  have hml := more_lt
  go_enter Try.func76, Try.ntmps76
  go_wp2_with fail
  refine region_quiet_but 10 (by kernel_rfl) (by kernel_rfl) ?_
  simp only [List.take_succ_cons, List.take_zero, List.drop_succ_cons, List.drop_zero]
  repeat (go_big_quiet_step (first | (go_at_call 31; exact calls_after (around_c _ _ _ _ _ _ _ _)) | (go_at_call 112; exact calls_after (blocks_l _ _ _ _ _ _ _ _ _ _ _ _ _))))
  refine wpQuiet_nil ?_
  rintro w1 hw1
  have hb1 := after_below hw1
  clear hw1
  have B1_0 : Blk w1 (w.heap.size) _ := Blk.below (by repeat (with_reducible (first | assumption | (apply Blk.at; simp; done) | apply Blk.alloc | apply Blk.drew | apply Blk.drewN | apply Blk.more | apply Blk.put | (apply Blk.far; focus (first | assumption | (apply Ne.symm; assumption) | (simp; done) | (simp <;> omega)))))) hb1
  obtain ⟨z1_0, c1_0, f1_0⟩ := id B1_0
  have B1_1 : Blk w1 (w.heap.size + 1) _ := Blk.below (by repeat (with_reducible (first | assumption | (apply Blk.at; simp; done) | apply Blk.alloc | apply Blk.drew | apply Blk.drewN | apply Blk.more | apply Blk.put | (apply Blk.far; focus (first | assumption | (apply Ne.symm; assumption) | (simp; done) | (simp <;> omega)))))) hb1
  obtain ⟨z1_1, c1_1, f1_1⟩ := id B1_1
  have B1_2 : Blk w1 (w.heap.size + 1 + 1) _ := Blk.below (by repeat (with_reducible (first | assumption | (apply Blk.at; simp; done) | apply Blk.alloc | apply Blk.drew | apply Blk.drewN | apply Blk.more | apply Blk.put | (apply Blk.far; focus (first | assumption | (apply Ne.symm; assumption) | (simp; done) | (simp <;> omega)))))) hb1
  obtain ⟨z1_2, c1_2, f1_2⟩ := id B1_2
  have B1_3 : Blk w1 (w.heap.size + 1 + 1 + 1) _ := Blk.below (by repeat (with_reducible (first | assumption | (apply Blk.at; simp; done) | apply Blk.alloc | apply Blk.drew | apply Blk.drewN | apply Blk.more | apply Blk.put | (apply Blk.far; focus (first | assumption | (apply Ne.symm; assumption) | (simp; done) | (simp <;> omega)))))) hb1
  obtain ⟨z1_3, c1_3, f1_3⟩ := id B1_3
  have B1_4 : Blk w1 (w.heap.size + 1 + 1 + 1 + 1) _ := Blk.below (by repeat (with_reducible (first | assumption | (apply Blk.at; simp; done) | apply Blk.alloc | apply Blk.drew | apply Blk.drewN | apply Blk.more | apply Blk.put | (apply Blk.far; focus (first | assumption | (apply Ne.symm; assumption) | (simp; done) | (simp <;> omega)))))) hb1
  obtain ⟨z1_4, c1_4, f1_4⟩ := id B1_4
  go_wp2
  exact bodyPost_ret (v := .tuple #[.agg #[.int .i64 (tx (blocksT (sub p1 (hf k x x)) (sub p2 (hf k x y)) (sub p3 (hf k x z)) (add p1 (hf k x x)) (add p2 (hf k x y)) (add p3 (hf k x z)) (sub q1 (hf k' x' x')) (sub q2 (hf k' x' y')) (sub q3 (hf k' x' z')) (add q1 (hf k' x' x')) (add q2 (hf k' x' y')) (add q3 (hf k' x' z')))), .int .i64 (ty (blocksT (sub p1 (hf k x x)) (sub p2 (hf k x y)) (sub p3 (hf k x z)) (add p1 (hf k x x)) (add p2 (hf k x y)) (add p3 (hf k x z)) (sub q1 (hf k' x' x')) (sub q2 (hf k' x' y')) (sub q3 (hf k' x' z')) (add q1 (hf k' x' x')) (add q2 (hf k' x' y')) (add q3 (hf k' x' z')))), .int .i64 (tz (blocksT (sub p1 (hf k x x)) (sub p2 (hf k x y)) (sub p3 (hf k x z)) (add p1 (hf k x x)) (add p2 (hf k x y)) (add p3 (hf k x z)) (sub q1 (hf k' x' x')) (sub q2 (hf k' x' y')) (sub q3 (hf k' x' z')) (add q1 (hf k' x' x')) (add q2 (hf k' x' y')) (add q3 (hf k' x' z'))))], .int .i64 (td (blocksT (sub p1 (hf k x x)) (sub p2 (hf k x y)) (sub p3 (hf k x z)) (add p1 (hf k x x)) (add p2 (hf k x y)) (add p3 (hf k x z)) (sub q1 (hf k' x' x')) (sub q2 (hf k' x' y')) (sub q3 (hf k' x' z')) (add q1 (hf k' x' x')) (add q2 (hf k' x' y')) (add q3 (hf k' x' z')))), .bool (tk (blocksT (sub p1 (hf k x x)) (sub p2 (hf k x y)) (sub p3 (hf k x z)) (add p1 (hf k x x)) (add p2 (hf k x y)) (add p3 (hf k x z)) (sub q1 (hf k' x' x')) (sub q2 (hf k' x' y')) (sub q3 (hf k' x' z')) (add q1 (hf k' x' x')) (add q2 (hf k' x' y')) (add q3 (hf k' x' z'))))]) (by simp [results, Try.results76, go_sem, *]) rfl ⟨rfl, (by repeat (with_reducible (first | exact Below.refl _ _ | assumption | apply ext_drew | apply ext_drewN | apply ext_alloc | apply ext_more | (refine ext_setCell ?_ (by simp <;> omega) _) | (refine ext_below ?_ (by assumption)))))⟩

theorem touches_c (k x y z p1 p2 p3 k' x' y' z' q1 q2 q3 : Int) (h1 : shapeB k x y z = true) (h2 : shapeB k' x' y' z' = true) (w : World) : Calls Try.prog 76 #[.agg #[.int .i64 k, .int .i64 x, .int .i64 y, .int .i64 z], .agg #[.int .i64 p1, .int .i64 p2, .int .i64 p3], .agg #[.int .i64 k', .int .i64 x', .int .i64 y', .int .i64 z'], .agg #[.int .i64 q1, .int .i64 q2, .int .i64 q3]] w fun e w' => e = .returned (tup (touchT k x y z p1 p2 p3 k' x' y' z' q1 q2 q3)) ∧ Below w.heap.size w w' := by
  obtain ⟨_, a1, a2, _⟩ := shape_hf h1
  obtain ⟨_, b1, b2, _⟩ := shape_hf h2
  unfold touchT
  by_cases e1 : k = 1
  · rw [if_pos e1]
    by_cases e2 : k' = 1
    · rw [if_pos e2]; exact touches_bb k x y z p1 p2 p3 k' x' y' z' q1 q2 q3 (by simpa using e1) (by simpa using e2) w
    · rw [if_neg e2]; exact touches_ba k x y z p1 p2 p3 k' x' y' z' q1 q2 q3 (by simpa using e1) (by simpa using e2) ⟨a1, a2⟩ h2 w
  · rw [if_neg e1]
    by_cases e2 : k' = 1
    · rw [if_pos e2, tup_neg]; exact touches_ab k x y z p1 p2 p3 k' x' y' z' q1 q2 q3 (by simpa using e1) (by simpa using e2) ⟨b1, b2⟩ h1 w
    · rw [if_neg e2]; exact touches_aa k x y z p1 p2 p3 k' x' y' z' q1 q2 q3 (by simpa using e1) (by simpa using e2) w

end Go.Proofs.Ytfagkbmphohelaa
