/- The contract of geom.out. Conditions: none. -/
import Derived.Test.YtniahipadfgkbaaGreatKH
import Derived.Test.YtniahipadfgkbaaGreatKY2
namespace Go.Proofs.YtniahipadfgkbaaGreat
open Go.ChangeShapes Go.WideShapes Go.ChangeAt Go.RowKit Go.BigFrame

/-- the way and the depth where they touch, else nothing -/
def tri (x y z d : Int) : Value := if d ≤ 0 then .tuple #[.agg #[.int .i64 0, .int .i64 0, .int .i64 0], .int .i64 0, .bool false] else .tuple #[.agg #[.int .i64 x, .int .i64 y, .int .i64 z], .int .i64 d, .bool true]
/-- how deep two balls are in each other -/
def deepB (r s v1 v2 v3 : Int) : Int := sub (add r s) (long v1 v2 v3)
def ballsV (r p1 p2 p3 s q1 q2 q3 : Int) : Value := tri (unit1 (sub q1 p1) (sub q2 p2) (sub q3 p3)) (unit2 (sub q1 p1) (sub q2 p2) (sub q3 p3)) (unit3 (sub q1 p1) (sub q2 p2) (sub q3 p3)) (deepB r s (sub q1 p1) (sub q2 p2) (sub q3 p3))

set_option maxHeartbeats 1000000 in
theorem balls_c0 (r p1 p2 p3 s q1 q2 q3 : Int) (hd : sub (add r s) (long (sub q1 p1) (sub q2 p2) (sub q3 p3)) ≤ 0) (w : World) : Calls Tryz.prog 56 #[.int .i64 r, .agg #[.int .i64 p1, .int .i64 p2, .int .i64 p3], .int .i64 s, .agg #[.int .i64 q1, .int .i64 q2, .int .i64 q3]] w fun e w' => e = .returned (.tuple #[.agg #[.int .i64 0, .int .i64 0, .int .i64 0], .int .i64 0, .bool false]) ∧ Below w.heap.size w w' := by
  have hmc := more_cell
  have hmf := more_frozen
  have hml := more_lt
  go_enter Tryz.func56, Tryz.ntmps56
  go_wp2_with fail
  refine (minus_c _ _ _ _ _ _ _).mono ?_
  rintro e w1 ⟨rfl, hb1⟩
  have B1_0 : Blk w1 (w.heap.size + 1 + 1) #[.int .i64 0, .int .i64 0, .int .i64 0] := Blk.below (by repeat (with_reducible (first | assumption | exact Blk.at _ _ _ _ (by simp) | apply Blk.alloc | apply Blk.drew | apply Blk.drewN | apply Blk.more | (refine Blk.setCell ?_ _ _ (by simp <;> omega))))) hb1
  obtain ⟨z1_0, c1_0, f1_0⟩ := id B1_0
  go_wp2_with fail
  refine region_quiet_all (by kernel_rfl) (by kernel_rfl) ?_
  repeat (go_big_quiet_step (first | (go_at_call 26; exact calls_after_same (add_c _ _ _)) | (go_at_call 38; exact calls_after_same (sub_c _ _ _)) | (go_at_call 68; exact calls_after (long_c _ _ _ _))))
  refine wpQuiet_nil ?_
  rintro w2 hw2
  have hb2 := after_below hw2
  clear hw2
  have B2_0 : Blk w2 (w1.heap.size) #[.int .i64 (sub q1 p1), .int .i64 (sub q2 p2), .int .i64 (sub q3 p3)] := Blk.below (by repeat (with_reducible (first | assumption | (refine Blk.at _ _ _ _ ?_; simp; done) | apply Blk.alloc | apply Blk.drew | apply Blk.drewN | apply Blk.more | (refine Blk.setCell ?_ _ _ ?_; rotate_left; focus (simp <;> omega))))) hb2
  obtain ⟨z2_0, c2_0, f2_0⟩ := id B2_0
  have B2_1 : Blk w2 (w.heap.size + 1 + 1) #[.int .i64 0, .int .i64 0, .int .i64 0] := Blk.below (by repeat (with_reducible (first | assumption | (refine Blk.at _ _ _ _ ?_; simp; done) | apply Blk.alloc | apply Blk.drew | apply Blk.drewN | apply Blk.more | (refine Blk.setCell ?_ _ _ ?_; rotate_left; focus (simp <;> omega))))) hb2
  obtain ⟨z2_1, c2_1, f2_1⟩ := id B2_1
  go_wp2_with fail
  exact bodyPost_ret (v := .tuple #[.agg #[.int .i64 0, .int .i64 0, .int .i64 0], .int .i64 0, .bool false]) (by simp [results, Tryz.results56, go_sem, *]) rfl ⟨rfl, (by repeat (with_reducible (first | exact Below.refl _ _ | assumption | apply ext_drew | apply ext_drewN | apply ext_alloc | apply ext_more | (refine ext_setCell ?_ (by simp <;> omega) _) | (refine ext_below ?_ (by assumption)))))⟩

set_option maxHeartbeats 1000000 in
theorem balls_c1 (r p1 p2 p3 s q1 q2 q3 : Int) (hd : 0 < sub (add r s) (long (sub q1 p1) (sub q2 p2) (sub q3 p3))) (w : World) : Calls Tryz.prog 56 #[.int .i64 r, .agg #[.int .i64 p1, .int .i64 p2, .int .i64 p3], .int .i64 s, .agg #[.int .i64 q1, .int .i64 q2, .int .i64 q3]] w fun e w' => e = .returned (.tuple #[.agg #[.int .i64 (unit1 (sub q1 p1) (sub q2 p2) (sub q3 p3)), .int .i64 (unit2 (sub q1 p1) (sub q2 p2) (sub q3 p3)), .int .i64 (unit3 (sub q1 p1) (sub q2 p2) (sub q3 p3))], .int .i64 (sub (add r s) (long (sub q1 p1) (sub q2 p2) (sub q3 p3))), .bool true]) ∧ Below w.heap.size w w' := by
  have hmc := more_cell
  have hmf := more_frozen
  have hml := more_lt
  go_enter Tryz.func56, Tryz.ntmps56
  have hd' : ¬ (sub (add r s) (long (sub q1 p1) (sub q2 p2) (sub q3 p3)) ≤ 0) := by omega
  go_wp2_with fail
  refine (minus_c _ _ _ _ _ _ _).mono ?_
  rintro e w1 ⟨rfl, hb1⟩
  have B1_0 : Blk w1 (w.heap.size + 1 + 1) #[.int .i64 0, .int .i64 0, .int .i64 0] := Blk.below (by repeat (with_reducible (first | assumption | exact Blk.at _ _ _ _ (by simp) | apply Blk.alloc | apply Blk.drew | apply Blk.drewN | apply Blk.more | (refine Blk.setCell ?_ _ _ (by simp <;> omega))))) hb1
  obtain ⟨z1_0, c1_0, f1_0⟩ := id B1_0
  go_wp2_with fail
  refine region_quiet_all (by kernel_rfl) (by kernel_rfl) ?_
  repeat (go_big_quiet_step (first | (go_at_call 26; exact calls_after_same (add_c _ _ _)) | (go_at_call 38; exact calls_after_same (sub_c _ _ _)) | (go_at_call 68; exact calls_after (long_c _ _ _ _))))
  refine wpQuiet_nil ?_
  rintro w2 hw2
  have hb2 := after_below hw2
  clear hw2
  have B2_0 : Blk w2 (w1.heap.size) #[.int .i64 (sub q1 p1), .int .i64 (sub q2 p2), .int .i64 (sub q3 p3)] := Blk.below (by repeat (with_reducible (first | assumption | (refine Blk.at _ _ _ _ ?_; simp; done) | apply Blk.alloc | apply Blk.drew | apply Blk.drewN | apply Blk.more | (refine Blk.setCell ?_ _ _ ?_; rotate_left; focus (simp <;> omega))))) hb2
  obtain ⟨z2_0, c2_0, f2_0⟩ := id B2_0
  have B2_1 : Blk w2 (w.heap.size + 1 + 1) #[.int .i64 0, .int .i64 0, .int .i64 0] := Blk.below (by repeat (with_reducible (first | assumption | (refine Blk.at _ _ _ _ ?_; simp; done) | apply Blk.alloc | apply Blk.drew | apply Blk.drewN | apply Blk.more | (refine Blk.setCell ?_ _ _ ?_; rotate_left; focus (simp <;> omega))))) hb2
  obtain ⟨z2_1, c2_1, f2_1⟩ := id B2_1
  go_wp2_with fail
  refine (unit_c _ _ _ _).mono ?_
  rintro e w3 ⟨rfl, hb3⟩
  have B3_0 : Blk w3 (w.heap.size + 1 + 1) #[.int .i64 0, .int .i64 0, .int .i64 0] := Blk.below (by repeat (with_reducible (first | assumption | exact Blk.at _ _ _ _ (by simp) | apply Blk.alloc | apply Blk.drew | apply Blk.drewN | apply Blk.more | (refine Blk.setCell ?_ _ _ (by simp <;> omega))))) hb3
  obtain ⟨z3_0, c3_0, f3_0⟩ := id B3_0
  go_wp2
  exact bodyPost_ret (v := .tuple #[.agg #[.int .i64 (unit1 (sub q1 p1) (sub q2 p2) (sub q3 p3)), .int .i64 (unit2 (sub q1 p1) (sub q2 p2) (sub q3 p3)), .int .i64 (unit3 (sub q1 p1) (sub q2 p2) (sub q3 p3))], .int .i64 (sub (add r s) (long (sub q1 p1) (sub q2 p2) (sub q3 p3))), .bool true]) (by simp [results, Tryz.results56, go_sem, *]) rfl ⟨rfl, (by repeat (with_reducible (first | exact Below.refl _ _ | assumption | apply ext_drew | apply ext_drewN | apply ext_alloc | apply ext_more | (refine ext_setCell ?_ (by simp <;> omega) _) | (refine ext_below ?_ (by assumption)))))⟩

theorem balls_c (r p1 p2 p3 s q1 q2 q3 : Int) (w : World) : Calls Tryz.prog 56 #[.int .i64 r, .agg #[.int .i64 p1, .int .i64 p2, .int .i64 p3], .int .i64 s, .agg #[.int .i64 q1, .int .i64 q2, .int .i64 q3]] w fun e w' => e = .returned (ballsV r p1 p2 p3 s q1 q2 q3) ∧ Below w.heap.size w w' := by
  unfold ballsV tri deepB
  by_cases h : sub (add r s) (long (sub q1 p1) (sub q2 p2) (sub q3 p3)) ≤ 0
  · rw [if_pos h]; exact balls_c0 r p1 p2 p3 s q1 q2 q3 h w
  · rw [if_neg h]; exact balls_c1 r p1 p2 p3 s q1 q2 q3 (by omega) w

end Go.Proofs.YtniahipadfgkbaaGreat
namespace Go.Proofs.YtniahipadfgkbaaGreat
open Go.ChangeShapes Go.WideShapes Go.ChangeAt Go.RowKit Go.BigFrame
/-- the one or the other, by whether d is less than e -/
def pk (d e x y : Int) : Int := if d < e then x else y
theorem outf_c0 (v1 v2 v3 d dp x1 x2 x3 : Int) (pb pd : Nat) (w : World) (h : d < dp) (Bd : Blk w pd #[.int .i64 dp]) (Bb : Blk w pb #[.int .i64 x1, .int .i64 x2, .int .i64 x3]) (hne : pb ≠ pd) :
    Calls Tryz.prog 102 #[.agg #[.int .i64 v1, .int .i64 v2, .int .i64 v3], .int .i64 d, .pointer (some ⟨pd, 0, none⟩), .pointer (some ⟨pb, 0, none⟩)] w fun e w' => e = .returned (.tuple #[]) ∧ Blk w' pd #[.int .i64 d] ∧ Blk w' pb #[.int .i64 v1, .int .i64 v2, .int .i64 v3] ∧ ∀ n, n ≤ pb → n ≤ pd → Below n w w' := by
  obtain ⟨zd, cd, fd⟩ := id Bd
  obtain ⟨zb, cb, fb⟩ := id Bb
  go_enter Tryz.func102, Tryz.ntmps102
  go_wp2
  have Hd := ((((Bd.setCell ⟨pb, 0, none⟩ (.int .i64 v1) hne).setCell ⟨pb, 1, none⟩ (.int .i64 v2) hne).setCell ⟨pb, 2, none⟩ (.int .i64 v3) hne).set 0 (.int .i64 d) (by simp)).alloc (.cells #[.int .i64 v1, .int .i64 v2, .int .i64 v3] 24)
  have Hb := ((((Bb.set 0 (.int .i64 v1) (by simp)).set 1 (.int .i64 v2) (by simp)).set 2 (.int .i64 v3) (by simp)).setCell ⟨pd, 0, none⟩ (.int .i64 d) (Ne.symm hne)).alloc (.cells #[.int .i64 v1, .int .i64 v2, .int .i64 v3] 24)
  simp only [List.setIfInBounds_toArray, List.set_cons_zero, List.set_cons_succ] at Hd Hb
  refine bodyPost_end (v := .tuple #[]) (by simp [results, Tryz.results102, go_sem]) rfl ⟨rfl, Hd, Hb, fun n h1 h2 => ?_⟩
  exact (((((Below.refl n w).setCell h1 _).setCell h1 _).setCell h1 _).setCell h2 _).alloc (by simp; omega) _
theorem outf_c1 (v1 v2 v3 d dp : Int) (pb pd : Nat) (w : World) (h : dp ≤ d) (Bd : Blk w pd #[.int .i64 dp]) :
    Calls Tryz.prog 102 #[.agg #[.int .i64 v1, .int .i64 v2, .int .i64 v3], .int .i64 d, .pointer (some ⟨pd, 0, none⟩), .pointer (some ⟨pb, 0, none⟩)] w fun e w' => e = .returned (.tuple #[]) ∧ Below w.heap.size w w' := by
  obtain ⟨zd, cd, fd⟩ := id Bd
  have h' : ¬ d < dp := by omega
  go_enter Tryz.func102, Tryz.ntmps102
  go_wp2
  exact bodyPost_end (v := .tuple #[]) (by simp [results, Tryz.results102, go_sem]) rfl ⟨rfl, (Below.refl _ _).alloc (Nat.le_refl _) _⟩
theorem outf_c (v1 v2 v3 d dp x1 x2 x3 : Int) (pb pd : Nat) (w : World) (Bd : Blk w pd #[.int .i64 dp]) (Bb : Blk w pb #[.int .i64 x1, .int .i64 x2, .int .i64 x3]) (hne : pb ≠ pd) :
    Calls Tryz.prog 102 #[.agg #[.int .i64 v1, .int .i64 v2, .int .i64 v3], .int .i64 d, .pointer (some ⟨pd, 0, none⟩), .pointer (some ⟨pb, 0, none⟩)] w fun e w' => e = .returned (.tuple #[]) ∧ Blk w' pd #[.int .i64 (pk d dp d dp)] ∧ Blk w' pb #[.int .i64 (pk d dp v1 x1), .int .i64 (pk d dp v2 x2), .int .i64 (pk d dp v3 x3)] ∧ ∀ n, n ≤ pb → n ≤ pd → Below n w w' := by
  unfold pk
  by_cases h : d < dp
  · simp only [if_pos h]; exact outf_c0 v1 v2 v3 d dp x1 x2 x3 pb pd w h Bd Bb hne
  · simp only [if_neg h]
    exact (outf_c1 v1 v2 v3 d dp pb pd w (by omega) Bd).mono fun e w' ⟨h1, h2⟩ => ⟨h1, Bd.below h2, Bb.below h2, fun n _ h4 => h2.mono (Nat.le_trans h4 (Nat.le_of_lt Bd.lt))⟩
end Go.Proofs.YtniahipadfgkbaaGreat
namespace Go.Proofs.YtniahipadfgkbaaGreat
open Go.ChangeShapes Go.WideShapes Go.ChangeAt Go.RowKit Go.BigFrame
theorem Blk.low {w w' : World} {b n : Nat} {cs : Array Value} (h : Blk w b cs) (k : Below n w w') (hb : b < n) : Blk w' b cs :=
  ⟨Nat.lt_of_lt_of_le h.lt k.size, fun o => (k.cell (p := ⟨b, o, none⟩) hb).trans (h.cell o), fun o => (k.frozen (p := ⟨b, o, none⟩) hb).trans (h.free o)⟩
/-- one try -/
def tryS (v1 v2 v3 d : Int) (s : Int × Int × Int × Int) : Int × Int × Int × Int := (pk d s.2.2.2 v1 s.1, pk d s.2.2.2 v2 s.2.1, pk d s.2.2.2 v3 s.2.2.1, pk d s.2.2.2 d s.2.2.2)
theorem outf_e (v1 v2 v3 d dp x1 x2 x3 : Int) (pb pd : Nat) (w : World) (Bd : Blk w pd #[.int .i64 dp]) (Bb : Blk w pb #[.int .i64 x1, .int .i64 x2, .int .i64 x3]) (hne : pb ≠ pd) :
    Calls Tryz.prog 102 #[.agg #[.int .i64 v1, .int .i64 v2, .int .i64 v3], .int .i64 d, .pointer (some ⟨pd, 0, none⟩), .pointer (some ⟨pb, 0, none⟩)] w fun e w' => ∃ y1 y2 y3 y4 : Int, tryS v1 v2 v3 d (x1, x2, x3, dp) = (y1, y2, y3, y4) ∧ e = .returned (.tuple #[]) ∧ Blk w' pd #[.int .i64 y4] ∧ Blk w' pb #[.int .i64 y1, .int .i64 y2, .int .i64 y3] ∧ ∀ n, n ≤ pb → n ≤ pd → Below n w w' :=
  (outf_c v1 v2 v3 d dp x1 x2 x3 pb pd w Bd Bb hne).mono fun _ _ h => ⟨_, _, _, _, rfl, h⟩
/-- all six -/
def outT (a1 a2 a3 a4 a5 a6 b1 b2 b3 b4 b5 b6 : Int) : Int × Int × Int × Int :=
  tryS 0 0 (-65536) (sub b6 a3) (tryS 0 0 65536 (sub a6 b3) (tryS 0 (-65536) 0 (sub b5 a2) (tryS 0 65536 0 (sub a5 b2) (tryS (-65536) 0 0 (sub b4 a1) (tryS 65536 0 0 (sub a4 b1) (0, 0, 0, 70368744177665))))))

set_option maxHeartbeats 2000000 in
theorem tout_c (a1 a2 a3 a4 a5 a6 b1 b2 b3 b4 b5 b6 : Int) (w : World) : Calls Tryz.prog 83 #[.agg #[.int .i64 a1, .int .i64 a2, .int .i64 a3, .int .i64 a4, .int .i64 a5, .int .i64 a6], .agg #[.int .i64 b1, .int .i64 b2, .int .i64 b3, .int .i64 b4, .int .i64 b5, .int .i64 b6]] w fun e w' => e = .returned (.tuple #[.agg #[.int .i64 (outT a1 a2 a3 a4 a5 a6 b1 b2 b3 b4 b5 b6).1, .int .i64 (outT a1 a2 a3 a4 a5 a6 b1 b2 b3 b4 b5 b6).2.1, .int .i64 (outT a1 a2 a3 a4 a5 a6 b1 b2 b3 b4 b5 b6).2.2.1], .int .i64 (outT a1 a2 a3 a4 a5 a6 b1 b2 b3 b4 b5 b6).2.2.2]) ∧ Below w.heap.size w w' := by
  have hmc := more_cell
  have hmf := more_frozen
  have hml := more_lt
  go_enter Tryz.func83, Tryz.ntmps83
  go_wp2_with fail
  refine (sub_c _ _ _).mono ?_
  rintro e u1 ⟨rfl, rfl⟩
  go_wp2_with fail
  refine (outf_e _ _ _ _ _ _ _ _ (w.heap.size + 1 + 1 + 1) (w.heap.size + 1 + 1 + 1 + 1) _ (by repeat (with_reducible (first | assumption | (refine Blk.at _ _ _ _ ?_; simp; done) | apply Blk.alloc | apply Blk.drew | apply Blk.drewN | apply Blk.more | (refine Blk.setCell ?_ _ _ ?_; rotate_left; focus (simp <;> omega))))) (by repeat (with_reducible (first | assumption | (refine Blk.at _ _ _ _ ?_; simp; done) | apply Blk.alloc | apply Blk.drew | apply Blk.drewN | apply Blk.more | (refine Blk.setCell ?_ _ _ ?_; rotate_left; focus (simp <;> omega))))) (by omega)).mono ?_
  rintro e w1 ⟨y11, y12, y13, y14, hs1, rfl, D1, E1, h1⟩
  have hb1 := h1 (w.heap.size + 1 + 1 + 1) (Nat.le_refl _) (by omega)
  have A1 : Blk w1 (w.heap.size) #[.int .i64 a1, .int .i64 a2, .int .i64 a3, .int .i64 a4, .int .i64 a5, .int .i64 a6] := Blk.low ((by repeat (with_reducible (first | assumption | (refine Blk.at _ _ _ _ ?_; simp; done) | apply Blk.alloc | apply Blk.drew | apply Blk.drewN | apply Blk.more | (refine Blk.setCell ?_ _ _ ?_; rotate_left; focus (simp <;> omega)))))) hb1 (by omega)
  have C1 : Blk w1 (w.heap.size + 1) #[.int .i64 b1, .int .i64 b2, .int .i64 b3, .int .i64 b4, .int .i64 b5, .int .i64 b6] := Blk.low ((by repeat (with_reducible (first | assumption | (refine Blk.at _ _ _ _ ?_; simp; done) | apply Blk.alloc | apply Blk.drew | apply Blk.drewN | apply Blk.more | (refine Blk.setCell ?_ _ _ ?_; rotate_left; focus (simp <;> omega)))))) hb1 (by omega)
  have F1 : Blk w1 (w.heap.size + 1 + 1) #[.int .i64 0, .int .i64 0, .int .i64 0] := Blk.low ((by repeat (with_reducible (first | assumption | (refine Blk.at _ _ _ _ ?_; simp; done) | apply Blk.alloc | apply Blk.drew | apply Blk.drewN | apply Blk.more | (refine Blk.setCell ?_ _ _ ?_; rotate_left; focus (simp <;> omega)))))) hb1 (by omega)
  obtain ⟨zD1, cD1, fD1⟩ := id D1
  obtain ⟨zE1, cE1, fE1⟩ := id E1
  obtain ⟨zA1, cA1, fA1⟩ := id A1
  obtain ⟨zC1, cC1, fC1⟩ := id C1
  obtain ⟨zF1, cF1, fF1⟩ := id F1
  go_wp2_with fail
  refine (sub_c _ _ _).mono ?_
  rintro e u2 ⟨rfl, rfl⟩
  go_wp2_with fail
  refine (outf_e _ _ _ _ _ _ _ _ (w.heap.size + 1 + 1 + 1) (w.heap.size + 1 + 1 + 1 + 1) _ D1 E1 (by omega)).mono ?_
  rintro e w2 ⟨y21, y22, y23, y24, hs2, rfl, D2, E2, h2⟩
  have hb2 := h2 (w.heap.size + 1 + 1 + 1) (Nat.le_refl _) (by omega)
  have A2 : Blk w2 (w.heap.size) #[.int .i64 a1, .int .i64 a2, .int .i64 a3, .int .i64 a4, .int .i64 a5, .int .i64 a6] := Blk.low (A1) hb2 (by omega)
  have C2 : Blk w2 (w.heap.size + 1) #[.int .i64 b1, .int .i64 b2, .int .i64 b3, .int .i64 b4, .int .i64 b5, .int .i64 b6] := Blk.low (C1) hb2 (by omega)
  have F2 : Blk w2 (w.heap.size + 1 + 1) #[.int .i64 0, .int .i64 0, .int .i64 0] := Blk.low (F1) hb2 (by omega)
  obtain ⟨zD2, cD2, fD2⟩ := id D2
  obtain ⟨zE2, cE2, fE2⟩ := id E2
  obtain ⟨zA2, cA2, fA2⟩ := id A2
  obtain ⟨zC2, cC2, fC2⟩ := id C2
  obtain ⟨zF2, cF2, fF2⟩ := id F2
  go_wp2_with fail
  refine (sub_c _ _ _).mono ?_
  rintro e u3 ⟨rfl, rfl⟩
  go_wp2_with fail
  refine (outf_e _ _ _ _ _ _ _ _ (w.heap.size + 1 + 1 + 1) (w.heap.size + 1 + 1 + 1 + 1) _ D2 E2 (by omega)).mono ?_
  rintro e w3 ⟨y31, y32, y33, y34, hs3, rfl, D3, E3, h3⟩
  have hb3 := h3 (w.heap.size + 1 + 1 + 1) (Nat.le_refl _) (by omega)
  have A3 : Blk w3 (w.heap.size) #[.int .i64 a1, .int .i64 a2, .int .i64 a3, .int .i64 a4, .int .i64 a5, .int .i64 a6] := Blk.low (A2) hb3 (by omega)
  have C3 : Blk w3 (w.heap.size + 1) #[.int .i64 b1, .int .i64 b2, .int .i64 b3, .int .i64 b4, .int .i64 b5, .int .i64 b6] := Blk.low (C2) hb3 (by omega)
  have F3 : Blk w3 (w.heap.size + 1 + 1) #[.int .i64 0, .int .i64 0, .int .i64 0] := Blk.low (F2) hb3 (by omega)
  obtain ⟨zD3, cD3, fD3⟩ := id D3
  obtain ⟨zE3, cE3, fE3⟩ := id E3
  obtain ⟨zA3, cA3, fA3⟩ := id A3
  obtain ⟨zC3, cC3, fC3⟩ := id C3
  obtain ⟨zF3, cF3, fF3⟩ := id F3
  go_wp2_with fail
  refine (sub_c _ _ _).mono ?_
  rintro e u4 ⟨rfl, rfl⟩
  go_wp2_with fail
  refine (outf_e _ _ _ _ _ _ _ _ (w.heap.size + 1 + 1 + 1) (w.heap.size + 1 + 1 + 1 + 1) _ D3 E3 (by omega)).mono ?_
  rintro e w4 ⟨y41, y42, y43, y44, hs4, rfl, D4, E4, h4⟩
  have hb4 := h4 (w.heap.size + 1 + 1 + 1) (Nat.le_refl _) (by omega)
  have A4 : Blk w4 (w.heap.size) #[.int .i64 a1, .int .i64 a2, .int .i64 a3, .int .i64 a4, .int .i64 a5, .int .i64 a6] := Blk.low (A3) hb4 (by omega)
  have C4 : Blk w4 (w.heap.size + 1) #[.int .i64 b1, .int .i64 b2, .int .i64 b3, .int .i64 b4, .int .i64 b5, .int .i64 b6] := Blk.low (C3) hb4 (by omega)
  have F4 : Blk w4 (w.heap.size + 1 + 1) #[.int .i64 0, .int .i64 0, .int .i64 0] := Blk.low (F3) hb4 (by omega)
  obtain ⟨zD4, cD4, fD4⟩ := id D4
  obtain ⟨zE4, cE4, fE4⟩ := id E4
  obtain ⟨zA4, cA4, fA4⟩ := id A4
  obtain ⟨zC4, cC4, fC4⟩ := id C4
  obtain ⟨zF4, cF4, fF4⟩ := id F4
  go_wp2_with fail
  refine (sub_c _ _ _).mono ?_
  rintro e u5 ⟨rfl, rfl⟩
  go_wp2_with fail
  refine (outf_e _ _ _ _ _ _ _ _ (w.heap.size + 1 + 1 + 1) (w.heap.size + 1 + 1 + 1 + 1) _ D4 E4 (by omega)).mono ?_
  rintro e w5 ⟨y51, y52, y53, y54, hs5, rfl, D5, E5, h5⟩
  have hb5 := h5 (w.heap.size + 1 + 1 + 1) (Nat.le_refl _) (by omega)
  have A5 : Blk w5 (w.heap.size) #[.int .i64 a1, .int .i64 a2, .int .i64 a3, .int .i64 a4, .int .i64 a5, .int .i64 a6] := Blk.low (A4) hb5 (by omega)
  have C5 : Blk w5 (w.heap.size + 1) #[.int .i64 b1, .int .i64 b2, .int .i64 b3, .int .i64 b4, .int .i64 b5, .int .i64 b6] := Blk.low (C4) hb5 (by omega)
  have F5 : Blk w5 (w.heap.size + 1 + 1) #[.int .i64 0, .int .i64 0, .int .i64 0] := Blk.low (F4) hb5 (by omega)
  obtain ⟨zD5, cD5, fD5⟩ := id D5
  obtain ⟨zE5, cE5, fE5⟩ := id E5
  obtain ⟨zA5, cA5, fA5⟩ := id A5
  obtain ⟨zC5, cC5, fC5⟩ := id C5
  obtain ⟨zF5, cF5, fF5⟩ := id F5
  go_wp2_with fail
  refine (sub_c _ _ _).mono ?_
  rintro e u6 ⟨rfl, rfl⟩
  go_wp2_with fail
  refine (outf_e _ _ _ _ _ _ _ _ (w.heap.size + 1 + 1 + 1) (w.heap.size + 1 + 1 + 1 + 1) _ D5 E5 (by omega)).mono ?_
  rintro e w6 ⟨y61, y62, y63, y64, hs6, rfl, D6, E6, h6⟩
  have hb6 := h6 (w.heap.size + 1 + 1 + 1) (Nat.le_refl _) (by omega)
  have A6 : Blk w6 (w.heap.size) #[.int .i64 a1, .int .i64 a2, .int .i64 a3, .int .i64 a4, .int .i64 a5, .int .i64 a6] := Blk.low (A5) hb6 (by omega)
  have C6 : Blk w6 (w.heap.size + 1) #[.int .i64 b1, .int .i64 b2, .int .i64 b3, .int .i64 b4, .int .i64 b5, .int .i64 b6] := Blk.low (C5) hb6 (by omega)
  have F6 : Blk w6 (w.heap.size + 1 + 1) #[.int .i64 0, .int .i64 0, .int .i64 0] := Blk.low (F5) hb6 (by omega)
  obtain ⟨zD6, cD6, fD6⟩ := id D6
  obtain ⟨zE6, cE6, fE6⟩ := id E6
  obtain ⟨zA6, cA6, fA6⟩ := id A6
  obtain ⟨zC6, cC6, fC6⟩ := id C6
  obtain ⟨zF6, cF6, fF6⟩ := id F6
  have hB0 : Below w.heap.size w w1 := Below.trans (by repeat (with_reducible (first | exact Below.refl _ _ | assumption | apply ext_drew | apply ext_drewN | apply ext_alloc | apply ext_more | (refine ext_setCell ?_ (by simp <;> omega) _) | (refine ext_below ?_ (by assumption))))) (h1 _ (by omega) (by omega))
  have hB1 := hB0.trans (h2 w.heap.size (by omega) (by omega))
  have hB2 := hB1.trans (h3 w.heap.size (by omega) (by omega))
  have hB3 := hB2.trans (h4 w.heap.size (by omega) (by omega))
  have hB4 := hB3.trans (h5 w.heap.size (by omega) (by omega))
  have hB5 := hB4.trans (h6 w.heap.size (by omega) (by omega))
  go_wp2
  go_region
  all_goals
    go_wp2
    have ho : outT a1 a2 a3 a4 a5 a6 b1 b2 b3 b4 b5 b6 = (y61, y62, y63, y64) := by unfold outT; rw [hs1, hs2, hs3, hs4, hs5, hs6]
    rw [ho]
    exact bodyPost_ret (v := .tuple #[.agg #[.int .i64 y61, .int .i64 y62, .int .i64 y63], .int .i64 y64]) (by simp [results, Tryz.results83, go_sem, *]) rfl ⟨rfl, (by repeat (with_reducible (first | exact Below.refl _ _ | assumption | apply ext_drew | apply ext_drewN | apply ext_alloc | apply ext_more | (refine ext_setCell ?_ (by simp <;> omega) _) | (refine ext_below ?_ (by assumption)))))⟩

end Go.Proofs.YtniahipadfgkbaaGreat
