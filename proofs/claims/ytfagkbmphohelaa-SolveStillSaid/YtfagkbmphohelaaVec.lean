/- The contracts of what is done with vectors (package fx, and the document's answers). Conditions: none. -/
import Derived.Test.YtfagkbmphohelaaFx2
import Derived.Test.YtfagkbmphohelaaQuiet
namespace Go.Proofs.Ytfagkbmphohelaa
open Go.ChangeShapes Go.WideShapes Go.ChangeAt Go.RowKit Go.BigFrame

theorem plus_c (a1 a2 a3 b1 b2 b3 : Int) (w : World) : Calls Try.prog 58 #[.agg #[.int .i64 a1, .int .i64 a2, .int .i64 a3], .agg #[.int .i64 b1, .int .i64 b2, .int .i64 b3]] w fun e w' => e = .returned (.agg #[.int .i64 (add a1 b1), .int .i64 (add a2 b2), .int .i64 (add a3 b3)]) ∧ Below w.heap.size w w' := by
  have hmc := more_cell
  have hmf := more_frozen
  have hml := more_lt
  go_enter Try.func58, Try.ntmps58
  go_wp2
  refine region_quiet_but 16 (by kernel_rfl) (by kernel_rfl) ?_
  simp only [List.take_succ_cons, List.take_zero, List.drop_succ_cons, List.drop_zero]
  repeat (go_big_quiet_step ((go_at_call 51; exact calls_after_same (add_c _ _ _))))
  refine wpQuiet_nil ?_
  rintro _ ⟨m, rfl⟩
  go_wp2
  exact bodyPost_ret (v := .agg #[.int .i64 (add a1 b1), .int .i64 (add a2 b2), .int .i64 (add a3 b3)]) (by simp [results, Try.results58, go_sem, *]) rfl ⟨rfl, (by repeat (first | exact Below.refl _ _ | assumption | apply ext_drew | (refine ext_below ?_ (by assumption)) | apply ext_drewN | apply ext_alloc | apply ext_more | (refine ext_setCell ?_ (by simp <;> omega) _)))⟩

theorem minus_c (a1 a2 a3 b1 b2 b3 : Int) (w : World) : Calls Try.prog 60 #[.agg #[.int .i64 a1, .int .i64 a2, .int .i64 a3], .agg #[.int .i64 b1, .int .i64 b2, .int .i64 b3]] w fun e w' => e = .returned (.agg #[.int .i64 (sub a1 b1), .int .i64 (sub a2 b2), .int .i64 (sub a3 b3)]) ∧ Below w.heap.size w w' := by
  have hmc := more_cell
  have hmf := more_frozen
  have hml := more_lt
  go_enter Try.func60, Try.ntmps60
  go_wp2
  refine region_quiet_but 16 (by kernel_rfl) (by kernel_rfl) ?_
  simp only [List.take_succ_cons, List.take_zero, List.drop_succ_cons, List.drop_zero]
  repeat (go_big_quiet_step ((go_at_call 49; exact calls_after_same (sub_c _ _ _))))
  refine wpQuiet_nil ?_
  rintro _ ⟨m, rfl⟩
  go_wp2
  exact bodyPost_ret (v := .agg #[.int .i64 (sub a1 b1), .int .i64 (sub a2 b2), .int .i64 (sub a3 b3)]) (by simp [results, Try.results60, go_sem, *]) rfl ⟨rfl, (by repeat (first | exact Below.refl _ _ | assumption | apply ext_drew | (refine ext_below ?_ (by assumption)) | apply ext_drewN | apply ext_alloc | apply ext_more | (refine ext_setCell ?_ (by simp <;> omega) _)))⟩

theorem times_c (a1 a2 a3 k : Int) (w : World) : Calls Try.prog 62 #[.agg #[.int .i64 a1, .int .i64 a2, .int .i64 a3], .int .i64 k] w fun e w' => e = .returned (.agg #[.int .i64 (mul a1 k), .int .i64 (mul a2 k), .int .i64 (mul a3 k)]) ∧ Below w.heap.size w w' := by
  have hmc := more_cell
  have hmf := more_frozen
  have hml := more_lt
  go_enter Try.func62, Try.ntmps62
  go_wp2
  refine region_quiet_but 13 (by kernel_rfl) (by kernel_rfl) ?_
  simp only [List.take_succ_cons, List.take_zero, List.drop_succ_cons, List.drop_zero]
  repeat (go_big_quiet_step ((go_at_call 48; exact calls_after_same (mul_c _ _ _))))
  refine wpQuiet_nil ?_
  rintro _ ⟨m, rfl⟩
  go_wp2
  exact bodyPost_ret (v := .agg #[.int .i64 (mul a1 k), .int .i64 (mul a2 k), .int .i64 (mul a3 k)]) (by simp [results, Try.results62, go_sem, *]) rfl ⟨rfl, (by repeat (first | exact Below.refl _ _ | assumption | apply ext_drew | (refine ext_below ?_ (by assumption)) | apply ext_drewN | apply ext_alloc | apply ext_more | (refine ext_setCell ?_ (by simp <;> omega) _)))⟩

def dot (a1 a2 a3 b1 b2 b3 : Int) : Int := add (add (mul a1 b1) (mul a2 b2)) (mul a3 b3)
def long (a1 a2 a3 : Int) : Int := root (dot a1 a2 a3 a1 a2 a3)

theorem dot_c (a1 a2 a3 b1 b2 b3 : Int) (w : World) : Calls Try.prog 64 #[.agg #[.int .i64 a1, .int .i64 a2, .int .i64 a3], .agg #[.int .i64 b1, .int .i64 b2, .int .i64 b3]] w fun e w' => e = .returned (.int .i64 (dot a1 a2 a3 b1 b2 b3)) ∧ Below w.heap.size w w' := by
  have hmc := more_cell
  have hmf := more_frozen
  have hml := more_lt
  go_enter Try.func64, Try.ntmps64
  go_wp2
  refine region_quiet_all (by kernel_rfl) (by kernel_rfl) ?_
  repeat (go_big_quiet_step (first | (go_at_call 48; exact calls_after_same (mul_c _ _ _)) | (go_at_call 51; exact calls_after_same (add_c _ _ _))))
  refine wpQuiet_nil ?_
  rintro _ ⟨m, rfl⟩
  go_wp2
  go_ret
  exact ⟨rfl, (by repeat (first | exact Below.refl _ _ | assumption | apply ext_drew | (refine ext_below ?_ (by assumption)) | apply ext_drewN | apply ext_alloc | apply ext_more | (refine ext_setCell ?_ (by simp <;> omega) _)))⟩

theorem long_c (a1 a2 a3 : Int) (w : World) : Calls Try.prog 66 #[.agg #[.int .i64 a1, .int .i64 a2, .int .i64 a3]] w fun e w' => e = .returned (.int .i64 (long a1 a2 a3)) ∧ Below w.heap.size w w' := by
  have hmc := more_cell
  have hmf := more_frozen
  have hml := more_lt
  go_enter Try.func66, Try.ntmps66
  go_wp2_with (first | (go_at_call 64; refine (dot_c _ _ _ _ _ _ _).mono ?_; rintro e w' ⟨rfl, hb⟩; have hb' := hb.size) | (go_at_call 47; refine (root_c _ _).mono ?_; rintro e w' ⟨rfl, rfl⟩))
  go_ret
  exact ⟨rfl, ext_below (ext_alloc (Below.refl _ _) _) hb⟩

def unit1 (a1 a2 a3 : Int) : Int := if long a1 a2 a3 = 0 then 0 else div a1 (long a1 a2 a3)
def unit2 (a1 a2 a3 : Int) : Int := if long a1 a2 a3 = 0 then 65536 else div a2 (long a1 a2 a3)
def unit3 (a1 a2 a3 : Int) : Int := if long a1 a2 a3 = 0 then 0 else div a3 (long a1 a2 a3)
/-- within m -/
def clampP (m n : Int) : Int := if n > m then m else if n < -m then -m else n
/-- within most -/
def clamp (most n : Int) : Int := clampP (max most 0) n
theorem clampP_bd (m n : Int) (h : 0 ≤ m) : -m ≤ clampP m n ∧ clampP m n ≤ m := by
  unfold clampP; repeat' split <;> omega
theorem clampP_in {m n : Int} (h1 : -m ≤ n) (h2 : n ≤ m) : clampP m n = n := by
  unfold clampP; repeat' split <;> omega
theorem clamp_bd (m n : Int) (h : 0 ≤ m) : -m ≤ clamp m n ∧ clamp m n ≤ m := by
  unfold clamp; rw [show max m 0 = m from by omega]; exact clampP_bd m n h
theorem rv3 {k : IntKind} {a b c a' b' c' : Int} (h1 : a = a') (h2 : b = b') (h3 : c = c') : Ending.returned (.agg #[.int k a, .int k b, .int k c]) = .returned (.agg #[.int k a', .int k b', .int k c']) := by rw [h1, h2, h3]

theorem unit_c (a1 a2 a3 : Int) (w : World) : Calls Try.prog 68 #[.agg #[.int .i64 a1, .int .i64 a2, .int .i64 a3]] w fun e w' => e = .returned (.agg #[.int .i64 (unit1 a1 a2 a3), .int .i64 (unit2 a1 a2 a3), .int .i64 (unit3 a1 a2 a3)]) ∧ Below w.heap.size w w' := by
  have hmc := more_cell
  have hmf := more_frozen
  have hml := more_lt
  by_cases h : long a1 a2 a3 = 0
  · have hz : (long a1 a2 a3 == 0) = true := by rw [beq_iff_eq]; exact h
    have H1 := Lib.hid h
    clear h
    go_enter Try.func68, Try.ntmps68
    go_wp2_with fail
    refine (long_c _ _ _ _).mono ?_
    rintro e w1 ⟨rfl, hb1⟩
    have B1_0 : Blk w1 (w.heap.size) #[.int .i64 a1, .int .i64 a2, .int .i64 a3] := Blk.below (by repeat (first | assumption | exact Blk.at _ _ _ _ (by simp) | apply Blk.alloc | apply Blk.drew | apply Blk.drewN | apply Blk.more | (refine Blk.setCell ?_ _ _ (by simp <;> omega)))) hb1
    obtain ⟨z1_0, c1_0, f1_0⟩ := id B1_0
    have B1_1 : Blk w1 (w.heap.size + 1) #[.int .i64 0, .int .i64 0, .int .i64 0] := Blk.below (by repeat (first | assumption | exact Blk.at _ _ _ _ (by simp) | apply Blk.alloc | apply Blk.drew | apply Blk.drewN | apply Blk.more | (refine Blk.setCell ?_ _ _ (by simp <;> omega)))) hb1
    obtain ⟨z1_1, c1_1, f1_1⟩ := id B1_1
    go_wp2
    exact bodyPost_ret (v := .agg #[.int .i64 (0), .int .i64 (65536), .int .i64 (0)]) (by simp [results, Try.results68, go_sem, *]) rfl ⟨rv3 (by unfold unit1; rw [if_pos H1.out]) (by unfold unit2; rw [if_pos H1.out]) (by unfold unit3; rw [if_pos H1.out]), (by repeat (first | exact Below.refl _ _ | assumption | apply ext_drew | (refine ext_below ?_ (by assumption)) | apply ext_drewN | apply ext_alloc | apply ext_more | (refine ext_setCell ?_ (by simp <;> omega) _)))⟩
  · have hz : (long a1 a2 a3 == 0) = false := by rw [beq_eq_false_iff_ne]; exact h
    have H1 := Lib.hid h
    clear h
    go_enter Try.func68, Try.ntmps68
    go_wp2_with fail
    refine (long_c _ _ _ _).mono ?_
    rintro e w1 ⟨rfl, hb1⟩
    have B1_0 : Blk w1 (w.heap.size) #[.int .i64 a1, .int .i64 a2, .int .i64 a3] := Blk.below (by repeat (first | assumption | exact Blk.at _ _ _ _ (by simp) | apply Blk.alloc | apply Blk.drew | apply Blk.drewN | apply Blk.more | (refine Blk.setCell ?_ _ _ (by simp <;> omega)))) hb1
    obtain ⟨z1_0, c1_0, f1_0⟩ := id B1_0
    have B1_1 : Blk w1 (w.heap.size + 1) #[.int .i64 0, .int .i64 0, .int .i64 0] := Blk.below (by repeat (first | assumption | exact Blk.at _ _ _ _ (by simp) | apply Blk.alloc | apply Blk.drew | apply Blk.drewN | apply Blk.more | (refine Blk.setCell ?_ _ _ (by simp <;> omega)))) hb1
    obtain ⟨z1_1, c1_1, f1_1⟩ := id B1_1
    go_wp2_with fail
    refine region_quiet_but 13 (by kernel_rfl) (by kernel_rfl) ?_
    simp only [List.take_succ_cons, List.take_zero, List.drop_succ_cons, List.drop_zero]
    repeat (go_big_quiet_step ((go_at_call 55; exact calls_after_drewN (div_c _ _ _))))
    refine wpQuiet_nil ?_
    rintro _ ⟨m, rfl⟩
    go_wp2
    exact bodyPost_ret (v := .agg #[.int .i64 (div a1 (long a1 a2 a3)), .int .i64 (div a2 (long a1 a2 a3)), .int .i64 (div a3 (long a1 a2 a3))]) (by simp [results, Try.results68, go_sem, *]) rfl ⟨rv3 (by unfold unit1; rw [if_neg H1.out]) (by unfold unit2; rw [if_neg H1.out]) (by unfold unit3; rw [if_neg H1.out]), (by repeat (first | exact Below.refl _ _ | assumption | apply ext_drew | (refine ext_below ?_ (by assumption)) | apply ext_drewN | apply ext_alloc | apply ext_more | (refine ext_setCell ?_ (by simp <;> omega) _)))⟩

end Go.Proofs.Ytfagkbmphohelaa
