/- The contracts of the least box around two, of a greater one, and of the nearest point (package geom, and the document's answers). Conditions: none. -/
import Derived.Test.YtfagkbmphohelaaGeom
import Derived.Deep.RegionWith
namespace Go.Proofs.Ytfagkbmphohelaa
open Go.ChangeShapes Go.WideShapes Go.ChangeAt Go.RowKit Go.BigFrame

set_option maxHeartbeats 1000000 in
theorem both_c (a1 a2 a3 a4 a5 a6 b1 b2 b3 b4 b5 b6 : Int) (w : World) : Calls Try.prog 23 #[.agg #[.int .i64 a1, .int .i64 a2, .int .i64 a3, .int .i64 a4, .int .i64 a5, .int .i64 a6], .agg #[.int .i64 b1, .int .i64 b2, .int .i64 b3, .int .i64 b4, .int .i64 b5, .int .i64 b6]] w fun e w' => e = .returned (.agg #[.int .i64 (min a1 b1), .int .i64 (min a2 b2), .int .i64 (min a3 b3), .int .i64 (max a4 b4), .int .i64 (max a5 b5), .int .i64 (max a6 b6)]) ∧ Below w.heap.size w w' := by
  have hmc := more_cell
  have hmf := more_frozen
  have hml := more_lt
  go_enter Try.func23, Try.ntmps23
  go_wp2
  exact bodyPost_ret (v := .agg #[.int .i64 (min a1 b1), .int .i64 (min a2 b2), .int .i64 (min a3 b3), .int .i64 (max a4 b4), .int .i64 (max a5 b5), .int .i64 (max a6 b6)]) (by simp [results, Try.results23, go_sem, *]) rfl ⟨rfl, (by repeat (with_reducible (first | exact Below.refl _ _ | assumption | apply ext_drew | apply ext_drewN | apply ext_alloc | apply ext_more | (refine ext_setCell ?_ (by simp <;> omega) _) | (refine ext_below ?_ (by assumption)))))⟩

theorem minbf_c (x y : Int) (w : World) : Calls Try.prog 89 #[.int .i64 x, .int .i64 y] w fun e w' => e = .returned (.int .i64 (min x y)) ∧ w = w' := by
  go_enter Try.func89, Try.ntmps89
  go_wp2
  go_ret
  exact ⟨ri (by omega), rfl⟩
theorem minbEach_c (a1 a2 a3 b1 b2 b3 : Int) (w : World) : Calls Try.prog 88 #[.agg #[.int .i64 a1, .int .i64 a2, .int .i64 a3], .agg #[.int .i64 b1, .int .i64 b2, .int .i64 b3], .func (.func 89) #[] #[]] w fun e w' => e = .returned (.agg #[.int .i64 (min a1 b1), .int .i64 (min a2 b2), .int .i64 (min a3 b3)]) ∧ Below w.heap.size w w' :=
  each_c 89 #[] (fun x y => #[.int .i64 x, .int .i64 y]) (fun x y => min x y) a1 a2 a3 b1 b2 b3 w (fun _ _ => rfl) (fun _ _ => by kernel_rfl) (fun x y W _ => (minbf_c x y W).mono fun e w' ⟨h1, h2⟩ => ⟨h1, 0, h2.symm⟩)

theorem maxbf_c (x y : Int) (w : World) : Calls Try.prog 90 #[.int .i64 x, .int .i64 y] w fun e w' => e = .returned (.int .i64 (max x y)) ∧ w = w' := by
  go_enter Try.func90, Try.ntmps90
  go_wp2
  go_ret
  exact ⟨ri (by omega), rfl⟩
theorem maxbEach_c (a1 a2 a3 b1 b2 b3 : Int) (w : World) : Calls Try.prog 88 #[.agg #[.int .i64 a1, .int .i64 a2, .int .i64 a3], .agg #[.int .i64 b1, .int .i64 b2, .int .i64 b3], .func (.func 90) #[] #[]] w fun e w' => e = .returned (.agg #[.int .i64 (max a1 b1), .int .i64 (max a2 b2), .int .i64 (max a3 b3)]) ∧ Below w.heap.size w w' :=
  each_c 90 #[] (fun x y => #[.int .i64 x, .int .i64 y]) (fun x y => max x y) a1 a2 a3 b1 b2 b3 w (fun _ _ => rfl) (fun _ _ => by kernel_rfl) (fun x y W _ => (maxbf_c x y W).mono fun e w' ⟨h1, h2⟩ => ⟨h1, 0, h2.symm⟩)

theorem minnf_c (x y : Int) (w : World) : Calls Try.prog 92 #[.int .i64 x, .int .i64 y] w fun e w' => e = .returned (.int .i64 (min x y)) ∧ w = w' := by
  go_enter Try.func92, Try.ntmps92
  go_wp2
  go_ret
  exact ⟨ri (by omega), rfl⟩
theorem minnEach_c (a1 a2 a3 b1 b2 b3 : Int) (w : World) : Calls Try.prog 88 #[.agg #[.int .i64 a1, .int .i64 a2, .int .i64 a3], .agg #[.int .i64 b1, .int .i64 b2, .int .i64 b3], .func (.func 92) #[] #[]] w fun e w' => e = .returned (.agg #[.int .i64 (min a1 b1), .int .i64 (min a2 b2), .int .i64 (min a3 b3)]) ∧ Below w.heap.size w w' :=
  each_c 92 #[] (fun x y => #[.int .i64 x, .int .i64 y]) (fun x y => min x y) a1 a2 a3 b1 b2 b3 w (fun _ _ => rfl) (fun _ _ => by kernel_rfl) (fun x y W _ => (minnf_c x y W).mono fun e w' ⟨h1, h2⟩ => ⟨h1, 0, h2.symm⟩)

theorem maxnf_c (x y : Int) (w : World) : Calls Try.prog 93 #[.int .i64 x, .int .i64 y] w fun e w' => e = .returned (.int .i64 (max x y)) ∧ w = w' := by
  go_enter Try.func93, Try.ntmps93
  go_wp2
  go_ret
  exact ⟨ri (by omega), rfl⟩
theorem maxnEach_c (a1 a2 a3 b1 b2 b3 : Int) (w : World) : Calls Try.prog 88 #[.agg #[.int .i64 a1, .int .i64 a2, .int .i64 a3], .agg #[.int .i64 b1, .int .i64 b2, .int .i64 b3], .func (.func 93) #[] #[]] w fun e w' => e = .returned (.agg #[.int .i64 (max a1 b1), .int .i64 (max a2 b2), .int .i64 (max a3 b3)]) ∧ Below w.heap.size w w' :=
  each_c 93 #[] (fun x y => #[.int .i64 x, .int .i64 y]) (fun x y => max x y) a1 a2 a3 b1 b2 b3 w (fun _ _ => rfl) (fun _ _ => by kernel_rfl) (fun x y W _ => (maxnf_c x y W).mono fun e w' ⟨h1, h2⟩ => ⟨h1, 0, h2.symm⟩)

set_option maxHeartbeats 1000000 in
theorem rboth_c (a1 a2 a3 a4 a5 a6 b1 b2 b3 b4 b5 b6 : Int) (w : World) : Calls Try.prog 24 #[.agg #[.int .i64 a1, .int .i64 a2, .int .i64 a3, .int .i64 a4, .int .i64 a5, .int .i64 a6], .agg #[.int .i64 b1, .int .i64 b2, .int .i64 b3, .int .i64 b4, .int .i64 b5, .int .i64 b6]] w fun e w' => e = .returned (.agg #[.int .i64 (min a1 b1), .int .i64 (min a2 b2), .int .i64 (min a3 b3), .int .i64 (max a4 b4), .int .i64 (max a5 b5), .int .i64 (max a6 b6)]) ∧ Below w.heap.size w w' := by
  have hmc := more_cell
  have hmf := more_frozen
  have hml := more_lt
  go_enter Try.func24, Try.ntmps24
  go_wp2
  refine region_quiet_but 11 (by kernel_rfl) (by kernel_rfl) ?_
  simp only [List.take_succ_cons, List.take_zero, List.drop_succ_cons, List.drop_zero]
  repeat (go_big_quiet_step (first | (go_at_call_of 88 (Value.agg #[Value.int IntKind.i64 a1, Value.int IntKind.i64 a2, Value.int IntKind.i64 a3]); exact calls_after (minbEach_c _ _ _ _ _ _ _)) | (go_at_call_of 88 (Value.agg #[Value.int IntKind.i64 a4, Value.int IntKind.i64 a5, Value.int IntKind.i64 a6]); exact calls_after (maxbEach_c _ _ _ _ _ _ _))))
  refine wpQuiet_nil ?_
  rintro _ ⟨m, rfl⟩
  go_wp2
  exact bodyPost_ret (v := .agg #[.int .i64 (min a1 b1), .int .i64 (min a2 b2), .int .i64 (min a3 b3), .int .i64 (max a4 b4), .int .i64 (max a5 b5), .int .i64 (max a6 b6)]) (by simp [results, Try.results24, go_sem, *]) rfl ⟨rfl, (by repeat (with_reducible (first | exact Below.refl _ _ | assumption | apply ext_drew | apply ext_drewN | apply ext_alloc | apply ext_more | (refine ext_setCell ?_ (by simp <;> omega) _) | (refine ext_below ?_ (by assumption)))))⟩

set_option maxHeartbeats 1000000 in
theorem fat_c (a1 a2 a3 a4 a5 a6 k : Int) (w : World) : Calls Try.prog 25 #[.agg #[.int .i64 a1, .int .i64 a2, .int .i64 a3, .int .i64 a4, .int .i64 a5, .int .i64 a6], .int .i64 k] w fun e w' => e = .returned (.agg #[.int .i64 (sub a1 k), .int .i64 (sub a2 k), .int .i64 (sub a3 k), .int .i64 (add a4 k), .int .i64 (add a5 k), .int .i64 (add a6 k)]) ∧ Below w.heap.size w w' := by
  have hmc := more_cell
  have hmf := more_frozen
  have hml := more_lt
  go_enter Try.func25, Try.ntmps25
  go_wp2
  refine region_quiet_but 9 (by kernel_rfl) (by kernel_rfl) ?_
  simp only [List.take_succ_cons, List.take_zero, List.drop_succ_cons, List.drop_zero]
  repeat (go_big_quiet_step (first | (go_at_call 60; exact calls_after (minus_c _ _ _ _ _ _ _)) | (go_at_call 58; exact calls_after (plus_c _ _ _ _ _ _ _))))
  refine wpQuiet_nil ?_
  rintro _ ⟨m, rfl⟩
  go_wp2
  exact bodyPost_ret (v := .agg #[.int .i64 (sub a1 k), .int .i64 (sub a2 k), .int .i64 (sub a3 k), .int .i64 (add a4 k), .int .i64 (add a5 k), .int .i64 (add a6 k)]) (by simp [results, Try.results25, go_sem, *]) rfl ⟨rfl, (by repeat (with_reducible (first | exact Below.refl _ _ | assumption | apply ext_drew | apply ext_drewN | apply ext_alloc | apply ext_more | (refine ext_setCell ?_ (by simp <;> omega) _) | (refine ext_below ?_ (by assumption)))))⟩

set_option maxHeartbeats 1000000 in
theorem rfat_c (a1 a2 a3 a4 a5 a6 k : Int) (w : World) : Calls Try.prog 26 #[.agg #[.int .i64 a1, .int .i64 a2, .int .i64 a3, .int .i64 a4, .int .i64 a5, .int .i64 a6], .int .i64 k] w fun e w' => e = .returned (.agg #[.int .i64 (sub a1 k), .int .i64 (sub a2 k), .int .i64 (sub a3 k), .int .i64 (add a4 k), .int .i64 (add a5 k), .int .i64 (add a6 k)]) ∧ Below w.heap.size w w' := by
  have hmc := more_cell
  have hmf := more_frozen
  have hml := more_lt
  go_enter Try.func26, Try.ntmps26
  go_wp2
  refine region_quiet_but 9 (by kernel_rfl) (by kernel_rfl) ?_
  simp only [List.take_succ_cons, List.take_zero, List.drop_succ_cons, List.drop_zero]
  repeat (go_big_quiet_step (first | (go_at_call 61; exact calls_after (rminus_c _ _ _ _ _ _ _)) | (go_at_call 59; exact calls_after (rplus_c _ _ _ _ _ _ _))))
  refine wpQuiet_nil ?_
  rintro _ ⟨m, rfl⟩
  go_wp2
  exact bodyPost_ret (v := .agg #[.int .i64 (sub a1 k), .int .i64 (sub a2 k), .int .i64 (sub a3 k), .int .i64 (add a4 k), .int .i64 (add a5 k), .int .i64 (add a6 k)]) (by simp [results, Try.results26, go_sem, *]) rfl ⟨rfl, (by repeat (with_reducible (first | exact Below.refl _ _ | assumption | apply ext_drew | apply ext_drewN | apply ext_alloc | apply ext_more | (refine ext_setCell ?_ (by simp <;> omega) _) | (refine ext_below ?_ (by assumption)))))⟩

theorem nearf_c (n l h : Int) (w : World) : Calls Try.prog 91 #[.int .i64 n, .int .i64 l, .int .i64 h] w fun e w' => e = .returned (.int .i64 (max l (min h n))) ∧ w = w' := by
  go_enter Try.func91, Try.ntmps91
  go_wp2
  go_ret
  exact ⟨ri (by omega), rfl⟩

set_option maxHeartbeats 1000000 in
theorem near_c (a1 a2 a3 a4 a5 a6 b1 b2 b3 : Int) (w : World) : Calls Try.prog 27 #[.agg #[.int .i64 a1, .int .i64 a2, .int .i64 a3, .int .i64 a4, .int .i64 a5, .int .i64 a6], .agg #[.int .i64 b1, .int .i64 b2, .int .i64 b3]] w fun e w' => e = .returned (.agg #[.int .i64 (max a1 (min a4 b1)), .int .i64 (max a2 (min a5 b2)), .int .i64 (max a3 (min a6 b3))]) ∧ Below w.heap.size w w' := by
  have hmc := more_cell
  have hmf := more_frozen
  have hml := more_lt
  go_enter Try.func27, Try.ntmps27
  go_wp2
  refine region_quiet_but 31 (by kernel_rfl) (by kernel_rfl) ?_
  simp only [List.take_succ_cons, List.take_zero, List.drop_succ_cons, List.drop_zero]
  repeat (go_big_quiet_step ((go_at_call 91; exact calls_after_same (nearf_c _ _ _ _))))
  refine wpQuiet_nil ?_
  rintro _ ⟨m, rfl⟩
  go_wp2
  exact bodyPost_ret (v := .agg #[.int .i64 (max a1 (min a4 b1)), .int .i64 (max a2 (min a5 b2)), .int .i64 (max a3 (min a6 b3))]) (by simp [results, Try.results27, go_sem, *]) rfl ⟨rfl, (by repeat (with_reducible (first | exact Below.refl _ _ | assumption | apply ext_drew | apply ext_drewN | apply ext_alloc | apply ext_more | (refine ext_setCell ?_ (by simp <;> omega) _) | (refine ext_below ?_ (by assumption)))))⟩

set_option maxHeartbeats 1000000 in
theorem rnear_c (a1 a2 a3 a4 a5 a6 b1 b2 b3 : Int) (w : World) : Calls Try.prog 28 #[.agg #[.int .i64 a1, .int .i64 a2, .int .i64 a3, .int .i64 a4, .int .i64 a5, .int .i64 a6], .agg #[.int .i64 b1, .int .i64 b2, .int .i64 b3]] w fun e w' => e = .returned (.agg #[.int .i64 (max a1 (min a4 b1)), .int .i64 (max a2 (min a5 b2)), .int .i64 (max a3 (min a6 b3))]) ∧ Below w.heap.size w w' := by
  have hmc := more_cell
  have hmf := more_frozen
  have hml := more_lt
  go_enter Try.func28, Try.ntmps28
  go_wp2_with fail
  refine (minnEach_c _ _ _ _ _ _ _).mono ?_
  rintro e w1 ⟨rfl, hb1⟩
  have B1_0 : Blk w1 (w.heap.size) #[.int .i64 a1, .int .i64 a2, .int .i64 a3, .int .i64 a4, .int .i64 a5, .int .i64 a6] := Blk.below (by repeat (with_reducible (first | assumption | exact Blk.at _ _ _ _ (by simp) | apply Blk.alloc | apply Blk.drew | apply Blk.drewN | apply Blk.more | (refine Blk.setCell ?_ _ _ (by simp <;> omega))))) hb1
  obtain ⟨z1_0, c1_0, f1_0⟩ := id B1_0
  have B1_1 : Blk w1 (w.heap.size + 1 + 1) #[.int .i64 0, .int .i64 0, .int .i64 0] := Blk.below (by repeat (with_reducible (first | assumption | exact Blk.at _ _ _ _ (by simp) | apply Blk.alloc | apply Blk.drew | apply Blk.drewN | apply Blk.more | (refine Blk.setCell ?_ _ _ (by simp <;> omega))))) hb1
  obtain ⟨z1_1, c1_1, f1_1⟩ := id B1_1
  go_wp2_with fail
  refine (maxnEach_c _ _ _ _ _ _ _).mono ?_
  rintro e w2 ⟨rfl, hb2⟩
  have B2_0 : Blk w2 (w.heap.size + 1 + 1) #[.int .i64 0, .int .i64 0, .int .i64 0] := Blk.below (by repeat (with_reducible (first | assumption | exact Blk.at _ _ _ _ (by simp) | apply Blk.alloc | apply Blk.drew | apply Blk.drewN | apply Blk.more | (refine Blk.setCell ?_ _ _ (by simp <;> omega))))) hb2
  obtain ⟨z2_0, c2_0, f2_0⟩ := id B2_0
  go_wp2
  exact bodyPost_ret (v := .agg #[.int .i64 (max (min b1 a4) a1), .int .i64 (max (min b2 a5) a2), .int .i64 (max (min b3 a6) a3)]) (by simp [results, Try.results28, go_sem, *]) rfl ⟨rv3 (by omega) (by omega) (by omega), (by repeat (with_reducible (first | exact Below.refl _ _ | assumption | apply ext_drew | apply ext_drewN | apply ext_alloc | apply ext_more | (refine ext_setCell ?_ (by simp <;> omega) _) | (refine ext_below ?_ (by assumption)))))⟩

end Go.Proofs.Ytfagkbmphohelaa
