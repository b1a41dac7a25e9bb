/- The contracts of what is done with vectors (package fx, and the document's answers): bounds, and the document's. Conditions: none. -/
import Derived.Test.YtfagkbmphohelaaVec
namespace Go.Proofs.Ytfagkbmphohelaa
open Go.ChangeShapes Go.WideShapes Go.ChangeAt Go.RowKit Go.BigFrame

theorem clampf_c (most n : Int) (p : Addr) (w : World) (h0 : 0 ≤ most) (h1 : most ≤ 9223372036854775807) (hc : w.cell? p = some (.int .i64 most)) : Calls Try.prog 103 #[.int .i64 n, .pointer (some p)] w fun e w' => e = .returned (.int .i64 (clampP most n)) ∧ w = w' := by
  go_enter Try.func103, Try.ntmps103
  go_wp2
  all_goals
    go_ret
    exact ⟨ri (by unfold clampP; repeat' split <;> omega), rfl⟩

theorem rclampf_c (most n z : Int) (p : Addr) (w : World) (h0 : 0 ≤ most) (h1 : most ≤ 9223372036854775807) (hc : w.cell? p = some (.int .i64 most)) : Calls Try.prog 104 #[.int .i64 n, .int .i64 z, .pointer (some p)] w fun e w' => e = .returned (.int .i64 (clampP most n)) ∧ w = w' := by
  go_enter Try.func104, Try.ntmps104
  go_wp2
  all_goals
    go_ret
    exact ⟨ri (by unfold clampP; repeat' split <;> omega), rfl⟩

theorem clamp_c (a1 a2 a3 k : Int) (hk : k ≤ 9223372036854775807) (w : World) : Calls Try.prog 70 #[.agg #[.int .i64 a1, .int .i64 a2, .int .i64 a3], .int .i64 k] w fun e w' => e = .returned (.agg #[.int .i64 (clamp k a1), .int .i64 (clamp k a2), .int .i64 (clamp k a3)]) ∧ Below w.heap.size w w' := by
  have hmc := more_cell
  have hmf := more_frozen
  have hml := more_lt
  go_enter Try.func70, Try.ntmps70
  go_wp2
  refine region_quiet_but 13 (by kernel_rfl) (by kernel_rfl) ?_
  simp only [List.take_succ_cons, List.take_zero, List.drop_succ_cons, List.drop_zero]
  repeat (go_big_quiet_step ((go_at_call 103; exact calls_after_same (clampf_c (max k 0) _ _ _ (by omega) (by omega) (by simp [go_sem, *])))))
  refine wpQuiet_nil ?_
  rintro _ ⟨m, rfl⟩
  go_wp2
  exact bodyPost_ret (v := .agg #[.int .i64 (clamp k a1), .int .i64 (clamp k a2), .int .i64 (clamp k a3)]) (by simp [results, Try.results70, go_sem, *, clamp]) rfl ⟨rfl, (by repeat (first | exact Below.refl _ _ | assumption | apply ext_drew | (refine ext_below ?_ (by assumption)) | apply ext_drewN | apply ext_alloc | apply ext_more | (refine ext_setCell ?_ (by simp <;> omega) _)))⟩

theorem each_c (k : Nat) (cap : Array Value) (ca : Int → Int → Array Value) (g : Int → Int → Int) (a1 a2 a3 b1 b2 b3 : Int) (w : World) (hca : ∀ x y : Int, #[Value.int .i64 x, Value.int .i64 y] ++ cap = ca x y) (hcf : ∀ (args : Array Value) (w : World), Sem.run Try.prog (callFunc k args) w = .ok (.enter k args) w)
    (hk : ∀ x y W, Below w.heap.size w W → Calls Try.prog k (ca x y) W fun e W' => e = .returned (.int .i64 (g x y)) ∧ ∃ q, W' = W.drewN q) : Calls Try.prog 88 #[.agg #[.int .i64 a1, .int .i64 a2, .int .i64 a3], .agg #[.int .i64 b1, .int .i64 b2, .int .i64 b3], .func (.func k) #[] cap] w fun e w' => e = .returned (.agg #[.int .i64 (g a1 b1), .int .i64 (g a2 b2), .int .i64 (g a3 b3)]) ∧ Below w.heap.size w w' := by
  have hmc := more_cell
  have hmf := more_frozen
  have hml := more_lt
  have Hk := Lib.hid hk
  have Hca := Lib.hid hca
  clear hk hca
  go_enter Try.func88, Try.ntmps88
  go_wp2
  refine region_quiet_but 19 (by kernel_rfl) (by kernel_rfl) ?_
  simp only [List.take_succ_cons, List.take_zero, List.drop_succ_cons, List.drop_zero]
  repeat (go_big_quiet_step ((rw [Hca.out]; exact calls_after_drewN (Hk.out _ _ _ (by repeat (first | exact Below.refl _ _ | assumption | apply ext_drew | (refine ext_below ?_ (by assumption)) | apply ext_drewN | apply ext_alloc | apply ext_more | (refine ext_setCell ?_ (by simp <;> omega) _)))))))
  refine wpQuiet_nil ?_
  rintro _ ⟨m, rfl⟩
  go_wp2
  exact bodyPost_ret (v := .agg #[.int .i64 (g a1 b1), .int .i64 (g a2 b2), .int .i64 (g a3 b3)]) (by simp [results, Try.results88, go_sem, *]) rfl ⟨rfl, (by repeat (first | exact Below.refl _ _ | assumption | apply ext_drew | (refine ext_below ?_ (by assumption)) | apply ext_drewN | apply ext_alloc | apply ext_more | (refine ext_setCell ?_ (by simp <;> omega) _)))⟩

theorem rplus_c (a1 a2 a3 b1 b2 b3 : Int) (w : World) : Calls Try.prog 59 #[.agg #[.int .i64 a1, .int .i64 a2, .int .i64 a3], .agg #[.int .i64 b1, .int .i64 b2, .int .i64 b3]] w fun e w' => e = .returned (.agg #[.int .i64 (add a1 b1), .int .i64 (add a2 b2), .int .i64 (add a3 b3)]) ∧ Below w.heap.size w w' := by
  have hmc := more_cell
  have hmf := more_frozen
  have hml := more_lt
  go_enter Try.func59, Try.ntmps59
  go_wp2_with fail
  refine (each_c 52 #[] (fun x y => #[.int .i64 x, .int .i64 y]) (fun x y => add x y) a1 a2 a3 b1 b2 b3 _ (fun _ _ => rfl) (fun _ _ => by kernel_rfl) (fun x y W hW => ?_)).mono ?_
  · exact (radd_c x y W).mono fun e w' ⟨h1, h2⟩ => ⟨h1, 0, h2.symm⟩
  rintro e w1 ⟨rfl, hb1⟩
  have B1_0 : Blk w1 (w.heap.size + 1 + 1) #[.int .i64 0, .int .i64 0, .int .i64 0] := Blk.below (by repeat (first | assumption | exact Blk.at _ _ _ _ (by simp) | apply Blk.alloc | apply Blk.drew | apply Blk.drewN | apply Blk.more | (refine Blk.setCell ?_ _ _ (by simp <;> omega)))) hb1
  obtain ⟨z1_0, c1_0, f1_0⟩ := id B1_0
  go_wp2
  exact bodyPost_ret (v := .agg #[.int .i64 (add a1 b1), .int .i64 (add a2 b2), .int .i64 (add a3 b3)]) (by simp [results, Try.results59, go_sem, *]) rfl ⟨rfl, (by repeat (first | exact Below.refl _ _ | assumption | apply ext_drew | (refine ext_below ?_ (by assumption)) | apply ext_drewN | apply ext_alloc | apply ext_more | (refine ext_setCell ?_ (by simp <;> omega) _)))⟩

theorem rminus_c (a1 a2 a3 b1 b2 b3 : Int) (w : World) : Calls Try.prog 61 #[.agg #[.int .i64 a1, .int .i64 a2, .int .i64 a3], .agg #[.int .i64 b1, .int .i64 b2, .int .i64 b3]] w fun e w' => e = .returned (.agg #[.int .i64 (sub a1 b1), .int .i64 (sub a2 b2), .int .i64 (sub a3 b3)]) ∧ Below w.heap.size w w' := by
  have hmc := more_cell
  have hmf := more_frozen
  have hml := more_lt
  go_enter Try.func61, Try.ntmps61
  go_wp2_with fail
  refine (each_c 53 #[] (fun x y => #[.int .i64 x, .int .i64 y]) (fun x y => sub x y) a1 a2 a3 b1 b2 b3 _ (fun _ _ => rfl) (fun _ _ => by kernel_rfl) (fun x y W hW => ?_)).mono ?_
  · exact (rsub_c x y W).mono fun e w' ⟨h1, h2⟩ => ⟨h1, 0, h2.symm⟩
  rintro e w1 ⟨rfl, hb1⟩
  have B1_0 : Blk w1 (w.heap.size + 1 + 1) #[.int .i64 0, .int .i64 0, .int .i64 0] := Blk.below (by repeat (first | assumption | exact Blk.at _ _ _ _ (by simp) | apply Blk.alloc | apply Blk.drew | apply Blk.drewN | apply Blk.more | (refine Blk.setCell ?_ _ _ (by simp <;> omega)))) hb1
  obtain ⟨z1_0, c1_0, f1_0⟩ := id B1_0
  go_wp2
  exact bodyPost_ret (v := .agg #[.int .i64 (sub a1 b1), .int .i64 (sub a2 b2), .int .i64 (sub a3 b3)]) (by simp [results, Try.results61, go_sem, *]) rfl ⟨rfl, (by repeat (first | exact Below.refl _ _ | assumption | apply ext_drew | (refine ext_below ?_ (by assumption)) | apply ext_drewN | apply ext_alloc | apply ext_more | (refine ext_setCell ?_ (by simp <;> omega) _)))⟩

theorem rtimesf_c (k n z : Int) (p : Addr) (w : World) (hc : w.cell? p = some (.int .i64 k)) : Calls Try.prog 101 #[.int .i64 n, .int .i64 z, .pointer (some p)] w fun e w' => e = .returned (.int .i64 (mul n k)) ∧ w = w' := by
  go_enter Try.func101, Try.ntmps101
  go_wp2_with (go_at_call 54; refine (rmul_c _ _ _).mono ?_; rintro e w' ⟨rfl, rfl⟩)
  go_ret
  exact ⟨rfl, rfl⟩

theorem rtimes_c (a1 a2 a3 k : Int) (w : World) : Calls Try.prog 63 #[.agg #[.int .i64 a1, .int .i64 a2, .int .i64 a3], .int .i64 k] w fun e w' => e = .returned (.agg #[.int .i64 (mul a1 k), .int .i64 (mul a2 k), .int .i64 (mul a3 k)]) ∧ Below w.heap.size w w' := by
  have hmc := more_cell
  have hmf := more_frozen
  have hml := more_lt
  go_enter Try.func63, Try.ntmps63
  go_wp2_with fail
  refine (each_c 101 #[.pointer (some ⟨w.heap.size + 1, 0, none⟩)] (fun x y => #[.int .i64 x, .int .i64 y, .pointer (some ⟨w.heap.size + 1, 0, none⟩)]) (fun x _ => mul x k) a1 a2 a3 a1 a2 a3 _ (fun _ _ => rfl) (fun _ _ => by kernel_rfl) (fun x y W hW => ?_)).mono ?_
  · exact (rtimesf_c k x y ⟨w.heap.size + 1, 0, none⟩ W (by rw [hW.cell (by simp)]; simp [go_sem])).mono fun e w' ⟨h1, h2⟩ => ⟨h1, 0, h2.symm⟩
  rintro e w1 ⟨rfl, hb1⟩
  have B1_0 : Blk w1 (w.heap.size + 1 + 1) #[.int .i64 0, .int .i64 0, .int .i64 0] := Blk.below (by repeat (first | assumption | exact Blk.at _ _ _ _ (by simp) | apply Blk.alloc | apply Blk.drew | apply Blk.drewN | apply Blk.more | (refine Blk.setCell ?_ _ _ (by simp <;> omega)))) hb1
  obtain ⟨z1_0, c1_0, f1_0⟩ := id B1_0
  go_wp2
  exact bodyPost_ret (v := .agg #[.int .i64 (mul a1 k), .int .i64 (mul a2 k), .int .i64 (mul a3 k)]) (by simp [results, Try.results63, go_sem, *]) rfl ⟨rfl, (by repeat (first | exact Below.refl _ _ | assumption | apply ext_drew | (refine ext_below ?_ (by assumption)) | apply ext_drewN | apply ext_alloc | apply ext_more | (refine ext_setCell ?_ (by simp <;> omega) _)))⟩

theorem rdot_c (a1 a2 a3 b1 b2 b3 : Int) (w : World) : Calls Try.prog 65 #[.agg #[.int .i64 a1, .int .i64 a2, .int .i64 a3], .agg #[.int .i64 b1, .int .i64 b2, .int .i64 b3]] w fun e w' => e = .returned (.int .i64 (dot a1 a2 a3 b1 b2 b3)) ∧ Below w.heap.size w w' := by
  have hmc := more_cell
  have hmf := more_frozen
  have hml := more_lt
  go_enter Try.func65, Try.ntmps65
  go_wp2_with (first | (go_at_call 54; refine (rmul_c _ _ _).mono ?_; rintro e w' ⟨rfl, rfl⟩) | (go_at_call 52; refine (radd_c _ _ _).mono ?_; rintro e w' ⟨rfl, rfl⟩))
  go_ret
  exact ⟨rfl, (by repeat (first | exact Below.refl _ _ | assumption | apply ext_drew | (refine ext_below ?_ (by assumption)) | apply ext_drewN | apply ext_alloc | apply ext_more | (refine ext_setCell ?_ (by simp <;> omega) _)))⟩

theorem rlong_c (a1 a2 a3 : Int) (w : World) : Calls Try.prog 67 #[.agg #[.int .i64 a1, .int .i64 a2, .int .i64 a3]] w fun e w' => e = .returned (.int .i64 (long a1 a2 a3)) ∧ Below w.heap.size w w' := by
  have hmc := more_cell
  have hmf := more_frozen
  have hml := more_lt
  go_enter Try.func67, Try.ntmps67
  go_wp2_with (first | (go_at_call 65; refine (rdot_c _ _ _ _ _ _ _).mono ?_; rintro e w' ⟨rfl, hb⟩) | (go_at_call 57; refine (rroot_c _ _).mono ?_; rintro e w' ⟨rfl, rfl⟩))
  go_ret
  exact ⟨rfl, ext_below (ext_alloc (Below.refl _ _) _) hb⟩

end Go.Proofs.Ytfagkbmphohelaa
