/- How a body is seen: the program's and the document's answers. Conditions: none. -/
import Derived.Test.YtfagkbmphohelaaVec2
import Derived.LoopN
namespace Go.Proofs.Ytfagkbmphohelaa
open Go.ChangeShapes Go.WideShapes Go.ChangeAt Go.RowKit Go.BigFrame

theorem floor_c (n : Int) (w : World) : Calls Try.prog 117 #[.int .i64 n] w fun e w' => e = .returned (.int .i64 (n / 256)) ∧ w = w' := by
  go_enter Try.func117, Try.ntmps117
  go_wp2
  go_ret
  exact ⟨rfl, rfl⟩
theorem floor_eq (x : Int) : (if x.tmod 256 < 0 then x.tdiv 256 - 1 else x.tdiv 256) = x / 256 := by
  rcases Int.le_total 0 x with h | h
  · rw [Int.tmod_eq_emod_of_nonneg h, Int.tdiv_eq_ediv_of_nonneg h, if_neg (by omega)]
  · obtain ⟨y, rfl⟩ : ∃ y, x = -y := ⟨-x, by omega⟩
    rw [Int.neg_tmod, Int.neg_tdiv, Int.tmod_eq_emod_of_nonneg (by omega), Int.tdiv_eq_ediv_of_nonneg (by omega)]
    split <;> omega
theorem rfloorf_c (x z : Int) (h0 : -9223372036854775808 ≤ x) (h1 : x ≤ 9223372036854775807) (w : World) : Calls Try.prog 118 #[.int .i64 x, .int .i64 z] w fun e w' => e = .returned (.int .i64 (x / 256)) ∧ w = w' := by
  have hE := floor_eq x
  have hd : -9223372036854775807 ≤ x.tdiv 256 ∧ x.tdiv 256 ≤ 9223372036854775807 := by
    split at hE <;> omega
  obtain ⟨d0, d1⟩ := hd
  have HE := Lib.hid hE
  clear hE
  by_cases h : x.tmod 256 < 0
  · go_enter Try.func118, Try.ntmps118
    go_wp2
    go_ret
    exact ⟨ri (by rw [← HE.out, if_pos h]), rfl⟩
  · go_enter Try.func118, Try.ntmps118
    go_wp2
    go_ret
    exact ⟨ri (by rw [← HE.out, if_neg (by omega)]), rfl⟩

theorem coarse_c (a1 a2 a3 : Int) (w : World) : Calls Try.prog 85 #[.agg #[.int .i64 a1, .int .i64 a2, .int .i64 a3]] w fun e w' => e = .returned (.agg #[.int .i64 (a1 / 256), .int .i64 (a2 / 256), .int .i64 (a3 / 256)]) ∧ Below w.heap.size w w' := by
  have hmc := more_cell
  have hmf := more_frozen
  have hml := more_lt
  go_enter Try.func85, Try.ntmps85
  go_wp2
  refine region_quiet_but 10 (by kernel_rfl) (by kernel_rfl) ?_
  simp only [List.take_succ_cons, List.take_zero, List.drop_succ_cons, List.drop_zero]
  repeat (go_big_quiet_step ((go_at_call 117; exact calls_after_same (floor_c _ _))))
  refine wpQuiet_nil ?_
  rintro _ ⟨m, rfl⟩
  go_wp2
  exact bodyPost_ret (v := .agg #[.int .i64 (a1 / 256), .int .i64 (a2 / 256), .int .i64 (a3 / 256)]) (by simp [results, Try.results85, go_sem, *]) rfl ⟨rfl, (by repeat (with_reducible (first | exact Below.refl _ _ | assumption | apply ext_drew | apply ext_drewN | apply ext_alloc | apply ext_more | (refine ext_setCell ?_ (by simp <;> omega) _) | (refine ext_below ?_ (by assumption)))))⟩

theorem each3_c (k : Nat) (cap : Array Value) (ca : Int → Int → Array Value) (g : Int → Int → Int) (a1 a2 a3 b1 b2 b3 : Int) (w : World) (hca : ∀ x y : Int, #[Value.int .i64 x, Value.int .i64 y] ++ cap = ca x y) (hcf : ∀ (args : Array Value) (w : World), Sem.run Try.prog (callFunc k args) w = .ok (.enter k args) w)
    (hk : ∀ x y, (x = a1 ∨ x = a2 ∨ x = a3) → ∀ W, Below w.heap.size w W → Calls Try.prog k (ca x y) W fun e W' => e = .returned (.int .i64 (g x y)) ∧ ∃ q, W' = W.drewN q) : Calls Try.prog 88 #[.agg #[.int .i64 a1, .int .i64 a2, .int .i64 a3], .agg #[.int .i64 b1, .int .i64 b2, .int .i64 b3], .func (.func k) #[] cap] w fun e w' => e = .returned (.agg #[.int .i64 (g a1 b1), .int .i64 (g a2 b2), .int .i64 (g a3 b3)]) ∧ Below w.heap.size w w' := by
  have hmc := more_cell
  have hmf := more_frozen
  have hml := more_lt
  have Hk := Lib.hid hk
  have Hca := Lib.hid hca
  clear hk hca
  go_enter Try.func88, Try.ntmps88
  go_wp2
  refine region_quiet_but 19 (by kernel_rfl) (by kernel_rfl) ?_
  simp only [List.take_succ_cons, List.take_zero, List.drop_succ_cons, List.drop_zero]
  repeat (go_big_quiet_step ((rw [Hca.out]; exact calls_after_drewN (Hk.out _ _ (by simp) _ (by repeat (with_reducible (first | exact Below.refl _ _ | assumption | apply ext_drew | apply ext_drewN | apply ext_alloc | apply ext_more | (refine ext_setCell ?_ (by simp <;> omega) _) | (refine ext_below ?_ (by assumption)))))))))
  refine wpQuiet_nil ?_
  rintro _ ⟨m, rfl⟩
  go_wp2
  exact bodyPost_ret (v := .agg #[.int .i64 (g a1 b1), .int .i64 (g a2 b2), .int .i64 (g a3 b3)]) (by simp [results, Try.results88, go_sem, *]) rfl ⟨rfl, (by repeat (with_reducible (first | exact Below.refl _ _ | assumption | apply ext_drew | apply ext_drewN | apply ext_alloc | apply ext_more | (refine ext_setCell ?_ (by simp <;> omega) _) | (refine ext_below ?_ (by assumption)))))⟩

theorem rfloor_c (a1 a2 a3 : Int) (ha : ∀ x ∈ [a1, a2, a3], -9223372036854775808 ≤ x ∧ x ≤ 9223372036854775807) (w : World) : Calls Try.prog 86 #[.agg #[.int .i64 a1, .int .i64 a2, .int .i64 a3]] w fun e w' => e = .returned (.agg #[.int .i64 (a1 / 256), .int .i64 (a2 / 256), .int .i64 (a3 / 256)]) ∧ Below w.heap.size w w' := by
  have hmc := more_cell
  have hmf := more_frozen
  have hml := more_lt
  have HA := Lib.hid ha
  clear ha
  go_enter Try.func86, Try.ntmps86
  go_wp2_with fail
  refine (each3_c 118 #[] (fun x y => #[.int .i64 x, .int .i64 y]) (fun x _ => x / 256) a1 a2 a3 a1 a2 a3 _ (fun _ _ => rfl) (fun _ _ => by kernel_rfl) (fun x y hx W hW => ?_)).mono ?_
  · have := HA.out x (by rcases hx with h | h | h <;> simp [h])
    exact (rfloorf_c x y this.1 this.2 W).mono fun e w' ⟨h1, h2⟩ => ⟨h1, 0, h2.symm⟩
  rintro e w1 ⟨rfl, hb1⟩
  have B1_0 : Blk w1 (w.heap.size + 1) #[.int .i64 0, .int .i64 0, .int .i64 0] := Blk.below (by repeat (with_reducible (first | assumption | exact Blk.at _ _ _ _ (by simp) | apply Blk.alloc | apply Blk.drew | apply Blk.drewN | apply Blk.more | (refine Blk.setCell ?_ _ _ (by simp <;> omega))))) hb1
  obtain ⟨z1_0, c1_0, f1_0⟩ := id B1_0
  go_wp2
  exact bodyPost_ret (v := .agg #[.int .i64 (a1 / 256), .int .i64 (a2 / 256), .int .i64 (a3 / 256)]) (by simp [results, Try.results86, go_sem, *]) rfl ⟨rfl, (by repeat (with_reducible (first | exact Below.refl _ _ | assumption | apply ext_drew | apply ext_drewN | apply ext_alloc | apply ext_more | (refine ext_setCell ?_ (by simp <;> omega) _) | (refine ext_below ?_ (by assumption)))))⟩

theorem look_c (i ow k s1 s2 s3 a1 a2 a3 v1 v2 v3 p1 p2 p3 ms tm : Int) (w : World) : Calls Try.prog 16 #[.agg #[.int .i64 i, .int .i64 ow, .int .i64 k, .int .i64 s1, .int .i64 s2, .int .i64 s3, .int .i64 a1, .int .i64 a2, .int .i64 a3, .int .i64 v1, .int .i64 v2, .int .i64 v3, .int .i64 p1, .int .i64 p2, .int .i64 p3, .int .i64 ms, .int .i64 tm]] w fun e w' => e = .returned (.agg #[.int .i64 (i), .int .i64 (k), .int .i64 (s1 / 256), .int .i64 (s2 / 256), .int .i64 (s3 / 256), .int .i64 (a1 / 256), .int .i64 (a2 / 256), .int .i64 (a3 / 256), .int .i64 (v1 / 256), .int .i64 (v2 / 256), .int .i64 (v3 / 256)]) ∧ Below w.heap.size w w' := by
  have hmc := more_cell
  have hmf := more_frozen
  have hml := more_lt
  go_enter Try.func16, Try.ntmps16
  go_wp2
  refine region_quiet_but 16 (by kernel_rfl) (by kernel_rfl) ?_
  simp only [List.take_succ_cons, List.take_zero, List.drop_succ_cons, List.drop_zero]
  repeat (go_big_quiet_step ((go_at_call 85; exact calls_after (coarse_c _ _ _ _))))
  refine wpQuiet_nil ?_
  rintro _ ⟨m, rfl⟩
  go_wp2
  exact bodyPost_ret (v := .agg #[.int .i64 (i), .int .i64 (k), .int .i64 (s1 / 256), .int .i64 (s2 / 256), .int .i64 (s3 / 256), .int .i64 (a1 / 256), .int .i64 (a2 / 256), .int .i64 (a3 / 256), .int .i64 (v1 / 256), .int .i64 (v2 / 256), .int .i64 (v3 / 256)]) (by simp [results, Try.results16, go_sem, *]) rfl ⟨rfl, (by repeat (with_reducible (first | exact Below.refl _ _ | assumption | apply ext_drew | apply ext_drewN | apply ext_alloc | apply ext_more | (refine ext_setCell ?_ (by simp <;> omega) _) | (refine ext_below ?_ (by assumption)))))⟩

theorem rlook_c (i ow k s1 s2 s3 a1 a2 a3 v1 v2 v3 p1 p2 p3 ms tm : Int) (hs : ∀ x ∈ [s1, s2, s3, a1, a2, a3, v1, v2, v3], -9223372036854775808 ≤ x ∧ x ≤ 9223372036854775807) (w : World) : Calls Try.prog 17 #[.agg #[.int .i64 i, .int .i64 ow, .int .i64 k, .int .i64 s1, .int .i64 s2, .int .i64 s3, .int .i64 a1, .int .i64 a2, .int .i64 a3, .int .i64 v1, .int .i64 v2, .int .i64 v3, .int .i64 p1, .int .i64 p2, .int .i64 p3, .int .i64 ms, .int .i64 tm]] w fun e w' => e = .returned (.agg #[.int .i64 (i), .int .i64 (k), .int .i64 (s1 / 256), .int .i64 (s2 / 256), .int .i64 (s3 / 256), .int .i64 (a1 / 256), .int .i64 (a2 / 256), .int .i64 (a3 / 256), .int .i64 (v1 / 256), .int .i64 (v2 / 256), .int .i64 (v3 / 256)]) ∧ Below w.heap.size w w' := by
  have hmc := more_cell
  have hmf := more_frozen
  have hml := more_lt
  have HS := Lib.hid hs
  clear hs
  go_enter Try.func17, Try.ntmps17
  go_wp2
  refine region_quiet_but 16 (by kernel_rfl) (by kernel_rfl) ?_
  simp only [List.take_succ_cons, List.take_zero, List.drop_succ_cons, List.drop_zero]
  repeat (go_big_quiet_step ((go_at_call 86; exact calls_after (rfloor_c _ _ _ (by intro x hx; apply HS.out; simp at hx ⊢; rcases hx with h | h | h <;> simp [h]) _))))
  refine wpQuiet_nil ?_
  rintro _ ⟨m, rfl⟩
  go_wp2
  exact bodyPost_ret (v := .agg #[.int .i64 (i), .int .i64 (k), .int .i64 (s1 / 256), .int .i64 (s2 / 256), .int .i64 (s3 / 256), .int .i64 (a1 / 256), .int .i64 (a2 / 256), .int .i64 (a3 / 256), .int .i64 (v1 / 256), .int .i64 (v2 / 256), .int .i64 (v3 / 256)]) (by simp [results, Try.results17, go_sem, *]) rfl ⟨rfl, (by repeat (with_reducible (first | exact Below.refl _ _ | assumption | apply ext_drew | apply ext_drewN | apply ext_alloc | apply ext_more | (refine ext_setCell ?_ (by simp <;> omega) _) | (refine ext_below ?_ (by assumption)))))⟩

set_option maxRecDepth 100000 in
set_option maxHeartbeats 1000000 in
theorem sameView1_c (r0 r1 r2 r3 r4 r5 r6 r7 r8 r9 r10 : Int) (ba bb : Nat) (w : World) (ha : Blk w ba #[.int .i64 r0, .int .i64 r1, .int .i64 r2, .int .i64 r3, .int .i64 r4, .int .i64 r5, .int .i64 r6, .int .i64 r7, .int .i64 r8, .int .i64 r9, .int .i64 r10]) (hb : Blk w bb #[.int .i64 r0, .int .i64 r1, .int .i64 r2, .int .i64 r3, .int .i64 r4, .int .i64 r5, .int .i64 r6, .int .i64 r7, .int .i64 r8, .int .i64 r9, .int .i64 r10]) : Calls Try.prog 15 #[.slice (some ⟨ba, 0, none⟩) 1 1, .slice (some ⟨bb, 0, none⟩) 1 1] w fun e w' => e = .returned (.bool true) ∧ ∃ q, w' = w.drewN q := by
  obtain ⟨za, ca, fa⟩ := id ha
  obtain ⟨zb, cb, fb⟩ := id hb
  go_enter Try.func15, Try.ntmps15
  go_wp2
  refine wp_loop_rounds 2 ?_
  rw [rounds_succ]
  go_wp2
  go_quiet (fail)
  go_wp2
  rw [rounds_succ]
  go_wp2
  go_ret
  exact ⟨rfl, _, rfl⟩

end Go.Proofs.Ytfagkbmphohelaa
