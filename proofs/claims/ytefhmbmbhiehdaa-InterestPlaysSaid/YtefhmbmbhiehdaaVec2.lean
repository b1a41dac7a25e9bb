/- The contracts of what is done with vectors (package fx, and the document's answers): bounds, and the document's. Conditions: none. -/
import Derived.Test.YtefhmbmbhiehdaaVec
namespace Go.Proofs.Ytefhmbmbhiehdaa
open Go.ChangeShapes Go.WideShapes Go.ChangeAt Go.RowKit Go.BigFrame

theorem rclampf_c (most n z : Int) (p : Addr) (w : World) (h0 : 0 ≤ most) (h1 : most ≤ 9223372036854775807) (hc : w.cell? p = some (.int .i64 most)) : Calls Try.prog 46 #[.int .i64 n, .int .i64 z, .pointer (some p)] w fun e w' => e = .returned (.int .i64 (clampP most n)) ∧ w = w' := by
  go_enter Try.func46, Try.ntmps46
  go_wp2
  all_goals
    go_ret
    exact ⟨ri (by unfold clampP; repeat' split <;> omega), rfl⟩

theorem each_c (k : Nat) (cap : Array Value) (ca : Int → Int → Array Value) (g : Int → Int → Int) (a1 a2 a3 b1 b2 b3 : Int) (w : World) (hca : ∀ x y : Int, #[Value.int .i64 x, Value.int .i64 y] ++ cap = ca x y) (hcf : ∀ (args : Array Value) (w : World), Sem.run Try.prog (callFunc k args) w = .ok (.enter k args) w)
    (hk : ∀ x y W, Below w.heap.size w W → Calls Try.prog k (ca x y) W fun e W' => e = .returned (.int .i64 (g x y)) ∧ ∃ q, W' = W.drewN q) : Calls Try.prog 45 #[.agg #[.int .i64 a1, .int .i64 a2, .int .i64 a3], .agg #[.int .i64 b1, .int .i64 b2, .int .i64 b3], .func (.func k) #[] cap] w fun e w' => e = .returned (.agg #[.int .i64 (g a1 b1), .int .i64 (g a2 b2), .int .i64 (g a3 b3)]) ∧ Below w.heap.size w w' := by
  have hmc := more_cell
  have hmf := more_frozen
  have hml := more_lt
  have Hk := Lib.hid hk
  have Hca := Lib.hid hca
  clear hk hca
  go_enter Try.func45, Try.ntmps45
  go_wp2
  refine region_quiet_but 19 (by kernel_rfl) (by kernel_rfl) ?_
  simp only [List.take_succ_cons, List.take_zero, List.drop_succ_cons, List.drop_zero]
  repeat (go_big_quiet_step ((rw [Hca.out]; exact calls_after_drewN (Hk.out _ _ _ (by repeat (first | exact Below.refl _ _ | assumption | apply ext_drew | (refine ext_below ?_ (by assumption)) | apply ext_drewN | apply ext_alloc | apply ext_more | (refine ext_setCell ?_ (by simp <;> omega) _)))))))
  refine wpQuiet_nil ?_
  rintro _ ⟨m, rfl⟩
  go_wp2
  exact bodyPost_ret (v := .agg #[.int .i64 (g a1 b1), .int .i64 (g a2 b2), .int .i64 (g a3 b3)]) (by simp [results, Try.results45, go_sem, *]) rfl ⟨rfl, (by repeat (first | exact Below.refl _ _ | assumption | apply ext_drew | (refine ext_below ?_ (by assumption)) | apply ext_drewN | apply ext_alloc | apply ext_more | (refine ext_setCell ?_ (by simp <;> omega) _)))⟩

theorem rplus_c (a1 a2 a3 b1 b2 b3 : Int) (w : World) : Calls Try.prog 98 #[.agg #[.int .i64 a1, .int .i64 a2, .int .i64 a3], .agg #[.int .i64 b1, .int .i64 b2, .int .i64 b3]] w fun e w' => e = .returned (.agg #[.int .i64 (add a1 b1), .int .i64 (add a2 b2), .int .i64 (add a3 b3)]) ∧ Below w.heap.size w w' := by
  have hmc := more_cell
  have hmf := more_frozen
  have hml := more_lt
  go_enter Try.func98, Try.ntmps98
  go_wp2_with fail
  refine (each_c 130 #[] (fun x y => #[.int .i64 x, .int .i64 y]) (fun x y => add x y) a1 a2 a3 b1 b2 b3 _ (fun _ _ => rfl) (fun _ _ => by kernel_rfl) (fun x y W hW => ?_)).mono ?_
  · exact (radd_c x y W).mono fun e w' ⟨h1, h2⟩ => ⟨h1, 0, h2.symm⟩
  rintro e w1 ⟨rfl, hb1⟩
  have B1_0 : Blk w1 (w.heap.size + 1 + 1) #[.int .i64 0, .int .i64 0, .int .i64 0] := Blk.below (by repeat (first | assumption | exact Blk.at _ _ _ _ (by simp) | apply Blk.alloc | apply Blk.drew | apply Blk.drewN | apply Blk.more | (refine Blk.setCell ?_ _ _ (by simp <;> omega)))) hb1
  obtain ⟨z1_0, c1_0, f1_0⟩ := id B1_0
  go_wp2
  exact bodyPost_ret (v := .agg #[.int .i64 (add a1 b1), .int .i64 (add a2 b2), .int .i64 (add a3 b3)]) (by simp [results, Try.results98, go_sem, *]) rfl ⟨rfl, (by repeat (first | exact Below.refl _ _ | assumption | apply ext_drew | (refine ext_below ?_ (by assumption)) | apply ext_drewN | apply ext_alloc | apply ext_more | (refine ext_setCell ?_ (by simp <;> omega) _)))⟩

theorem rminus_c (a1 a2 a3 b1 b2 b3 : Int) (w : World) : Calls Try.prog 97 #[.agg #[.int .i64 a1, .int .i64 a2, .int .i64 a3], .agg #[.int .i64 b1, .int .i64 b2, .int .i64 b3]] w fun e w' => e = .returned (.agg #[.int .i64 (sub a1 b1), .int .i64 (sub a2 b2), .int .i64 (sub a3 b3)]) ∧ Below w.heap.size w w' := by
  have hmc := more_cell
  have hmf := more_frozen
  have hml := more_lt
  go_enter Try.func97, Try.ntmps97
  go_wp2_with fail
  refine (each_c 129 #[] (fun x y => #[.int .i64 x, .int .i64 y]) (fun x y => sub x y) a1 a2 a3 b1 b2 b3 _ (fun _ _ => rfl) (fun _ _ => by kernel_rfl) (fun x y W hW => ?_)).mono ?_
  · exact (rsub_c x y W).mono fun e w' ⟨h1, h2⟩ => ⟨h1, 0, h2.symm⟩
  rintro e w1 ⟨rfl, hb1⟩
  have B1_0 : Blk w1 (w.heap.size + 1 + 1) #[.int .i64 0, .int .i64 0, .int .i64 0] := Blk.below (by repeat (first | assumption | exact Blk.at _ _ _ _ (by simp) | apply Blk.alloc | apply Blk.drew | apply Blk.drewN | apply Blk.more | (refine Blk.setCell ?_ _ _ (by simp <;> omega)))) hb1
  obtain ⟨z1_0, c1_0, f1_0⟩ := id B1_0
  go_wp2
  exact bodyPost_ret (v := .agg #[.int .i64 (sub a1 b1), .int .i64 (sub a2 b2), .int .i64 (sub a3 b3)]) (by simp [results, Try.results97, go_sem, *]) rfl ⟨rfl, (by repeat (first | exact Below.refl _ _ | assumption | apply ext_drew | (refine ext_below ?_ (by assumption)) | apply ext_drewN | apply ext_alloc | apply ext_more | (refine ext_setCell ?_ (by simp <;> omega) _)))⟩

end Go.Proofs.Ytefhmbmbhiehdaa
