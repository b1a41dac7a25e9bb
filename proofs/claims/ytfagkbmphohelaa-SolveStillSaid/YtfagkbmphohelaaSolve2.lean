/- The contracts of solve.both, solve.light, and of the document's index and light. Conditions: none. -/
import Derived.Test.YtfagkbmphohelaaSolve1
import Derived.Lib.Builder
import Derived.Test.YtfagkbmphohelaaGrow
import Derived.Deep.RegionHeld3
namespace Go.Proofs.Ytfagkbmphohelaa
open Go.ChangeShapes Go.WideShapes Go.ChangeAt Go.RowKit Go.BigFrame
section
variable {w w' : World} {A : Option Addr} {n : Nat} {M : Nat → Nat → Int}
theorem Own.alloc (h : Own w A n M) (o : Obj) : Own (w.alloc o) A n M := h.below ((Below.refl _ _).alloc (Nat.le_refl _) o)
theorem Own.drew (h : Own w A n M) : Own w.drew A n M := h.below (Below.refl _ _).drew
theorem Own.drewN (h : Own w A n M) (k : Nat) : Own (w.drewN k) A n M := h.below (ext_drewN (Below.refl _ _) k)
theorem Own.more (h : Own w A n M) (m : More) : Own (more w m) A n M := h.below (more_below w m)
end
theorem Own.of_tab {w : World} {b n : Nat} {M : Nat → Nat → Int} (h : Tab w b n 17 M) : Own w (some ⟨b, 0, none⟩) n M := fun _ => ⟨b, rfl, h⟩
theorem below_alloc (w : World) (o : Obj) : Below w.heap.size w (w.alloc o) := (Below.refl _ _).alloc (Nat.le_refl _) o

set_option maxHeartbeats 4000000 in
theorem find_no (M : Nat → Nat → Int) (n cap lp : Nat) (x : Int) (A : Option Addr) (H : Hid (idx M n x = -1)) (w : World) (hR : Own w A n M) (hn : n ≤ 9223372036854775807) (B : Blk w lp #[.slice A n cap]) :
    Calls Try.prog 120 #[.int .i64 x, .pointer (some ⟨lp, 0, none⟩)] w fun e w' => e = .returned (.pointer none) ∧ Below w.heap.size w w' := by
  obtain ⟨zb, cb, fb⟩ := id B
  have hmc := more_cell
  have hmf := more_frozen
  have hml := more_lt
  go_enter Try.func120, Try.ntmps120
  go_wp2_with fail
  go_wp2_with fail
  refine (indexFunc_o M A n cap x (-1) _ _ hn (hR.below (below_alloc _ _)) (by simp) (by simp) H.out).mono ?_
  rintro e w1 ⟨rfl, hb1⟩
  have B1_0 : Blk w1 (lp) _ := Blk.below (by repeat (with_reducible (first | assumption | (apply Blk.at; simp; done) | apply Blk.alloc | apply Blk.drew | apply Blk.drewN | apply Blk.more | apply Blk.put | (apply Blk.far; focus (first | assumption | (apply Ne.symm; assumption) | (simp; done) | (simp <;> omega)))))) hb1
  obtain ⟨z1_0, c1_0, f1_0⟩ := id B1_0
  have B1_1 : Blk w1 (w.heap.size) _ := Blk.below (by repeat (with_reducible (first | assumption | (apply Blk.at; simp; done) | apply Blk.alloc | apply Blk.drew | apply Blk.drewN | apply Blk.more | apply Blk.put | (apply Blk.far; focus (first | assumption | (apply Ne.symm; assumption) | (simp; done) | (simp <;> omega)))))) hb1
  obtain ⟨z1_1, c1_1, f1_1⟩ := id B1_1
  go_wp2
  exact bodyPost_ret (v := .pointer none) (by simp [results, Try.results120, go_sem, *]) rfl ⟨rfl, (by repeat (with_reducible (first | exact Below.refl _ _ | assumption | apply ext_drew | apply ext_drewN | apply ext_alloc | apply ext_more | (refine ext_setCell ?_ (by simp <;> omega) _) | (refine ext_below ?_ (by assumption)))))⟩

set_option maxHeartbeats 4000000 in
theorem find_yes (M : Nat → Nat → Int) (n cap lp : Nat) (x : Int) (b i : Nat) (hi : i < n) (H : Hid (idx M n x = (i : Int))) (w : World) (hT : Tab w b n 17 M) (hn : n ≤ 9223372036854775807) (B : Blk w lp #[.slice (some ⟨b, 0, none⟩) n cap]) :
    Calls Try.prog 120 #[.int .i64 x, .pointer (some ⟨lp, 0, none⟩)] w fun e w' => e = .returned (.pointer (some ⟨b, i * 17, none⟩)) ∧ Below w.heap.size w w' := by
  obtain ⟨zb, cb, fb⟩ := id B
  have hmc := more_cell
  have hmf := more_frozen
  have hml := more_lt
  go_enter Try.func120, Try.ntmps120
  go_wp2_with fail
  go_wp2_with fail
  refine (indexFunc_o M (some ⟨b, 0, none⟩) n cap x i _ _ hn ((Own.of_tab hT).below (below_alloc _ _)) (by simp) (by simp) H.out).mono ?_
  rintro e w1 ⟨rfl, hb1⟩
  have B1_0 : Blk w1 (lp) _ := Blk.below (by repeat (with_reducible (first | assumption | (apply Blk.at; simp; done) | apply Blk.alloc | apply Blk.drew | apply Blk.drewN | apply Blk.more | apply Blk.put | (apply Blk.far; focus (first | assumption | (apply Ne.symm; assumption) | (simp; done) | (simp <;> omega)))))) hb1
  obtain ⟨z1_0, c1_0, f1_0⟩ := id B1_0
  have B1_1 : Blk w1 (w.heap.size) _ := Blk.below (by repeat (with_reducible (first | assumption | (apply Blk.at; simp; done) | apply Blk.alloc | apply Blk.drew | apply Blk.drewN | apply Blk.more | apply Blk.put | (apply Blk.far; focus (first | assumption | (apply Ne.symm; assumption) | (simp; done) | (simp <;> omega)))))) hb1
  obtain ⟨z1_1, c1_1, f1_1⟩ := id B1_1
  go_wp2
  exact bodyPost_ret (v := .pointer (some ⟨b, i * 17, none⟩)) (by simp [results, Try.results120, go_sem, *]) rfl ⟨rfl, (by repeat (with_reducible (first | exact Below.refl _ _ | assumption | apply ext_drew | apply ext_drewN | apply ext_alloc | apply ext_more | (refine ext_setCell ?_ (by simp <;> omega) _) | (refine ext_below ?_ (by assumption)))))⟩

def light (m : Int) : Int := if m ≤ 0 then 0 else div 65536 m
theorem light_bd (m : Int) : -70368744177664 ≤ light m ∧ light m ≤ 70368744177664 := by
  unfold light
  split
  · omega
  · exact div_bd _ _

theorem light_c (b o : Nat) (m : Int) (w : World) (hc : w.cell? ⟨b, o + 15, none⟩ = some (.int .i64 m)) : Calls Try.prog 107 #[.pointer (some ⟨b, o, none⟩)] w fun e w' => e = .returned (.int .i64 (light m)) ∧ ∃ q, w' = w.drewN q := by
  unfold light
  by_cases h : m ≤ 0
  · rw [if_pos h]
    go_enter Try.func107, Try.ntmps107
    go_wp2
    go_ret
    exact ⟨rfl, 0, rfl⟩
  · rw [if_neg h]
    go_enter Try.func107, Try.ntmps107
    go_wp2_with fail
    refine (div_c _ _ _).mono ?_
    rintro e w1 ⟨rfl, q, rfl⟩
    go_wp2
    go_ret
    exact ⟨rfl, q, rfl⟩

theorem rlight_c (id ow kd s1 s2 s3 a1 a2 a3 v1 v2 v3 p1 p2 p3 ms tm : Int) (w : World) : Calls Try.prog 109 #[.agg #[.int .i64 (id), .int .i64 (ow), .int .i64 (kd), .int .i64 (s1), .int .i64 (s2), .int .i64 (s3), .int .i64 (a1), .int .i64 (a2), .int .i64 (a3), .int .i64 (v1), .int .i64 (v2), .int .i64 (v3), .int .i64 (p1), .int .i64 (p2), .int .i64 (p3), .int .i64 (ms), .int .i64 (tm)]] w fun e w' => e = .returned (.int .i64 (light ms)) ∧ Below w.heap.size w w' := by
  unfold light
  by_cases h : ms ≤ 0
  · rw [if_pos h]
    go_enter Try.func109, Try.ntmps109
    go_wp2
    go_ret
    exact ⟨rfl, below_alloc _ _⟩
  · rw [if_neg h]
    go_enter Try.func109, Try.ntmps109
    go_wp2_with fail
    refine (rdiv_c _ _ _).mono ?_
    rintro e w1 ⟨rfl, rfl⟩
    go_wp2
    go_ret
    exact ⟨rfl, below_alloc _ _⟩

theorem bodyInfo : (Try.prog.info? 27).map (fun i => (i.zero, i.size, i.bytes)) = some (some (.agg #[.int .i64 0, .int .i64 0, .int .i64 0, .int .i64 0, .int .i64 0, .int .i64 0, .int .i64 0, .int .i64 0, .int .i64 0, .int .i64 0, .int .i64 0, .int .i64 0, .int .i64 0, .int .i64 0, .int .i64 0, .int .i64 0, .int .i64 0]), 17, 136) := by kernel_rfl

set_option maxRecDepth 100000 in
set_option maxHeartbeats 4000000 in
theorem both_yes (M : Nat → Nat → Int) (n cap : Nat) (tA tB g1 g2 g3 dp : Int) (w : World) (b i k : Nat) (hT0 : Tab w b n 17 M) (hi : i < n) (hk : k < n) (HA : Hid (idx M n tA = (i : Int))) (HB : Hid (idx M n tB = (k : Int))) (hne : i ≠ k) (hn : n ≤ 9223372036854775807) :
    Calls Try.prog 106 #[.slice (some ⟨b, 0, none⟩) n cap, .agg #[.int .i64 tA, .int .i64 tB, .int .i64 g1, .int .i64 g2, .int .i64 g3, .int .i64 dp]] w fun e w' => e = .returned (.tuple #[.pointer (some ⟨b, i * 17, none⟩), .pointer (some ⟨b, k * 17, none⟩), .bool true]) ∧ Below w.heap.size w w' := by
  have hmc := more_cell
  have hmf := more_frozen
  have hml := more_lt
  obtain ⟨i0, hi0, hz0, hz1, hz2⟩ := info_parts bodyInfo
  have HZ := Lib.hid hz0
  have HS : i0.size ≠ 0 := by rw [hz1]; decide
  clear hz0 hz1 hz2
  go_enter Try.func106, Try.ntmps106
  go_wp2_with fail
  refine wp_fresh ?_
  rintro w1 hb1
  have B1_0 : Blk w1 (w.heap.size) _ := Blk.below (by repeat (with_reducible (first | assumption | (apply Blk.at; simp; done) | apply Blk.alloc | apply Blk.drew | apply Blk.drewN | apply Blk.more | apply Blk.put | (apply Blk.far; focus (first | assumption | (apply Ne.symm; assumption) | (simp; done) | (simp <;> omega)))))) hb1
  obtain ⟨z1_0, c1_0, f1_0⟩ := id B1_0
  have B1_1 : Blk w1 (w.heap.size + 1) _ := Blk.below (by repeat (with_reducible (first | assumption | (apply Blk.at; simp; done) | apply Blk.alloc | apply Blk.drew | apply Blk.drewN | apply Blk.more | apply Blk.put | (apply Blk.far; focus (first | assumption | (apply Ne.symm; assumption) | (simp; done) | (simp <;> omega)))))) hb1
  obtain ⟨z1_1, c1_1, f1_1⟩ := id B1_1
  have hT1 : Tab w1 b n 17 M := ((show Tab _ b n 17 M from (by repeat (with_reducible (first | assumption | apply Tab.alloc | apply Tab.drew | apply Tab.drewN | apply Tab.more | (apply Tab.far; focus (first | assumption | (apply Ne.symm; assumption) | (simp; done) | (simp <;> omega)))))))).below hb1
  refine region_quiet_but 8 (by kernel_rfl) (by kernel_rfl) ?_
  simp only [List.take_succ_cons, List.take_zero, List.drop_succ_cons, List.drop_zero]
  repeat (go_big_quiet_step (first | (go_at_call_of 120 (Value.int IntKind.i64 tA); exact calls_after (find_yes M n cap _ tA b i hi HA _ (hT1.more _) hn (B1_0.more _))) | (go_at_call_of 120 (Value.int IntKind.i64 tB); exact calls_after (find_yes M n cap _ tB b k hk HB _ (hT1.more _) hn (B1_0.more _)))))
  refine wpQuiet_nil ?_
  rintro w2 hw2
  have hb2 := after_below hw2
  clear hw2
  have B2_0 : Blk w2 (w.heap.size) _ := Blk.below (by repeat (with_reducible (first | assumption | (apply Blk.at; simp; done) | apply Blk.alloc | apply Blk.drew | apply Blk.drewN | apply Blk.more | apply Blk.put | (apply Blk.far; focus (first | assumption | (apply Ne.symm; assumption) | (simp; done) | (simp <;> omega)))))) hb2
  obtain ⟨z2_0, c2_0, f2_0⟩ := id B2_0
  have B2_1 : Blk w2 (w.heap.size + 1) _ := Blk.below (by repeat (with_reducible (first | assumption | (apply Blk.at; simp; done) | apply Blk.alloc | apply Blk.drew | apply Blk.drewN | apply Blk.more | apply Blk.put | (apply Blk.far; focus (first | assumption | (apply Ne.symm; assumption) | (simp; done) | (simp <;> omega)))))) hb2
  obtain ⟨z2_1, c2_1, f2_1⟩ := id B2_1
  have hT2 : Tab w2 b n 17 M := ((show Tab _ b n 17 M from (by repeat (with_reducible (first | assumption | apply Tab.alloc | apply Tab.drew | apply Tab.drewN | apply Tab.more | (apply Tab.far; focus (first | assumption | (apply Ne.symm; assumption) | (simp; done) | (simp <;> omega)))))))).below hb2
  obtain ⟨cs0, T0, hh0, _⟩ := id hT2
  have hq := neq_ptr (P := Try.prog) w2 Try.underlying124 hi0 HS (p := ⟨b, i * 17, none⟩) (q := ⟨b, k * 17, none⟩) (by intro h; injection h with _ h; omega) hh0 hh0
  clear hh0
  go_wp2
  exact bodyPost_ret (v := .tuple #[.pointer (some ⟨b, i * 17, none⟩), .pointer (some ⟨b, k * 17, none⟩), .bool true]) (by simp [results, Try.results106, go_sem, *]) rfl ⟨rfl, (by repeat (with_reducible (first | exact Below.refl _ _ | assumption | apply ext_drew | apply ext_drewN | apply ext_alloc | apply ext_more | (refine ext_setCell ?_ (by simp <;> omega) _) | (refine ext_below ?_ (by assumption)))))⟩

set_option maxRecDepth 100000 in
set_option maxHeartbeats 4000000 in
theorem both_same (M : Nat → Nat → Int) (n cap : Nat) (tA tB g1 g2 g3 dp : Int) (w : World) (b i : Nat) (hT0 : Tab w b n 17 M) (hi : i < n) (HA : Hid (idx M n tA = (i : Int))) (HB : Hid (idx M n tB = (i : Int))) (hn : n ≤ 9223372036854775807) :
    Calls Try.prog 106 #[.slice (some ⟨b, 0, none⟩) n cap, .agg #[.int .i64 tA, .int .i64 tB, .int .i64 g1, .int .i64 g2, .int .i64 g3, .int .i64 dp]] w fun e w' => e = .returned (.tuple #[.pointer (some ⟨b, i * 17, none⟩), .pointer (some ⟨b, i * 17, none⟩), .bool false]) ∧ Below w.heap.size w w' := by
  have hmc := more_cell
  have hmf := more_frozen
  have hml := more_lt
  obtain ⟨i0, hi0, hz0, hz1, hz2⟩ := info_parts bodyInfo
  have HZ := Lib.hid hz0
  have HS : i0.size ≠ 0 := by rw [hz1]; decide
  clear hz0 hz1 hz2
  go_enter Try.func106, Try.ntmps106
  go_wp2_with fail
  refine wp_fresh ?_
  rintro w1 hb1
  have B1_0 : Blk w1 (w.heap.size) _ := Blk.below (by repeat (with_reducible (first | assumption | (apply Blk.at; simp; done) | apply Blk.alloc | apply Blk.drew | apply Blk.drewN | apply Blk.more | apply Blk.put | (apply Blk.far; focus (first | assumption | (apply Ne.symm; assumption) | (simp; done) | (simp <;> omega)))))) hb1
  obtain ⟨z1_0, c1_0, f1_0⟩ := id B1_0
  have B1_1 : Blk w1 (w.heap.size + 1) _ := Blk.below (by repeat (with_reducible (first | assumption | (apply Blk.at; simp; done) | apply Blk.alloc | apply Blk.drew | apply Blk.drewN | apply Blk.more | apply Blk.put | (apply Blk.far; focus (first | assumption | (apply Ne.symm; assumption) | (simp; done) | (simp <;> omega)))))) hb1
  obtain ⟨z1_1, c1_1, f1_1⟩ := id B1_1
  have hT1 : Tab w1 b n 17 M := ((show Tab _ b n 17 M from (by repeat (with_reducible (first | assumption | apply Tab.alloc | apply Tab.drew | apply Tab.drewN | apply Tab.more | (apply Tab.far; focus (first | assumption | (apply Ne.symm; assumption) | (simp; done) | (simp <;> omega)))))))).below hb1
  refine region_quiet_but 8 (by kernel_rfl) (by kernel_rfl) ?_
  simp only [List.take_succ_cons, List.take_zero, List.drop_succ_cons, List.drop_zero]
  repeat (go_big_quiet_step (first | (go_at_call_of 120 (Value.int IntKind.i64 tA); exact calls_after (find_yes M n cap _ tA b i hi HA _ (hT1.more _) hn (B1_0.more _))) | (go_at_call_of 120 (Value.int IntKind.i64 tB); exact calls_after (find_yes M n cap _ tB b i hi HB _ (hT1.more _) hn (B1_0.more _)))))
  refine wpQuiet_nil ?_
  rintro w2 hw2
  have hb2 := after_below hw2
  clear hw2
  have B2_0 : Blk w2 (w.heap.size) _ := Blk.below (by repeat (with_reducible (first | assumption | (apply Blk.at; simp; done) | apply Blk.alloc | apply Blk.drew | apply Blk.drewN | apply Blk.more | apply Blk.put | (apply Blk.far; focus (first | assumption | (apply Ne.symm; assumption) | (simp; done) | (simp <;> omega)))))) hb2
  obtain ⟨z2_0, c2_0, f2_0⟩ := id B2_0
  have B2_1 : Blk w2 (w.heap.size + 1) _ := Blk.below (by repeat (with_reducible (first | assumption | (apply Blk.at; simp; done) | apply Blk.alloc | apply Blk.drew | apply Blk.drewN | apply Blk.more | apply Blk.put | (apply Blk.far; focus (first | assumption | (apply Ne.symm; assumption) | (simp; done) | (simp <;> omega)))))) hb2
  obtain ⟨z2_1, c2_1, f2_1⟩ := id B2_1
  have hT2 : Tab w2 b n 17 M := ((show Tab _ b n 17 M from (by repeat (with_reducible (first | assumption | apply Tab.alloc | apply Tab.drew | apply Tab.drewN | apply Tab.more | (apply Tab.far; focus (first | assumption | (apply Ne.symm; assumption) | (simp; done) | (simp <;> omega)))))))).below hb2
  have hq := Lib.run_neq_ptr_same (P := Try.prog) (w := w2) (⟨b, i * 17, none⟩ : Addr) Try.underlying124 hi0
  go_wp2
  exact bodyPost_ret (v := .tuple #[.pointer (some ⟨b, i * 17, none⟩), .pointer (some ⟨b, i * 17, none⟩), .bool false]) (by simp [results, Try.results106, go_sem, *]) rfl ⟨rfl, (by repeat (with_reducible (first | exact Below.refl _ _ | assumption | apply ext_drew | apply ext_drewN | apply ext_alloc | apply ext_more | (refine ext_setCell ?_ (by simp <;> omega) _) | (refine ext_below ?_ (by assumption)))))⟩

set_option maxRecDepth 100000 in
set_option maxHeartbeats 4000000 in
theorem both_yn (M : Nat → Nat → Int) (n cap : Nat) (tA tB g1 g2 g3 dp : Int) (w : World) (b i : Nat) (hT0 : Tab w b n 17 M) (hi : i < n) (HA : Hid (idx M n tA = (i : Int))) (HB : Hid (idx M n tB = -1)) (hn : n ≤ 9223372036854775807) :
    Calls Try.prog 106 #[.slice (some ⟨b, 0, none⟩) n cap, .agg #[.int .i64 tA, .int .i64 tB, .int .i64 g1, .int .i64 g2, .int .i64 g3, .int .i64 dp]] w fun e w' => e = .returned (.tuple #[.pointer (some ⟨b, i * 17, none⟩), .pointer none, .bool false]) ∧ Below w.heap.size w w' := by
  have hmc := more_cell
  have hmf := more_frozen
  have hml := more_lt
  obtain ⟨i0, hi0, hz0, hz1, hz2⟩ := info_parts bodyInfo
  have HZ := Lib.hid hz0
  have HS : i0.size ≠ 0 := by rw [hz1]; decide
  clear hz0 hz1 hz2
  go_enter Try.func106, Try.ntmps106
  go_wp2_with fail
  refine wp_fresh ?_
  rintro w1 hb1
  have B1_0 : Blk w1 (w.heap.size) _ := Blk.below (by repeat (with_reducible (first | assumption | (apply Blk.at; simp; done) | apply Blk.alloc | apply Blk.drew | apply Blk.drewN | apply Blk.more | apply Blk.put | (apply Blk.far; focus (first | assumption | (apply Ne.symm; assumption) | (simp; done) | (simp <;> omega)))))) hb1
  obtain ⟨z1_0, c1_0, f1_0⟩ := id B1_0
  have B1_1 : Blk w1 (w.heap.size + 1) _ := Blk.below (by repeat (with_reducible (first | assumption | (apply Blk.at; simp; done) | apply Blk.alloc | apply Blk.drew | apply Blk.drewN | apply Blk.more | apply Blk.put | (apply Blk.far; focus (first | assumption | (apply Ne.symm; assumption) | (simp; done) | (simp <;> omega)))))) hb1
  obtain ⟨z1_1, c1_1, f1_1⟩ := id B1_1
  have hT1 : Tab w1 b n 17 M := ((show Tab _ b n 17 M from (by repeat (with_reducible (first | assumption | apply Tab.alloc | apply Tab.drew | apply Tab.drewN | apply Tab.more | (apply Tab.far; focus (first | assumption | (apply Ne.symm; assumption) | (simp; done) | (simp <;> omega)))))))).below hb1
  refine region_quiet_but 8 (by kernel_rfl) (by kernel_rfl) ?_
  simp only [List.take_succ_cons, List.take_zero, List.drop_succ_cons, List.drop_zero]
  repeat (go_big_quiet_step (first | (go_at_call_of 120 (Value.int IntKind.i64 tA); exact calls_after (find_yes M n cap _ tA b i hi HA _ (hT1.more _) hn (B1_0.more _))) | (go_at_call_of 120 (Value.int IntKind.i64 tB); exact calls_after (find_no M n cap _ tB (some ⟨b, 0, none⟩) HB _ (Own.of_tab (hT1.more _)) hn (B1_0.more _)))))
  refine wpQuiet_nil ?_
  rintro w2 hw2
  have hb2 := after_below hw2
  clear hw2
  have B2_0 : Blk w2 (w.heap.size) _ := Blk.below (by repeat (with_reducible (first | assumption | (apply Blk.at; simp; done) | apply Blk.alloc | apply Blk.drew | apply Blk.drewN | apply Blk.more | apply Blk.put | (apply Blk.far; focus (first | assumption | (apply Ne.symm; assumption) | (simp; done) | (simp <;> omega)))))) hb2
  obtain ⟨z2_0, c2_0, f2_0⟩ := id B2_0
  have B2_1 : Blk w2 (w.heap.size + 1) _ := Blk.below (by repeat (with_reducible (first | assumption | (apply Blk.at; simp; done) | apply Blk.alloc | apply Blk.drew | apply Blk.drewN | apply Blk.more | apply Blk.put | (apply Blk.far; focus (first | assumption | (apply Ne.symm; assumption) | (simp; done) | (simp <;> omega)))))) hb2
  obtain ⟨z2_1, c2_1, f2_1⟩ := id B2_1
  have hT2 : Tab w2 b n 17 M := ((show Tab _ b n 17 M from (by repeat (with_reducible (first | assumption | apply Tab.alloc | apply Tab.drew | apply Tab.drewN | apply Tab.more | (apply Tab.far; focus (first | assumption | (apply Ne.symm; assumption) | (simp; done) | (simp <;> omega)))))))).below hb2
  go_wp2
  exact bodyPost_ret (v := .tuple #[.pointer (some ⟨b, i * 17, none⟩), .pointer none, .bool false]) (by simp [results, Try.results106, go_sem, *]) rfl ⟨rfl, (by repeat (with_reducible (first | exact Below.refl _ _ | assumption | apply ext_drew | apply ext_drewN | apply ext_alloc | apply ext_more | (refine ext_setCell ?_ (by simp <;> omega) _) | (refine ext_below ?_ (by assumption)))))⟩

set_option maxRecDepth 100000 in
set_option maxHeartbeats 4000000 in
theorem both_ny (M : Nat → Nat → Int) (n cap : Nat) (tA tB g1 g2 g3 dp : Int) (w : World) (b k : Nat) (hT0 : Tab w b n 17 M) (hk : k < n) (HA : Hid (idx M n tA = -1)) (HB : Hid (idx M n tB = (k : Int))) (hn : n ≤ 9223372036854775807) :
    Calls Try.prog 106 #[.slice (some ⟨b, 0, none⟩) n cap, .agg #[.int .i64 tA, .int .i64 tB, .int .i64 g1, .int .i64 g2, .int .i64 g3, .int .i64 dp]] w fun e w' => e = .returned (.tuple #[.pointer none, .pointer (some ⟨b, k * 17, none⟩), .bool false]) ∧ Below w.heap.size w w' := by
  have hmc := more_cell
  have hmf := more_frozen
  have hml := more_lt
  obtain ⟨i0, hi0, hz0, hz1, hz2⟩ := info_parts bodyInfo
  have HZ := Lib.hid hz0
  have HS : i0.size ≠ 0 := by rw [hz1]; decide
  clear hz0 hz1 hz2
  go_enter Try.func106, Try.ntmps106
  go_wp2_with fail
  refine wp_fresh ?_
  rintro w1 hb1
  have B1_0 : Blk w1 (w.heap.size) _ := Blk.below (by repeat (with_reducible (first | assumption | (apply Blk.at; simp; done) | apply Blk.alloc | apply Blk.drew | apply Blk.drewN | apply Blk.more | apply Blk.put | (apply Blk.far; focus (first | assumption | (apply Ne.symm; assumption) | (simp; done) | (simp <;> omega)))))) hb1
  obtain ⟨z1_0, c1_0, f1_0⟩ := id B1_0
  have B1_1 : Blk w1 (w.heap.size + 1) _ := Blk.below (by repeat (with_reducible (first | assumption | (apply Blk.at; simp; done) | apply Blk.alloc | apply Blk.drew | apply Blk.drewN | apply Blk.more | apply Blk.put | (apply Blk.far; focus (first | assumption | (apply Ne.symm; assumption) | (simp; done) | (simp <;> omega)))))) hb1
  obtain ⟨z1_1, c1_1, f1_1⟩ := id B1_1
  have hT1 : Tab w1 b n 17 M := ((show Tab _ b n 17 M from (by repeat (with_reducible (first | assumption | apply Tab.alloc | apply Tab.drew | apply Tab.drewN | apply Tab.more | (apply Tab.far; focus (first | assumption | (apply Ne.symm; assumption) | (simp; done) | (simp <;> omega)))))))).below hb1
  refine region_quiet_but 8 (by kernel_rfl) (by kernel_rfl) ?_
  simp only [List.take_succ_cons, List.take_zero, List.drop_succ_cons, List.drop_zero]
  repeat (go_big_quiet_step (first | (go_at_call_of 120 (Value.int IntKind.i64 tA); exact calls_after (find_no M n cap _ tA (some ⟨b, 0, none⟩) HA _ (Own.of_tab (hT1.more _)) hn (B1_0.more _))) | (go_at_call_of 120 (Value.int IntKind.i64 tB); exact calls_after (find_yes M n cap _ tB b k hk HB _ (hT1.more _) hn (B1_0.more _)))))
  refine wpQuiet_nil ?_
  rintro w2 hw2
  have hb2 := after_below hw2
  clear hw2
  have B2_0 : Blk w2 (w.heap.size) _ := Blk.below (by repeat (with_reducible (first | assumption | (apply Blk.at; simp; done) | apply Blk.alloc | apply Blk.drew | apply Blk.drewN | apply Blk.more | apply Blk.put | (apply Blk.far; focus (first | assumption | (apply Ne.symm; assumption) | (simp; done) | (simp <;> omega)))))) hb2
  obtain ⟨z2_0, c2_0, f2_0⟩ := id B2_0
  have B2_1 : Blk w2 (w.heap.size + 1) _ := Blk.below (by repeat (with_reducible (first | assumption | (apply Blk.at; simp; done) | apply Blk.alloc | apply Blk.drew | apply Blk.drewN | apply Blk.more | apply Blk.put | (apply Blk.far; focus (first | assumption | (apply Ne.symm; assumption) | (simp; done) | (simp <;> omega)))))) hb2
  obtain ⟨z2_1, c2_1, f2_1⟩ := id B2_1
  have hT2 : Tab w2 b n 17 M := ((show Tab _ b n 17 M from (by repeat (with_reducible (first | assumption | apply Tab.alloc | apply Tab.drew | apply Tab.drewN | apply Tab.more | (apply Tab.far; focus (first | assumption | (apply Ne.symm; assumption) | (simp; done) | (simp <;> omega)))))))).below hb2
  go_wp2
  exact bodyPost_ret (v := .tuple #[.pointer none, .pointer (some ⟨b, k * 17, none⟩), .bool false]) (by simp [results, Try.results106, go_sem, *]) rfl ⟨rfl, (by repeat (with_reducible (first | exact Below.refl _ _ | assumption | apply ext_drew | apply ext_drewN | apply ext_alloc | apply ext_more | (refine ext_setCell ?_ (by simp <;> omega) _) | (refine ext_below ?_ (by assumption)))))⟩

set_option maxRecDepth 100000 in
set_option maxHeartbeats 4000000 in
theorem both_nn (M : Nat → Nat → Int) (n cap : Nat) (tA tB g1 g2 g3 dp : Int) (w : World) (A : Option Addr) (hO0 : Own w A n M) (HA : Hid (idx M n tA = -1)) (HB : Hid (idx M n tB = -1)) (hn : n ≤ 9223372036854775807) :
    Calls Try.prog 106 #[.slice A n cap, .agg #[.int .i64 tA, .int .i64 tB, .int .i64 g1, .int .i64 g2, .int .i64 g3, .int .i64 dp]] w fun e w' => e = .returned (.tuple #[.pointer none, .pointer none, .bool false]) ∧ Below w.heap.size w w' := by
  have hmc := more_cell
  have hmf := more_frozen
  have hml := more_lt
  obtain ⟨i0, hi0, hz0, hz1, hz2⟩ := info_parts bodyInfo
  have HZ := Lib.hid hz0
  have HS : i0.size ≠ 0 := by rw [hz1]; decide
  clear hz0 hz1 hz2
  go_enter Try.func106, Try.ntmps106
  go_wp2_with fail
  refine wp_fresh ?_
  rintro w1 hb1
  have B1_0 : Blk w1 (w.heap.size) _ := Blk.below (by repeat (with_reducible (first | assumption | (apply Blk.at; simp; done) | apply Blk.alloc | apply Blk.drew | apply Blk.drewN | apply Blk.more | apply Blk.put | (apply Blk.far; focus (first | assumption | (apply Ne.symm; assumption) | (simp; done) | (simp <;> omega)))))) hb1
  obtain ⟨z1_0, c1_0, f1_0⟩ := id B1_0
  have B1_1 : Blk w1 (w.heap.size + 1) _ := Blk.below (by repeat (with_reducible (first | assumption | (apply Blk.at; simp; done) | apply Blk.alloc | apply Blk.drew | apply Blk.drewN | apply Blk.more | apply Blk.put | (apply Blk.far; focus (first | assumption | (apply Ne.symm; assumption) | (simp; done) | (simp <;> omega)))))) hb1
  obtain ⟨z1_1, c1_1, f1_1⟩ := id B1_1
  have hO1 : Own w1 A n M := ((show Own _ A n M from (by repeat (with_reducible (first | assumption | apply Own.alloc | apply Own.drew | apply Own.drewN | apply Own.more | (apply Own.far; focus (first | assumption | (apply Ne.symm; assumption) | (simp; done) | (simp <;> omega)))))))).below hb1
  refine region_quiet_but 8 (by kernel_rfl) (by kernel_rfl) ?_
  simp only [List.take_succ_cons, List.take_zero, List.drop_succ_cons, List.drop_zero]
  repeat (go_big_quiet_step (first | (go_at_call_of 120 (Value.int IntKind.i64 tA); exact calls_after (find_no M n cap _ tA A HA _ (hO1.below (more_below _ _)) hn (B1_0.more _))) | (go_at_call_of 120 (Value.int IntKind.i64 tB); exact calls_after (find_no M n cap _ tB A HB _ (hO1.below (more_below _ _)) hn (B1_0.more _)))))
  refine wpQuiet_nil ?_
  rintro w2 hw2
  have hb2 := after_below hw2
  clear hw2
  have B2_0 : Blk w2 (w.heap.size) _ := Blk.below (by repeat (with_reducible (first | assumption | (apply Blk.at; simp; done) | apply Blk.alloc | apply Blk.drew | apply Blk.drewN | apply Blk.more | apply Blk.put | (apply Blk.far; focus (first | assumption | (apply Ne.symm; assumption) | (simp; done) | (simp <;> omega)))))) hb2
  obtain ⟨z2_0, c2_0, f2_0⟩ := id B2_0
  have B2_1 : Blk w2 (w.heap.size + 1) _ := Blk.below (by repeat (with_reducible (first | assumption | (apply Blk.at; simp; done) | apply Blk.alloc | apply Blk.drew | apply Blk.drewN | apply Blk.more | apply Blk.put | (apply Blk.far; focus (first | assumption | (apply Ne.symm; assumption) | (simp; done) | (simp <;> omega)))))) hb2
  obtain ⟨z2_1, c2_1, f2_1⟩ := id B2_1
  have hO2 : Own w2 A n M := ((show Own _ A n M from (by repeat (with_reducible (first | assumption | apply Own.alloc | apply Own.drew | apply Own.drewN | apply Own.more | (apply Own.far; focus (first | assumption | (apply Ne.symm; assumption) | (simp; done) | (simp <;> omega)))))))).below hb2
  go_wp2
  exact bodyPost_ret (v := .tuple #[.pointer none, .pointer none, .bool false]) (by simp [results, Try.results106, go_sem, *]) rfl ⟨rfl, (by repeat (with_reducible (first | exact Below.refl _ _ | assumption | apply ext_drew | apply ext_drewN | apply ext_alloc | apply ext_more | (refine ext_setCell ?_ (by simp <;> omega) _) | (refine ext_below ?_ (by assumption)))))⟩

end Go.Proofs.Ytfagkbmphohelaa
