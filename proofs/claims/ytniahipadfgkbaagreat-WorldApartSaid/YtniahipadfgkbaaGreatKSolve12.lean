/- The contract of solve.push; plain: a push. Conditions: none. -/
import Derived.Test.YtniahipadfgkbaaGreatKS3
import Derived.Test.YtniahipadfgkbaaGreatKY2
namespace Go.Proofs.YtniahipadfgkbaaGreat
open Go.ChangeShapes Go.WideShapes Go.ChangeAt Go.RowKit Go.BigFrame
def dotW (M : Nat → Nat → Int) (i k : Nat) (g1 g2 g3 : Int) : Int := (dot (sub (M k 9) (M i 9)) (sub (M k 10) (M i 10)) (sub (M k 11) (M i 11)) g1 g2 g3)
def endM (M : Nat → Nat → Int) (i k : Nat) (x y al j ru s1 s2 s3 lg : Int) : Nat → Nat → Int :=
  if 0 < lg then giveM M i k (unit1 s1 s2 s3) (unit2 s1 s2 s3) (unit3 s1 s2 s3) (-min (mul j ru) (div lg al)) x y else M
def sideM (M : Nat → Nat → Int) (i k : Nat) (g1 g2 g3 x y al j ru dv : Int) : Nat → Nat → Int :=
  endM M i k x y al j ru (sub (sub (M k 9) (M i 9)) (mul g1 dv)) (sub (sub (M k 10) (M i 10)) (mul g2 dv)) (sub (sub (M k 11) (M i 11)) (mul g3 dv)) (long (sub (sub (M k 9) (M i 9)) (mul g1 dv)) (sub (sub (M k 10) (M i 10)) (mul g2 dv)) (sub (sub (M k 11) (M i 11)) (mul g3 dv)))
def midM (M : Nat → Nat → Int) (i k : Nat) (g1 g2 g3 x y al j ru : Int) : Nat → Nat → Int := sideM M i k g1 g2 g3 x y al j ru (dotW M i k g1 g2 g3)
def goM (M : Nat → Nat → Int) (i k : Nat) (g1 g2 g3 bo ru x y al dn : Int) : Nat → Nat → Int :=
  if al = 0 ∨ 0 ≤ dn then M else midM (giveM M i k g1 g2 g3 (div (mul (-dn) (65536 + bo)) al) x y) i k g1 g2 g3 x y al (div (mul (-dn) (65536 + bo)) al) ru
/-- two bodies that touch push each other -/
def pushM (M : Nat → Nat → Int) (i k : Nat) (g1 g2 g3 bo ru : Int) : Nat → Nat → Int :=
  goM M i k g1 g2 g3 bo ru (light (M i 15)) (light (M k 15)) (add (light (M i 15)) (light (M k 15))) (dotW M i k g1 g2 g3)
section
variable {M M1 : Nat → Nat → Int} {i k : Nat} {g1 g2 g3 bo ru x y al dn j dv s1 s2 s3 lg : Int}
theorem push_none (hx : light (M i 15) = x) (hy : light (M k 15) = y) (hal : add x y = al) (hdn : (dot (sub (M k 9) (M i 9)) (sub (M k 10) (M i 10)) (sub (M k 11) (M i 11)) g1 g2 g3) = dn) (h : al = 0 ∨ 0 ≤ dn) : pushM M i k g1 g2 g3 bo ru = M := by
  subst hx hy hal hdn
  exact if_pos h
theorem push_some (hx : light (M i 15) = x) (hy : light (M k 15) = y) (hal : add x y = al) (hdn : (dot (sub (M k 9) (M i 9)) (sub (M k 10) (M i 10)) (sub (M k 11) (M i 11)) g1 g2 g3) = dn) (h1 : (al == 0) = false) (h2 : ¬ 0 ≤ dn) (hj : div (mul (-dn) (65536 + bo)) al = j) (hM : giveM M i k g1 g2 g3 j x y = M1)
    (hdv : (dot (sub (M1 k 9) (M1 i 9)) (sub (M1 k 10) (M1 i 10)) (sub (M1 k 11) (M1 i 11)) g1 g2 g3) = dv) (h_1 : (sub (sub (M1 k 9) (M1 i 9)) (mul g1 dv)) = s1) (h_2 : (sub (sub (M1 k 10) (M1 i 10)) (mul g2 dv)) = s2) (h_3 : (sub (sub (M1 k 11) (M1 i 11)) (mul g3 dv)) = s3) (hl : long s1 s2 s3 = lg) : pushM M i k g1 g2 g3 bo ru = endM M1 i k x y al j ru s1 s2 s3 lg := by
  have h : ¬ (al = 0 ∨ 0 ≤ dn) := by
    rintro (h | h)
    · subst h
      simp at h1
    · exact h2 h
  subst hx hy hal hdn hj hM hdv h_1 h_2 h_3 hl
  exact if_neg h
end
theorem calls_v {P : Program} {f : FuncId} {args : Array Value} {w : World} {a v : Int} {R : World → Prop} (h : Calls P f args w fun e w' => e = .returned (.int .i64 a) ∧ R w') (he : a = v) : Calls P f args w fun e w' => e = .returned (.int .i64 v) ∧ R w' := he ▸ h
theorem calls_v3 {P : Program} {f : FuncId} {args : Array Value} {w : World} {a b c u v z : Int} {R : World → Prop} (h : Calls P f args w fun e w' => e = .returned (.agg #[.int .i64 a, .int .i64 b, .int .i64 c]) ∧ R w') (h1 : a = u) (h2 : b = v) (h3 : c = z) :
    Calls P f args w fun e w' => e = .returned (.agg #[.int .i64 u, .int .i64 v, .int .i64 z]) ∧ R w' := by subst h1 h2 h3; exact h

set_option maxRecDepth 100000 in
set_option maxHeartbeats 16000000 in
theorem push_A (M : Nat → Nat → Int) (b n i k : Nat) (tA tB g1 g2 g3 dp bo ru ro x y al dn : Int) (w : World) (hT : Tab w b n 17 M) (hi : i < n) (hk : k < n) (_hne : i ≠ k) (_hbo : 0 ≤ bo ∧ bo ≤ 65536)
    (HX : Hid (light (M i 15) = x)) (HY : Hid (light (M k 15) = y)) (HAL : Hid (add x y = al)) (HDN : Hid ((dot (sub (M k 9) (M i 9)) (sub (M k 10) (M i 10)) (sub (M k 11) (M i 11)) g1 g2 g3) = dn)) (h1 : al = 0) :
    Calls Tryz.prog 35 #[.pointer (some ⟨b, i * 17, none⟩), .pointer (some ⟨b, k * 17, none⟩), .agg #[.int .i64 tA, .int .i64 tB, .int .i64 g1, .int .i64 g2, .int .i64 g3, .int .i64 dp], .agg #[.int .i64 bo, .int .i64 ru, .int .i64 ro]] w fun e w' => e = .returned (.tuple #[]) ∧ Tab w' b n 17 M ∧ Mds (· = b) w w' := by
  have hmc := more_cell
  have hmf := more_frozen
  have hml := more_lt
  subst h1

  have hT0 := hT
  have hlt0 := hT.lt
  have nbw : b ≠ w.heap.size := by omega
  have nbw2 : b ≠ w.heap.size + 1 := by omega
  go_enter Tryz.func35, Tryz.ntmps35
  go_wp2_with fail
  go_wp2_with fail
  refine calls_here ?_
  rintro w1 hb1
  have B1_0 : Blk w1 (w.heap.size) _ := Blk.below (by repeat (with_reducible (first | assumption | (apply Blk.at; simp; done) | apply Blk.alloc | apply Blk.drew | apply Blk.drewN | apply Blk.more | apply Blk.put | (apply Blk.far; focus (first | assumption | (apply Ne.symm; assumption) | (simp; done) | (simp <;> omega)))))) hb1
  obtain ⟨z1_0, c1_0, f1_0⟩ := id B1_0
  have B1_1 : Blk w1 (w.heap.size + 1) _ := Blk.below (by repeat (with_reducible (first | assumption | (apply Blk.at; simp; done) | apply Blk.alloc | apply Blk.drew | apply Blk.drewN | apply Blk.more | apply Blk.put | (apply Blk.far; focus (first | assumption | (apply Ne.symm; assumption) | (simp; done) | (simp <;> omega)))))) hb1
  obtain ⟨z1_1, c1_1, f1_1⟩ := id B1_1
  have hT1 : Tab w1 b n 17 M := ((show Tab _ b n 17 M from (by repeat (with_reducible (first | assumption | apply Tab.alloc | apply Tab.drew | apply Tab.drewN | apply Tab.more | (apply Tab.far; focus (first | assumption | (apply Ne.symm; assumption) | (simp; done) | (simp <;> omega)))))))).below hb1
  have xi := hT1.cell hi (j := 15) (by decide)
  have xj := hT1.cell hk (j := 15) (by decide)
  refine (calls_v (light_c b (i * 17) (M i 15) _ (by first | exact xi | exact xj)) HX.out).mono ?_
  rintro e w' ⟨rfl, q13, rfl⟩
  go_wp2_with fail
  go_wp2_with fail
  refine (calls_v (light_c b (k * 17) (M k 15) _ (by first | exact xi | exact xj)) HY.out).mono ?_
  rintro e w' ⟨rfl, q17, rfl⟩
  go_wp2_with fail
  refine (calls_v (add_c _ _ _) HAL.out).mono ?_
  rintro e w' ⟨rfl, rfl⟩
  go_wp2_with fail
  refine wp_fresh ?_
  rintro w2 hb2
  have B2_0 : Blk w2 (w.heap.size) _ := Blk.below (by repeat (with_reducible (first | assumption | (apply Blk.at; simp; done) | apply Blk.alloc | apply Blk.drew | apply Blk.drewN | apply Blk.more | apply Blk.put | (apply Blk.far; focus (first | assumption | (apply Ne.symm; assumption) | (simp; done) | (simp <;> omega)))))) hb2
  obtain ⟨z2_0, c2_0, f2_0⟩ := id B2_0
  have B2_1 : Blk w2 (w.heap.size + 1) _ := Blk.below (by repeat (with_reducible (first | assumption | (apply Blk.at; simp; done) | apply Blk.alloc | apply Blk.drew | apply Blk.drewN | apply Blk.more | apply Blk.put | (apply Blk.far; focus (first | assumption | (apply Ne.symm; assumption) | (simp; done) | (simp <;> omega)))))) hb2
  obtain ⟨z2_1, c2_1, f2_1⟩ := id B2_1
  have hT2 : Tab w2 b n 17 M := ((show Tab _ b n 17 M from (by repeat (with_reducible (first | assumption | apply Tab.alloc | apply Tab.drew | apply Tab.drewN | apply Tab.more | (apply Tab.far; focus (first | assumption | (apply Ne.symm; assumption) | (simp; done) | (simp <;> omega)))))))).below hb2
  have ak9 := hT2.cell hk (j := 9) (by decide)
  have ai9 := hT2.cell hi (j := 9) (by decide)
  have ak10 := hT2.cell hk (j := 10) (by decide)
  have ai10 := hT2.cell hi (j := 10) (by decide)
  have ak11 := hT2.cell hk (j := 11) (by decide)
  have ai11 := hT2.cell hi (j := 11) (by decide)
  have az := hT2.lt
  go_wp2_with fail
  refine region_quiet_but 12 (by kernel_rfl) (by kernel_rfl) ?_
  simp only [List.take_succ_cons, List.take_zero, List.drop_succ_cons, List.drop_zero]
  repeat (go_big_quiet_step (first | (go_at_call 39; exact calls_after (minus_c _ _ _ _ _ _ _)) | (go_at_call 66; exact calls_after (calls_v (dot_c _ _ _ _ _ _ _) HDN.out))))
  refine wpQuiet_nil ?_
  rintro w3 hw3
  have hb3 := after_below hw3
  clear hw3
  have B3_0 : Blk w3 (w.heap.size) _ := Blk.below (by repeat (with_reducible (first | assumption | (apply Blk.at; simp; done) | apply Blk.alloc | apply Blk.drew | apply Blk.drewN | apply Blk.more | apply Blk.put | (apply Blk.far; focus (first | assumption | (apply Ne.symm; assumption) | (simp; done) | (simp <;> omega)))))) hb3
  obtain ⟨z3_0, c3_0, f3_0⟩ := id B3_0
  have B3_1 : Blk w3 (w.heap.size + 1) _ := Blk.below (by repeat (with_reducible (first | assumption | (apply Blk.at; simp; done) | apply Blk.alloc | apply Blk.drew | apply Blk.drewN | apply Blk.more | apply Blk.put | (apply Blk.far; focus (first | assumption | (apply Ne.symm; assumption) | (simp; done) | (simp <;> omega)))))) hb3
  obtain ⟨z3_1, c3_1, f3_1⟩ := id B3_1
  have hT3 : Tab w3 b n 17 M := ((show Tab _ b n 17 M from (by repeat (with_reducible (first | assumption | apply Tab.alloc | apply Tab.drew | apply Tab.drewN | apply Tab.more | (apply Tab.far; focus (first | assumption | (apply Ne.symm; assumption) | (simp; done) | (simp <;> omega)))))))).below hb3
  go_wp2
  refine bodyPost_ret (results_none (by rfl) _ _ _) rfl ?_
  exact ⟨rfl, (by repeat (with_reducible (first | assumption | apply Tab.alloc | apply Tab.drew | apply Tab.drewN | apply Tab.more | (apply Tab.far; focus (first | assumption | (apply Ne.symm; assumption) | (simp; done) | (simp <;> omega)))))), (by repeat (with_reducible (first | exact Mds.refl _ _ | assumption | apply Mds.drew | apply Mds.drewN | apply Mds.alloc | apply Mds.more | (refine Mds.set ?_ (Or.inl rfl)) | (refine Mds.set ?_ (Or.inr (by omega))) | (refine Mds.below ?_ (by assumption)) | (refine Mds.trans ?_ (by assumption)))))⟩

set_option maxRecDepth 100000 in
set_option maxHeartbeats 16000000 in
theorem push_B (M : Nat → Nat → Int) (b n i k : Nat) (tA tB g1 g2 g3 dp bo ru ro x y al dn : Int) (w : World) (hT : Tab w b n 17 M) (hi : i < n) (hk : k < n) (_hne : i ≠ k) (_hbo : 0 ≤ bo ∧ bo ≤ 65536)
    (HX : Hid (light (M i 15) = x)) (HY : Hid (light (M k 15) = y)) (HAL : Hid (add x y = al)) (HDN : Hid ((dot (sub (M k 9) (M i 9)) (sub (M k 10) (M i 10)) (sub (M k 11) (M i 11)) g1 g2 g3) = dn)) (h1 : (al == 0) = false) (h2 : 0 ≤ dn) :
    Calls Tryz.prog 35 #[.pointer (some ⟨b, i * 17, none⟩), .pointer (some ⟨b, k * 17, none⟩), .agg #[.int .i64 tA, .int .i64 tB, .int .i64 g1, .int .i64 g2, .int .i64 g3, .int .i64 dp], .agg #[.int .i64 bo, .int .i64 ru, .int .i64 ro]] w fun e w' => e = .returned (.tuple #[]) ∧ Tab w' b n 17 M ∧ Mds (· = b) w w' := by
  have hmc := more_cell
  have hmf := more_frozen
  have hml := more_lt

  have hT0 := hT
  have hlt0 := hT.lt
  have nbw : b ≠ w.heap.size := by omega
  have nbw2 : b ≠ w.heap.size + 1 := by omega
  go_enter Tryz.func35, Tryz.ntmps35
  go_wp2_with fail
  go_wp2_with fail
  refine calls_here ?_
  rintro w1 hb1
  have B1_0 : Blk w1 (w.heap.size) _ := Blk.below (by repeat (with_reducible (first | assumption | (apply Blk.at; simp; done) | apply Blk.alloc | apply Blk.drew | apply Blk.drewN | apply Blk.more | apply Blk.put | (apply Blk.far; focus (first | assumption | (apply Ne.symm; assumption) | (simp; done) | (simp <;> omega)))))) hb1
  obtain ⟨z1_0, c1_0, f1_0⟩ := id B1_0
  have B1_1 : Blk w1 (w.heap.size + 1) _ := Blk.below (by repeat (with_reducible (first | assumption | (apply Blk.at; simp; done) | apply Blk.alloc | apply Blk.drew | apply Blk.drewN | apply Blk.more | apply Blk.put | (apply Blk.far; focus (first | assumption | (apply Ne.symm; assumption) | (simp; done) | (simp <;> omega)))))) hb1
  obtain ⟨z1_1, c1_1, f1_1⟩ := id B1_1
  have hT1 : Tab w1 b n 17 M := ((show Tab _ b n 17 M from (by repeat (with_reducible (first | assumption | apply Tab.alloc | apply Tab.drew | apply Tab.drewN | apply Tab.more | (apply Tab.far; focus (first | assumption | (apply Ne.symm; assumption) | (simp; done) | (simp <;> omega)))))))).below hb1
  have xi := hT1.cell hi (j := 15) (by decide)
  have xj := hT1.cell hk (j := 15) (by decide)
  refine (calls_v (light_c b (i * 17) (M i 15) _ (by first | exact xi | exact xj)) HX.out).mono ?_
  rintro e w' ⟨rfl, q13, rfl⟩
  go_wp2_with fail
  go_wp2_with fail
  refine (calls_v (light_c b (k * 17) (M k 15) _ (by first | exact xi | exact xj)) HY.out).mono ?_
  rintro e w' ⟨rfl, q17, rfl⟩
  go_wp2_with fail
  refine (calls_v (add_c _ _ _) HAL.out).mono ?_
  rintro e w' ⟨rfl, rfl⟩
  go_wp2_with fail
  refine wp_fresh ?_
  rintro w2 hb2
  have B2_0 : Blk w2 (w.heap.size) _ := Blk.below (by repeat (with_reducible (first | assumption | (apply Blk.at; simp; done) | apply Blk.alloc | apply Blk.drew | apply Blk.drewN | apply Blk.more | apply Blk.put | (apply Blk.far; focus (first | assumption | (apply Ne.symm; assumption) | (simp; done) | (simp <;> omega)))))) hb2
  obtain ⟨z2_0, c2_0, f2_0⟩ := id B2_0
  have B2_1 : Blk w2 (w.heap.size + 1) _ := Blk.below (by repeat (with_reducible (first | assumption | (apply Blk.at; simp; done) | apply Blk.alloc | apply Blk.drew | apply Blk.drewN | apply Blk.more | apply Blk.put | (apply Blk.far; focus (first | assumption | (apply Ne.symm; assumption) | (simp; done) | (simp <;> omega)))))) hb2
  obtain ⟨z2_1, c2_1, f2_1⟩ := id B2_1
  have hT2 : Tab w2 b n 17 M := ((show Tab _ b n 17 M from (by repeat (with_reducible (first | assumption | apply Tab.alloc | apply Tab.drew | apply Tab.drewN | apply Tab.more | (apply Tab.far; focus (first | assumption | (apply Ne.symm; assumption) | (simp; done) | (simp <;> omega)))))))).below hb2
  have ak9 := hT2.cell hk (j := 9) (by decide)
  have ai9 := hT2.cell hi (j := 9) (by decide)
  have ak10 := hT2.cell hk (j := 10) (by decide)
  have ai10 := hT2.cell hi (j := 10) (by decide)
  have ak11 := hT2.cell hk (j := 11) (by decide)
  have ai11 := hT2.cell hi (j := 11) (by decide)
  have az := hT2.lt
  go_wp2_with fail
  refine region_quiet_but 12 (by kernel_rfl) (by kernel_rfl) ?_
  simp only [List.take_succ_cons, List.take_zero, List.drop_succ_cons, List.drop_zero]
  repeat (go_big_quiet_step (first | (go_at_call 39; exact calls_after (minus_c _ _ _ _ _ _ _)) | (go_at_call 66; exact calls_after (calls_v (dot_c _ _ _ _ _ _ _) HDN.out))))
  refine wpQuiet_nil ?_
  rintro w3 hw3
  have hb3 := after_below hw3
  clear hw3
  have B3_0 : Blk w3 (w.heap.size) _ := Blk.below (by repeat (with_reducible (first | assumption | (apply Blk.at; simp; done) | apply Blk.alloc | apply Blk.drew | apply Blk.drewN | apply Blk.more | apply Blk.put | (apply Blk.far; focus (first | assumption | (apply Ne.symm; assumption) | (simp; done) | (simp <;> omega)))))) hb3
  obtain ⟨z3_0, c3_0, f3_0⟩ := id B3_0
  have B3_1 : Blk w3 (w.heap.size + 1) _ := Blk.below (by repeat (with_reducible (first | assumption | (apply Blk.at; simp; done) | apply Blk.alloc | apply Blk.drew | apply Blk.drewN | apply Blk.more | apply Blk.put | (apply Blk.far; focus (first | assumption | (apply Ne.symm; assumption) | (simp; done) | (simp <;> omega)))))) hb3
  obtain ⟨z3_1, c3_1, f3_1⟩ := id B3_1
  have hT3 : Tab w3 b n 17 M := ((show Tab _ b n 17 M from (by repeat (with_reducible (first | assumption | apply Tab.alloc | apply Tab.drew | apply Tab.drewN | apply Tab.more | (apply Tab.far; focus (first | assumption | (apply Ne.symm; assumption) | (simp; done) | (simp <;> omega)))))))).below hb3
  go_wp2
  refine bodyPost_ret (results_none (by rfl) _ _ _) rfl ?_
  exact ⟨rfl, (by repeat (with_reducible (first | assumption | apply Tab.alloc | apply Tab.drew | apply Tab.drewN | apply Tab.more | (apply Tab.far; focus (first | assumption | (apply Ne.symm; assumption) | (simp; done) | (simp <;> omega)))))), (by repeat (with_reducible (first | exact Mds.refl _ _ | assumption | apply Mds.drew | apply Mds.drewN | apply Mds.alloc | apply Mds.more | (refine Mds.set ?_ (Or.inl rfl)) | (refine Mds.set ?_ (Or.inr (by omega))) | (refine Mds.below ?_ (by assumption)) | (refine Mds.trans ?_ (by assumption)))))⟩

set_option maxRecDepth 100000 in
set_option maxHeartbeats 16000000 in
theorem push_C (M : Nat → Nat → Int) (b n i k : Nat) (tA tB g1 g2 g3 dp bo ru ro x y al dn j dv s1 s2 s3 lg : Int) (M1 : Nat → Nat → Int) (w : World) (hT : Tab w b n 17 M) (hi : i < n) (hk : k < n) (_hne : i ≠ k) (_hbo : 0 ≤ bo ∧ bo ≤ 65536)
    (HX : Hid (light (M i 15) = x)) (HY : Hid (light (M k 15) = y)) (HAL : Hid (add x y = al)) (HDN : Hid ((dot (sub (M k 9) (M i 9)) (sub (M k 10) (M i 10)) (sub (M k 11) (M i 11)) g1 g2 g3) = dn)) (h1 : (al == 0) = false) (h2 : ¬ 0 ≤ dn) (HJ : Hid (div (mul (-dn) (65536 + bo)) al = j)) (HM1 : Hid (giveM M i k g1 g2 g3 j x y = M1)) (HDV : Hid ((dot (sub (M1 k 9) (M1 i 9)) (sub (M1 k 10) (M1 i 10)) (sub (M1 k 11) (M1 i 11)) g1 g2 g3) = dv)) (HS1 : Hid ((sub (sub (M1 k 9) (M1 i 9)) (mul g1 dv)) = s1)) (HS2 : Hid ((sub (sub (M1 k 10) (M1 i 10)) (mul g2 dv)) = s2)) (HS3 : Hid ((sub (sub (M1 k 11) (M1 i 11)) (mul g3 dv)) = s3)) (HLG : Hid (long s1 s2 s3 = lg)) (h3 : ¬ 0 < lg) :
    Calls Tryz.prog 35 #[.pointer (some ⟨b, i * 17, none⟩), .pointer (some ⟨b, k * 17, none⟩), .agg #[.int .i64 tA, .int .i64 tB, .int .i64 g1, .int .i64 g2, .int .i64 g3, .int .i64 dp], .agg #[.int .i64 bo, .int .i64 ru, .int .i64 ro]] w fun e w' => e = .returned (.tuple #[]) ∧ Tab w' b n 17 M1 ∧ Mds (· = b) w w' := by
  have hmc := more_cell
  have hmf := more_frozen
  have hml := more_lt
  have hd1 : -70368744177664 ≤ dn ∧ dn ≤ 70368744177664 := by rw [← HDN.out]; exact add_bd _ _

  have hT0 := hT
  have hlt0 := hT.lt
  have nbw : b ≠ w.heap.size := by omega
  have nbw2 : b ≠ w.heap.size + 1 := by omega
  go_enter Tryz.func35, Tryz.ntmps35
  go_wp2_with fail
  go_wp2_with fail
  refine calls_here ?_
  rintro w1 hb1
  have B1_0 : Blk w1 (w.heap.size) _ := Blk.below (by repeat (with_reducible (first | assumption | (apply Blk.at; simp; done) | apply Blk.alloc | apply Blk.drew | apply Blk.drewN | apply Blk.more | apply Blk.put | (apply Blk.far; focus (first | assumption | (apply Ne.symm; assumption) | (simp; done) | (simp <;> omega)))))) hb1
  obtain ⟨z1_0, c1_0, f1_0⟩ := id B1_0
  have B1_1 : Blk w1 (w.heap.size + 1) _ := Blk.below (by repeat (with_reducible (first | assumption | (apply Blk.at; simp; done) | apply Blk.alloc | apply Blk.drew | apply Blk.drewN | apply Blk.more | apply Blk.put | (apply Blk.far; focus (first | assumption | (apply Ne.symm; assumption) | (simp; done) | (simp <;> omega)))))) hb1
  obtain ⟨z1_1, c1_1, f1_1⟩ := id B1_1
  have hT1 : Tab w1 b n 17 M := ((show Tab _ b n 17 M from (by repeat (with_reducible (first | assumption | apply Tab.alloc | apply Tab.drew | apply Tab.drewN | apply Tab.more | (apply Tab.far; focus (first | assumption | (apply Ne.symm; assumption) | (simp; done) | (simp <;> omega)))))))).below hb1
  have xi := hT1.cell hi (j := 15) (by decide)
  have xj := hT1.cell hk (j := 15) (by decide)
  refine (calls_v (light_c b (i * 17) (M i 15) _ (by first | exact xi | exact xj)) HX.out).mono ?_
  rintro e w' ⟨rfl, q13, rfl⟩
  go_wp2_with fail
  go_wp2_with fail
  refine (calls_v (light_c b (k * 17) (M k 15) _ (by first | exact xi | exact xj)) HY.out).mono ?_
  rintro e w' ⟨rfl, q17, rfl⟩
  go_wp2_with fail
  refine (calls_v (add_c _ _ _) HAL.out).mono ?_
  rintro e w' ⟨rfl, rfl⟩
  go_wp2_with fail
  refine wp_fresh ?_
  rintro w2 hb2
  have B2_0 : Blk w2 (w.heap.size) _ := Blk.below (by repeat (with_reducible (first | assumption | (apply Blk.at; simp; done) | apply Blk.alloc | apply Blk.drew | apply Blk.drewN | apply Blk.more | apply Blk.put | (apply Blk.far; focus (first | assumption | (apply Ne.symm; assumption) | (simp; done) | (simp <;> omega)))))) hb2
  obtain ⟨z2_0, c2_0, f2_0⟩ := id B2_0
  have B2_1 : Blk w2 (w.heap.size + 1) _ := Blk.below (by repeat (with_reducible (first | assumption | (apply Blk.at; simp; done) | apply Blk.alloc | apply Blk.drew | apply Blk.drewN | apply Blk.more | apply Blk.put | (apply Blk.far; focus (first | assumption | (apply Ne.symm; assumption) | (simp; done) | (simp <;> omega)))))) hb2
  obtain ⟨z2_1, c2_1, f2_1⟩ := id B2_1
  have hT2 : Tab w2 b n 17 M := ((show Tab _ b n 17 M from (by repeat (with_reducible (first | assumption | apply Tab.alloc | apply Tab.drew | apply Tab.drewN | apply Tab.more | (apply Tab.far; focus (first | assumption | (apply Ne.symm; assumption) | (simp; done) | (simp <;> omega)))))))).below hb2
  have ak9 := hT2.cell hk (j := 9) (by decide)
  have ai9 := hT2.cell hi (j := 9) (by decide)
  have ak10 := hT2.cell hk (j := 10) (by decide)
  have ai10 := hT2.cell hi (j := 10) (by decide)
  have ak11 := hT2.cell hk (j := 11) (by decide)
  have ai11 := hT2.cell hi (j := 11) (by decide)
  have az := hT2.lt
  go_wp2_with fail
  refine region_quiet_but 12 (by kernel_rfl) (by kernel_rfl) ?_
  simp only [List.take_succ_cons, List.take_zero, List.drop_succ_cons, List.drop_zero]
  repeat (go_big_quiet_step (first | (go_at_call 39; exact calls_after (minus_c _ _ _ _ _ _ _)) | (go_at_call 66; exact calls_after (calls_v (dot_c _ _ _ _ _ _ _) HDN.out))))
  refine wpQuiet_nil ?_
  rintro w3 hw3
  have hb3 := after_below hw3
  clear hw3
  have B3_0 : Blk w3 (w.heap.size) _ := Blk.below (by repeat (with_reducible (first | assumption | (apply Blk.at; simp; done) | apply Blk.alloc | apply Blk.drew | apply Blk.drewN | apply Blk.more | apply Blk.put | (apply Blk.far; focus (first | assumption | (apply Ne.symm; assumption) | (simp; done) | (simp <;> omega)))))) hb3
  obtain ⟨z3_0, c3_0, f3_0⟩ := id B3_0
  have B3_1 : Blk w3 (w.heap.size + 1) _ := Blk.below (by repeat (with_reducible (first | assumption | (apply Blk.at; simp; done) | apply Blk.alloc | apply Blk.drew | apply Blk.drewN | apply Blk.more | apply Blk.put | (apply Blk.far; focus (first | assumption | (apply Ne.symm; assumption) | (simp; done) | (simp <;> omega)))))) hb3
  obtain ⟨z3_1, c3_1, f3_1⟩ := id B3_1
  have hT3 : Tab w3 b n 17 M := ((show Tab _ b n 17 M from (by repeat (with_reducible (first | assumption | apply Tab.alloc | apply Tab.drew | apply Tab.drewN | apply Tab.more | (apply Tab.far; focus (first | assumption | (apply Ne.symm; assumption) | (simp; done) | (simp <;> omega)))))))).below hb3
  go_wp2_with fail
  refine (mul_c _ _ _).mono ?_
  rintro e w' ⟨rfl, rfl⟩
  go_wp2_with fail
  refine (calls_v (div_c _ _ _) HJ.out).mono ?_
  rintro e w' ⟨rfl, q42, rfl⟩
  go_wp2_with fail
  go_wp2_with fail
  refine calls_here ?_
  rintro w4 hb4
  have B4_0 : Blk w4 (w.heap.size) _ := Blk.below (by repeat (with_reducible (first | assumption | (apply Blk.at; simp; done) | apply Blk.alloc | apply Blk.drew | apply Blk.drewN | apply Blk.more | apply Blk.put | (apply Blk.far; focus (first | assumption | (apply Ne.symm; assumption) | (simp; done) | (simp <;> omega)))))) hb4
  obtain ⟨z4_0, c4_0, f4_0⟩ := id B4_0
  have B4_1 : Blk w4 (w.heap.size + 1) _ := Blk.below (by repeat (with_reducible (first | assumption | (apply Blk.at; simp; done) | apply Blk.alloc | apply Blk.drew | apply Blk.drewN | apply Blk.more | apply Blk.put | (apply Blk.far; focus (first | assumption | (apply Ne.symm; assumption) | (simp; done) | (simp <;> omega)))))) hb4
  obtain ⟨z4_1, c4_1, f4_1⟩ := id B4_1
  have hT4 : Tab w4 b n 17 M := ((show Tab _ b n 17 M from (by repeat (with_reducible (first | assumption | apply Tab.alloc | apply Tab.drew | apply Tab.drewN | apply Tab.more | (apply Tab.far; focus (first | assumption | (apply Ne.symm; assumption) | (simp; done) | (simp <;> omega)))))))).below hb4
  with_reducible refine (give_c M b n i k g1 g2 g3 j x y _ hT4 hi hk _hne).mono ?_
  rintro e w5 ⟨rfl, hT5, hm5⟩
  have B5_0 : Blk w5 (w.heap.size) _ := B4_0.mod hm5.toMod (by show ¬ _ = b; omega)
  obtain ⟨z5_0, c5_0, f5_0⟩ := id B5_0
  have B5_1 : Blk w5 (w.heap.size + 1) _ := B4_1.mod hm5.toMod (by show ¬ _ = b; omega)
  obtain ⟨z5_1, c5_1, f5_1⟩ := id B5_1
  rw [HM1.out] at hT5
  go_wp2_with fail
  refine wp_fresh ?_
  rintro w6 hb6
  have B6_0 : Blk w6 (w.heap.size) _ := Blk.below (by repeat (with_reducible (first | assumption | (apply Blk.at; simp; done) | apply Blk.alloc | apply Blk.drew | apply Blk.drewN | apply Blk.more | apply Blk.put | (apply Blk.far; focus (first | assumption | (apply Ne.symm; assumption) | (simp; done) | (simp <;> omega)))))) hb6
  obtain ⟨z6_0, c6_0, f6_0⟩ := id B6_0
  have B6_1 : Blk w6 (w.heap.size + 1) _ := Blk.below (by repeat (with_reducible (first | assumption | (apply Blk.at; simp; done) | apply Blk.alloc | apply Blk.drew | apply Blk.drewN | apply Blk.more | apply Blk.put | (apply Blk.far; focus (first | assumption | (apply Ne.symm; assumption) | (simp; done) | (simp <;> omega)))))) hb6
  obtain ⟨z6_1, c6_1, f6_1⟩ := id B6_1
  have hT6 : Tab w6 b n 17 M1 := ((show Tab _ b n 17 M1 from (by repeat (with_reducible (first | assumption | apply Tab.alloc | apply Tab.drew | apply Tab.drewN | apply Tab.more | (apply Tab.far; focus (first | assumption | (apply Ne.symm; assumption) | (simp; done) | (simp <;> omega)))))))).below hb6
  have ms6 : w.heap.size ≤ w6.heap.size := (show Mds (· = b) w w6 from (by repeat (with_reducible (first | exact Mds.refl _ _ | assumption | apply Mds.drew | apply Mds.drewN | apply Mds.alloc | apply Mds.more | (refine Mds.set ?_ (Or.inl rfl)) | (refine Mds.set ?_ (Or.inr (by omega))) | (refine Mds.below ?_ (by assumption)) | (refine Mds.trans ?_ (by assumption)))))).size
  refine region_grow (A := ?A7) 9 [13] (fun _ => #[.int .i64 0, .int .i64 0, .int .i64 0]) (by kernel_rfl) (by kernel_rfl) ?hrun7 ?hq7 ?htail7
  case hq7 =>
    intro w0 hb0
    simp only [List.take_succ_cons, List.take_zero]
    have B0_0 : Blk w0 _ _ := B6_0.below hb0
    obtain ⟨z0_0, c0_0, f0_0⟩ := id B0_0
    have B0_1 : Blk w0 _ _ := B6_1.below hb0
    obtain ⟨z0_1, c0_1, f0_1⟩ := id B0_1
    have hT0_ : Tab w0 b n 17 M1 := hT6.below hb0
    have bk9 := hT0_.cell hk (j := 9) (by decide)
    have bi9 := hT0_.cell hi (j := 9) (by decide)
    have bk10 := hT0_.cell hk (j := 10) (by decide)
    have bi10 := hT0_.cell hi (j := 10) (by decide)
    have bk11 := hT0_.cell hk (j := 11) (by decide)
    have bi11 := hT0_.cell hi (j := 11) (by decide)
    have bz := hT0_.lt
    repeat (go_big_quiet_step ((go_at_call 39; exact calls_after (minus_c _ _ _ _ _ _ _))))
    refine wpQuiet_nil ?_
    rfl
  case hrun7 =>
    intro j hj
    match j, hj with
    | 0, _ => exact ⟨_, _, rfl, fun a w => by simp [go_sem]; rfl⟩
  case htail7 =>
    intro gs w7 hb7 hblk hne
    obtain ⟨G7_0, hg7_0⟩ := hblk 0 (by decide)
    simp only [List.drop_succ_cons, List.drop_zero, List.length_cons, List.length_nil, laySlots]
    clear hblk hne
    generalize gs 0 = g7_0 at *
    have B7_0 : Blk w7 _ _ := B6_0.below hb7
    obtain ⟨z7_0, c7_0, f7_0⟩ := id B7_0
    have B7_1 : Blk w7 _ _ := B6_1.below hb7
    obtain ⟨z7_1, c7_1, f7_1⟩ := id B7_1
    obtain ⟨zg7_0, cg7_0, fg7_0⟩ := id G7_0
    have ne7_0_0 : g7_0 ≠ w.heap.size := by omega
    have ne7_0_1 : g7_0 ≠ w.heap.size + 1 := by omega
    have hT7 : Tab w7 b n 17 M1 := hT6.below hb7
    have nt7_0 : g7_0 ≠ b := by have := hT6.lt; omega
    go_wp2_with fail
    refine wp_fresh ?_
    rintro w8 hb8
    have B8_0 : Blk w8 (w.heap.size) _ := Blk.below (by repeat (with_reducible (first | assumption | (apply Blk.at; simp; done) | apply Blk.alloc | apply Blk.drew | apply Blk.drewN | apply Blk.more | apply Blk.put | (apply Blk.far; focus (first | assumption | (apply Ne.symm; assumption) | (simp; done) | (simp <;> omega)))))) hb8
    obtain ⟨z8_0, c8_0, f8_0⟩ := id B8_0
    have B8_1 : Blk w8 (w.heap.size + 1) _ := Blk.below (by repeat (with_reducible (first | assumption | (apply Blk.at; simp; done) | apply Blk.alloc | apply Blk.drew | apply Blk.drewN | apply Blk.more | apply Blk.put | (apply Blk.far; focus (first | assumption | (apply Ne.symm; assumption) | (simp; done) | (simp <;> omega)))))) hb8
    obtain ⟨z8_1, c8_1, f8_1⟩ := id B8_1
    have B8_2 : Blk w8 (g7_0) _ := Blk.below (by repeat (with_reducible (first | assumption | (apply Blk.at; simp; done) | apply Blk.alloc | apply Blk.drew | apply Blk.drewN | apply Blk.more | apply Blk.put | (apply Blk.far; focus (first | assumption | (apply Ne.symm; assumption) | (simp; done) | (simp <;> omega)))))) hb8
    try simp only [List.setIfInBounds_toArray, List.set_cons_zero, List.set_cons_succ] at B8_2
    obtain ⟨z8_2, c8_2, f8_2⟩ := id B8_2
    have hT8 : Tab w8 b n 17 M1 := ((show Tab _ b n 17 M1 from (by repeat (with_reducible (first | assumption | apply Tab.alloc | apply Tab.drew | apply Tab.drewN | apply Tab.more | (apply Tab.far; focus (first | assumption | (apply Ne.symm; assumption) | (simp; done) | (simp <;> omega)))))))).below hb8
    have ms8 : w.heap.size ≤ w8.heap.size := (show Mds (· = b) w w8 from (by repeat (with_reducible (first | exact Mds.refl _ _ | assumption | apply Mds.drew | apply Mds.drewN | apply Mds.alloc | apply Mds.more | (refine Mds.set ?_ (Or.inl rfl)) | (refine Mds.set ?_ (Or.inr (by omega))) | (refine Mds.below ?_ (by assumption)) | (refine Mds.trans ?_ (by assumption)))))).size
    refine region_grow (A := ?A9) 9 [14] (fun _ => #[.int .i64 0, .int .i64 0, .int .i64 0]) (by kernel_rfl) (by kernel_rfl) ?hrun9 ?hq9 ?htail9
    case hq9 =>
      intro w0 hb0
      simp only [List.take_succ_cons, List.take_zero]
      have B0_0 : Blk w0 _ _ := B8_0.below hb0
      obtain ⟨z0_0, c0_0, f0_0⟩ := id B0_0
      have B0_1 : Blk w0 _ _ := B8_1.below hb0
      obtain ⟨z0_1, c0_1, f0_1⟩ := id B0_1
      have B0_2 : Blk w0 _ _ := B8_2.below hb0
      obtain ⟨z0_2, c0_2, f0_2⟩ := id B0_2
      have hT0_ : Tab w0 b n 17 M1 := hT8.below hb0
      repeat (go_big_quiet_step ((first | (go_at_call 66; exact calls_after (calls_v (dot_c _ _ _ _ _ _ _) HDV.out)) | (go_at_call 40; exact calls_after (times_c _ _ _ _ _)) | (go_at_call 39; exact calls_after (calls_v3 (minus_c _ _ _ _ _ _ _) HS1.out HS2.out HS3.out)))))
      refine wpQuiet_nil ?_
      rfl
    case hrun9 =>
      intro j hj
      match j, hj with
      | 0, _ => exact ⟨_, _, rfl, fun a w => by simp [go_sem]; rfl⟩
    case htail9 =>
      intro gs w9 hb9 hblk hne
      obtain ⟨G9_0, hg9_0⟩ := hblk 0 (by decide)
      simp only [List.drop_succ_cons, List.drop_zero, List.length_cons, List.length_nil, laySlots]
      clear hblk hne
      generalize gs 0 = g9_0 at *
      have B9_0 : Blk w9 _ _ := B8_0.below hb9
      obtain ⟨z9_0, c9_0, f9_0⟩ := id B9_0
      have B9_1 : Blk w9 _ _ := B8_1.below hb9
      obtain ⟨z9_1, c9_1, f9_1⟩ := id B9_1
      have B9_2 : Blk w9 _ _ := B8_2.below hb9
      obtain ⟨z9_2, c9_2, f9_2⟩ := id B9_2
      obtain ⟨zg9_0, cg9_0, fg9_0⟩ := id G9_0
      have ne9_0_0 : g9_0 ≠ w.heap.size := by omega
      have ne9_0_1 : g9_0 ≠ w.heap.size + 1 := by omega
      have ne9_0_2 : g9_0 ≠ g7_0 := by omega
      have hT9 : Tab w9 b n 17 M1 := hT8.below hb9
      have nt9_0 : g9_0 ≠ b := by have := hT8.lt; omega
      go_wp2_with fail
      refine (calls_v (long_c _ _ _ _) HLG.out).mono ?_
      rintro e w10 ⟨rfl, hb10⟩
      have B10_0 : Blk w10 (w.heap.size) _ := Blk.below (by repeat (with_reducible (first | assumption | (apply Blk.at; simp; done) | apply Blk.alloc | apply Blk.drew | apply Blk.drewN | apply Blk.more | apply Blk.put | (apply Blk.far; focus (first | assumption | (apply Ne.symm; assumption) | (simp; done) | (simp <;> omega)))))) hb10
      obtain ⟨z10_0, c10_0, f10_0⟩ := id B10_0
      have B10_1 : Blk w10 (w.heap.size + 1) _ := Blk.below (by repeat (with_reducible (first | assumption | (apply Blk.at; simp; done) | apply Blk.alloc | apply Blk.drew | apply Blk.drewN | apply Blk.more | apply Blk.put | (apply Blk.far; focus (first | assumption | (apply Ne.symm; assumption) | (simp; done) | (simp <;> omega)))))) hb10
      obtain ⟨z10_1, c10_1, f10_1⟩ := id B10_1
      have B10_2 : Blk w10 (g7_0) _ := Blk.below (by repeat (with_reducible (first | assumption | (apply Blk.at; simp; done) | apply Blk.alloc | apply Blk.drew | apply Blk.drewN | apply Blk.more | apply Blk.put | (apply Blk.far; focus (first | assumption | (apply Ne.symm; assumption) | (simp; done) | (simp <;> omega)))))) hb10
      obtain ⟨z10_2, c10_2, f10_2⟩ := id B10_2
      have B10_3 : Blk w10 (g9_0) _ := Blk.below (by repeat (with_reducible (first | assumption | (apply Blk.at; simp; done) | apply Blk.alloc | apply Blk.drew | apply Blk.drewN | apply Blk.more | apply Blk.put | (apply Blk.far; focus (first | assumption | (apply Ne.symm; assumption) | (simp; done) | (simp <;> omega)))))) hb10
      try simp only [List.setIfInBounds_toArray, List.set_cons_zero, List.set_cons_succ] at B10_3
      obtain ⟨z10_3, c10_3, f10_3⟩ := id B10_3
      have hT10 : Tab w10 b n 17 M1 := ((show Tab _ b n 17 M1 from (by repeat (with_reducible (first | assumption | apply Tab.alloc | apply Tab.drew | apply Tab.drewN | apply Tab.more | (apply Tab.far; focus (first | assumption | (apply Ne.symm; assumption) | (simp; done) | (simp <;> omega)))))))).below hb10
      go_wp2
      go_end0
      exact ⟨rfl, (by repeat (with_reducible (first | assumption | apply Tab.alloc | apply Tab.drew | apply Tab.drewN | apply Tab.more | (apply Tab.far; focus (first | assumption | (apply Ne.symm; assumption) | (simp; done) | (simp <;> omega)))))), (by repeat (with_reducible (first | exact Mds.refl _ _ | assumption | apply Mds.drew | apply Mds.drewN | apply Mds.alloc | apply Mds.more | (refine Mds.set ?_ (Or.inl rfl)) | (refine Mds.set ?_ (Or.inr (by omega))) | (refine Mds.below ?_ (by assumption)) | (refine Mds.trans ?_ (by assumption)))))⟩

set_option maxRecDepth 100000 in
set_option maxHeartbeats 16000000 in
theorem push_D (M : Nat → Nat → Int) (b n i k : Nat) (tA tB g1 g2 g3 dp bo ru ro x y al dn j dv s1 s2 s3 lg mj dj : Int) (M1 : Nat → Nat → Int) (w : World) (hT : Tab w b n 17 M) (hi : i < n) (hk : k < n) (_hne : i ≠ k) (_hbo : 0 ≤ bo ∧ bo ≤ 65536)
    (HX : Hid (light (M i 15) = x)) (HY : Hid (light (M k 15) = y)) (HAL : Hid (add x y = al)) (HDN : Hid ((dot (sub (M k 9) (M i 9)) (sub (M k 10) (M i 10)) (sub (M k 11) (M i 11)) g1 g2 g3) = dn)) (h1 : (al == 0) = false) (h2 : ¬ 0 ≤ dn) (HJ : Hid (div (mul (-dn) (65536 + bo)) al = j)) (HM1 : Hid (giveM M i k g1 g2 g3 j x y = M1)) (HDV : Hid ((dot (sub (M1 k 9) (M1 i 9)) (sub (M1 k 10) (M1 i 10)) (sub (M1 k 11) (M1 i 11)) g1 g2 g3) = dv)) (HS1 : Hid ((sub (sub (M1 k 9) (M1 i 9)) (mul g1 dv)) = s1)) (HS2 : Hid ((sub (sub (M1 k 10) (M1 i 10)) (mul g2 dv)) = s2)) (HS3 : Hid ((sub (sub (M1 k 11) (M1 i 11)) (mul g3 dv)) = s3)) (HLG : Hid (long s1 s2 s3 = lg)) (h3 : 0 < lg) (HMJ : Hid (mul j ru = mj)) (HDJ : Hid (div lg al = dj)) :
    Calls Tryz.prog 35 #[.pointer (some ⟨b, i * 17, none⟩), .pointer (some ⟨b, k * 17, none⟩), .agg #[.int .i64 tA, .int .i64 tB, .int .i64 g1, .int .i64 g2, .int .i64 g3, .int .i64 dp], .agg #[.int .i64 bo, .int .i64 ru, .int .i64 ro]] w fun e w' => e = .returned (.tuple #[]) ∧ Tab w' b n 17 (giveM M1 i k (unit1 s1 s2 s3) (unit2 s1 s2 s3) (unit3 s1 s2 s3) (-min mj dj) x y) ∧ Mds (· = b) w w' := by
  have hmc := more_cell
  have hmf := more_frozen
  have hml := more_lt
  have hd1 : -70368744177664 ≤ dn ∧ dn ≤ 70368744177664 := by rw [← HDN.out]; exact add_bd _ _
  have hm1 : -70368744177664 ≤ mj ∧ mj ≤ 70368744177664 := by rw [← HMJ.out]; exact mul_bd _ _
  have hm2 : -70368744177664 ≤ dj ∧ dj ≤ 70368744177664 := by rw [← HDJ.out]; exact div_bd _ _

  have hT0 := hT
  have hlt0 := hT.lt
  have nbw : b ≠ w.heap.size := by omega
  have nbw2 : b ≠ w.heap.size + 1 := by omega
  go_enter Tryz.func35, Tryz.ntmps35
  go_wp2_with fail
  go_wp2_with fail
  refine calls_here ?_
  rintro w1 hb1
  have B1_0 : Blk w1 (w.heap.size) _ := Blk.below (by repeat (with_reducible (first | assumption | (apply Blk.at; simp; done) | apply Blk.alloc | apply Blk.drew | apply Blk.drewN | apply Blk.more | apply Blk.put | (apply Blk.far; focus (first | assumption | (apply Ne.symm; assumption) | (simp; done) | (simp <;> omega)))))) hb1
  obtain ⟨z1_0, c1_0, f1_0⟩ := id B1_0
  have B1_1 : Blk w1 (w.heap.size + 1) _ := Blk.below (by repeat (with_reducible (first | assumption | (apply Blk.at; simp; done) | apply Blk.alloc | apply Blk.drew | apply Blk.drewN | apply Blk.more | apply Blk.put | (apply Blk.far; focus (first | assumption | (apply Ne.symm; assumption) | (simp; done) | (simp <;> omega)))))) hb1
  obtain ⟨z1_1, c1_1, f1_1⟩ := id B1_1
  have hT1 : Tab w1 b n 17 M := ((show Tab _ b n 17 M from (by repeat (with_reducible (first | assumption | apply Tab.alloc | apply Tab.drew | apply Tab.drewN | apply Tab.more | (apply Tab.far; focus (first | assumption | (apply Ne.symm; assumption) | (simp; done) | (simp <;> omega)))))))).below hb1
  have xi := hT1.cell hi (j := 15) (by decide)
  have xj := hT1.cell hk (j := 15) (by decide)
  refine (calls_v (light_c b (i * 17) (M i 15) _ (by first | exact xi | exact xj)) HX.out).mono ?_
  rintro e w' ⟨rfl, q13, rfl⟩
  go_wp2_with fail
  go_wp2_with fail
  refine (calls_v (light_c b (k * 17) (M k 15) _ (by first | exact xi | exact xj)) HY.out).mono ?_
  rintro e w' ⟨rfl, q17, rfl⟩
  go_wp2_with fail
  refine (calls_v (add_c _ _ _) HAL.out).mono ?_
  rintro e w' ⟨rfl, rfl⟩
  go_wp2_with fail
  refine wp_fresh ?_
  rintro w2 hb2
  have B2_0 : Blk w2 (w.heap.size) _ := Blk.below (by repeat (with_reducible (first | assumption | (apply Blk.at; simp; done) | apply Blk.alloc | apply Blk.drew | apply Blk.drewN | apply Blk.more | apply Blk.put | (apply Blk.far; focus (first | assumption | (apply Ne.symm; assumption) | (simp; done) | (simp <;> omega)))))) hb2
  obtain ⟨z2_0, c2_0, f2_0⟩ := id B2_0
  have B2_1 : Blk w2 (w.heap.size + 1) _ := Blk.below (by repeat (with_reducible (first | assumption | (apply Blk.at; simp; done) | apply Blk.alloc | apply Blk.drew | apply Blk.drewN | apply Blk.more | apply Blk.put | (apply Blk.far; focus (first | assumption | (apply Ne.symm; assumption) | (simp; done) | (simp <;> omega)))))) hb2
  obtain ⟨z2_1, c2_1, f2_1⟩ := id B2_1
  have hT2 : Tab w2 b n 17 M := ((show Tab _ b n 17 M from (by repeat (with_reducible (first | assumption | apply Tab.alloc | apply Tab.drew | apply Tab.drewN | apply Tab.more | (apply Tab.far; focus (first | assumption | (apply Ne.symm; assumption) | (simp; done) | (simp <;> omega)))))))).below hb2
  have ak9 := hT2.cell hk (j := 9) (by decide)
  have ai9 := hT2.cell hi (j := 9) (by decide)
  have ak10 := hT2.cell hk (j := 10) (by decide)
  have ai10 := hT2.cell hi (j := 10) (by decide)
  have ak11 := hT2.cell hk (j := 11) (by decide)
  have ai11 := hT2.cell hi (j := 11) (by decide)
  have az := hT2.lt
  go_wp2_with fail
  refine region_quiet_but 12 (by kernel_rfl) (by kernel_rfl) ?_
  simp only [List.take_succ_cons, List.take_zero, List.drop_succ_cons, List.drop_zero]
  repeat (go_big_quiet_step (first | (go_at_call 39; exact calls_after (minus_c _ _ _ _ _ _ _)) | (go_at_call 66; exact calls_after (calls_v (dot_c _ _ _ _ _ _ _) HDN.out))))
  refine wpQuiet_nil ?_
  rintro w3 hw3
  have hb3 := after_below hw3
  clear hw3
  have B3_0 : Blk w3 (w.heap.size) _ := Blk.below (by repeat (with_reducible (first | assumption | (apply Blk.at; simp; done) | apply Blk.alloc | apply Blk.drew | apply Blk.drewN | apply Blk.more | apply Blk.put | (apply Blk.far; focus (first | assumption | (apply Ne.symm; assumption) | (simp; done) | (simp <;> omega)))))) hb3
  obtain ⟨z3_0, c3_0, f3_0⟩ := id B3_0
  have B3_1 : Blk w3 (w.heap.size + 1) _ := Blk.below (by repeat (with_reducible (first | assumption | (apply Blk.at; simp; done) | apply Blk.alloc | apply Blk.drew | apply Blk.drewN | apply Blk.more | apply Blk.put | (apply Blk.far; focus (first | assumption | (apply Ne.symm; assumption) | (simp; done) | (simp <;> omega)))))) hb3
  obtain ⟨z3_1, c3_1, f3_1⟩ := id B3_1
  have hT3 : Tab w3 b n 17 M := ((show Tab _ b n 17 M from (by repeat (with_reducible (first | assumption | apply Tab.alloc | apply Tab.drew | apply Tab.drewN | apply Tab.more | (apply Tab.far; focus (first | assumption | (apply Ne.symm; assumption) | (simp; done) | (simp <;> omega)))))))).below hb3
  go_wp2_with fail
  refine (mul_c _ _ _).mono ?_
  rintro e w' ⟨rfl, rfl⟩
  go_wp2_with fail
  refine (calls_v (div_c _ _ _) HJ.out).mono ?_
  rintro e w' ⟨rfl, q42, rfl⟩
  go_wp2_with fail
  go_wp2_with fail
  refine calls_here ?_
  rintro w4 hb4
  have B4_0 : Blk w4 (w.heap.size) _ := Blk.below (by repeat (with_reducible (first | assumption | (apply Blk.at; simp; done) | apply Blk.alloc | apply Blk.drew | apply Blk.drewN | apply Blk.more | apply Blk.put | (apply Blk.far; focus (first | assumption | (apply Ne.symm; assumption) | (simp; done) | (simp <;> omega)))))) hb4
  obtain ⟨z4_0, c4_0, f4_0⟩ := id B4_0
  have B4_1 : Blk w4 (w.heap.size + 1) _ := Blk.below (by repeat (with_reducible (first | assumption | (apply Blk.at; simp; done) | apply Blk.alloc | apply Blk.drew | apply Blk.drewN | apply Blk.more | apply Blk.put | (apply Blk.far; focus (first | assumption | (apply Ne.symm; assumption) | (simp; done) | (simp <;> omega)))))) hb4
  obtain ⟨z4_1, c4_1, f4_1⟩ := id B4_1
  have hT4 : Tab w4 b n 17 M := ((show Tab _ b n 17 M from (by repeat (with_reducible (first | assumption | apply Tab.alloc | apply Tab.drew | apply Tab.drewN | apply Tab.more | (apply Tab.far; focus (first | assumption | (apply Ne.symm; assumption) | (simp; done) | (simp <;> omega)))))))).below hb4
  with_reducible refine (give_c M b n i k g1 g2 g3 j x y _ hT4 hi hk _hne).mono ?_
  rintro e w5 ⟨rfl, hT5, hm5⟩
  have B5_0 : Blk w5 (w.heap.size) _ := B4_0.mod hm5.toMod (by show ¬ _ = b; omega)
  obtain ⟨z5_0, c5_0, f5_0⟩ := id B5_0
  have B5_1 : Blk w5 (w.heap.size + 1) _ := B4_1.mod hm5.toMod (by show ¬ _ = b; omega)
  obtain ⟨z5_1, c5_1, f5_1⟩ := id B5_1
  rw [HM1.out] at hT5
  go_wp2_with fail
  refine wp_fresh ?_
  rintro w6 hb6
  have B6_0 : Blk w6 (w.heap.size) _ := Blk.below (by repeat (with_reducible (first | assumption | (apply Blk.at; simp; done) | apply Blk.alloc | apply Blk.drew | apply Blk.drewN | apply Blk.more | apply Blk.put | (apply Blk.far; focus (first | assumption | (apply Ne.symm; assumption) | (simp; done) | (simp <;> omega)))))) hb6
  obtain ⟨z6_0, c6_0, f6_0⟩ := id B6_0
  have B6_1 : Blk w6 (w.heap.size + 1) _ := Blk.below (by repeat (with_reducible (first | assumption | (apply Blk.at; simp; done) | apply Blk.alloc | apply Blk.drew | apply Blk.drewN | apply Blk.more | apply Blk.put | (apply Blk.far; focus (first | assumption | (apply Ne.symm; assumption) | (simp; done) | (simp <;> omega)))))) hb6
  obtain ⟨z6_1, c6_1, f6_1⟩ := id B6_1
  have hT6 : Tab w6 b n 17 M1 := ((show Tab _ b n 17 M1 from (by repeat (with_reducible (first | assumption | apply Tab.alloc | apply Tab.drew | apply Tab.drewN | apply Tab.more | (apply Tab.far; focus (first | assumption | (apply Ne.symm; assumption) | (simp; done) | (simp <;> omega)))))))).below hb6
  have ms6 : w.heap.size ≤ w6.heap.size := (show Mds (· = b) w w6 from (by repeat (with_reducible (first | exact Mds.refl _ _ | assumption | apply Mds.drew | apply Mds.drewN | apply Mds.alloc | apply Mds.more | (refine Mds.set ?_ (Or.inl rfl)) | (refine Mds.set ?_ (Or.inr (by omega))) | (refine Mds.below ?_ (by assumption)) | (refine Mds.trans ?_ (by assumption)))))).size
  refine region_grow (A := ?A7) 9 [13] (fun _ => #[.int .i64 0, .int .i64 0, .int .i64 0]) (by kernel_rfl) (by kernel_rfl) ?hrun7 ?hq7 ?htail7
  case hq7 =>
    intro w0 hb0
    simp only [List.take_succ_cons, List.take_zero]
    have B0_0 : Blk w0 _ _ := B6_0.below hb0
    obtain ⟨z0_0, c0_0, f0_0⟩ := id B0_0
    have B0_1 : Blk w0 _ _ := B6_1.below hb0
    obtain ⟨z0_1, c0_1, f0_1⟩ := id B0_1
    have hT0_ : Tab w0 b n 17 M1 := hT6.below hb0
    have bk9 := hT0_.cell hk (j := 9) (by decide)
    have bi9 := hT0_.cell hi (j := 9) (by decide)
    have bk10 := hT0_.cell hk (j := 10) (by decide)
    have bi10 := hT0_.cell hi (j := 10) (by decide)
    have bk11 := hT0_.cell hk (j := 11) (by decide)
    have bi11 := hT0_.cell hi (j := 11) (by decide)
    have bz := hT0_.lt
    repeat (go_big_quiet_step ((go_at_call 39; exact calls_after (minus_c _ _ _ _ _ _ _))))
    refine wpQuiet_nil ?_
    rfl
  case hrun7 =>
    intro j hj
    match j, hj with
    | 0, _ => exact ⟨_, _, rfl, fun a w => by simp [go_sem]; rfl⟩
  case htail7 =>
    intro gs w7 hb7 hblk hne
    obtain ⟨G7_0, hg7_0⟩ := hblk 0 (by decide)
    simp only [List.drop_succ_cons, List.drop_zero, List.length_cons, List.length_nil, laySlots]
    clear hblk hne
    generalize gs 0 = g7_0 at *
    have B7_0 : Blk w7 _ _ := B6_0.below hb7
    obtain ⟨z7_0, c7_0, f7_0⟩ := id B7_0
    have B7_1 : Blk w7 _ _ := B6_1.below hb7
    obtain ⟨z7_1, c7_1, f7_1⟩ := id B7_1
    obtain ⟨zg7_0, cg7_0, fg7_0⟩ := id G7_0
    have ne7_0_0 : g7_0 ≠ w.heap.size := by omega
    have ne7_0_1 : g7_0 ≠ w.heap.size + 1 := by omega
    have hT7 : Tab w7 b n 17 M1 := hT6.below hb7
    have nt7_0 : g7_0 ≠ b := by have := hT6.lt; omega
    go_wp2_with fail
    refine wp_fresh ?_
    rintro w8 hb8
    have B8_0 : Blk w8 (w.heap.size) _ := Blk.below (by repeat (with_reducible (first | assumption | (apply Blk.at; simp; done) | apply Blk.alloc | apply Blk.drew | apply Blk.drewN | apply Blk.more | apply Blk.put | (apply Blk.far; focus (first | assumption | (apply Ne.symm; assumption) | (simp; done) | (simp <;> omega)))))) hb8
    obtain ⟨z8_0, c8_0, f8_0⟩ := id B8_0
    have B8_1 : Blk w8 (w.heap.size + 1) _ := Blk.below (by repeat (with_reducible (first | assumption | (apply Blk.at; simp; done) | apply Blk.alloc | apply Blk.drew | apply Blk.drewN | apply Blk.more | apply Blk.put | (apply Blk.far; focus (first | assumption | (apply Ne.symm; assumption) | (simp; done) | (simp <;> omega)))))) hb8
    obtain ⟨z8_1, c8_1, f8_1⟩ := id B8_1
    have B8_2 : Blk w8 (g7_0) _ := Blk.below (by repeat (with_reducible (first | assumption | (apply Blk.at; simp; done) | apply Blk.alloc | apply Blk.drew | apply Blk.drewN | apply Blk.more | apply Blk.put | (apply Blk.far; focus (first | assumption | (apply Ne.symm; assumption) | (simp; done) | (simp <;> omega)))))) hb8
    try simp only [List.setIfInBounds_toArray, List.set_cons_zero, List.set_cons_succ] at B8_2
    obtain ⟨z8_2, c8_2, f8_2⟩ := id B8_2
    have hT8 : Tab w8 b n 17 M1 := ((show Tab _ b n 17 M1 from (by repeat (with_reducible (first | assumption | apply Tab.alloc | apply Tab.drew | apply Tab.drewN | apply Tab.more | (apply Tab.far; focus (first | assumption | (apply Ne.symm; assumption) | (simp; done) | (simp <;> omega)))))))).below hb8
    have ms8 : w.heap.size ≤ w8.heap.size := (show Mds (· = b) w w8 from (by repeat (with_reducible (first | exact Mds.refl _ _ | assumption | apply Mds.drew | apply Mds.drewN | apply Mds.alloc | apply Mds.more | (refine Mds.set ?_ (Or.inl rfl)) | (refine Mds.set ?_ (Or.inr (by omega))) | (refine Mds.below ?_ (by assumption)) | (refine Mds.trans ?_ (by assumption)))))).size
    refine region_grow (A := ?A9) 9 [14] (fun _ => #[.int .i64 0, .int .i64 0, .int .i64 0]) (by kernel_rfl) (by kernel_rfl) ?hrun9 ?hq9 ?htail9
    case hq9 =>
      intro w0 hb0
      simp only [List.take_succ_cons, List.take_zero]
      have B0_0 : Blk w0 _ _ := B8_0.below hb0
      obtain ⟨z0_0, c0_0, f0_0⟩ := id B0_0
      have B0_1 : Blk w0 _ _ := B8_1.below hb0
      obtain ⟨z0_1, c0_1, f0_1⟩ := id B0_1
      have B0_2 : Blk w0 _ _ := B8_2.below hb0
      obtain ⟨z0_2, c0_2, f0_2⟩ := id B0_2
      have hT0_ : Tab w0 b n 17 M1 := hT8.below hb0
      repeat (go_big_quiet_step ((first | (go_at_call 66; exact calls_after (calls_v (dot_c _ _ _ _ _ _ _) HDV.out)) | (go_at_call 40; exact calls_after (times_c _ _ _ _ _)) | (go_at_call 39; exact calls_after (calls_v3 (minus_c _ _ _ _ _ _ _) HS1.out HS2.out HS3.out)))))
      refine wpQuiet_nil ?_
      rfl
    case hrun9 =>
      intro j hj
      match j, hj with
      | 0, _ => exact ⟨_, _, rfl, fun a w => by simp [go_sem]; rfl⟩
    case htail9 =>
      intro gs w9 hb9 hblk hne
      obtain ⟨G9_0, hg9_0⟩ := hblk 0 (by decide)
      simp only [List.drop_succ_cons, List.drop_zero, List.length_cons, List.length_nil, laySlots]
      clear hblk hne
      generalize gs 0 = g9_0 at *
      have B9_0 : Blk w9 _ _ := B8_0.below hb9
      obtain ⟨z9_0, c9_0, f9_0⟩ := id B9_0
      have B9_1 : Blk w9 _ _ := B8_1.below hb9
      obtain ⟨z9_1, c9_1, f9_1⟩ := id B9_1
      have B9_2 : Blk w9 _ _ := B8_2.below hb9
      obtain ⟨z9_2, c9_2, f9_2⟩ := id B9_2
      obtain ⟨zg9_0, cg9_0, fg9_0⟩ := id G9_0
      have ne9_0_0 : g9_0 ≠ w.heap.size := by omega
      have ne9_0_1 : g9_0 ≠ w.heap.size + 1 := by omega
      have ne9_0_2 : g9_0 ≠ g7_0 := by omega
      have hT9 : Tab w9 b n 17 M1 := hT8.below hb9
      have nt9_0 : g9_0 ≠ b := by have := hT8.lt; omega
      go_wp2_with fail
      refine (calls_v (long_c _ _ _ _) HLG.out).mono ?_
      rintro e w10 ⟨rfl, hb10⟩
      have B10_0 : Blk w10 (w.heap.size) _ := Blk.below (by repeat (with_reducible (first | assumption | (apply Blk.at; simp; done) | apply Blk.alloc | apply Blk.drew | apply Blk.drewN | apply Blk.more | apply Blk.put | (apply Blk.far; focus (first | assumption | (apply Ne.symm; assumption) | (simp; done) | (simp <;> omega)))))) hb10
      obtain ⟨z10_0, c10_0, f10_0⟩ := id B10_0
      have B10_1 : Blk w10 (w.heap.size + 1) _ := Blk.below (by repeat (with_reducible (first | assumption | (apply Blk.at; simp; done) | apply Blk.alloc | apply Blk.drew | apply Blk.drewN | apply Blk.more | apply Blk.put | (apply Blk.far; focus (first | assumption | (apply Ne.symm; assumption) | (simp; done) | (simp <;> omega)))))) hb10
      obtain ⟨z10_1, c10_1, f10_1⟩ := id B10_1
      have B10_2 : Blk w10 (g7_0) _ := Blk.below (by repeat (with_reducible (first | assumption | (apply Blk.at; simp; done) | apply Blk.alloc | apply Blk.drew | apply Blk.drewN | apply Blk.more | apply Blk.put | (apply Blk.far; focus (first | assumption | (apply Ne.symm; assumption) | (simp; done) | (simp <;> omega)))))) hb10
      obtain ⟨z10_2, c10_2, f10_2⟩ := id B10_2
      have B10_3 : Blk w10 (g9_0) _ := Blk.below (by repeat (with_reducible (first | assumption | (apply Blk.at; simp; done) | apply Blk.alloc | apply Blk.drew | apply Blk.drewN | apply Blk.more | apply Blk.put | (apply Blk.far; focus (first | assumption | (apply Ne.symm; assumption) | (simp; done) | (simp <;> omega)))))) hb10
      try simp only [List.setIfInBounds_toArray, List.set_cons_zero, List.set_cons_succ] at B10_3
      obtain ⟨z10_3, c10_3, f10_3⟩ := id B10_3
      have hT10 : Tab w10 b n 17 M1 := ((show Tab _ b n 17 M1 from (by repeat (with_reducible (first | assumption | apply Tab.alloc | apply Tab.drew | apply Tab.drewN | apply Tab.more | (apply Tab.far; focus (first | assumption | (apply Ne.symm; assumption) | (simp; done) | (simp <;> omega)))))))).below hb10
      go_wp2_with fail
      refine wp_fresh ?_
      rintro w11 hb11
      have B11_0 : Blk w11 (w.heap.size) _ := Blk.below (by repeat (with_reducible (first | assumption | (apply Blk.at; simp; done) | apply Blk.alloc | apply Blk.drew | apply Blk.drewN | apply Blk.more | apply Blk.put | (apply Blk.far; focus (first | assumption | (apply Ne.symm; assumption) | (simp; done) | (simp <;> omega)))))) hb11
      obtain ⟨z11_0, c11_0, f11_0⟩ := id B11_0
      have B11_1 : Blk w11 (w.heap.size + 1) _ := Blk.below (by repeat (with_reducible (first | assumption | (apply Blk.at; simp; done) | apply Blk.alloc | apply Blk.drew | apply Blk.drewN | apply Blk.more | apply Blk.put | (apply Blk.far; focus (first | assumption | (apply Ne.symm; assumption) | (simp; done) | (simp <;> omega)))))) hb11
      obtain ⟨z11_1, c11_1, f11_1⟩ := id B11_1
      have B11_2 : Blk w11 (g7_0) _ := Blk.below (by repeat (with_reducible (first | assumption | (apply Blk.at; simp; done) | apply Blk.alloc | apply Blk.drew | apply Blk.drewN | apply Blk.more | apply Blk.put | (apply Blk.far; focus (first | assumption | (apply Ne.symm; assumption) | (simp; done) | (simp <;> omega)))))) hb11
      obtain ⟨z11_2, c11_2, f11_2⟩ := id B11_2
      have B11_3 : Blk w11 (g9_0) _ := Blk.below (by repeat (with_reducible (first | assumption | (apply Blk.at; simp; done) | apply Blk.alloc | apply Blk.drew | apply Blk.drewN | apply Blk.more | apply Blk.put | (apply Blk.far; focus (first | assumption | (apply Ne.symm; assumption) | (simp; done) | (simp <;> omega)))))) hb11
      obtain ⟨z11_3, c11_3, f11_3⟩ := id B11_3
      have hT11 : Tab w11 b n 17 M1 := ((show Tab _ b n 17 M1 from (by repeat (with_reducible (first | assumption | apply Tab.alloc | apply Tab.drew | apply Tab.drewN | apply Tab.more | (apply Tab.far; focus (first | assumption | (apply Ne.symm; assumption) | (simp; done) | (simp <;> omega)))))))).below hb11
      refine region_quiet_but 15 (by kernel_rfl) (by kernel_rfl) ?_
      simp only [List.take_succ_cons, List.take_zero, List.drop_succ_cons, List.drop_zero]
      repeat (go_big_quiet_step (first | (go_at_call 69; exact calls_after (unit_c _ _ _ _)) | (go_at_call 41; exact calls_after_same (calls_v (mul_c _ _ _) HMJ.out)) | (go_at_call 37; exact calls_after_drewN (calls_v (div_c _ _ _) HDJ.out))))
      refine wpQuiet_nil ?_
      rintro w12 hw12
      have hb12 := after_below hw12
      clear hw12
      have B12_0 : Blk w12 (w.heap.size) _ := Blk.below (by repeat (with_reducible (first | assumption | (apply Blk.at; simp; done) | apply Blk.alloc | apply Blk.drew | apply Blk.drewN | apply Blk.more | apply Blk.put | (apply Blk.far; focus (first | assumption | (apply Ne.symm; assumption) | (simp; done) | (simp <;> omega)))))) hb12
      obtain ⟨z12_0, c12_0, f12_0⟩ := id B12_0
      have B12_1 : Blk w12 (w.heap.size + 1) _ := Blk.below (by repeat (with_reducible (first | assumption | (apply Blk.at; simp; done) | apply Blk.alloc | apply Blk.drew | apply Blk.drewN | apply Blk.more | apply Blk.put | (apply Blk.far; focus (first | assumption | (apply Ne.symm; assumption) | (simp; done) | (simp <;> omega)))))) hb12
      obtain ⟨z12_1, c12_1, f12_1⟩ := id B12_1
      have B12_2 : Blk w12 (g7_0) _ := Blk.below (by repeat (with_reducible (first | assumption | (apply Blk.at; simp; done) | apply Blk.alloc | apply Blk.drew | apply Blk.drewN | apply Blk.more | apply Blk.put | (apply Blk.far; focus (first | assumption | (apply Ne.symm; assumption) | (simp; done) | (simp <;> omega)))))) hb12
      obtain ⟨z12_2, c12_2, f12_2⟩ := id B12_2
      have B12_3 : Blk w12 (g9_0) _ := Blk.below (by repeat (with_reducible (first | assumption | (apply Blk.at; simp; done) | apply Blk.alloc | apply Blk.drew | apply Blk.drewN | apply Blk.more | apply Blk.put | (apply Blk.far; focus (first | assumption | (apply Ne.symm; assumption) | (simp; done) | (simp <;> omega)))))) hb12
      obtain ⟨z12_3, c12_3, f12_3⟩ := id B12_3
      have hT12 : Tab w12 b n 17 M1 := ((show Tab _ b n 17 M1 from (by repeat (with_reducible (first | assumption | apply Tab.alloc | apply Tab.drew | apply Tab.drewN | apply Tab.more | (apply Tab.far; focus (first | assumption | (apply Ne.symm; assumption) | (simp; done) | (simp <;> omega)))))))).below hb12
      go_wp2_with fail
      refine calls_here ?_
      rintro w13 hb13
      have B13_0 : Blk w13 (w.heap.size) _ := Blk.below (by repeat (with_reducible (first | assumption | (apply Blk.at; simp; done) | apply Blk.alloc | apply Blk.drew | apply Blk.drewN | apply Blk.more | apply Blk.put | (apply Blk.far; focus (first | assumption | (apply Ne.symm; assumption) | (simp; done) | (simp <;> omega)))))) hb13
      obtain ⟨z13_0, c13_0, f13_0⟩ := id B13_0
      have B13_1 : Blk w13 (w.heap.size + 1) _ := Blk.below (by repeat (with_reducible (first | assumption | (apply Blk.at; simp; done) | apply Blk.alloc | apply Blk.drew | apply Blk.drewN | apply Blk.more | apply Blk.put | (apply Blk.far; focus (first | assumption | (apply Ne.symm; assumption) | (simp; done) | (simp <;> omega)))))) hb13
      obtain ⟨z13_1, c13_1, f13_1⟩ := id B13_1
      have B13_2 : Blk w13 (g7_0) _ := Blk.below (by repeat (with_reducible (first | assumption | (apply Blk.at; simp; done) | apply Blk.alloc | apply Blk.drew | apply Blk.drewN | apply Blk.more | apply Blk.put | (apply Blk.far; focus (first | assumption | (apply Ne.symm; assumption) | (simp; done) | (simp <;> omega)))))) hb13
      obtain ⟨z13_2, c13_2, f13_2⟩ := id B13_2
      have B13_3 : Blk w13 (g9_0) _ := Blk.below (by repeat (with_reducible (first | assumption | (apply Blk.at; simp; done) | apply Blk.alloc | apply Blk.drew | apply Blk.drewN | apply Blk.more | apply Blk.put | (apply Blk.far; focus (first | assumption | (apply Ne.symm; assumption) | (simp; done) | (simp <;> omega)))))) hb13
      obtain ⟨z13_3, c13_3, f13_3⟩ := id B13_3
      have hT13 : Tab w13 b n 17 M1 := ((show Tab _ b n 17 M1 from (by repeat (with_reducible (first | assumption | apply Tab.alloc | apply Tab.drew | apply Tab.drewN | apply Tab.more | (apply Tab.far; focus (first | assumption | (apply Ne.symm; assumption) | (simp; done) | (simp <;> omega)))))))).below hb13
      with_reducible refine (give_c M1 b n i k (unit1 s1 s2 s3) (unit2 s1 s2 s3) (unit3 s1 s2 s3) (-min mj dj) x y _ hT13 hi hk _hne).mono ?_
      rintro e w14 ⟨rfl, hT14, hm14⟩
      go_wp2
      go_end0
      exact ⟨rfl, (by repeat (with_reducible (first | assumption | apply Tab.alloc | apply Tab.drew | apply Tab.drewN | apply Tab.more | (apply Tab.far; focus (first | assumption | (apply Ne.symm; assumption) | (simp; done) | (simp <;> omega)))))), (by repeat (with_reducible (first | exact Mds.refl _ _ | assumption | apply Mds.drew | apply Mds.drewN | apply Mds.alloc | apply Mds.more | (refine Mds.set ?_ (Or.inl rfl)) | (refine Mds.set ?_ (Or.inr (by omega))) | (refine Mds.below ?_ (by assumption)) | (refine Mds.trans ?_ (by assumption)))))⟩

theorem push_c (M : Nat → Nat → Int) (b n i k : Nat) (tA tB g1 g2 g3 dp bo ru ro : Int) (w : World) (hT : Tab w b n 17 M) (hi : i < n) (hk : k < n) (hne : i ≠ k) (hbo : 0 ≤ bo ∧ bo ≤ 65536) :
    Calls Tryz.prog 35 #[.pointer (some ⟨b, i * 17, none⟩), .pointer (some ⟨b, k * 17, none⟩), .agg #[.int .i64 tA, .int .i64 tB, .int .i64 g1, .int .i64 g2, .int .i64 g3, .int .i64 dp], .agg #[.int .i64 bo, .int .i64 ru, .int .i64 ro]] w fun e w' => e = .returned (.tuple #[]) ∧ Tab w' b n 17 (pushM M i k g1 g2 g3 bo ru) ∧ Mds (· = b) w w' := by
  by_cases h1 : add (light (M i 15)) (light (M k 15)) = 0
  · rw [push_none rfl rfl rfl rfl (Or.inl h1)]
    exact push_A M b n i k tA tB g1 g2 g3 dp bo ru ro _ _ _ _ w hT hi hk hne hbo (Lib.hid rfl) (Lib.hid rfl) (Lib.hid rfl) (Lib.hid rfl) h1
  have h1' : (add (light (M i 15)) (light (M k 15)) == 0) = false := by simpa using h1
  by_cases h2 : 0 ≤ (dot (sub (M k 9) (M i 9)) (sub (M k 10) (M i 10)) (sub (M k 11) (M i 11)) g1 g2 g3)
  · rw [push_none rfl rfl rfl rfl (Or.inr h2)]
    exact push_B M b n i k tA tB g1 g2 g3 dp bo ru ro _ _ _ _ w hT hi hk hne hbo (Lib.hid rfl) (Lib.hid rfl) (Lib.hid rfl) (Lib.hid rfl) h1' h2
  rw [push_some rfl rfl rfl rfl h1' h2 rfl rfl rfl rfl rfl rfl rfl]
  unfold endM
  split
  · next h3 => exact push_D M b n i k tA tB g1 g2 g3 dp bo ru ro _ _ _ _ _ _ _ _ _ _ _ _ _ w hT hi hk hne hbo (Lib.hid rfl) (Lib.hid rfl) (Lib.hid rfl) (Lib.hid rfl) h1' h2 (Lib.hid rfl) (Lib.hid rfl) (Lib.hid rfl) (Lib.hid rfl) (Lib.hid rfl) (Lib.hid rfl) (Lib.hid rfl) h3 (Lib.hid rfl) (Lib.hid rfl)
  · next h3 => exact push_C M b n i k tA tB g1 g2 g3 dp bo ru ro _ _ _ _ _ _ _ _ _ _ _ w hT hi hk hne hbo (Lib.hid rfl) (Lib.hid rfl) (Lib.hid rfl) (Lib.hid rfl) h1' h2 (Lib.hid rfl) (Lib.hid rfl) (Lib.hid rfl) (Lib.hid rfl) (Lib.hid rfl) (Lib.hid rfl) (Lib.hid rfl) h3

end Go.Proofs.YtniahipadfgkbaaGreat
