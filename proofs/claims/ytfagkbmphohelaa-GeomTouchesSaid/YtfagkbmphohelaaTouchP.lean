/- Laws of touches in plain numbers: no program in sight. Conditions: none. -/
import Derived.Test.YtfagkbmphohelaaTouch4
namespace Go.Proofs.Ytfagkbmphohelaa
open Go.ChangeShapes Go.WideShapes Go.ChangeAt Go.RowKit Go.BigFrame
theorem cut_mono {a b : Int} (h : a ≤ b) : cut a ≤ cut b := by unfold cut; repeat' split <;> omega
theorem cut_zero {n : Int} (h : cut n = 0) : n = 0 := by unfold cut at h; repeat' split at h <;> omega
theorem cut_pos {n : Int} (h : 0 < n) : 0 < cut n := by unfold cut; repeat' split <;> omega
theorem cut_nn {n : Int} (h : 0 ≤ n) : 0 ≤ cut n := by unfold cut; repeat' split <;> omega

/-! ### bounds -/
theorem unit_bd (a b c : Int) : (-70368744177664 ≤ unit1 a b c ∧ unit1 a b c ≤ 70368744177664) ∧ (-70368744177664 ≤ unit2 a b c ∧ unit2 a b c ≤ 70368744177664) ∧ (-70368744177664 ≤ unit3 a b c ∧ unit3 a b c ≤ 70368744177664) := by
  unfold unit1 unit2 unit3
  have h1 := div_bd a (long a b c)
  have h2 := div_bd b (long a b c)
  have h3 := div_bd c (long a b c)
  split <;> omega
/-- a way within bounds -/
def WB (T : Int × Int × Int × Int) : Prop := (-70368744177664 ≤ T.1 ∧ T.1 ≤ 70368744177664) ∧ (-70368744177664 ≤ T.2.1 ∧ T.2.1 ≤ 70368744177664) ∧ (-70368744177664 ≤ T.2.2.1 ∧ T.2.2.1 ≤ 70368744177664)
theorem tryS_wb {v1 v2 v3 d : Int} {s : Int × Int × Int × Int} (h1 : -65536 ≤ v1 ∧ v1 ≤ 65536) (h2 : -65536 ≤ v2 ∧ v2 ≤ 65536) (h3 : -65536 ≤ v3 ∧ v3 ≤ 65536) (h : WB s) : WB (tryS v1 v2 v3 d s) := by
  unfold WB tryS pk at *
  obtain ⟨a, b, c⟩ := h
  simp only
  split <;> omega
theorem outT_wb (a1 a2 a3 a4 a5 a6 b1 b2 b3 b4 b5 b6 : Int) : WB (outT a1 a2 a3 a4 a5 a6 b1 b2 b3 b4 b5 b6) := by
  unfold outT
  repeat refine tryS_wb (by omega) (by omega) (by omega) ?_
  unfold WB; simp
theorem ballN_wb (r a b c : Int) : WB (ballN r a b c) := unit_bd a b c
theorem ballT_wb (r p1 p2 p3 b1 b2 b3 b4 b5 b6 : Int) : WB (ballT r p1 p2 p3 b1 b2 b3 b4 b5 b6) := by
  unfold ballT
  split
  · exact outT_wb p1 p2 p3 p1 p2 p3 b1 b2 b3 b4 b5 b6
  · exact ballN_wb _ _ _ _
theorem t_bd {T : Int × Int × Int × Int} (h : WB T) : (-70368744177664 ≤ tx T ∧ tx T ≤ 70368744177664) ∧ (-70368744177664 ≤ ty T ∧ ty T ≤ 70368744177664) ∧ (-70368744177664 ≤ tz T ∧ tz T ≤ 70368744177664) := by
  obtain ⟨a, b, c⟩ := h
  unfold tx ty tz
  split <;> omega

/-! ### the depth of the way out -/
theorem tryS_nn {v1 v2 v3 d : Int} {s : Int × Int × Int × Int} (hd : 0 ≤ d) (h : 0 ≤ s.2.2.2) : 0 ≤ (tryS v1 v2 v3 d s).2.2.2 := by unfold tryS pk; simp only; split <;> omega
theorem tryS_le {v1 v2 v3 d : Int} {s : Int × Int × Int × Int} : (tryS v1 v2 v3 d s).2.2.2 ≤ d ∧ (tryS v1 v2 v3 d s).2.2.2 ≤ s.2.2.2 := by unfold tryS pk; simp only; split <;> omega
theorem outT_le (a1 a2 a3 a4 a5 a6 b1 b2 b3 b4 b5 b6 : Int) : (outT a1 a2 a3 a4 a5 a6 b1 b2 b3 b4 b5 b6).2.2.2 ≤ 70368744177664 := by
  have h := (sub_bd a4 b1).2
  unfold outT
  exact Int.le_trans tryS_le.2 (Int.le_trans tryS_le.2 (Int.le_trans tryS_le.2 (Int.le_trans tryS_le.2 (Int.le_trans tryS_le.2 (Int.le_trans tryS_le.1 h)))))
/-- in one direction: the middle is between the sides, so both ways out are not below 0 -/
theorem in_dir {p l h : Int} (hl : -70368744177664 ≤ l ∧ l ≤ 70368744177664) (hh : -70368744177664 ≤ h ∧ h ≤ 70368744177664) (hlh : l ≤ h) (hz : sub (max l (min h p)) p = 0) : 0 ≤ sub p l ∧ 0 ≤ sub h p := by
  unfold sub at *
  have e := cut_zero hz
  have hm : cut (max l (min h p)) = max l (min h p) := cut_in (by omega) (by omega)
  have e1 : cut l = l := cut_in hl.1 hl.2
  have e2 : cut h = h := cut_in hh.1 hh.2
  rw [hm] at e
  rw [e1, e2]
  exact ⟨cut_nn (by omega), cut_nn (by omega)⟩
theorem box_dir {q h : Int} (hh : 1 ≤ h) : (-70368744177664 ≤ sub q h ∧ sub q h ≤ 70368744177664) ∧ (-70368744177664 ≤ add q h ∧ add q h ≤ 70368744177664) ∧ sub q h ≤ add q h := by
  refine ⟨sub_bd q h, add_bd q h, ?_⟩
  unfold sub add
  have := cut_pos (n := h) (by omega)
  exact cut_mono (by omega)
theorem szB_le {n : Int} (h : szB n = true) : 1 ≤ n ∧ n ≤ 3276800 := by unfold szB at h; simpa using h
/-- sizes that may be: each half is at least 1 -/
theorem shape_hf {k x y z : Int} (h : shapeB k x y z = true) : (k = 1 ∨ k = 2) ∧ 1 ≤ x ∧ x ≤ 3276800 ∧ 1 ≤ hf k x x ∧ 1 ≤ hf k x y ∧ 1 ≤ hf k x z := by
  unfold shapeB at h
  unfold hf
  by_cases h1 : k = 1
  · rw [if_pos h1] at h
    have hx := szB_le (n := x) (by simp only [Bool.and_eq_true] at h; exact h.1.1)
    simp only [if_pos h1]
    omega
  · rw [if_neg h1] at h
    by_cases h2 : k = 2
    · rw [if_pos h2] at h
      simp only [Bool.and_eq_true] at h
      have hx := szB_le h.1.1
      have hy := szB_le h.1.2
      have hz := szB_le h.2
      simp only [if_neg h1]
      omega
    · rw [if_neg h2] at h; cases h
/-- a middle in a box: the way out, and the radius, are more than 0 -/
theorem ball_deep {r p1 p2 p3 q1 q2 q3 h1 h2 h3 : Int} (hr : 1 ≤ r ∧ r ≤ 3276800) (g1 : 1 ≤ h1) (g2 : 1 ≤ h2) (g3 : 1 ≤ h3)
    (hin : inB p1 p2 p3 (sub q1 h1) (sub q2 h2) (sub q3 h3) (add q1 h1) (add q2 h2) (add q3 h3) = true) :
    0 < add (outT p1 p2 p3 p1 p2 p3 (sub q1 h1) (sub q2 h2) (sub q3 h3) (add q1 h1) (add q2 h2) (add q3 h3)).2.2.2 r := by
  unfold inB at hin
  simp only [Bool.and_eq_true, beq_iff_eq] at hin
  obtain ⟨⟨e1, e2⟩, e3⟩ := hin
  obtain ⟨a1, b1, c1⟩ := box_dir (q := q1) g1
  obtain ⟨a2, b2, c2⟩ := box_dir (q := q2) g2
  obtain ⟨a3, b3, c3⟩ := box_dir (q := q3) g3
  obtain ⟨x1, y1⟩ := in_dir a1 b1 c1 e1
  obtain ⟨x2, y2⟩ := in_dir a2 b2 c2 e2
  obtain ⟨x3, y3⟩ := in_dir a3 b3 c3 e3
  have hle := outT_le p1 p2 p3 p1 p2 p3 (sub q1 h1) (sub q2 h2) (sub q3 h3) (add q1 h1) (add q2 h2) (add q3 h3)
  have hnn : 0 ≤ (outT p1 p2 p3 p1 p2 p3 (sub q1 h1) (sub q2 h2) (sub q3 h3) (add q1 h1) (add q2 h2) (add q3 h3)).2.2.2 := by
    unfold outT
    exact tryS_nn y3 (tryS_nn x3 (tryS_nn y2 (tryS_nn x2 (tryS_nn y1 (tryS_nn x1 (by decide))))))
  generalize (outT p1 p2 p3 p1 p2 p3 (sub q1 h1) (sub q2 h2) (sub q3 h3) (add q1 h1) (add q2 h2) (add q3 h3)).2.2.2 = d at *
  unfold add
  exact cut_pos (by rw [cut_in (n := d) (by omega) (by omega), cut_in (n := r) (by omega) (by omega)]; omega)

/-! ### touches -/
def blocksT (a1 a2 a3 a4 a5 a6 b1 b2 b3 b4 b5 b6 : Int) : Int × Int × Int × Int := if meetB a1 a2 a3 a4 a5 a6 b1 b2 b3 b4 b5 b6 then outT a1 a2 a3 a4 a5 a6 b1 b2 b3 b4 b5 b6 else (0, 0, 0, 0)
def ballsT (r p1 p2 p3 s q1 q2 q3 : Int) : Int × Int × Int × Int := (unit1 (sub q1 p1) (sub q2 p2) (sub q3 p3), unit2 (sub q1 p1) (sub q2 p2) (sub q3 p3), unit3 (sub q1 p1) (sub q2 p2) (sub q3 p3), deepB r s (sub q1 p1) (sub q2 p2) (sub q3 p3))
/-- a ball and a shape -/
def ballAt (r p1 p2 p3 k x y z q1 q2 q3 : Int) : Int × Int × Int × Int := ballT r p1 p2 p3 (sub q1 (hf k x x)) (sub q2 (hf k x y)) (sub q3 (hf k x z)) (add q1 (hf k x x)) (add q2 (hf k x y)) (add q3 (hf k x z))
def blocksAt (k x y z p1 p2 p3 k' x' y' z' q1 q2 q3 : Int) : Int × Int × Int × Int := blocksT (sub p1 (hf k x x)) (sub p2 (hf k x y)) (sub p3 (hf k x z)) (add p1 (hf k x x)) (add p2 (hf k x y)) (add p3 (hf k x z)) (sub q1 (hf k' x' x')) (sub q2 (hf k' x' y')) (sub q3 (hf k' x' z')) (add q1 (hf k' x' x')) (add q2 (hf k' x' y')) (add q3 (hf k' x' z'))
def negT (T : Int × Int × Int × Int) : Int × Int × Int × Int := (-T.1, -T.2.1, -T.2.2.1, T.2.2.2)
theorem negT_t (T : Int × Int × Int × Int) : tx (negT T) = -tx T ∧ ty (negT T) = -ty T ∧ tz (negT T) = -tz T ∧ td (negT T) = td T ∧ tk (negT T) = tk T := by
  unfold tx ty tz td tk negT
  simp only
  split <;> simp
theorem tup_neg (T : Int × Int × Int × Int) : tup (negT T) = .tuple #[.agg #[.int .i64 (-tx T), .int .i64 (-ty T), .int .i64 (-tz T)], .int .i64 (td T), .bool (tk T)] := by
  obtain ⟨h1, h2, h3, h4, h5⟩ := negT_t T
  unfold tup
  rw [h1, h2, h3, h4, h5]
def touchT (k x y z p1 p2 p3 k' x' y' z' q1 q2 q3 : Int) : Int × Int × Int × Int :=
  if k = 1 then (if k' = 1 then ballsT x p1 p2 p3 x' q1 q2 q3 else ballAt x p1 p2 p3 k' x' y' z' q1 q2 q3) else (if k' = 1 then negT (ballAt x' q1 q2 q3 k x y z p1 p2 p3) else blocksAt k x y z p1 p2 p3 k' x' y' z' q1 q2 q3)
theorem tri_tup (x y z d : Int) : tri x y z d = tup (x, y, z, d) := by
  by_cases h : d ≤ 0
  · rw [tup_no h]; unfold tri; rw [if_pos h]
  · rw [tup_yes (by simp only; omega)]; unfold tri; rw [if_neg h]
theorem balls_t (r p1 p2 p3 s q1 q2 q3 : Int) (w : World) : Calls Try.prog 110 #[.int .i64 r, .agg #[.int .i64 p1, .int .i64 p2, .int .i64 p3], .int .i64 s, .agg #[.int .i64 q1, .int .i64 q2, .int .i64 q3]] w fun e w' => e = .returned (tup (ballsT r p1 p2 p3 s q1 q2 q3)) ∧ Below w.heap.size w w' := by
  have h := balls_c r p1 p2 p3 s q1 q2 q3 w
  unfold ballsV at h
  rw [tri_tup] at h
  exact h
theorem blocks_t (a1 a2 a3 a4 a5 a6 b1 b2 b3 b4 b5 b6 : Int) (w : World) : Calls Try.prog 112 #[.agg #[.int .i64 a1, .int .i64 a2, .int .i64 a3, .int .i64 a4, .int .i64 a5, .int .i64 a6], .agg #[.int .i64 b1, .int .i64 b2, .int .i64 b3, .int .i64 b4, .int .i64 b5, .int .i64 b6]] w fun e w' => e = .returned (tup (blocksT a1 a2 a3 a4 a5 a6 b1 b2 b3 b4 b5 b6)) ∧ Below w.heap.size w w' := by
  unfold blocksT
  by_cases hm : meetB a1 a2 a3 a4 a5 a6 b1 b2 b3 b4 b5 b6 = true
  · rw [if_pos hm]
    by_cases hd : (outT a1 a2 a3 a4 a5 a6 b1 b2 b3 b4 b5 b6).2.2.2 ≤ 0
    · rw [tup_no hd]; exact blocks_c1 _ _ _ _ _ _ _ _ _ _ _ _ hm hd w
    · rw [tup_yes (by omega)]; exact blocks_c2 _ _ _ _ _ _ _ _ _ _ _ _ hm (by omega) w
  · rw [if_neg hm, tup_no (by simp)]
    exact blocks_c0 _ _ _ _ _ _ _ _ _ _ _ _ (by simpa using hm) w
theorem ballAt_t (r p1 p2 p3 k x y z q1 q2 q3 : Int) (hr : 1 ≤ r ∧ r ≤ 3276800) (hs : shapeB k x y z = true) (w : World) : Calls Try.prog 111 #[.int .i64 r, .agg #[.int .i64 p1, .int .i64 p2, .int .i64 p3], .agg #[.int .i64 (sub q1 (hf k x x)), .int .i64 (sub q2 (hf k x y)), .int .i64 (sub q3 (hf k x z)), .int .i64 (add q1 (hf k x x)), .int .i64 (add q2 (hf k x y)), .int .i64 (add q3 (hf k x z))]] w fun e w' => e = .returned (tup (ballAt r p1 p2 p3 k x y z q1 q2 q3)) ∧ Below w.heap.size w w' := by
  obtain ⟨_, _, _, g1, g2, g3⟩ := shape_hf hs
  exact ball_c r p1 p2 p3 _ _ _ _ _ _ (fun hin => ball_deep hr g1 g2 g3 hin) w
end Go.Proofs.Ytfagkbmphohelaa
