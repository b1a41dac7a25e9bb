/- The contracts of what is done with vectors (package fx, and the document's answers). Conditions: none. -/
import Derived.Test.YtefhmbmbhiehdaaFx2
import Derived.Test.YtefhmbmbhiehdaaQuiet
namespace Go.Proofs.Ytefhmbmbhiehdaa
open Go.ChangeShapes Go.WideShapes Go.ChangeAt Go.RowKit Go.BigFrame

theorem plus_c (a1 a2 a3 b1 b2 b3 : Int) (w : World) : Calls Try.prog 89 #[.agg #[.int .i64 a1, .int .i64 a2, .int .i64 a3], .agg #[.int .i64 b1, .int .i64 b2, .int .i64 b3]] w fun e w' => e = .returned (.agg #[.int .i64 (add a1 b1), .int .i64 (add a2 b2), .int .i64 (add a3 b3)]) ∧ Below w.heap.size w w' := by
  have hmc := more_cell
  have hmf := more_frozen
  have hml := more_lt
  go_enter Try.func89, Try.ntmps89
  go_wp2
  refine region_quiet_but 16 (by kernel_rfl) (by kernel_rfl) ?_
  simp only [List.take_succ_cons, List.take_zero, List.drop_succ_cons, List.drop_zero]
  repeat (go_big_quiet_step ((go_at_call 117; exact calls_after_same (add_c _ _ _))))
  refine wpQuiet_nil ?_
  rintro _ ⟨m, rfl⟩
  go_wp2
  exact bodyPost_ret (v := .agg #[.int .i64 (add a1 b1), .int .i64 (add a2 b2), .int .i64 (add a3 b3)]) (by simp [results, Try.results89, go_sem, *]) rfl ⟨rfl, (by repeat (first | exact Below.refl _ _ | assumption | apply ext_drew | (refine ext_below ?_ (by assumption)) | apply ext_drewN | apply ext_alloc | apply ext_more | (refine ext_setCell ?_ (by simp <;> omega) _)))⟩

theorem minus_c (a1 a2 a3 b1 b2 b3 : Int) (w : World) : Calls Try.prog 87 #[.agg #[.int .i64 a1, .int .i64 a2, .int .i64 a3], .agg #[.int .i64 b1, .int .i64 b2, .int .i64 b3]] w fun e w' => e = .returned (.agg #[.int .i64 (sub a1 b1), .int .i64 (sub a2 b2), .int .i64 (sub a3 b3)]) ∧ Below w.heap.size w w' := by
  have hmc := more_cell
  have hmf := more_frozen
  have hml := more_lt
  go_enter Try.func87, Try.ntmps87
  go_wp2
  refine region_quiet_but 16 (by kernel_rfl) (by kernel_rfl) ?_
  simp only [List.take_succ_cons, List.take_zero, List.drop_succ_cons, List.drop_zero]
  repeat (go_big_quiet_step ((go_at_call 116; exact calls_after_same (sub_c _ _ _))))
  refine wpQuiet_nil ?_
  rintro _ ⟨m, rfl⟩
  go_wp2
  exact bodyPost_ret (v := .agg #[.int .i64 (sub a1 b1), .int .i64 (sub a2 b2), .int .i64 (sub a3 b3)]) (by simp [results, Try.results87, go_sem, *]) rfl ⟨rfl, (by repeat (first | exact Below.refl _ _ | assumption | apply ext_drew | (refine ext_below ?_ (by assumption)) | apply ext_drewN | apply ext_alloc | apply ext_more | (refine ext_setCell ?_ (by simp <;> omega) _)))⟩

def dot (a1 a2 a3 b1 b2 b3 : Int) : Int := add (add (mul a1 b1) (mul a2 b2)) (mul a3 b3)
def long (a1 a2 a3 : Int) : Int := root (dot a1 a2 a3 a1 a2 a3)

def unit1 (a1 a2 a3 : Int) : Int := if long a1 a2 a3 = 0 then 0 else div a1 (long a1 a2 a3)
def unit2 (a1 a2 a3 : Int) : Int := if long a1 a2 a3 = 0 then 65536 else div a2 (long a1 a2 a3)
def unit3 (a1 a2 a3 : Int) : Int := if long a1 a2 a3 = 0 then 0 else div a3 (long a1 a2 a3)
/-- within m -/
def clampP (m n : Int) : Int := if n > m then m else if n < -m then -m else n
/-- within most -/
def clamp (most n : Int) : Int := clampP (max most 0) n
theorem clampP_bd (m n : Int) (h : 0 ≤ m) : -m ≤ clampP m n ∧ clampP m n ≤ m := by
  unfold clampP; repeat' split <;> omega
theorem clampP_in {m n : Int} (h1 : -m ≤ n) (h2 : n ≤ m) : clampP m n = n := by
  unfold clampP; repeat' split <;> omega
theorem clamp_bd (m n : Int) (h : 0 ≤ m) : -m ≤ clamp m n ∧ clamp m n ≤ m := by
  unfold clamp; rw [show max m 0 = m from by omega]; exact clampP_bd m n h
theorem rv3 {k : IntKind} {a b c a' b' c' : Int} (h1 : a = a') (h2 : b = b') (h3 : c = c') : Ending.returned (.agg #[.int k a, .int k b, .int k c]) = .returned (.agg #[.int k a', .int k b', .int k c']) := by rw [h1, h2, h3]

end Go.Proofs.Ytefhmbmbhiehdaa
