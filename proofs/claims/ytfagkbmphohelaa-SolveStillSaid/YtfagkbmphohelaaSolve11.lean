/- The contracts of Right of both laws. Conditions: none. -/
import Derived.Test.YtfagkbmphohelaaVec
namespace Go.Proofs.Ytfagkbmphohelaa
open Go.ChangeShapes Go.WideShapes Go.ChangeAt Go.RowKit Go.BigFrame
/-- a law that may be -/
def RightL (bo ru ro : Int) : Prop := (0 ≤ bo ∧ bo ≤ 65536) ∧ (0 ≤ ru ∧ ru ≤ 65536) ∧ 1 ≤ ro ∧ ro ≤ 20
instance (bo ru ro : Int) : Decidable (RightL bo ru ro) := inferInstanceAs (Decidable (_ ∧ _))

theorem okl_yes (n : Int) (h0 : 0 ≤ n) (h1 : n ≤ 65536) (w : World) : Calls Try.prog 114 #[.int .i64 n] w fun e w' => e = .returned (.bool true) ∧ w = w' := by
  go_enter Try.func114, Try.ntmps114
  go_wp2
  go_ret
  exact ⟨rfl, rfl⟩
theorem okl_no (n : Int) (h : ¬ (0 ≤ n ∧ n ≤ 65536)) (w : World) : Calls Try.prog 114 #[.int .i64 n] w fun e w' => e = .returned (.bool false) ∧ w = w' := by
  by_cases h0 : 0 ≤ n
  · have h1 : ¬ n ≤ 65536 := fun h1 => h ⟨h0, h1⟩
    go_enter Try.func114, Try.ntmps114
    go_wp2
    go_ret
    exact ⟨rfl, rfl⟩
  · go_enter Try.func114, Try.ntmps114
    go_wp2
    go_ret
    exact ⟨rfl, rfl⟩

set_option maxHeartbeats 2000000 in
theorem right_c (bo ru ro : Int) (w : World) : Calls Try.prog 78 #[.agg #[.int .i64 bo, .int .i64 ru, .int .i64 ro]] w fun e w' => e = .returned (.bool (decide (RightL bo ru ro))) ∧ Below w.heap.size w w' := by
  by_cases hbo : 0 ≤ bo ∧ bo ≤ 65536
  rotate_left
  · have hbo' := hbo
    go_enter Try.func78, Try.ntmps78
    go_wp2_with fail
    refine (okl_no bo hbo' _).mono ?_
    rintro e w' ⟨rfl, rfl⟩
    go_wp2
    go_ret
    exact ⟨by simp [RightL, *], (by repeat (with_reducible (first | exact Below.refl _ _ | assumption | apply ext_drew | apply ext_drewN | apply ext_alloc | apply ext_more | (refine ext_setCell ?_ (by simp <;> omega) _) | (refine ext_below ?_ (by assumption)))))⟩
  by_cases hru : 0 ≤ ru ∧ ru ≤ 65536
  rotate_left
  · have hru' := hru
    go_enter Try.func78, Try.ntmps78
    go_wp2_with fail
    refine (okl_yes bo hbo.1 hbo.2 _).mono ?_
    rintro e w' ⟨rfl, rfl⟩
    go_wp2_with fail
    refine (okl_no ru hru' _).mono ?_
    rintro e w' ⟨rfl, rfl⟩
    go_wp2
    go_ret
    exact ⟨by simp [RightL, *], (by repeat (with_reducible (first | exact Below.refl _ _ | assumption | apply ext_drew | apply ext_drewN | apply ext_alloc | apply ext_more | (refine ext_setCell ?_ (by simp <;> omega) _) | (refine ext_below ?_ (by assumption)))))⟩
  by_cases h1 : 1 ≤ ro
  rotate_left
  · have hf : ¬ RightL bo ru ro := fun h => h1 h.2.2.1
    have hf' : decide (RightL bo ru ro) = false := decide_eq_false hf
    clear hf
    go_enter Try.func78, Try.ntmps78
    go_wp2_with fail
    refine (okl_yes bo hbo.1 hbo.2 _).mono ?_
    rintro e w' ⟨rfl, rfl⟩
    go_wp2_with fail
    refine (okl_yes ru hru.1 hru.2 _).mono ?_
    rintro e w' ⟨rfl, rfl⟩
    go_wp2
    go_ret
    exact ⟨by first | rfl | (rw [hf']; rfl) | (simp; omega) | (rw [hf']; simp; omega), (by repeat (with_reducible (first | exact Below.refl _ _ | assumption | apply ext_drew | apply ext_drewN | apply ext_alloc | apply ext_more | (refine ext_setCell ?_ (by simp <;> omega) _) | (refine ext_below ?_ (by assumption)))))⟩
  by_cases h2 : ro ≤ 20
  rotate_left
  · have hf : ¬ RightL bo ru ro := fun h => h2 h.2.2.2
    have hf' : decide (RightL bo ru ro) = false := decide_eq_false hf
    clear hf
    go_enter Try.func78, Try.ntmps78
    go_wp2_with fail
    refine (okl_yes bo hbo.1 hbo.2 _).mono ?_
    rintro e w' ⟨rfl, rfl⟩
    go_wp2_with fail
    refine (okl_yes ru hru.1 hru.2 _).mono ?_
    rintro e w' ⟨rfl, rfl⟩
    go_wp2
    go_ret
    exact ⟨by first | rfl | (rw [hf']; rfl) | (simp; omega) | (rw [hf']; simp; omega), (by repeat (with_reducible (first | exact Below.refl _ _ | assumption | apply ext_drew | apply ext_drewN | apply ext_alloc | apply ext_more | (refine ext_setCell ?_ (by simp <;> omega) _) | (refine ext_below ?_ (by assumption)))))⟩
  · have hf' : decide (RightL bo ru ro) = true := decide_eq_true ⟨hbo, hru, h1, h2⟩
    go_enter Try.func78, Try.ntmps78
    go_wp2_with fail
    refine (okl_yes bo hbo.1 hbo.2 _).mono ?_
    rintro e w' ⟨rfl, rfl⟩
    go_wp2_with fail
    refine (okl_yes ru hru.1 hru.2 _).mono ?_
    rintro e w' ⟨rfl, rfl⟩
    go_wp2
    go_ret
    exact ⟨by first | rfl | (rw [hf']; rfl) | (simp; omega) | (rw [hf']; simp; omega), (by repeat (with_reducible (first | exact Below.refl _ _ | assumption | apply ext_drew | apply ext_drewN | apply ext_alloc | apply ext_more | (refine ext_setCell ?_ (by simp <;> omega) _) | (refine ext_below ?_ (by assumption)))))⟩

set_option maxHeartbeats 4000000 in
theorem rright_c (bo ru ro : Int) (w : World) : Calls Try.prog 79 #[.agg #[.int .i64 bo, .int .i64 ru, .int .i64 ro]] w fun e w' => e = .returned (.bool (decide (RightL bo ru ro))) ∧ Below w.heap.size w w' := by
  by_cases g1 : 0 ≤ bo
  rotate_left
  · have hf' : decide (RightL bo ru ro) = false := decide_eq_false fun h => g1 h.1.1
    go_enter Try.func79, Try.ntmps79
    go_wp2
    go_ret
    exact ⟨by first | rfl | (rw [hf']; rfl) | (simp; omega) | (rw [hf']; simp; omega), (by repeat (with_reducible (first | exact Below.refl _ _ | assumption | apply ext_drew | apply ext_drewN | apply ext_alloc | apply ext_more | (refine ext_setCell ?_ (by simp <;> omega) _) | (refine ext_below ?_ (by assumption)))))⟩
  by_cases g2 : bo ≤ 65536
  rotate_left
  · have hf' : decide (RightL bo ru ro) = false := decide_eq_false fun h => g2 h.1.2
    go_enter Try.func79, Try.ntmps79
    go_wp2
    go_ret
    exact ⟨by first | rfl | (rw [hf']; rfl) | (simp; omega) | (rw [hf']; simp; omega), (by repeat (with_reducible (first | exact Below.refl _ _ | assumption | apply ext_drew | apply ext_drewN | apply ext_alloc | apply ext_more | (refine ext_setCell ?_ (by simp <;> omega) _) | (refine ext_below ?_ (by assumption)))))⟩
  by_cases g3 : 0 ≤ ru
  rotate_left
  · have hf' : decide (RightL bo ru ro) = false := decide_eq_false fun h => g3 h.2.1.1
    go_enter Try.func79, Try.ntmps79
    go_wp2
    go_ret
    exact ⟨by first | rfl | (rw [hf']; rfl) | (simp; omega) | (rw [hf']; simp; omega), (by repeat (with_reducible (first | exact Below.refl _ _ | assumption | apply ext_drew | apply ext_drewN | apply ext_alloc | apply ext_more | (refine ext_setCell ?_ (by simp <;> omega) _) | (refine ext_below ?_ (by assumption)))))⟩
  by_cases g4 : ru ≤ 65536
  rotate_left
  · have hf' : decide (RightL bo ru ro) = false := decide_eq_false fun h => g4 h.2.1.2
    go_enter Try.func79, Try.ntmps79
    go_wp2
    go_ret
    exact ⟨by first | rfl | (rw [hf']; rfl) | (simp; omega) | (rw [hf']; simp; omega), (by repeat (with_reducible (first | exact Below.refl _ _ | assumption | apply ext_drew | apply ext_drewN | apply ext_alloc | apply ext_more | (refine ext_setCell ?_ (by simp <;> omega) _) | (refine ext_below ?_ (by assumption)))))⟩
  by_cases g5 : 0 < ro
  rotate_left
  · have hf' : decide (RightL bo ru ro) = false := decide_eq_false fun h => g5 h.2.2.1
    go_enter Try.func79, Try.ntmps79
    go_wp2
    go_ret
    exact ⟨by first | rfl | (rw [hf']; rfl) | (simp; omega) | (rw [hf']; simp; omega), (by repeat (with_reducible (first | exact Below.refl _ _ | assumption | apply ext_drew | apply ext_drewN | apply ext_alloc | apply ext_more | (refine ext_setCell ?_ (by simp <;> omega) _) | (refine ext_below ?_ (by assumption)))))⟩
  by_cases g6 : ro ≤ 20
  rotate_left
  · have hf' : decide (RightL bo ru ro) = false := decide_eq_false fun h => g6 h.2.2.2
    go_enter Try.func79, Try.ntmps79
    go_wp2
    go_ret
    exact ⟨by first | rfl | (rw [hf']; rfl) | (simp; omega) | (rw [hf']; simp; omega), (by repeat (with_reducible (first | exact Below.refl _ _ | assumption | apply ext_drew | apply ext_drewN | apply ext_alloc | apply ext_more | (refine ext_setCell ?_ (by simp <;> omega) _) | (refine ext_below ?_ (by assumption)))))⟩
  · have hf' : decide (RightL bo ru ro) = true := decide_eq_true ⟨⟨g1, g2⟩, ⟨g3, g4⟩, g5, g6⟩
    go_enter Try.func79, Try.ntmps79
    go_wp2
    go_ret
    exact ⟨by first | rfl | (rw [hf']; rfl) | (simp; omega) | (rw [hf']; simp; omega), (by repeat (with_reducible (first | exact Below.refl _ _ | assumption | apply ext_drew | apply ext_drewN | apply ext_alloc | apply ext_more | (refine ext_setCell ?_ (by simp <;> omega) _) | (refine ext_below ?_ (by assumption)))))⟩

end Go.Proofs.Ytfagkbmphohelaa
