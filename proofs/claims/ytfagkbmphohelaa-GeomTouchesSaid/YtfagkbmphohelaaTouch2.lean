/- The contract of the try of geom.out. Conditions: none. -/
import Derived.Test.YtfagkbmphohelaaTouch
namespace Go.Proofs.Ytfagkbmphohelaa
open Go.ChangeShapes Go.WideShapes Go.ChangeAt Go.RowKit Go.BigFrame
/-- the one or the other, by whether d is less than e -/
def pk (d e x y : Int) : Int := if d < e then x else y
theorem outf_c0 (v1 v2 v3 d dp x1 x2 x3 : Int) (pb pd : Nat) (w : World) (h : d < dp) (Bd : Blk w pd #[.int .i64 dp]) (Bb : Blk w pb #[.int .i64 x1, .int .i64 x2, .int .i64 x3]) (hne : pb ≠ pd) :
    Calls Try.prog 127 #[.agg #[.int .i64 v1, .int .i64 v2, .int .i64 v3], .int .i64 d, .pointer (some ⟨pd, 0, none⟩), .pointer (some ⟨pb, 0, none⟩)] w fun e w' => e = .returned (.tuple #[]) ∧ Blk w' pd #[.int .i64 d] ∧ Blk w' pb #[.int .i64 v1, .int .i64 v2, .int .i64 v3] ∧ ∀ n, n ≤ pb → n ≤ pd → Below n w w' := by
  obtain ⟨zd, cd, fd⟩ := id Bd
  obtain ⟨zb, cb, fb⟩ := id Bb
  go_enter Try.func127, Try.ntmps127
  go_wp2
  have Hd := ((((Bd.setCell ⟨pb, 0, none⟩ (.int .i64 v1) hne).setCell ⟨pb, 1, none⟩ (.int .i64 v2) hne).setCell ⟨pb, 2, none⟩ (.int .i64 v3) hne).set 0 (.int .i64 d) (by simp)).alloc (.cells #[.int .i64 v1, .int .i64 v2, .int .i64 v3] 23)
  have Hb := ((((Bb.set 0 (.int .i64 v1) (by simp)).set 1 (.int .i64 v2) (by simp)).set 2 (.int .i64 v3) (by simp)).setCell ⟨pd, 0, none⟩ (.int .i64 d) (Ne.symm hne)).alloc (.cells #[.int .i64 v1, .int .i64 v2, .int .i64 v3] 23)
  simp only [List.setIfInBounds_toArray, List.set_cons_zero, List.set_cons_succ] at Hd Hb
  refine bodyPost_end (v := .tuple #[]) (by simp [results, Try.results127, go_sem]) rfl ⟨rfl, Hd, Hb, fun n h1 h2 => ?_⟩
  exact (((((Below.refl n w).setCell h1 _).setCell h1 _).setCell h1 _).setCell h2 _).alloc (by simp; omega) _
theorem outf_c1 (v1 v2 v3 d dp : Int) (pb pd : Nat) (w : World) (h : dp ≤ d) (Bd : Blk w pd #[.int .i64 dp]) :
    Calls Try.prog 127 #[.agg #[.int .i64 v1, .int .i64 v2, .int .i64 v3], .int .i64 d, .pointer (some ⟨pd, 0, none⟩), .pointer (some ⟨pb, 0, none⟩)] w fun e w' => e = .returned (.tuple #[]) ∧ Below w.heap.size w w' := by
  obtain ⟨zd, cd, fd⟩ := id Bd
  have h' : ¬ d < dp := by omega
  go_enter Try.func127, Try.ntmps127
  go_wp2
  exact bodyPost_end (v := .tuple #[]) (by simp [results, Try.results127, go_sem]) rfl ⟨rfl, (Below.refl _ _).alloc (Nat.le_refl _) _⟩
theorem outf_c (v1 v2 v3 d dp x1 x2 x3 : Int) (pb pd : Nat) (w : World) (Bd : Blk w pd #[.int .i64 dp]) (Bb : Blk w pb #[.int .i64 x1, .int .i64 x2, .int .i64 x3]) (hne : pb ≠ pd) :
    Calls Try.prog 127 #[.agg #[.int .i64 v1, .int .i64 v2, .int .i64 v3], .int .i64 d, .pointer (some ⟨pd, 0, none⟩), .pointer (some ⟨pb, 0, none⟩)] w fun e w' => e = .returned (.tuple #[]) ∧ Blk w' pd #[.int .i64 (pk d dp d dp)] ∧ Blk w' pb #[.int .i64 (pk d dp v1 x1), .int .i64 (pk d dp v2 x2), .int .i64 (pk d dp v3 x3)] ∧ ∀ n, n ≤ pb → n ≤ pd → Below n w w' := by
  unfold pk
  by_cases h : d < dp
  · simp only [if_pos h]; exact outf_c0 v1 v2 v3 d dp x1 x2 x3 pb pd w h Bd Bb hne
  · simp only [if_neg h]
    exact (outf_c1 v1 v2 v3 d dp pb pd w (by omega) Bd).mono fun e w' ⟨h1, h2⟩ => ⟨h1, Bd.below h2, Bb.below h2, fun n _ h4 => h2.mono (Nat.le_trans h4 (Nat.le_of_lt Bd.lt))⟩
end Go.Proofs.Ytfagkbmphohelaa
