/- The contracts of shapes and the boxes around them (package geom, and the document's answers). Conditions: none. -/
import Derived.Test.YtefhmbmbhiehdaaDoorKB
namespace Go.Proofs.YtefhmbmbhiehdaaDoor
open Go.ChangeShapes Go.WideShapes Go.ChangeAt Go.RowKit Go.BigFrame

/-- a size that may be -/
def szB (n : Int) : Bool := decide (1 ≤ n) && decide (n ≤ 3276800)
/-- a shape that may be -/
def shapeB (k x y z : Int) : Bool := if k = 1 then szB x && (y == 0) && (z == 0) else if k = 2 then szB x && szB y && szB z else false
/-- half a shape's box, part by part -/
def hf (k x y : Int) : Int := if k = 1 then x else y

theorem rv6 {k : IntKind} {a b c d e f a' b' c' d' e' f' : Int} (h1 : a = a') (h2 : b = b') (h3 : c = c') (h4 : d = d') (h5 : e = e') (h6 : f = f') : Ending.returned (.agg #[.int k a, .int k b, .int k c, .int k d, .int k e, .int k f]) = .returned (.agg #[.int k a', .int k b', .int k c', .int k d', .int k e', .int k f']) := by rw [h1, h2, h3, h4, h5, h6]

theorem box_c (a1 a2 a3 a4 a5 a6 : Int) (w : World) : Calls Tryd.prog 7 #[.agg #[.int .i64 a1, .int .i64 a2, .int .i64 a3, .int .i64 a4, .int .i64 a5, .int .i64 a6]] w fun e w' => e = .returned (.agg #[.int .i64 a1, .int .i64 a2, .int .i64 a3, .int .i64 a4, .int .i64 a5, .int .i64 a6]) ∧ Below w.heap.size w w' := by
  have hmc := more_cell
  have hmf := more_frozen
  have hml := more_lt
  go_enter Tryd.func7, Tryd.ntmps7
  go_wp2
  exact bodyPost_ret (v := .agg #[.int .i64 a1, .int .i64 a2, .int .i64 a3, .int .i64 a4, .int .i64 a5, .int .i64 a6]) (by simp [results, Tryd.results7, go_sem, *]) rfl ⟨rfl, (by repeat (with_reducible (first | exact Below.refl _ _ | assumption | apply ext_drew | apply ext_drewN | apply ext_alloc | apply ext_more | (refine ext_setCell ?_ (by simp <;> omega) _) | (refine ext_below ?_ (by assumption)))))⟩

theorem parts_c (a1 a2 a3 : Int) (w : World) : Calls Tryd.prog 6 #[.agg #[.int .i64 a1, .int .i64 a2, .int .i64 a3]] w fun e w' => e = .returned (.slice (some ⟨w.heap.size + 1, 0, none⟩) 3 3) ∧ Blk w' (w.heap.size + 1) #[.int .i64 a1, .int .i64 a2, .int .i64 a3] ∧ Below w.heap.size w w' := by
  have hmc := more_cell
  have hmf := more_frozen
  have hml := more_lt
  go_enter Tryd.func6, Tryd.ntmps6
  go_wp2
  go_ret
  exact ⟨rfl, (by repeat (with_reducible (first | assumption | exact Blk.at _ _ _ _ (by simp) | apply Blk.alloc | apply Blk.drew | apply Blk.drewN | apply Blk.more | (refine Blk.setCell ?_ _ _ (by simp <;> omega))))), (by repeat (with_reducible (first | exact Below.refl _ _ | assumption | apply ext_drew | apply ext_drewN | apply ext_alloc | apply ext_more | (refine ext_setCell ?_ (by simp <;> omega) _) | (refine ext_below ?_ (by assumption)))))⟩

end Go.Proofs.YtefhmbmbhiehdaaDoor
