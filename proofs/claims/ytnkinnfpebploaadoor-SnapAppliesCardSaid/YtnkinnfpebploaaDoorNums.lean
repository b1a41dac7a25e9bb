/- Rows of numbers; slices that are built on the spot. Conditions: none. -/
import Derived.Test.YtnkinnfpebploaaDoorRow
import Derived.Test.YtnkinnfpebploaaDoorLift
import Derived.Maps.Own
namespace Go.Proofs.YtnkinnfpebploaaDoor
open Go Go.RowKit
/-- numbers as values -/
def i64s (l : List Int) : List Value := l.map fun n : Int => Value.int .i64 n
theorem i64s_length (l : List Int) : (i64s l).length = l.length := by unfold i64s; simp
theorem i64s_snoc (l : List Int) (n : Int) : i64s (l ++ [n]) = i64s l ++ [.int .i64 n] := by unfold i64s; simp
theorem i64s_get {l : List Int} {k : Nat} {n : Int} (h : l[k]? = some n) : (i64s l)[k]? = some (.int .i64 n) := by unfold i64s; rw [List.getElem?_map, h]; rfl
theorem intInfo : (Tryd.prog.info? 3).map (fun i => (i.zero, i.size, i.bytes)) = some (some (.int .i64 0), 1, 8) := by kernel_rfl
/-- a slice that was just built is a row of the call's own -/
theorem own_built {w w1 : World} {base : Nat} {e : TypeId} {size n p : Nat} (cs : Array Value) (hp : p = w.heap.size) (hb : base ≤ p) (hc : cs.size = n * size) (hn : n ≤ 1000000) (h : Below (w.alloc (.cells cs e)).heap.size (w.alloc (.cells cs e)) w1) :
    w1.ownsRow base e size (.slice (some ⟨p, 0, none⟩) n n) n cs.toList := by
  subst hp
  refine ⟨by simp [hc], .inr ⟨w.heap.size, n, cs, rfl, hb, ?_, Nat.le_refl _, by unfold maxLen; omega, hc, ?_⟩⟩
  · rw [h.block _ (by simp)]
    exact (Go.MapKept.heap_alloc w _).1
  · rw [List.take_of_length_le (by simp [hc])]
end Go.Proofs.YtnkinnfpebploaaDoor
