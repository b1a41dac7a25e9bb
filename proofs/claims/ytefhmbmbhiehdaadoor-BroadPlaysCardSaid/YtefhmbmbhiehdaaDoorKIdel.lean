/- The contract of slices.DeleteFunc at a row of ints of the call's own, its function: is it that number. Conditions: none. -/
import Derived.Lib.SliceRun
import Derived.OwnWalk
import Derived.WalkSpells
import Derived.Lib.Hide
import Derived.Test.YtefhmbmbhiehdaaDoorProg
import Derived.Test.YtefhmbmbhiehdaaDoorKA
namespace Go.Proofs.YtefhmbmbhiehdaaDoor
open Go.RowKit Go.BigFrame
def ints (zs : List Int) : List Value := zs.map (Value.int .i64)
theorem ints_len (zs : List Int) : (ints zs).length = zs.length := by simp [ints]
theorem ints_app (a b : List Int) : ints (a ++ b) = ints a ++ ints b := by simp [ints]
theorem ints_get {zs : List Int} {k : Nat} {x : Int} (h : zs[k]? = some x) : (ints zs)[k]? = some (.int .i64 x) := by simp [ints, h]
theorem ints_set (zs : List Int) (i : Nat) (x : Int) : (ints zs).set i (.int .i64 x) = ints (zs.set i x) := by simp [ints, List.map_set]
theorem row_len {w : World} {base n : Nat} {v : Value} {zs : List Int} (h : w.ownsRow base 3 1 v n (ints zs)) : zs.length = n := by
  have := h.1
  rw [ints_len] at this
  omega
/-- cells from o on are written -/
theorem row_sets {base n g cap : Nat} : ∀ (vs : List Int) (o : Nat) (w : World) (zs : List Int), w.ownsRow base 3 1 (.slice (some ⟨g, 0, none⟩) n cap) n (ints zs) → o + vs.length ≤ zs.length →
    ∃ zs', zs'.length = zs.length ∧ zs'.take o = zs.take o ∧ (w.setCells g o (ints vs)).ownsRow base 3 1 (.slice (some ⟨g, 0, none⟩) n cap) n (ints zs')
  | [], o, w, zs, h, _ => ⟨zs, rfl, rfl, h⟩
  | v :: vs, o, w, zs, h, hl => by
    simp at hl
    have h1 := row_set (i := o) (x := .int .i64 v) h (by rw [ints_len]; omega)
    rw [ints_set] at h1
    obtain ⟨zs', e1, e2, h2⟩ := row_sets vs (o + 1) _ (zs.set o v) h1 (by simp; omega)
    refine ⟨zs', by simpa using e1, ?_, h2⟩
    have e3 : zs'.take o = (zs'.take (o + 1)).take o := by rw [List.take_take]; congr 1; omega
    rw [e3, e2, List.take_take, List.take_set_of_le (by omega)]
    congr 1
    omega
/-- the row's beginning -/
theorem row_take {w : World} {base n g cap k : Nat} {zs : List Int} (h : w.ownsRow base 3 1 (.slice (some ⟨g, 0, none⟩) n cap) n (ints zs)) (hk : k ≤ n) : w.ownsRow base 3 1 (.slice (some ⟨g, 0, none⟩) k cap) k (ints (zs.take k)) := by
  have hl := row_len h
  obtain ⟨_, ⟨hv, _⟩ | ⟨g', cap', cur, hv, hb, hh, h1, h2, h3, h4⟩⟩ := h
  · cases hv
  · injection hv with e1 e2 e3
    injection e1 with e1
    injection e1 with e1
    subst e1 e3
    refine ⟨by rw [ints_len]; simp; omega, .inr ⟨g, cap, cur, rfl, hb, hh, by omega, h2, h3, ?_⟩⟩
    have : ints (zs.take k) = (ints zs).take k := by simp [ints, List.map_take]
    rw [this, ← h4, List.take_take]
    congr 1
    omega
theorem modSets {S : Nat → Prop} {w : World} {g : Nat} (hg : S g) : ∀ (vs : List Value) (o : Nat) (w' : World), Mod S w w' → Mod S w (w'.setCells g o vs)
  | [], _, _, h => h
  | _ :: vs, o, _, h => modSets hg vs (o + 1) _ (h.set (.inl hg))
/-- the first place of it, from k on; n: none -/
def fst (zs : List Int) (id : Int) : Nat := zs.findIdx (fun x => x == id)
def fstV (zs : List Int) (id : Int) (n : Nat) : Int := if fst zs id < n then (fst zs id : Int) else -1
/-- without that number -/
def del (zs : List Int) (id : Int) : List Int := zs.filter fun x => !(x == id)
theorem del_app (a b : List Int) (id : Int) : del (a ++ b) id = del a id ++ del b id := by simp [del]
theorem del_none {zs : List Int} {id : Int} (h : ∀ x ∈ zs, x ≠ id) : del zs id = zs := by
  unfold del
  rw [List.filter_eq_self]
  intro x hx
  simpa using h x hx
theorem take_succ_get {zs : List Int} {j : Nat} {x : Int} (h : zs[j]? = some x) : zs.take (j + 1) = zs.take j ++ [x] := by
  rw [List.take_add_one, h]
  rfl
theorem fst_before {zs : List Int} {id : Int} {j : Nat} {x : Int} (hj : j < fst zs id) (hx : zs[j]? = some x) : x ≠ id := by
  unfold fst at hj
  have h1 := List.not_of_lt_findIdx hj
  have h2 : zs[j]'(by have := (List.getElem?_eq_some_iff.1 hx).1; omega) = x := (List.getElem?_eq_some_iff.1 hx).2
  rw [h2] at h1
  simpa using h1
theorem fst_at {zs : List Int} {id : Int} (h : fst zs id < zs.length) : zs[fst zs id]? = some id := by
  have h1 := List.findIdx_getElem (xs := zs) (p := fun x => x == id) (w := h)
  have h2 : zs[fst zs id] = id := by
    have h3 : (zs[fst zs id] == id) = true := h1
    simpa using h3
  rw [List.getElem?_eq_getElem h, h2]
theorem ints_rep (k : Nat) : ints (List.replicate k 0) = List.replicate k (Value.int .i64 0) := by simp [ints]
end Go.Proofs.YtefhmbmbhiehdaaDoor
