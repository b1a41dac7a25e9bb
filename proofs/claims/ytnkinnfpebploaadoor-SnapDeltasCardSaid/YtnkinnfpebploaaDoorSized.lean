/- How long a slice that came in may be: what it holds is within reach. Conditions: none. -/
import Derived.Test.YtnkinnfpebploaaDoorOpen
import Derived.SizedLaws
namespace Go.Proofs.YtnkinnfpebploaaDoor
open Go.ChangeShapes Go.WideShapes Go.ChangeAt Go.RowKit Go.Deep
section
variable {H : Type} {enc : TypeId × Value → H} {P : Program} {w : World} {base : Nat} {spare : Nat → Bool} {held : Bool}
theorem trodAll_in : ∀ (ts : List TypeId) (vs : List Value) (ds : List (DataW H)) (ps : List MemPlace), DataW.TrodAll enc P w base spare held ts vs ds ps → ∀ (j : Nat) (t : TypeId) (v : Value), ts[j]? = some t → vs[j]? = some v →
    ∃ d p, ds[j]? = some d ∧ DataW.Trod enc P w base spare held t v d p := by
  intro ts
  induction ts with
  | nil => intro vs ds ps h j t v ht; simp at ht
  | cons t0 ts ih =>
    intro vs ds ps h j t v ht hv
    obtain ⟨v0, vs', d, ds', p, q, rfl, rfl, rfl, h1, h2⟩ := trodAll_cons h
    cases j with
    | zero =>
      simp at ht hv
      subst ht hv
      exact ⟨d, p, rfl, h1⟩
    | succ j =>
      obtain ⟨d', p', h3, h4⟩ := ih _ _ _ h2 j t v (by simpa using ht) (by simpa using hv)
      exact ⟨d', p', by simpa using h3, h4⟩
theorem ds_in {α : Type} {ds gs : List α} {j : Nat} {d : α} (h : ds[j]? = some d) : (ds ++ gs)[j]? = some d := by
  rw [List.getElem?_append_left (List.getElem?_eq_some_iff.1 h).1, h]
/-- a slice's elements, all together -/
theorem slice_reach {ts : List TypeId} {ds : List (DataW H)} {j : Nat} {t e : TypeId} {A : Option Addr} {n cap : Nat} {d : DataW H} {p : List MemPlace} (hz : (DataW.weightsEach P ts ds).all (· ≤ reachBytes) = true) (hj : ts[j]? = some t) (hd : ds[j]? = some d)
    (ht : P.underlying t = some (.slice e)) (h : DataW.Trod enc P w base spare held t (.slice A n cap) d p) : n * P.bytesOf e ≤ reachBytes := by
  obtain ⟨fuel, hf⟩ := h
  rcases open_slice ht hf with ⟨h0, _⟩ | ⟨a, len, c', m, k, D, Pl, hcs, hx, hl, hm, hmm, hD, hi⟩
  · simp [Value.cells] at h0
    obtain ⟨_, rfl, _⟩ := h0
    simp
  · simp [Value.cells] at hcs
    obtain ⟨rfl, rfl, rfl⟩ := hcs
    obtain rfl := (Prod.mk.injEq _ _ _ _ ▸ hD).1
    have h1 := sized_slice hz hj hd ht
    rw [List.length_map, List.length_range] at h1
    exact Nat.le_trans (Nat.mul_le_mul_right _ (by omega)) h1
end
end Go.Proofs.YtnkinnfpebploaaDoor
