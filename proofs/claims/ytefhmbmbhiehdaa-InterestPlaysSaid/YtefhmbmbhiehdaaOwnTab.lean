/- A row of the call's own that holds rows of numbers. Conditions: none. -/
import Derived.Test.YtefhmbmbhiehdaaTab
import Derived.Laws.AppendOwn
import Derived.OwnWalk
namespace Go.Proofs.Ytefhmbmbhiehdaa
open Go Go.RowKit
/-- n rows of c numbers, one behind the other -/
def rowsL (M : Nat → Nat → Int) (c n : Nat) : List Value := (List.range (n * c)).map fun q => .int .i64 (M (q / c) (q % c))
theorem rowsL_length (M : Nat → Nat → Int) (c n : Nat) : (rowsL M c n).length = n * c := by simp [rowsL]
theorem rowsL_get (M : Nat → Nat → Int) {c n k j : Nat} (hk : k < n) (hj : j < c) : (rowsL M c n)[k * c + j]? = some (.int .i64 (M k j)) := by
  have hc : 0 < c := by omega
  have h1 : k * c + j < n * c := by
    have := Nat.mul_le_mul_right c (show k + 1 ≤ n from hk)
    rw [Nat.add_mul] at this
    omega
  have h2 : (k * c + j) / c = k := by rw [Nat.mul_comm, Nat.mul_add_div hc, Nat.div_eq_of_lt hj]; rfl
  have h3 : (k * c + j) % c = j := by rw [Nat.mul_comm, Nat.mul_add_mod, Nat.mod_eq_of_lt hj]
  simp [rowsL, h1, h2, h3]
theorem rowsL_one (M : Nat → Nat → Int) (c n : Nat) : ∀ u ∈ rowsL M c n, u.oneCell' = true := by
  intro u hu
  simp only [rowsL, List.mem_map] at hu
  obtain ⟨q, _, rfl⟩ := hu
  rfl
theorem rowsL_cells {w : World} {b o n c : Nat} {M : Nat → Nat → Int} (hc0 : 0 < c) (h : ∀ k, k < n → ∀ j, j < c → w.cell? ⟨b, o + (k * c + j), none⟩ = some (.int .i64 (M k j))) (j : Nat) (u : Value) (hu : (rowsL M c n)[j]? = some u) :
    w.cell? ((⟨b, o, none⟩ : Addr).add j) = some u := by
  have hl : j < n * c := by
    have := (List.getElem?_eq_some_iff.1 hu).1
    rwa [rowsL_length] at this
  have hk : j / c < n := Nat.div_lt_of_lt_mul (by rwa [Nat.mul_comm])
  have hj : j % c < c := Nat.mod_lt _ hc0
  have e : j / c * c + j % c = j := by rw [Nat.mul_comm]; exact Nat.div_add_mod j c
  have h1 := h (j / c) hk (j % c) hj
  rw [e] at h1
  have h2 : (rowsL M c n)[j]? = some (.int .i64 (M (j / c) (j % c))) := by
    have := rowsL_get M hk hj
    rwa [e] at this
  rw [hu] at h2
  rw [Option.some.inj h2, ← h1]
  unfold Addr.add
  split
  · rename_i h0; subst h0; rfl
  · rfl
theorem tab_of_own {w : World} {base : Nat} {e : TypeId} {c n : Nat} {v : Value} {M : Nat → Nat → Int} (h : w.ownsRow base e c v n (rowsL M c n)) (hn : 0 < n) :
    ∃ g cap, v = .slice (some ⟨g, 0, none⟩) n cap ∧ base ≤ g ∧ n ≤ cap ∧ cap ≤ maxLen ∧ Tab w g n c M := by
  obtain ⟨_, ⟨_, h0⟩ | ⟨g, cap, cur, hv, hb, hh, hnc, hcm, hsz, hpre⟩⟩ := h
  · omega
  · refine ⟨g, cap, hv, hb, hnc, hcm, cur, e, hh, fun k hk j hj => ?_⟩
    have h1 := rowsL_get M hk hj
    rw [← hpre, List.getElem?_take] at h1
    split at h1
    · rw [← h1]; simp
    · cases h1
/-- an empty row that has just been made -/
theorem own_empty {w : World} (e : TypeId) (c : Nat) : (w.alloc (.cells #[] e)).ownsRow w.heap.size e c (.slice (some ⟨w.heap.size, 0, none⟩) 0 0) 0 [] :=
  ⟨by simp, .inr ⟨w.heap.size, 0, #[], rfl, Nat.le_refl _, heap_alloc_new w _, Nat.le_refl _, by unfold maxLen; omega, by simp, by simp⟩⟩
end Go.Proofs.Ytefhmbmbhiehdaa
