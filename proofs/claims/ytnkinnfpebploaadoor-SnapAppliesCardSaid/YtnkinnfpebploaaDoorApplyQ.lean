/- Views as lists of rows in memory; what Apply answers. Conditions: none. -/
import Derived.Test.YtnkinnfpebploaaDoorApplyP
import Derived.Test.YtnkinnfpebploaaDoorRowz
import Derived.Test.YtnkinnfpebploaaDoorDeltas
namespace Go.Proofs.YtnkinnfpebploaaDoor
open Go Go.RowKit B
/-- a row's cells -/
def snL (r : Sn) : Array Value := #[.int .i64 r.id, .int .i64 r.kd, .int .i64 r.s1, .int .i64 r.s2, .int .i64 r.s3, .int .i64 r.a1, .int .i64 r.a2, .int .i64 r.a3, .int .i64 r.v1, .int .i64 r.v2, .int .i64 r.v3]
def rowsS (R : List Sn) : List Value := R.flatMap fun r => (snL r).toList
theorem rowsS_nil : rowsS [] = [] := rfl
theorem rowsS_append (R S : List Sn) : rowsS (R ++ S) = rowsS R ++ rowsS S := by simp [rowsS]
theorem rowsS_snoc (R : List Sn) (r : Sn) : rowsS (R ++ [r]) = rowsS R ++ (snL r).toList := by simp [rowsS]
theorem snL_one (r : Sn) : ∀ u ∈ (snL r).toList, u.oneCell' = true := by
  intro u hu
  simp [snL] at hu
  rcases hu with rfl | rfl | rfl | rfl | rfl | rfl | rfl | rfl | rfl | rfl | rfl <;> rfl
theorem mx_zero (x : Sn) (R : List Sn) (j : Nat) : mx (x :: R) 0 j = x.get j := by simp [mx]
theorem mx_succ (x : Sn) (R : List Sn) (k j : Nat) : mx (x :: R) (k + 1) j = mx R k j := by simp [mx]
theorem rowsL_congr {M M' : Nat → Nat → Int} {c n : Nat} (hc : 0 < c) (h : ∀ k, k < n → ∀ j, j < c → M k j = M' k j) : rowsL M c n = rowsL M' c n := by
  unfold rowsL
  apply List.map_congr_left
  intro q hq
  have hq := List.mem_range.1 hq
  rw [h (q / c) ((Nat.div_lt_iff_lt_mul hc).2 hq) (q % c) (Nat.mod_lt _ hc)]
theorem rowsL_cons (M : Nat → Nat → Int) (n : Nat) : rowsL M 11 (n + 1) = (#[.int .i64 (M 0 0), .int .i64 (M 0 1), .int .i64 (M 0 2), .int .i64 (M 0 3), .int .i64 (M 0 4), .int .i64 (M 0 5), .int .i64 (M 0 6), .int .i64 (M 0 7), .int .i64 (M 0 8), .int .i64 (M 0 9), .int .i64 (M 0 10)] : Array Value).toList ++ rowsL (fun k j => M (k + 1) j) 11 n := by
  unfold rowsL
  rw [show (n + 1) * 11 = 11 + n * 11 by omega, List.range_add, List.map_append, List.map_map]
  congr 1
  apply List.map_congr_left
  intro q _
  simp only [Function.comp]
  rw [show (11 + q) / 11 = q / 11 + 1 by omega, show (11 + q) % 11 = q % 11 by omega]
theorem rowsS_eq : ∀ (R : List Sn), rowsS R = rowsL (mx R) 11 R.length
  | [] => by simp [rowsS, rowsL]
  | x :: R => by
    rw [List.length_cons, rowsL_cons]
    have h := rowsS_eq R
    show (snL x).toList ++ rowsS R = _
    rw [h]
    simp only [mx_zero]
    congr 1
/-- the rows from i on -/
theorem rowsS_from (M : Nat → Nat → Int) (n i : Nat) (hi : i ≤ n) : rowsS ((rowsOf M n).drop i) = rowsL (fun k j => M (i + k) j) 11 (n - i) := by
  rw [rowsS_eq]
  have hl : ((rowsOf M n).drop i).length = n - i := by simp [rowsOf_length]
  rw [hl]
  refine rowsL_congr (by decide) fun k hk j hj => ?_
  unfold mx
  rw [List.getElem?_drop]
  have : i + k < n := by omega
  unfold rowsOf
  rw [List.getElem?_map, List.getElem?_range this]
  simp only [Option.map_some, Option.getD_some]
  exact snOf_get M (i + k) j hj
theorem drop_rows (M : Nat → Nat → Int) {n i : Nat} (h : i < n) : (rowsOf M n).drop i = snOf M i :: (rowsOf M n).drop (i + 1) := by
  have hl : i < (rowsOf M n).length := by rw [rowsOf_length]; exact h
  rw [List.drop_eq_getElem_cons hl]
  congr 1
  simp [rowsOf]
theorem drop_end (M : Nat → Nat → Int) (n : Nat) : (rowsOf M n).drop n = [] := by
  rw [List.drop_eq_nil_iff, rowsOf_length]; exact Nat.le_refl _
theorem reads_rowS {w : World} {base : Nat} {e : TypeId} {A : Option Addr} {cap : Nat} {R : List Sn} (h : w.ownsRow base e 11 (.slice A R.length cap) R.length (rowsS R)) : Reads w A R.length 11 (mx R) := fun hn => by
  rw [rowsS_eq] at h
  obtain ⟨g, c, hv, _, _, _, hT⟩ := tab_of_own h hn
  cases hv
  exact Reads.of_tab hT hn
theorem nil_rowS {w : World} {base : Nat} {e : TypeId} {A : Option Addr} {n cap : Nat} {xs : List Value} (h : w.ownsRow base e 11 (.slice A n cap) n xs) : (A = none → n = 0 ∧ cap = 0) ∧ n ≤ cap := by
  obtain ⟨_, ⟨hv, hx⟩ | ⟨g, c, cur, hv, hc, _⟩⟩ := h
  · cases hv; exact ⟨fun _ => ⟨rfl, rfl⟩, Nat.le_refl _⟩
  · cases hv; exact ⟨(fun h => by cases h), by omega⟩
/-- a view is what a change makes, if Delta tells just that change -/
noncomputable def ansV (M1 : Nat → Nat → Int) (n1 : Nat) (l : List Nat) : Option (List Sn) → Option (List Sn)
  | none => none
  | some o => open Classical in if dN M1 n1 (mx o) o.length = 0 ∧ dL M1 n1 (mx o) o.length = l then some o else none
/-- what the program's Apply answers -/
noncomputable def ansF (M1 : Nat → Nat → Int) (n1 : Nat) (l : List Nat) : Option (List Sn) := ansV M1 n1 l (applyF (openL l) ((openL l).length + 1) 0 [] (rowsOf M1 n1) 0)
noncomputable def ansR (M1 : Nat → Nat → Int) (n1 : Nat) (l : List Nat) : Option (List Sn) := ansV M1 n1 l (applyR (openL l) ((openL l).length + 1) 0 (rowsOf M1 n1) 0)
theorem ansV_big {M1 : Nat → Nat → Int} {n1 : Nat} {l : List Nat} {x : Option (List Sn)} (h : Big x) : ansV M1 n1 l x = none := by
  cases x with
  | none => rfl
  | some o =>
    have := h o rfl
    show (if _ then _ else _) = _
    rw [if_neg]
    rintro ⟨h1, _⟩
    have := (d_zero.1 h1).2.1.2
    omega
theorem ans_eq (M1 : Nat → Nat → Int) {n1 : Nat} (l : List Nat) (hn : n1 ≤ 60) : ansR M1 n1 l = ansF M1 n1 l := by
  unfold ansR ansF
  have h := apply_eq (openL l) ((openL l).length + 1) 0 [] (rowsOf M1 n1) 0 (by simp) (by simp) (by rw [rowsOf_length]; exact hn)
  rw [List.nil_append] at h
  rcases h with h | ⟨h1, h2⟩
  · rw [h]
  · rw [ansV_big h1, ansV_big h2]
end Go.Proofs.YtnkinnfpebploaaDoor
