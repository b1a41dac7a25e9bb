/- The world, plain: who does not touch does not matter. Conditions: none. -/
import Derived.Test.YtniahipadfgkbaaGreatKV3
namespace Go.Proofs.YtniahipadfgkbaaGreat
open Go Go.ChangeShapes Go.WideShapes Go.ChangeAt Go.RowKit Go.BigFrame
/-- the first n1 rows are the same -/
def Agr (n1 : Nat) (X Y : Nat → Nat → Int) : Prop := ∀ a, a < n1 → ∀ q, X a q = Y a q
section
variable {n1 n i k : Nat} {X Y : Nat → Nat → Int}
theorem Agr.refl (X : Nat → Nat → Int) : Agr n1 X X := fun _ _ _ => rfl
theorem put3_agr (h : Agr n1 X Y) {x y z x' y' z' : Int} (j : Nat) (e1 : x = x') (e2 : y = y') (e3 : z = z') : Agr n1 (put3 X i j x y z) (put3 Y i j x' y' z') := by
  intro a ha q
  subst e1 e2 e3
  by_cases e : a = i
  · subst e
    unfold put3 put1
    by_cases h2 : q = j + 2
    · simp [h2]
    by_cases h1 : q = j + 1
    · simp [h1]
    by_cases h0 : q = j
    · simp [h0]
    simp [h0, h1, h2, h a ha q]
  · rw [put3_row _ _ _ _ _ _ e, put3_row _ _ _ _ _ _ e, h a ha q]
theorem give_agr (h : Agr n1 X Y) (hi : i < n1) (hk : k < n1) (u1 u2 u3 j x y : Int) : Agr n1 (giveM X i k u1 u2 u3 j x y) (giveM Y i k u1 u2 u3 j x y) := by
  unfold giveM
  exact put3_agr (put3_agr h 9 (by rw [h i hi]) (by rw [h i hi]) (by rw [h i hi])) 9 (by rw [h k hk]) (by rw [h k hk]) (by rw [h k hk])
theorem dot_agr (h : Agr n1 X Y) (hi : i < n1) (hk : k < n1) (g1 g2 g3 : Int) : dotW X i k g1 g2 g3 = dotW Y i k g1 g2 g3 := by
  unfold dotW
  rw [h i hi, h i hi, h i hi, h k hk, h k hk, h k hk]
theorem side_agr (h : Agr n1 X Y) (hi : i < n1) (hk : k < n1) (g1 g2 g3 x y al j ru dv : Int) : Agr n1 (sideM X i k g1 g2 g3 x y al j ru dv) (sideM Y i k g1 g2 g3 x y al j ru dv) := by
  unfold sideM
  rw [h i hi, h i hi, h i hi, h k hk, h k hk, h k hk]
  unfold endM
  split
  · exact give_agr h hi hk _ _ _ _ _ _
  · exact h
theorem push_agr (h : Agr n1 X Y) (hi : i < n1) (hk : k < n1) (g1 g2 g3 bo ru : Int) : Agr n1 (pushM X i k g1 g2 g3 bo ru) (pushM Y i k g1 g2 g3 bo ru) := by
  unfold pushM goM
  rw [h i hi, h k hk, dot_agr h hi hk]
  split
  · exact h
  · unfold midM
    have h2 := give_agr h hi hk g1 g2 g3 (div (mul (-(dotW Y i k g1 g2 g3)) (65536 + bo)) (add (light (Y i 15)) (light (Y k 15)))) (light (Y i 15)) (light (Y k 15))
    rw [dot_agr h2 hi hk]
    exact side_agr h2 hi hk _ _ _ _ _ _ _ _ _
theorem place_agr (h : Agr n1 X Y) (hi : i < n1) (hk : k < n1) (g1 g2 g3 dp : Int) : Agr n1 (placeGo X i k g1 g2 g3 dp) (placeGo Y i k g1 g2 g3 dp) := by
  unfold placeGo
  rw [h i hi 15, h k hk 15]
  split
  · exact put3_agr (put3_agr h 6 (by rw [h i hi]) (by rw [h i hi]) (by rw [h i hi])) 6 (by rw [h k hk]) (by rw [h k hk]) (by rw [h k hk])
  · exact h
theorem give_far {a : Nat} (h1 : a ≠ i) (h2 : a ≠ k) (M : Nat → Nat → Int) (u1 u2 u3 j x y : Int) (q : Nat) : giveM M i k u1 u2 u3 j x y a q = M a q := by
  unfold giveM
  rw [put3_row _ _ _ _ _ _ h2, put3_row _ _ _ _ _ _ h1]
theorem push_far {a : Nat} (h1 : a ≠ i) (h2 : a ≠ k) (M : Nat → Nat → Int) (g1 g2 g3 bo ru : Int) (q : Nat) : pushM M i k g1 g2 g3 bo ru a q = M a q := by
  unfold pushM goM
  split
  · rfl
  · unfold midM sideM endM
    split
    · rw [give_far h1 h2, give_far h1 h2]
    · rw [give_far h1 h2]
theorem place_far {a : Nat} (h1 : a ≠ i) (h2 : a ≠ k) (M : Nat → Nat → Int) (g1 g2 g3 dp : Int) (q : Nat) : placeGo M i k g1 g2 g3 dp a q = M a q := by
  unfold placeGo
  split
  · rw [put3_row _ _ _ _ _ _ h2, put3_row _ _ _ _ _ _ h1]
  · rfl
theorem idxF_hit {M : Nat → Nat → Int} {x : Int} : ∀ f s i, s ≤ i → i < s + f → M i 0 = x → (∀ j, s ≤ j → j < i → M j 0 ≠ x) → idxF M x s f = i := by
  intro f
  induction f with
  | zero => intro s i h1 h2; omega
  | succ f ih =>
    intro s i h1 h2 h3 h4
    unfold idxF
    by_cases e : s = i
    · subst e; rw [if_pos h3]
    · rw [if_neg (h4 s (Nat.le_refl _) (by omega))]
      exact ih (s + 1) i (by omega) (by omega) h3 fun j hj1 hj2 => h4 j (by omega) hj2
theorem idx_rise {M : Nat → Nat → Int} (hs : Rise M n) (hi : i < n) : idx M n (M i 0) = i :=
  idxF_hit n 0 i (Nat.zero_le _) (by omega) rfl fun j _ hj => by have := hs j i hj hi; omega
theorem both_ids {M : Nat → Nat → Int} (hs : Rise M n) (hi : i < n) (hk : k < n) (hne : i ≠ k) : Both M n (M i 0) (M k 0) := by
  unfold Both
  rw [idx_rise hs hi, idx_rise hs hk]
  omega
theorem speedStep_at {M : Nat → Nat → Int} (hs : Rise M n) (hi : i < n) (hk : k < n) (hne : i ≠ k) (bo ru g1 g2 g3 : Int) : speedStep M n bo ru (M i 0) (M k 0) g1 g2 g3 = pushM M i k g1 g2 g3 bo ru := by
  unfold speedStep
  rw [if_pos (both_ids hs hi hk hne), idx_rise hs hi, idx_rise hs hk]
  rfl
theorem placeStep_at {M : Nat → Nat → Int} (hs : Rise M n) (hi : i < n) (hk : k < n) (hne : i ≠ k) (g1 g2 g3 dp : Int) : placeStep M n (M i 0) (M k 0) g1 g2 g3 dp = if 655 < dp then placeGo M i k g1 g2 g3 dp else M := by
  unfold placeStep
  rw [idx_rise hs hi, idx_rise hs hk]
  by_cases hd : 655 < dp
  · rw [if_pos ⟨both_ids hs hi hk hne, hd⟩, if_pos hd]
    rfl
  · rw [if_neg (fun h => hd h.2), if_neg hd]
end
/-- touches of two worlds: the first one's are the first of the second's, which are between its own; the others are between others -/
structure Tch (n1 n : Nat) (X0 Y0 TX TY : Nat → Nat → Int) (m1 m : Nat) : Prop where
  le : m1 ≤ m
  own : ∀ k, k < m1 → ∃ i j, i < n1 ∧ j < n1 ∧ i ≠ j ∧ TX k 0 = X0 i 0 ∧ TX k 1 = X0 j 0
  same : ∀ k, k < m1 → ∀ q, TY k q = TX k q
  far : ∀ k, m1 ≤ k → k < m → ∃ i j, n1 ≤ i ∧ i < n ∧ n1 ≤ j ∧ j < n ∧ i ≠ j ∧ TY k 0 = Y0 i 0 ∧ TY k 1 = Y0 j 0
section
variable {n1 n m1 m : Nat} {X0 Y0 TX TY X Y : Nat → Nat → Int}
theorem Rise.congr {M M' : Nat → Nat → Int} (h : Rise M n) (e : ∀ a, M' a 0 = M a 0) : Rise M' n := fun i j hij hj => by rw [e, e]; exact h i j hij hj
theorem step_own {bo ru g1 g2 g3 : Int} {i j : Nat} (hn : n1 ≤ n) (hX : Rise X n1) (hY : Rise Y n) (h : Agr n1 X Y) (hi : i < n1) (hj : j < n1) (hne : i ≠ j) : Agr n1 (speedStep X n1 bo ru (X i 0) (X j 0) g1 g2 g3) (speedStep Y n bo ru (X i 0) (X j 0) g1 g2 g3) := by
  rw [speedStep_at hX hi hj hne, h i hi 0, h j hj 0, speedStep_at hY (by omega) (by omega) hne]
  exact push_agr h hi hj _ _ _ _ _
theorem pass_own (hn : n1 ≤ n) (hr : Rise X0 n1) (hr' : Rise Y0 n) (eX : ∀ a, X a 0 = X0 a 0) (eY : ∀ a, Y a 0 = Y0 a 0) (hT : Tch n1 n X0 Y0 TX TY m1 m) (h : Agr n1 X Y) (bo ru : Int) : ∀ k, k ≤ m1 → Agr n1 (passF X TX n1 bo ru k) (passF Y TY n bo ru k)
  | 0, _ => h
  | k + 1, hk => by
    have ih := pass_own hn hr hr' eX eY hT h bo ru k (by omega)
    show Agr n1 (speedStep _ _ _ _ _ _ _ _ _) (speedStep _ _ _ _ _ _ _ _ _)
    have hs := hT.same k (by omega)
    rw [hs, hs, hs, hs, hs]
    obtain ⟨i, j, hi, hj, hne, e1, e2⟩ := hT.own k (by omega)
    have cX : ∀ a, passF X TX n1 bo ru k a 0 = X0 a 0 := fun a => (passF_col a (by omega) k).trans (eX a)
    have cY : ∀ a, passF Y TY n bo ru k a 0 = Y0 a 0 := fun a => (passF_col a (by omega) k).trans (eY a)
    rw [e1, e2, ← cX i, ← cX j]
    exact step_own hn (hr.congr cX) (hr'.congr cY) ih hi hj hne
theorem pass_far (hr' : Rise Y0 n) (eY : ∀ a, Y a 0 = Y0 a 0) (hT : Tch n1 n X0 Y0 TX TY m1 m) (bo ru : Int) {a : Nat} (ha : a < n1) (q : Nat) : ∀ d, m1 + d ≤ m → passF Y TY n bo ru (m1 + d) a q = passF Y TY n bo ru m1 a q
  | 0, _ => rfl
  | d + 1, hd => by
    have ih := pass_far hr' eY hT bo ru ha q d (by omega)
    obtain ⟨i, j, h1, h2, h3, h4, hne, e1, e2⟩ := hT.far (m1 + d) (by omega) (by omega)
    have cY : ∀ a, passF Y TY n bo ru (m1 + d) a 0 = Y0 a 0 := fun a => (passF_col a (by omega) _).trans (eY a)
    show speedStep (passF Y TY n bo ru (m1 + d)) n bo ru (TY (m1 + d) 0) (TY (m1 + d) 1) _ _ _ a q = _
    rw [e1, e2, ← cY i, ← cY j, speedStep_at (hr'.congr cY) h2 h4 hne, push_far (by omega) (by omega)]
    exact ih
theorem pass_agr (hn : n1 ≤ n) (hr : Rise X0 n1) (hr' : Rise Y0 n) (eX : ∀ a, X a 0 = X0 a 0) (eY : ∀ a, Y a 0 = Y0 a 0) (hT : Tch n1 n X0 Y0 TX TY m1 m) (h : Agr n1 X Y) (bo ru : Int) : Agr n1 (passF X TX n1 bo ru m1) (passF Y TY n bo ru m) := fun a ha q => by
  have h1 := pass_own hn hr hr' eX eY hT h bo ru m1 (Nat.le_refl _) a ha q
  have h2 := pass_far hr' eY hT bo ru ha q (m - m1) (by have := hT.le; omega)
  rw [show m1 + (m - m1) = m by have := hT.le; omega] at h2
  rw [h1, h2]
theorem passes_col0 (M T : Nat → Nat → Int) (n m : Nat) (bo ru : Int) (a : Nat) : ∀ p, passes M T n m bo ru p a 0 = M a 0
  | 0 => rfl
  | p + 1 => by
    show passF _ _ _ _ _ _ a 0 = _
    rw [passF_col a (by omega), passes_col0 M T n m bo ru a p]
theorem passes_agr (hn : n1 ≤ n) (hr : Rise X0 n1) (hr' : Rise Y0 n) (eX : ∀ a, X a 0 = X0 a 0) (eY : ∀ a, Y a 0 = Y0 a 0) (hT : Tch n1 n X0 Y0 TX TY m1 m) (h : Agr n1 X Y) (bo ru : Int) : ∀ p, Agr n1 (passes X TX n1 m1 bo ru p) (passes Y TY n m bo ru p)
  | 0 => h
  | p + 1 => pass_agr hn hr hr' (fun a => (passes_col0 _ _ _ _ _ _ a p).trans (eX a)) (fun a => (passes_col0 _ _ _ _ _ _ a p).trans (eY a)) hT (passes_agr hn hr hr' eX eY hT h bo ru p) bo ru
theorem speeds_agr (hn : n1 ≤ n) (hr : Rise X0 n1) (hr' : Rise Y0 n) (eX : ∀ a, X a 0 = X0 a 0) (eY : ∀ a, Y a 0 = Y0 a 0) (hT : Tch n1 n X0 Y0 TX TY m1 m) (h : Agr n1 X Y) (bo ru ro : Int) : Agr n1 (speedsF X TX n1 m1 bo ru ro) (speedsF Y TY n m bo ru ro) := by
  unfold speedsF
  split
  · intro a ha q
    have e := passes_agr hn hr hr' eX eY hT h bo ru ro.toNat a ha q
    unfold clampF
    rw [e]
    by_cases hq : q = 9 ∨ q = 10 ∨ q = 11
    · rw [if_pos ⟨ha, hq⟩, if_pos ⟨by omega, hq⟩]
    · rw [if_neg (fun h => hq h.2), if_neg (fun h => hq h.2)]
  · exact h
theorem places_own (hn : n1 ≤ n) (hr : Rise X0 n1) (hr' : Rise Y0 n) (eX : ∀ a, X a 0 = X0 a 0) (eY : ∀ a, Y a 0 = Y0 a 0) (hT : Tch n1 n X0 Y0 TX TY m1 m) (h : Agr n1 X Y) : ∀ k, k ≤ m1 → Agr n1 (placesF X TX n1 k) (placesF Y TY n k)
  | 0, _ => h
  | k + 1, hk => by
    have ih := places_own hn hr hr' eX eY hT h k (by omega)
    show Agr n1 (placeStep _ _ _ _ _ _ _ _) (placeStep _ _ _ _ _ _ _ _)
    have hs := hT.same k (by omega)
    rw [hs, hs, hs, hs, hs, hs]
    obtain ⟨i, j, hi, hj, hne, e1, e2⟩ := hT.own k (by omega)
    have cX : ∀ a, placesF X TX n1 k a 0 = X0 a 0 := fun a => (placesF_col a (by omega) k).trans (eX a)
    have cY : ∀ a, placesF Y TY n k a 0 = Y0 a 0 := fun a => (placesF_col a (by omega) k).trans (eY a)
    rw [e1, e2, ← cX i, ← cX j, placeStep_at (hr.congr cX) hi hj hne, ih i hi 0, ih j hj 0, placeStep_at (hr'.congr cY) (by omega) (by omega) hne]
    split
    · exact place_agr ih hi hj _ _ _ _
    · exact ih
theorem places_far (hr' : Rise Y0 n) (eY : ∀ a, Y a 0 = Y0 a 0) (hT : Tch n1 n X0 Y0 TX TY m1 m) {a : Nat} (ha : a < n1) (q : Nat) : ∀ d, m1 + d ≤ m → placesF Y TY n (m1 + d) a q = placesF Y TY n m1 a q
  | 0, _ => rfl
  | d + 1, hd => by
    have ih := places_far hr' eY hT ha q d (by omega)
    obtain ⟨i, j, h1, h2, h3, h4, hne, e1, e2⟩ := hT.far (m1 + d) (by omega) (by omega)
    have cY : ∀ a, placesF Y TY n (m1 + d) a 0 = Y0 a 0 := fun a => (placesF_col a (by omega) _).trans (eY a)
    show placeStep (placesF Y TY n (m1 + d)) n (TY (m1 + d) 0) (TY (m1 + d) 1) _ _ _ _ a q = _
    rw [e1, e2, ← cY i, ← cY j, placeStep_at (hr'.congr cY) h2 h4 hne]
    split
    · rw [place_far (by omega) (by omega)]
      exact ih
    · exact ih
theorem places_agr (hn : n1 ≤ n) (hr : Rise X0 n1) (hr' : Rise Y0 n) (eX : ∀ a, X a 0 = X0 a 0) (eY : ∀ a, Y a 0 = Y0 a 0) (hT : Tch n1 n X0 Y0 TX TY m1 m) (h : Agr n1 X Y) : Agr n1 (placesF X TX n1 m1) (placesF Y TY n m) := fun a ha q => by
  have h1 := places_own hn hr hr' eX eY hT h m1 (Nat.le_refl _) a ha q
  have h2 := places_far hr' eY hT ha q (m - m1) (by have := hT.le; omega)
  rw [show m1 + (m - m1) = m by have := hT.le; omega] at h2
  rw [h1, h2]
theorem grav_agr (c : Cf) (hn : n1 ≤ n) (h : Agr n1 X Y) : Agr n1 (gravF c X n1) (gravF c Y n) := fun a ha q => by
  have ha' : a < n := by omega
  simp only [gravF, ha, ha', true_and, h a ha]
theorem move_agr (hn : n1 ≤ n) (h : Agr n1 X Y) : Agr n1 (moveF X n1) (moveF Y n) := fun a ha q => by
  have ha' : a < n := by omega
  simp only [moveF, ha, ha', if_true, h a ha]
theorem stepT_agr (c : Cf) (hn : n1 ≤ n) (hr : Rise X n1) (hr' : Rise Y n) (hT : Tch n1 n X Y TX TY m1 m) (h : Agr n1 X Y) : Agr n1 (stepT c X TX n1 m1) (stepT c Y TY n m) := by
  have h1 := grav_agr c hn h
  have h2 := speeds_agr hn hr hr' (fun a => gravF_col c X n1 a (by omega)) (fun a => gravF_col c Y n a (by omega)) hT h1 c.bo c.ru c.ro
  have h3 := move_agr hn h2
  exact places_agr hn hr hr' (fun a => by rw [moveF_col _ _ _ (by omega), speedsF_col a (by omega), gravF_col _ _ _ _ (by omega)]) (fun a => by rw [moveF_col _ _ _ (by omega), speedsF_col a (by omega), gravF_col _ _ _ _ (by omega)]) hT h3
/-- none of the first n1 touches another one -/
def Apart (Y : Nat → Nat → Int) (n1 n : Nat) : Prop := ∀ p ∈ touchL Y n, ¬ (p.1 < n1 ∧ n1 ≤ p.2)
theorem filter_nil_of {α : Type} {l : List α} {p : α → Bool} (h : ∀ x ∈ l, p x = false) : l.filter p = [] := List.filter_eq_nil_iff.2 fun x hx => by rw [h x hx]; simp
theorem touchL_split {n2 : Nat} (h : Agr n1 X Y) (hA : Apart Y n1 (n1 + n2)) : ∃ rest, touchL Y (n1 + n2) = touchL X n1 ++ rest ∧ ∀ p ∈ rest, n1 ≤ p.1 := by
  refine ⟨((List.range n2).map (n1 + ·)).flatMap (fun i => (((List.range (n1 + n2)).filter (meetR Y i)).map fun j => (i, j)).filter (tchB Y)), ?_, fun p hp => ?_⟩
  · have e1 : touchL Y (n1 + n2) = (List.range (n1 + n2)).flatMap fun i => (((List.range (n1 + n2)).filter (meetR Y i)).map fun j => (i, j)).filter (tchB Y) := by
      unfold touchL pairsR
      rw [List.filter_flatMap]
    have e2 : touchL X n1 = (List.range n1).flatMap fun i => (((List.range n1).filter (meetR X i)).map fun j => (i, j)).filter (tchB X) := by
      unfold touchL pairsR
      rw [List.filter_flatMap]
    rw [e1, e2, List.range_add, List.flatMap_append]
    congr 1
    refine flatMap_eq fun i hi => ?_
    have hi' : i < n1 := by simpa using hi
    rw [List.filter_append, List.map_append, List.filter_append]
    have e3 : ((((List.range n2).map (n1 + ·)).filter (meetR Y i)).map fun j => (i, j)).filter (tchB Y) = [] := by
      refine filter_nil_of fun p hp => ?_
      obtain ⟨j, hj, rfl⟩ := List.mem_map.1 hp
      obtain ⟨hj1, hj2⟩ := List.mem_filter.1 hj
      obtain ⟨j0, hj0, rfl⟩ := List.mem_map.1 hj1
      have hj0 : j0 < n2 := by simpa using hj0
      by_cases ht : tchB Y (i, n1 + j0) = true
      · exfalso
        refine hA (i, n1 + j0) ?_ ⟨hi', Nat.le_add_right _ _⟩
        refine List.mem_filter.2 ⟨mem_pairsR.2 ?_, ht⟩
        unfold meetR at hj2
        simp only [Bool.and_eq_true, decide_eq_true_eq] at hj2
        exact ⟨hj2.1, by show n1 + j0 < n1 + n2; omega, hj2.2⟩
      · simpa using ht
    rw [e3, List.append_nil]
    have e4 : (List.range n1).filter (meetR Y i) = (List.range n1).filter (meetR X i) := List.filter_congr fun j hj => by
      have hj' : j < n1 := by simpa using hj
      unfold meetR
      rw [box_eq fun q _ => h i hi' q, box_eq fun q _ => h j hj' q]
    rw [e4]
    refine List.filter_congr fun p hp => ?_
    obtain ⟨j, hj, rfl⟩ := List.mem_map.1 hp
    have hj' : j < n1 := by simpa using (List.mem_filter.1 hj).1
    unfold tchB
    rw [tchR_eq (fun q _ => h i hi' q) fun q _ => h j hj' q]
  · obtain ⟨i, hi, hp⟩ := List.mem_flatMap.1 hp
    obtain ⟨i0, _, rfl⟩ := List.mem_map.1 hi
    obtain ⟨j, _, rfl⟩ := List.mem_map.1 (List.mem_filter.1 hp).1
    exact Nat.le_add_right _ _
theorem tch_of {n2 : Nat} (h : Agr n1 X Y) (hA : Apart Y n1 (n1 + n2)) : Tch n1 (n1 + n2) X Y (touchS X n1) (touchS Y (n1 + n2)) (touchL X n1).length (touchL Y (n1 + n2)).length := by
  obtain ⟨rest, e, hrest⟩ := touchL_split h hA
  have hmem : ∀ p ∈ touchL Y (n1 + n2), p.1 < p.2 ∧ p.2 < n1 + n2 := fun p hp => by
    obtain ⟨h1, h2, _⟩ := mem_pairsR.1 (List.mem_filter.1 hp).1
    exact ⟨h1, h2⟩
  refine ⟨by rw [e, List.length_append]; omega, fun k hk => ?_, fun k hk q => ?_, fun k h1 h2 => ?_⟩
  · obtain ⟨p, hp⟩ : ∃ p, (touchL X n1)[k]? = some p := ⟨_, List.getElem?_eq_getElem hk⟩
    have hm := List.mem_of_getElem? hp
    obtain ⟨g1, g2, _⟩ := mem_pairsR.1 (List.mem_filter.1 hm).1
    exact ⟨p.1, p.2, by omega, g2, by omega, touchM_at hp 0, touchM_at hp 1⟩
  · obtain ⟨p, hp⟩ : ∃ p, (touchL X n1)[k]? = some p := ⟨_, List.getElem?_eq_getElem hk⟩
    have hp' : (touchL Y (n1 + n2))[k]? = some p := by rw [e, List.getElem?_append_left hk]; exact hp
    have hm := List.mem_of_getElem? hp
    obtain ⟨g1, g2⟩ := touchL_lt hm
    show touchM Y _ k q = touchM X _ k q
    rw [touchM_at hp', touchM_at hp]
    unfold touchRow
    rw [h _ g1, h _ g2, tchR_eq (fun q _ => h _ g1 q) fun q _ => h _ g2 q]
  · obtain ⟨p, hp⟩ : ∃ p, (touchL Y (n1 + n2))[k]? = some p := ⟨_, List.getElem?_eq_getElem h2⟩
    have hm := List.mem_of_getElem? hp
    obtain ⟨g1, g2⟩ := hmem p hm
    have hr : n1 ≤ p.1 := by
      rw [e, List.getElem?_append_right h1] at hp
      exact hrest p (List.mem_of_getElem? hp)
    exact ⟨p.1, p.2, hr, by omega, by omega, g2, by omega, touchM_at (by assumption) 0, touchM_at (by assumption) 1⟩
theorem stepM_agr {n2 : Nat} (c : Cf) (hr : Rise X n1) (hr' : Rise Y (n1 + n2)) (h : Agr n1 X Y) (hA : Apart Y n1 (n1 + n2)) : Agr n1 (stepM c X n1) (stepM c Y (n1 + n2)) :=
  stepT_agr c (Nat.le_add_right _ _) hr hr' (tch_of h hA) h
end
end Go.Proofs.YtniahipadfgkbaaGreat
