/- The world in memory; a body put into it. Conditions: none. -/
import Derived.Test.YtniahipadfgkbaaGreatKV2
import Derived.Test.YtniahipadfgkbaaGreatKG8
import Derived.Test.YtniahipadfgkbaaGreatKS4
import Derived.Test.YtniahipadfgkbaaGreatKT2
import Derived.Test.YtniahipadfgkbaaGreatKStill0
namespace Go.Proofs.YtniahipadfgkbaaGreat
open Go Go.ChangeShapes Go.WideShapes Go.ChangeAt Go.RowKit Go.BigFrame
/-- the box around row i -/
def boxR (M : Nat → Nat → Int) (i : Nat) : Bx :=
  ⟨sub (M i 6) (hf (M i 2) (M i 3) (M i 3)), sub (M i 7) (hf (M i 2) (M i 3) (M i 4)), sub (M i 8) (hf (M i 2) (M i 3) (M i 5)), add (M i 6) (hf (M i 2) (M i 3) (M i 3)), add (M i 7) (hf (M i 2) (M i 3) (M i 4)), add (M i 8) (hf (M i 2) (M i 3) (M i 5))⟩
/-- D has the boxes of the rows, and no other -/
structure TreeOf (D : Int → Option Bx) (M : Nat → Nat → Int) (n : Nat) : Prop where
  yes : ∀ i, i < n → D (M i 0) = some (boxR M i)
  no : ∀ x, (∀ i, i < n → M i 0 ≠ x) → D x = none
def tchR (M : Nat → Nat → Int) (i j : Nat) : Int × Int × Int × Int := touchT (M i 2) (M i 3) (M i 4) (M i 5) (M i 6) (M i 7) (M i 8) (M j 2) (M j 3) (M j 4) (M j 5) (M j 6) (M j 7) (M j 8)
def meetR (M : Nat → Nat → Int) (i j : Nat) : Bool := decide (i < j) && meetX (boxR M i) (boxR M j)
def tchB (M : Nat → Nat → Int) (p : Nat × Nat) : Bool := tk (tchR M p.1 p.2)
def idsR (M : Nat → Nat → Int) (p : Nat × Nat) : Int × Int := (M p.1 0, M p.2 0)
/-- the pairs of rows whose boxes meet -/
def pairsR (M : Nat → Nat → Int) (n : Nat) : List (Nat × Nat) := (List.range n).flatMap fun i => ((List.range n).filter (meetR M i)).map fun j => (i, j)
/-- those that touch -/
def touchL (M : Nat → Nat → Int) (n : Nat) : List (Nat × Nat) := (pairsR M n).filter (tchB M)
def touchRow (M : Nat → Nat → Int) (p : Nat × Nat) (c : Nat) : Int := match c with
  | 0 => M p.1 0
  | 1 => M p.2 0
  | 2 => tx (tchR M p.1 p.2)
  | 3 => ty (tchR M p.1 p.2)
  | 4 => tz (tchR M p.1 p.2)
  | 5 => td (tchR M p.1 p.2)
  | _ => 0
/-- a list of pairs as touches -/
def touchM (M : Nat → Nat → Int) (l : List (Nat × Nat)) (k c : Nat) : Int := match l[k]? with
  | none => 0
  | some p => touchRow M p c
theorem touchM_at {M : Nat → Nat → Int} {l : List (Nat × Nat)} {k : Nat} {p : Nat × Nat} (h : l[k]? = some p) (c : Nat) : touchM M l k c = touchRow M p c := by
  unfold touchM
  rw [h]
theorem mem_pairsR {M : Nat → Nat → Int} {n : Nat} {p : Nat × Nat} : p ∈ pairsR M n ↔ p.1 < p.2 ∧ p.2 < n ∧ meetX (boxR M p.1) (boxR M p.2) = true := by
  obtain ⟨i, j⟩ := p
  simp only [pairsR, List.mem_flatMap, List.mem_range, List.mem_map, List.mem_filter, Prod.mk.injEq, meetR, Bool.and_eq_true, decide_eq_true_eq]
  constructor
  · rintro ⟨a, ha, b, ⟨hb, hab, hm⟩, rfl, rfl⟩
    exact ⟨hab, hb, hm⟩
  · rintro ⟨h1, h2, h3⟩
    exact ⟨i, by omega, j, ⟨h2, h1, h3⟩, rfl, rfl⟩
theorem pairsR_sorted {M : Nat → Nat → Int} {n : Nat} (hs : Rise M n) : ((pairsR M n).map (idsR M)).Pairwise ltP := by
  rw [List.pairwise_map]
  unfold pairsR
  rw [List.pairwise_flatMap]
  refine ⟨fun i hi => ?_, ?_⟩
  · rw [List.pairwise_map]
    refine List.Pairwise.imp_of_mem (R := fun a b => a < b) ?_ (List.Pairwise.filter _ List.pairwise_lt_range)
    intro a b _ hb hab
    have hb' := (List.mem_filter.1 hb).1
    exact .inr ⟨rfl, hs a b hab (by simpa using hb')⟩
  · refine List.Pairwise.imp_of_mem (R := fun a b => a < b) ?_ List.pairwise_lt_range
    intro a b _ hb hab x hx y hy
    simp only [List.mem_map] at hx hy
    obtain ⟨_, _, rfl⟩ := hx
    obtain ⟨_, _, rfl⟩ := hy
    exact .inl (hs a b hab (by simpa using hb))
theorem Rise.inj {M : Nat → Nat → Int} {n i j : Nat} (h : Rise M n) (hi : i < n) (hj : j < n) (e : M i 0 = M j 0) : i = j := by
  rcases Nat.lt_trichotomy i j with h1 | h1 | h1
  · have := h i j h1 hj; omega
  · exact h1
  · have := h j i h1 hi; omega
theorem TreeOf.some_ {D : Int → Option Bx} {M : Nat → Nat → Int} {n : Nat} (h : TreeOf D M n) {x : Int} {b : Bx} (e : D x = some b) : ∃ i, i < n ∧ M i 0 = x ∧ b = boxR M i := by
  by_cases hx : ∃ i, i < n ∧ M i 0 = x
  · obtain ⟨i, hi, rfl⟩ := hx
    rw [h.yes i hi] at e
    exact ⟨i, hi, rfl, (Option.some.inj e).symm⟩
  · rw [h.no x fun i hi e' => hx ⟨i, hi, e'⟩] at e
    cases e
/-- the pairs that the tree tells are those of the rows -/
theorem pairs_rows {D : Int → Option Bx} {M : Nat → Nat → Int} {n : Nat} {ps : List (Int × Int)} (h : TreeOf D M n) (hs : Rise M n) (hp : ps.Pairwise ltP) (hm : ∀ x y, (x, y) ∈ ps ↔ PairX D x y) : ps = (pairsR M n).map (idsR M) := by
  refine pairs_same (D := D) hp (pairsR_sorted hs) hm fun x y => ?_
  constructor
  · intro hx
    obtain ⟨⟨i, j⟩, hij, e⟩ := List.mem_map.1 hx
    obtain ⟨h1, h2, h3⟩ := mem_pairsR.1 hij
    cases e
    exact ⟨hs i j h1 h2, _, _, h.yes i (by omega), h.yes j h2, h3⟩
  · rintro ⟨hxy, a, b, ha, hb, hab⟩
    obtain ⟨i, hi, rfl, rfl⟩ := h.some_ ha
    obtain ⟨j, hj, rfl, rfl⟩ := h.some_ hb
    refine List.mem_map.2 ⟨(i, j), mem_pairsR.2 ⟨?_, hj, hab⟩, rfl⟩
    show i < j
    rcases Nat.lt_trichotomy i j with h1 | h1 | h1
    · exact h1
    · subst h1; omega
    · have := hs j i h1 hi; omega
theorem pairsR_lt {M : Nat → Nat → Int} {n : Nat} {p : Nat × Nat} (h : p ∈ pairsR M n) : p.1 < n ∧ p.2 < n := by
  obtain ⟨h1, h2, _⟩ := mem_pairsR.1 h
  exact ⟨by omega, h2⟩
/-- a world's settings -/
structure Cf where
  f1 : Int
  f2 : Int
  f3 : Int
  bo : Int
  ru : Int
  ro : Int
  qu : Int
/-- the first k rows pushed, and fallen -/
def gravF (c : Cf) (M : Nat → Nat → Int) (k : Nat) : Nat → Nat → Int := fun a j =>
  if a < k ∧ 0 < M a 15 then (if j = 9 then clamp 6553600 (add (add (M a 9) (M a 12)) c.f1) else if j = 10 then clamp 6553600 (add (add (M a 10) (M a 13)) c.f2) else if j = 11 then clamp 6553600 (add (add (M a 11) (M a 14)) c.f3) else M a j) else M a j
theorem gravF_zero (c : Cf) (M : Nat → Nat → Int) (a j : Nat) : gravF c M 0 a j = M a j := if_neg (by omega)
theorem gravF_row (c : Cf) (M : Nat → Nat → Int) (k j : Nat) : gravF c M k k j = M k j := if_neg (by omega)
theorem gravF_col (c : Cf) (M : Nat → Nat → Int) (k a : Nat) {j : Nat} (h : j < 9 ∨ 11 < j) : gravF c M k a j = M a j := by
  unfold gravF
  rw [if_neg (by omega : ¬ j = 9), if_neg (by omega : ¬ j = 10), if_neg (by omega : ¬ j = 11), ite_self]
theorem gravF_no {c : Cf} {M : Nat → Nat → Int} {k : Nat} (h : M k 15 ≤ 0) (a j : Nat) : gravF c M k a j = gravF c M (k + 1) a j := by
  unfold gravF
  by_cases e : a = k
  · subst e
    rw [if_neg (by omega), if_neg (by omega)]
  · by_cases e2 : a < k
    · simp only [e2, Nat.lt_succ_of_lt e2]
    · rw [if_neg (by omega), if_neg (by omega)]
theorem gravF_yes {c : Cf} {M : Nat → Nat → Int} {k : Nat} (h : 0 < M k 15) (a j : Nat) :
    put3 (gravF c M k) k 9 (clamp 6553600 (add (add (M k 9) (M k 12)) c.f1)) (clamp 6553600 (add (add (M k 10) (M k 13)) c.f2)) (clamp 6553600 (add (add (M k 11) (M k 14)) c.f3)) a j = gravF c M (k + 1) a j := by
  by_cases e : a = k
  · subst e
    unfold put3 put1
    by_cases h9 : j = 9
    · subst h9; simp [gravF, h]
    by_cases h10 : j = 10
    · subst h10; simp [gravF, h]
    by_cases h11 : j = 11
    · subst h11; simp [gravF, h]
    simp [gravF, h9, h10, h11]
  · rw [put3_row _ _ _ _ _ _ e]
    unfold gravF
    by_cases e2 : a < k
    · simp only [e2, Nat.lt_succ_of_lt e2]
    · rw [if_neg (by omega), if_neg (by omega)]
/-- the first k rows gone on -/
def moveF (M : Nat → Nat → Int) (k : Nat) : Nat → Nat → Int := fun a j =>
  if a < k then (if j = 6 then clamp 65536000 (add (M a 6) (M a 9)) else if j = 7 then clamp 65536000 (add (M a 7) (M a 10)) else if j = 8 then clamp 65536000 (add (M a 8) (M a 11))
    else if j = 9 then stopD (add (M a 6) (M a 9)) (clamp 65536000 (add (M a 6) (M a 9))) (M a 9) else if j = 10 then stopD (add (M a 7) (M a 10)) (clamp 65536000 (add (M a 7) (M a 10))) (M a 10) else if j = 11 then stopD (add (M a 8) (M a 11)) (clamp 65536000 (add (M a 8) (M a 11))) (M a 11) else M a j) else M a j
theorem moveF_zero (M : Nat → Nat → Int) (a j : Nat) : moveF M 0 a j = M a j := if_neg (by omega)
theorem moveF_row (M : Nat → Nat → Int) (k j : Nat) : moveF M k k j = M k j := if_neg (by omega)
theorem moveF_col (M : Nat → Nat → Int) (k a : Nat) {j : Nat} (h : j < 6 ∨ 11 < j) : moveF M k a j = M a j := by
  unfold moveF
  rw [if_neg (by omega : ¬ j = 6), if_neg (by omega : ¬ j = 7), if_neg (by omega : ¬ j = 8), if_neg (by omega : ¬ j = 9), if_neg (by omega : ¬ j = 10), if_neg (by omega : ¬ j = 11), ite_self]
theorem moveF_succ (M : Nat → Nat → Int) (k a j : Nat) :
    put3 (put3 (moveF M k) k 6 (clamp 65536000 (add (M k 6) (M k 9))) (clamp 65536000 (add (M k 7) (M k 10))) (clamp 65536000 (add (M k 8) (M k 11)))) k 9 (stopD (add (M k 6) (M k 9)) (clamp 65536000 (add (M k 6) (M k 9))) (M k 9)) (stopD (add (M k 7) (M k 10)) (clamp 65536000 (add (M k 7) (M k 10))) (M k 10)) (stopD (add (M k 8) (M k 11)) (clamp 65536000 (add (M k 8) (M k 11))) (M k 11)) a j = moveF M (k + 1) a j := by
  by_cases e : a = k
  · subst e
    unfold put3 put1
    by_cases h6 : j = 6
    · subst h6; simp [moveF]
    by_cases h7 : j = 7
    · subst h7; simp [moveF]
    by_cases h8 : j = 8
    · subst h8; simp [moveF]
    by_cases h9 : j = 9
    · subst h9; simp [moveF]
    by_cases h10 : j = 10
    · subst h10; simp [moveF]
    by_cases h11 : j = 11
    · subst h11; simp [moveF]
    simp [moveF, h6, h7, h8, h9, h10, h11]
  · rw [put3_row _ _ _ _ _ _ e, put3_row _ _ _ _ _ _ e]
    unfold moveF
    by_cases e2 : a < k
    · simp only [e2, Nat.lt_succ_of_lt e2]
    · rw [if_neg (by omega), if_neg (by omega)]
/-- the touches ahead of a step -/
def touchS (M : Nat → Nat → Int) (n : Nat) : Nat → Nat → Int := touchM M (touchL M n)
/-- what a step makes of the rows, T the touches, m how many -/
def stepT (c : Cf) (M T : Nat → Nat → Int) (n m : Nat) : Nat → Nat → Int := placesF (moveF (speedsF (gravF c M n) T n m c.bo c.ru c.ro) n) T n m
def stepM (c : Cf) (M : Nat → Nat → Int) (n : Nat) : Nat → Nat → Int := stepT c M (touchS M n) n (touchL M n).length
/-- nothing but where it is, and how fast, is turned -/
theorem stepT_col (c : Cf) (M T : Nat → Nat → Int) (n m a : Nat) {j : Nat} (h : j < 6 ∨ 11 < j) : stepT c M T n m a j = M a j := by
  unfold stepT
  rw [placesF_col a (by omega), moveF_col _ _ _ h, speedsF_col a (by omega), gravF_col _ _ _ _ (by omega)]
theorem box_eq {M M' : Nat → Nat → Int} {i : Nat} (h : ∀ j, j < 9 → M i j = M' i j) : boxR M i = boxR M' i := by
  unfold boxR
  rw [h 2 (by decide), h 3 (by decide), h 4 (by decide), h 5 (by decide), h 6 (by decide), h 7 (by decide), h 8 (by decide)]
theorem tchR_eq {M M' : Nat → Nat → Int} {i k : Nat} (h : ∀ j, j < 9 → M i j = M' i j) (h' : ∀ j, j < 9 → M k j = M' k j) : tchR M i k = tchR M' i k := by
  unfold tchR
  rw [h 2 (by decide), h 3 (by decide), h 4 (by decide), h 5 (by decide), h 6 (by decide), h 7 (by decide), h 8 (by decide), h' 2 (by decide), h' 3 (by decide), h' 4 (by decide), h' 5 (by decide), h' 6 (by decide), h' 7 (by decide), h' 8 (by decide)]
theorem TreeOf.eq {D : Int → Option Bx} {M M' : Nat → Nat → Int} {n : Nat} (h : TreeOf D M n) (e : ∀ i, i < n → ∀ j, j < 9 → M i j = M' i j) : TreeOf D M' n where
  yes i hi := by rw [← e i hi 0 (by decide), h.yes i hi, box_eq (e i hi)]
  no x hx := h.no x fun i hi => by rw [e i hi 0 (by decide)]; exact hx i hi
theorem Rise.eq {M M' : Nat → Nat → Int} {n : Nat} (h : Rise M n) (e : ∀ i, i < n → M i 0 = M' i 0) : Rise M' n := fun i j hij hj => by
  rw [← e i (by omega), ← e j hj]
  exact h i j hij hj
theorem flatMap_eq {α β : Type} {l : List α} {f g : α → List β} (h : ∀ x ∈ l, f x = g x) : l.flatMap f = l.flatMap g := by
  induction l with
  | nil => rfl
  | cons x l ih => rw [List.flatMap_cons, List.flatMap_cons, h x (List.mem_cons_self ..), ih fun y hy => h y (List.mem_cons_of_mem _ hy)]
theorem pairsR_eq {M M' : Nat → Nat → Int} {n : Nat} (e : ∀ i, i < n → ∀ j, j < 9 → M i j = M' i j) : pairsR M n = pairsR M' n := by
  unfold pairsR
  refine flatMap_eq fun i hi => ?_
  have hi' : i < n := by simpa using hi
  refine congrArg _ (List.filter_congr fun j hj => ?_)
  have hj' : j < n := by simpa using hj
  unfold meetR
  rw [box_eq (e i hi'), box_eq (e j hj')]
theorem touchL_eq {M M' : Nat → Nat → Int} {n : Nat} (e : ∀ i, i < n → ∀ j, j < 9 → M i j = M' i j) : touchL M n = touchL M' n := by
  unfold touchL
  rw [pairsR_eq e]
  refine List.filter_congr fun p hp => ?_
  obtain ⟨h1, h2⟩ := pairsR_lt hp
  unfold tchB
  rw [tchR_eq (e _ h1) (e _ h2)]
theorem touchM_eq {M M' : Nat → Nat → Int} {n : Nat} {l : List (Nat × Nat)} (e : ∀ i, i < n → ∀ j, j < 9 → M i j = M' i j) (hl : ∀ p ∈ l, p.1 < n ∧ p.2 < n) (k c : Nat) : touchM M l k c = touchM M' l k c := by
  unfold touchM
  cases h : l[k]? with
  | none => rfl
  | some p =>
    obtain ⟨h1, h2⟩ := hl p (List.mem_of_getElem? h)
    show touchRow M p c = touchRow M' p c
    unfold touchRow
    rw [e _ h1 0 (by decide), e _ h2 0 (by decide), tchR_eq (e _ h1) (e _ h2)]
theorem touchL_lt {M : Nat → Nat → Int} {n : Nat} {p : Nat × Nat} (h : p ∈ touchL M n) : p.1 < n ∧ p.2 < n := pairsR_lt (List.mem_filter.1 h).1
theorem stop_bd {a b s m : Int} (hm : 0 ≤ m) (h : -m ≤ s ∧ s ≤ m) : -m ≤ stopD a b s ∧ stopD a b s ≤ m := by
  unfold stopD
  split
  · omega
  · exact h
theorem clamp_bd9 {m n : Int} (hm : 0 ≤ m) : -m ≤ clamp m n ∧ clamp m n ≤ m := by
  unfold clamp
  rw [Int.max_eq_left hm]
  exact clampP_bd m n hm
/-- a row that may be -/
structure RowOk (M : Nat → Nat → Int) (i : Nat) : Prop where
  shape : shapeB (M i 2) (M i 3) (M i 4) (M i 5) = true
  at_ : Bd M i 6 65536000
  speed : Bd M i 9 6553600
theorem put3_bd {M : Nat → Nat → Int} {i j a : Nat} {x y z most : Int} (h : Bd M a j most) (hx : -most ≤ x ∧ x ≤ most) (hy : -most ≤ y ∧ y ≤ most) (hz : -most ≤ z ∧ z ≤ most) : Bd (put3 M i j x y z) a j most := by
  by_cases e : a = i
  · subst e
    refine ⟨?_, ?_, ?_⟩
    · have : put3 M a j x y z a j = x := by simp [put3, put1]
      rw [this]; exact hx
    · have : put3 M a j x y z a (j + 1) = y := by simp [put3, put1]
      rw [this]; exact hy
    · have : put3 M a j x y z a (j + 2) = z := by simp [put3, put1]
      rw [this]; exact hz
  · exact h.of fun c => put3_row _ _ _ _ _ _ e c
theorem placesF_bd {M T : Nat → Nat → Int} {n a : Nat} (h : Bd M a 6 65536000) : ∀ k, Bd (placesF M T n k) a 6 65536000
  | 0 => h
  | k + 1 => by
    have ih := placesF_bd (T := T) (n := n) h k
    show Bd (placeStep _ _ _ _ _ _ _ _) a 6 65536000
    unfold placeStep
    split
    · unfold placeGo
      split
      · exact put3_bd (put3_bd ih (clamp_bd9 (by decide)) (clamp_bd9 (by decide)) (clamp_bd9 (by decide))) (clamp_bd9 (by decide)) (clamp_bd9 (by decide)) (clamp_bd9 (by decide))
      · exact ih
    · exact ih
theorem speedsF_bd {M T : Nat → Nat → Int} {n m a : Nat} {bo ru ro : Int} (hr : RightL bo ru ro) (ha : a < n) : Bd (speedsF M T n m bo ru ro) a 9 6553600 := by
  unfold speedsF
  rw [if_pos hr]
  have e : ∀ c, c = 9 ∨ c = 10 ∨ c = 11 → -6553600 ≤ clampF (passes M T n m bo ru ro.toNat) n a c ∧ clampF (passes M T n m bo ru ro.toNat) n a c ≤ 6553600 := fun c hc => by
    unfold clampF
    rw [if_pos ⟨ha, hc⟩]
    exact clamp_bd9 (by decide)
  exact ⟨e 9 (by omega), e 10 (by omega), e 11 (by omega)⟩
theorem moveF_bd {M : Nat → Nat → Int} {n a : Nat} (ha : a < n) (h : Bd M a 9 6553600) : Bd (moveF M n) a 6 65536000 ∧ Bd (moveF M n) a 9 6553600 := by
  refine ⟨⟨?_, ?_, ?_⟩, ?_, ?_, ?_⟩
  · have : moveF M n a 6 = clamp 65536000 (add (M a 6) (M a 9)) := by simp [moveF, ha]
    rw [this]; exact clamp_bd9 (by decide)
  · have : moveF M n a 7 = clamp 65536000 (add (M a 7) (M a 10)) := by simp [moveF, ha]
    rw [this]; exact clamp_bd9 (by decide)
  · have : moveF M n a 8 = clamp 65536000 (add (M a 8) (M a 11)) := by simp [moveF, ha]
    rw [this]; exact clamp_bd9 (by decide)
  · have : moveF M n a 9 = stopD (add (M a 6) (M a 9)) (clamp 65536000 (add (M a 6) (M a 9))) (M a 9) := by simp [moveF, ha]
    rw [this]; exact stop_bd (by decide) h.1
  · have : moveF M n a 10 = stopD (add (M a 7) (M a 10)) (clamp 65536000 (add (M a 7) (M a 10))) (M a 10) := by simp [moveF, ha]
    rw [this]; exact stop_bd (by decide) h.2.1
  · have : moveF M n a 11 = stopD (add (M a 8) (M a 11)) (clamp 65536000 (add (M a 8) (M a 11))) (M a 11) := by simp [moveF, ha]
    rw [this]; exact stop_bd (by decide) h.2.2
theorem Bd.col {M M' : Nat → Nat → Int} {a j : Nat} {most : Int} (h : Bd M a j most) (e : ∀ c, j ≤ c → c ≤ j + 2 → M' a c = M a c) : Bd M' a j most := by
  unfold Bd at h ⊢
  rw [e j (by omega) (by omega), e (j + 1) (by omega) (by omega), e (j + 2) (by omega) (by omega)]
  exact h
/-- after a step each row may be, as ahead of it -/
theorem stepT_ok {c : Cf} {M T : Nat → Nat → Int} {n m a : Nat} (hr : RightL c.bo c.ru c.ro) (ha : a < n) (h : RowOk M a) : RowOk (stepT c M T n m) a where
  shape := by rw [stepT_col _ _ _ _ _ _ (by omega), stepT_col _ _ _ _ _ _ (by omega), stepT_col _ _ _ _ _ _ (by omega), stepT_col _ _ _ _ _ _ (by omega)]; exact h.shape
  at_ := placesF_bd (moveF_bd ha (speedsF_bd hr ha)).1 m
  speed := (moveF_bd ha (speedsF_bd hr ha)).2.col fun c h1 _ => placesF_col a (by omega) m
theorem box_right {M : Nat → Nat → Int} {i : Nat} (h : RowOk M i) : wrongX (boxR M i) = false ∧ beyondX (boxR M i) = false := by
  obtain ⟨hk, h1, h2, g1, g2, g3⟩ := shape_hf h.shape
  obtain ⟨⟨a1, a2⟩, ⟨a3, a4⟩, a5, a6⟩ := h.at_
  have hs := h.shape
  have k1 : hf (M i 2) (M i 3) (M i 3) ≤ 3276800 := by unfold hf; split <;> omega
  have k2 : hf (M i 2) (M i 3) (M i 4) ≤ 3276800 := by
    unfold hf
    split
    · omega
    · rename_i hne
      unfold shapeB at hs
      rw [if_neg hne] at hs
      split at hs
      · simp only [Bool.and_eq_true] at hs
        exact (szB_le hs.1.2).2
      · cases hs
  have k3 : hf (M i 2) (M i 3) (M i 5) ≤ 3276800 := by
    unfold hf
    split
    · omega
    · rename_i hne
      unfold shapeB at hs
      rw [if_neg hne] at hs
      split at hs
      · simp only [Bool.and_eq_true] at hs
        exact (szB_le hs.2).2
      · cases hs
  have a3 : -65536000 ≤ M i 7 := a3
  have a4 : M i 7 ≤ 65536000 := a4
  have a5 : -65536000 ≤ M i 8 := a5
  have a6 : M i 8 ≤ 65536000 := a6
  have e : ∀ x y : Int, -65536000 ≤ x → x ≤ 65536000 → 1 ≤ y → y ≤ 3276800 → sub x y = x - y ∧ add x y = x + y := fun x y _ _ _ _ => by
    unfold sub add
    rw [cut_in (n := x) (by omega) (by omega), cut_in (n := y) (by omega) (by omega), cut_in (by omega) (by omega), cut_in (by omega) (by omega)]
    exact ⟨rfl, rfl⟩
  have e1 := e _ _ a1 a2 g1 k1
  have e2 := e _ _ a3 a4 g2 k2
  have e3 := e _ _ a5 a6 g3 k3
  unfold wrongX beyondX boxR
  simp only [e1.1, e1.2, e2.1, e2.2, e3.1, e3.2]
  refine ⟨?_, ?_⟩
  · simp only [Bool.or_eq_false_iff, decide_eq_false_iff_not]
    omega
  · simp only [Bool.or_eq_false_iff, decide_eq_false_iff_not]
    omega
end Go.Proofs.YtniahipadfgkbaaGreat
namespace Go.Proofs.YtniahipadfgkbaaGreat
open Go Go.Maps Go.RowKit Go.BigFrame Go.ChangeShapes Go.WideShapes Go.ChangeAt
/-- a world's block -/
def wcells (c : Cf) (A : Option Addr) (n cap t : Nat) (nx st : Int) : Array Value := #[.int .i64 c.f1, .int .i64 c.f2, .int .i64 c.f3, .int .i64 c.bo, .int .i64 c.ru, .int .i64 c.ro, .int .i64 c.qu, .slice A n cap, .pointer (some ⟨t, 0, none⟩), .int .i64 nx, .int .i64 st]
/-- the world in memory -/
structure WMem (w : World) (b : Nat) (c : Cf) (A : Option Addr) (cap t n : Nat) (M : Nat → Nat → Int) (nx st : Int) (p : Nat) (D : Int → Option Bx) (R S : Nat → Prop) : Prop where
  blk : Blk w b (wcells c A n cap t nx st)
  row : RowQ 0 w A n cap M
  tree : BW w t 65536 p D n R
  td : TreeOf D M n
  rise : Rise M n
  ok : ∀ i, i < n → RowOk M i
  low : ∀ i, i < n → 1 ≤ M i 0 ∧ M i 0 < nx
  nxb : 1 ≤ nx ∧ nx ≤ 1000000000
  few : n ≤ 60
  law : RightL c.bo c.ru c.ro
  lt : ∀ x, S x → x < w.heap.size
  sb : S b
  sr : ∀ x, R x → S x
  sa : ∀ g, A = some ⟨g, 0, none⟩ → S g
  rb : ¬ R b
  ra : ∀ g, A = some ⟨g, 0, none⟩ → ¬ R g ∧ g ≠ b
/-- the world: what it answers by, and the blocks it may write -/
def WM (w : World) (b : Nat) (c : Cf) (n : Nat) (M : Nat → Nat → Int) (nx st : Int) (p : Nat) (S : Nat → Prop) : Prop := ∃ A cap t D R, WMem w b c A cap t n M nx st p D R S
/-- what a call that writes the world leaves -/
def WPost (w : World) (b : Nat) (c : Cf) (n : Nat) (M : Nat → Nat → Int) (nx st : Int) (p : Nat) (S : Nat → Prop) (w' : World) : Prop := Mod S w w' ∧ ∃ S', WM w' b c n M nx st p S' ∧ ∀ x, S' x → S x ∨ w.heap.size ≤ x
theorem ownBlock_at {A : Option Addr} {n cap g : Nat} {base : Nat} {w : World} {M : Nat → Nat → Int} (h : RowQ base w A n cap M) (e : (Value.slice A n cap).ownBlock = some g) : A = some ⟨g, 0, none⟩ := by
  obtain ⟨_, ⟨hv, _⟩ | ⟨g', c, cur, hv, _⟩⟩ := h
  · cases hv; cases e
  · cases hv
    simp only [Value.ownBlock, Option.some.injEq] at e
    rw [e]
section
variable {w w' : World} {b cap t n p : Nat} {c : Cf} {A : Option Addr} {M : Nat → Nat → Int} {nx st : Int} {D : Int → Option Bx} {R S T : Nat → Prop}
theorem RowQ.lt {base : Nat} (h : RowQ base w A n cap M) {g : Nat} (e : A = some ⟨g, 0, none⟩) : g < w.heap.size := by
  obtain ⟨_, ⟨hv, _⟩ | ⟨g', c, cur, hv, _, hb, _⟩⟩ := h
  · cases hv; cases e
  · cases hv; cases e
    exact lt_of_block hb
theorem WMem.mod (h : WMem w b c A cap t n M nx st p D R S) (k : Mod T w w') (hs : ∀ x, S x → ¬ T x) : WMem w' b c A cap t n M nx st p D R S :=
  { h with blk := h.blk.mod k (hs _ h.sb), row := h.row.mod k fun g e => hs _ (h.sa g e), tree := h.tree.mod k fun x hx => hs _ (h.sr x hx), lt := fun x hx => Nat.lt_of_lt_of_le (h.lt x hx) k.size }
theorem WM.mod (h : WM w b c n M nx st p S) (k : Mod T w w') (hs : ∀ x, S x → ¬ T x) : WM w' b c n M nx st p S := by
  obtain ⟨A, cap, t, D, R, h⟩ := h
  exact ⟨A, cap, t, D, R, h.mod k hs⟩
theorem WMem.below (h : WMem w b c A cap t n M nx st p D R S) (k : Below w.heap.size w w') : WMem w' b c A cap t n M nx st p D R S :=
  h.mod (T := fun _ => False) (Mod.of_below k) fun _ _ h => h
theorem WM.below (h : WM w b c n M nx st p S) (k : Below w.heap.size w w') : WM w' b c n M nx st p S := h.mod (T := fun _ => False) (Mod.of_below k) fun _ _ h => h
theorem WMem.reads (h : WMem w b c A cap t n M nx st p D R S) : Reads w A n 17 M := h.row.own.reads
theorem keyI {x : Int} (h : -4611686018427387904 ≤ x ∧ x ≤ 4611686018427387904) : keyOf Tryz.prog 3 (.int .i64 x) = some (.int .i64 x) := int_wf_key Tryz.underlying3 (intKey_wf (by omega) (by omega))
theorem WMem.keys (h : WMem w b c A cap t n M nx st p D R S) : KeysOk D := fun id hid => by
  obtain ⟨v, hv⟩ := Option.isSome_iff_exists.1 hid
  obtain ⟨i, hi, rfl, _⟩ := h.td.some_ hv
  have := h.low i hi
  have := h.nxb
  exact keyI (by omega)
end
theorem rowsL_succ (M : Nat → Nat → Int) {c : Nat} (hc : 0 < c) (k : Nat) : rowsL M c (k + 1) = rowsL M c k ++ (List.range c).map fun j => Value.int .i64 (M k j) := by
  unfold rowsL
  rw [Nat.add_mul, Nat.one_mul, List.range_add, List.map_append]
  congr 1
  rw [List.map_map]
  refine List.map_congr_left fun j hj => ?_
  have hj' : j < c := by simpa using hj
  have h2 : (k * c + j) / c = k := by rw [Nat.mul_comm, Nat.mul_add_div hc, Nat.div_eq_of_lt hj']; rfl
  have h3 : (k * c + j) % c = j := by rw [Nat.mul_comm, Nat.mul_add_mod, Nat.mod_eq_of_lt hj']
  simp only [Function.comp_apply, h2, h3]
theorem rowsL_congr {M M' : Nat → Nat → Int} {c n : Nat} (hc : 0 < c) (h : ∀ k, k < n → ∀ j, j < c → M k j = M' k j) : rowsL M c n = rowsL M' c n := by
  unfold rowsL
  refine List.map_congr_left fun q hq => ?_
  have hq' : q < n * c := by simpa using hq
  rw [h (q / c) (Nat.div_lt_of_lt_mul (by rwa [Nat.mul_comm])) (q % c) (Nat.mod_lt _ hc)]
theorem rowsL_push17 (M : Nat → Nat → Int) (k : Nat) (x : Nat → Int) : rowsL (setRow M k x) 17 (k + 1) = rowsL M 17 k ++ (#[.int .i64 (x 0), .int .i64 (x 1), .int .i64 (x 2), .int .i64 (x 3), .int .i64 (x 4), .int .i64 (x 5), .int .i64 (x 6), .int .i64 (x 7), .int .i64 (x 8), .int .i64 (x 9), .int .i64 (x 10), .int .i64 (x 11), .int .i64 (x 12), .int .i64 (x 13), .int .i64 (x 14), .int .i64 (x 15), .int .i64 (x 16)] : Array Value).toList := by
  rw [rowsL_succ _ (by decide), rowsL_congr (M := setRow M k x) (M' := M) (by decide) fun a ha j _ => if_neg (by omega)]
  have e : (List.range 17).map (fun j => Value.int .i64 (setRow M k x k j)) = (List.range 17).map fun j => Value.int .i64 (x j) := List.map_congr_left fun j _ => by
    have : setRow M k x k j = x j := if_pos rfl
    rw [this]
  rw [e]
  rfl
/-- append(s, x) of one body -/
theorem step_body {ops : Array Oper} {o : Oper} {a : Act} {w : World} {K : Act → World → Prop} {Q : Exit → Act → World → Prop} {E : Prop} (hg : o.guard = none) (s y : Operand) (ho : o.op = .call { callee := .builtin .append, args := #[s, y], argTypes := #[22, 22] })
    (A : Option Addr) (n cap : Nat) (M : Nat → Nat → Int) (x : Nat → Int) (hs : a.eval s = .slice A n cap) (hown : RowQ 0 w A n cap M) {p : Nat} (hx : a.eval y = .slice (some ⟨p, 0, none⟩) 1 1) (hc : Blk w p #[.int .i64 (x 0), .int .i64 (x 1), .int .i64 (x 2), .int .i64 (x 3), .int .i64 (x 4), .int .i64 (x 5), .int .i64 (x 6), .int .i64 (x 7), .int .i64 (x 8), .int .i64 (x 9), .int .i64 (x 10), .int .i64 (x 11), .int .i64 (x 12), .int .i64 (x 13), .int .i64 (x 14), .int .i64 (x 15), .int .i64 (x 16)]) (hn : n < 1000000)
    (hK : ∀ g cap' w', RowQ 0 w' (some ⟨g, 0, none⟩) (n + 1) cap' (setRow M n x) → Mod (fun z => (Value.slice A n cap).ownBlock = some z) w w' → ((Value.slice A n cap).ownBlock = some g ∨ g = w.heap.size) → K (a.put o.dst (.slice (some ⟨g, 0, none⟩) (n + 1) cap')) w') :
    if Region.wanted o (yielded ops a.tmps) = true then Oper.wp Tryz.prog o a w K Q else E := by
  have hw : Region.wanted o (yielded ops a.tmps) = true := by simp [Region.wanted, hg]
  rw [if_pos hw]
  obtain ⟨i, hi, hz, hsize, hbytes⟩ := info_three bodyInfo2
  obtain ⟨v', w', hr, h2, h3, h4, h5⟩ := run_append_own_at (P := Tryz.prog) w 0 22 o.type 37 i _ 17 136 Tryz.underlying22 hi hz hsize hbytes rfl (by decide) (.slice A n cap) n (rowsL M 17 n) hown ⟨p, 0, none⟩ 1 1 (#[.int .i64 (x 0), .int .i64 (x 1), .int .i64 (x 2), .int .i64 (x 3), .int .i64 (x 4), .int .i64 (x 5), .int .i64 (x 6), .int .i64 (x 7), .int .i64 (x 8), .int .i64 (x 9), .int .i64 (x 10), .int .i64 (x 11), .int .i64 (x 12), .int .i64 (x 13), .int .i64 (x 14), .int .i64 (x 15), .int .i64 (x 16)] : Array Value).toList rfl (fun j u hu => by
    have e : (⟨p, 0, none⟩ : Addr).add j = ⟨p, j, none⟩ := by cases j with | zero => rfl | succ j => simp [Addr.add]
    rw [e, hc.cell j, ← hu]
    simp) (by intro u hu; simp at hu; rcases hu with rfl | rfl | rfl | rfl | rfl | rfl | rfl | rfl | rfl | rfl | rfl | rfl | rfl | rfl | rfl | rfl | rfl <;> rfl) (by unfold maxLen; omega) (by omega) (Nat.zero_le _)
  rw [← rowsL_push17] at h2
  obtain ⟨g, cap', rfl, _, _, _, _⟩ := row_at h2 (by omega)
  unfold Oper.wp execOp
  simp only [ho, resolve, invoke, builtin, Sem.run_bind, Sem.run_pure, Result.andThen_ok, List.map_toArray, List.map_cons, List.map_nil, hs, hx, hr]
  exact hK g cap' w' h2 ((mod_grown h3).mono fun _ _ h => h) (by rcases h5 with h5 | h5; exact .inl h5.symm; right; injection h5)
/-- a body more -/
def pushR (M : Nat → Nat → Int) (n : Nat) (r : Nat → Int) (nx : Int) : Nat → Nat → Int := setRow M n fun j => if j = 0 then nx else r j
theorem pushR_new (M : Nat → Nat → Int) (n : Nat) (r : Nat → Int) (nx : Int) (j : Nat) : pushR M n r nx n j = if j = 0 then nx else r j := if_pos rfl
theorem pushR_old (M : Nat → Nat → Int) {n i : Nat} (r : Nat → Int) (nx : Int) (h : i < n) (j : Nat) : pushR M n r nx i j = M i j := if_neg (by omega)
/-- the box around a row by itself -/
def boxB (r : Nat → Int) : Bx := ⟨sub (r 6) (hf (r 2) (r 3) (r 3)), sub (r 7) (hf (r 2) (r 3) (r 4)), sub (r 8) (hf (r 2) (r 3) (r 5)), add (r 6) (hf (r 2) (r 3) (r 3)), add (r 7) (hf (r 2) (r 3) (r 4)), add (r 8) (hf (r 2) (r 3) (r 5))⟩
theorem boxR_push (M : Nat → Nat → Int) (n : Nat) (r : Nat → Int) (nx : Int) : boxR (pushR M n r nx) n = boxB r := by
  unfold boxR boxB
  simp only [pushR_new]
  rfl
/-- a row by itself that may be -/
structure BodyOk (r : Nat → Int) : Prop where
  shape : shapeB (r 2) (r 3) (r 4) (r 5) = true
  owner : 0 ≤ r 1 ∧ r 1 ≤ 8
  mass : 0 ≤ r 15 ∧ r 15 ≤ 65536000
  at_ : (-65536000 ≤ r 6 ∧ r 6 ≤ 65536000) ∧ (-65536000 ≤ r 7 ∧ r 7 ≤ 65536000) ∧ (-65536000 ≤ r 8 ∧ r 8 ≤ 65536000)
  speed : (-6553600 ≤ r 9 ∧ r 9 ≤ 6553600) ∧ (-6553600 ≤ r 10 ∧ r 10 ≤ 6553600) ∧ (-6553600 ≤ r 11 ∧ r 11 ≤ 6553600)
  push : (-6553600 ≤ r 12 ∧ r 12 ≤ 6553600) ∧ (-6553600 ≤ r 13 ∧ r 13 ≤ 6553600) ∧ (-6553600 ≤ r 14 ∧ r 14 ≤ 6553600)
theorem BodyOk.row {M : Nat → Nat → Int} {n : Nat} {r : Nat → Int} {nx : Int} (h : BodyOk r) : RowOk (pushR M n r nx) n where
  shape := by simp only [pushR_new]; exact h.shape
  at_ := by unfold Bd; simp only [pushR_new]; exact h.at_
  speed := by unfold Bd; simp only [pushR_new]; exact h.speed
theorem RowOk.eq {M M' : Nat → Nat → Int} {i : Nat} (h : RowOk M i) (e : ∀ j, M' i j = M i j) : RowOk M' i where
  shape := by rw [e, e, e, e]; exact h.shape
  at_ := h.at_.of e
  speed := h.speed.of e
theorem push_tree {D : Int → Option Bx} {M : Nat → Nat → Int} {n : Nat} {r : Nat → Int} {nx : Int} (h : TreeOf D M n) (hlow : ∀ i, i < n → M i 0 < nx) : TreeOf (updD D nx (boxR (pushR M n r nx) n)) (pushR M n r nx) (n + 1) where
  yes i hi := by
    by_cases e : i = n
    · subst e
      rw [pushR_new, if_pos rfl]
      exact if_pos rfl
    · have hi' : i < n := by omega
      rw [pushR_old _ _ _ hi', box_eq (fun j _ => pushR_old M r nx hi' j)]
      unfold updD
      rw [if_neg (by have := hlow i hi'; omega)]
      exact h.yes i hi'
  no x hx := by
    have h0 := hx n (Nat.lt_succ_self _)
    rw [pushR_new, if_pos rfl] at h0
    unfold updD
    rw [if_neg (fun e => h0 e.symm)]
    refine h.no x fun i hi => ?_
    have := hx i (by omega)
    rwa [pushR_old _ _ _ hi] at this
theorem push_rise {M : Nat → Nat → Int} {n : Nat} {r : Nat → Int} {nx : Int} (h : Rise M n) (hlow : ∀ i, i < n → M i 0 < nx) : Rise (pushR M n r nx) (n + 1) := fun i j hij hj => by
  by_cases e : j = n
  · subst e
    rw [pushR_new, if_pos rfl, pushR_old _ _ _ hij]
    exact hlow i hij
  · rw [pushR_old _ _ _ (by omega), pushR_old _ _ _ (by omega)]
    exact h i j hij (by omega)
set_option maxRecDepth 100000 in
set_option maxHeartbeats 8000000 in
theorem spawn_ok (w : World) (b : Nat) (c : Cf) (n : Nat) (M : Nat → Nat → Int) (nx st : Int) (p : Nat) (S : Nat → Prop) (r : Nat → Int) (hW : WM w b c n M nx st p S) (hr : BodyOk r) (hn : n < 60) (hq : r 1 ≤ 0 ∨ (ownsN M (r 1) n : Int) < c.qu) (hnx : nx < 1000000000) (hp : p < 300000) :
    Calls Tryz.prog 16 #[.pointer (some ⟨b, 0, none⟩), .agg #[.int .i64 (r 0), .int .i64 (r 1), .int .i64 (r 2), .int .i64 (r 3), .int .i64 (r 4), .int .i64 (r 5), .int .i64 (r 6), .int .i64 (r 7), .int .i64 (r 8), .int .i64 (r 9), .int .i64 (r 10), .int .i64 (r 11), .int .i64 (r 12), .int .i64 (r 13), .int .i64 (r 14), .int .i64 (r 15), .int .i64 (r 16)]] w fun e w' => e = .returned (.tuple #[.int .i64 nx, .nilIface]) ∧ WPost w b c (n + 1) (pushR M n r nx) (nx + 1) st (p + 1) S w' := by
  obtain ⟨A, cap, t, D, R, hW⟩ := hW
  have HW := Lib.hid hW
  have HN := Lib.hid hn
  have HP := Lib.hid hp
  have HNX := Lib.hid (And.intro hW.nxb hnx)
  have HR := Lib.hid hr
  have HC : Hid (∀ w x1 x2 x3 mo : Int, True) := Lib.hid (fun _ _ _ _ _ => trivial)
  have clv : ∀ (m x1 x2 x3 : Int), 0 ≤ m → m ≤ 70368744177664 → ((-m ≤ x1 ∧ x1 ≤ m) ∧ (-m ≤ x2 ∧ x2 ≤ m) ∧ (-m ≤ x3 ∧ x3 ≤ m)) → ∀ w, Calls Tryz.prog 12 #[.agg #[.int .i64 x1, .int .i64 x2, .int .i64 x3], .int .i64 m] w fun e w' => e = .returned (.agg #[.int .i64 x1, .int .i64 x2, .int .i64 x3]) ∧ Below w.heap.size w w' := fun m x1 x2 x3 h0 h1 hx w => by
    have h := clamp_c x1 x2 x3 m (by omega) w
    rw [clamp_in9 h0 hx.1, clamp_in9 h0 hx.2.1, clamp_in9 h0 hx.2.2] at h
    exact h
  have HC1 := Lib.hid (clv 65536000 (r 6) (r 7) (r 8) (by decide) (by decide) hr.at_)
  have HC2 := Lib.hid (clv 6553600 (r 9) (r 10) (r 11) (by decide) (by decide) hr.speed)
  have HC3 := Lib.hid (clv 6553600 (r 12) (r 13) (r 14) (by decide) (by decide) hr.push)
  clear clv HC
  have hneq : ∀ (x1 x2 x3 : Int) w, (binOp .neq 24 (.agg #[.int .i64 x1, .int .i64 x2, .int .i64 x3]) (.agg #[.int .i64 x1, .int .i64 x2, .int .i64 x3])).run Tryz.prog w = .ok (.bool false) w := fun x1 x2 x3 w => by rw [run_neq_vec]; simp [eq3]
  have d1 : decide (r 1 < 0) = false := decide_eq_false (by have := hr.owner; omega)
  have d2 : decide (8 < r 1) = false := decide_eq_false (by have := hr.owner; omega)
  have d3 : decide (r 15 < 0) = false := decide_eq_false (by have := hr.mass; omega)
  have d4 : decide (65536000 < r 15) = false := decide_eq_false (by have := hr.mass; omega)
  have d5 : decide ((60 : Int) ≤ (n : Int)) = false := decide_eq_false (by omega)
  have HRI : Hid (∀ w, Calls Tryz.prog 31 #[.agg #[.int .i64 (r 2), .int .i64 (r 3), .int .i64 (r 4), .int .i64 (r 5)]] w fun e w' => e = .returned (.bool true) ∧ Below w.heap.size w w') := Lib.hid (fun w => by have h := right_c (r 2) (r 3) (r 4) (r 5) w; rw [hr.shape] at h; exact h)
  have hqo : Hid (r 1 ≤ 0 ∨ (ownsN M (r 1) n : Int) < c.qu) := Lib.hid hq
  clear hW hn hp hnx hr hq
  go_enter Tryz.func16, Tryz.ntmps16
  go_upto_region 1 with fail
  have HB1 : Hid (Blk (w.alloc (.cells #[.int .i64 (r 0), .int .i64 (r 1), .int .i64 (r 2), .int .i64 (r 3), .int .i64 (r 4), .int .i64 (r 5), .int .i64 (r 6), .int .i64 (r 7), .int .i64 (r 8), .int .i64 (r 9), .int .i64 (r 10), .int .i64 (r 11), .int .i64 (r 12), .int .i64 (r 13), .int .i64 (r 14), .int .i64 (r 15), .int .i64 (r 16)] 37)) w.heap.size #[.int .i64 (r 0), .int .i64 (r 1), .int .i64 (r 2), .int .i64 (r 3), .int .i64 (r 4), .int .i64 (r 5), .int .i64 (r 6), .int .i64 (r 7), .int .i64 (r 8), .int .i64 (r 9), .int .i64 (r 10), .int .i64 (r 11), .int .i64 (r 12), .int .i64 (r 13), .int .i64 (r 14), .int .i64 (r 15), .int .i64 (r 16)]) := Lib.hid (Blk.at _ _ _ _ rfl)
  have HV1 : Hid (Below w.heap.size w (w.alloc (.cells #[.int .i64 (r 0), .int .i64 (r 1), .int .i64 (r 2), .int .i64 (r 3), .int .i64 (r 4), .int .i64 (r 5), .int .i64 (r 6), .int .i64 (r 7), .int .i64 (r 8), .int .i64 (r 9), .int .i64 (r 10), .int .i64 (r 11), .int .i64 (r 12), .int .i64 (r 13), .int .i64 (r 14), .int .i64 (r 15), .int .i64 (r 16)] 37))) := Lib.hid (below_alloc _ _)
  refine wp_fresh ?_
  rintro w1 hb1
  have HB1 := Lib.hid (HB1.out.below hb1)
  have HV1 := Lib.hid (HV1.out.trans (hb1.mono HV1.out.size))
  clear hb1
  obtain ⟨zp, cp, fp⟩ := id HB1.out
  go_upto_region 3 with (go_at_call 31; refine (HRI.out _).mono ?_; rintro e w2 ⟨rfl, hb2⟩)
  have HB2 := Lib.hid (HB1.out.below hb2)
  have HV2 := Lib.hid (HV1.out.trans (hb2.mono HV1.out.size))
  clear zp cp fp hb2
  obtain ⟨zp, cp, fp⟩ := id HB2.out
  have hmc := more_cell
  refine region_quiet_all (by kernel_rfl) (by kernel_rfl) ?_
  repeat (go_big_quiet_step (first | (go_at_call 12; first | with_reducible exact calls_after (HC1.out _) | with_reducible exact calls_after (HC2.out _) | with_reducible exact calls_after (HC3.out _))))
  refine wpQuiet_nil ?_
  rintro w3 hw3
  have hb3 := after_below hw3
  have HB3 := Lib.hid (HB2.out.below hb3)
  have HV3 := Lib.hid (HV2.out.trans (hb3.mono HV2.out.size))
  have HM3 : Hid (Blk w3 b (wcells c A n cap t nx st)) := Lib.hid (HW.out.blk.below HV3.out)
  clear zp cp fp hb3 hw3 d1 d2 d3 d4
  obtain ⟨zp, cp, fp⟩ := id HB3.out
  obtain ⟨zt, ct, ft⟩ := id HM3.out
  unfold wcells at ct
  go_upto_region 5 with fail
  have HOW : Hid (∀ w', Below w.heap.size w w' → Calls Tryz.prog 32 #[.pointer (some ⟨b, 0, none⟩), .int .i64 (r 1)] w' fun e w'' => e = .returned (.int .i64 (ownsN M (r 1) n : Nat)) ∧ Below w'.heap.size w' w'') := Lib.hid (fun w' hb' => owns_c c.f1 c.f2 c.f3 c.bo c.ru c.ro c.qu nx st A n cap (.pointer (some ⟨t, 0, none⟩)) M (r 1) w' b (HW.out.blk.below hb') (by have := HN.out; omega) (HW.out.reads.below hb'))
  have HV3b : Hid (∀ m : More, Below w.heap.size w (more w3.drew m)) := Lib.hid (fun m => (HV3.out.trans ((Below.refl _ _).drew.trans ((more_below _ m)) |>.mono HV3.out.size)))
  by_cases ho : r 1 ≤ 0
  · have e1 : decide (0 < r 1) = false := decide_eq_false (by omega)
    clear ho
    refine region_quiet_all (by kernel_rfl) (by kernel_rfl) ?_
    repeat (go_big_quiet_step (fail))
    refine wpQuiet_nil ?_
    rintro w4 hw4
    have hb4 := after_below hw4
    have HB4 := Lib.hid (HB3.out.below hb4)
    have HV4 := Lib.hid (HV3.out.trans (hb4.mono HV3.out.size))
    have HM4 := Lib.hid (HM3.out.below hb4)
    clear zp cp fp zt ct ft hb4 hw4 d5 e1
    obtain ⟨zp, cp, fp⟩ := id HB4.out
    obtain ⟨zt, ct, ft⟩ := id HM4.out
    unfold wcells at ct
    have hw9 : wrap64 (nx + 1) = nx + 1 := by have := HNX.out; unfold wrap64; omega
    go_upto_region 9 with fail
    refine wp_named ?_
    rintro w5 hw5
    have hbx : b ≠ w.heap.size := by have := HW.out.blk.lt; omega
    have HB5 : Hid (Blk w5 w.heap.size #[.int .i64 nx, .int .i64 (r 1), .int .i64 (r 2), .int .i64 (r 3), .int .i64 (r 4), .int .i64 (r 5), .int .i64 (r 6), .int .i64 (r 7), .int .i64 (r 8), .int .i64 (r 9), .int .i64 (r 10), .int .i64 (r 11), .int .i64 (r 12), .int .i64 (r 13), .int .i64 (r 14), .int .i64 (r 15), .int .i64 (r 16)]) := Lib.hid (by rw [hw5]; exact blk_as ((Blk.put HB4.out).far hbx) (by simp))
    have HM5 : Hid (Blk w5 b #[.int .i64 c.f1, .int .i64 c.f2, .int .i64 c.f3, .int .i64 c.bo, .int .i64 c.ru, .int .i64 c.ro, .int .i64 c.qu, .slice A n cap, .pointer (some ⟨t, 0, none⟩), .int .i64 (nx + 1), .int .i64 st]) := Lib.hid (by rw [hw5]; exact blk_as (Blk.put (HM4.out.far (Ne.symm hbx))) (by simp [wcells]))
    have HK5 : Hid (Mod S w w5) := Lib.hid (by rw [hw5]; exact ((Mod.of_below HV4.out).set (.inr (Nat.le_refl _))).set (.inl HW.out.sb))
    have HKr5 : Hid (Mod (· = b) w w5) := Lib.hid (by rw [hw5]; exact ((Mod.of_below HV4.out).set (.inr (Nat.le_refl _))).set (.inl rfl))
    clear hw5 zp cp fp zt ct ft hw9
    have hS0 : Blk w5.drew b #[.int .i64 c.f1, .int .i64 c.f2, .int .i64 c.f3, .int .i64 c.bo, .int .i64 c.ru, .int .i64 c.ro, .int .i64 c.qu, .slice A n cap, .pointer (some ⟨t, 0, none⟩), .int .i64 (nx + 1), .int .i64 st] ∧ Blk w5.drew w.heap.size #[.int .i64 nx, .int .i64 (r 1), .int .i64 (r 2), .int .i64 (r 3), .int .i64 (r 4), .int .i64 (r 5), .int .i64 (r 6), .int .i64 (r 7), .int .i64 (r 8), .int .i64 (r 9), .int .i64 (r 10), .int .i64 (r 11), .int .i64 (r 12), .int .i64 (r 13), .int .i64 (r 14), .int .i64 (r 15), .int .i64 (r 16)] := ⟨HM5.out.drew, HB5.out.drew⟩
    refine region_held_tail (fun w' => Blk w' b #[.int .i64 c.f1, .int .i64 c.f2, .int .i64 c.f3, .int .i64 c.bo, .int .i64 c.ru, .int .i64 c.ro, .int .i64 c.qu, .slice A n cap, .pointer (some ⟨t, 0, none⟩), .int .i64 (nx + 1), .int .i64 st] ∧ Blk w' w.heap.size #[.int .i64 nx, .int .i64 (r 1), .int .i64 (r 2), .int .i64 (r 3), .int .i64 (r 4), .int .i64 (r 5), .int .i64 (r 6), .int .i64 (r 7), .int .i64 (r 8), .int .i64 (r 9), .int .i64 (r 10), .int .i64 (r 11), .int .i64 (r 12), .int .i64 (r 13), .int .i64 (r 14), .int .i64 (r 15), .int .i64 (r 16)]) 8 (by kernel_rfl) (by kernel_rfl) hS0 (fun hHeld => ?_)
    clear hS0
    simp only [List.take_succ_cons, List.take_zero]
    refine wpAnyH_take (i := 0) (v := .pointer (some ⟨b, 0, none⟩)) rfl (by kernel_rfl) (by kernel_rfl) (by kernel_rfl) (fun _ _ _ h => h) (Or.inl ⟨by kernel_rfl, ?ya_0⟩) hHeld ?ra_0
    case ya_0 =>
      intro w hSw
      go_simp
      try with_reducible rfl
    try simp only [Act.put, List.getElem_toArray, List.getElem_cons_zero, List.setIfInBounds_toArray, List.set_cons_zero, List.set_cons_succ]
    refine wpAnyH_take (i := 1) (v := .pointer (some ⟨b, 0, none⟩)) rfl (by kernel_rfl) (by kernel_rfl) (by kernel_rfl) (fun _ _ _ h => h) (Or.inl ⟨by kernel_rfl, ?ya_1⟩) hHeld ?ra_1
    case ya_1 =>
      intro w hSw
      go_simp
      try with_reducible rfl
    try simp only [Act.put, List.getElem_toArray, List.getElem_cons_zero, List.getElem_cons_succ, List.setIfInBounds_toArray, List.set_cons_zero, List.set_cons_succ]
    refine wpAnyH_take (i := 2) (v := .pointer (some ⟨b, 0, none⟩)) rfl (by kernel_rfl) (by kernel_rfl) (by kernel_rfl) (fun _ _ _ h => h) (Or.inl ⟨by kernel_rfl, ?ya_2⟩) hHeld ?ra_2
    case ya_2 =>
      intro w hSw
      go_simp
      try with_reducible rfl
    try simp only [Act.put, List.getElem_toArray, List.getElem_cons_zero, List.getElem_cons_succ, List.setIfInBounds_toArray, List.set_cons_zero, List.set_cons_succ]
    refine wpAnyH_take (i := 3) (v := .pointer (some ⟨b, 7, none⟩)) rfl (by kernel_rfl) (by kernel_rfl) (by kernel_rfl) (fun _ _ _ h => h) (Or.inl ⟨by kernel_rfl, ?ya_3⟩) hHeld ?ra_3
    case ya_3 =>
      intro w hSw
      go_simp
      try with_reducible rfl
    try simp only [Act.put, List.getElem_toArray, List.getElem_cons_zero, List.getElem_cons_succ, List.setIfInBounds_toArray, List.set_cons_zero, List.set_cons_succ]
    refine wpAnyH_take (i := 4) (v := .slice A n cap) rfl (by kernel_rfl) (by kernel_rfl) (by kernel_rfl) (fun _ _ _ h => h) (Or.inl ⟨by kernel_rfl, ?ya_4⟩) hHeld ?ra_4
    case ya_4 =>
      intro w hSw
      obtain ⟨⟨zt, ct, ft⟩, zp, cp, fp⟩ := hSw
      go_simp
      try with_reducible rfl
    try simp only [Act.put, List.getElem_toArray, List.getElem_cons_zero, List.getElem_cons_succ, List.setIfInBounds_toArray, List.set_cons_zero, List.set_cons_succ]
    refine wpAnyH_take (i := 5) (v := .agg #[.int .i64 nx, .int .i64 (r 1), .int .i64 (r 2), .int .i64 (r 3), .int .i64 (r 4), .int .i64 (r 5), .int .i64 (r 6), .int .i64 (r 7), .int .i64 (r 8), .int .i64 (r 9), .int .i64 (r 10), .int .i64 (r 11), .int .i64 (r 12), .int .i64 (r 13), .int .i64 (r 14), .int .i64 (r 15), .int .i64 (r 16)]) rfl (by kernel_rfl) (by kernel_rfl) (by kernel_rfl) (fun _ _ _ h => h) (yieldsIf_load_mid (by kernel_rfl) 37 (.tmp 3) rfl w.heap.size 0 rfl [.int .i64 nx, .int .i64 (r 1), .int .i64 (r 2), .int .i64 (r 3), .int .i64 (r 4), .int .i64 (r 5), .int .i64 (r 6), .int .i64 (r 7), .int .i64 (r 8), .int .i64 (r 9), .int .i64 (r 10), .int .i64 (r 11), .int .i64 (r 12), .int .i64 (r 13), .int .i64 (r 14), .int .i64 (r 15), .int .i64 (r 16)] _ (fun w h => blk_range h.2) Tryz.underlying37 rfl bodyInfoW) hHeld ?ra_5
    try simp only [Act.put, List.getElem_toArray, List.getElem_cons_zero, List.getElem_cons_succ, List.setIfInBounds_toArray, List.set_cons_zero, List.set_cons_succ]
    refine wpAnyH_ready (rs := [6]) (by kernel_rfl) (by simp) ?_
    refine AllReadyH.cons (o := _) rfl (fun K hK => ?_) AllReadyH.nil
    go_simp
    try dsimp only
    refine hK.out _ _ ⟨hHeld.1.below (ballocT _ _), hHeld.2.below (ballocT _ _)⟩ (fun hHeld => ?_)
    clear hK K
    try simp only [Act.put, List.getElem_toArray, List.getElem_cons_zero, List.getElem_cons_succ, List.setIfInBounds_toArray, List.set_cons_zero, List.set_cons_succ]
    refine any_freshT ?_ hHeld
    clear hHeld
    rintro w6 hb6 hHeld
    have hv6 : Below w5.heap.size w5 w6 := (by repeat (with_reducible (first | exact Below.refl _ _ | assumption | apply ext_drew | apply ext_drewN | apply ext_alloc | apply ext_more | (refine ext_setCell ?_ (by first | assumption | (simp <;> omega)) _) | (refine ext_below ?_ (by assumption)))))
    have hp6 : Blk w6 w5.heap.size #[.int .i64 nx, .int .i64 (r 1), .int .i64 (r 2), .int .i64 (r 3), .int .i64 (r 4), .int .i64 (r 5), .int .i64 (r 6), .int .i64 (r 7), .int .i64 (r 8), .int .i64 (r 9), .int .i64 (r 10), .int .i64 (r 11), .int .i64 (r 12), .int .i64 (r 13), .int .i64 (r 14), .int .i64 (r 15), .int .i64 (r 16)] := (Blk.fresh w5.drew _ _).below hb6
    have HR6 := Lib.hid ((HW.out.row.mod HKr5.out fun g e => (HW.out.ra g e).2).below hv6)
    have HK6 := Lib.hid (HK5.out.below hv6)
    have HKr6 := Lib.hid (HKr5.out.below hv6)
    have HS6 := Lib.hid hHeld
    clear hb6 hv6
    refine wpAnyH_ready (rs := [7]) (by kernel_rfl) (by simp) ?_
    refine AllReadyH.cons (o := _) rfl (fun K hK => ?_) AllReadyH.nil
    refine step_body rfl (.tmp 97) (.tmp 99) rfl A n cap M (fun j => if j = 0 then nx else r j) rfl HR6.out rfl hp6 (by have := HN.out; omega) ?_
    rintro g cap' w7 hR7 hM7 hg
    refine hK.out _ _ ⟨HS6.out.1.mod hM7 (fun e => (HW.out.ra b (ownBlock_at HW.out.row e)).2 rfl), HS6.out.2.mod hM7 (fun e => by have := HW.out.row.lt (ownBlock_at HW.out.row e); omega)⟩ (fun hHeld => ?_)
    clear hK K
    try simp only [Act.put, List.getElem_toArray, List.getElem_cons_zero, List.getElem_cons_succ, List.setIfInBounds_toArray, List.set_cons_zero, List.set_cons_succ]
    have HB7 := Lib.hid hHeld
    have HR7 : Hid (RowQ 0 w7 (some ⟨g, 0, none⟩) (n + 1) cap' (pushR M n r nx)) := Lib.hid hR7
    have HK7 : Hid (Mod S w w7) := Lib.hid (HK6.out.trans (hM7.mono fun x _ e => HW.out.sa x (ownBlock_at HW.out.row e)))
    have HKa7 : Hid (Mod (fun x => x = b ∨ A = some ⟨x, 0, none⟩) w w7) := Lib.hid ((HKr6.out.mono fun _ _ e => .inl e).trans (hM7.mono fun x _ e => .inr (ownBlock_at HW.out.row e)))
    have HG7 : Hid (A = some ⟨g, 0, none⟩ ∨ w.heap.size ≤ g) := Lib.hid (hg.imp (fun e => ownBlock_at HW.out.row e) fun e => by rw [e]; exact HK6.out.size)
    have HG8 : Hid (g ≠ w.heap.size) := Lib.hid (hg.elim (fun e => by have := HW.out.row.lt (ownBlock_at HW.out.row e); omega) fun e => by have := HS6.out.2.lt; omega)
    refine wpAnyH_done (by kernel_rfl) ?_ _
    clear hHeld hp6 hR7 hM7 hg
    simp only [TailQ, List.drop_succ_cons, List.drop_zero]
    obtain ⟨zt, ct, ft⟩ := id HB7.out.1
    go_upto_region 10 with fail
    refine wp_named ?_
    rintro w8 hw8
    have hgb : g ≠ b := HG7.out.elim (fun e => (HW.out.ra g e).2) fun e => by have := HW.out.blk.lt; omega
    have HB8 : Hid (Blk w8 b #[.int .i64 c.f1, .int .i64 c.f2, .int .i64 c.f3, .int .i64 c.bo, .int .i64 c.ru, .int .i64 c.ro, .int .i64 c.qu, .slice (some ⟨g, 0, none⟩) (n + 1) cap', .pointer (some ⟨t, 0, none⟩), .int .i64 (nx + 1), .int .i64 st]) := Lib.hid (by rw [hw8]; exact blk_as (Blk.put HB7.out.1) (by simp))
    have HX8 : Hid (Blk w8 w.heap.size #[.int .i64 nx, .int .i64 (r 1), .int .i64 (r 2), .int .i64 (r 3), .int .i64 (r 4), .int .i64 (r 5), .int .i64 (r 6), .int .i64 (r 7), .int .i64 (r 8), .int .i64 (r 9), .int .i64 (r 10), .int .i64 (r 11), .int .i64 (r 12), .int .i64 (r 13), .int .i64 (r 14), .int .i64 (r 15), .int .i64 (r 16)]) := Lib.hid (by rw [hw8]; exact HB7.out.2.far hbx)
    have HR8 : Hid (RowQ 0 w8 (some ⟨g, 0, none⟩) (n + 1) cap' (pushR M n r nx)) := Lib.hid (by rw [hw8]; exact HR7.out.mod (S := (· = b)) (Mod.set (Mod.refl _ _) (.inl rfl)) fun g' e => by cases e; exact hgb)
    have HK8 : Hid (Mod S w w8) := Lib.hid (by rw [hw8]; exact HK7.out.set (.inl HW.out.sb))
    have HKa8 : Hid (Mod (fun x => x = b ∨ A = some ⟨x, 0, none⟩) w w8) := Lib.hid (by rw [hw8]; exact HKa7.out.set (.inl (.inl rfl)))
    have HT8 : Hid (BW w8 t 65536 p D n R) := Lib.hid (HW.out.tree.mod HKa8.out fun x hx e => e.elim (fun e => HW.out.rb (e ▸ hx)) fun e => (HW.out.ra x e).1 hx)
    clear hw8 zt ct ft
    obtain ⟨zt, ct, ft⟩ := id HB8.out
    obtain ⟨zp, cp, fp⟩ := id HX8.out
    refine region_quiet_but 11 (by kernel_rfl) (by kernel_rfl) ?_
    simp only [List.take_succ_cons, List.take_zero, List.drop_succ_cons, List.drop_zero]
    repeat (go_big_quiet_step ((go_at_call 24; exact calls_after (around_c _ _ _ _ _ _ _ _))))
    refine wpQuiet_nil ?_
    rintro w9 hw9
    have hb9 := after_below hw9
    have HX9 := Lib.hid (HX8.out.below hb9)
    have HB9 := Lib.hid (HB8.out.below hb9)
    have HR9 := Lib.hid (HR8.out.below hb9)
    have HK9 := Lib.hid (HK8.out.below hb9)
    have HT9 := Lib.hid (HT8.out.below hb9)
    clear hb9 hw9 zt ct ft zp cp fp
    go_wp2_with fail
    have hput := put_c w9 t nx (boxR (pushR M n r nx) n) 65536 p D n R HT9.out (by decide) HP.out (keyI (by have := HNX.out; omega))
    rw [show bxV (boxR (pushR M n r nx) n) = .agg #[.int .i64 (sub (r 6) (hf (r 2) (r 3) (r 3))), .int .i64 (sub (r 7) (hf (r 2) (r 3) (r 4))), .int .i64 (sub (r 8) (hf (r 2) (r 3) (r 5))), .int .i64 (add (r 6) (hf (r 2) (r 3) (r 3))), .int .i64 (add (r 7) (hf (r 2) (r 3) (r 4))), .int .i64 (add (r 8) (hf (r 2) (r 3) (r 5)))] from by rw [boxR_push]; rfl] at hput
    with_reducible refine hput.mono ?_
    clear hput
    rintro e w10 ⟨rfl, hm10, R', hT10, hR10⟩
    have hlow : ∀ i, i < n → M i 0 < nx := fun i hi => (HW.out.low i hi).2
    have hdn : D nx = none := HW.out.td.no nx fun i hi e => by have := hlow i hi; omega
    have hE : putE D n nx (boxR (pushR M n r nx) n) = 0 := by
      obtain ⟨h1, h2⟩ := box_right (HR.out.row (M := M) (n := n) (nx := nx))
      unfold putE
      rw [h1, h2, if_neg (by decide), if_neg (by decide), if_neg (by have := HN.out; omega)]
    have hD : putD D n nx (boxR (pushR M n r nx) n) = updD D nx (boxR (pushR M n r nx) n) := if_pos hE
    have hN : putN D n nx (boxR (pushR M n r nx) n) = n + 1 := by unfold putN; rw [if_pos hE, hdn]; rfl
    rw [hD, hN] at hT10
    have hgR : ¬ R g := fun h => HG7.out.elim (fun e => (HW.out.ra g e).1 h) fun e => by have := HW.out.lt _ (HW.out.sr _ h); omega
    have HX10 := Lib.hid (HX9.out.mod hm10 fun h => by have := HW.out.lt _ (HW.out.sr _ h); omega)
    have HB10 := Lib.hid (HB9.out.mod hm10 HW.out.rb)
    have HR10 := Lib.hid (HR9.out.mod hm10 fun g' e => by cases e; exact hgR)
    have HK10 := Lib.hid (HK9.out.trans (hm10.mono fun x _ h => HW.out.sr x h))
    have HS10 : Hid (w9.heap.size ≤ w10.heap.size) := Lib.hid hm10.size
    obtain ⟨zp, cp, fp⟩ := id HX10.out
    clear hm10
    go_wp2
    refine bodyPost_ret (v := .tuple #[.int .i64 nx, .nilIface]) (by simp [results, Tryz.results16, go_sem, *]) rfl ⟨rfl, HK10.out, fun x => S x ∨ (w.heap.size ≤ x ∧ x < w10.heap.size), ⟨some ⟨g, 0, none⟩, cap', t, updD D nx (boxR (pushR M n r nx) n), R', ?_⟩, fun x h => h.imp id fun h => h.1⟩
    have hlt9 : ∀ x, x < w.heap.size → x < w9.heap.size := fun x hx => Nat.lt_of_lt_of_le hx HK9.out.size
    exact { blk := HB10.out, row := HR10.out, tree := hT10, td := push_tree HW.out.td hlow, rise := push_rise HW.out.rise hlow, ok := fun i hi => by
              by_cases e : i = n
              · rw [e]; exact HR.out.row
              · exact (HW.out.ok i (by omega)).eq fun j => pushR_old M r nx (by omega) j
            low := fun i hi => by
              by_cases e : i = n
              · rw [e, pushR_new, if_pos rfl]; have := HNX.out; omega
              · rw [pushR_old M r nx (by omega)]; have := HW.out.low i (by omega); omega
            nxb := by have := HNX.out; omega
            few := by have := HN.out; omega
            law := HW.out.law
            lt := fun x h => h.elim (fun h => Nat.lt_of_lt_of_le (HW.out.lt x h) HK10.out.size) fun h => h.2
            sb := .inl HW.out.sb
            sr := fun x hx => (hR10 x hx).elim (fun h => .inl (HW.out.sr x h)) fun h => .inr ⟨Nat.le_trans HK9.out.size h, hT10.2 x hx⟩
            sa := fun g' e => by cases e; exact HG7.out.elim (fun e => .inl (HW.out.sa g e)) fun e => .inr ⟨e, HR10.out.lt rfl⟩
            rb := fun h => (hR10 b h).elim HW.out.rb fun h => by have := hlt9 b HW.out.blk.lt; omega
            ra := fun g' e => by
              cases e
              exact ⟨fun h => (hR10 g h).elim hgR fun h => by have := HR9.out.lt rfl; omega, hgb⟩ }
  · have e1 : decide (0 < r 1) = true := decide_eq_true (by omega)
    have e2 : decide (c.qu ≤ (ownsN M (r 1) n : Int)) = false := decide_eq_false (by have := hqo.out; omega)
    clear ho
    refine region_quiet_all (by kernel_rfl) (by kernel_rfl) ?_
    repeat (go_big_quiet_step ((go_at_call 32; exact calls_after (HOW.out _ (HV3b.out _)))))
    refine wpQuiet_nil ?_
    rintro w4 hw4
    have hb4 := after_below hw4
    have HB4 := Lib.hid (HB3.out.below hb4)
    have HV4 := Lib.hid (HV3.out.trans (hb4.mono HV3.out.size))
    have HM4 := Lib.hid (HM3.out.below hb4)
    clear zp cp fp zt ct ft hb4 hw4 d5 e1 e2
    obtain ⟨zp, cp, fp⟩ := id HB4.out
    obtain ⟨zt, ct, ft⟩ := id HM4.out
    unfold wcells at ct
    have hw9 : wrap64 (nx + 1) = nx + 1 := by have := HNX.out; unfold wrap64; omega
    go_upto_region 9 with fail
    refine wp_named ?_
    rintro w5 hw5
    have hbx : b ≠ w.heap.size := by have := HW.out.blk.lt; omega
    have HB5 : Hid (Blk w5 w.heap.size #[.int .i64 nx, .int .i64 (r 1), .int .i64 (r 2), .int .i64 (r 3), .int .i64 (r 4), .int .i64 (r 5), .int .i64 (r 6), .int .i64 (r 7), .int .i64 (r 8), .int .i64 (r 9), .int .i64 (r 10), .int .i64 (r 11), .int .i64 (r 12), .int .i64 (r 13), .int .i64 (r 14), .int .i64 (r 15), .int .i64 (r 16)]) := Lib.hid (by rw [hw5]; exact blk_as ((Blk.put HB4.out).far hbx) (by simp))
    have HM5 : Hid (Blk w5 b #[.int .i64 c.f1, .int .i64 c.f2, .int .i64 c.f3, .int .i64 c.bo, .int .i64 c.ru, .int .i64 c.ro, .int .i64 c.qu, .slice A n cap, .pointer (some ⟨t, 0, none⟩), .int .i64 (nx + 1), .int .i64 st]) := Lib.hid (by rw [hw5]; exact blk_as (Blk.put (HM4.out.far (Ne.symm hbx))) (by simp [wcells]))
    have HK5 : Hid (Mod S w w5) := Lib.hid (by rw [hw5]; exact ((Mod.of_below HV4.out).set (.inr (Nat.le_refl _))).set (.inl HW.out.sb))
    have HKr5 : Hid (Mod (· = b) w w5) := Lib.hid (by rw [hw5]; exact ((Mod.of_below HV4.out).set (.inr (Nat.le_refl _))).set (.inl rfl))
    clear hw5 zp cp fp zt ct ft hw9
    have hS0 : Blk w5.drew b #[.int .i64 c.f1, .int .i64 c.f2, .int .i64 c.f3, .int .i64 c.bo, .int .i64 c.ru, .int .i64 c.ro, .int .i64 c.qu, .slice A n cap, .pointer (some ⟨t, 0, none⟩), .int .i64 (nx + 1), .int .i64 st] ∧ Blk w5.drew w.heap.size #[.int .i64 nx, .int .i64 (r 1), .int .i64 (r 2), .int .i64 (r 3), .int .i64 (r 4), .int .i64 (r 5), .int .i64 (r 6), .int .i64 (r 7), .int .i64 (r 8), .int .i64 (r 9), .int .i64 (r 10), .int .i64 (r 11), .int .i64 (r 12), .int .i64 (r 13), .int .i64 (r 14), .int .i64 (r 15), .int .i64 (r 16)] := ⟨HM5.out.drew, HB5.out.drew⟩
    refine region_held_tail (fun w' => Blk w' b #[.int .i64 c.f1, .int .i64 c.f2, .int .i64 c.f3, .int .i64 c.bo, .int .i64 c.ru, .int .i64 c.ro, .int .i64 c.qu, .slice A n cap, .pointer (some ⟨t, 0, none⟩), .int .i64 (nx + 1), .int .i64 st] ∧ Blk w' w.heap.size #[.int .i64 nx, .int .i64 (r 1), .int .i64 (r 2), .int .i64 (r 3), .int .i64 (r 4), .int .i64 (r 5), .int .i64 (r 6), .int .i64 (r 7), .int .i64 (r 8), .int .i64 (r 9), .int .i64 (r 10), .int .i64 (r 11), .int .i64 (r 12), .int .i64 (r 13), .int .i64 (r 14), .int .i64 (r 15), .int .i64 (r 16)]) 8 (by kernel_rfl) (by kernel_rfl) hS0 (fun hHeld => ?_)
    clear hS0
    simp only [List.take_succ_cons, List.take_zero]
    refine wpAnyH_take (i := 0) (v := .pointer (some ⟨b, 0, none⟩)) rfl (by kernel_rfl) (by kernel_rfl) (by kernel_rfl) (fun _ _ _ h => h) (Or.inl ⟨by kernel_rfl, ?yb_0⟩) hHeld ?rb_0
    case yb_0 =>
      intro w hSw
      go_simp
      try with_reducible rfl
    try simp only [Act.put, List.getElem_toArray, List.getElem_cons_zero, List.setIfInBounds_toArray, List.set_cons_zero, List.set_cons_succ]
    refine wpAnyH_take (i := 1) (v := .pointer (some ⟨b, 0, none⟩)) rfl (by kernel_rfl) (by kernel_rfl) (by kernel_rfl) (fun _ _ _ h => h) (Or.inl ⟨by kernel_rfl, ?yb_1⟩) hHeld ?rb_1
    case yb_1 =>
      intro w hSw
      go_simp
      try with_reducible rfl
    try simp only [Act.put, List.getElem_toArray, List.getElem_cons_zero, List.getElem_cons_succ, List.setIfInBounds_toArray, List.set_cons_zero, List.set_cons_succ]
    refine wpAnyH_take (i := 2) (v := .pointer (some ⟨b, 0, none⟩)) rfl (by kernel_rfl) (by kernel_rfl) (by kernel_rfl) (fun _ _ _ h => h) (Or.inl ⟨by kernel_rfl, ?yb_2⟩) hHeld ?rb_2
    case yb_2 =>
      intro w hSw
      go_simp
      try with_reducible rfl
    try simp only [Act.put, List.getElem_toArray, List.getElem_cons_zero, List.getElem_cons_succ, List.setIfInBounds_toArray, List.set_cons_zero, List.set_cons_succ]
    refine wpAnyH_take (i := 3) (v := .pointer (some ⟨b, 7, none⟩)) rfl (by kernel_rfl) (by kernel_rfl) (by kernel_rfl) (fun _ _ _ h => h) (Or.inl ⟨by kernel_rfl, ?yb_3⟩) hHeld ?rb_3
    case yb_3 =>
      intro w hSw
      go_simp
      try with_reducible rfl
    try simp only [Act.put, List.getElem_toArray, List.getElem_cons_zero, List.getElem_cons_succ, List.setIfInBounds_toArray, List.set_cons_zero, List.set_cons_succ]
    refine wpAnyH_take (i := 4) (v := .slice A n cap) rfl (by kernel_rfl) (by kernel_rfl) (by kernel_rfl) (fun _ _ _ h => h) (Or.inl ⟨by kernel_rfl, ?yb_4⟩) hHeld ?rb_4
    case yb_4 =>
      intro w hSw
      obtain ⟨⟨zt, ct, ft⟩, zp, cp, fp⟩ := hSw
      go_simp
      try with_reducible rfl
    try simp only [Act.put, List.getElem_toArray, List.getElem_cons_zero, List.getElem_cons_succ, List.setIfInBounds_toArray, List.set_cons_zero, List.set_cons_succ]
    refine wpAnyH_take (i := 5) (v := .agg #[.int .i64 nx, .int .i64 (r 1), .int .i64 (r 2), .int .i64 (r 3), .int .i64 (r 4), .int .i64 (r 5), .int .i64 (r 6), .int .i64 (r 7), .int .i64 (r 8), .int .i64 (r 9), .int .i64 (r 10), .int .i64 (r 11), .int .i64 (r 12), .int .i64 (r 13), .int .i64 (r 14), .int .i64 (r 15), .int .i64 (r 16)]) rfl (by kernel_rfl) (by kernel_rfl) (by kernel_rfl) (fun _ _ _ h => h) (yieldsIf_load_mid (by kernel_rfl) 37 (.tmp 3) rfl w.heap.size 0 rfl [.int .i64 nx, .int .i64 (r 1), .int .i64 (r 2), .int .i64 (r 3), .int .i64 (r 4), .int .i64 (r 5), .int .i64 (r 6), .int .i64 (r 7), .int .i64 (r 8), .int .i64 (r 9), .int .i64 (r 10), .int .i64 (r 11), .int .i64 (r 12), .int .i64 (r 13), .int .i64 (r 14), .int .i64 (r 15), .int .i64 (r 16)] _ (fun w h => blk_range h.2) Tryz.underlying37 rfl bodyInfoW) hHeld ?rb_5
    try simp only [Act.put, List.getElem_toArray, List.getElem_cons_zero, List.getElem_cons_succ, List.setIfInBounds_toArray, List.set_cons_zero, List.set_cons_succ]
    refine wpAnyH_ready (rs := [6]) (by kernel_rfl) (by simp) ?_
    refine AllReadyH.cons (o := _) rfl (fun K hK => ?_) AllReadyH.nil
    go_simp
    try dsimp only
    refine hK.out _ _ ⟨hHeld.1.below (ballocT _ _), hHeld.2.below (ballocT _ _)⟩ (fun hHeld => ?_)
    clear hK K
    try simp only [Act.put, List.getElem_toArray, List.getElem_cons_zero, List.getElem_cons_succ, List.setIfInBounds_toArray, List.set_cons_zero, List.set_cons_succ]
    refine any_freshT ?_ hHeld
    clear hHeld
    rintro w6 hb6 hHeld
    have hv6 : Below w5.heap.size w5 w6 := (by repeat (with_reducible (first | exact Below.refl _ _ | assumption | apply ext_drew | apply ext_drewN | apply ext_alloc | apply ext_more | (refine ext_setCell ?_ (by first | assumption | (simp <;> omega)) _) | (refine ext_below ?_ (by assumption)))))
    have hp6 : Blk w6 w5.heap.size #[.int .i64 nx, .int .i64 (r 1), .int .i64 (r 2), .int .i64 (r 3), .int .i64 (r 4), .int .i64 (r 5), .int .i64 (r 6), .int .i64 (r 7), .int .i64 (r 8), .int .i64 (r 9), .int .i64 (r 10), .int .i64 (r 11), .int .i64 (r 12), .int .i64 (r 13), .int .i64 (r 14), .int .i64 (r 15), .int .i64 (r 16)] := (Blk.fresh w5.drew _ _).below hb6
    have HR6 := Lib.hid ((HW.out.row.mod HKr5.out fun g e => (HW.out.ra g e).2).below hv6)
    have HK6 := Lib.hid (HK5.out.below hv6)
    have HKr6 := Lib.hid (HKr5.out.below hv6)
    have HS6 := Lib.hid hHeld
    clear hb6 hv6
    refine wpAnyH_ready (rs := [7]) (by kernel_rfl) (by simp) ?_
    refine AllReadyH.cons (o := _) rfl (fun K hK => ?_) AllReadyH.nil
    refine step_body rfl (.tmp 97) (.tmp 99) rfl A n cap M (fun j => if j = 0 then nx else r j) rfl HR6.out rfl hp6 (by have := HN.out; omega) ?_
    rintro g cap' w7 hR7 hM7 hg
    refine hK.out _ _ ⟨HS6.out.1.mod hM7 (fun e => (HW.out.ra b (ownBlock_at HW.out.row e)).2 rfl), HS6.out.2.mod hM7 (fun e => by have := HW.out.row.lt (ownBlock_at HW.out.row e); omega)⟩ (fun hHeld => ?_)
    clear hK K
    try simp only [Act.put, List.getElem_toArray, List.getElem_cons_zero, List.getElem_cons_succ, List.setIfInBounds_toArray, List.set_cons_zero, List.set_cons_succ]
    have HB7 := Lib.hid hHeld
    have HR7 : Hid (RowQ 0 w7 (some ⟨g, 0, none⟩) (n + 1) cap' (pushR M n r nx)) := Lib.hid hR7
    have HK7 : Hid (Mod S w w7) := Lib.hid (HK6.out.trans (hM7.mono fun x _ e => HW.out.sa x (ownBlock_at HW.out.row e)))
    have HKa7 : Hid (Mod (fun x => x = b ∨ A = some ⟨x, 0, none⟩) w w7) := Lib.hid ((HKr6.out.mono fun _ _ e => .inl e).trans (hM7.mono fun x _ e => .inr (ownBlock_at HW.out.row e)))
    have HG7 : Hid (A = some ⟨g, 0, none⟩ ∨ w.heap.size ≤ g) := Lib.hid (hg.imp (fun e => ownBlock_at HW.out.row e) fun e => by rw [e]; exact HK6.out.size)
    have HG8 : Hid (g ≠ w.heap.size) := Lib.hid (hg.elim (fun e => by have := HW.out.row.lt (ownBlock_at HW.out.row e); omega) fun e => by have := HS6.out.2.lt; omega)
    refine wpAnyH_done (by kernel_rfl) ?_ _
    clear hHeld hp6 hR7 hM7 hg
    simp only [TailQ, List.drop_succ_cons, List.drop_zero]
    obtain ⟨zt, ct, ft⟩ := id HB7.out.1
    go_upto_region 10 with fail
    refine wp_named ?_
    rintro w8 hw8
    have hgb : g ≠ b := HG7.out.elim (fun e => (HW.out.ra g e).2) fun e => by have := HW.out.blk.lt; omega
    have HB8 : Hid (Blk w8 b #[.int .i64 c.f1, .int .i64 c.f2, .int .i64 c.f3, .int .i64 c.bo, .int .i64 c.ru, .int .i64 c.ro, .int .i64 c.qu, .slice (some ⟨g, 0, none⟩) (n + 1) cap', .pointer (some ⟨t, 0, none⟩), .int .i64 (nx + 1), .int .i64 st]) := Lib.hid (by rw [hw8]; exact blk_as (Blk.put HB7.out.1) (by simp))
    have HX8 : Hid (Blk w8 w.heap.size #[.int .i64 nx, .int .i64 (r 1), .int .i64 (r 2), .int .i64 (r 3), .int .i64 (r 4), .int .i64 (r 5), .int .i64 (r 6), .int .i64 (r 7), .int .i64 (r 8), .int .i64 (r 9), .int .i64 (r 10), .int .i64 (r 11), .int .i64 (r 12), .int .i64 (r 13), .int .i64 (r 14), .int .i64 (r 15), .int .i64 (r 16)]) := Lib.hid (by rw [hw8]; exact HB7.out.2.far hbx)
    have HR8 : Hid (RowQ 0 w8 (some ⟨g, 0, none⟩) (n + 1) cap' (pushR M n r nx)) := Lib.hid (by rw [hw8]; exact HR7.out.mod (S := (· = b)) (Mod.set (Mod.refl _ _) (.inl rfl)) fun g' e => by cases e; exact hgb)
    have HK8 : Hid (Mod S w w8) := Lib.hid (by rw [hw8]; exact HK7.out.set (.inl HW.out.sb))
    have HKa8 : Hid (Mod (fun x => x = b ∨ A = some ⟨x, 0, none⟩) w w8) := Lib.hid (by rw [hw8]; exact HKa7.out.set (.inl (.inl rfl)))
    have HT8 : Hid (BW w8 t 65536 p D n R) := Lib.hid (HW.out.tree.mod HKa8.out fun x hx e => e.elim (fun e => HW.out.rb (e ▸ hx)) fun e => (HW.out.ra x e).1 hx)
    clear hw8 zt ct ft
    obtain ⟨zt, ct, ft⟩ := id HB8.out
    obtain ⟨zp, cp, fp⟩ := id HX8.out
    refine region_quiet_but 11 (by kernel_rfl) (by kernel_rfl) ?_
    simp only [List.take_succ_cons, List.take_zero, List.drop_succ_cons, List.drop_zero]
    repeat (go_big_quiet_step ((go_at_call 24; exact calls_after (around_c _ _ _ _ _ _ _ _))))
    refine wpQuiet_nil ?_
    rintro w9 hw9
    have hb9 := after_below hw9
    have HX9 := Lib.hid (HX8.out.below hb9)
    have HB9 := Lib.hid (HB8.out.below hb9)
    have HR9 := Lib.hid (HR8.out.below hb9)
    have HK9 := Lib.hid (HK8.out.below hb9)
    have HT9 := Lib.hid (HT8.out.below hb9)
    clear hb9 hw9 zt ct ft zp cp fp
    go_wp2_with fail
    have hput := put_c w9 t nx (boxR (pushR M n r nx) n) 65536 p D n R HT9.out (by decide) HP.out (keyI (by have := HNX.out; omega))
    rw [show bxV (boxR (pushR M n r nx) n) = .agg #[.int .i64 (sub (r 6) (hf (r 2) (r 3) (r 3))), .int .i64 (sub (r 7) (hf (r 2) (r 3) (r 4))), .int .i64 (sub (r 8) (hf (r 2) (r 3) (r 5))), .int .i64 (add (r 6) (hf (r 2) (r 3) (r 3))), .int .i64 (add (r 7) (hf (r 2) (r 3) (r 4))), .int .i64 (add (r 8) (hf (r 2) (r 3) (r 5)))] from by rw [boxR_push]; rfl] at hput
    with_reducible refine hput.mono ?_
    clear hput
    rintro e w10 ⟨rfl, hm10, R', hT10, hR10⟩
    have hlow : ∀ i, i < n → M i 0 < nx := fun i hi => (HW.out.low i hi).2
    have hdn : D nx = none := HW.out.td.no nx fun i hi e => by have := hlow i hi; omega
    have hE : putE D n nx (boxR (pushR M n r nx) n) = 0 := by
      obtain ⟨h1, h2⟩ := box_right (HR.out.row (M := M) (n := n) (nx := nx))
      unfold putE
      rw [h1, h2, if_neg (by decide), if_neg (by decide), if_neg (by have := HN.out; omega)]
    have hD : putD D n nx (boxR (pushR M n r nx) n) = updD D nx (boxR (pushR M n r nx) n) := if_pos hE
    have hN : putN D n nx (boxR (pushR M n r nx) n) = n + 1 := by unfold putN; rw [if_pos hE, hdn]; rfl
    rw [hD, hN] at hT10
    have hgR : ¬ R g := fun h => HG7.out.elim (fun e => (HW.out.ra g e).1 h) fun e => by have := HW.out.lt _ (HW.out.sr _ h); omega
    have HX10 := Lib.hid (HX9.out.mod hm10 fun h => by have := HW.out.lt _ (HW.out.sr _ h); omega)
    have HB10 := Lib.hid (HB9.out.mod hm10 HW.out.rb)
    have HR10 := Lib.hid (HR9.out.mod hm10 fun g' e => by cases e; exact hgR)
    have HK10 := Lib.hid (HK9.out.trans (hm10.mono fun x _ h => HW.out.sr x h))
    have HS10 : Hid (w9.heap.size ≤ w10.heap.size) := Lib.hid hm10.size
    obtain ⟨zp, cp, fp⟩ := id HX10.out
    clear hm10
    go_wp2
    refine bodyPost_ret (v := .tuple #[.int .i64 nx, .nilIface]) (by simp [results, Tryz.results16, go_sem, *]) rfl ⟨rfl, HK10.out, fun x => S x ∨ (w.heap.size ≤ x ∧ x < w10.heap.size), ⟨some ⟨g, 0, none⟩, cap', t, updD D nx (boxR (pushR M n r nx) n), R', ?_⟩, fun x h => h.imp id fun h => h.1⟩
    have hlt9 : ∀ x, x < w.heap.size → x < w9.heap.size := fun x hx => Nat.lt_of_lt_of_le hx HK9.out.size
    exact { blk := HB10.out, row := HR10.out, tree := hT10, td := push_tree HW.out.td hlow, rise := push_rise HW.out.rise hlow, ok := fun i hi => by
              by_cases e : i = n
              · rw [e]; exact HR.out.row
              · exact (HW.out.ok i (by omega)).eq fun j => pushR_old M r nx (by omega) j
            low := fun i hi => by
              by_cases e : i = n
              · rw [e, pushR_new, if_pos rfl]; have := HNX.out; omega
              · rw [pushR_old M r nx (by omega)]; have := HW.out.low i (by omega); omega
            nxb := by have := HNX.out; omega
            few := by have := HN.out; omega
            law := HW.out.law
            lt := fun x h => h.elim (fun h => Nat.lt_of_lt_of_le (HW.out.lt x h) HK10.out.size) fun h => h.2
            sb := .inl HW.out.sb
            sr := fun x hx => (hR10 x hx).elim (fun h => .inl (HW.out.sr x h)) fun h => .inr ⟨Nat.le_trans HK9.out.size h, hT10.2 x hx⟩
            sa := fun g' e => by cases e; exact HG7.out.elim (fun e => .inl (HW.out.sa g e)) fun e => .inr ⟨e, HR10.out.lt rfl⟩
            rb := fun h => (hR10 b h).elim HW.out.rb fun h => by have := hlt9 b HW.out.blk.lt; omega
            ra := fun g' e => by
              cases e
              exact ⟨fun h => (hR10 g h).elim hgR fun h => by have := HR9.out.lt rfl; omega, hgb⟩ }
end Go.Proofs.YtniahipadfgkbaaGreat
