/- Plain: the view that bits make of one, as the program and as the document find it. No program in sight. Conditions: none. -/
import Derived.Test.YtnkinnfpebploaaDoorSnapP
import Derived.Test.YtnkinnfpebploaaDoorRdet
namespace Go.Proofs.YtnkinnfpebploaaDoor
open B
/-- a body as it is seen -/
structure Sn where
  id : Int
  kd : Int
  s1 : Int
  s2 : Int
  s3 : Int
  a1 : Int
  a2 : Int
  a3 : Int
  v1 : Int
  v2 : Int
  v3 : Int
/-- its j-th number -/
def Sn.get (r : Sn) : Nat → Int
  | 0 => r.id
  | 1 => r.kd
  | 2 => r.s1
  | 3 => r.s2
  | 4 => r.s3
  | 5 => r.a1
  | 6 => r.a2
  | 7 => r.a3
  | 8 => r.v1
  | 9 => r.v2
  | _ => r.v3
def Sn.zero : Sn := ⟨0, 0, 0, 0, 0, 0, 0, 0, 0, 0, 0⟩
/-- rows as a matrix -/
def mx (R : List Sn) : Nat → Nat → Int := fun k j => ((R[k]?).getD Sn.zero).get j
/-- row k of a matrix -/
def snOf (M : Nat → Nat → Int) (k : Nat) : Sn := ⟨M k 0, M k 1, M k 2, M k 3, M k 4, M k 5, M k 6, M k 7, M k 8, M k 9, M k 10⟩
def rowsOf (M : Nat → Nat → Int) (n : Nat) : List Sn := (List.range n).map (snOf M)
theorem rowsOf_length (M : Nat → Nat → Int) (n : Nat) : (rowsOf M n).length = n := by simp [rowsOf]
theorem snOf_get (M : Nat → Nat → Int) (k j : Nat) (hj : j < 11) : (snOf M k).get j = M k j := by
  match j, hj with
  | 0, _ => rfl
  | 1, _ => rfl
  | 2, _ => rfl
  | 3, _ => rfl
  | 4, _ => rfl
  | 5, _ => rfl
  | 6, _ => rfl
  | 7, _ => rfl
  | 8, _ => rfl
  | 9, _ => rfl
  | 10, _ => rfl
/-- the next number, and the place behind it, and whether all was so -/
def rI (T : List Nat) (s : Nat × Bool) : Int × (Nat × Bool) := ((intD T s.1).1, ((intD T s.1).2.2, s.2 || decide ((intD T s.1).2.1 ≠ 0)))
def rG (T : List Nat) (k : Int) (s : Nat × Bool) : Int × (Nat × Bool) := ((getD T s.1 k).1, ((getD T s.1 k).2.2, s.2 || decide ((getD T s.1 k).2.1 ≠ 0)))
def v3R (T : List Nat) (x y z : Int) (s : Nat × Bool) : (Int × Int × Int) × (Nat × Bool) :=
  ((x + (rI T s).1, y + (rI T (rI T s).2).1, z + (rI T (rI T (rI T s).2).2).1), (rI T (rI T (rI T s).2).2).2)
def newR (T : List Nat) (id : Int) (s : Nat × Bool) : Sn × (Nat × Bool) :=
  let k := rG T 3 s
  let p := v3R T 0 0 0 k.2
  let q := v3R T 0 0 0 p.2
  let r := v3R T 0 0 0 q.2
  (⟨id, k.1, p.1.1, p.1.2.1, p.1.2.2, q.1.1, q.1.2.1, q.1.2.2, r.1.1, r.1.2.1, r.1.2.2⟩, r.2)
/-- three numbers that may have changed -/
def maybe3 (T : List Nat) (g : Int) (x y z : Int) (s : Nat × Bool) : (Int × Int × Int) × (Nat × Bool) := if g = 1 then v3R T x y z s else ((x, y, z), s)
def maybeK (T : List Nat) (g : Int) (k : Int) (s : Nat × Bool) : Int × (Nat × Bool) := if g = 1 then rG T 3 s else (k, s)
def changeR (T : List Nat) (r : Sn) (s : Nat × Bool) : Sn × (Nat × Bool) :=
  let g1 := rG T 1 s
  let g2 := rG T 1 g1.2
  let g3 := rG T 1 g2.2
  let k := maybeK T g1.1 r.kd g3.2
  let p := maybe3 T g1.1 r.s1 r.s2 r.s3 k.2
  let q := maybe3 T g2.1 r.a1 r.a2 r.a3 p.2
  let u := maybe3 T g3.1 r.v1 r.v2 r.v3 q.2
  (⟨r.id, k.1, p.1.1, p.1.2.1, p.1.2.2, q.1.1, q.1.2.1, q.1.2.2, u.1.1, u.1.2.1, u.1.2.2⟩, u.2)
theorem newR_id (T : List Nat) (id : Int) (s : Nat × Bool) : (newR T id s).1.id = id := rfl
theorem changeR_id (T : List Nat) (r : Sn) (s : Nat × Bool) : (changeR T r s).1.id = r.id := rfl
/-- as the program finds it: rows that are done, rows that are not -/
def applyF (T : List Nat) : Nat → Nat → List Sn → List Sn → Int → Option (List Sn)
  | 0, _, _, _, _ => none
  | f + 1, a, out, rest, last =>
    let g := getD T a 2
    if g.2.1 ≠ 0 then none
    else if g.1 = 3 then some (out ++ rest)
    else
      let d := varD T g.2.2
      if d.2.1 ≠ 0 ∨ 1099511627776 < d.1 then none
      else
        let now := last + (d.1 + 1)
        let out2 := out ++ rest.takeWhile fun r => decide (r.id < now)
        match rest.dropWhile fun r => decide (r.id < now) with
        | [] =>
          if g.1 = 1 then
            let n := newR T now (d.2.2, false)
            if n.2.2 = true ∨ 60 < out2.length + 1 then none else applyF T f n.2.1 (out2 ++ [n.1]) [] now
          else none
        | r :: rest2 =>
          if r.id = now then
            if g.1 = 1 then none
            else if g.1 = 0 then applyF T f d.2.2 out2 rest2 now
            else
              let n := changeR T r (d.2.2, false)
              if n.2.2 = true ∨ 60 < out2.length + 1 then none else applyF T f n.2.1 (out2 ++ [n.1]) rest2 now
          else
            if g.1 = 1 then
              let n := newR T now (d.2.2, false)
              if n.2.2 = true ∨ 60 < out2.length + 1 then none else applyF T f n.2.1 (out2 ++ [n.1]) (r :: rest2) now
            else none
/-- as the document finds it: all rows -/
def applyR (T : List Nat) : Nat → Nat → List Sn → Int → Option (List Sn)
  | 0, _, _, _ => none
  | f + 1, a, all, last =>
    let g := getD T a 2
    if g.2.1 ≠ 0 then none
    else if g.1 = 3 then some all
    else
      let d := varD T g.2.2
      if d.2.1 ≠ 0 ∨ 1099511627776 < d.1 ∨ 120 < all.length then none
      else
        let now := last + (d.1 + 1)
        let pre := all.takeWhile fun r => decide (r.id < now)
        match all.dropWhile fun r => decide (r.id < now) with
        | [] =>
          if g.1 = 1 then
            let n := newR T now (d.2.2, false)
            if n.2.2 = true then none else applyR T f n.2.1 (pre ++ [n.1]) now
          else none
        | r :: rest2 =>
          if r.id = now then
            if g.1 = 1 then none
            else if g.1 = 0 then applyR T f d.2.2 (pre ++ rest2) now
            else
              let n := changeR T r (d.2.2, false)
              if n.2.2 = true then none else applyR T f n.2.1 (pre ++ n.1 :: rest2) now
          else
            if g.1 = 1 then
              let n := newR T now (d.2.2, false)
              if n.2.2 = true then none else applyR T f n.2.1 (pre ++ n.1 :: r :: rest2) now
            else none
theorem tw_append {p : Sn → Bool} {a b : List Sn} (h : ∀ r ∈ a, p r = true) : (a ++ b).takeWhile p = a ++ b.takeWhile p ∧ (a ++ b).dropWhile p = b.dropWhile p := by
  induction a with
  | nil => exact ⟨rfl, rfl⟩
  | cons x a ih =>
    obtain ⟨h1, h2⟩ := ih fun r hr => h r (by simp [hr])
    have hx := h x (by simp)
    constructor
    · simp [hx, h1]
    · simp [hx, h2]
theorem tw_mem {p : Sn → Bool} {b : List Sn} : ∀ r ∈ b.takeWhile p, p r = true := by
  induction b with
  | nil => intro r h; simp at h
  | cons x b ih =>
    intro r h
    rw [List.takeWhile_cons] at h
    split at h
    · rcases List.mem_cons.1 h with rfl | h
      · assumption
      · exact ih r h
    · simp at h
theorem varD_nonneg (T : List Nat) (a : Nat) : 0 ≤ (varD T a).1 := by
  unfold varD
  cases varG T a with
  | error x => exact Int.le_refl _
  | ok q => exact Int.natCast_nonneg _
theorem below_snoc {out t : List Sn} {x : Sn} {last now : Int} (hl : last < now) (h : ∀ r ∈ out, r.id ≤ last) (ht : ∀ r ∈ t, decide (r.id < now) = true) (hx : x.id ≤ now) : ∀ r ∈ out ++ t ++ [x], r.id ≤ now := by
  intro r hr
  rcases List.mem_append.1 hr with hr | hr
  · rcases List.mem_append.1 hr with hr | hr
    · have := h r hr; omega
    · have := ht r hr; simp at this; omega
  · simp at hr; subst hr; exact hx
theorem below_app {out t : List Sn} {last now : Int} (hl : last < now) (h : ∀ r ∈ out, r.id ≤ last) (ht : ∀ r ∈ t, decide (r.id < now) = true) : ∀ r ∈ out ++ t, r.id ≤ now := by
  intro r hr
  rcases List.mem_append.1 hr with hr | hr
  · have := h r hr; omega
  · have := ht r hr; simp at this; omega
/-- more than 60 rows that are done do not get fewer -/
theorem apply_dead (T : List Nat) : ∀ (f a : Nat) (out rest : List Sn) (last : Int), (∀ r ∈ out, r.id ≤ last) → 60 < out.length → ∀ o, applyR T f a (out ++ rest) last = some o → 60 < o.length := by
  intro f
  induction f with
  | zero => intro a out rest last _ _ o h; cases h
  | succ f ih =>
    intro a out rest last hm hl o h
    unfold applyR at h
    simp only at h
    have hd0 := varD_nonneg T (getD T a 2).2.2
    generalize getD T a 2 = g at h hd0
    by_cases h1 : g.2.1 ≠ 0
    · rw [if_pos h1] at h; cases h
    rw [if_neg h1] at h
    by_cases h2 : g.1 = 3
    · rw [if_pos h2] at h; cases h; simp; omega
    rw [if_neg h2] at h
    generalize varD T g.2.2 = d at h hd0
    by_cases h3 : d.2.1 ≠ 0 ∨ 1099511627776 < d.1 ∨ 120 < (out ++ rest).length
    · rw [if_pos h3] at h; cases h
    rw [if_neg h3] at h
    have hnow : last < last + (d.1 + 1) := by omega
    obtain ⟨e1, e2⟩ := tw_append (p := fun r : Sn => decide (r.id < last + (d.1 + 1))) (a := out) (b := rest) (fun r hr => by have := hm r hr; simp; omega)
    rw [e1, e2] at h
    have ht := tw_mem (p := fun r : Sn => decide (r.id < last + (d.1 + 1))) (b := rest)
    generalize rest.takeWhile (fun r : Sn => decide (r.id < last + (d.1 + 1))) = t at h ht
    generalize rest.dropWhile (fun r : Sn => decide (r.id < last + (d.1 + 1))) = u at h
    cases u with
    | nil =>
      simp only at h
      by_cases h4 : g.1 = 1
      · rw [if_pos h4] at h
        generalize hn : newR T (last + (d.1 + 1)) (d.2.2, false) = n at h
        have hid : n.1.id = last + (d.1 + 1) := by rw [← hn]; rfl
        by_cases h5 : n.2.2 = true
        · rw [if_pos h5] at h; cases h
        rw [if_neg h5] at h
        refine ih n.2.1 (out ++ t ++ [n.1]) [] _ (below_snoc hnow hm ht (by omega)) (by simp; omega) o ?_
        simpa using h
      · rw [if_neg h4] at h; cases h
    | cons r rest2 =>
      simp only at h
      by_cases h6 : r.id = last + (d.1 + 1)
      · rw [if_pos h6] at h
        by_cases h4 : g.1 = 1
        · rw [if_pos h4] at h; cases h
        rw [if_neg h4] at h
        by_cases h7 : g.1 = 0
        · rw [if_pos h7] at h
          exact ih d.2.2 (out ++ t) rest2 _ (below_app hnow hm ht) (by simp; omega) o h
        · rw [if_neg h7] at h
          generalize hn : changeR T r (d.2.2, false) = n at h
          have hid : n.1.id = r.id := by rw [← hn]; rfl
          by_cases h5 : n.2.2 = true
          · rw [if_pos h5] at h; cases h
          rw [if_neg h5] at h
          refine ih n.2.1 (out ++ t ++ [n.1]) rest2 _ (below_snoc hnow hm ht (by omega)) (by simp; omega) o ?_
          simpa using h
      · rw [if_neg h6] at h
        by_cases h4 : g.1 = 1
        · rw [if_pos h4] at h
          generalize hn : newR T (last + (d.1 + 1)) (d.2.2, false) = n at h
          have hid : n.1.id = last + (d.1 + 1) := by rw [← hn]; rfl
          by_cases h5 : n.2.2 = true
          · rw [if_pos h5] at h; cases h
          rw [if_neg h5] at h
          refine ih n.2.1 (out ++ t ++ [n.1]) (r :: rest2) _ (below_snoc hnow hm ht (by omega)) (by simp; omega) o ?_
          simpa using h
        · rw [if_neg h4] at h; cases h
theorem apply_deadF (T : List Nat) : ∀ (f a : Nat) (out rest : List Sn) (last : Int), 60 < out.length → ∀ o, applyF T f a out rest last = some o → 60 < o.length := by
  intro f
  induction f with
  | zero => intro a out rest last _ o h; cases h
  | succ f ih =>
    intro a out rest last hl o h
    unfold applyF at h
    simp only at h
    generalize getD T a 2 = g at h
    by_cases h1 : g.2.1 ≠ 0
    · rw [if_pos h1] at h; cases h
    rw [if_neg h1] at h
    by_cases h2 : g.1 = 3
    · rw [if_pos h2] at h; cases h; simp; omega
    rw [if_neg h2] at h
    generalize varD T g.2.2 = d at h
    by_cases h3 : d.2.1 ≠ 0 ∨ 1099511627776 < d.1
    · rw [if_pos h3] at h; cases h
    rw [if_neg h3] at h
    generalize rest.takeWhile (fun r : Sn => decide (r.id < last + (d.1 + 1))) = t at h
    generalize rest.dropWhile (fun r : Sn => decide (r.id < last + (d.1 + 1))) = u at h
    cases u with
    | nil =>
      simp only at h
      split at h
      · rw [if_pos (.inr (by simp; omega))] at h; cases h
      · cases h
    | cons r rest2 =>
      simp only at h
      split at h
      · split at h
        · cases h
        · split at h
          · exact ih _ _ _ _ (by simp; omega) o h
          · rw [if_pos (.inr (by simp; omega))] at h; cases h
      · split at h
        · rw [if_pos (.inr (by simp; omega))] at h; cases h
        · cases h
/-- what is found is too much -/
def Big (x : Option (List Sn)) : Prop := ∀ o, x = some o → 60 < o.length
theorem Big.none : Big none := fun _ h => by cases h
/-- both find the same, or what they find is too much -/
theorem apply_eq (T : List Nat) : ∀ (f a : Nat) (out rest : List Sn) (last : Int), (∀ r ∈ out, r.id ≤ last) → out.length ≤ 60 → rest.length ≤ 60 →
    applyR T f a (out ++ rest) last = applyF T f a out rest last ∨ (Big (applyF T f a out rest last) ∧ Big (applyR T f a (out ++ rest) last)) := by
  intro f
  induction f with
  | zero => intro a out rest last _ _ _; exact .inl rfl
  | succ f ih =>
    intro a out rest last hm hl hr
    unfold applyR applyF
    simp only
    have hd0 := varD_nonneg T (getD T a 2).2.2
    generalize getD T a 2 = g at hd0 ⊢
    by_cases h1 : g.2.1 ≠ 0
    · rw [if_pos h1, if_pos h1]; exact .inl rfl
    rw [if_neg h1, if_neg h1]
    by_cases h2 : g.1 = 3
    · rw [if_pos h2, if_pos h2]; exact .inl rfl
    rw [if_neg h2, if_neg h2]
    generalize varD T g.2.2 = d at hd0 ⊢
    by_cases h3 : d.2.1 ≠ 0 ∨ 1099511627776 < d.1
    · rw [if_pos h3, if_pos (by rcases h3 with h | h; exact .inl h; exact .inr (.inl h))]; exact .inl rfl
    rw [if_neg h3, if_neg (by rintro (h | h | h); exact h3 (.inl h); exact h3 (.inr h); simp at h; omega)]
    have hnow : last < last + (d.1 + 1) := by omega
    obtain ⟨e1, e2⟩ := tw_append (p := fun r : Sn => decide (r.id < last + (d.1 + 1))) (a := out) (b := rest) (fun r hr => by have := hm r hr; simp; omega)
    rw [e1, e2]
    have ht := tw_mem (p := fun r : Sn => decide (r.id < last + (d.1 + 1))) (b := rest)
    have hlen : (rest.takeWhile fun r : Sn => decide (r.id < last + (d.1 + 1))).length + (rest.dropWhile fun r : Sn => decide (r.id < last + (d.1 + 1))).length ≤ 60 := by
      rw [← List.length_append, List.takeWhile_append_dropWhile]; exact hr
    generalize rest.takeWhile (fun r : Sn => decide (r.id < last + (d.1 + 1))) = t at ht hlen ⊢
    generalize rest.dropWhile (fun r : Sn => decide (r.id < last + (d.1 + 1))) = u at hlen ⊢
    -- the step that adds a row
    have key : ∀ (n : Sn × (Nat × Bool)) (rest2 : List Sn), n.1.id ≤ last + (d.1 + 1) → rest2.length ≤ 60 →
        (if n.2.2 = true then none else applyR T f n.2.1 (out ++ t ++ n.1 :: rest2) (last + (d.1 + 1))) = (if n.2.2 = true ∨ 60 < (out ++ t).length + 1 then none else applyF T f n.2.1 (out ++ t ++ [n.1]) rest2 (last + (d.1 + 1))) ∨
        (Big (if n.2.2 = true ∨ 60 < (out ++ t).length + 1 then none else applyF T f n.2.1 (out ++ t ++ [n.1]) rest2 (last + (d.1 + 1))) ∧
          Big (if n.2.2 = true then none else applyR T f n.2.1 (out ++ t ++ n.1 :: rest2) (last + (d.1 + 1)))) := by
      intro n rest2 hid hr2
      have hap : out ++ t ++ n.1 :: rest2 = out ++ t ++ [n.1] ++ rest2 := by simp
      have hmm := below_snoc hnow hm ht hid
      by_cases h5 : n.2.2 = true
      · rw [if_pos h5, if_pos (.inl h5)]; exact .inl rfl
      rw [if_neg h5]
      by_cases h8 : 60 < (out ++ t).length + 1
      · rw [if_pos (.inr h8)]
        refine .inr ⟨Big.none, fun o ho => ?_⟩
        rw [hap] at ho
        refine apply_dead T f n.2.1 (out ++ t ++ [n.1]) rest2 _ hmm ?_ o ho
        simp at h8 ⊢; omega
      · rw [if_neg (by rintro (h | h); exact h5 h; exact h8 h), hap]
        exact ih n.2.1 (out ++ t ++ [n.1]) rest2 _ hmm (by simp at h8 ⊢; omega) hr2
    cases u with
    | nil =>
      simp only
      by_cases h4 : g.1 = 1
      · rw [if_pos h4, if_pos h4]
        exact key (newR T (last + (d.1 + 1)) (d.2.2, false)) [] (by rw [newR_id]; omega) (by simp)
      · rw [if_neg h4, if_neg h4]; exact .inl rfl
    | cons r rest2 =>
      simp only [List.length_cons] at hlen
      simp only
      by_cases h6 : r.id = last + (d.1 + 1)
      · rw [if_pos h6, if_pos h6]
        by_cases h4 : g.1 = 1
        · rw [if_pos h4, if_pos h4]; exact .inl rfl
        rw [if_neg h4, if_neg h4]
        by_cases h7 : g.1 = 0
        · rw [if_pos h7, if_pos h7]
          by_cases h8 : 60 < (out ++ t).length
          · -- too many already
            exact .inr ⟨apply_deadF T f d.2.2 (out ++ t) rest2 _ h8, fun o ho => apply_dead T f d.2.2 (out ++ t) rest2 _ (below_app hnow hm ht) h8 o ho⟩
          · exact ih d.2.2 (out ++ t) rest2 _ (below_app hnow hm ht) (by omega) (by omega)
        · rw [if_neg h7, if_neg h7]
          exact key (changeR T r (d.2.2, false)) rest2 (by rw [changeR_id]; omega) (by omega)
      · rw [if_neg h6, if_neg h6]
        by_cases h4 : g.1 = 1
        · rw [if_pos h4, if_pos h4]
          exact key (newR T (last + (d.1 + 1)) (d.2.2, false)) (r :: rest2) (by rw [newR_id]; omega) (by simp; omega)
        · rw [if_neg h4, if_neg h4]; exact .inl rfl
end Go.Proofs.YtnkinnfpebploaaDoor
