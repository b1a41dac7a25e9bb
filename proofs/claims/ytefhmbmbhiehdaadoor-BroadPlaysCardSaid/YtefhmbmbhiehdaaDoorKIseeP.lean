/- What an eye sees, in plain Lean. Conditions: none. -/
import Derived.Test.YtefhmbmbhiehdaaDoorKGeom
import Derived.Test.YtefhmbmbhiehdaaDoorKIgrid
namespace Go.Proofs.YtefhmbmbhiehdaaDoor
open Go Go.Maps Go.RowKit Go.BigFrame Go.ChangeShapes Go.WideShapes
/-- an eye -/
structure Ey where
  x : Int
  y : Int
  z : Int
  far : Int
  teams : Int
def Ey.bx (y : Ey) : Bx := ⟨sub y.x y.far, sub y.y y.far, sub y.z y.far, add y.x y.far, add y.y y.far, add y.z y.far⟩
def meetX (a b : Bx) : Bool := decide (a.a1 ≤ b.b1) && decide (b.a1 ≤ a.b1) && decide (a.a2 ≤ b.b2) && decide (b.a2 ≤ a.b2) && decide (a.a3 ≤ b.b3) && decide (b.a3 ≤ a.b3)
def eyeB (y : Ey) (e : En) : Bool := (bits .and .i64 e.tm y.teams != 0) && meetX y.bx e.bx
/-- a box is not turned over -/
def Bx.ok (b : Bx) : Prop := b.a1 ≤ b.b1 ∧ b.a2 ≤ b.b2 ∧ b.a3 ≤ b.b3
theorem sub_add_le {a k : Int} (hk : 0 ≤ k) : sub a k ≤ add a k := by unfold sub add cut; omega
theorem ey_ok {y : Ey} (h : 0 ≤ y.far) : y.bx.ok := ⟨sub_add_le h, sub_add_le h, sub_add_le h⟩
/-- boxes that meet have a cell in common -/
theorem meet_cell {a b : Bx} (h : meetX a b = true) (ha : a.ok) (hb : b.ok) : ∃ c, c ∈ a.cells ∧ c ∈ b.cells := by
  unfold meetX at h
  simp only [Bool.and_eq_true, decide_eq_true_eq] at h
  obtain ⟨⟨⟨⟨⟨h1, h2⟩, h3⟩, h4⟩, h5⟩, h6⟩ := h
  obtain ⟨a1, a2, a3⟩ := ha
  obtain ⟨b1, b2, b3⟩ := hb
  have m1 := kc_mono h1
  have m2 := kc_mono h2
  have m3 := kc_mono h3
  have m4 := kc_mono h4
  have m5 := kc_mono h5
  have m6 := kc_mono h6
  have n1 := kc_mono a1
  have n2 := kc_mono a2
  have n3 := kc_mono a3
  have p1 := kc_mono b1
  have p2 := kc_mono b2
  have p3 := kc_mono b3
  refine ⟨(max (kc a.a1) (kc b.a1), max (kc a.a2) (kc b.a2), max (kc a.a3) (kc b.a3)), ?_, ?_⟩
  · unfold Bx.cells
    rw [cellsOf_mem]
    simp only [Bx.lo, Bx.hi]
    omega
  · unfold Bx.cells
    rw [cellsOf_mem]
    simp only [Bx.lo, Bx.hi]
    omega
/-- is it seen, as a body of the grid -/
def eyeD (y : Ey) (D : Int → Option En) (id : Int) : Bool := match D id with | none => false | some e => eyeB y e
theorem eyeD_some {y : Ey} {D : Int → Option En} {id : Int} {e : En} (h : D id = some e) : eyeD y D id = eyeB y e := by unfold eyeD; rw [h]
theorem sort_same {a b : List Int} (na : a.Nodup) (nb : b.Nodup) (h : ∀ x, x ∈ a ↔ x ∈ b) : (a.mergeSort fun x y => decide (x ≤ y)) = b.mergeSort fun x y => decide (x ≤ y) := by
  have hp : ∀ l : List Int, (l.mergeSort fun x y => decide (x ≤ y)).Pairwise (· ≤ ·) := fun l => by
    have := List.pairwise_mergeSort (le := fun x y : Int => decide (x ≤ y)) (fun a b c h1 h2 => by simp only [decide_eq_true_eq] at *; omega) (fun a b => by simp only [Bool.or_eq_true, decide_eq_true_eq]; omega) l
    exact this.imp (fun h => by simpa using h)
  have na' := (List.mergeSort_perm a fun x y => decide (x ≤ y)).nodup_iff.2 na
  have nb' := (List.mergeSort_perm b fun x y => decide (x ≤ y)).nodup_iff.2 nb
  exact ((List.perm_ext_iff_of_nodup na' nb').2 fun x => by rw [(List.mergeSort_perm _ _).mem_iff, (List.mergeSort_perm _ _).mem_iff, h]).eq_of_pairwise (le := fun x y => x ≤ y) (fun x y _ _ h1 h2 => by omega) (hp _) (hp _)
/-- a body -/
abbrev Bo := Nat → Int
def Bo.bx (f : Bo) : Bx := ⟨sub (f 6) (hf (f 2) (f 3) (f 3)), sub (f 7) (hf (f 2) (f 3) (f 4)), sub (f 8) (hf (f 2) (f 3) (f 5)), add (f 6) (hf (f 2) (f 3) (f 3)), add (f 7) (hf (f 2) (f 3) (f 4)), add (f 8) (hf (f 2) (f 3) (f 5))⟩
def Bo.en (f : Bo) : En := ⟨f.bx, f 16⟩
theorem bo_ok {f : Bo} (h : shapeB (f 2) (f 3) (f 4) (f 5) = true) : f.bx.ok := by
  have key : 0 ≤ hf (f 2) (f 3) (f 3) ∧ 0 ≤ hf (f 2) (f 3) (f 4) ∧ 0 ≤ hf (f 2) (f 3) (f 5) := by
    unfold shapeB szB at h
    unfold hf
    split at h
    · simp only [Bool.and_eq_true, decide_eq_true_eq, beq_iff_eq] at h
      rename_i h2
      simp only [h2, if_true]
      omega
    · split at h
      · simp only [Bool.and_eq_true, decide_eq_true_eq] at h
        rename_i h1 h2
        simp only [h1, if_false]
        omega
      · cases h
  exact ⟨sub_add_le key.1, sub_add_le key.2.1, sub_add_le key.2.2⟩
/-- the grid has the bodies of the list -/
structure GridOf (bs : List Bo) (D : Int → Option En) : Prop where
  nodup : (bs.map (· 0)).Nodup
  is : ∀ id e, D id = some e ↔ ∃ f ∈ bs, f 0 = id ∧ f.en = e
  ok : ∀ f ∈ bs, f.bx.ok
/-- the numbers of those that are seen -/
def seenL (y : Ey) (bs : List Bo) : List Int := (bs.filter fun f => eyeB y f.en).map (· 0)
theorem GridOf.seen {bs : List Bo} {D : Int → Option En} (h : GridOf bs D) (y : Ey) : (seenL y bs).Nodup ∧ ∀ id, id ∈ seenL y bs ↔ eyeD y D id = true := by
  refine ⟨h.nodup.sublist (List.filter_sublist.map _), fun id => ?_⟩
  unfold seenL
  rw [List.mem_map]
  constructor
  · rintro ⟨f, hf, rfl⟩
    rw [List.mem_filter] at hf
    rw [eyeD_some ((h.is (f 0) f.en).2 ⟨f, hf.1, rfl, rfl⟩)]
    exact hf.2
  · intro he
    unfold eyeD at he
    split at he
    · cases he
    · rename_i e hD
      obtain ⟨f, hf, h1, h2⟩ := (h.is _ _).1 hD
      exact ⟨f, List.mem_filter.2 ⟨hf, by rw [h2]; exact he⟩, h1⟩
/-- those without a number -/
def leftL (nn : Int) (bs : List Bo) : List Bo := bs.filter fun f => f 0 != nn
theorem GridOf.out {bs : List Bo} {D : Int → Option En} (h : GridOf bs D) (nn : Int) : GridOf (leftL nn bs) (fun k => if k = nn then none else D k) := by
  refine ⟨h.nodup.sublist (List.filter_sublist.map _), fun id e => ?_, fun f hf => h.ok f (List.mem_filter.1 hf).1⟩
  by_cases en : id = nn
  · rw [if_pos en]
    constructor
    · intro h; cases h
    · rintro ⟨f, hf, h1, _⟩
      have := (List.mem_filter.1 hf).2
      simp [h1, en] at this
  · rw [if_neg en, h.is]
    constructor
    · rintro ⟨f, hf, h1, h2⟩
      exact ⟨f, List.mem_filter.2 ⟨hf, by simp [h1, en]⟩, h1, h2⟩
    · rintro ⟨f, hf, h1, h2⟩
      exact ⟨f, (List.mem_filter.1 hf).1, h1, h2⟩
theorem GridOf.put {bs : List Bo} {D : Int → Option En} (h : GridOf bs D) (b : Bo) (hb : b.bx.ok) : GridOf (leftL (b 0) bs ++ [b]) (fun k => if k = b 0 then some b.en else D k) := by
  have ho := h.out (b 0)
  refine ⟨?_, fun id e => ?_, fun f hf => ?_⟩
  · rw [List.map_append, List.nodup_append]
    refine ⟨ho.nodup, by simp, ?_⟩
    intro x hx y hy e
    obtain ⟨f, hf, rfl⟩ := List.mem_map.1 hx
    have := (List.mem_filter.1 hf).2
    simp only [List.map_cons, List.map_nil, List.mem_singleton] at hy
    simp [e, hy] at this
  · have h2 := ho.is id e
    by_cases en : id = b 0
    · simp only [if_pos en] at h2 ⊢
      constructor
      · intro he
        exact ⟨b, by simp, en.symm, Option.some.inj he⟩
      · rintro ⟨f, hf, h3, h4⟩
        rcases List.mem_append.1 hf with hf | hf
        · exact absurd (h2.2 ⟨f, hf, h3, h4⟩) (by simp)
        · rw [List.mem_singleton] at hf
          rw [← h4, hf]
    · simp only [if_neg en] at h2 ⊢
      rw [h2]
      constructor
      · rintro ⟨f, hf, h3, h4⟩
        exact ⟨f, List.mem_append_left _ hf, h3, h4⟩
      · rintro ⟨f, hf, h3, h4⟩
        rcases List.mem_append.1 hf with hf | hf
        · exact ⟨f, hf, h3, h4⟩
        · rw [List.mem_singleton] at hf
          exact absurd (hf ▸ h3).symm en
  · rcases List.mem_append.1 hf with hf | hf
    · exact ho.ok f hf
    · rw [List.mem_singleton] at hf
      rw [hf]
      exact hb
theorem left_len {bs : List Bo} {D : Int → Option En} (h : GridOf bs D) (nn : Int) : (leftL nn bs).length = if (D nn).isSome then bs.length - 1 else bs.length := by
  have key : ∀ l : List Bo, (l.map (· 0)).Nodup → (leftL nn l).length = if nn ∈ l.map (· 0) then l.length - 1 else l.length := by
    intro l
    induction l with
    | nil => intro _; simp [leftL]
    | cons f l ih =>
      intro hn
      rw [List.map_cons, List.nodup_cons] at hn
      have hi := ih hn.2
      unfold leftL at hi ⊢
      by_cases e : f 0 = nn
      · have hnot : nn ∉ l.map (· 0) := e ▸ hn.1
        rw [if_neg hnot] at hi
        simp [e, hi]
      · have hne : (f 0 != nn) = true := by simpa using e
        rw [List.filter_cons_of_pos (p := fun f : Bo => f 0 != nn) hne, List.length_cons, hi]
        by_cases hm : nn ∈ l.map (· 0)
        · have : 0 < l.length := by
            cases l with
            | nil => simp at hm
            | cons => simp
          rw [if_pos hm, if_pos (by simp only [List.map_cons, List.mem_cons]; exact .inr hm), List.length_cons]
          omega
        · rw [if_neg hm, if_neg (by simp only [List.map_cons, List.mem_cons]; exact fun h' => h'.elim (fun h' => e h'.symm) hm), List.length_cons]
  rw [key bs h.nodup]
  have hiff : nn ∈ bs.map (· 0) ↔ (D nn).isSome = true := by
    rw [Option.isSome_iff_exists, List.mem_map]
    constructor
    · rintro ⟨f, hf, rfl⟩
      exact ⟨f.en, (h.is _ _).2 ⟨f, hf, rfl, rfl⟩⟩
    · rintro ⟨e, he⟩
      obtain ⟨f, hf, h1, _⟩ := (h.is _ _).1 he
      exact ⟨f, hf, h1⟩
  by_cases hm : nn ∈ bs.map (· 0)
  · rw [if_pos hm, if_pos (hiff.1 hm)]
  · rw [if_neg hm, if_neg (fun e => hm (hiff.2 e))]
end Go.Proofs.YtefhmbmbhiehdaaDoor
