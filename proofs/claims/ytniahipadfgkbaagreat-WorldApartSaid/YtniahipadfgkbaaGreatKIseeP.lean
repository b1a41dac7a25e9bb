/- What an eye sees, in plain Lean. Conditions: none. -/
import Derived.Test.YtniahipadfgkbaaGreatKGeom
import Derived.Test.YtniahipadfgkbaaGreatKX2
namespace Go.Proofs.YtniahipadfgkbaaGreat
open Go Go.Maps Go.RowKit Go.BigFrame Go.ChangeShapes Go.WideShapes
/-- an eye -/
structure Ey where
  x : Int
  y : Int
  z : Int
  far : Int
  teams : Int
def Ey.bx (y : Ey) : Bx := ⟨sub y.x y.far, sub y.y y.far, sub y.z y.far, add y.x y.far, add y.y y.far, add y.z y.far⟩
def meetX (a b : Bx) : Bool := decide (a.a1 ≤ b.b1) && decide (b.a1 ≤ a.b1) && decide (a.a2 ≤ b.b2) && decide (b.a2 ≤ a.b2) && decide (a.a3 ≤ b.b3) && decide (b.a3 ≤ a.b3)
def eyeB (y : Ey) (e : En) : Bool := (bits .and .i64 e.tm y.teams != 0) && meetX y.bx e.bx
/-- a box is not turned over -/
def Bx.ok (b : Bx) : Prop := b.a1 ≤ b.b1 ∧ b.a2 ≤ b.b2 ∧ b.a3 ≤ b.b3
/-- is it seen, as a body of the grid -/
def eyeD (y : Ey) (D : Int → Option En) (id : Int) : Bool := match D id with | none => false | some e => eyeB y e
theorem eyeD_some {y : Ey} {D : Int → Option En} {id : Int} {e : En} (h : D id = some e) : eyeD y D id = eyeB y e := by unfold eyeD; rw [h]
/-- a body -/
abbrev Bo := Nat → Int
def Bo.bx (f : Bo) : Bx := ⟨sub (f 6) (hf (f 2) (f 3) (f 3)), sub (f 7) (hf (f 2) (f 3) (f 4)), sub (f 8) (hf (f 2) (f 3) (f 5)), add (f 6) (hf (f 2) (f 3) (f 3)), add (f 7) (hf (f 2) (f 3) (f 4)), add (f 8) (hf (f 2) (f 3) (f 5))⟩
def Bo.en (f : Bo) : En := ⟨f.bx, f 16⟩
/-- the grid has the bodies of the list -/
structure GridOf (bs : List Bo) (D : Int → Option En) : Prop where
  nodup : (bs.map (· 0)).Nodup
  is : ∀ id e, D id = some e ↔ ∃ f ∈ bs, f 0 = id ∧ f.en = e
  ok : ∀ f ∈ bs, f.bx.ok
/-- the numbers of those that are seen -/
def seenL (y : Ey) (bs : List Bo) : List Int := (bs.filter fun f => eyeB y f.en).map (· 0)
theorem GridOf.seen {bs : List Bo} {D : Int → Option En} (h : GridOf bs D) (y : Ey) : (seenL y bs).Nodup ∧ ∀ id, id ∈ seenL y bs ↔ eyeD y D id = true := by
  refine ⟨h.nodup.sublist (List.filter_sublist.map _), fun id => ?_⟩
  unfold seenL
  rw [List.mem_map]
  constructor
  · rintro ⟨f, hf, rfl⟩
    rw [List.mem_filter] at hf
    rw [eyeD_some ((h.is (f 0) f.en).2 ⟨f, hf.1, rfl, rfl⟩)]
    exact hf.2
  · intro he
    unfold eyeD at he
    split at he
    · cases he
    · rename_i e hD
      obtain ⟨f, hf, h1, h2⟩ := (h.is _ _).1 hD
      exact ⟨f, List.mem_filter.2 ⟨hf, by rw [h2]; exact he⟩, h1⟩
/-- those without a number -/
def leftL (nn : Int) (bs : List Bo) : List Bo := bs.filter fun f => f 0 != nn
theorem GridOf.out {bs : List Bo} {D : Int → Option En} (h : GridOf bs D) (nn : Int) : GridOf (leftL nn bs) (fun k => if k = nn then none else D k) := by
  refine ⟨h.nodup.sublist (List.filter_sublist.map _), fun id e => ?_, fun f hf => h.ok f (List.mem_filter.1 hf).1⟩
  by_cases en : id = nn
  · rw [if_pos en]
    constructor
    · intro h; cases h
    · rintro ⟨f, hf, h1, _⟩
      have := (List.mem_filter.1 hf).2
      simp [h1, en] at this
  · rw [if_neg en, h.is]
    constructor
    · rintro ⟨f, hf, h1, h2⟩
      exact ⟨f, List.mem_filter.2 ⟨hf, by simp [h1, en]⟩, h1, h2⟩
    · rintro ⟨f, hf, h1, h2⟩
      exact ⟨f, (List.mem_filter.1 hf).1, h1, h2⟩
theorem GridOf.put {bs : List Bo} {D : Int → Option En} (h : GridOf bs D) (b : Bo) (hb : b.bx.ok) : GridOf (leftL (b 0) bs ++ [b]) (fun k => if k = b 0 then some b.en else D k) := by
  have ho := h.out (b 0)
  refine ⟨?_, fun id e => ?_, fun f hf => ?_⟩
  · rw [List.map_append, List.nodup_append]
    refine ⟨ho.nodup, by simp, ?_⟩
    intro x hx y hy e
    obtain ⟨f, hf, rfl⟩ := List.mem_map.1 hx
    have := (List.mem_filter.1 hf).2
    simp only [List.map_cons, List.map_nil, List.mem_singleton] at hy
    simp [e, hy] at this
  · have h2 := ho.is id e
    by_cases en : id = b 0
    · simp only [if_pos en] at h2 ⊢
      constructor
      · intro he
        exact ⟨b, by simp, en.symm, Option.some.inj he⟩
      · rintro ⟨f, hf, h3, h4⟩
        rcases List.mem_append.1 hf with hf | hf
        · exact absurd (h2.2 ⟨f, hf, h3, h4⟩) (by simp)
        · rw [List.mem_singleton] at hf
          rw [← h4, hf]
    · simp only [if_neg en] at h2 ⊢
      rw [h2]
      constructor
      · rintro ⟨f, hf, h3, h4⟩
        exact ⟨f, List.mem_append_left _ hf, h3, h4⟩
      · rintro ⟨f, hf, h3, h4⟩
        rcases List.mem_append.1 hf with hf | hf
        · exact ⟨f, hf, h3, h4⟩
        · rw [List.mem_singleton] at hf
          exact absurd (hf ▸ h3).symm en
  · rcases List.mem_append.1 hf with hf | hf
    · exact ho.ok f hf
    · rw [List.mem_singleton] at hf
      rw [hf]
      exact hb
end Go.Proofs.YtniahipadfgkbaaGreat
