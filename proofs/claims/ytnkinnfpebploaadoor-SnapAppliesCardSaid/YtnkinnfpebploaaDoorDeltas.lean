/- What both Delta answer, in one form. Conditions: none but that there are not too many. -/
import Derived.Test.YtnkinnfpebploaaDoorSnap10
import Derived.Test.YtnkinnfpebploaaDoorSnap11
import Derived.Test.YtnkinnfpebploaaDoorErr
namespace Go.Proofs.YtnkinnfpebploaaDoor
open Go.ChangeShapes Go.WideShapes Go.ChangeAt Go.RowKit Go.BigFrame
open B
open Classical in
/-- the error of a change from one view to another one -/
noncomputable def dN (M1 : Nat → Nat → Int) (n1 : Nat) (M2 : Nat → Nat → Int) (n2 : Nat) : Int := if RightV n1 M1 ∧ RightV n2 M2 then (if 31872 < (deltaL M1 n1 M2 n2).length then 4 else 0) else 1
open Classical in
/-- its bytes -/
noncomputable def dL (M1 : Nat → Nat → Int) (n1 : Nat) (M2 : Nat → Nat → Int) (n2 : Nat) : List Nat := if dN M1 n1 M2 n2 = 0 then pack (deltaL M1 n1 M2 n2) else []
section
variable {M1 M2 : Nat → Nat → Int} {n1 n2 : Nat}
theorem d_arg (h : ¬ (RightV n1 M1 ∧ RightV n2 M2)) : dN M1 n1 M2 n2 = 1 ∧ dL M1 n1 M2 n2 = [] := by
  have e : dN M1 n1 M2 n2 = 1 := by unfold dN; rw [if_neg h]
  exact ⟨e, by unfold dL; rw [e]; rfl⟩
theorem d_limit (h1 : RightV n1 M1) (h2 : RightV n2 M2) (h : 31872 < (deltaL M1 n1 M2 n2).length) : dN M1 n1 M2 n2 = 4 ∧ dL M1 n1 M2 n2 = [] := by
  have e : dN M1 n1 M2 n2 = 4 := by unfold dN; rw [if_pos ⟨h1, h2⟩, if_pos h]
  exact ⟨e, by unfold dL; rw [e]; rfl⟩
theorem d_ok (h1 : RightV n1 M1) (h2 : RightV n2 M2) (h : ¬ 31872 < (deltaL M1 n1 M2 n2).length) : dN M1 n1 M2 n2 = 0 ∧ dL M1 n1 M2 n2 = pack (deltaL M1 n1 M2 n2) := by
  have e : dN M1 n1 M2 n2 = 0 := by unfold dN; rw [if_pos ⟨h1, h2⟩, if_neg h]
  exact ⟨e, by unfold dL; rw [if_pos e]⟩
theorem d_zero : dN M1 n1 M2 n2 = 0 ↔ RightV n1 M1 ∧ RightV n2 M2 ∧ (deltaL M1 n1 M2 n2).length ≤ 31872 := by
  unfold dN
  by_cases h : RightV n1 M1 ∧ RightV n2 M2
  · rw [if_pos h]
    by_cases h' : 31872 < (deltaL M1 n1 M2 n2).length
    · rw [if_pos h']; exact ⟨(fun e => by cases e), (fun e => by omega)⟩
    · rw [if_neg h']; exact ⟨fun _ => ⟨h.1, h.2, by omega⟩, fun _ => rfl⟩
  · rw [if_neg h]; exact ⟨(fun e => by cases e), fun e => absurd ⟨e.1, e.2.1⟩ h⟩
end
theorem rdb_none (w : World) : Rdb w (.slice none 0 0) [] := ⟨none, 0, rfl, fun h => absurd h (by simp)⟩
theorem rdelta_d (n1 n2 : Nat) (A1 A2 : Option Addr) (cap1 cap2 : Nat) (M1 M2 : Nat → Nat → Int) (w : World) (hn1 : n1 ≤ 100000) (hn2 : n2 ≤ 100000) (hR1 : Reads w A1 n1 11 M1) (hR2 : Reads w A2 n2 11 M2) :
    Calls Tryd.prog 50 #[.slice A1 n1 cap1, .slice A2 n2 cap2] w fun e w' => ∃ (v : Value) (A : Option Addr) (c : Nat), e = .returned (.tuple #[v, .int .i64 (dN M1 n1 M2 n2)]) ∧ v = .slice A (dL M1 n1 M2 n2).length c ∧ Rdb w' v (dL M1 n1 M2 n2) ∧ Below w.heap.size w w' := by
  refine (rdelta_c n1 n2 A1 A2 cap1 cap2 M1 M2 w hn1 hn2 hR1 hR2).mono ?_
  rintro e w' ⟨h, hb⟩
  rcases h with ⟨h, rfl⟩ | ⟨h1, h2, h, rfl⟩ | ⟨h1, h2, h, D, c, b, _, rfl, hB⟩
  · obtain ⟨e1, e2⟩ := d_arg h
    rw [e1, e2]
    exact ⟨_, _, _, rfl, rfl, rdb_none _, hb⟩
  · obtain ⟨e1, e2⟩ := d_limit h1 h2 h
    rw [e1, e2]
    exact ⟨_, _, _, rfl, rfl, rdb_none _, hb⟩
  · obtain ⟨e1, e2⟩ := d_ok h1 h2 h
    rw [e1, e2]
    exact ⟨_, _, _, rfl, rfl, Rdb.of_row hB, hb⟩
theorem delta_d (n1 n2 : Nat) (A1 A2 : Option Addr) (cap1 cap2 : Nat) (M1 M2 : Nat → Nat → Int) (w : World) (hn1 : n1 ≤ 100000) (hn2 : n2 ≤ 100000) (hR1 : Reads w A1 n1 11 M1) (hR2 : Reads w A2 n2 11 M2) :
    Calls Tryd.prog 52 #[.slice A1 n1 cap1, .slice A2 n2 cap2] w fun e w' => ∃ (v : Value) (A : Option Addr) (c : Nat), e = .returned (.tuple #[v, errV (dN M1 n1 M2 n2)]) ∧ v = .slice A (dL M1 n1 M2 n2).length c ∧ Rdb w' v (dL M1 n1 M2 n2) ∧ Below w.heap.size w w' := by
  refine (delta_c n1 n2 A1 A2 cap1 cap2 M1 M2 w hn1 hn2 hR1 hR2).mono ?_
  rintro e w' ⟨h, hb⟩
  rcases h with ⟨h, rfl⟩ | ⟨h1, h2, h, rfl⟩ | ⟨h1, h2, h, D, c, b, _, rfl, hB⟩
  · obtain ⟨e1, e2⟩ := d_arg h
    rw [e1, e2]
    exact ⟨_, _, _, rfl, rfl, rdb_none _, hb⟩
  · obtain ⟨e1, e2⟩ := d_limit h1 h2 h
    rw [e1, e2]
    exact ⟨_, _, _, rfl, rfl, rdb_none _, hb⟩
  · obtain ⟨e1, e2⟩ := d_ok h1 h2 h
    rw [e1, e2]
    exact ⟨_, _, _, rfl, rfl, Rdb.of_row hB, hb⟩
end Go.Proofs.YtnkinnfpebploaaDoor
