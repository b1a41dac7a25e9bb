/- Plain: the numbers of two views, one behind the other, rise. No program in sight. Conditions: none. -/
import Derived.Test.YtnkinnfpebploaaDoorSnapP
namespace Go.Proofs.YtnkinnfpebploaaDoor
/-- they rise, from above lo on, up to 2^40 -/
def Rises : Int → List Int → Prop
  | _, [] => True
  | lo, x :: l => lo < x ∧ x ≤ 1099511627776 ∧ Rises x l
theorem Rises.le {lo lo' : Int} (h : lo' ≤ lo) : ∀ {l : List Int}, Rises lo l → Rises lo' l
  | [], _ => trivial
  | _ :: _, hr => ⟨Int.lt_of_le_of_lt h hr.1, hr.2⟩
theorem ids_rise {M1 M2 : Nat → Nat → Int} {n1 n2 : Nat} (h1 : RightV n1 M1) (h2 : RightV n2 M2) : ∀ (f i k : Nat) (lo : Int), (i < n1 → lo < M1 i 0) → (k < n2 → lo < M2 k 0) → Rises lo (idsF M1 n1 M2 n2 f i k) := by
  intro f
  induction f with
  | zero => intro i k lo _ _; exact trivial
  | succ f ih =>
    intro i k lo hi hk
    unfold idsF
    by_cases hl : i < n1 ∨ k < n2
    · rw [if_pos hl]
      by_cases hg : Gone M1 n1 M2 n2 i k
      · rw [if_pos hg]
        exact ⟨hi hg.1, h1.top hg.1, ih (i + 1) k _ (fun h => h1.ids (by omega) h) hg.2⟩
      · rw [if_neg hg]
        by_cases hc : Came M1 n1 M2 n2 i k
        · rw [if_pos hc]
          exact ⟨hk hc.1, h2.top hc.1, ih i (k + 1) _ hc.2 (fun h => h2.ids (by omega) h)⟩
        · rw [if_neg hc]
          have hin : i < n1 := by
            rcases hl with h | h
            · exact h
            · by_cases h' : i < n1
              · exact h'
              · exact absurd ⟨h, fun h'' => absurd h'' h'⟩ hc
          have hkn : k < n2 := by
            by_cases h' : k < n2
            · exact h'
            · exact absurd ⟨hin, fun h'' => absurd h'' h'⟩ hg
          have he : M1 i 0 = M2 k 0 := by
            have e1 : ¬ M1 i 0 < M2 k 0 := fun h => hg ⟨hin, fun _ => h⟩
            have e2 : ¬ M2 k 0 < M1 i 0 := fun h => hc ⟨hkn, fun _ => h⟩
            omega
          exact ⟨hi hin, h1.top hin, ih (i + 1) (k + 1) _ (fun h => h1.ids (by omega) h) (fun h => by rw [he]; exact h2.ids (by omega) h)⟩
    · rw [if_neg hl]
      exact trivial
/-- all the numbers of two views that may be -/
theorem ids_rises {M1 M2 : Nat → Nat → Int} {n1 n2 : Nat} (h1 : RightV n1 M1) (h2 : RightV n2 M2) : Rises 0 (idsF M1 n1 M2 n2 (n1 + n2) 0 0) :=
  ids_rise h1 h2 _ 0 0 0 (fun h => by have := h1.pos h; omega) (fun h => by have := h2.pos h; omega)
end Go.Proofs.YtnkinnfpebploaaDoor
