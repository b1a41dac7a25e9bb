/- append([]api.Body{}, bodies...), and what it gives where there are none. Conditions: none but that there are not too many. -/
import Derived.Test.YtfagkbmphohelaaSolve6
namespace Go.Proofs.Ytfagkbmphohelaa
open Go.ChangeShapes Go.WideShapes Go.ChangeAt Go.RowKit Go.BigFrame
theorem ownB_of_row2 {w : World} {base n : Nat} {v : Value} {M : Nat → Nat → Int} {e : TypeId} (h : w.ownsRow base e 17 v n (rowsL M 17 n)) : ∃ A cap, v = .slice A n cap ∧ OwnB base w A n M ∧ (A = none → n = 0 ∧ cap = 0) := by
  rcases Nat.eq_zero_or_pos n with rfl | hn
  · obtain ⟨_, ⟨hv, _⟩ | ⟨g, cap, cur, hv, _⟩⟩ := h
    · exact ⟨_, _, hv, fun h => absurd h (by omega), fun _ => ⟨rfl, rfl⟩⟩
    · exact ⟨_, cap, hv, fun h => absurd h (by omega), fun h => by cases h⟩
  · obtain ⟨g, cap, hv, hb, hnc, _, hT⟩ := tab_of_own h hn
    exact ⟨_, cap, hv, fun _ => ⟨g, rfl, hb, hT⟩, fun h => by cases h⟩
/-- append([]api.Body{}, bodies...) -/
theorem append_bodies2 {ops : Array Oper} {rest : List Oper} {o : Oper} {a : Act} {Q : Exit → Act → World → Prop} (hgd : o.guard = none) (s x : Operand)
    (ho : o.op = .call { callee := .builtin .append, args := #[s, x], argTypes := #[85, 85] }) (w : World) (hs : a.eval s = .slice (some ⟨w.heap.size, 0, none⟩) 0 0) (M : Nat → Nat → Int) (A : Option Addr) (n cap : Nat) (hx : a.eval x = .slice A n cap)
    (hR : Reads w A n 17 M) (hA : A = none → n = 0 ∧ cap = 0) (hn : n ≤ 1000000)
    (h : ∀ A' cap' w', OwnB w.heap.size w' A' n M → (A' = none → n = 0 ∧ cap' = 0) → Below w.heap.size w w' → wpList Try.prog ops Q rest (a.put o.dst (.slice A' n cap')) w') : wpList Try.prog ops Q (o :: rest) a (w.alloc (.cells #[] 27)) := by
  obtain ⟨i0, hi, hz0, hz1, hz2⟩ := info_parts bodyInfo2
  cases A with
  | none =>
    obtain ⟨rfl, rfl⟩ := hA rfl
    refine wpList_append_own_none hgd s x 85 ho w.heap.size 27 i0 17 Try.underlying85 hi _ 0 [] hs (own_empty 27 17) hx ?_
    exact h _ _ _ (fun h => absurd h (by omega)) (fun h => by cases h) (below_alloc _ _)
  | some ad =>
    refine wpList_append_own _ hgd s x 85 ho w.heap.size 27 i0 (.agg #[.int .i64 0, .int .i64 0, .int .i64 0, .int .i64 0, .int .i64 0, .int .i64 0, .int .i64 0, .int .i64 0, .int .i64 0, .int .i64 0, .int .i64 0, .int .i64 0, .int .i64 0, .int .i64 0, .int .i64 0, .int .i64 0, .int .i64 0]) 17 136 Try.underlying85 hi hz0 hz1 hz2 rfl (by decide) _ 0 [] hs (own_empty 27 17) ad n cap (rowsL M 17 n) hx (rowsL_length M 17 n) ?c1 (rowsL_one M 17 n) (by unfold maxLen; omega) (by omega) (by simp) ?_
    case c1 =>
      intro j u hu
      have hn0 : 0 < n := by
        have := (List.getElem?_eq_some_iff.1 hu).1
        rw [rowsL_length] at this
        omega
      obtain ⟨b, ao, e, hb, hc⟩ := hR hn0
      cases e
      rw [World.cell?_alloc_lt _ _ _ (by unfold Addr.add; split <;> exact hb)]
      exact rowsL_cells (by decide) hc j u hu
    intro v' w' hown hgrow _
    simp only [Nat.zero_add, List.nil_append] at hown
    obtain ⟨A', cap', hv, hO, hZ⟩ := ownB_of_row2 hown
    subst hv
    exact h _ _ _ hO hZ ⟨hgrow.os, hgrow.tape, hgrow.output, Nat.le_trans (by simp) hgrow.size, fun k hk => (hgrow.block k (by simp; omega) (by simp only [Value.ownBlock, ne_eq, Option.some.injEq]; omega)).trans (Below.heap_alloc w _ k hk)⟩

theorem OwnB.reads {base n : Nat} {w : World} {A : Option Addr} {M : Nat → Nat → Int} (h : OwnB base w A n M) : Reads w A n 17 M := fun hn => by
  obtain ⟨b, rfl, _, hT⟩ := h hn
  exact Reads.of_tab hT hn
end Go.Proofs.Ytfagkbmphohelaa
