/- Copies of bodies: what slices.Clone and append of all make is a row of the call's own. Plain: one touch of 4.3. Conditions: none but that there are not too many. -/
import Derived.Test.YtfagkbmphohelaaSolve4
import Derived.Test.YtfagkbmphohelaaOpen
import Derived.Laws.AppendOwnNone
namespace Go.Proofs.Ytfagkbmphohelaa
open Go.ChangeShapes Go.WideShapes Go.ChangeAt Go.RowKit Go.BigFrame
section
variable {H : Type} {enc : TypeId × Value → H} {P : Program} {w : World} {base : Nat} {spare : Nat → Bool} {held : Bool}
/-- a slice that is nil has no elements -/
theorem slice_nil0 {t e : TypeId} {A : Option Addr} {n cap : Nat} {d : DataW H} {p : List MemPlace} (ht : P.underlying t = some (.slice e)) (h : DataW.Trod enc P w base spare held t (.slice A n cap) d p) : A = none → n = 0 ∧ cap = 0 := by
  obtain ⟨fuel, hf⟩ := h
  rintro rfl
  rcases Go.Deep.open_slice ht hf with ⟨h0, _⟩ | ⟨a, len, cap, m, n, D, Pl, hcs, _⟩
  · simp [Value.cells] at h0
    exact h0
  · simp [Value.cells] at hcs
end
/-- the slice (A, n, _) is n bodies, all in one block from base on -/
def OwnB (base : Nat) (w : World) (A : Option Addr) (n : Nat) (M : Nat → Nat → Int) : Prop := 0 < n → ∃ b, A = some ⟨b, 0, none⟩ ∧ base ≤ b ∧ Tab w b n 17 M
section
variable {base : Nat} {w w' : World} {A : Option Addr} {n : Nat} {M : Nat → Nat → Int}
theorem OwnB.below (h : OwnB base w A n M) (k : Below w.heap.size w w') : OwnB base w' A n M := fun hn => by
  obtain ⟨b, e, hb, h⟩ := h hn
  exact ⟨b, e, hb, h.below k⟩
theorem OwnB.own (h : OwnB base w A n M) : Own w A n M := fun hn => by
  obtain ⟨b, e, _, h⟩ := h hn
  exact ⟨b, e, h⟩
theorem OwnB.mono {base' : Nat} (h : OwnB base w A n M) (k : base' ≤ base) : OwnB base' w A n M := fun hn => by
  obtain ⟨b, e, hb, h⟩ := h hn
  exact ⟨b, e, Nat.le_trans k hb, h⟩
end
theorem ownB_of_row {w : World} {base : Nat} {e : TypeId} {n : Nat} {v : Value} {M : Nat → Nat → Int} (h : w.ownsRow base e 17 v n (rowsL M 17 n)) : ∃ A cap, v = .slice A n cap ∧ OwnB base w A n M := by
  rcases Nat.eq_zero_or_pos n with rfl | hn
  · obtain ⟨_, ⟨hv, _⟩ | ⟨g, cap, cur, hv, _, _, hnc, _⟩⟩ := h
    · exact ⟨none, 0, hv, fun h => absurd h (by omega)⟩
    · exact ⟨_, cap, hv, fun h => absurd h (by omega)⟩
  · obtain ⟨g, cap, hv, hb, hnc, _, hT⟩ := tab_of_own h hn
    exact ⟨_, cap, hv, fun _ => ⟨g, rfl, hb, hT⟩⟩
/-- append([]api.Body{}, bodies...) -/
theorem append_bodies {ops : Array Oper} {rest : List Oper} {o : Oper} {a : Act} {Q : Exit → Act → World → Prop} (hgd : o.guard = none) (s x : Operand)
    (ho : o.op = .call { callee := .builtin .append, args := #[s, x], argTypes := #[85, 85] }) (w : World) (hs : a.eval s = .slice (some ⟨w.heap.size, 0, none⟩) 0 0) (M : Nat → Nat → Int) (A : Option Addr) (n cap : Nat) (hx : a.eval x = .slice A n cap)
    (hR : Reads w A n 17 M) (hA : A = none → n = 0 ∧ cap = 0) (hn : n ≤ 1000000)
    (h : ∀ A' cap' w', OwnB w.heap.size w' A' n M → Below w.heap.size w w' → wpList Try.prog ops Q rest (a.put o.dst (.slice A' n cap')) w') : wpList Try.prog ops Q (o :: rest) a (w.alloc (.cells #[] 27)) := by
  obtain ⟨i0, hi, hz0, hz1, hz2⟩ := info_parts bodyInfo2
  cases A with
  | none =>
    obtain ⟨rfl, rfl⟩ := hA rfl
    refine wpList_append_own_none hgd s x 85 ho w.heap.size 27 i0 17 Try.underlying85 hi _ 0 [] hs (own_empty 27 17) hx ?_
    exact h _ _ _ (fun h => absurd h (by omega)) (below_alloc _ _)
  | some ad =>
    refine wpList_append_own _ hgd s x 85 ho w.heap.size 27 i0 (.agg #[.int .i64 0, .int .i64 0, .int .i64 0, .int .i64 0, .int .i64 0, .int .i64 0, .int .i64 0, .int .i64 0, .int .i64 0, .int .i64 0, .int .i64 0, .int .i64 0, .int .i64 0, .int .i64 0, .int .i64 0, .int .i64 0, .int .i64 0]) 17 136 Try.underlying85 hi hz0 hz1 hz2 rfl (by decide) _ 0 [] hs (own_empty 27 17) ad n cap (rowsL M 17 n) hx (rowsL_length M 17 n) ?c1 (rowsL_one M 17 n) (by unfold maxLen; omega) (by omega) (by simp) ?_
    case c1 =>
      intro j u hu
      have hn0 : 0 < n := by
        have := (List.getElem?_eq_some_iff.1 hu).1
        rw [rowsL_length] at this
        omega
      obtain ⟨b, ao, e, hb, hc⟩ := hR hn0
      cases e
      rw [World.cell?_alloc_lt _ _ _ (by unfold Addr.add; split <;> exact hb)]
      exact rowsL_cells (by decide) hc j u hu
    intro v' w' hown hgrow _
    simp only [Nat.zero_add, List.nil_append] at hown
    obtain ⟨A', cap', hv, hO⟩ := ownB_of_row hown
    subst hv
    exact h _ _ _ hO ⟨hgrow.os, hgrow.tape, hgrow.output, Nat.le_trans (by simp) hgrow.size, fun k hk => (hgrow.block k (by simp; omega) (by simp only [Value.ownBlock, ne_eq, Option.some.injEq]; omega)).trans (Below.heap_alloc w _ k hk)⟩

theorem clone_0 (w : World) : Calls Try.prog 105 #[.slice none 0 0] w fun e w' => e = .returned (.slice none 0 0) ∧ w = w' := by
  have hnil := @Lib.run_eql_slice_nil Try.prog
  go_enter Try.func105, Try.ntmps105
  go_wp2
  go_ret
  exact ⟨rfl, rfl⟩
set_option maxRecDepth 100000 in
set_option maxHeartbeats 2000000 in
theorem clone_1 (M : Nat → Nat → Int) (ad : Addr) (n cap : Nat) (w : World) (hR : Reads w (some ad) n 17 M) (hn : n ≤ 1000000) :
    Calls Try.prog 105 #[.slice (some ad) n cap] w fun e w' => ∃ A' cap', e = .returned (.slice A' n cap') ∧ OwnB w.heap.size w' A' n M ∧ Below w.heap.size w w' := by
  have hnil := @Lib.run_eql_slice_nil Try.prog
  go_enter Try.func105, Try.ntmps105
  go_wp2_with (at_builtin; refine append_bodies rfl (.tmp 5) (.tmp 6) rfl w rfl M (some ad) n cap rfl hR (fun h => by cases h) hn ?_)
  rintro A' cap' w' hO hb
  go_wp2
  go_ret
  exact ⟨A', cap', rfl, hO, hb⟩
theorem clone_c (M : Nat → Nat → Int) (A : Option Addr) (n cap : Nat) (w : World) (hR : Reads w A n 17 M) (hA : A = none → n = 0 ∧ cap = 0) (hn : n ≤ 1000000) :
    Calls Try.prog 105 #[.slice A n cap] w fun e w' => ∃ A' cap', e = .returned (.slice A' n cap') ∧ OwnB w.heap.size w' A' n M ∧ Below w.heap.size w w' := by
  cases A with
  | none =>
    obtain ⟨rfl, rfl⟩ := hA rfl
    exact (clone_0 w).mono fun e w' ⟨he, hw⟩ => ⟨none, 0, he, fun h => absurd h (by omega), by subst hw; exact Below.refl _ _⟩
  | some ad => exact clone_1 M ad n cap w hR hn

/-! ### plain: one touch -/
/-- two bodies that touch, moved apart -/
def placeGo (M : Nat → Nat → Int) (i k : Nat) (g1 g2 g3 dp : Int) : Nat → Nat → Int :=
  if 0 < add (light (M i 15)) (light (M k 15)) then
    put3 (put3 M i 6 (clamp 65536000 (sub (M i 6) (mul g1 (mul (div (sub dp 655 / 5) (add (light (M i 15)) (light (M k 15)))) (light (M i 15)))))) (clamp 65536000 (sub (M i 7) (mul g2 (mul (div (sub dp 655 / 5) (add (light (M i 15)) (light (M k 15)))) (light (M i 15)))))) (clamp 65536000 (sub (M i 8) (mul g3 (mul (div (sub dp 655 / 5) (add (light (M i 15)) (light (M k 15)))) (light (M i 15)))))))
      k 6 (clamp 65536000 (add (M k 6) (mul g1 (mul (div (sub dp 655 / 5) (add (light (M i 15)) (light (M k 15)))) (light (M k 15)))))) (clamp 65536000 (add (M k 7) (mul g2 (mul (div (sub dp 655 / 5) (add (light (M i 15)) (light (M k 15)))) (light (M k 15)))))) (clamp 65536000 (add (M k 8) (mul g3 (mul (div (sub dp 655 / 5) (add (light (M i 15)) (light (M k 15)))) (light (M k 15))))))
  else M
/-- both bodies of a touch are there, and are two -/
def Both (M : Nat → Nat → Int) (n : Nat) (tA tB : Int) : Prop := 0 ≤ idx M n tA ∧ 0 ≤ idx M n tB ∧ idx M n tA ≠ idx M n tB
instance (M : Nat → Nat → Int) (n : Nat) (tA tB : Int) : Decidable (Both M n tA tB) := inferInstanceAs (Decidable (_ ∧ _))
def placeStep (M : Nat → Nat → Int) (n : Nat) (tA tB g1 g2 g3 dp : Int) : Nat → Nat → Int :=
  if Both M n tA tB ∧ 655 < dp then placeGo M (idx M n tA).toNat (idx M n tB).toNat g1 g2 g3 dp else M
/-- k touches, one behind the other -/
def placesF (M T : Nat → Nat → Int) (n : Nat) : Nat → Nat → Nat → Int
  | 0 => M
  | k + 1 => placeStep (placesF M T n k) n (T k 0) (T k 1) (T k 2) (T k 3) (T k 4) (T k 5)
theorem idx_not {M : Nat → Nat → Int} {n : Nat} {x : Int} (h : ¬ 0 ≤ idx M n x) : idx M n x = -1 := by
  have := idx_bd M n x
  omega
theorem idx_lt {M : Nat → Nat → Int} {n : Nat} {x : Int} (h : 0 ≤ idx M n x) : idx M n x = ((idx M n x).toNat : Int) ∧ (idx M n x).toNat < n := by
  have := idx_bd M n x
  omega

end Go.Proofs.Ytfagkbmphohelaa
