/- The contract of slices.Clone over bodies. Conditions: none but that there are not too many. -/
import Derived.Test.YtfagkbmphohelaaSolve2
import Derived.Test.YtfagkbmphohelaaOwnTab
import Derived.WalkSpells
namespace Go.Proofs.Ytfagkbmphohelaa
open Go.ChangeShapes Go.WideShapes Go.ChangeAt Go.RowKit Go.BigFrame
theorem bodyInfo2 : (Try.prog.info? 27).map (fun i => (i.zero, i.size, i.bytes)) = some (some (.agg #[.int .i64 0, .int .i64 0, .int .i64 0, .int .i64 0, .int .i64 0, .int .i64 0, .int .i64 0, .int .i64 0, .int .i64 0, .int .i64 0, .int .i64 0, .int .i64 0, .int .i64 0, .int .i64 0, .int .i64 0, .int .i64 0, .int .i64 0]), 17, 136) := by kernel_rfl

theorem own_of_row {w : World} {base : Nat} {e : TypeId} {n : Nat} {v : Value} {M : Nat → Nat → Int} (h : w.ownsRow base e 17 v n (rowsL M 17 n)) : ∃ A cap, v = .slice A n cap ∧ n ≤ cap ∧ Own w A n M := by
  rcases Nat.eq_zero_or_pos n with rfl | hn
  · obtain ⟨_, ⟨hv, _⟩ | ⟨g, cap, cur, hv, _, _, hnc, _⟩⟩ := h
    · exact ⟨none, 0, hv, Nat.le_refl _, fun h => absurd h (by omega)⟩
    · exact ⟨_, cap, hv, hnc, fun h => absurd h (by omega)⟩
  · obtain ⟨g, cap, hv, _, hnc, _, hT⟩ := tab_of_own h hn
    exact ⟨_, cap, hv, hnc, Own.of_tab hT⟩

set_option maxRecDepth 100000 in
set_option maxHeartbeats 2000000 in
theorem clone_s (M : Nat → Nat → Int) (ad : Addr) (n cap : Nat) (w : World) (hn : n ≤ 1000000) (hR : ∀ j u, (rowsL M 17 n)[j]? = some u → ad.block < w.heap.size ∧ w.cell? (ad.add j) = some u) :
    Calls Try.prog 105 #[.slice (some ad) n cap] w fun e w' => ∃ A' cap', e = .returned (.slice A' n cap') ∧ Own w' A' n M ∧ Below w.heap.size w w' := by
  have hnil := @Lib.run_eql_slice_nil Try.prog
  obtain ⟨i0, hi, hz0, hz1, hz2⟩ := info_parts bodyInfo2
  have HI := Lib.hid hi
  have HZ0 := Lib.hid hz0
  have HZ1 := Lib.hid hz1
  have HZ2 := Lib.hid hz2
  clear hi hz0 hz1 hz2
  go_enter Try.func105, Try.ntmps105
  go_wp2_with (at_builtin; refine wpList_append_own _ rfl (.tmp 5) (.tmp 6) 85 rfl w.heap.size 27 i0 (.agg #[.int .i64 0, .int .i64 0, .int .i64 0, .int .i64 0, .int .i64 0, .int .i64 0, .int .i64 0, .int .i64 0, .int .i64 0, .int .i64 0, .int .i64 0, .int .i64 0, .int .i64 0, .int .i64 0, .int .i64 0, .int .i64 0, .int .i64 0]) 17 136 Try.underlying85 HI.out HZ0.out HZ1.out HZ2.out rfl (by decide) _ 0 [] rfl (own_empty 27 17) ad n cap (rowsL M 17 n) rfl (rowsL_length M 17 n) ?c1 (rowsL_one M 17 n) ?c2 ?c3 ?c4 ?_)
  case c1 =>
    intro j u hu
    obtain ⟨h1, h2⟩ := hR j u hu
    rw [World.cell?_alloc_lt _ _ _ (by unfold Addr.add; split <;> exact h1)]
    exact h2
  case c2 => unfold maxLen; omega
  case c3 => omega
  case c4 => simp
  intro v' w' hown hgrow _
  obtain ⟨A', cap', hv, hnc, hO⟩ := own_of_row hown
  subst hv
  have hbl : Below w.heap.size w w' := ⟨hgrow.os, hgrow.tape, hgrow.output, Nat.le_trans (by simp) hgrow.size, fun k hk => (hgrow.block k (by simp; omega) (by simp only [Value.ownBlock, ne_eq, Option.some.injEq]; omega)).trans (Below.heap_alloc w _ k hk)⟩
  go_wp2
  go_ret
  exact ⟨A', cap', rfl, hO, hbl⟩

end Go.Proofs.Ytfagkbmphohelaa
