/- The contract of gyrelaw.seen. Conditions: none but that there are not too many. -/
import Derived.Test.YtnkinnfpebploaaDoorSnap1
import Derived.Test.YtnkinnfpebploaaDoorApp
import Derived.Test.YtnkinnfpebploaaDoorOwnTab
namespace Go.Proofs.YtnkinnfpebploaaDoor
open Go.ChangeShapes Go.WideShapes Go.ChangeAt Go.RowKit Go.BigFrame
theorem seenInfo : (Tryd.prog.info? 142).map (fun i => (i.zero, i.size, i.bytes)) = some (some (.agg #[.int .i64 0, .int .i64 0, .int .i64 0, .int .i64 0, .int .i64 0, .int .i64 0, .int .i64 0, .int .i64 0, .int .i64 0, .int .i64 0, .int .i64 0]), 11, 88) := by kernel_rfl

theorem rowsL_zero (M : Nat → Nat → Int) (c : Nat) : rowsL M c 0 = [] := by simp [rowsL]
theorem rowsL_succ (M : Nat → Nat → Int) (k : Nat) : rowsL M 11 (k + 1) = rowsL M 11 k ++ (#[.int .i64 (M k 0), .int .i64 (M k 1), .int .i64 (M k 2), .int .i64 (M k 3), .int .i64 (M k 4), .int .i64 (M k 5), .int .i64 (M k 6), .int .i64 (M k 7), .int .i64 (M k 8), .int .i64 (M k 9), .int .i64 (M k 10)] : Array Value).toList := by
  unfold rowsL
  rw [Nat.add_mul, List.range_add, List.map_append]
  congr 1
  have e : ∀ j, j < 11 → (k * 11 + j) / 11 = k ∧ (k * 11 + j) % 11 = j := fun j hj => by omega
  simp only [List.range, List.range.loop, List.map]
  rw [(e 0 (by decide)).1, (e 0 (by decide)).2, (e 1 (by decide)).1, (e 1 (by decide)).2, (e 2 (by decide)).1, (e 2 (by decide)).2, (e 3 (by decide)).1, (e 3 (by decide)).2, (e 4 (by decide)).1, (e 4 (by decide)).2, (e 5 (by decide)).1, (e 5 (by decide)).2, (e 6 (by decide)).1, (e 6 (by decide)).2, (e 7 (by decide)).1, (e 7 (by decide)).2, (e 8 (by decide)).1, (e 8 (by decide)).2, (e 9 (by decide)).1, (e 9 (by decide)).2, (e 10 (by decide)).1, (e 10 (by decide)).2]
theorem ints_one (M : Nat → Nat → Int) (k : Nat) : ∀ u ∈ (#[.int .i64 (M k 0), .int .i64 (M k 1), .int .i64 (M k 2), .int .i64 (M k 3), .int .i64 (M k 4), .int .i64 (M k 5), .int .i64 (M k 6), .int .i64 (M k 7), .int .i64 (M k 8), .int .i64 (M k 9), .int .i64 (M k 10)] : Array Value).toList, u.oneCell' = true := by
  intro u hu
  simp at hu
  rcases hu with rfl | rfl | rfl | rfl | rfl | rfl | rfl | rfl | rfl | rfl | rfl <;> rfl

set_option maxRecDepth 100000 in
set_option maxHeartbeats 8000000 in
theorem seen_c (n : Nat) (A : Option Addr) (cap : Nat) (M : Nat → Nat → Int) (w : World) (hn : n ≤ 100000) (hR : Reads w A n 11 M) :
    Calls Tryd.prog 51 #[.slice A n cap] w fun e w' => ∃ SA SC, e = .returned (.slice SA n SC) ∧ (SA = none → n = 0 ∧ SC = 0) ∧ Reads w' SA n 11 M ∧ Below w.heap.size w w' := by
  go_enter Tryd.func51, Tryd.ntmps51
  go_wp2
  go_loopw [3, 4] (fun v i wr => ∃ (k : Nat) (SA : Option Addr) (SC : Nat), k ≤ n ∧ i = .int .i64 k ∧ v = .slice SA k SC ∧ (SA = none → k = 0 ∧ SC = 0) ∧ wr.ownsRow w.heap.size 142 11 (.slice SA k SC) k (rowsL M 11 k) ∧ Below w.heap.size w wr) (fun _ i _ => n - (intOf i).toNat)
  case atStart => exact ⟨0, none, 0, by omega, rfl, rfl, fun _ => ⟨rfl, rfl⟩, by rw [rowsL_zero]; exact ⟨by simp, .inl ⟨rfl, rfl⟩⟩, Below.refl _ _⟩
  case round =>
    obtain ⟨k, SA, SC, hk, rfl, rfl, hZ, hO, hB⟩ := hrel
    by_cases hlt : k < n
    · obtain ⟨b, of, rfl, hb, hc⟩ := hR (by omega)
      have hload : ∀ j, j < 11 → wr.cell? ⟨b, of + k * 11 + j, none⟩ = some (.int .i64 (M k j)) := fun j hj => by rw [Nat.add_assoc]; exact (hB.cell (p := ⟨b, of + (k * 11 + j), none⟩) hb).trans (hc k hlt j hj)
      have HLD := Lib.hid hload
      clear hload hc
      go_upto_region 6 with (refine wp_seenS HLD.out rfl (.tmp 14) rfl rfl ?_)
      refine wp_fresh ?_
      rintro w1 hb1
      have L1 : Blk w1 wr.heap.size #[.int .i64 (M k 0), .int .i64 (M k 1), .int .i64 (M k 2), .int .i64 (M k 3), .int .i64 (M k 4), .int .i64 (M k 5), .int .i64 (M k 6), .int .i64 (M k 7), .int .i64 (M k 8), .int .i64 (M k 9), .int .i64 (M k 10)] := Blk.below (by repeat (with_reducible (first | assumption | (apply Blk.at; simp; done) | apply Blk.alloc | apply Blk.drew | apply Blk.drewN | apply Blk.more | apply Blk.put | (apply Blk.far; focus (first | assumption | (apply Ne.symm; assumption) | (simp; done) | (simp <;> omega)))))) hb1
      have hv1 : Below wr.heap.size wr w1 := ext_below ((Below.refl _ _).alloc (Nat.le_refl _) _) hb1
      have hB1 : Below w.heap.size w w1 := hB.trans (hv1.mono hB.size)
      have HO1 := Lib.hid (row_below hO hv1)
      obtain ⟨zl, cl, fl⟩ := id L1
      have hbs := hB1.size
      have HBS := Lib.hid hbs
      clear L1 hb1 hB HLD hO hZ hv1 hbs
      go_wp2_with (at_builtin; go_must (refine app_one rfl (.tmp 16) (.tmp 28) 103 rfl Tryd.underlying103 seenInfo rfl (by decide) (by decide) w.heap.size (.slice SA k SC) k (rowsL M 11 k) rfl HO1.out #[.int .i64 (M k 0), .int .i64 (M k 1), .int .i64 (M k 2), .int .i64 (M k 3), .int .i64 (M k 4), .int .i64 (M k 5), .int .i64 (M k 6), .int .i64 (M k 7), .int .i64 (M k 8), .int .i64 (M k 9), .int .i64 (M k 10)] rfl (by simp) rfl (ints_one M k) (by omega) HBS.out ?_; intro g c w5 hown hmod hwh hbg; have HO5 := Lib.hid hown; have HM5 := Lib.hid hmod; have HG := Lib.hid hbg; clear hown hmod hwh hbg))
      go_roundw
      case rel => exact ⟨k + 1, _, c, by omega, by go_num, rfl, (fun h => by cases h), (by rw [rowsL_succ]; exact HO5.out), hB1.trans (HM5.out.toBelow hB1.size (fun b hb e => by have := (row_lt HO1.out e).2; omega))⟩
      case measure => simp [intOf]; omega
    · have hkn : n = k := by omega
      subst hkn
      have HO := Lib.hid hO
      clear hO
      go_wp2
      go_ret
      exact ⟨SA, SC, rfl, hZ, fun h => by
        obtain ⟨g, c, e, _, _, _, hT⟩ := tab_of_own HO.out h
        cases e
        exact Reads.of_tab hT h, hB⟩

end Go.Proofs.YtnkinnfpebploaaDoor
