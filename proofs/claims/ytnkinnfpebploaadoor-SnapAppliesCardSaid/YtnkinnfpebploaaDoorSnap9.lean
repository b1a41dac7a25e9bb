/- The contract of gyreref.seen: the row that begins with a number. Conditions: none. -/
import Derived.Test.YtnkinnfpebploaaDoorSnap1
import Derived.Test.YtnkinnfpebploaaDoorMod
namespace Go.Proofs.YtnkinnfpebploaaDoor
open Go.ChangeShapes Go.WideShapes Go.ChangeAt Go.RowKit Go.BigFrame
theorem rowF_step {M : Nat → Nat → Int} {x : Int} {k f : Nat} (hf : 0 < f) (h : M k 0 ≠ x) : rowF M x k f = rowF M x (k + 1) (f - 1) := by
  obtain ⟨g, rfl⟩ : ∃ g, f = g + 1 := ⟨f - 1, by omega⟩
  simp [rowF, h]
theorem rowF_here {M : Nat → Nat → Int} {x : Int} {k f : Nat} (hf : 0 < f) (h : M k 0 = x) : rowF M x k f = some k := by
  obtain ⟨g, rfl⟩ : ∃ g, f = g + 1 := ⟨f - 1, by omega⟩
  simp [rowF, h]

set_option maxRecDepth 100000 in
set_option maxHeartbeats 8000000 in
theorem look_k (n : Nat) (A : Option Addr) (cap : Nat) (M : Nat → Nat → Int) (x : Int) (w : World) (hn : n ≤ 9223372036854775807) (hR : Reads w A n 11 M) :
    Calls Tryd.prog 73 #[.slice A n cap, .int .i64 x] w fun e w' => ((∃ i, rowOf M n x = some i ∧ e = .returned (.tuple #[.agg #[.int .i64 (M i 0), .int .i64 (M i 1), .int .i64 (M i 2), .int .i64 (M i 3), .int .i64 (M i 4), .int .i64 (M i 5), .int .i64 (M i 6), .int .i64 (M i 7), .int .i64 (M i 8), .int .i64 (M i 9), .int .i64 (M i 10)], .bool true])) ∨ (rowOf M n x = none ∧ e = .returned (.tuple #[.agg #[.int .i64 0, .int .i64 0, .int .i64 0, .int .i64 0, .int .i64 0, .int .i64 0, .int .i64 0, .int .i64 0, .int .i64 0, .int .i64 0, .int .i64 0], .bool false]))) ∧ Below w.heap.size w w' := by
  go_enter Tryd.func73, Tryd.ntmps73
  go_wp2
  refine wp_fresh ?_
  rintro w0 hb0
  have Z0 : Blk w0 w.heap.size #[.int .i64 0, .int .i64 0, .int .i64 0, .int .i64 0, .int .i64 0, .int .i64 0, .int .i64 0, .int .i64 0, .int .i64 0, .int .i64 0, .int .i64 0] := Blk.below (by repeat (with_reducible (first | assumption | (apply Blk.at; simp; done) | apply Blk.alloc | apply Blk.drew | apply Blk.drewN | apply Blk.more | apply Blk.put | (apply Blk.far; focus (first | assumption | (apply Ne.symm; assumption) | (simp; done) | (simp <;> omega)))))) hb0
  have hB0 : Below w.heap.size w w0 := (by repeat (with_reducible (first | exact Below.refl _ _ | assumption | apply ext_drew | apply ext_drewN | apply ext_alloc | apply ext_more | (refine ext_setCell ?_ (by first | assumption | (simp <;> omega)) _) | (refine ext_below ?_ (by assumption)))))
  clear hb0
  go_loopw [10] (fun i wr => ∃ k : Nat, k ≤ n ∧ i = .int .i64 k ∧ rowF M x k (n - k) = rowOf M n x ∧ Blk wr w.heap.size #[.int .i64 0, .int .i64 0, .int .i64 0, .int .i64 0, .int .i64 0, .int .i64 0, .int .i64 0, .int .i64 0, .int .i64 0, .int .i64 0, .int .i64 0] ∧ Below w.heap.size w wr) (fun i _ => n - (intOf i).toNat)
  case atStart => exact ⟨0, by omega, rfl, rfl, Z0, hB0⟩
  case round =>
    obtain ⟨k, hk, rfl, hrow, hZ, hB⟩ := hrel
    by_cases hlt : k < n
    · obtain ⟨b, of, rfl, hb, hc⟩ := hR (by omega)
      have hload : ∀ j, j < 11 → wr.cell? ⟨b, of + k * 11 + j, none⟩ = some (.int .i64 (M k j)) := fun j hj => by rw [Nat.add_assoc]; exact (hB.cell (p := ⟨b, of + (k * 11 + j), none⟩) hb).trans (hc k hlt j hj)
      have HLD := Lib.hid hload
      clear hload hc Z0 hB0
      go_upto_region 4 with (refine wp_seenR HLD.out rfl (.tmp 12) rfl rfl ?_)
      refine wp_fresh ?_
      rintro w1 hb1
      have L1 : Blk w1 wr.heap.size #[.int .i64 (M k 0), .int .i64 (M k 1), .int .i64 (M k 2), .int .i64 (M k 3), .int .i64 (M k 4), .int .i64 (M k 5), .int .i64 (M k 6), .int .i64 (M k 7), .int .i64 (M k 8), .int .i64 (M k 9), .int .i64 (M k 10)] := Blk.below (by repeat (with_reducible (first | assumption | (apply Blk.at; simp; done) | apply Blk.alloc | apply Blk.drew | apply Blk.drewN | apply Blk.more | apply Blk.put | (apply Blk.far; focus (first | assumption | (apply Ne.symm; assumption) | (simp; done) | (simp <;> omega)))))) hb1
      have Z1 : Blk w1 w.heap.size #[.int .i64 0, .int .i64 0, .int .i64 0, .int .i64 0, .int .i64 0, .int .i64 0, .int .i64 0, .int .i64 0, .int .i64 0, .int .i64 0, .int .i64 0] := Blk.below (by repeat (with_reducible (first | assumption | (apply Blk.at; simp; done) | apply Blk.alloc | apply Blk.drew | apply Blk.drewN | apply Blk.more | apply Blk.put | (apply Blk.far; focus (first | assumption | (apply Ne.symm; assumption) | (simp; done) | (simp <;> omega)))))) hb1
      have hB1 : Below w.heap.size w w1 := (by repeat (with_reducible (first | exact Below.refl _ _ | assumption | apply ext_drew | apply ext_drewN | apply ext_alloc | apply ext_more | (refine ext_setCell ?_ (by first | assumption | (simp <;> omega)) _) | (refine ext_below ?_ (by assumption)))))
      have hne : wr.heap.size ≠ w.heap.size := by have := hZ.lt; omega
      have hb9 : w.heap.size ≤ wr.heap.size := hB.size
      clear HLD hb1 hZ hB
      obtain ⟨zl, cl, fl⟩ := id L1
      obtain ⟨zz, cz, fz⟩ := id Z1
      by_cases hx : M k 0 = x
      · have d : (M k 0 == x) = true := by simpa using hx
        have HE : Hid (rowOf M n x = some k) := Lib.hid (by rw [← hrow]; exact rowF_here (by omega) hx)
        clear hx hrow
        go_wp2
        exact bodyPost_ret (v := .tuple #[.agg #[.int .i64 (M k 0), .int .i64 (M k 1), .int .i64 (M k 2), .int .i64 (M k 3), .int .i64 (M k 4), .int .i64 (M k 5), .int .i64 (M k 6), .int .i64 (M k 7), .int .i64 (M k 8), .int .i64 (M k 9), .int .i64 (M k 10)], .bool true]) (by simp [results, Tryd.results73, go_sem, *]) rfl ⟨.inl ⟨k, HE.out, rfl⟩, (by repeat (with_reducible (first | exact Below.refl _ _ | assumption | apply ext_drew | apply ext_drewN | apply ext_alloc | apply ext_more | (refine ext_setCell ?_ (by first | assumption | (simp <;> omega)) _) | (refine ext_below ?_ (by assumption)))))⟩
      · have d : (M k 0 == x) = false := by simpa using hx
        have HE : Hid (rowF M x (k + 1) (n - (k + 1)) = rowOf M n x) := Lib.hid (by rw [← hrow, rowF_step (k := k) (by omega) hx, Nat.sub_sub])
        clear hx hrow
        go_wp2
        go_roundw
        case rel => exact ⟨k + 1, by omega, by go_num, HE.out, (by repeat (with_reducible (first | assumption | (apply Blk.at; simp; done) | apply Blk.alloc | apply Blk.drew | apply Blk.drewN | apply Blk.more | apply Blk.put | (apply Blk.far; focus (first | assumption | (apply Ne.symm; assumption) | (simp; done) | (simp <;> omega)))))), (by repeat (with_reducible (first | exact Below.refl _ _ | assumption | apply ext_drew | apply ext_drewN | apply ext_alloc | apply ext_more | (refine ext_setCell ?_ (by first | assumption | (simp <;> omega)) _) | (refine ext_below ?_ (by assumption)))))⟩
        case measure => simp [intOf]; omega
    · have hkn : n = k := by omega
      subst hkn
      have HE : Hid (rowOf M n x = none) := Lib.hid (by rw [← hrow, Nat.sub_self]; rfl)
      obtain ⟨zz, cz, fz⟩ := id hZ
      clear hrow Z0 hB0
      go_wp2
      exact bodyPost_ret (v := .tuple #[.agg #[.int .i64 0, .int .i64 0, .int .i64 0, .int .i64 0, .int .i64 0, .int .i64 0, .int .i64 0, .int .i64 0, .int .i64 0, .int .i64 0, .int .i64 0], .bool false]) (by simp [results, Tryd.results73, go_sem, *]) rfl ⟨.inr ⟨HE.out, rfl⟩, (by repeat (with_reducible (first | exact Below.refl _ _ | assumption | apply ext_drew | apply ext_drewN | apply ext_alloc | apply ext_more | (refine ext_setCell ?_ (by first | assumption | (simp <;> omega)) _) | (refine ext_below ?_ (by assumption)))))⟩

end Go.Proofs.YtnkinnfpebploaaDoor
