/- The contracts of gyrekeep.solved and gyrekeep.law. Conditions: none. -/
import Derived.Test.YtfagkbmphohelaaSolve15
import Derived.Test.YtfagkbmphohelaaPick
namespace Go.Proofs.Ytfagkbmphohelaa
open Go.ChangeShapes Go.WideShapes Go.ChangeAt Go.RowKit Go.BigFrame
set_option maxRecDepth 100000 in
set_option maxHeartbeats 4000000 in
theorem law_c (a b c : Int) (w : World) : Calls Try.prog 84 #[.int .i64 a, .int .i64 b, .int .i64 c] w fun e w' => e = .returned (.agg #[.int .i64 (pickP a 65537), .int .i64 (pickP b 65537), .int .i64 (1 + pickP c 6)]) ∧ Below w.heap.size w w' := by
  have k1 := pickP_lt a 65537 (by decide)
  have k2 := pickP_lt b 65537 (by decide)
  have k3 := pickP_lt c 6 (by decide)
  obtain ⟨x, hx⟩ : ∃ x, pickP a 65537 = x := ⟨_, rfl⟩
  obtain ⟨y, hy⟩ : ∃ x, pickP b 65537 = x := ⟨_, rfl⟩
  obtain ⟨z, hz⟩ : ∃ x, pickP c 6 = x := ⟨_, rfl⟩
  rw [hx] at k1 ⊢
  rw [hy] at k2 ⊢
  rw [hz] at k3 ⊢
  have HX : (pickP a 65537 : Int) = x := by rw [hx]
  have HY : (pickP b 65537 : Int) = y := by rw [hy]
  have HZ : (pickP c 6 : Int) = z := by rw [hz]
  have HX := Lib.hid HX
  have HY := Lib.hid HY
  have HZ := Lib.hid HZ
  clear hx hy hz
  go_enter Try.func84, Try.ntmps84
  go_wp2_with fail
  refine (pick_v a 65537 65537 x _ rfl (by decide) (by decide) HX.out).mono ?_
  rintro e w1 ⟨rfl, rfl⟩
  go_wp2_with fail
  refine (pick_v b 65537 65537 y _ rfl (by decide) (by decide) HY.out).mono ?_
  rintro e w2 ⟨rfl, rfl⟩
  go_wp2_with fail
  refine (pick_v c 6 6 z _ rfl (by decide) (by decide) HZ.out).mono ?_
  rintro e w3 ⟨rfl, rfl⟩
  go_wp2
  exact bodyPost_ret (v := .agg #[.int .i64 x, .int .i64 y, .int .i64 (1 + z)]) (by simp [results, Try.results84, go_sem, *]) rfl ⟨rfl, (by repeat (with_reducible (first | exact Below.refl _ _ | assumption | apply ext_drew | apply ext_drewN | apply ext_alloc | apply ext_more | (refine ext_setCell ?_ (by first | assumption | (simp <;> omega)) _) | (refine ext_below ?_ (by assumption)))))⟩

def solvedM : Nat → Nat → Int := fun a c => ([1, 0, 0, 0, 0, 0, 0, 0, 0, 10, 0, 0, 0, 0, 0, 65536, 0, 2, 0, 0, 0, 0, 0, 0, 0, 0, 0, 0, 0, 0, 0, 0, 0, 0] : List Int).getD (a * 17 + c) 0
def solvedT : Nat → Nat → Int := fun a c => ([1, 2, 65536, 0, 0, 1] : List Int).getD (a * 6 + c) 0
theorem rowsOf (L : List Int) (c n : Nat) (h : n * c ≤ L.length) (k : Nat) (hk : k < n) (j : Nat) (hj : j < c) : ((L.map (Value.int .i64)).toArray)[k * c + j]? = some (.int .i64 (L.getD (k * c + j) 0)) := by
  have h1 : (k + 1) * c ≤ n * c := Nat.mul_le_mul_right c hk
  have h2 : k * c + j < L.length := by rw [Nat.add_mul] at h1; omega
  simp [h2]

theorem solved_is : speedsF solvedM solvedT 2 1 0 0 1 0 9 = 0 ∧ speedsF solvedM solvedT 2 1 0 0 1 1 9 = 0 := by decide +kernel

set_option maxRecDepth 100000 in
set_option maxHeartbeats 4000000 in
theorem solved_c (w : World) : Calls Try.prog 83 #[] w fun e w' => e = .returned (.bool true) ∧ Below w.heap.size w w' := by
  go_enter Try.func83, Try.ntmps83
  go_wp2_with fail
  refine calls_here ?_
  rintro w1 hb1
  have C1 : Blk w1 w.heap.size #[.int .i64 1, .int .i64 0, .int .i64 0, .int .i64 0, .int .i64 0, .int .i64 0, .int .i64 0, .int .i64 0, .int .i64 0, .int .i64 10, .int .i64 0, .int .i64 0, .int .i64 0, .int .i64 0, .int .i64 0, .int .i64 65536, .int .i64 0, .int .i64 2, .int .i64 0, .int .i64 0, .int .i64 0, .int .i64 0, .int .i64 0, .int .i64 0, .int .i64 0, .int .i64 0, .int .i64 0, .int .i64 0, .int .i64 0, .int .i64 0, .int .i64 0, .int .i64 0, .int .i64 0, .int .i64 0] := Blk.below (by repeat (with_reducible (first | assumption | (apply Blk.at; simp; done) | apply Blk.alloc | apply Blk.drew | apply Blk.drewN | apply Blk.more | apply Blk.put | (apply Blk.far; focus (first | assumption | (apply Ne.symm; assumption) | (simp; done) | (simp <;> omega)))))) hb1
  have C2 : Blk w1 (w.heap.size + 1) #[.int .i64 1, .int .i64 2, .int .i64 65536, .int .i64 0, .int .i64 0, .int .i64 1] := Blk.below (by repeat (with_reducible (first | assumption | (apply Blk.at; simp; done) | apply Blk.alloc | apply Blk.drew | apply Blk.drewN | apply Blk.more | apply Blk.put | (apply Blk.far; focus (first | assumption | (apply Ne.symm; assumption) | (simp; done) | (simp <;> omega)))))) hb1
  have hB1 : Below w.heap.size w w1 := (by repeat (with_reducible (first | exact Below.refl _ _ | assumption | apply ext_drew | apply ext_drewN | apply ext_alloc | apply ext_more | (refine ext_setCell ?_ (by first | assumption | (simp <;> omega)) _) | (refine ext_below ?_ (by assumption)))))
  have D1 : Blk w1 w.heap.size (([1, 0, 0, 0, 0, 0, 0, 0, 0, 10, 0, 0, 0, 0, 0, 65536, 0, 2, 0, 0, 0, 0, 0, 0, 0, 0, 0, 0, 0, 0, 0, 0, 0, 0] : List Int).map (Value.int .i64)).toArray := C1
  have D2 : Blk w1 (w.heap.size + 1) (([1, 2, 65536, 0, 0, 1] : List Int).map (Value.int .i64)).toArray := C2
  have R1 : Reads w1 (some ⟨w.heap.size, 0, none⟩) 2 17 solvedM := fun _ => ⟨_, 0, rfl, C1.lt, fun k hk j hj => by rw [D1.cell, Nat.zero_add]; exact rowsOf _ 17 2 (by decide) k hk j hj⟩
  have R2 : Reads w1 (some ⟨w.heap.size + 1, 0, none⟩) 1 6 solvedT := fun _ => ⟨_, 0, rfl, C2.lt, fun k hk j hj => by rw [D2.cell, Nat.zero_add]; exact rowsOf _ 6 1 (by decide) k hk j hj⟩
  refine (speeds_c solvedM solvedT _ _ 2 2 1 1 0 0 1 _ R1 (fun h => by cases h) (by decide) R2 (by decide)).mono ?_
  rintro e w2 ⟨A, cap, rfl, hO, hb2⟩
  have hB2 : Below w.heap.size w w2 := hB1.trans (hb2.mono hB1.size)
  obtain ⟨b, rfl, _, hT⟩ := hO (by decide)
  have q0 : w2.cell? ⟨b, 9, none⟩ = some (.int .i64 0) := by
    have := hT.cell (k := 0) (by decide) (j := 9) (by decide)
    rw [solved_is.1] at this
    exact this
  have q1 : w2.cell? ⟨b, 26, none⟩ = some (.int .i64 0) := by
    have := hT.cell (k := 1) (by decide) (j := 9) (by decide)
    rw [solved_is.2] at this
    exact this
  clear C1 C2 D1 D2 R1 R2 hO hb1 hB1 hb2 hT
  go_wp2
  go_ret
  exact ⟨rfl, hB2⟩

end Go.Proofs.Ytfagkbmphohelaa
