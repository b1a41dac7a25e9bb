/- The contracts of gyrekeep.pick and gyrekeep.written. Conditions: none. -/
import Derived.Test.YtfagkbmphohelaaBits3
import Derived.Test.YtfagkbmphohelaaBitsR
namespace Go.Proofs.Ytfagkbmphohelaa
open Go.ChangeShapes Go.WideShapes Go.ChangeAt Go.RowKit Go.BigFrame
open B
def pickP (a : Int) (n : Nat) : Nat := (a % 18446744073709551616).toNat % n
theorem pick_c (a n : Int) (k : Nat) (w : World) (hk : n = k) (h0 : 0 < k) (h1 : k ≤ 9223372036854775807) : Calls Try.prog 34 #[.int .i64 a, .int .i64 n] w fun e w' => e = .returned (.int .i64 (pickP a k)) ∧ w = w' := by
  subst hk
  go_enter Try.func34, Try.ntmps34
  go_wp2
  go_ret
  refine ⟨?_, rfl⟩
  show Ending.returned (.int .i64 (wrap64 ((IntKind.u64.wrap a).tmod (k : Int)))) = _
  have e : wrap64 ((IntKind.u64.wrap a).tmod (k : Int)) = (pickP a k : Int) := by
    rw [IntKind.wrap_u64, Int.tmod_eq_emod_of_nonneg (by omega)]
    have h2 : a % 18446744073709551616 = (((a % 18446744073709551616).toNat : Nat) : Int) := by omega
    rw [h2, ← Int.natCast_emod]
    have h3 : (a % 18446744073709551616).toNat % k < k := Nat.mod_lt _ h0
    rw [IntWalk.wrap64_in _ (by omega)]
    rfl
  rw [e]
theorem calls_anew {P : Program} {f : FuncId} {args : Array Value} {w : World} {Q : Ending → World → Prop} (h : ∀ w', Below w.heap.size w w' → Calls P f args w' Q) : Calls P f args w Q := h w (Below.refl _ _)
theorem wr_new {w w1 : World} {base p : Nat} {T : TypeId} (hp : p = w.heap.size) (h : Below (w.alloc (.cells #[.slice none 0 0, .int .i64 0] T)).heap.size (w.alloc (.cells #[.slice none 0 0, .int .i64 0] T)) w1) : Wr w1 base p (.slice none 0 0) [] :=
  ⟨(Blk.at w p #[.slice none 0 0, .int .i64 0] T hp).below h, ⟨rfl, .inl ⟨rfl, rfl⟩⟩, by simp [Value.ownBlock], Bin.nil, by simp⟩
theorem wr_below {w w' : World} {base p : Nat} {v v' : Value} {L : List Nat} (h : Wr w base p v L) (hp : base ≤ p) (hb : base ≤ w.heap.size) (k : Turn (· = p) w v w' v') : Below base w w' :=
  k.mod.toBelow hb fun b hlt e => by
    rcases e with e | e
    · omega
    · have := (row_lt h.row e).2; omega
theorem wr_mod {w w' : World} {base p : Nat} {v : Value} {L : List Nat} {S : Nat → Prop} (h : Wr w base p v L) (k : Mod S w w') (h1 : ¬ S p) (h2 : ∀ b, v.ownBlock = some b → ¬ S b) : Wr w' base p v L :=
  ⟨h.blk.mod k h1, row_mod h.row k h2, h.ne, h.bin, h.lim⟩
theorem wr_of_below {w w' : World} {base p : Nat} {v : Value} {L : List Nat} (h : Wr w base p v L) (k : Below w.heap.size w w') : Wr w' base p v L :=
  wr_mod h (S := fun _ => False) (Mod.of_below k) id fun _ _ => id
set_option maxHeartbeats 2000000 in
theorem written_c (w : World) : Calls Try.prog 33 #[] w fun e w' => e = .returned (.bool true) ∧ Below w.heap.size w w' := by
  go_enter Try.func33, Try.ntmps33
  go_wp2_with fail
  refine calls_anew ?_
  intro w0 hb0
  have hW0 := wr_new (base := w.heap.size) rfl hb0
  have hB0 : Below w.heap.size w w0 := (balloc w _).trans (hb0.mono (by simp))
  clear hb0
  have hz0 := hB0.size
  refine (put_i w.heap.size w.heap.size 5 3 5 3 _ _ _ hW0 hz0 rfl rfl (by omega) (by omega) (by simp)).mono ?_
  rintro e w1 ⟨rfl, v1, hW1, hT1⟩
  have hB1 := hB0.trans (wr_below hW0 (Nat.le_refl _) hz0 hT1)
  have hz1 := hB1.size
  clear hT1 hW0 hz0 hB0
  go_wp2_with fail
  refine (int_ok w.heap.size w.heap.size (-70) _ _ _ hW1 hz1 (by omega) (by omega) (by decide)).mono ?_
  rintro e w2 ⟨rfl, v2, hW2, hT2⟩
  have hB2 := hB1.trans (wr_below hW1 (Nat.le_refl _) hz1 hT2)
  have hz2 := hB2.size
  clear hT2 hW1 hz1 hB1
  go_wp2_with fail
  refine (bytes_c _ _ _ _ _ hW2).mono ?_
  rintro e w3 ⟨vb, rfl, hBs, hb3⟩
  have hW3 := wr_of_below hW2 hb3
  have hB3 := hB2.trans (hb3.mono hz2)
  have hz3 := hB3.size
  clear hW2 hb3 hB2 hz2
  go_wp2_with fail
  refine (read_c vb _ _ (Src.of_bs hBs) (pack_lt hW3.bin) (by decide)).mono ?_
  rintro e w4 ⟨p, v4, rfl, hp, hR, hb4⟩
  have hW4 := wr_of_below hW3 hb4
  have hB4 := hB3.trans (hb4.mono hz3)
  have hz4 := hB4.size
  have hpp := Nat.le_trans hz3 hp
  clear hB3
  go_wp2_with fail
  refine (get_ok _ _ _ 3 _ _ _ hR (by omega) (by decide)).mono ?_
  rintro e w5 ⟨rfl, hR5, hM5⟩
  have hpne : w.heap.size ≠ p := by have := hW3.blk.lt; omega
  have hW5 := wr_mod hW4 hM5 hpne (fun b hb e => by have := (row_lt hW3.row hb).1; omega)
  have hB5 := hB4.trans (hM5.toBelow hz4 fun b hb e => by omega)
  have hz5 := hB5.size
  have HW3 := Lib.hid (fun b hb => (row_lt hW3.row hb).1 : ∀ b, v2.ownBlock = some b → b < w3.heap.size)
  have e5 : getV (openL (pack (([] ++ bitsOf 3 5) ++ intL (-70)))) 0 3 = 5 := by decide
  have e6 : intG (openL (pack (([] ++ bitsOf 3 5) ++ intL (-70)))) 3 = .ok (-70, 15) := intG_back (Z := [0]) (by decide) (by omega) (by omega)
  have H6 := Lib.hid e6
  rw [e5]
  clear e5 e6 hW4 hB4 hz4 hW3 hM5
  go_wp2_with fail
  refine (rint_yes _ _ _ 15 (-70) _ _ _ hR5 H6.out).mono ?_
  rintro e w6 ⟨rfl, hR6, hM6⟩
  have hW6 := wr_mod hW5 hM6 hpne (fun b hb e => by have := HW3.out b hb; omega)
  have hB6 := hB5.trans (hM6.toBelow hz5 fun b hb e => by omega)
  have hz6 := hB6.size
  clear hW5 hB5 hz5 hM6
  go_wp2_with fail
  refine (many_c _ _ _ _ _ hW6).mono ?_
  rintro e w7 ⟨rfl, rfl⟩
  go_wp2
  go_ret
  exact ⟨rfl, hB6⟩

end Go.Proofs.Ytfagkbmphohelaa
