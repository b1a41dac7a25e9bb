/- The contract of solve.Places. Conditions: none but that there are not too many. -/
import Derived.Test.YtniahipadfgkbaaGreatKS2
import Derived.Test.YtniahipadfgkbaaGreatKB
import Derived.LoopTactic
namespace Go.Proofs.YtniahipadfgkbaaGreat
open Go.ChangeShapes Go.WideShapes Go.ChangeAt Go.RowKit Go.BigFrame
/-- what giving does to two rows -/
def giveM (M : Nat → Nat → Int) (i k : Nat) (u1 u2 u3 j x y : Int) : Nat → Nat → Int :=
  put3 (put3 M i 9 (sub (M i 9) (mul u1 (mul j x))) (sub (M i 10) (mul u2 (mul j x))) (sub (M i 11) (mul u3 (mul j x)))) k 9 (add (M k 9) (mul u1 (mul j y))) (add (M k 10) (mul u2 (mul j y))) (add (M k 11) (mul u3 (mul j y)))

set_option maxRecDepth 100000 in
set_option maxHeartbeats 8000000 in
theorem give_c (M : Nat → Nat → Int) (b n i k : Nat) (u1 u2 u3 j x y : Int) (w : World) (hT : Tab w b n 17 M) (hi : i < n) (hk : k < n) (hne : i ≠ k) :
    Calls Tryz.prog 67 #[.pointer (some ⟨b, i * 17, none⟩), .pointer (some ⟨b, k * 17, none⟩), .agg #[.int .i64 u1, .int .i64 u2, .int .i64 u3], .int .i64 j, .int .i64 x, .int .i64 y] w fun e w' => e = .returned (.tuple #[]) ∧ Tab w' b n 17 (giveM M i k u1 u2 u3 j x y) ∧ Mds (· = b) w w' := by
  have hmc := more_cell
  have hmf := more_frozen
  have hml := more_lt
  have hT0 := hT
  have nbw : b ≠ w.heap.size := by have := hT.lt; omega
  go_enter Tryz.func67, Tryz.ntmps67
  go_wp2_with fail
  refine wp_fresh ?_
  rintro w1 hb1
  have B1_0 : Blk w1 (w.heap.size) _ := Blk.below (by repeat (with_reducible (first | assumption | (apply Blk.at; simp; done) | apply Blk.alloc | apply Blk.drew | apply Blk.drewN | apply Blk.more | apply Blk.put | (apply Blk.far; focus (first | assumption | (apply Ne.symm; assumption) | (simp; done) | (simp <;> omega)))))) hb1
  obtain ⟨z1_0, c1_0, f1_0⟩ := id B1_0
  have hT1 : Tab w1 b n 17 M := ((show Tab _ b n 17 M from (by repeat (with_reducible (first | assumption | apply Tab.alloc | apply Tab.drew | apply Tab.drewN | apply Tab.more | (apply Tab.far; focus (first | assumption | (apply Ne.symm; assumption) | (simp; done) | (simp <;> omega)))))))).below hb1
  have ya_0 := hT1.cell hi (j := 9) (by decide)
  have ya_1 := hT1.cell hi (j := 10) (by decide)
  have ya_2 := hT1.cell hi (j := 11) (by decide)
  have zba := hT1.lt
  go_wp2_with fail
  refine region_quiet_but 13 (by kernel_rfl) (by kernel_rfl) ?_
  simp only [List.take_succ_cons, List.take_zero, List.drop_succ_cons, List.drop_zero]
  repeat (go_big_quiet_step (first | (go_at_call 41; exact calls_after_same (mul_c _ _ _)) | (go_at_call 40; exact calls_after (times_c _ _ _ _ _)) | (go_at_call 39; exact calls_after (minus_c _ _ _ _ _ _ _))))
  refine wpQuiet_nil ?_
  rintro w2 hw2
  have hb2 := after_below hw2
  clear hw2
  have B2_0 : Blk w2 (w.heap.size) _ := Blk.below (by repeat (with_reducible (first | assumption | (apply Blk.at; simp; done) | apply Blk.alloc | apply Blk.drew | apply Blk.drewN | apply Blk.more | apply Blk.put | (apply Blk.far; focus (first | assumption | (apply Ne.symm; assumption) | (simp; done) | (simp <;> omega)))))) hb2
  obtain ⟨z2_0, c2_0, f2_0⟩ := id B2_0
  have hT2 : Tab w2 b n 17 M := ((show Tab _ b n 17 M from (by repeat (with_reducible (first | assumption | apply Tab.alloc | apply Tab.drew | apply Tab.drewN | apply Tab.more | (apply Tab.far; focus (first | assumption | (apply Ne.symm; assumption) | (simp; done) | (simp <;> omega)))))))).below hb2
  have va_0 : w2.cell? ⟨b, i * 17 + 9, none⟩ = some (.int .i64 (M i 9)) := hT2.cell hi (j := 9) (by decide)
  have ua_0 : w2.frozen? ⟨b, i * 17 + 9, none⟩ = false := hT2.free _
  have va_1 : w2.cell? ⟨b, i * 17 + 9 + 1, none⟩ = some (.int .i64 (M i 10)) := hT2.cell hi (j := 10) (by decide)
  have ua_1 : w2.frozen? ⟨b, i * 17 + 9 + 1, none⟩ = false := hT2.free _
  have va_2 : w2.cell? ⟨b, i * 17 + 9 + 2, none⟩ = some (.int .i64 (M i 11)) := hT2.cell hi (j := 11) (by decide)
  have ua_2 : w2.frozen? ⟨b, i * 17 + 9 + 2, none⟩ = false := hT2.free _
  have sa := hT2.lt
  go_wp2_with fail
  refine wp_fresh ?_
  rintro w3 hb3
  have B3_0 : Blk w3 (w.heap.size) _ := Blk.below (by repeat (with_reducible (first | assumption | (apply Blk.at; simp; done) | apply Blk.alloc | apply Blk.drew | apply Blk.drewN | apply Blk.more | apply Blk.put | (apply Blk.far; focus (first | assumption | (apply Ne.symm; assumption) | (simp; done) | (simp <;> omega)))))) hb3
  obtain ⟨z3_0, c3_0, f3_0⟩ := id B3_0
  obtain ⟨M1, hM1⟩ : ∃ N, N = put3 M i 9 (sub (M i 9) (mul u1 (mul j x))) (sub (M i 10) (mul u2 (mul j x))) (sub (M i 11) (mul u3 (mul j x))) := ⟨_, rfl⟩
  have hT3 : Tab w3 b n 17 M1 := by rw [hM1]; exact (hT2.set3 hi (j := 9) (by decide) _ _ _).below hb3
  have HM1 := Lib.hid hM1
  clear hM1
  go_wp2_with fail
  refine wp_fresh ?_
  rintro w4 hb4
  have B4_0 : Blk w4 (w.heap.size) _ := Blk.below (by repeat (with_reducible (first | assumption | (apply Blk.at; simp; done) | apply Blk.alloc | apply Blk.drew | apply Blk.drewN | apply Blk.more | apply Blk.put | (apply Blk.far; focus (first | assumption | (apply Ne.symm; assumption) | (simp; done) | (simp <;> omega)))))) hb4
  obtain ⟨z4_0, c4_0, f4_0⟩ := id B4_0
  have hT4 : Tab w4 b n 17 M1 := ((show Tab _ b n 17 M1 from (by repeat (with_reducible (first | assumption | apply Tab.alloc | apply Tab.drew | apply Tab.drewN | apply Tab.more | (apply Tab.far; focus (first | assumption | (apply Ne.symm; assumption) | (simp; done) | (simp <;> omega)))))))).below hb4
  have yb_0 := hT4.cell hk (j := 9) (by decide)
  have yb_1 := hT4.cell hk (j := 10) (by decide)
  have yb_2 := hT4.cell hk (j := 11) (by decide)
  have zbb := hT4.lt
  go_wp2_with fail
  refine region_quiet_but 13 (by kernel_rfl) (by kernel_rfl) ?_
  simp only [List.take_succ_cons, List.take_zero, List.drop_succ_cons, List.drop_zero]
  repeat (go_big_quiet_step (first | (go_at_call 41; exact calls_after_same (mul_c _ _ _)) | (go_at_call 40; exact calls_after (times_c _ _ _ _ _)) | (go_at_call 13; exact calls_after (plus_c _ _ _ _ _ _ _))))
  refine wpQuiet_nil ?_
  rintro w5 hw5
  have hb5 := after_below hw5
  clear hw5
  have B5_0 : Blk w5 (w.heap.size) _ := Blk.below (by repeat (with_reducible (first | assumption | (apply Blk.at; simp; done) | apply Blk.alloc | apply Blk.drew | apply Blk.drewN | apply Blk.more | apply Blk.put | (apply Blk.far; focus (first | assumption | (apply Ne.symm; assumption) | (simp; done) | (simp <;> omega)))))) hb5
  obtain ⟨z5_0, c5_0, f5_0⟩ := id B5_0
  have hT5 : Tab w5 b n 17 M1 := ((show Tab _ b n 17 M1 from (by repeat (with_reducible (first | assumption | apply Tab.alloc | apply Tab.drew | apply Tab.drewN | apply Tab.more | (apply Tab.far; focus (first | assumption | (apply Ne.symm; assumption) | (simp; done) | (simp <;> omega)))))))).below hb5
  have vb_0 : w5.cell? ⟨b, k * 17 + 9, none⟩ = some (.int .i64 (M1 k 9)) := hT5.cell hk (j := 9) (by decide)
  have ub_0 : w5.frozen? ⟨b, k * 17 + 9, none⟩ = false := hT5.free _
  have vb_1 : w5.cell? ⟨b, k * 17 + 9 + 1, none⟩ = some (.int .i64 (M1 k 10)) := hT5.cell hk (j := 10) (by decide)
  have ub_1 : w5.frozen? ⟨b, k * 17 + 9 + 1, none⟩ = false := hT5.free _
  have vb_2 : w5.cell? ⟨b, k * 17 + 9 + 2, none⟩ = some (.int .i64 (M1 k 11)) := hT5.cell hk (j := 11) (by decide)
  have ub_2 : w5.frozen? ⟨b, k * 17 + 9 + 2, none⟩ = false := hT5.free _
  have sb := hT5.lt
  go_wp2
  go_end0
  exact ⟨rfl, Tab.eq (hT5.set3 hk (j := 9) (by decide) _ _ _) (fun a _ c _ => by unfold giveM; rw [HM1.out]; simp only [put3_row _ _ _ _ _ _ (Ne.symm hne)]), (by repeat (with_reducible (first | exact Mds.refl _ _ | assumption | apply Mds.drew | apply Mds.drewN | apply Mds.alloc | apply Mds.more | (refine Mds.set ?_ (Or.inl rfl)) | (refine Mds.below ?_ (by assumption)))))⟩

end Go.Proofs.YtniahipadfgkbaaGreat
namespace Go.Proofs.YtniahipadfgkbaaGreat
open Go.ChangeShapes Go.WideShapes Go.ChangeAt Go.RowKit Go.BigFrame
theorem calls_here {P : Program} {f : FuncId} {args : Array Value} {w : World} {Q : Ending → World → Prop} (h : ∀ w', Below w.heap.size w w' → Calls P f args w' Q) : Calls P f args w Q := h w (Below.refl _ _)
theorem clampP_c (a1 a2 a3 : Int) (w : World) : Calls Tryz.prog 12 #[.agg #[.int .i64 a1, .int .i64 a2, .int .i64 a3], .int .i64 65536000] w fun e w' => e = .returned (.agg #[.int .i64 (clamp 65536000 a1), .int .i64 (clamp 65536000 a2), .int .i64 (clamp 65536000 a3)]) ∧ Below w.heap.size w w' := clamp_c a1 a2 a3 65536000 (by decide) w
theorem sub_nonneg655 {d : Int} (h : 655 < d) : 0 ≤ sub d 655 := by
  unfold sub cut
  repeat' split
  all_goals omega
theorem places_ok (M T : Nat → Nat → Int) (n k : Nat) (h : ¬ (Both (placesF M T n k) n (T k 0) (T k 1) ∧ 655 < T k 5)) : placesF M T n (k + 1) = placesF M T n k := by
  show placeStep _ _ _ _ _ _ _ _ = _
  unfold placeStep
  rw [if_neg h]
theorem places_go (M T : Nat → Nat → Int) (n k i j : Nat) (hA : idx (placesF M T n k) n (T k 0) = i) (hB : idx (placesF M T n k) n (T k 1) = j) (hne : i ≠ j) (h : 655 < T k 5) : placesF M T n (k + 1) = placeGo (placesF M T n k) i j (T k 2) (T k 3) (T k 4) (T k 5) := by
  show placeStep _ _ _ _ _ _ _ _ = _
  have hb : Both (placesF M T n k) n (T k 0) (T k 1) := ⟨by rw [hA]; omega, by rw [hB]; omega, by rw [hA, hB]; omega⟩
  unfold placeStep
  rw [if_pos ⟨hb, h⟩, hA, hB]
  simp

set_option maxRecDepth 100000 in
set_option maxHeartbeats 16000000 in
theorem places_c (M T : Nat → Nat → Int) (B1 B2 : Option Addr) (n cap0 m cap2 : Nat) (w : World) (hR : Reads w B1 n 17 M) (hA0 : B1 = none → n = 0 ∧ cap0 = 0) (hn : n ≤ 1000000) (hRT : Reads w B2 m 6 T) (hm : m ≤ 1000000) :
    Calls Tryz.prog 22 #[.slice B1 n cap0, .slice B2 m cap2] w fun e w' => ∃ A cap, e = .returned (.slice A n cap) ∧ RowQ w.heap.size w' A n cap (placesF M T n m) ∧ Below w.heap.size w w' := by
  have hmc := more_cell
  have hmf := more_frozen
  have hml := more_lt
  go_enter Tryz.func22, Tryz.ntmps22
  go_wp2_with fail
  refine (clone_r M B1 n cap0 _ hR hA0 hn).mono ?_
  rintro e w1 ⟨A, cap, rfl, hR1, hb1⟩
  have hO1 := hR1.own
  have HR1 := Lib.hid hR1
  have hS1 := Shp.refl w1
  clear hR1
  have hn9 : n ≤ 9223372036854775807 := by omega
  go_wp2
  go_loopw [19] (fun i wr => ∃ k : Nat, k ≤ m ∧ i = .int .i64 k ∧ OwnB w.heap.size wr A n (placesF M T n k) ∧ Below w.heap.size w wr ∧ Shp w1 wr) (fun i _ => m - (intOf i).toNat)
  case atStart => exact ⟨0, by omega, rfl, hO1, hb1, hS1⟩
  case round =>
    obtain ⟨k, hk, rfl, hO, hB, hS⟩ := hrel
    by_cases hlt : k < m
    · obtain ⟨tb, to, rfl, htb, htc⟩ := hRT (by omega)
      have q0 : wr.cell? ⟨tb, to + k * 6 + 0, none⟩ = some (.int .i64 (T k 0)) := by rw [Nat.add_assoc]; exact (hB.cell (p := ⟨tb, to + (k * 6 + 0), none⟩) htb).trans (htc k hlt 0 (by decide))
      have q1 : wr.cell? ⟨tb, to + k * 6 + 1, none⟩ = some (.int .i64 (T k 1)) := by rw [Nat.add_assoc]; exact (hB.cell (p := ⟨tb, to + (k * 6 + 1), none⟩) htb).trans (htc k hlt 1 (by decide))
      have q2 : wr.cell? ⟨tb, to + k * 6 + 2, none⟩ = some (.int .i64 (T k 2)) := by rw [Nat.add_assoc]; exact (hB.cell (p := ⟨tb, to + (k * 6 + 2), none⟩) htb).trans (htc k hlt 2 (by decide))
      have q3 : wr.cell? ⟨tb, to + k * 6 + 3, none⟩ = some (.int .i64 (T k 3)) := by rw [Nat.add_assoc]; exact (hB.cell (p := ⟨tb, to + (k * 6 + 3), none⟩) htb).trans (htc k hlt 3 (by decide))
      have q4 : wr.cell? ⟨tb, to + k * 6 + 4, none⟩ = some (.int .i64 (T k 4)) := by rw [Nat.add_assoc]; exact (hB.cell (p := ⟨tb, to + (k * 6 + 4), none⟩) htb).trans (htc k hlt 4 (by decide))
      have q5 : wr.cell? ⟨tb, to + k * 6 + 5, none⟩ = some (.int .i64 (T k 5)) := by rw [Nat.add_assoc]; exact (hB.cell (p := ⟨tb, to + (k * 6 + 5), none⟩) htb).trans (htc k hlt 5 (by decide))
      simp only [Nat.add_zero] at q0
      have hno := places_ok M T n k
      have hgo := places_go M T n k
      obtain ⟨Mk, hMk⟩ : ∃ Mk, Mk = placesF M T n k := ⟨_, rfl⟩
      rw [← hMk] at hO hno hgo
      obtain ⟨tA, htA⟩ : ∃ x, x = T k 0 := ⟨_, rfl⟩
      obtain ⟨tB, htB⟩ : ∃ x, x = T k 1 := ⟨_, rfl⟩
      obtain ⟨g1, hg1⟩ : ∃ x, x = T k 2 := ⟨_, rfl⟩
      obtain ⟨g2, hg2⟩ : ∃ x, x = T k 3 := ⟨_, rfl⟩
      obtain ⟨g3, hg3⟩ : ∃ x, x = T k 4 := ⟨_, rfl⟩
      obtain ⟨dp, hdp⟩ : ∃ x, x = T k 5 := ⟨_, rfl⟩
      rw [← htA] at q0 hno hgo
      rw [← htB] at q1 hno hgo
      rw [← hg1] at q2 hgo
      rw [← hg2] at q3 hgo
      rw [← hg3] at q4 hgo
      rw [← hdp] at q5 hno hgo
      clear htA htB hg1 hg2 hg3 hdp hMk htc hO1 hb1 hS1
      have HNO := Lib.hid hno
      have HGO := Lib.hid hgo
      clear hno hgo
      have hrb : w.heap.size ≤ wr.heap.size := hB.size
      by_cases ha : 0 ≤ idx Mk n tA
      · obtain ⟨ha1, hi⟩ := idx_lt ha
        obtain ⟨b, e_b, hbb, hTk⟩ := hO (by omega)
        generalize (idx Mk n tA).toNat = i at *
        have HA := Lib.hid ha1
        clear ha ha1
        subst e_b
        by_cases hb0 : 0 ≤ idx Mk n tB
        · obtain ⟨hb2, hj⟩ := idx_lt hb0
          generalize (idx Mk n tB).toNat = j at *
          have HB := Lib.hid hb2
          clear hb0 hb2
          by_cases hne : i = j
          · subst hne
            have hT0 := hTk
            have nbw : b ≠ wr.heap.size := by have := hTk.lt; omega
            go_wp2_with fail
            go_wp2_with fail
            refine calls_here ?_
            rintro w10 hb10
            have B10_0 : Blk w10 (wr.heap.size) _ := Blk.below (by repeat (with_reducible (first | assumption | (apply Blk.at; simp; done) | apply Blk.alloc | apply Blk.drew | apply Blk.drewN | apply Blk.more | apply Blk.put | (apply Blk.far; focus (first | assumption | (apply Ne.symm; assumption) | (simp; done) | (simp <;> omega)))))) hb10
            try simp only [List.setIfInBounds_toArray, List.set_cons_zero, List.set_cons_succ] at B10_0
            obtain ⟨z10_0, c10_0, f10_0⟩ := id B10_0
            have hT10 : Tab w10 b n 17 Mk := ((show Tab _ b n 17 Mk from (by repeat (with_reducible (first | assumption | apply Tab.alloc | apply Tab.drew | apply Tab.drewN | apply Tab.more | (apply Tab.far; focus (first | assumption | (apply Ne.symm; assumption) | (simp; done) | (simp <;> omega)))))))).below hb10
            refine (both_same Mk n cap tA tB g1 g2 g3 dp _ b i (hT10) hi HA HB hn9).mono ?_
            rintro e w11 ⟨rfl, hb11⟩
            have B11_0 : Blk w11 (wr.heap.size) _ := Blk.below (by repeat (with_reducible (first | assumption | (apply Blk.at; simp; done) | apply Blk.alloc | apply Blk.drew | apply Blk.drewN | apply Blk.more | apply Blk.put | (apply Blk.far; focus (first | assumption | (apply Ne.symm; assumption) | (simp; done) | (simp <;> omega)))))) hb11
            obtain ⟨z11_0, c11_0, f11_0⟩ := id B11_0
            have hT11 : Tab w11 b n 17 Mk := ((show Tab _ b n 17 Mk from (by repeat (with_reducible (first | assumption | apply Tab.alloc | apply Tab.drew | apply Tab.drewN | apply Tab.more | (apply Tab.far; focus (first | assumption | (apply Ne.symm; assumption) | (simp; done) | (simp <;> omega)))))))).below hb11
            go_wp2_with fail
            go_roundw
            case rel =>
              exact ⟨k + 1, by omega, by go_num, by rw [HNO.out (fun h => h.1.2.2 (by rw [HA.out, HB.out]))]; exact fun hn0 => ⟨b, rfl, hbb, (by repeat (with_reducible (first | assumption | apply Tab.alloc | apply Tab.drew | apply Tab.drewN | apply Tab.more | (apply Tab.far; focus (first | assumption | (apply Ne.symm; assumption) | (simp; done) | (simp <;> omega))))))⟩, (by repeat (with_reducible (first | exact Below.refl _ _ | assumption | apply ext_drew | apply ext_drewN | apply ext_alloc | apply ext_more | (refine ext_setCell ?_ (by simp <;> omega) _) | (refine ext_below ?_ (by assumption))))), (by repeat (with_reducible (first | assumption | apply Shp.drew | apply Shp.drewN | apply Shp.alloc | apply Shp.more | apply Shp.set | (refine Shp.below ?_ (by assumption)) | (refine Shp.mds ?_ (by assumption)))))⟩
            case measure => simp [intOf]; omega
          · by_cases hd : dp ≤ 655
            · have hT0 := hTk
              have nbw : b ≠ wr.heap.size := by have := hTk.lt; omega
              go_wp2_with fail
              go_wp2_with fail
              refine calls_here ?_
              rintro w10 hb10
              have B10_0 : Blk w10 (wr.heap.size) _ := Blk.below (by repeat (with_reducible (first | assumption | (apply Blk.at; simp; done) | apply Blk.alloc | apply Blk.drew | apply Blk.drewN | apply Blk.more | apply Blk.put | (apply Blk.far; focus (first | assumption | (apply Ne.symm; assumption) | (simp; done) | (simp <;> omega)))))) hb10
              try simp only [List.setIfInBounds_toArray, List.set_cons_zero, List.set_cons_succ] at B10_0
              obtain ⟨z10_0, c10_0, f10_0⟩ := id B10_0
              have hT10 : Tab w10 b n 17 Mk := ((show Tab _ b n 17 Mk from (by repeat (with_reducible (first | assumption | apply Tab.alloc | apply Tab.drew | apply Tab.drewN | apply Tab.more | (apply Tab.far; focus (first | assumption | (apply Ne.symm; assumption) | (simp; done) | (simp <;> omega)))))))).below hb10
              refine (both_yes Mk n cap tA tB g1 g2 g3 dp _ b i j (hT10) hi hj HA HB hne hn9).mono ?_
              rintro e w11 ⟨rfl, hb11⟩
              have B11_0 : Blk w11 (wr.heap.size) _ := Blk.below (by repeat (with_reducible (first | assumption | (apply Blk.at; simp; done) | apply Blk.alloc | apply Blk.drew | apply Blk.drewN | apply Blk.more | apply Blk.put | (apply Blk.far; focus (first | assumption | (apply Ne.symm; assumption) | (simp; done) | (simp <;> omega)))))) hb11
              obtain ⟨z11_0, c11_0, f11_0⟩ := id B11_0
              have hT11 : Tab w11 b n 17 Mk := ((show Tab _ b n 17 Mk from (by repeat (with_reducible (first | assumption | apply Tab.alloc | apply Tab.drew | apply Tab.drewN | apply Tab.more | (apply Tab.far; focus (first | assumption | (apply Ne.symm; assumption) | (simp; done) | (simp <;> omega)))))))).below hb11
              go_wp2_with fail
              go_roundw
              case rel =>
                exact ⟨k + 1, by omega, by go_num, by rw [HNO.out (fun h => absurd h.2 (by omega))]; exact fun hn0 => ⟨b, rfl, hbb, (by repeat (with_reducible (first | assumption | apply Tab.alloc | apply Tab.drew | apply Tab.drewN | apply Tab.more | (apply Tab.far; focus (first | assumption | (apply Ne.symm; assumption) | (simp; done) | (simp <;> omega))))))⟩, (by repeat (with_reducible (first | exact Below.refl _ _ | assumption | apply ext_drew | apply ext_drewN | apply ext_alloc | apply ext_more | (refine ext_setCell ?_ (by simp <;> omega) _) | (refine ext_below ?_ (by assumption))))), (by repeat (with_reducible (first | assumption | apply Shp.drew | apply Shp.drewN | apply Shp.alloc | apply Shp.more | apply Shp.set | (refine Shp.below ?_ (by assumption)) | (refine Shp.mds ?_ (by assumption)))))⟩
              case measure => simp [intOf]; omega
            · have hd2 : 655 < dp := by omega
              clear hd
              have hs0 : 0 ≤ sub dp 655 := sub_nonneg655 hd2
              have hs1 := sub_bd dp 655
              by_cases hall : 0 < add (light (Mk i 15)) (light (Mk j 15))
              · have hT0 := hTk
                have nbw : b ≠ wr.heap.size := by have := hTk.lt; omega
                go_wp2_with fail
                go_wp2_with fail
                refine calls_here ?_
                rintro w10 hb10
                have B10_0 : Blk w10 (wr.heap.size) _ := Blk.below (by repeat (with_reducible (first | assumption | (apply Blk.at; simp; done) | apply Blk.alloc | apply Blk.drew | apply Blk.drewN | apply Blk.more | apply Blk.put | (apply Blk.far; focus (first | assumption | (apply Ne.symm; assumption) | (simp; done) | (simp <;> omega)))))) hb10
                try simp only [List.setIfInBounds_toArray, List.set_cons_zero, List.set_cons_succ] at B10_0
                obtain ⟨z10_0, c10_0, f10_0⟩ := id B10_0
                have hT10 : Tab w10 b n 17 Mk := ((show Tab _ b n 17 Mk from (by repeat (with_reducible (first | assumption | apply Tab.alloc | apply Tab.drew | apply Tab.drewN | apply Tab.more | (apply Tab.far; focus (first | assumption | (apply Ne.symm; assumption) | (simp; done) | (simp <;> omega)))))))).below hb10
                refine (both_yes Mk n cap tA tB g1 g2 g3 dp _ b i j (hT10) hi hj HA HB hne hn9).mono ?_
                rintro e w11 ⟨rfl, hb11⟩
                have B11_0 : Blk w11 (wr.heap.size) _ := Blk.below (by repeat (with_reducible (first | assumption | (apply Blk.at; simp; done) | apply Blk.alloc | apply Blk.drew | apply Blk.drewN | apply Blk.more | apply Blk.put | (apply Blk.far; focus (first | assumption | (apply Ne.symm; assumption) | (simp; done) | (simp <;> omega)))))) hb11
                obtain ⟨z11_0, c11_0, f11_0⟩ := id B11_0
                have hT11 : Tab w11 b n 17 Mk := ((show Tab _ b n 17 Mk from (by repeat (with_reducible (first | assumption | apply Tab.alloc | apply Tab.drew | apply Tab.drewN | apply Tab.more | (apply Tab.far; focus (first | assumption | (apply Ne.symm; assumption) | (simp; done) | (simp <;> omega)))))))).below hb11
                have xi := hT11.cell hi (j := 15) (by decide)
                have xj := hT11.cell hj (j := 15) (by decide)
                go_wp2_with fail
                go_wp2_with fail
                refine (light_c b (i * 17) (Mk i 15) _ (by first | exact xi | exact xj)).mono ?_
                rintro e w' ⟨rfl, q18, rfl⟩
                go_wp2_with fail
                go_wp2_with fail
                refine (light_c b (j * 17) (Mk j 15) _ (by first | exact xi | exact xj)).mono ?_
                rintro e w' ⟨rfl, q22, rfl⟩
                go_wp2_with fail
                refine (add_c _ _ _).mono ?_
                rintro e w' ⟨rfl, rfl⟩
                go_wp2_with fail
                refine (sub_c _ _ _).mono ?_
                rintro e w' ⟨rfl, rfl⟩
                go_wp2_with fail
                refine (div_c _ _ _).mono ?_
                rintro e w' ⟨rfl, q31, rfl⟩
                go_wp2_with fail
                refine wp_fresh ?_
                rintro w12 hb12
                have B12_0 : Blk w12 (wr.heap.size) _ := Blk.below (by repeat (with_reducible (first | assumption | (apply Blk.at; simp; done) | apply Blk.alloc | apply Blk.drew | apply Blk.drewN | apply Blk.more | apply Blk.put | (apply Blk.far; focus (first | assumption | (apply Ne.symm; assumption) | (simp; done) | (simp <;> omega)))))) hb12
                obtain ⟨z12_0, c12_0, f12_0⟩ := id B12_0
                have hT12 : Tab w12 b n 17 Mk := ((show Tab _ b n 17 Mk from (by repeat (with_reducible (first | assumption | apply Tab.alloc | apply Tab.drew | apply Tab.drewN | apply Tab.more | (apply Tab.far; focus (first | assumption | (apply Ne.symm; assumption) | (simp; done) | (simp <;> omega)))))))).below hb12
                have y1_6 := hT12.cell hi (j := 6) (by decide)
                have y1_7 := hT12.cell hi (j := 7) (by decide)
                have y1_8 := hT12.cell hi (j := 8) (by decide)
                have zb1 := hT12.lt
                go_wp2_with fail
                refine region_quiet_but 15 (by kernel_rfl) (by kernel_rfl) ?_
                simp only [List.take_succ_cons, List.take_zero, List.drop_succ_cons, List.drop_zero]
                repeat (go_big_quiet_step (first | (go_at_call 41; exact calls_after_same (mul_c _ _ _)) | (go_at_call 40; exact calls_after (times_c _ _ _ _ _)) | (go_at_call 39; exact calls_after (minus_c _ _ _ _ _ _ _)) | (go_at_call 12; exact calls_after (clampP_c _ _ _ _))))
                refine wpQuiet_nil ?_
                rintro w13 hw13
                have hb13 := after_below hw13
                clear hw13
                have B13_0 : Blk w13 (wr.heap.size) _ := Blk.below (by repeat (with_reducible (first | assumption | (apply Blk.at; simp; done) | apply Blk.alloc | apply Blk.drew | apply Blk.drewN | apply Blk.more | apply Blk.put | (apply Blk.far; focus (first | assumption | (apply Ne.symm; assumption) | (simp; done) | (simp <;> omega)))))) hb13
                obtain ⟨z13_0, c13_0, f13_0⟩ := id B13_0
                have hT13 : Tab w13 b n 17 Mk := ((show Tab _ b n 17 Mk from (by repeat (with_reducible (first | assumption | apply Tab.alloc | apply Tab.drew | apply Tab.drewN | apply Tab.more | (apply Tab.far; focus (first | assumption | (apply Ne.symm; assumption) | (simp; done) | (simp <;> omega)))))))).below hb13
                have v1_6 : w13.cell? ⟨b, i * 17 + 6, none⟩ = some (.int .i64 (Mk i 6)) := hT13.cell hi (j := 6) (by decide)
                have u1_6 : w13.frozen? ⟨b, i * 17 + 6, none⟩ = false := hT13.free _
                have v1_7 : w13.cell? ⟨b, i * 17 + 6 + 1, none⟩ = some (.int .i64 (Mk i 7)) := hT13.cell hi (j := 7) (by decide)
                have u1_7 : w13.frozen? ⟨b, i * 17 + 6 + 1, none⟩ = false := hT13.free _
                have v1_8 : w13.cell? ⟨b, i * 17 + 6 + 2, none⟩ = some (.int .i64 (Mk i 8)) := hT13.cell hi (j := 8) (by decide)
                have u1_8 : w13.frozen? ⟨b, i * 17 + 6 + 2, none⟩ = false := hT13.free _
                have s1_13 := hT13.lt
                go_wp2_with fail
                refine wp_fresh ?_
                rintro w14 hb14
                have B14_0 : Blk w14 (wr.heap.size) _ := Blk.below (by repeat (with_reducible (first | assumption | (apply Blk.at; simp; done) | apply Blk.alloc | apply Blk.drew | apply Blk.drewN | apply Blk.more | apply Blk.put | (apply Blk.far; focus (first | assumption | (apply Ne.symm; assumption) | (simp; done) | (simp <;> omega)))))) hb14
                obtain ⟨z14_0, c14_0, f14_0⟩ := id B14_0
                obtain ⟨M1, hM1⟩ : ∃ M1, M1 = put3 Mk i 6 (clamp 65536000 (sub (Mk i 6) (mul g1 (mul (div (sub dp 655 / 5) (add (light (Mk i 15)) (light (Mk j 15)))) (light (Mk i 15)))))) (clamp 65536000 (sub (Mk i 7) (mul g2 (mul (div (sub dp 655 / 5) (add (light (Mk i 15)) (light (Mk j 15)))) (light (Mk i 15)))))) (clamp 65536000 (sub (Mk i 8) (mul g3 (mul (div (sub dp 655 / 5) (add (light (Mk i 15)) (light (Mk j 15)))) (light (Mk i 15)))))) := ⟨_, rfl⟩
                have hT14 : Tab w14 b n 17 M1 := by rw [hM1]; exact (hT13.set3 hi (j := 6) (by decide) _ _ _).below hb14
                have HM1 := Lib.hid hM1
                clear hM1
                go_wp2_with fail
                refine wp_fresh ?_
                rintro w15 hb15
                have B15_0 : Blk w15 (wr.heap.size) _ := Blk.below (by repeat (with_reducible (first | assumption | (apply Blk.at; simp; done) | apply Blk.alloc | apply Blk.drew | apply Blk.drewN | apply Blk.more | apply Blk.put | (apply Blk.far; focus (first | assumption | (apply Ne.symm; assumption) | (simp; done) | (simp <;> omega)))))) hb15
                obtain ⟨z15_0, c15_0, f15_0⟩ := id B15_0
                have hT15 : Tab w15 b n 17 M1 := ((show Tab _ b n 17 M1 from (by repeat (with_reducible (first | assumption | apply Tab.alloc | apply Tab.drew | apply Tab.drewN | apply Tab.more | (apply Tab.far; focus (first | assumption | (apply Ne.symm; assumption) | (simp; done) | (simp <;> omega)))))))).below hb15
                have y2_6 := hT15.cell hj (j := 6) (by decide)
                have y2_7 := hT15.cell hj (j := 7) (by decide)
                have y2_8 := hT15.cell hj (j := 8) (by decide)
                have zb2 := hT15.lt
                go_wp2_with fail
                refine region_quiet_but 15 (by kernel_rfl) (by kernel_rfl) ?_
                simp only [List.take_succ_cons, List.take_zero, List.drop_succ_cons, List.drop_zero]
                repeat (go_big_quiet_step (first | (go_at_call 41; exact calls_after_same (mul_c _ _ _)) | (go_at_call 40; exact calls_after (times_c _ _ _ _ _)) | (go_at_call 13; exact calls_after (plus_c _ _ _ _ _ _ _)) | (go_at_call 12; exact calls_after (clampP_c _ _ _ _))))
                refine wpQuiet_nil ?_
                rintro w16 hw16
                have hb16 := after_below hw16
                clear hw16
                have B16_0 : Blk w16 (wr.heap.size) _ := Blk.below (by repeat (with_reducible (first | assumption | (apply Blk.at; simp; done) | apply Blk.alloc | apply Blk.drew | apply Blk.drewN | apply Blk.more | apply Blk.put | (apply Blk.far; focus (first | assumption | (apply Ne.symm; assumption) | (simp; done) | (simp <;> omega)))))) hb16
                obtain ⟨z16_0, c16_0, f16_0⟩ := id B16_0
                have hT16 : Tab w16 b n 17 M1 := ((show Tab _ b n 17 M1 from (by repeat (with_reducible (first | assumption | apply Tab.alloc | apply Tab.drew | apply Tab.drewN | apply Tab.more | (apply Tab.far; focus (first | assumption | (apply Ne.symm; assumption) | (simp; done) | (simp <;> omega)))))))).below hb16
                have v2_6 : w16.cell? ⟨b, j * 17 + 6, none⟩ = some (.int .i64 (M1 j 6)) := hT16.cell hj (j := 6) (by decide)
                have u2_6 : w16.frozen? ⟨b, j * 17 + 6, none⟩ = false := hT16.free _
                have v2_7 : w16.cell? ⟨b, j * 17 + 6 + 1, none⟩ = some (.int .i64 (M1 j 7)) := hT16.cell hj (j := 7) (by decide)
                have u2_7 : w16.frozen? ⟨b, j * 17 + 6 + 1, none⟩ = false := hT16.free _
                have v2_8 : w16.cell? ⟨b, j * 17 + 6 + 2, none⟩ = some (.int .i64 (M1 j 8)) := hT16.cell hj (j := 8) (by decide)
                have u2_8 : w16.frozen? ⟨b, j * 17 + 6 + 2, none⟩ = false := hT16.free _
                have s2_16 := hT16.lt
                go_wp2_with fail
                go_roundw
                case rel =>
                  exact ⟨k + 1, by omega, by go_num, by rw [HGO.out i j HA.out HB.out hne hd2]; unfold placeGo; rw [if_pos hall]; exact fun hn0 => ⟨b, rfl, hbb, Tab.eq (hT16.set3 hj (j := 6) (by decide) _ _ _) (fun a _ c _ => by rw [HM1.out]; simp only [put3_row _ _ _ _ _ _ (Ne.symm hne)])⟩, (by repeat (with_reducible (first | exact Below.refl _ _ | assumption | apply ext_drew | apply ext_drewN | apply ext_alloc | apply ext_more | (refine ext_setCell ?_ (by simp <;> omega) _) | (refine ext_below ?_ (by assumption))))), (by repeat (with_reducible (first | assumption | apply Shp.drew | apply Shp.drewN | apply Shp.alloc | apply Shp.more | apply Shp.set | (refine Shp.below ?_ (by assumption)) | (refine Shp.mds ?_ (by assumption)))))⟩
                case measure => simp [intOf]; omega
              · have hT0 := hTk
                have nbw : b ≠ wr.heap.size := by have := hTk.lt; omega
                go_wp2_with fail
                go_wp2_with fail
                refine calls_here ?_
                rintro w10 hb10
                have B10_0 : Blk w10 (wr.heap.size) _ := Blk.below (by repeat (with_reducible (first | assumption | (apply Blk.at; simp; done) | apply Blk.alloc | apply Blk.drew | apply Blk.drewN | apply Blk.more | apply Blk.put | (apply Blk.far; focus (first | assumption | (apply Ne.symm; assumption) | (simp; done) | (simp <;> omega)))))) hb10
                try simp only [List.setIfInBounds_toArray, List.set_cons_zero, List.set_cons_succ] at B10_0
                obtain ⟨z10_0, c10_0, f10_0⟩ := id B10_0
                have hT10 : Tab w10 b n 17 Mk := ((show Tab _ b n 17 Mk from (by repeat (with_reducible (first | assumption | apply Tab.alloc | apply Tab.drew | apply Tab.drewN | apply Tab.more | (apply Tab.far; focus (first | assumption | (apply Ne.symm; assumption) | (simp; done) | (simp <;> omega)))))))).below hb10
                refine (both_yes Mk n cap tA tB g1 g2 g3 dp _ b i j (hT10) hi hj HA HB hne hn9).mono ?_
                rintro e w11 ⟨rfl, hb11⟩
                have B11_0 : Blk w11 (wr.heap.size) _ := Blk.below (by repeat (with_reducible (first | assumption | (apply Blk.at; simp; done) | apply Blk.alloc | apply Blk.drew | apply Blk.drewN | apply Blk.more | apply Blk.put | (apply Blk.far; focus (first | assumption | (apply Ne.symm; assumption) | (simp; done) | (simp <;> omega)))))) hb11
                obtain ⟨z11_0, c11_0, f11_0⟩ := id B11_0
                have hT11 : Tab w11 b n 17 Mk := ((show Tab _ b n 17 Mk from (by repeat (with_reducible (first | assumption | apply Tab.alloc | apply Tab.drew | apply Tab.drewN | apply Tab.more | (apply Tab.far; focus (first | assumption | (apply Ne.symm; assumption) | (simp; done) | (simp <;> omega)))))))).below hb11
                have xi := hT11.cell hi (j := 15) (by decide)
                have xj := hT11.cell hj (j := 15) (by decide)
                go_wp2_with fail
                go_wp2_with fail
                refine (light_c b (i * 17) (Mk i 15) _ (by first | exact xi | exact xj)).mono ?_
                rintro e w' ⟨rfl, q18, rfl⟩
                go_wp2_with fail
                go_wp2_with fail
                refine (light_c b (j * 17) (Mk j 15) _ (by first | exact xi | exact xj)).mono ?_
                rintro e w' ⟨rfl, q22, rfl⟩
                go_wp2_with fail
                refine (add_c _ _ _).mono ?_
                rintro e w' ⟨rfl, rfl⟩
                go_wp2_with fail
                go_roundw
                case rel =>
                  exact ⟨k + 1, by omega, by go_num, by rw [HGO.out i j HA.out HB.out hne hd2]; unfold placeGo; rw [if_neg (by omega)]; exact fun hn0 => ⟨b, rfl, hbb, (by repeat (with_reducible (first | assumption | apply Tab.alloc | apply Tab.drew | apply Tab.drewN | apply Tab.more | (apply Tab.far; focus (first | assumption | (apply Ne.symm; assumption) | (simp; done) | (simp <;> omega))))))⟩, (by repeat (with_reducible (first | exact Below.refl _ _ | assumption | apply ext_drew | apply ext_drewN | apply ext_alloc | apply ext_more | (refine ext_setCell ?_ (by simp <;> omega) _) | (refine ext_below ?_ (by assumption))))), (by repeat (with_reducible (first | assumption | apply Shp.drew | apply Shp.drewN | apply Shp.alloc | apply Shp.more | apply Shp.set | (refine Shp.below ?_ (by assumption)) | (refine Shp.mds ?_ (by assumption)))))⟩
                case measure => simp [intOf]; omega
        · have HB := Lib.hid (idx_not hb0)
          clear hb0
          have hT0 := hTk
          have nbw : b ≠ wr.heap.size := by have := hTk.lt; omega
          go_wp2_with fail
          go_wp2_with fail
          refine calls_here ?_
          rintro w10 hb10
          have B10_0 : Blk w10 (wr.heap.size) _ := Blk.below (by repeat (with_reducible (first | assumption | (apply Blk.at; simp; done) | apply Blk.alloc | apply Blk.drew | apply Blk.drewN | apply Blk.more | apply Blk.put | (apply Blk.far; focus (first | assumption | (apply Ne.symm; assumption) | (simp; done) | (simp <;> omega)))))) hb10
          try simp only [List.setIfInBounds_toArray, List.set_cons_zero, List.set_cons_succ] at B10_0
          obtain ⟨z10_0, c10_0, f10_0⟩ := id B10_0
          have hT10 : Tab w10 b n 17 Mk := ((show Tab _ b n 17 Mk from (by repeat (with_reducible (first | assumption | apply Tab.alloc | apply Tab.drew | apply Tab.drewN | apply Tab.more | (apply Tab.far; focus (first | assumption | (apply Ne.symm; assumption) | (simp; done) | (simp <;> omega)))))))).below hb10
          refine (both_yn Mk n cap tA tB g1 g2 g3 dp _ b i (hT10) hi HA HB hn9).mono ?_
          rintro e w11 ⟨rfl, hb11⟩
          have B11_0 : Blk w11 (wr.heap.size) _ := Blk.below (by repeat (with_reducible (first | assumption | (apply Blk.at; simp; done) | apply Blk.alloc | apply Blk.drew | apply Blk.drewN | apply Blk.more | apply Blk.put | (apply Blk.far; focus (first | assumption | (apply Ne.symm; assumption) | (simp; done) | (simp <;> omega)))))) hb11
          obtain ⟨z11_0, c11_0, f11_0⟩ := id B11_0
          have hT11 : Tab w11 b n 17 Mk := ((show Tab _ b n 17 Mk from (by repeat (with_reducible (first | assumption | apply Tab.alloc | apply Tab.drew | apply Tab.drewN | apply Tab.more | (apply Tab.far; focus (first | assumption | (apply Ne.symm; assumption) | (simp; done) | (simp <;> omega)))))))).below hb11
          go_wp2_with fail
          go_roundw
          case rel =>
            exact ⟨k + 1, by omega, by go_num, by rw [HNO.out (fun h => by have := h.1.2.1; rw [HB.out] at this; omega)]; exact fun hn0 => ⟨b, rfl, hbb, (by repeat (with_reducible (first | assumption | apply Tab.alloc | apply Tab.drew | apply Tab.drewN | apply Tab.more | (apply Tab.far; focus (first | assumption | (apply Ne.symm; assumption) | (simp; done) | (simp <;> omega))))))⟩, (by repeat (with_reducible (first | exact Below.refl _ _ | assumption | apply ext_drew | apply ext_drewN | apply ext_alloc | apply ext_more | (refine ext_setCell ?_ (by simp <;> omega) _) | (refine ext_below ?_ (by assumption))))), (by repeat (with_reducible (first | assumption | apply Shp.drew | apply Shp.drewN | apply Shp.alloc | apply Shp.more | apply Shp.set | (refine Shp.below ?_ (by assumption)) | (refine Shp.mds ?_ (by assumption)))))⟩
          case measure => simp [intOf]; omega
      · have HA := Lib.hid (idx_not ha)
        clear ha
        by_cases hb0 : 0 ≤ idx Mk n tB
        · obtain ⟨hb2, hj⟩ := idx_lt hb0
          obtain ⟨b, e_b, hbb, hTk⟩ := hO (by omega)
          subst e_b
          generalize (idx Mk n tB).toNat = j at *
          have HB := Lib.hid hb2
          clear hb0 hb2
          have hT0 := hTk
          have nbw : b ≠ wr.heap.size := by have := hTk.lt; omega
          go_wp2_with fail
          go_wp2_with fail
          refine calls_here ?_
          rintro w10 hb10
          have B10_0 : Blk w10 (wr.heap.size) _ := Blk.below (by repeat (with_reducible (first | assumption | (apply Blk.at; simp; done) | apply Blk.alloc | apply Blk.drew | apply Blk.drewN | apply Blk.more | apply Blk.put | (apply Blk.far; focus (first | assumption | (apply Ne.symm; assumption) | (simp; done) | (simp <;> omega)))))) hb10
          try simp only [List.setIfInBounds_toArray, List.set_cons_zero, List.set_cons_succ] at B10_0
          obtain ⟨z10_0, c10_0, f10_0⟩ := id B10_0
          have hT10 : Tab w10 b n 17 Mk := ((show Tab _ b n 17 Mk from (by repeat (with_reducible (first | assumption | apply Tab.alloc | apply Tab.drew | apply Tab.drewN | apply Tab.more | (apply Tab.far; focus (first | assumption | (apply Ne.symm; assumption) | (simp; done) | (simp <;> omega)))))))).below hb10
          refine (both_ny Mk n cap tA tB g1 g2 g3 dp _ b j (hT10) hj HA HB hn9).mono ?_
          rintro e w11 ⟨rfl, hb11⟩
          have B11_0 : Blk w11 (wr.heap.size) _ := Blk.below (by repeat (with_reducible (first | assumption | (apply Blk.at; simp; done) | apply Blk.alloc | apply Blk.drew | apply Blk.drewN | apply Blk.more | apply Blk.put | (apply Blk.far; focus (first | assumption | (apply Ne.symm; assumption) | (simp; done) | (simp <;> omega)))))) hb11
          obtain ⟨z11_0, c11_0, f11_0⟩ := id B11_0
          have hT11 : Tab w11 b n 17 Mk := ((show Tab _ b n 17 Mk from (by repeat (with_reducible (first | assumption | apply Tab.alloc | apply Tab.drew | apply Tab.drewN | apply Tab.more | (apply Tab.far; focus (first | assumption | (apply Ne.symm; assumption) | (simp; done) | (simp <;> omega)))))))).below hb11
          go_wp2_with fail
          go_roundw
          case rel =>
            exact ⟨k + 1, by omega, by go_num, by rw [HNO.out (fun h => by have := h.1.1; rw [HA.out] at this; omega)]; exact fun hn0 => ⟨b, rfl, hbb, (by repeat (with_reducible (first | assumption | apply Tab.alloc | apply Tab.drew | apply Tab.drewN | apply Tab.more | (apply Tab.far; focus (first | assumption | (apply Ne.symm; assumption) | (simp; done) | (simp <;> omega))))))⟩, (by repeat (with_reducible (first | exact Below.refl _ _ | assumption | apply ext_drew | apply ext_drewN | apply ext_alloc | apply ext_more | (refine ext_setCell ?_ (by simp <;> omega) _) | (refine ext_below ?_ (by assumption))))), (by repeat (with_reducible (first | assumption | apply Shp.drew | apply Shp.drewN | apply Shp.alloc | apply Shp.more | apply Shp.set | (refine Shp.below ?_ (by assumption)) | (refine Shp.mds ?_ (by assumption)))))⟩
          case measure => simp [intOf]; omega
        · have HB := Lib.hid (idx_not hb0)
          clear hb0
          have hO0 := hO.own
          go_wp2_with fail
          go_wp2_with fail
          refine calls_here ?_
          rintro w10 hb10
          have B10_0 : Blk w10 (wr.heap.size) _ := Blk.below (by repeat (with_reducible (first | assumption | (apply Blk.at; simp; done) | apply Blk.alloc | apply Blk.drew | apply Blk.drewN | apply Blk.more | apply Blk.put | (apply Blk.far; focus (first | assumption | (apply Ne.symm; assumption) | (simp; done) | (simp <;> omega)))))) hb10
          try simp only [List.setIfInBounds_toArray, List.set_cons_zero, List.set_cons_succ] at B10_0
          obtain ⟨z10_0, c10_0, f10_0⟩ := id B10_0
          have hO10 : Own w10 A n Mk := ((show Own _ A n Mk from (by repeat (with_reducible (first | assumption | apply Own.alloc | apply Own.drew | apply Own.drewN | apply Own.more | (apply Own.far; focus (first | assumption | (apply Ne.symm; assumption) | (simp; done) | (simp <;> omega)))))))).below hb10
          refine (both_nn Mk n cap tA tB g1 g2 g3 dp _ A (hO10) HA HB hn9).mono ?_
          rintro e w11 ⟨rfl, hb11⟩
          have B11_0 : Blk w11 (wr.heap.size) _ := Blk.below (by repeat (with_reducible (first | assumption | (apply Blk.at; simp; done) | apply Blk.alloc | apply Blk.drew | apply Blk.drewN | apply Blk.more | apply Blk.put | (apply Blk.far; focus (first | assumption | (apply Ne.symm; assumption) | (simp; done) | (simp <;> omega)))))) hb11
          obtain ⟨z11_0, c11_0, f11_0⟩ := id B11_0
          have hO11 : Own w11 A n Mk := ((show Own _ A n Mk from (by repeat (with_reducible (first | assumption | apply Own.alloc | apply Own.drew | apply Own.drewN | apply Own.more | (apply Own.far; focus (first | assumption | (apply Ne.symm; assumption) | (simp; done) | (simp <;> omega)))))))).below hb11
          go_wp2_with fail
          go_roundw
          case rel =>
            exact ⟨k + 1, by omega, by go_num, by rw [HNO.out (fun h => by have := h.1.1; rw [HA.out] at this; omega)]; exact (hO.below (by repeat (with_reducible (first | exact Below.refl _ _ | assumption | apply ext_drew | apply ext_drewN | apply ext_alloc | apply ext_more | (refine ext_setCell ?_ (by simp <;> omega) _) | (refine ext_below ?_ (by assumption)))))), (by repeat (with_reducible (first | exact Below.refl _ _ | assumption | apply ext_drew | apply ext_drewN | apply ext_alloc | apply ext_more | (refine ext_setCell ?_ (by simp <;> omega) _) | (refine ext_below ?_ (by assumption))))), (by repeat (with_reducible (first | assumption | apply Shp.drew | apply Shp.drewN | apply Shp.alloc | apply Shp.more | apply Shp.set | (refine Shp.below ?_ (by assumption)) | (refine Shp.mds ?_ (by assumption)))))⟩
          case measure => simp [intOf]; omega
    · have hkm : k = m := by omega
      go_wp2
      go_ret
      exact ⟨A, cap, rfl, by rw [← hkm]; exact HR1.out.shp hS hO, hB⟩

end Go.Proofs.YtniahipadfgkbaaGreat
