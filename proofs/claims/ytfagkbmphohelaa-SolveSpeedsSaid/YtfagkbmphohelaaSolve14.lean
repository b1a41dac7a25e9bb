/- The contract of gyreref.Speeds. Conditions: none but that there are not too many. -/
import Derived.Test.YtfagkbmphohelaaSolve13
import Derived.Test.YtfagkbmphohelaaSolve3
import Derived.Test.YtfagkbmphohelaaLoad17
namespace Go.Proofs.Ytfagkbmphohelaa
open Go.ChangeShapes Go.WideShapes Go.ChangeAt Go.RowKit Go.BigFrame
theorem rclampS_c (a1 a2 a3 : Int) (w : World) : Calls Try.prog 71 #[.agg #[.int .i64 a1, .int .i64 a2, .int .i64 a3], .int .i64 6553600] w fun e w' => e = .returned (.agg #[.int .i64 (clamp 6553600 a1), .int .i64 (clamp 6553600 a2), .int .i64 (clamp 6553600 a3)]) ∧ Below w.heap.size w w' := rclamp_c a1 a2 a3 6553600 (by decide) w

set_option maxRecDepth 100000 in
set_option maxHeartbeats 40000000 in
theorem rspeeds_1 (M T : Nat → Nat → Int) (B1 B2 : Option Addr) (n cap0 m cap2 R : Nat) (bo ru : Int) (w : World) (hR : Reads w B1 n 17 M) (hA0 : B1 = none → n = 0 ∧ cap0 = 0) (hn : n ≤ 1000000) (hRT : Reads w B2 m 6 T) (hm : m ≤ 1000000) (HR : Hid (RightL bo ru (R : Int))) (hbo : 0 ≤ bo ∧ bo ≤ 65536) (_hR20 : R ≤ 20) :
    Calls Try.prog 81 #[.slice B1 n cap0, .slice B2 m cap2, .agg #[.int .i64 bo, .int .i64 ru, .int .i64 (R : Int)]] w fun e w' => ∃ A cap, e = .returned (.slice A n cap) ∧ OwnB w.heap.size w' A n (clampF (passes M T n m bo ru R) n) ∧ Below w.heap.size w w' := by
  have hmc := more_cell
  have hmf := more_frozen
  have hml := more_lt
  go_enter Try.func81, Try.ntmps81
  go_wp2_with (at_builtin; go_must (refine append_bodies rfl (.tmp 24) (.tmp 25) rfl (w.alloc (.cells #[.int .i64 bo, .int .i64 ru, .int .i64 (R : Int)] 96)) (by show Value.slice (some ⟨w.heap.size + 1, 0, none⟩) 0 0 = _; simp) M B1 n cap0 rfl (hR.below (below_alloc _ _)) hA0 hn ?_))
  rintro A cap w1 hO1 hb1
  have hb1 : Below (w.alloc (.cells #[.int .i64 bo, .int .i64 ru, .int .i64 (R : Int)] 96)).heap.size (w.alloc (.cells #[.int .i64 bo, .int .i64 ru, .int .i64 (R : Int)] 96)) w1 := by simpa using hb1
  have L1 : Blk w1 w.heap.size #[.int .i64 bo, .int .i64 ru, .int .i64 (R : Int)] := (Blk.fresh _ _ _).below hb1
  obtain ⟨zl, cl, fl⟩ := id L1
  try simp only [World.size_alloc] at hO1
  have hAp : 0 < n → ∀ b, A = some ⟨b, 0, none⟩ → b < w1.heap.size := fun h b e => by
    obtain ⟨b', e', _, hT⟩ := hO1 h
    rw [e] at e'
    cases e'
    exact hT.lt
  have hn9 : n ≤ 9223372036854775807 := by omega
  have hB1 : Below w.heap.size w w1 := (by repeat (with_reducible (first | exact Below.refl _ _ | assumption | apply ext_drew | apply ext_drewN | apply ext_alloc | apply ext_more | (refine ext_setCell ?_ (by first | assumption | (simp <;> omega)) _) | (refine ext_below ?_ (by assumption)))))
  go_wp2_with fail
  refine calls_here ?_
  rintro w2 hb2
  have L2 : Blk w2 w.heap.size #[.int .i64 bo, .int .i64 ru, .int .i64 (R : Int)] := Blk.below (by repeat (with_reducible (first | assumption | (apply Blk.at; simp; done) | apply Blk.alloc | apply Blk.drew | apply Blk.drewN | apply Blk.more | apply Blk.put | (apply Blk.far; focus (first | assumption | (apply Ne.symm; assumption) | (simp; done) | (simp <;> omega)))))) hb2
  have P2 : Blk w2 w1.heap.size #[.slice A n cap] := Blk.below (by repeat (with_reducible (first | assumption | (apply Blk.at; simp; done) | apply Blk.alloc | apply Blk.drew | apply Blk.drewN | apply Blk.more | apply Blk.put | (apply Blk.far; focus (first | assumption | (apply Ne.symm; assumption) | (simp; done) | (simp <;> omega)))))) hb2
  obtain ⟨zl2, cl2, fl2⟩ := id L2
  obtain ⟨zp2, cp2, fp2⟩ := id P2
  have hB2 : Below w.heap.size w w2 := (by repeat (with_reducible (first | exact Below.refl _ _ | assumption | apply ext_drew | apply ext_drewN | apply ext_alloc | apply ext_more | (refine ext_setCell ?_ (by first | assumption | (simp <;> omega)) _) | (refine ext_below ?_ (by assumption)))))
  have hO2 : OwnB (w.heap.size + 1) w2 A n M := hO1.below ((below_alloc w1 _).trans (hb2.mono (by simp)))
  refine (rright_c bo ru (R : Int) _).mono ?_
  rintro e w3 ⟨rfl, hb3⟩
  rw [decide_eq_true HR.out]
  have L3 : Blk w3 w.heap.size #[.int .i64 bo, .int .i64 ru, .int .i64 (R : Int)] := L2.below hb3
  have P3 : Blk w3 w1.heap.size #[.slice A n cap] := P2.below hb3
  obtain ⟨zl3, cl3, fl3⟩ := id L3
  obtain ⟨zp3, cp3, fp3⟩ := id P3
  have hO3 := hO2.below hb3
  have hB3 : Below w.heap.size w w3 := hB2.trans (hb3.mono hB2.size)
  have hz1 : w.heap.size + 1 ≤ w1.heap.size := by have := hb1.size; simpa using this
  clear L1 L2 P2 zl cl fl zl2 cl2 fl2 zp2 cp2 fp2 hO1 hO2 hB1 hB2 hb1 hb2
  go_wp2
  go_loopw [33] (fun i wr => ∃ p : Nat, p ≤ R ∧ i = .int .i64 p ∧ OwnB (w.heap.size + 1) wr A n (passes M T n m bo ru p) ∧ Blk wr w.heap.size #[.int .i64 bo, .int .i64 ru, .int .i64 (R : Int)] ∧ Blk wr w1.heap.size #[.slice A n cap] ∧ Below w.heap.size w wr) (fun i _ => R - (intOf i).toNat)
  case atStart => exact ⟨0, by omega, rfl, hO3, L3, P3, hB3⟩
  case round =>
    obtain ⟨p, hp, rfl, hOp, hLp, hPp, hBp⟩ := hrel
    obtain ⟨wo, rfl⟩ : ∃ wo : World, wo = wr := ⟨_, rfl⟩
    obtain ⟨Mp, hMp⟩ : ∃ Mp, Mp = passes M T n m bo ru p := ⟨_, rfl⟩
    have HMp := Lib.hid hMp
    rw [← hMp] at hOp
    clear hMp L3 P3 zl3 cl3 fl3 zp3 cp3 fp3 hO3 hB3 hb3
    by_cases hlt0 : p < R
    · go_wp2
      go_loopw [37] (fun i wr => ∃ k : Nat, k ≤ m ∧ i = .int .i64 k ∧ OwnB (w.heap.size + 1) wr A n (passF Mp T n bo ru k) ∧ Blk wr w.heap.size #[.int .i64 bo, .int .i64 ru, .int .i64 (R : Int)] ∧ Blk wr w1.heap.size #[.slice A n cap] ∧ Below w.heap.size w wr) (fun i _ => m - (intOf i).toNat)
      case atStart => exact ⟨0, by omega, rfl, hOp, hLp, hPp, hBp⟩
      case round =>
        obtain ⟨k, hk, rfl, hO, hL, hP, hB⟩ := hrel
        by_cases hlt : k < m
        · obtain ⟨tb, to, rfl, htb, htc⟩ := hRT (by omega)
          have q0 : wr.cell? ⟨tb, to + k * 6 + 0, none⟩ = some (.int .i64 (T k 0)) := by rw [Nat.add_assoc]; exact (hB.cell (p := ⟨tb, to + (k * 6 + 0), none⟩) htb).trans (htc k hlt 0 (by decide))
          have q1 : wr.cell? ⟨tb, to + k * 6 + 1, none⟩ = some (.int .i64 (T k 1)) := by rw [Nat.add_assoc]; exact (hB.cell (p := ⟨tb, to + (k * 6 + 1), none⟩) htb).trans (htc k hlt 1 (by decide))
          have q2 : wr.cell? ⟨tb, to + k * 6 + 2, none⟩ = some (.int .i64 (T k 2)) := by rw [Nat.add_assoc]; exact (hB.cell (p := ⟨tb, to + (k * 6 + 2), none⟩) htb).trans (htc k hlt 2 (by decide))
          have q3 : wr.cell? ⟨tb, to + k * 6 + 3, none⟩ = some (.int .i64 (T k 3)) := by rw [Nat.add_assoc]; exact (hB.cell (p := ⟨tb, to + (k * 6 + 3), none⟩) htb).trans (htc k hlt 3 (by decide))
          have q4 : wr.cell? ⟨tb, to + k * 6 + 4, none⟩ = some (.int .i64 (T k 4)) := by rw [Nat.add_assoc]; exact (hB.cell (p := ⟨tb, to + (k * 6 + 4), none⟩) htb).trans (htc k hlt 4 (by decide))
          have q5 : wr.cell? ⟨tb, to + k * 6 + 5, none⟩ = some (.int .i64 (T k 5)) := by rw [Nat.add_assoc]; exact (hB.cell (p := ⟨tb, to + (k * 6 + 5), none⟩) htb).trans (htc k hlt 5 (by decide))
          simp only [Nat.add_zero] at q0
          have hno := speeds_no Mp T n k bo ru
          have hgo := fun i j => speeds_go Mp T n k i j bo ru
          obtain ⟨Mk, hMk⟩ : ∃ Mk, Mk = passF Mp T n bo ru k := ⟨_, rfl⟩
          rw [← hMk] at hO hno
          simp only [← hMk] at hgo
          obtain ⟨tA, htA⟩ : ∃ x, x = T k 0 := ⟨_, rfl⟩
          rw [← htA] at q0
          obtain ⟨tB, htB⟩ : ∃ x, x = T k 1 := ⟨_, rfl⟩
          rw [← htB] at q1
          obtain ⟨g1, hg1⟩ : ∃ x, x = T k 2 := ⟨_, rfl⟩
          rw [← hg1] at q2
          obtain ⟨g2, hg2⟩ : ∃ x, x = T k 3 := ⟨_, rfl⟩
          rw [← hg2] at q3
          obtain ⟨g3, hg3⟩ : ∃ x, x = T k 4 := ⟨_, rfl⟩
          rw [← hg3] at q4
          obtain ⟨dp, hdp⟩ : ∃ x, x = T k 5 := ⟨_, rfl⟩
          rw [← hdp] at q5
          simp only [← htA, ← htB, ← hg1, ← hg2, ← hg3] at hgo
          rw [← htA, ← htB] at hno
          clear htA htB hg1 hg2 hg3 hdp hMk htc
          have HNO := Lib.hid hno
          have HGO := Lib.hid hgo
          clear hno hgo
          clear hOp hLp hPp hBp hRT hR
          obtain ⟨zl, cl, fl⟩ := id hL
          obtain ⟨zp, cp, fp⟩ := id hP
          have hrb : w.heap.size ≤ wr.heap.size := hB.size
          have nwl : wr.heap.size ≠ w.heap.size := by omega
          have nwp : wr.heap.size ≠ w1.heap.size := by omega
          by_cases ha : 0 ≤ idx Mk n tA
          · obtain ⟨ha1, hi⟩ := idx_lt ha
            obtain ⟨b, e_b, hbb, hTk⟩ := hO (by omega)
            have nbp : b < w1.heap.size := hAp (by omega) b e_b
            generalize (idx Mk n tA).toNat = i at *
            have HA := Lib.hid ha1
            clear ha ha1
            subst e_b
            have hi0 : ¬ (i : Int) < 0 := by omega
            by_cases hb0 : 0 ≤ idx Mk n tB
            · obtain ⟨hb2, hj⟩ := idx_lt hb0
              generalize (idx Mk n tB).toNat = j at *
              have HB := Lib.hid hb2
              clear hb0 hb2
              have hj0 : ¬ (j : Int) < 0 := by omega
              by_cases hne : i = j
              · subst hne
                have hT9 := hTk
                have hblt := hTk.lt
                have nbw : b ≠ wr.heap.size := by omega
                have nlb : w.heap.size ≠ b := by omega
                have lw1 : w.heap.size ≤ w1.heap.size := by omega
                go_wp2_with fail
                refine wp_fresh ?_
                rintro w10 hb10
                have B10_0 : Blk w10 (w.heap.size) _ := Blk.below (by repeat (with_reducible (first | assumption | (apply Blk.at; simp; done) | apply Blk.alloc | apply Blk.drew | apply Blk.drewN | apply Blk.more | apply Blk.put | (apply Blk.far; focus (first | assumption | (apply Ne.symm; assumption) | (simp; done) | (simp <;> omega)))))) hb10
                obtain ⟨z10_0, c10_0, f10_0⟩ := id B10_0
                have B10_1 : Blk w10 (w1.heap.size) _ := Blk.below (by repeat (with_reducible (first | assumption | (apply Blk.at; simp; done) | apply Blk.alloc | apply Blk.drew | apply Blk.drewN | apply Blk.more | apply Blk.put | (apply Blk.far; focus (first | assumption | (apply Ne.symm; assumption) | (simp; done) | (simp <;> omega)))))) hb10
                obtain ⟨z10_1, c10_1, f10_1⟩ := id B10_1
                have B10_2 : Blk w10 (wr.heap.size) _ := Blk.below (by repeat (with_reducible (first | assumption | (apply Blk.at; simp; done) | apply Blk.alloc | apply Blk.drew | apply Blk.drewN | apply Blk.more | apply Blk.put | (apply Blk.far; focus (first | assumption | (apply Ne.symm; assumption) | (simp; done) | (simp <;> omega)))))) hb10
                try simp only [List.setIfInBounds_toArray] at B10_2
                try simp only [List.set_cons_succ] at B10_2
                try simp only [List.set_cons_zero] at B10_2
                obtain ⟨z10_2, c10_2, f10_2⟩ := id B10_2
                have hT10 : Tab w10 b n 17 Mk := ((show Tab _ b n 17 Mk from (by repeat (with_reducible (first | assumption | apply Tab.alloc | apply Tab.drew | apply Tab.drewN | apply Tab.more | (apply Tab.far; focus (first | assumption | (apply Ne.symm; assumption) | (simp; done) | (simp <;> omega)))))))).below hb10
                have hB10 : Below w.heap.size w w10 := (by repeat (with_reducible (first | exact Below.refl _ _ | assumption | apply ext_drew | apply ext_drewN | apply ext_alloc | apply ext_more | (refine ext_setCell ?_ (by first | assumption | (simp <;> omega)) _) | (refine ext_below ?_ (by assumption)))))
                have ms10 : w.heap.size ≤ w10.heap.size := hB10.size
                clear hb10
                clear hTk hT9 hO hP cp zl cl fl zp fp hL hAp htb
                refine region_grow (A := ?A11same) 8 [10, 11] (fun _ => #[.int .i64 0]) (by kernel_rfl) (by kernel_rfl) ?hrun11same ?hq11same ?htail11same
                case hq11same =>
                  intro w0 hb0
                  simp only [List.take_succ_cons, List.take_zero]
                  have B0_0 : Blk w0 _ _ := B10_0.below hb0
                  obtain ⟨z0_0, c0_0, f0_0⟩ := id B0_0
                  have B0_1 : Blk w0 _ _ := B10_1.below hb0
                  obtain ⟨z0_1, c0_1, f0_1⟩ := id B0_1
                  have B0_2 : Blk w0 _ _ := B10_2.below hb0
                  obtain ⟨z0_2, c0_2, f0_2⟩ := id B0_2
                  have hT0_ : Tab w0 b n 17 Mk := hT10.below hb0
                  repeat (go_big_quiet_step (first | (go_at_call 108; with_reducible exact calls_after (rindex_c Mk _ n cap tA _ _ hn9 (Own.more (Own.of_tab hT0_) _) HA.out)) | (go_at_call 108; with_reducible exact calls_after (rindex_c Mk _ n cap tB _ _ hn9 (Own.more (Own.of_tab hT0_) _) HB.out))))
                  refine wpQuiet_nil ?_
                  rfl
                case hrun11same =>
                  intro j hj
                  match j, hj with
                  | 0, _ => exact ⟨_, _, rfl, fun a w => by simp [go_sem]; rfl⟩
                  | 1, _ => exact ⟨_, _, rfl, fun a w => by simp [go_sem]; rfl⟩
                case htail11same =>
                  intro gs w11 hb11 hblk hne
                  obtain ⟨G11_0, hg11_0⟩ := hblk 0 (by decide)
                  obtain ⟨G11_1, hg11_1⟩ := hblk 1 (by decide)
                  have hn11_0_1 := hne 0 1 (by decide) (by decide) (by decide)
                  simp only [List.drop_succ_cons, List.drop_zero, List.length_cons, List.length_nil, laySlots]
                  clear hblk hne
                  generalize gs 0 = g11_0 at *
                  generalize gs 1 = g11_1 at *
                  have B11_0 : Blk w11 _ _ := B10_0.below hb11
                  obtain ⟨z11_0, c11_0, f11_0⟩ := id B11_0
                  have B11_1 : Blk w11 _ _ := B10_1.below hb11
                  obtain ⟨z11_1, c11_1, f11_1⟩ := id B11_1
                  have B11_2 : Blk w11 _ _ := B10_2.below hb11
                  obtain ⟨z11_2, c11_2, f11_2⟩ := id B11_2
                  obtain ⟨zg11_0, cg11_0, fg11_0⟩ := id G11_0
                  have ne11_0_0 : g11_0 ≠ w.heap.size := by omega
                  have ne11_0_1 : g11_0 ≠ w1.heap.size := by omega
                  have ne11_0_2 : g11_0 ≠ wr.heap.size := by omega
                  obtain ⟨zg11_1, cg11_1, fg11_1⟩ := id G11_1
                  have ne11_1_0 : g11_1 ≠ w.heap.size := by omega
                  have ne11_1_1 : g11_1 ≠ w1.heap.size := by omega
                  have ne11_1_2 : g11_1 ≠ wr.heap.size := by omega
                  have hT11 : Tab w11 b n 17 Mk := hT10.below hb11
                  have nt11_0 : g11_0 ≠ b := by have := hT10.lt; omega
                  have nt11_1 : g11_1 ≠ b := by have := hT10.lt; omega
                  have lb11_0 : w.heap.size ≤ g11_0 := Nat.le_trans ms10 hg11_0
                  have lb11_1 : w.heap.size ≤ g11_1 := Nat.le_trans ms10 hg11_1
                  clear hg11_0 hg11_1
                  clear B10_0 z10_0 c10_0 f10_0 B10_1 z10_1 c10_1 f10_1 B10_2 z10_2 c10_2 f10_2 hT10
                  go_wp2_with fail
                  go_roundw
                  case rel => exact ⟨k + 1, by omega, by go_num, by rw [HNO.out (fun h => h.2.2 (by rw [HA.out, HB.out]))]; exact fun hn0 => ⟨b, rfl, hbb, (by repeat (with_reducible (first | assumption | apply Tab.alloc | apply Tab.drew | apply Tab.drewN | apply Tab.more | (apply Tab.far; focus (first | assumption | (apply Ne.symm; assumption) | (simp; done) | (simp <;> omega))))))⟩, (by repeat (with_reducible (first | assumption | (apply Blk.at; simp; done) | apply Blk.alloc | apply Blk.drew | apply Blk.drewN | apply Blk.more | apply Blk.put | (apply Blk.far; focus (first | assumption | (apply Ne.symm; assumption) | (simp; done) | (simp <;> omega)))))), (by repeat (with_reducible (first | assumption | (apply Blk.at; simp; done) | apply Blk.alloc | apply Blk.drew | apply Blk.drewN | apply Blk.more | apply Blk.put | (apply Blk.far; focus (first | assumption | (apply Ne.symm; assumption) | (simp; done) | (simp <;> omega)))))), (by repeat (with_reducible (first | exact Below.refl _ _ | assumption | apply ext_drew | apply ext_drewN | apply ext_alloc | apply ext_more | (refine ext_setCell ?_ (by first | assumption | (simp <;> omega)) _) | (refine ext_below ?_ (by assumption)))))⟩
                  case measure => simp [intOf]; omega
              · have hneZ : ((i : Int) == (j : Int)) = false := by simpa using (by omega : ¬ (i : Int) = (j : Int))
                obtain ⟨x, hHX⟩ : ∃ v, light (Mk i 15) = v := ⟨_, rfl⟩
                have HX := Lib.hid hHX
                clear hHX
                obtain ⟨y, hHY⟩ : ∃ v, light (Mk j 15) = v := ⟨_, rfl⟩
                have HY := Lib.hid hHY
                clear hHY
                obtain ⟨al, hHAL⟩ : ∃ v, add x y = v := ⟨_, rfl⟩
                have HAL := Lib.hid hHAL
                clear hHAL
                obtain ⟨dn, hHDN⟩ : ∃ v, (dot (sub (Mk j 9) (Mk i 9)) (sub (Mk j 10) (Mk i 10)) (sub (Mk j 11) (Mk i 11)) g1 g2 g3) = v := ⟨_, rfl⟩
                have HDN := Lib.hid hHDN
                clear hHDN
                have hd1 : -70368744177664 ≤ dn ∧ dn ≤ 70368744177664 := by rw [← HDN.out]; exact add_bd _ _
                by_cases hal0 : al = 0
                · subst hal0
                  have hT9 := hTk
                  have hblt := hTk.lt
                  have nbw : b ≠ wr.heap.size := by omega
                  have nlb : w.heap.size ≠ b := by omega
                  have lw1 : w.heap.size ≤ w1.heap.size := by omega
                  go_wp2_with fail
                  refine wp_fresh ?_
                  rintro w10 hb10
                  have B10_0 : Blk w10 (w.heap.size) _ := Blk.below (by repeat (with_reducible (first | assumption | (apply Blk.at; simp; done) | apply Blk.alloc | apply Blk.drew | apply Blk.drewN | apply Blk.more | apply Blk.put | (apply Blk.far; focus (first | assumption | (apply Ne.symm; assumption) | (simp; done) | (simp <;> omega)))))) hb10
                  obtain ⟨z10_0, c10_0, f10_0⟩ := id B10_0
                  have B10_1 : Blk w10 (w1.heap.size) _ := Blk.below (by repeat (with_reducible (first | assumption | (apply Blk.at; simp; done) | apply Blk.alloc | apply Blk.drew | apply Blk.drewN | apply Blk.more | apply Blk.put | (apply Blk.far; focus (first | assumption | (apply Ne.symm; assumption) | (simp; done) | (simp <;> omega)))))) hb10
                  obtain ⟨z10_1, c10_1, f10_1⟩ := id B10_1
                  have B10_2 : Blk w10 (wr.heap.size) _ := Blk.below (by repeat (with_reducible (first | assumption | (apply Blk.at; simp; done) | apply Blk.alloc | apply Blk.drew | apply Blk.drewN | apply Blk.more | apply Blk.put | (apply Blk.far; focus (first | assumption | (apply Ne.symm; assumption) | (simp; done) | (simp <;> omega)))))) hb10
                  try simp only [List.setIfInBounds_toArray] at B10_2
                  try simp only [List.set_cons_succ] at B10_2
                  try simp only [List.set_cons_zero] at B10_2
                  obtain ⟨z10_2, c10_2, f10_2⟩ := id B10_2
                  have hT10 : Tab w10 b n 17 Mk := ((show Tab _ b n 17 Mk from (by repeat (with_reducible (first | assumption | apply Tab.alloc | apply Tab.drew | apply Tab.drewN | apply Tab.more | (apply Tab.far; focus (first | assumption | (apply Ne.symm; assumption) | (simp; done) | (simp <;> omega)))))))).below hb10
                  have hB10 : Below w.heap.size w w10 := (by repeat (with_reducible (first | exact Below.refl _ _ | assumption | apply ext_drew | apply ext_drewN | apply ext_alloc | apply ext_more | (refine ext_setCell ?_ (by first | assumption | (simp <;> omega)) _) | (refine ext_below ?_ (by assumption)))))
                  have ms10 : w.heap.size ≤ w10.heap.size := hB10.size
                  clear hb10
                  clear hTk hT9 hO hP cp zl cl fl zp fp hL hAp htb
                  refine region_grow (A := ?A11A) 8 [10, 11] (fun _ => #[.int .i64 0]) (by kernel_rfl) (by kernel_rfl) ?hrun11A ?hq11A ?htail11A
                  case hq11A =>
                    intro w0 hb0
                    simp only [List.take_succ_cons, List.take_zero]
                    have B0_0 : Blk w0 _ _ := B10_0.below hb0
                    obtain ⟨z0_0, c0_0, f0_0⟩ := id B0_0
                    have B0_1 : Blk w0 _ _ := B10_1.below hb0
                    obtain ⟨z0_1, c0_1, f0_1⟩ := id B0_1
                    have B0_2 : Blk w0 _ _ := B10_2.below hb0
                    obtain ⟨z0_2, c0_2, f0_2⟩ := id B0_2
                    have hT0_ : Tab w0 b n 17 Mk := hT10.below hb0
                    repeat (go_big_quiet_step (first | (go_at_call 108; with_reducible exact calls_after (rindex_c Mk _ n cap tA _ _ hn9 (Own.more (Own.of_tab hT0_) _) HA.out)) | (go_at_call 108; with_reducible exact calls_after (rindex_c Mk _ n cap tB _ _ hn9 (Own.more (Own.of_tab hT0_) _) HB.out))))
                    refine wpQuiet_nil ?_
                    rfl
                  case hrun11A =>
                    intro j hj
                    match j, hj with
                    | 0, _ => exact ⟨_, _, rfl, fun a w => by simp [go_sem]; rfl⟩
                    | 1, _ => exact ⟨_, _, rfl, fun a w => by simp [go_sem]; rfl⟩
                  case htail11A =>
                    intro gs w11 hb11 hblk hne
                    obtain ⟨G11_0, hg11_0⟩ := hblk 0 (by decide)
                    obtain ⟨G11_1, hg11_1⟩ := hblk 1 (by decide)
                    have hn11_0_1 := hne 0 1 (by decide) (by decide) (by decide)
                    simp only [List.drop_succ_cons, List.drop_zero, List.length_cons, List.length_nil, laySlots]
                    clear hblk hne
                    generalize gs 0 = g11_0 at *
                    generalize gs 1 = g11_1 at *
                    have B11_0 : Blk w11 _ _ := B10_0.below hb11
                    obtain ⟨z11_0, c11_0, f11_0⟩ := id B11_0
                    have B11_1 : Blk w11 _ _ := B10_1.below hb11
                    obtain ⟨z11_1, c11_1, f11_1⟩ := id B11_1
                    have B11_2 : Blk w11 _ _ := B10_2.below hb11
                    obtain ⟨z11_2, c11_2, f11_2⟩ := id B11_2
                    obtain ⟨zg11_0, cg11_0, fg11_0⟩ := id G11_0
                    have ne11_0_0 : g11_0 ≠ w.heap.size := by omega
                    have ne11_0_1 : g11_0 ≠ w1.heap.size := by omega
                    have ne11_0_2 : g11_0 ≠ wr.heap.size := by omega
                    obtain ⟨zg11_1, cg11_1, fg11_1⟩ := id G11_1
                    have ne11_1_0 : g11_1 ≠ w.heap.size := by omega
                    have ne11_1_1 : g11_1 ≠ w1.heap.size := by omega
                    have ne11_1_2 : g11_1 ≠ wr.heap.size := by omega
                    have hT11 : Tab w11 b n 17 Mk := hT10.below hb11
                    have nt11_0 : g11_0 ≠ b := by have := hT10.lt; omega
                    have nt11_1 : g11_1 ≠ b := by have := hT10.lt; omega
                    have lb11_0 : w.heap.size ≤ g11_0 := Nat.le_trans ms10 hg11_0
                    have lb11_1 : w.heap.size ≤ g11_1 := Nat.le_trans ms10 hg11_1
                    clear hg11_0 hg11_1
                    clear B10_0 z10_0 c10_0 f10_0 B10_1 z10_1 c10_1 f10_1 B10_2 z10_2 c10_2 f10_2 hT10
                    go_wp2_with fail
                    refine wp_fresh ?_
                    rintro w12 hb12
                    have B12_0 : Blk w12 (w.heap.size) _ := Blk.below (by repeat (with_reducible (first | assumption | (apply Blk.at; simp; done) | apply Blk.alloc | apply Blk.drew | apply Blk.drewN | apply Blk.more | apply Blk.put | (apply Blk.far; focus (first | assumption | (apply Ne.symm; assumption) | (simp; done) | (simp <;> omega)))))) hb12
                    obtain ⟨z12_0, c12_0, f12_0⟩ := id B12_0
                    have B12_1 : Blk w12 (w1.heap.size) _ := Blk.below (by repeat (with_reducible (first | assumption | (apply Blk.at; simp; done) | apply Blk.alloc | apply Blk.drew | apply Blk.drewN | apply Blk.more | apply Blk.put | (apply Blk.far; focus (first | assumption | (apply Ne.symm; assumption) | (simp; done) | (simp <;> omega)))))) hb12
                    obtain ⟨z12_1, c12_1, f12_1⟩ := id B12_1
                    have B12_2 : Blk w12 (wr.heap.size) _ := Blk.below (by repeat (with_reducible (first | assumption | (apply Blk.at; simp; done) | apply Blk.alloc | apply Blk.drew | apply Blk.drewN | apply Blk.more | apply Blk.put | (apply Blk.far; focus (first | assumption | (apply Ne.symm; assumption) | (simp; done) | (simp <;> omega)))))) hb12
                    obtain ⟨z12_2, c12_2, f12_2⟩ := id B12_2
                    have B12_3 : Blk w12 (g11_0) _ := Blk.below (by repeat (with_reducible (first | assumption | (apply Blk.at; simp; done) | apply Blk.alloc | apply Blk.drew | apply Blk.drewN | apply Blk.more | apply Blk.put | (apply Blk.far; focus (first | assumption | (apply Ne.symm; assumption) | (simp; done) | (simp <;> omega)))))) hb12
                    try simp only [List.setIfInBounds_toArray] at B12_3
                    try simp only [List.set_cons_succ] at B12_3
                    try simp only [List.set_cons_zero] at B12_3
                    obtain ⟨z12_3, c12_3, f12_3⟩ := id B12_3
                    have B12_4 : Blk w12 (g11_1) _ := Blk.below (by repeat (with_reducible (first | assumption | (apply Blk.at; simp; done) | apply Blk.alloc | apply Blk.drew | apply Blk.drewN | apply Blk.more | apply Blk.put | (apply Blk.far; focus (first | assumption | (apply Ne.symm; assumption) | (simp; done) | (simp <;> omega)))))) hb12
                    try simp only [List.setIfInBounds_toArray] at B12_4
                    try simp only [List.set_cons_succ] at B12_4
                    try simp only [List.set_cons_zero] at B12_4
                    obtain ⟨z12_4, c12_4, f12_4⟩ := id B12_4
                    have hT12 : Tab w12 b n 17 Mk := ((show Tab _ b n 17 Mk from (by repeat (with_reducible (first | assumption | apply Tab.alloc | apply Tab.drew | apply Tab.drewN | apply Tab.more | (apply Tab.far; focus (first | assumption | (apply Ne.symm; assumption) | (simp; done) | (simp <;> omega)))))))).below hb12
                    clear B11_0 z11_0 c11_0 f11_0 B11_1 z11_1 c11_1 f11_1 B11_2 z11_2 c11_2 f11_2 hT11 G11_0 zg11_0 cg11_0 fg11_0 G11_1 zg11_1 cg11_1 fg11_1
                    have hB12 : Below w.heap.size w w12 := (by repeat (with_reducible (first | exact Below.refl _ _ | assumption | apply ext_drew | apply ext_drewN | apply ext_alloc | apply ext_more | (refine ext_setCell ?_ (by first | assumption | (simp <;> omega)) _) | (refine ext_below ?_ (by assumption)))))
                    have ms12 : w.heap.size ≤ w12.heap.size := hB12.size
                    clear hb11 hb12
                    refine region_grow (A := ?A13A) 10 [12, 13] (fun _ => #[.int .i64 0]) (by kernel_rfl) (by kernel_rfl) ?hrun13A ?hq13A ?htail13A
                    case hq13A =>
                      intro w0 hb0
                      simp only [List.take_succ_cons, List.take_zero]
                      have B0_0 : Blk w0 _ _ := B12_0.below hb0
                      obtain ⟨z0_0, c0_0, f0_0⟩ := id B0_0
                      have B0_1 : Blk w0 _ _ := B12_1.below hb0
                      obtain ⟨z0_1, c0_1, f0_1⟩ := id B0_1
                      have B0_2 : Blk w0 _ _ := B12_2.below hb0
                      obtain ⟨z0_2, c0_2, f0_2⟩ := id B0_2
                      have B0_3 : Blk w0 _ _ := B12_3.below hb0
                      obtain ⟨z0_3, c0_3, f0_3⟩ := id B0_3
                      have B0_4 : Blk w0 _ _ := B12_4.below hb0
                      obtain ⟨z0_4, c0_4, f0_4⟩ := id B0_4
                      have hT0_ : Tab w0 b n 17 Mk := hT12.below hb0
                      have zt := hT0_.lt
                      iterate 3 go_big_quiet_step (fail)
                      go_big_quiet_want
                      refine quiet_body hT0_ hi (.tmp 62) rfl rfl ?_
                      simp only [Act.put, List.setIfInBounds_toArray, List.set_cons_zero, List.set_cons_succ]
                      go_big_quiet_on
                      go_big_quiet_step ((go_at_call 109; exact calls_after (calls_v (rlight_c _ _ _ _ _ _ _ _ _ _ _ _ _ _ _ _ _ _) HX.out)))
                      iterate 3 go_big_quiet_step (fail)
                      go_big_quiet_want
                      refine quiet_body hT0_ hj (.tmp 67) rfl rfl ?_
                      simp only [Act.put, List.setIfInBounds_toArray, List.set_cons_zero, List.set_cons_succ]
                      go_big_quiet_on
                      go_big_quiet_step ((go_at_call 109; exact calls_after (calls_v (rlight_c _ _ _ _ _ _ _ _ _ _ _ _ _ _ _ _ _ _) HY.out)))
                      refine wpQuiet_nil ?_
                      rfl
                    case hrun13A =>
                      intro j hj
                      match j, hj with
                      | 0, _ => exact ⟨_, _, rfl, fun a w => by simp [go_sem]; rfl⟩
                      | 1, _ => exact ⟨_, _, rfl, fun a w => by simp [go_sem]; rfl⟩
                    case htail13A =>
                      intro gs w13 hb13 hblk hne
                      obtain ⟨G13_0, hg13_0⟩ := hblk 0 (by decide)
                      obtain ⟨G13_1, hg13_1⟩ := hblk 1 (by decide)
                      have hn13_0_1 := hne 0 1 (by decide) (by decide) (by decide)
                      simp only [List.drop_succ_cons, List.drop_zero, List.length_cons, List.length_nil, laySlots]
                      clear hblk hne
                      generalize gs 0 = g13_0 at *
                      generalize gs 1 = g13_1 at *
                      have B13_0 : Blk w13 _ _ := B12_0.below hb13
                      obtain ⟨z13_0, c13_0, f13_0⟩ := id B13_0
                      have B13_1 : Blk w13 _ _ := B12_1.below hb13
                      obtain ⟨z13_1, c13_1, f13_1⟩ := id B13_1
                      have B13_2 : Blk w13 _ _ := B12_2.below hb13
                      obtain ⟨z13_2, c13_2, f13_2⟩ := id B13_2
                      have B13_3 : Blk w13 _ _ := B12_3.below hb13
                      obtain ⟨z13_3, c13_3, f13_3⟩ := id B13_3
                      have B13_4 : Blk w13 _ _ := B12_4.below hb13
                      obtain ⟨z13_4, c13_4, f13_4⟩ := id B13_4
                      obtain ⟨zg13_0, cg13_0, fg13_0⟩ := id G13_0
                      have ne13_0_0 : g13_0 ≠ w.heap.size := by omega
                      have ne13_0_1 : g13_0 ≠ w1.heap.size := by omega
                      have ne13_0_2 : g13_0 ≠ wr.heap.size := by omega
                      have ne13_0_3 : g13_0 ≠ g11_0 := by omega
                      have ne13_0_4 : g13_0 ≠ g11_1 := by omega
                      obtain ⟨zg13_1, cg13_1, fg13_1⟩ := id G13_1
                      have ne13_1_0 : g13_1 ≠ w.heap.size := by omega
                      have ne13_1_1 : g13_1 ≠ w1.heap.size := by omega
                      have ne13_1_2 : g13_1 ≠ wr.heap.size := by omega
                      have ne13_1_3 : g13_1 ≠ g11_0 := by omega
                      have ne13_1_4 : g13_1 ≠ g11_1 := by omega
                      have hT13 : Tab w13 b n 17 Mk := hT12.below hb13
                      have nt13_0 : g13_0 ≠ b := by have := hT12.lt; omega
                      have nt13_1 : g13_1 ≠ b := by have := hT12.lt; omega
                      have lb13_0 : w.heap.size ≤ g13_0 := Nat.le_trans ms12 hg13_0
                      have lb13_1 : w.heap.size ≤ g13_1 := Nat.le_trans ms12 hg13_1
                      clear hg13_0 hg13_1
                      clear B12_0 z12_0 c12_0 f12_0 B12_1 z12_1 c12_1 f12_1 B12_2 z12_2 c12_2 f12_2 B12_3 z12_3 c12_3 f12_3 B12_4 z12_4 c12_4 f12_4 hT12
                      go_wp2_with fail
                      refine (calls_v (radd_c _ _ _) HAL.out).mono ?_
                      rintro e w' ⟨rfl, rfl⟩
                      go_wp2_with fail
                      refine wp_fresh ?_
                      rintro w14 hb14
                      have B14_0 : Blk w14 (w.heap.size) _ := Blk.below (by repeat (with_reducible (first | assumption | (apply Blk.at; simp; done) | apply Blk.alloc | apply Blk.drew | apply Blk.drewN | apply Blk.more | apply Blk.put | (apply Blk.far; focus (first | assumption | (apply Ne.symm; assumption) | (simp; done) | (simp <;> omega)))))) hb14
                      obtain ⟨z14_0, c14_0, f14_0⟩ := id B14_0
                      have B14_1 : Blk w14 (w1.heap.size) _ := Blk.below (by repeat (with_reducible (first | assumption | (apply Blk.at; simp; done) | apply Blk.alloc | apply Blk.drew | apply Blk.drewN | apply Blk.more | apply Blk.put | (apply Blk.far; focus (first | assumption | (apply Ne.symm; assumption) | (simp; done) | (simp <;> omega)))))) hb14
                      obtain ⟨z14_1, c14_1, f14_1⟩ := id B14_1
                      have B14_2 : Blk w14 (wr.heap.size) _ := Blk.below (by repeat (with_reducible (first | assumption | (apply Blk.at; simp; done) | apply Blk.alloc | apply Blk.drew | apply Blk.drewN | apply Blk.more | apply Blk.put | (apply Blk.far; focus (first | assumption | (apply Ne.symm; assumption) | (simp; done) | (simp <;> omega)))))) hb14
                      obtain ⟨z14_2, c14_2, f14_2⟩ := id B14_2
                      have B14_3 : Blk w14 (g11_0) _ := Blk.below (by repeat (with_reducible (first | assumption | (apply Blk.at; simp; done) | apply Blk.alloc | apply Blk.drew | apply Blk.drewN | apply Blk.more | apply Blk.put | (apply Blk.far; focus (first | assumption | (apply Ne.symm; assumption) | (simp; done) | (simp <;> omega)))))) hb14
                      obtain ⟨z14_3, c14_3, f14_3⟩ := id B14_3
                      have B14_4 : Blk w14 (g11_1) _ := Blk.below (by repeat (with_reducible (first | assumption | (apply Blk.at; simp; done) | apply Blk.alloc | apply Blk.drew | apply Blk.drewN | apply Blk.more | apply Blk.put | (apply Blk.far; focus (first | assumption | (apply Ne.symm; assumption) | (simp; done) | (simp <;> omega)))))) hb14
                      obtain ⟨z14_4, c14_4, f14_4⟩ := id B14_4
                      have B14_5 : Blk w14 (g13_0) _ := Blk.below (by repeat (with_reducible (first | assumption | (apply Blk.at; simp; done) | apply Blk.alloc | apply Blk.drew | apply Blk.drewN | apply Blk.more | apply Blk.put | (apply Blk.far; focus (first | assumption | (apply Ne.symm; assumption) | (simp; done) | (simp <;> omega)))))) hb14
                      try simp only [List.setIfInBounds_toArray] at B14_5
                      try simp only [List.set_cons_succ] at B14_5
                      try simp only [List.set_cons_zero] at B14_5
                      obtain ⟨z14_5, c14_5, f14_5⟩ := id B14_5
                      have B14_6 : Blk w14 (g13_1) _ := Blk.below (by repeat (with_reducible (first | assumption | (apply Blk.at; simp; done) | apply Blk.alloc | apply Blk.drew | apply Blk.drewN | apply Blk.more | apply Blk.put | (apply Blk.far; focus (first | assumption | (apply Ne.symm; assumption) | (simp; done) | (simp <;> omega)))))) hb14
                      try simp only [List.setIfInBounds_toArray] at B14_6
                      try simp only [List.set_cons_succ] at B14_6
                      try simp only [List.set_cons_zero] at B14_6
                      obtain ⟨z14_6, c14_6, f14_6⟩ := id B14_6
                      have hT14 : Tab w14 b n 17 Mk := ((show Tab _ b n 17 Mk from (by repeat (with_reducible (first | assumption | apply Tab.alloc | apply Tab.drew | apply Tab.drewN | apply Tab.more | (apply Tab.far; focus (first | assumption | (apply Ne.symm; assumption) | (simp; done) | (simp <;> omega)))))))).below hb14
                      clear B13_0 z13_0 c13_0 f13_0 B13_1 z13_1 c13_1 f13_1 B13_2 z13_2 c13_2 f13_2 B13_3 z13_3 c13_3 f13_3 B13_4 z13_4 c13_4 f13_4 hT13 G13_0 zg13_0 cg13_0 fg13_0 G13_1 zg13_1 cg13_1 fg13_1
                      have ak9 := hT14.cell hj (j := 9) (by decide)
                      have ai9 := hT14.cell hi (j := 9) (by decide)
                      have ak10 := hT14.cell hj (j := 10) (by decide)
                      have ai10 := hT14.cell hi (j := 10) (by decide)
                      have ak11 := hT14.cell hj (j := 11) (by decide)
                      have ai11 := hT14.cell hi (j := 11) (by decide)
                      have az := hT14.lt
                      go_wp2_with fail
                      refine region_quiet_but 14 (by kernel_rfl) (by kernel_rfl) ?_
                      simp only [List.take_succ_cons, List.take_zero, List.drop_succ_cons, List.drop_zero]
                      repeat (go_big_quiet_step (first | (go_at_call 61; exact calls_after (rminus_c _ _ _ _ _ _ _)) | (go_at_call 65; exact calls_after (calls_v (rdot_c _ _ _ _ _ _ _) HDN.out))))
                      refine wpQuiet_nil ?_
                      rintro w15 hw15
                      have hb15 := after_below hw15
                      clear hw15
                      have B15_0 : Blk w15 (w.heap.size) _ := Blk.below (by repeat (with_reducible (first | assumption | (apply Blk.at; simp; done) | apply Blk.alloc | apply Blk.drew | apply Blk.drewN | apply Blk.more | apply Blk.put | (apply Blk.far; focus (first | assumption | (apply Ne.symm; assumption) | (simp; done) | (simp <;> omega)))))) hb15
                      obtain ⟨z15_0, c15_0, f15_0⟩ := id B15_0
                      have B15_1 : Blk w15 (w1.heap.size) _ := Blk.below (by repeat (with_reducible (first | assumption | (apply Blk.at; simp; done) | apply Blk.alloc | apply Blk.drew | apply Blk.drewN | apply Blk.more | apply Blk.put | (apply Blk.far; focus (first | assumption | (apply Ne.symm; assumption) | (simp; done) | (simp <;> omega)))))) hb15
                      obtain ⟨z15_1, c15_1, f15_1⟩ := id B15_1
                      have B15_2 : Blk w15 (wr.heap.size) _ := Blk.below (by repeat (with_reducible (first | assumption | (apply Blk.at; simp; done) | apply Blk.alloc | apply Blk.drew | apply Blk.drewN | apply Blk.more | apply Blk.put | (apply Blk.far; focus (first | assumption | (apply Ne.symm; assumption) | (simp; done) | (simp <;> omega)))))) hb15
                      obtain ⟨z15_2, c15_2, f15_2⟩ := id B15_2
                      have B15_3 : Blk w15 (g11_0) _ := Blk.below (by repeat (with_reducible (first | assumption | (apply Blk.at; simp; done) | apply Blk.alloc | apply Blk.drew | apply Blk.drewN | apply Blk.more | apply Blk.put | (apply Blk.far; focus (first | assumption | (apply Ne.symm; assumption) | (simp; done) | (simp <;> omega)))))) hb15
                      obtain ⟨z15_3, c15_3, f15_3⟩ := id B15_3
                      have B15_4 : Blk w15 (g11_1) _ := Blk.below (by repeat (with_reducible (first | assumption | (apply Blk.at; simp; done) | apply Blk.alloc | apply Blk.drew | apply Blk.drewN | apply Blk.more | apply Blk.put | (apply Blk.far; focus (first | assumption | (apply Ne.symm; assumption) | (simp; done) | (simp <;> omega)))))) hb15
                      obtain ⟨z15_4, c15_4, f15_4⟩ := id B15_4
                      have B15_5 : Blk w15 (g13_0) _ := Blk.below (by repeat (with_reducible (first | assumption | (apply Blk.at; simp; done) | apply Blk.alloc | apply Blk.drew | apply Blk.drewN | apply Blk.more | apply Blk.put | (apply Blk.far; focus (first | assumption | (apply Ne.symm; assumption) | (simp; done) | (simp <;> omega)))))) hb15
                      obtain ⟨z15_5, c15_5, f15_5⟩ := id B15_5
                      have B15_6 : Blk w15 (g13_1) _ := Blk.below (by repeat (with_reducible (first | assumption | (apply Blk.at; simp; done) | apply Blk.alloc | apply Blk.drew | apply Blk.drewN | apply Blk.more | apply Blk.put | (apply Blk.far; focus (first | assumption | (apply Ne.symm; assumption) | (simp; done) | (simp <;> omega)))))) hb15
                      obtain ⟨z15_6, c15_6, f15_6⟩ := id B15_6
                      have hT15 : Tab w15 b n 17 Mk := ((show Tab _ b n 17 Mk from (by repeat (with_reducible (first | assumption | apply Tab.alloc | apply Tab.drew | apply Tab.drewN | apply Tab.more | (apply Tab.far; focus (first | assumption | (apply Ne.symm; assumption) | (simp; done) | (simp <;> omega)))))))).below hb15
                      clear B14_0 z14_0 c14_0 f14_0 B14_1 z14_1 c14_1 f14_1 B14_2 z14_2 c14_2 f14_2 B14_3 z14_3 c14_3 f14_3 B14_4 z14_4 c14_4 f14_4 B14_5 z14_5 c14_5 f14_5 B14_6 z14_6 c14_6 f14_6 hT14
                      clear ak9 ai9 ak10 ai10 ak11 ai11
                      go_wp2_with fail
                      go_roundw
                      case rel => exact ⟨k + 1, by omega, by go_num, by rw [HGO.out i j HA.out HB.out hne, push_none HX.out HY.out HAL.out HDN.out (Or.inl rfl)]; exact fun hn0 => ⟨b, rfl, hbb, (by repeat (with_reducible (first | assumption | apply Tab.alloc | apply Tab.drew | apply Tab.drewN | apply Tab.more | (apply Tab.far; focus (first | assumption | (apply Ne.symm; assumption) | (simp; done) | (simp <;> omega))))))⟩, (by repeat (with_reducible (first | assumption | (apply Blk.at; simp; done) | apply Blk.alloc | apply Blk.drew | apply Blk.drewN | apply Blk.more | apply Blk.put | (apply Blk.far; focus (first | assumption | (apply Ne.symm; assumption) | (simp; done) | (simp <;> omega)))))), (by repeat (with_reducible (first | assumption | (apply Blk.at; simp; done) | apply Blk.alloc | apply Blk.drew | apply Blk.drewN | apply Blk.more | apply Blk.put | (apply Blk.far; focus (first | assumption | (apply Ne.symm; assumption) | (simp; done) | (simp <;> omega)))))), (by repeat (with_reducible (first | exact Below.refl _ _ | assumption | apply ext_drew | apply ext_drewN | apply ext_alloc | apply ext_more | (refine ext_setCell ?_ (by first | assumption | (simp <;> omega)) _) | (refine ext_below ?_ (by assumption)))))⟩
                      case measure => simp [intOf]; omega
                have h1 : (al == 0) = false := by simpa using hal0
                clear hal0
                by_cases h2 : 0 ≤ dn
                · have hT9 := hTk
                  have hblt := hTk.lt
                  have nbw : b ≠ wr.heap.size := by omega
                  have nlb : w.heap.size ≠ b := by omega
                  have lw1 : w.heap.size ≤ w1.heap.size := by omega
                  go_wp2_with fail
                  refine wp_fresh ?_
                  rintro w10 hb10
                  have B10_0 : Blk w10 (w.heap.size) _ := Blk.below (by repeat (with_reducible (first | assumption | (apply Blk.at; simp; done) | apply Blk.alloc | apply Blk.drew | apply Blk.drewN | apply Blk.more | apply Blk.put | (apply Blk.far; focus (first | assumption | (apply Ne.symm; assumption) | (simp; done) | (simp <;> omega)))))) hb10
                  obtain ⟨z10_0, c10_0, f10_0⟩ := id B10_0
                  have B10_1 : Blk w10 (w1.heap.size) _ := Blk.below (by repeat (with_reducible (first | assumption | (apply Blk.at; simp; done) | apply Blk.alloc | apply Blk.drew | apply Blk.drewN | apply Blk.more | apply Blk.put | (apply Blk.far; focus (first | assumption | (apply Ne.symm; assumption) | (simp; done) | (simp <;> omega)))))) hb10
                  obtain ⟨z10_1, c10_1, f10_1⟩ := id B10_1
                  have B10_2 : Blk w10 (wr.heap.size) _ := Blk.below (by repeat (with_reducible (first | assumption | (apply Blk.at; simp; done) | apply Blk.alloc | apply Blk.drew | apply Blk.drewN | apply Blk.more | apply Blk.put | (apply Blk.far; focus (first | assumption | (apply Ne.symm; assumption) | (simp; done) | (simp <;> omega)))))) hb10
                  try simp only [List.setIfInBounds_toArray] at B10_2
                  try simp only [List.set_cons_succ] at B10_2
                  try simp only [List.set_cons_zero] at B10_2
                  obtain ⟨z10_2, c10_2, f10_2⟩ := id B10_2
                  have hT10 : Tab w10 b n 17 Mk := ((show Tab _ b n 17 Mk from (by repeat (with_reducible (first | assumption | apply Tab.alloc | apply Tab.drew | apply Tab.drewN | apply Tab.more | (apply Tab.far; focus (first | assumption | (apply Ne.symm; assumption) | (simp; done) | (simp <;> omega)))))))).below hb10
                  have hB10 : Below w.heap.size w w10 := (by repeat (with_reducible (first | exact Below.refl _ _ | assumption | apply ext_drew | apply ext_drewN | apply ext_alloc | apply ext_more | (refine ext_setCell ?_ (by first | assumption | (simp <;> omega)) _) | (refine ext_below ?_ (by assumption)))))
                  have ms10 : w.heap.size ≤ w10.heap.size := hB10.size
                  clear hb10
                  clear hTk hT9 hO hP cp zl cl fl zp fp hL hAp htb
                  refine region_grow (A := ?A11B) 8 [10, 11] (fun _ => #[.int .i64 0]) (by kernel_rfl) (by kernel_rfl) ?hrun11B ?hq11B ?htail11B
                  case hq11B =>
                    intro w0 hb0
                    simp only [List.take_succ_cons, List.take_zero]
                    have B0_0 : Blk w0 _ _ := B10_0.below hb0
                    obtain ⟨z0_0, c0_0, f0_0⟩ := id B0_0
                    have B0_1 : Blk w0 _ _ := B10_1.below hb0
                    obtain ⟨z0_1, c0_1, f0_1⟩ := id B0_1
                    have B0_2 : Blk w0 _ _ := B10_2.below hb0
                    obtain ⟨z0_2, c0_2, f0_2⟩ := id B0_2
                    have hT0_ : Tab w0 b n 17 Mk := hT10.below hb0
                    repeat (go_big_quiet_step (first | (go_at_call 108; with_reducible exact calls_after (rindex_c Mk _ n cap tA _ _ hn9 (Own.more (Own.of_tab hT0_) _) HA.out)) | (go_at_call 108; with_reducible exact calls_after (rindex_c Mk _ n cap tB _ _ hn9 (Own.more (Own.of_tab hT0_) _) HB.out))))
                    refine wpQuiet_nil ?_
                    rfl
                  case hrun11B =>
                    intro j hj
                    match j, hj with
                    | 0, _ => exact ⟨_, _, rfl, fun a w => by simp [go_sem]; rfl⟩
                    | 1, _ => exact ⟨_, _, rfl, fun a w => by simp [go_sem]; rfl⟩
                  case htail11B =>
                    intro gs w11 hb11 hblk hne
                    obtain ⟨G11_0, hg11_0⟩ := hblk 0 (by decide)
                    obtain ⟨G11_1, hg11_1⟩ := hblk 1 (by decide)
                    have hn11_0_1 := hne 0 1 (by decide) (by decide) (by decide)
                    simp only [List.drop_succ_cons, List.drop_zero, List.length_cons, List.length_nil, laySlots]
                    clear hblk hne
                    generalize gs 0 = g11_0 at *
                    generalize gs 1 = g11_1 at *
                    have B11_0 : Blk w11 _ _ := B10_0.below hb11
                    obtain ⟨z11_0, c11_0, f11_0⟩ := id B11_0
                    have B11_1 : Blk w11 _ _ := B10_1.below hb11
                    obtain ⟨z11_1, c11_1, f11_1⟩ := id B11_1
                    have B11_2 : Blk w11 _ _ := B10_2.below hb11
                    obtain ⟨z11_2, c11_2, f11_2⟩ := id B11_2
                    obtain ⟨zg11_0, cg11_0, fg11_0⟩ := id G11_0
                    have ne11_0_0 : g11_0 ≠ w.heap.size := by omega
                    have ne11_0_1 : g11_0 ≠ w1.heap.size := by omega
                    have ne11_0_2 : g11_0 ≠ wr.heap.size := by omega
                    obtain ⟨zg11_1, cg11_1, fg11_1⟩ := id G11_1
                    have ne11_1_0 : g11_1 ≠ w.heap.size := by omega
                    have ne11_1_1 : g11_1 ≠ w1.heap.size := by omega
                    have ne11_1_2 : g11_1 ≠ wr.heap.size := by omega
                    have hT11 : Tab w11 b n 17 Mk := hT10.below hb11
                    have nt11_0 : g11_0 ≠ b := by have := hT10.lt; omega
                    have nt11_1 : g11_1 ≠ b := by have := hT10.lt; omega
                    have lb11_0 : w.heap.size ≤ g11_0 := Nat.le_trans ms10 hg11_0
                    have lb11_1 : w.heap.size ≤ g11_1 := Nat.le_trans ms10 hg11_1
                    clear hg11_0 hg11_1
                    clear B10_0 z10_0 c10_0 f10_0 B10_1 z10_1 c10_1 f10_1 B10_2 z10_2 c10_2 f10_2 hT10
                    go_wp2_with fail
                    refine wp_fresh ?_
                    rintro w12 hb12
                    have B12_0 : Blk w12 (w.heap.size) _ := Blk.below (by repeat (with_reducible (first | assumption | (apply Blk.at; simp; done) | apply Blk.alloc | apply Blk.drew | apply Blk.drewN | apply Blk.more | apply Blk.put | (apply Blk.far; focus (first | assumption | (apply Ne.symm; assumption) | (simp; done) | (simp <;> omega)))))) hb12
                    obtain ⟨z12_0, c12_0, f12_0⟩ := id B12_0
                    have B12_1 : Blk w12 (w1.heap.size) _ := Blk.below (by repeat (with_reducible (first | assumption | (apply Blk.at; simp; done) | apply Blk.alloc | apply Blk.drew | apply Blk.drewN | apply Blk.more | apply Blk.put | (apply Blk.far; focus (first | assumption | (apply Ne.symm; assumption) | (simp; done) | (simp <;> omega)))))) hb12
                    obtain ⟨z12_1, c12_1, f12_1⟩ := id B12_1
                    have B12_2 : Blk w12 (wr.heap.size) _ := Blk.below (by repeat (with_reducible (first | assumption | (apply Blk.at; simp; done) | apply Blk.alloc | apply Blk.drew | apply Blk.drewN | apply Blk.more | apply Blk.put | (apply Blk.far; focus (first | assumption | (apply Ne.symm; assumption) | (simp; done) | (simp <;> omega)))))) hb12
                    obtain ⟨z12_2, c12_2, f12_2⟩ := id B12_2
                    have B12_3 : Blk w12 (g11_0) _ := Blk.below (by repeat (with_reducible (first | assumption | (apply Blk.at; simp; done) | apply Blk.alloc | apply Blk.drew | apply Blk.drewN | apply Blk.more | apply Blk.put | (apply Blk.far; focus (first | assumption | (apply Ne.symm; assumption) | (simp; done) | (simp <;> omega)))))) hb12
                    try simp only [List.setIfInBounds_toArray] at B12_3
                    try simp only [List.set_cons_succ] at B12_3
                    try simp only [List.set_cons_zero] at B12_3
                    obtain ⟨z12_3, c12_3, f12_3⟩ := id B12_3
                    have B12_4 : Blk w12 (g11_1) _ := Blk.below (by repeat (with_reducible (first | assumption | (apply Blk.at; simp; done) | apply Blk.alloc | apply Blk.drew | apply Blk.drewN | apply Blk.more | apply Blk.put | (apply Blk.far; focus (first | assumption | (apply Ne.symm; assumption) | (simp; done) | (simp <;> omega)))))) hb12
                    try simp only [List.setIfInBounds_toArray] at B12_4
                    try simp only [List.set_cons_succ] at B12_4
                    try simp only [List.set_cons_zero] at B12_4
                    obtain ⟨z12_4, c12_4, f12_4⟩ := id B12_4
                    have hT12 : Tab w12 b n 17 Mk := ((show Tab _ b n 17 Mk from (by repeat (with_reducible (first | assumption | apply Tab.alloc | apply Tab.drew | apply Tab.drewN | apply Tab.more | (apply Tab.far; focus (first | assumption | (apply Ne.symm; assumption) | (simp; done) | (simp <;> omega)))))))).below hb12
                    clear B11_0 z11_0 c11_0 f11_0 B11_1 z11_1 c11_1 f11_1 B11_2 z11_2 c11_2 f11_2 hT11 G11_0 zg11_0 cg11_0 fg11_0 G11_1 zg11_1 cg11_1 fg11_1
                    have hB12 : Below w.heap.size w w12 := (by repeat (with_reducible (first | exact Below.refl _ _ | assumption | apply ext_drew | apply ext_drewN | apply ext_alloc | apply ext_more | (refine ext_setCell ?_ (by first | assumption | (simp <;> omega)) _) | (refine ext_below ?_ (by assumption)))))
                    have ms12 : w.heap.size ≤ w12.heap.size := hB12.size
                    clear hb11 hb12
                    refine region_grow (A := ?A13B) 10 [12, 13] (fun _ => #[.int .i64 0]) (by kernel_rfl) (by kernel_rfl) ?hrun13B ?hq13B ?htail13B
                    case hq13B =>
                      intro w0 hb0
                      simp only [List.take_succ_cons, List.take_zero]
                      have B0_0 : Blk w0 _ _ := B12_0.below hb0
                      obtain ⟨z0_0, c0_0, f0_0⟩ := id B0_0
                      have B0_1 : Blk w0 _ _ := B12_1.below hb0
                      obtain ⟨z0_1, c0_1, f0_1⟩ := id B0_1
                      have B0_2 : Blk w0 _ _ := B12_2.below hb0
                      obtain ⟨z0_2, c0_2, f0_2⟩ := id B0_2
                      have B0_3 : Blk w0 _ _ := B12_3.below hb0
                      obtain ⟨z0_3, c0_3, f0_3⟩ := id B0_3
                      have B0_4 : Blk w0 _ _ := B12_4.below hb0
                      obtain ⟨z0_4, c0_4, f0_4⟩ := id B0_4
                      have hT0_ : Tab w0 b n 17 Mk := hT12.below hb0
                      have zt := hT0_.lt
                      iterate 3 go_big_quiet_step (fail)
                      go_big_quiet_want
                      refine quiet_body hT0_ hi (.tmp 62) rfl rfl ?_
                      simp only [Act.put, List.setIfInBounds_toArray, List.set_cons_zero, List.set_cons_succ]
                      go_big_quiet_on
                      go_big_quiet_step ((go_at_call 109; exact calls_after (calls_v (rlight_c _ _ _ _ _ _ _ _ _ _ _ _ _ _ _ _ _ _) HX.out)))
                      iterate 3 go_big_quiet_step (fail)
                      go_big_quiet_want
                      refine quiet_body hT0_ hj (.tmp 67) rfl rfl ?_
                      simp only [Act.put, List.setIfInBounds_toArray, List.set_cons_zero, List.set_cons_succ]
                      go_big_quiet_on
                      go_big_quiet_step ((go_at_call 109; exact calls_after (calls_v (rlight_c _ _ _ _ _ _ _ _ _ _ _ _ _ _ _ _ _ _) HY.out)))
                      refine wpQuiet_nil ?_
                      rfl
                    case hrun13B =>
                      intro j hj
                      match j, hj with
                      | 0, _ => exact ⟨_, _, rfl, fun a w => by simp [go_sem]; rfl⟩
                      | 1, _ => exact ⟨_, _, rfl, fun a w => by simp [go_sem]; rfl⟩
                    case htail13B =>
                      intro gs w13 hb13 hblk hne
                      obtain ⟨G13_0, hg13_0⟩ := hblk 0 (by decide)
                      obtain ⟨G13_1, hg13_1⟩ := hblk 1 (by decide)
                      have hn13_0_1 := hne 0 1 (by decide) (by decide) (by decide)
                      simp only [List.drop_succ_cons, List.drop_zero, List.length_cons, List.length_nil, laySlots]
                      clear hblk hne
                      generalize gs 0 = g13_0 at *
                      generalize gs 1 = g13_1 at *
                      have B13_0 : Blk w13 _ _ := B12_0.below hb13
                      obtain ⟨z13_0, c13_0, f13_0⟩ := id B13_0
                      have B13_1 : Blk w13 _ _ := B12_1.below hb13
                      obtain ⟨z13_1, c13_1, f13_1⟩ := id B13_1
                      have B13_2 : Blk w13 _ _ := B12_2.below hb13
                      obtain ⟨z13_2, c13_2, f13_2⟩ := id B13_2
                      have B13_3 : Blk w13 _ _ := B12_3.below hb13
                      obtain ⟨z13_3, c13_3, f13_3⟩ := id B13_3
                      have B13_4 : Blk w13 _ _ := B12_4.below hb13
                      obtain ⟨z13_4, c13_4, f13_4⟩ := id B13_4
                      obtain ⟨zg13_0, cg13_0, fg13_0⟩ := id G13_0
                      have ne13_0_0 : g13_0 ≠ w.heap.size := by omega
                      have ne13_0_1 : g13_0 ≠ w1.heap.size := by omega
                      have ne13_0_2 : g13_0 ≠ wr.heap.size := by omega
                      have ne13_0_3 : g13_0 ≠ g11_0 := by omega
                      have ne13_0_4 : g13_0 ≠ g11_1 := by omega
                      obtain ⟨zg13_1, cg13_1, fg13_1⟩ := id G13_1
                      have ne13_1_0 : g13_1 ≠ w.heap.size := by omega
                      have ne13_1_1 : g13_1 ≠ w1.heap.size := by omega
                      have ne13_1_2 : g13_1 ≠ wr.heap.size := by omega
                      have ne13_1_3 : g13_1 ≠ g11_0 := by omega
                      have ne13_1_4 : g13_1 ≠ g11_1 := by omega
                      have hT13 : Tab w13 b n 17 Mk := hT12.below hb13
                      have nt13_0 : g13_0 ≠ b := by have := hT12.lt; omega
                      have nt13_1 : g13_1 ≠ b := by have := hT12.lt; omega
                      have lb13_0 : w.heap.size ≤ g13_0 := Nat.le_trans ms12 hg13_0
                      have lb13_1 : w.heap.size ≤ g13_1 := Nat.le_trans ms12 hg13_1
                      clear hg13_0 hg13_1
                      clear B12_0 z12_0 c12_0 f12_0 B12_1 z12_1 c12_1 f12_1 B12_2 z12_2 c12_2 f12_2 B12_3 z12_3 c12_3 f12_3 B12_4 z12_4 c12_4 f12_4 hT12
                      go_wp2_with fail
                      refine (calls_v (radd_c _ _ _) HAL.out).mono ?_
                      rintro e w' ⟨rfl, rfl⟩
                      go_wp2_with fail
                      refine wp_fresh ?_
                      rintro w14 hb14
                      have B14_0 : Blk w14 (w.heap.size) _ := Blk.below (by repeat (with_reducible (first | assumption | (apply Blk.at; simp; done) | apply Blk.alloc | apply Blk.drew | apply Blk.drewN | apply Blk.more | apply Blk.put | (apply Blk.far; focus (first | assumption | (apply Ne.symm; assumption) | (simp; done) | (simp <;> omega)))))) hb14
                      obtain ⟨z14_0, c14_0, f14_0⟩ := id B14_0
                      have B14_1 : Blk w14 (w1.heap.size) _ := Blk.below (by repeat (with_reducible (first | assumption | (apply Blk.at; simp; done) | apply Blk.alloc | apply Blk.drew | apply Blk.drewN | apply Blk.more | apply Blk.put | (apply Blk.far; focus (first | assumption | (apply Ne.symm; assumption) | (simp; done) | (simp <;> omega)))))) hb14
                      obtain ⟨z14_1, c14_1, f14_1⟩ := id B14_1
                      have B14_2 : Blk w14 (wr.heap.size) _ := Blk.below (by repeat (with_reducible (first | assumption | (apply Blk.at; simp; done) | apply Blk.alloc | apply Blk.drew | apply Blk.drewN | apply Blk.more | apply Blk.put | (apply Blk.far; focus (first | assumption | (apply Ne.symm; assumption) | (simp; done) | (simp <;> omega)))))) hb14
                      obtain ⟨z14_2, c14_2, f14_2⟩ := id B14_2
                      have B14_3 : Blk w14 (g11_0) _ := Blk.below (by repeat (with_reducible (first | assumption | (apply Blk.at; simp; done) | apply Blk.alloc | apply Blk.drew | apply Blk.drewN | apply Blk.more | apply Blk.put | (apply Blk.far; focus (first | assumption | (apply Ne.symm; assumption) | (simp; done) | (simp <;> omega)))))) hb14
                      obtain ⟨z14_3, c14_3, f14_3⟩ := id B14_3
                      have B14_4 : Blk w14 (g11_1) _ := Blk.below (by repeat (with_reducible (first | assumption | (apply Blk.at; simp; done) | apply Blk.alloc | apply Blk.drew | apply Blk.drewN | apply Blk.more | apply Blk.put | (apply Blk.far; focus (first | assumption | (apply Ne.symm; assumption) | (simp; done) | (simp <;> omega)))))) hb14
                      obtain ⟨z14_4, c14_4, f14_4⟩ := id B14_4
                      have B14_5 : Blk w14 (g13_0) _ := Blk.below (by repeat (with_reducible (first | assumption | (apply Blk.at; simp; done) | apply Blk.alloc | apply Blk.drew | apply Blk.drewN | apply Blk.more | apply Blk.put | (apply Blk.far; focus (first | assumption | (apply Ne.symm; assumption) | (simp; done) | (simp <;> omega)))))) hb14
                      try simp only [List.setIfInBounds_toArray] at B14_5
                      try simp only [List.set_cons_succ] at B14_5
                      try simp only [List.set_cons_zero] at B14_5
                      obtain ⟨z14_5, c14_5, f14_5⟩ := id B14_5
                      have B14_6 : Blk w14 (g13_1) _ := Blk.below (by repeat (with_reducible (first | assumption | (apply Blk.at; simp; done) | apply Blk.alloc | apply Blk.drew | apply Blk.drewN | apply Blk.more | apply Blk.put | (apply Blk.far; focus (first | assumption | (apply Ne.symm; assumption) | (simp; done) | (simp <;> omega)))))) hb14
                      try simp only [List.setIfInBounds_toArray] at B14_6
                      try simp only [List.set_cons_succ] at B14_6
                      try simp only [List.set_cons_zero] at B14_6
                      obtain ⟨z14_6, c14_6, f14_6⟩ := id B14_6
                      have hT14 : Tab w14 b n 17 Mk := ((show Tab _ b n 17 Mk from (by repeat (with_reducible (first | assumption | apply Tab.alloc | apply Tab.drew | apply Tab.drewN | apply Tab.more | (apply Tab.far; focus (first | assumption | (apply Ne.symm; assumption) | (simp; done) | (simp <;> omega)))))))).below hb14
                      clear B13_0 z13_0 c13_0 f13_0 B13_1 z13_1 c13_1 f13_1 B13_2 z13_2 c13_2 f13_2 B13_3 z13_3 c13_3 f13_3 B13_4 z13_4 c13_4 f13_4 hT13 G13_0 zg13_0 cg13_0 fg13_0 G13_1 zg13_1 cg13_1 fg13_1
                      have ak9 := hT14.cell hj (j := 9) (by decide)
                      have ai9 := hT14.cell hi (j := 9) (by decide)
                      have ak10 := hT14.cell hj (j := 10) (by decide)
                      have ai10 := hT14.cell hi (j := 10) (by decide)
                      have ak11 := hT14.cell hj (j := 11) (by decide)
                      have ai11 := hT14.cell hi (j := 11) (by decide)
                      have az := hT14.lt
                      go_wp2_with fail
                      refine region_quiet_but 14 (by kernel_rfl) (by kernel_rfl) ?_
                      simp only [List.take_succ_cons, List.take_zero, List.drop_succ_cons, List.drop_zero]
                      repeat (go_big_quiet_step (first | (go_at_call 61; exact calls_after (rminus_c _ _ _ _ _ _ _)) | (go_at_call 65; exact calls_after (calls_v (rdot_c _ _ _ _ _ _ _) HDN.out))))
                      refine wpQuiet_nil ?_
                      rintro w15 hw15
                      have hb15 := after_below hw15
                      clear hw15
                      have B15_0 : Blk w15 (w.heap.size) _ := Blk.below (by repeat (with_reducible (first | assumption | (apply Blk.at; simp; done) | apply Blk.alloc | apply Blk.drew | apply Blk.drewN | apply Blk.more | apply Blk.put | (apply Blk.far; focus (first | assumption | (apply Ne.symm; assumption) | (simp; done) | (simp <;> omega)))))) hb15
                      obtain ⟨z15_0, c15_0, f15_0⟩ := id B15_0
                      have B15_1 : Blk w15 (w1.heap.size) _ := Blk.below (by repeat (with_reducible (first | assumption | (apply Blk.at; simp; done) | apply Blk.alloc | apply Blk.drew | apply Blk.drewN | apply Blk.more | apply Blk.put | (apply Blk.far; focus (first | assumption | (apply Ne.symm; assumption) | (simp; done) | (simp <;> omega)))))) hb15
                      obtain ⟨z15_1, c15_1, f15_1⟩ := id B15_1
                      have B15_2 : Blk w15 (wr.heap.size) _ := Blk.below (by repeat (with_reducible (first | assumption | (apply Blk.at; simp; done) | apply Blk.alloc | apply Blk.drew | apply Blk.drewN | apply Blk.more | apply Blk.put | (apply Blk.far; focus (first | assumption | (apply Ne.symm; assumption) | (simp; done) | (simp <;> omega)))))) hb15
                      obtain ⟨z15_2, c15_2, f15_2⟩ := id B15_2
                      have B15_3 : Blk w15 (g11_0) _ := Blk.below (by repeat (with_reducible (first | assumption | (apply Blk.at; simp; done) | apply Blk.alloc | apply Blk.drew | apply Blk.drewN | apply Blk.more | apply Blk.put | (apply Blk.far; focus (first | assumption | (apply Ne.symm; assumption) | (simp; done) | (simp <;> omega)))))) hb15
                      obtain ⟨z15_3, c15_3, f15_3⟩ := id B15_3
                      have B15_4 : Blk w15 (g11_1) _ := Blk.below (by repeat (with_reducible (first | assumption | (apply Blk.at; simp; done) | apply Blk.alloc | apply Blk.drew | apply Blk.drewN | apply Blk.more | apply Blk.put | (apply Blk.far; focus (first | assumption | (apply Ne.symm; assumption) | (simp; done) | (simp <;> omega)))))) hb15
                      obtain ⟨z15_4, c15_4, f15_4⟩ := id B15_4
                      have B15_5 : Blk w15 (g13_0) _ := Blk.below (by repeat (with_reducible (first | assumption | (apply Blk.at; simp; done) | apply Blk.alloc | apply Blk.drew | apply Blk.drewN | apply Blk.more | apply Blk.put | (apply Blk.far; focus (first | assumption | (apply Ne.symm; assumption) | (simp; done) | (simp <;> omega)))))) hb15
                      obtain ⟨z15_5, c15_5, f15_5⟩ := id B15_5
                      have B15_6 : Blk w15 (g13_1) _ := Blk.below (by repeat (with_reducible (first | assumption | (apply Blk.at; simp; done) | apply Blk.alloc | apply Blk.drew | apply Blk.drewN | apply Blk.more | apply Blk.put | (apply Blk.far; focus (first | assumption | (apply Ne.symm; assumption) | (simp; done) | (simp <;> omega)))))) hb15
                      obtain ⟨z15_6, c15_6, f15_6⟩ := id B15_6
                      have hT15 : Tab w15 b n 17 Mk := ((show Tab _ b n 17 Mk from (by repeat (with_reducible (first | assumption | apply Tab.alloc | apply Tab.drew | apply Tab.drewN | apply Tab.more | (apply Tab.far; focus (first | assumption | (apply Ne.symm; assumption) | (simp; done) | (simp <;> omega)))))))).below hb15
                      clear B14_0 z14_0 c14_0 f14_0 B14_1 z14_1 c14_1 f14_1 B14_2 z14_2 c14_2 f14_2 B14_3 z14_3 c14_3 f14_3 B14_4 z14_4 c14_4 f14_4 B14_5 z14_5 c14_5 f14_5 B14_6 z14_6 c14_6 f14_6 hT14
                      clear ak9 ai9 ak10 ai10 ak11 ai11
                      go_wp2_with fail
                      go_roundw
                      case rel => exact ⟨k + 1, by omega, by go_num, by rw [HGO.out i j HA.out HB.out hne, push_none HX.out HY.out HAL.out HDN.out (Or.inr (by omega))]; exact fun hn0 => ⟨b, rfl, hbb, (by repeat (with_reducible (first | assumption | apply Tab.alloc | apply Tab.drew | apply Tab.drewN | apply Tab.more | (apply Tab.far; focus (first | assumption | (apply Ne.symm; assumption) | (simp; done) | (simp <;> omega))))))⟩, (by repeat (with_reducible (first | assumption | (apply Blk.at; simp; done) | apply Blk.alloc | apply Blk.drew | apply Blk.drewN | apply Blk.more | apply Blk.put | (apply Blk.far; focus (first | assumption | (apply Ne.symm; assumption) | (simp; done) | (simp <;> omega)))))), (by repeat (with_reducible (first | assumption | (apply Blk.at; simp; done) | apply Blk.alloc | apply Blk.drew | apply Blk.drewN | apply Blk.more | apply Blk.put | (apply Blk.far; focus (first | assumption | (apply Ne.symm; assumption) | (simp; done) | (simp <;> omega)))))), (by repeat (with_reducible (first | exact Below.refl _ _ | assumption | apply ext_drew | apply ext_drewN | apply ext_alloc | apply ext_more | (refine ext_setCell ?_ (by first | assumption | (simp <;> omega)) _) | (refine ext_below ?_ (by assumption)))))⟩
                      case measure => simp [intOf]; omega
                obtain ⟨jj, hHJ⟩ : ∃ v, div (mul (-dn) (65536 + bo)) al = v := ⟨_, rfl⟩
                have HJ := Lib.hid hHJ
                clear hHJ
                obtain ⟨M1, hM1⟩ : ∃ v, giveM Mk i j g1 g2 g3 jj x y = v := ⟨_, rfl⟩
                have HM1 := Lib.hid hM1
                clear hM1
                obtain ⟨dv, hHDV⟩ : ∃ v, (dot (sub (M1 j 9) (M1 i 9)) (sub (M1 j 10) (M1 i 10)) (sub (M1 j 11) (M1 i 11)) g1 g2 g3) = v := ⟨_, rfl⟩
                have HDV := Lib.hid hHDV
                clear hHDV
                obtain ⟨s1, hHS1⟩ : ∃ v, (sub (sub (M1 j 9) (M1 i 9)) (mul g1 dv)) = v := ⟨_, rfl⟩
                have HS1 := Lib.hid hHS1
                clear hHS1
                obtain ⟨s2, hHS2⟩ : ∃ v, (sub (sub (M1 j 10) (M1 i 10)) (mul g2 dv)) = v := ⟨_, rfl⟩
                have HS2 := Lib.hid hHS2
                clear hHS2
                obtain ⟨s3, hHS3⟩ : ∃ v, (sub (sub (M1 j 11) (M1 i 11)) (mul g3 dv)) = v := ⟨_, rfl⟩
                have HS3 := Lib.hid hHS3
                clear hHS3
                obtain ⟨lg, hHLG⟩ : ∃ v, long s1 s2 s3 = v := ⟨_, rfl⟩
                have HLG := Lib.hid hHLG
                clear hHLG
                have hlg : 0 ≤ lg := by rw [← HLG.out]; exact (root_bd _).1
                by_cases h3 : lg = 0
                · subst h3
                  have hT9 := hTk
                  have hblt := hTk.lt
                  have nbw : b ≠ wr.heap.size := by omega
                  have nlb : w.heap.size ≠ b := by omega
                  have lw1 : w.heap.size ≤ w1.heap.size := by omega
                  go_wp2_with fail
                  refine wp_fresh ?_
                  rintro w10 hb10
                  have B10_0 : Blk w10 (w.heap.size) _ := Blk.below (by repeat (with_reducible (first | assumption | (apply Blk.at; simp; done) | apply Blk.alloc | apply Blk.drew | apply Blk.drewN | apply Blk.more | apply Blk.put | (apply Blk.far; focus (first | assumption | (apply Ne.symm; assumption) | (simp; done) | (simp <;> omega)))))) hb10
                  obtain ⟨z10_0, c10_0, f10_0⟩ := id B10_0
                  have B10_1 : Blk w10 (w1.heap.size) _ := Blk.below (by repeat (with_reducible (first | assumption | (apply Blk.at; simp; done) | apply Blk.alloc | apply Blk.drew | apply Blk.drewN | apply Blk.more | apply Blk.put | (apply Blk.far; focus (first | assumption | (apply Ne.symm; assumption) | (simp; done) | (simp <;> omega)))))) hb10
                  obtain ⟨z10_1, c10_1, f10_1⟩ := id B10_1
                  have B10_2 : Blk w10 (wr.heap.size) _ := Blk.below (by repeat (with_reducible (first | assumption | (apply Blk.at; simp; done) | apply Blk.alloc | apply Blk.drew | apply Blk.drewN | apply Blk.more | apply Blk.put | (apply Blk.far; focus (first | assumption | (apply Ne.symm; assumption) | (simp; done) | (simp <;> omega)))))) hb10
                  try simp only [List.setIfInBounds_toArray] at B10_2
                  try simp only [List.set_cons_succ] at B10_2
                  try simp only [List.set_cons_zero] at B10_2
                  obtain ⟨z10_2, c10_2, f10_2⟩ := id B10_2
                  have hT10 : Tab w10 b n 17 Mk := ((show Tab _ b n 17 Mk from (by repeat (with_reducible (first | assumption | apply Tab.alloc | apply Tab.drew | apply Tab.drewN | apply Tab.more | (apply Tab.far; focus (first | assumption | (apply Ne.symm; assumption) | (simp; done) | (simp <;> omega)))))))).below hb10
                  have hB10 : Below w.heap.size w w10 := (by repeat (with_reducible (first | exact Below.refl _ _ | assumption | apply ext_drew | apply ext_drewN | apply ext_alloc | apply ext_more | (refine ext_setCell ?_ (by first | assumption | (simp <;> omega)) _) | (refine ext_below ?_ (by assumption)))))
                  have ms10 : w.heap.size ≤ w10.heap.size := hB10.size
                  clear hb10
                  clear hTk hT9 hO hP cp zl cl fl zp fp hL hAp htb
                  refine region_grow (A := ?A11C) 8 [10, 11] (fun _ => #[.int .i64 0]) (by kernel_rfl) (by kernel_rfl) ?hrun11C ?hq11C ?htail11C
                  case hq11C =>
                    intro w0 hb0
                    simp only [List.take_succ_cons, List.take_zero]
                    have B0_0 : Blk w0 _ _ := B10_0.below hb0
                    obtain ⟨z0_0, c0_0, f0_0⟩ := id B0_0
                    have B0_1 : Blk w0 _ _ := B10_1.below hb0
                    obtain ⟨z0_1, c0_1, f0_1⟩ := id B0_1
                    have B0_2 : Blk w0 _ _ := B10_2.below hb0
                    obtain ⟨z0_2, c0_2, f0_2⟩ := id B0_2
                    have hT0_ : Tab w0 b n 17 Mk := hT10.below hb0
                    repeat (go_big_quiet_step (first | (go_at_call 108; with_reducible exact calls_after (rindex_c Mk _ n cap tA _ _ hn9 (Own.more (Own.of_tab hT0_) _) HA.out)) | (go_at_call 108; with_reducible exact calls_after (rindex_c Mk _ n cap tB _ _ hn9 (Own.more (Own.of_tab hT0_) _) HB.out))))
                    refine wpQuiet_nil ?_
                    rfl
                  case hrun11C =>
                    intro j hj
                    match j, hj with
                    | 0, _ => exact ⟨_, _, rfl, fun a w => by simp [go_sem]; rfl⟩
                    | 1, _ => exact ⟨_, _, rfl, fun a w => by simp [go_sem]; rfl⟩
                  case htail11C =>
                    intro gs w11 hb11 hblk hne
                    obtain ⟨G11_0, hg11_0⟩ := hblk 0 (by decide)
                    obtain ⟨G11_1, hg11_1⟩ := hblk 1 (by decide)
                    have hn11_0_1 := hne 0 1 (by decide) (by decide) (by decide)
                    simp only [List.drop_succ_cons, List.drop_zero, List.length_cons, List.length_nil, laySlots]
                    clear hblk hne
                    generalize gs 0 = g11_0 at *
                    generalize gs 1 = g11_1 at *
                    have B11_0 : Blk w11 _ _ := B10_0.below hb11
                    obtain ⟨z11_0, c11_0, f11_0⟩ := id B11_0
                    have B11_1 : Blk w11 _ _ := B10_1.below hb11
                    obtain ⟨z11_1, c11_1, f11_1⟩ := id B11_1
                    have B11_2 : Blk w11 _ _ := B10_2.below hb11
                    obtain ⟨z11_2, c11_2, f11_2⟩ := id B11_2
                    obtain ⟨zg11_0, cg11_0, fg11_0⟩ := id G11_0
                    have ne11_0_0 : g11_0 ≠ w.heap.size := by omega
                    have ne11_0_1 : g11_0 ≠ w1.heap.size := by omega
                    have ne11_0_2 : g11_0 ≠ wr.heap.size := by omega
                    obtain ⟨zg11_1, cg11_1, fg11_1⟩ := id G11_1
                    have ne11_1_0 : g11_1 ≠ w.heap.size := by omega
                    have ne11_1_1 : g11_1 ≠ w1.heap.size := by omega
                    have ne11_1_2 : g11_1 ≠ wr.heap.size := by omega
                    have hT11 : Tab w11 b n 17 Mk := hT10.below hb11
                    have nt11_0 : g11_0 ≠ b := by have := hT10.lt; omega
                    have nt11_1 : g11_1 ≠ b := by have := hT10.lt; omega
                    have lb11_0 : w.heap.size ≤ g11_0 := Nat.le_trans ms10 hg11_0
                    have lb11_1 : w.heap.size ≤ g11_1 := Nat.le_trans ms10 hg11_1
                    clear hg11_0 hg11_1
                    clear B10_0 z10_0 c10_0 f10_0 B10_1 z10_1 c10_1 f10_1 B10_2 z10_2 c10_2 f10_2 hT10
                    go_wp2_with fail
                    refine wp_fresh ?_
                    rintro w12 hb12
                    have B12_0 : Blk w12 (w.heap.size) _ := Blk.below (by repeat (with_reducible (first | assumption | (apply Blk.at; simp; done) | apply Blk.alloc | apply Blk.drew | apply Blk.drewN | apply Blk.more | apply Blk.put | (apply Blk.far; focus (first | assumption | (apply Ne.symm; assumption) | (simp; done) | (simp <;> omega)))))) hb12
                    obtain ⟨z12_0, c12_0, f12_0⟩ := id B12_0
                    have B12_1 : Blk w12 (w1.heap.size) _ := Blk.below (by repeat (with_reducible (first | assumption | (apply Blk.at; simp; done) | apply Blk.alloc | apply Blk.drew | apply Blk.drewN | apply Blk.more | apply Blk.put | (apply Blk.far; focus (first | assumption | (apply Ne.symm; assumption) | (simp; done) | (simp <;> omega)))))) hb12
                    obtain ⟨z12_1, c12_1, f12_1⟩ := id B12_1
                    have B12_2 : Blk w12 (wr.heap.size) _ := Blk.below (by repeat (with_reducible (first | assumption | (apply Blk.at; simp; done) | apply Blk.alloc | apply Blk.drew | apply Blk.drewN | apply Blk.more | apply Blk.put | (apply Blk.far; focus (first | assumption | (apply Ne.symm; assumption) | (simp; done) | (simp <;> omega)))))) hb12
                    obtain ⟨z12_2, c12_2, f12_2⟩ := id B12_2
                    have B12_3 : Blk w12 (g11_0) _ := Blk.below (by repeat (with_reducible (first | assumption | (apply Blk.at; simp; done) | apply Blk.alloc | apply Blk.drew | apply Blk.drewN | apply Blk.more | apply Blk.put | (apply Blk.far; focus (first | assumption | (apply Ne.symm; assumption) | (simp; done) | (simp <;> omega)))))) hb12
                    try simp only [List.setIfInBounds_toArray] at B12_3
                    try simp only [List.set_cons_succ] at B12_3
                    try simp only [List.set_cons_zero] at B12_3
                    obtain ⟨z12_3, c12_3, f12_3⟩ := id B12_3
                    have B12_4 : Blk w12 (g11_1) _ := Blk.below (by repeat (with_reducible (first | assumption | (apply Blk.at; simp; done) | apply Blk.alloc | apply Blk.drew | apply Blk.drewN | apply Blk.more | apply Blk.put | (apply Blk.far; focus (first | assumption | (apply Ne.symm; assumption) | (simp; done) | (simp <;> omega)))))) hb12
                    try simp only [List.setIfInBounds_toArray] at B12_4
                    try simp only [List.set_cons_succ] at B12_4
                    try simp only [List.set_cons_zero] at B12_4
                    obtain ⟨z12_4, c12_4, f12_4⟩ := id B12_4
                    have hT12 : Tab w12 b n 17 Mk := ((show Tab _ b n 17 Mk from (by repeat (with_reducible (first | assumption | apply Tab.alloc | apply Tab.drew | apply Tab.drewN | apply Tab.more | (apply Tab.far; focus (first | assumption | (apply Ne.symm; assumption) | (simp; done) | (simp <;> omega)))))))).below hb12
                    clear B11_0 z11_0 c11_0 f11_0 B11_1 z11_1 c11_1 f11_1 B11_2 z11_2 c11_2 f11_2 hT11 G11_0 zg11_0 cg11_0 fg11_0 G11_1 zg11_1 cg11_1 fg11_1
                    have hB12 : Below w.heap.size w w12 := (by repeat (with_reducible (first | exact Below.refl _ _ | assumption | apply ext_drew | apply ext_drewN | apply ext_alloc | apply ext_more | (refine ext_setCell ?_ (by first | assumption | (simp <;> omega)) _) | (refine ext_below ?_ (by assumption)))))
                    have ms12 : w.heap.size ≤ w12.heap.size := hB12.size
                    clear hb11 hb12
                    refine region_grow (A := ?A13C) 10 [12, 13] (fun _ => #[.int .i64 0]) (by kernel_rfl) (by kernel_rfl) ?hrun13C ?hq13C ?htail13C
                    case hq13C =>
                      intro w0 hb0
                      simp only [List.take_succ_cons, List.take_zero]
                      have B0_0 : Blk w0 _ _ := B12_0.below hb0
                      obtain ⟨z0_0, c0_0, f0_0⟩ := id B0_0
                      have B0_1 : Blk w0 _ _ := B12_1.below hb0
                      obtain ⟨z0_1, c0_1, f0_1⟩ := id B0_1
                      have B0_2 : Blk w0 _ _ := B12_2.below hb0
                      obtain ⟨z0_2, c0_2, f0_2⟩ := id B0_2
                      have B0_3 : Blk w0 _ _ := B12_3.below hb0
                      obtain ⟨z0_3, c0_3, f0_3⟩ := id B0_3
                      have B0_4 : Blk w0 _ _ := B12_4.below hb0
                      obtain ⟨z0_4, c0_4, f0_4⟩ := id B0_4
                      have hT0_ : Tab w0 b n 17 Mk := hT12.below hb0
                      have zt := hT0_.lt
                      iterate 3 go_big_quiet_step (fail)
                      go_big_quiet_want
                      refine quiet_body hT0_ hi (.tmp 62) rfl rfl ?_
                      simp only [Act.put, List.setIfInBounds_toArray, List.set_cons_zero, List.set_cons_succ]
                      go_big_quiet_on
                      go_big_quiet_step ((go_at_call 109; exact calls_after (calls_v (rlight_c _ _ _ _ _ _ _ _ _ _ _ _ _ _ _ _ _ _) HX.out)))
                      iterate 3 go_big_quiet_step (fail)
                      go_big_quiet_want
                      refine quiet_body hT0_ hj (.tmp 67) rfl rfl ?_
                      simp only [Act.put, List.setIfInBounds_toArray, List.set_cons_zero, List.set_cons_succ]
                      go_big_quiet_on
                      go_big_quiet_step ((go_at_call 109; exact calls_after (calls_v (rlight_c _ _ _ _ _ _ _ _ _ _ _ _ _ _ _ _ _ _) HY.out)))
                      refine wpQuiet_nil ?_
                      rfl
                    case hrun13C =>
                      intro j hj
                      match j, hj with
                      | 0, _ => exact ⟨_, _, rfl, fun a w => by simp [go_sem]; rfl⟩
                      | 1, _ => exact ⟨_, _, rfl, fun a w => by simp [go_sem]; rfl⟩
                    case htail13C =>
                      intro gs w13 hb13 hblk hne
                      obtain ⟨G13_0, hg13_0⟩ := hblk 0 (by decide)
                      obtain ⟨G13_1, hg13_1⟩ := hblk 1 (by decide)
                      have hn13_0_1 := hne 0 1 (by decide) (by decide) (by decide)
                      simp only [List.drop_succ_cons, List.drop_zero, List.length_cons, List.length_nil, laySlots]
                      clear hblk hne
                      generalize gs 0 = g13_0 at *
                      generalize gs 1 = g13_1 at *
                      have B13_0 : Blk w13 _ _ := B12_0.below hb13
                      obtain ⟨z13_0, c13_0, f13_0⟩ := id B13_0
                      have B13_1 : Blk w13 _ _ := B12_1.below hb13
                      obtain ⟨z13_1, c13_1, f13_1⟩ := id B13_1
                      have B13_2 : Blk w13 _ _ := B12_2.below hb13
                      obtain ⟨z13_2, c13_2, f13_2⟩ := id B13_2
                      have B13_3 : Blk w13 _ _ := B12_3.below hb13
                      obtain ⟨z13_3, c13_3, f13_3⟩ := id B13_3
                      have B13_4 : Blk w13 _ _ := B12_4.below hb13
                      obtain ⟨z13_4, c13_4, f13_4⟩ := id B13_4
                      obtain ⟨zg13_0, cg13_0, fg13_0⟩ := id G13_0
                      have ne13_0_0 : g13_0 ≠ w.heap.size := by omega
                      have ne13_0_1 : g13_0 ≠ w1.heap.size := by omega
                      have ne13_0_2 : g13_0 ≠ wr.heap.size := by omega
                      have ne13_0_3 : g13_0 ≠ g11_0 := by omega
                      have ne13_0_4 : g13_0 ≠ g11_1 := by omega
                      obtain ⟨zg13_1, cg13_1, fg13_1⟩ := id G13_1
                      have ne13_1_0 : g13_1 ≠ w.heap.size := by omega
                      have ne13_1_1 : g13_1 ≠ w1.heap.size := by omega
                      have ne13_1_2 : g13_1 ≠ wr.heap.size := by omega
                      have ne13_1_3 : g13_1 ≠ g11_0 := by omega
                      have ne13_1_4 : g13_1 ≠ g11_1 := by omega
                      have hT13 : Tab w13 b n 17 Mk := hT12.below hb13
                      have nt13_0 : g13_0 ≠ b := by have := hT12.lt; omega
                      have nt13_1 : g13_1 ≠ b := by have := hT12.lt; omega
                      have lb13_0 : w.heap.size ≤ g13_0 := Nat.le_trans ms12 hg13_0
                      have lb13_1 : w.heap.size ≤ g13_1 := Nat.le_trans ms12 hg13_1
                      clear hg13_0 hg13_1
                      clear B12_0 z12_0 c12_0 f12_0 B12_1 z12_1 c12_1 f12_1 B12_2 z12_2 c12_2 f12_2 B12_3 z12_3 c12_3 f12_3 B12_4 z12_4 c12_4 f12_4 hT12
                      go_wp2_with fail
                      refine (calls_v (radd_c _ _ _) HAL.out).mono ?_
                      rintro e w' ⟨rfl, rfl⟩
                      go_wp2_with fail
                      refine wp_fresh ?_
                      rintro w14 hb14
                      have B14_0 : Blk w14 (w.heap.size) _ := Blk.below (by repeat (with_reducible (first | assumption | (apply Blk.at; simp; done) | apply Blk.alloc | apply Blk.drew | apply Blk.drewN | apply Blk.more | apply Blk.put | (apply Blk.far; focus (first | assumption | (apply Ne.symm; assumption) | (simp; done) | (simp <;> omega)))))) hb14
                      obtain ⟨z14_0, c14_0, f14_0⟩ := id B14_0
                      have B14_1 : Blk w14 (w1.heap.size) _ := Blk.below (by repeat (with_reducible (first | assumption | (apply Blk.at; simp; done) | apply Blk.alloc | apply Blk.drew | apply Blk.drewN | apply Blk.more | apply Blk.put | (apply Blk.far; focus (first | assumption | (apply Ne.symm; assumption) | (simp; done) | (simp <;> omega)))))) hb14
                      obtain ⟨z14_1, c14_1, f14_1⟩ := id B14_1
                      have B14_2 : Blk w14 (wr.heap.size) _ := Blk.below (by repeat (with_reducible (first | assumption | (apply Blk.at; simp; done) | apply Blk.alloc | apply Blk.drew | apply Blk.drewN | apply Blk.more | apply Blk.put | (apply Blk.far; focus (first | assumption | (apply Ne.symm; assumption) | (simp; done) | (simp <;> omega)))))) hb14
                      obtain ⟨z14_2, c14_2, f14_2⟩ := id B14_2
                      have B14_3 : Blk w14 (g11_0) _ := Blk.below (by repeat (with_reducible (first | assumption | (apply Blk.at; simp; done) | apply Blk.alloc | apply Blk.drew | apply Blk.drewN | apply Blk.more | apply Blk.put | (apply Blk.far; focus (first | assumption | (apply Ne.symm; assumption) | (simp; done) | (simp <;> omega)))))) hb14
                      obtain ⟨z14_3, c14_3, f14_3⟩ := id B14_3
                      have B14_4 : Blk w14 (g11_1) _ := Blk.below (by repeat (with_reducible (first | assumption | (apply Blk.at; simp; done) | apply Blk.alloc | apply Blk.drew | apply Blk.drewN | apply Blk.more | apply Blk.put | (apply Blk.far; focus (first | assumption | (apply Ne.symm; assumption) | (simp; done) | (simp <;> omega)))))) hb14
                      obtain ⟨z14_4, c14_4, f14_4⟩ := id B14_4
                      have B14_5 : Blk w14 (g13_0) _ := Blk.below (by repeat (with_reducible (first | assumption | (apply Blk.at; simp; done) | apply Blk.alloc | apply Blk.drew | apply Blk.drewN | apply Blk.more | apply Blk.put | (apply Blk.far; focus (first | assumption | (apply Ne.symm; assumption) | (simp; done) | (simp <;> omega)))))) hb14
                      try simp only [List.setIfInBounds_toArray] at B14_5
                      try simp only [List.set_cons_succ] at B14_5
                      try simp only [List.set_cons_zero] at B14_5
                      obtain ⟨z14_5, c14_5, f14_5⟩ := id B14_5
                      have B14_6 : Blk w14 (g13_1) _ := Blk.below (by repeat (with_reducible (first | assumption | (apply Blk.at; simp; done) | apply Blk.alloc | apply Blk.drew | apply Blk.drewN | apply Blk.more | apply Blk.put | (apply Blk.far; focus (first | assumption | (apply Ne.symm; assumption) | (simp; done) | (simp <;> omega)))))) hb14
                      try simp only [List.setIfInBounds_toArray] at B14_6
                      try simp only [List.set_cons_succ] at B14_6
                      try simp only [List.set_cons_zero] at B14_6
                      obtain ⟨z14_6, c14_6, f14_6⟩ := id B14_6
                      have hT14 : Tab w14 b n 17 Mk := ((show Tab _ b n 17 Mk from (by repeat (with_reducible (first | assumption | apply Tab.alloc | apply Tab.drew | apply Tab.drewN | apply Tab.more | (apply Tab.far; focus (first | assumption | (apply Ne.symm; assumption) | (simp; done) | (simp <;> omega)))))))).below hb14
                      clear B13_0 z13_0 c13_0 f13_0 B13_1 z13_1 c13_1 f13_1 B13_2 z13_2 c13_2 f13_2 B13_3 z13_3 c13_3 f13_3 B13_4 z13_4 c13_4 f13_4 hT13 G13_0 zg13_0 cg13_0 fg13_0 G13_1 zg13_1 cg13_1 fg13_1
                      have ak9 := hT14.cell hj (j := 9) (by decide)
                      have ai9 := hT14.cell hi (j := 9) (by decide)
                      have ak10 := hT14.cell hj (j := 10) (by decide)
                      have ai10 := hT14.cell hi (j := 10) (by decide)
                      have ak11 := hT14.cell hj (j := 11) (by decide)
                      have ai11 := hT14.cell hi (j := 11) (by decide)
                      have az := hT14.lt
                      go_wp2_with fail
                      refine region_quiet_but 14 (by kernel_rfl) (by kernel_rfl) ?_
                      simp only [List.take_succ_cons, List.take_zero, List.drop_succ_cons, List.drop_zero]
                      repeat (go_big_quiet_step (first | (go_at_call 61; exact calls_after (rminus_c _ _ _ _ _ _ _)) | (go_at_call 65; exact calls_after (calls_v (rdot_c _ _ _ _ _ _ _) HDN.out))))
                      refine wpQuiet_nil ?_
                      rintro w15 hw15
                      have hb15 := after_below hw15
                      clear hw15
                      have B15_0 : Blk w15 (w.heap.size) _ := Blk.below (by repeat (with_reducible (first | assumption | (apply Blk.at; simp; done) | apply Blk.alloc | apply Blk.drew | apply Blk.drewN | apply Blk.more | apply Blk.put | (apply Blk.far; focus (first | assumption | (apply Ne.symm; assumption) | (simp; done) | (simp <;> omega)))))) hb15
                      obtain ⟨z15_0, c15_0, f15_0⟩ := id B15_0
                      have B15_1 : Blk w15 (w1.heap.size) _ := Blk.below (by repeat (with_reducible (first | assumption | (apply Blk.at; simp; done) | apply Blk.alloc | apply Blk.drew | apply Blk.drewN | apply Blk.more | apply Blk.put | (apply Blk.far; focus (first | assumption | (apply Ne.symm; assumption) | (simp; done) | (simp <;> omega)))))) hb15
                      obtain ⟨z15_1, c15_1, f15_1⟩ := id B15_1
                      have B15_2 : Blk w15 (wr.heap.size) _ := Blk.below (by repeat (with_reducible (first | assumption | (apply Blk.at; simp; done) | apply Blk.alloc | apply Blk.drew | apply Blk.drewN | apply Blk.more | apply Blk.put | (apply Blk.far; focus (first | assumption | (apply Ne.symm; assumption) | (simp; done) | (simp <;> omega)))))) hb15
                      obtain ⟨z15_2, c15_2, f15_2⟩ := id B15_2
                      have B15_3 : Blk w15 (g11_0) _ := Blk.below (by repeat (with_reducible (first | assumption | (apply Blk.at; simp; done) | apply Blk.alloc | apply Blk.drew | apply Blk.drewN | apply Blk.more | apply Blk.put | (apply Blk.far; focus (first | assumption | (apply Ne.symm; assumption) | (simp; done) | (simp <;> omega)))))) hb15
                      obtain ⟨z15_3, c15_3, f15_3⟩ := id B15_3
                      have B15_4 : Blk w15 (g11_1) _ := Blk.below (by repeat (with_reducible (first | assumption | (apply Blk.at; simp; done) | apply Blk.alloc | apply Blk.drew | apply Blk.drewN | apply Blk.more | apply Blk.put | (apply Blk.far; focus (first | assumption | (apply Ne.symm; assumption) | (simp; done) | (simp <;> omega)))))) hb15
                      obtain ⟨z15_4, c15_4, f15_4⟩ := id B15_4
                      have B15_5 : Blk w15 (g13_0) _ := Blk.below (by repeat (with_reducible (first | assumption | (apply Blk.at; simp; done) | apply Blk.alloc | apply Blk.drew | apply Blk.drewN | apply Blk.more | apply Blk.put | (apply Blk.far; focus (first | assumption | (apply Ne.symm; assumption) | (simp; done) | (simp <;> omega)))))) hb15
                      obtain ⟨z15_5, c15_5, f15_5⟩ := id B15_5
                      have B15_6 : Blk w15 (g13_1) _ := Blk.below (by repeat (with_reducible (first | assumption | (apply Blk.at; simp; done) | apply Blk.alloc | apply Blk.drew | apply Blk.drewN | apply Blk.more | apply Blk.put | (apply Blk.far; focus (first | assumption | (apply Ne.symm; assumption) | (simp; done) | (simp <;> omega)))))) hb15
                      obtain ⟨z15_6, c15_6, f15_6⟩ := id B15_6
                      have hT15 : Tab w15 b n 17 Mk := ((show Tab _ b n 17 Mk from (by repeat (with_reducible (first | assumption | apply Tab.alloc | apply Tab.drew | apply Tab.drewN | apply Tab.more | (apply Tab.far; focus (first | assumption | (apply Ne.symm; assumption) | (simp; done) | (simp <;> omega)))))))).below hb15
                      clear B14_0 z14_0 c14_0 f14_0 B14_1 z14_1 c14_1 f14_1 B14_2 z14_2 c14_2 f14_2 B14_3 z14_3 c14_3 f14_3 B14_4 z14_4 c14_4 f14_4 B14_5 z14_5 c14_5 f14_5 B14_6 z14_6 c14_6 f14_6 hT14
                      clear ak9 ai9 ak10 ai10 ak11 ai11
                      go_wp2_with fail
                      go_wp2_with fail
                      with_reducible refine (rmul_c _ _ _).mono ?_
                      rintro e w' ⟨rfl, rfl⟩
                      go_wp2_with fail
                      go_wp2_with fail
                      with_reducible refine (calls_v (rdiv_c _ _ _) HJ.out).mono ?_
                      rintro e w' ⟨rfl, rfl⟩
                      go_wp2_with fail
                      go_wp2_with fail
                      refine calls_here ?_
                      rintro w16 hb16
                      have B16_0 : Blk w16 (w.heap.size) _ := Blk.below (by repeat (with_reducible (first | assumption | (apply Blk.at; simp; done) | apply Blk.alloc | apply Blk.drew | apply Blk.drewN | apply Blk.more | apply Blk.put | (apply Blk.far; focus (first | assumption | (apply Ne.symm; assumption) | (simp; done) | (simp <;> omega)))))) hb16
                      obtain ⟨z16_0, c16_0, f16_0⟩ := id B16_0
                      have B16_1 : Blk w16 (w1.heap.size) _ := Blk.below (by repeat (with_reducible (first | assumption | (apply Blk.at; simp; done) | apply Blk.alloc | apply Blk.drew | apply Blk.drewN | apply Blk.more | apply Blk.put | (apply Blk.far; focus (first | assumption | (apply Ne.symm; assumption) | (simp; done) | (simp <;> omega)))))) hb16
                      obtain ⟨z16_1, c16_1, f16_1⟩ := id B16_1
                      have B16_2 : Blk w16 (wr.heap.size) _ := Blk.below (by repeat (with_reducible (first | assumption | (apply Blk.at; simp; done) | apply Blk.alloc | apply Blk.drew | apply Blk.drewN | apply Blk.more | apply Blk.put | (apply Blk.far; focus (first | assumption | (apply Ne.symm; assumption) | (simp; done) | (simp <;> omega)))))) hb16
                      obtain ⟨z16_2, c16_2, f16_2⟩ := id B16_2
                      have B16_3 : Blk w16 (g11_0) _ := Blk.below (by repeat (with_reducible (first | assumption | (apply Blk.at; simp; done) | apply Blk.alloc | apply Blk.drew | apply Blk.drewN | apply Blk.more | apply Blk.put | (apply Blk.far; focus (first | assumption | (apply Ne.symm; assumption) | (simp; done) | (simp <;> omega)))))) hb16
                      obtain ⟨z16_3, c16_3, f16_3⟩ := id B16_3
                      have B16_4 : Blk w16 (g11_1) _ := Blk.below (by repeat (with_reducible (first | assumption | (apply Blk.at; simp; done) | apply Blk.alloc | apply Blk.drew | apply Blk.drewN | apply Blk.more | apply Blk.put | (apply Blk.far; focus (first | assumption | (apply Ne.symm; assumption) | (simp; done) | (simp <;> omega)))))) hb16
                      obtain ⟨z16_4, c16_4, f16_4⟩ := id B16_4
                      have B16_5 : Blk w16 (g13_0) _ := Blk.below (by repeat (with_reducible (first | assumption | (apply Blk.at; simp; done) | apply Blk.alloc | apply Blk.drew | apply Blk.drewN | apply Blk.more | apply Blk.put | (apply Blk.far; focus (first | assumption | (apply Ne.symm; assumption) | (simp; done) | (simp <;> omega)))))) hb16
                      obtain ⟨z16_5, c16_5, f16_5⟩ := id B16_5
                      have B16_6 : Blk w16 (g13_1) _ := Blk.below (by repeat (with_reducible (first | assumption | (apply Blk.at; simp; done) | apply Blk.alloc | apply Blk.drew | apply Blk.drewN | apply Blk.more | apply Blk.put | (apply Blk.far; focus (first | assumption | (apply Ne.symm; assumption) | (simp; done) | (simp <;> omega)))))) hb16
                      obtain ⟨z16_6, c16_6, f16_6⟩ := id B16_6
                      have hT16 : Tab w16 b n 17 Mk := ((show Tab _ b n 17 Mk from (by repeat (with_reducible (first | assumption | apply Tab.alloc | apply Tab.drew | apply Tab.drewN | apply Tab.more | (apply Tab.far; focus (first | assumption | (apply Ne.symm; assumption) | (simp; done) | (simp <;> omega)))))))).below hb16
                      clear B15_0 z15_0 c15_0 f15_0 B15_1 z15_1 c15_1 f15_1 B15_2 z15_2 c15_2 f15_2 B15_3 z15_3 c15_3 f15_3 B15_4 z15_4 c15_4 f15_4 B15_5 z15_5 c15_5 f15_5 B15_6 z15_6 c15_6 f15_6 hT15
                      have hbl16 := hT16.lt
                      with_reducible refine (rgive_c Mk b n i j g1 g2 g3 jj x y cap (w1.heap.size) (g11_0) (g13_0) (g11_1) (g13_1) _ hT16 hi hj hne B16_1 (Nat.ne_of_lt nbp) B16_3 nt11_0.symm B16_5 nt13_0.symm B16_4 nt11_1.symm B16_6 nt13_1.symm).mono ?_
                      rintro e w17 ⟨rfl, hT17, hm17⟩
                      have hB16 : Below w.heap.size w w16 := (by repeat (with_reducible (first | exact Below.refl _ _ | assumption | apply ext_drew | apply ext_drewN | apply ext_alloc | apply ext_more | (refine ext_setCell ?_ (by first | assumption | (simp <;> omega)) _) | (refine ext_below ?_ (by assumption)))))
                      clear hbl16 hb13 hb14 hb15 hb16
                      have hB17 : Below w.heap.size w w17 := hB16.trans (hm17.toBelow hB16.size (fun c hc e => Nat.lt_irrefl _ (Nat.lt_trans hc (Nat.lt_of_lt_of_eq hbb e.symm))))
                      have B17_0 : Blk w17 (w.heap.size) _ := B16_0.mod hm17 (fun e => nlb e)
                      obtain ⟨z17_0, c17_0, f17_0⟩ := id B17_0
                      have B17_1 : Blk w17 (w1.heap.size) _ := B16_1.mod hm17 (fun e => Nat.ne_of_gt nbp e)
                      obtain ⟨z17_1, c17_1, f17_1⟩ := id B17_1
                      have B17_2 : Blk w17 (wr.heap.size) _ := B16_2.mod hm17 (fun e => nbw e.symm)
                      obtain ⟨z17_2, c17_2, f17_2⟩ := id B17_2
                      have B17_3 : Blk w17 (g11_0) _ := B16_3.mod hm17 (fun e => nt11_0 e)
                      obtain ⟨z17_3, c17_3, f17_3⟩ := id B17_3
                      have B17_4 : Blk w17 (g11_1) _ := B16_4.mod hm17 (fun e => nt11_1 e)
                      obtain ⟨z17_4, c17_4, f17_4⟩ := id B17_4
                      have B17_5 : Blk w17 (g13_0) _ := B16_5.mod hm17 (fun e => nt13_0 e)
                      obtain ⟨z17_5, c17_5, f17_5⟩ := id B17_5
                      have B17_6 : Blk w17 (g13_1) _ := B16_6.mod hm17 (fun e => nt13_1 e)
                      obtain ⟨z17_6, c17_6, f17_6⟩ := id B17_6
                      clear B16_0 z16_0 c16_0 f16_0 B16_1 z16_1 c16_1 f16_1 B16_2 z16_2 c16_2 f16_2 B16_3 z16_3 c16_3 f16_3 B16_4 z16_4 c16_4 f16_4 B16_5 z16_5 c16_5 f16_5 B16_6 z16_6 c16_6 f16_6 hT16
                      clear hm17 hB16
                      rw [HM1.out] at hT17
                      go_wp2_with fail
                      refine wp_fresh ?_
                      rintro w18 hb18
                      have B18_0 : Blk w18 (w.heap.size) _ := Blk.below (by repeat (with_reducible (first | assumption | (apply Blk.at; simp; done) | apply Blk.alloc | apply Blk.drew | apply Blk.drewN | apply Blk.more | apply Blk.put | (apply Blk.far; focus (first | assumption | (apply Ne.symm; assumption) | (simp; done) | (simp <;> omega)))))) hb18
                      obtain ⟨z18_0, c18_0, f18_0⟩ := id B18_0
                      have B18_1 : Blk w18 (w1.heap.size) _ := Blk.below (by repeat (with_reducible (first | assumption | (apply Blk.at; simp; done) | apply Blk.alloc | apply Blk.drew | apply Blk.drewN | apply Blk.more | apply Blk.put | (apply Blk.far; focus (first | assumption | (apply Ne.symm; assumption) | (simp; done) | (simp <;> omega)))))) hb18
                      obtain ⟨z18_1, c18_1, f18_1⟩ := id B18_1
                      have B18_2 : Blk w18 (wr.heap.size) _ := Blk.below (by repeat (with_reducible (first | assumption | (apply Blk.at; simp; done) | apply Blk.alloc | apply Blk.drew | apply Blk.drewN | apply Blk.more | apply Blk.put | (apply Blk.far; focus (first | assumption | (apply Ne.symm; assumption) | (simp; done) | (simp <;> omega)))))) hb18
                      obtain ⟨z18_2, c18_2, f18_2⟩ := id B18_2
                      have B18_3 : Blk w18 (g11_0) _ := Blk.below (by repeat (with_reducible (first | assumption | (apply Blk.at; simp; done) | apply Blk.alloc | apply Blk.drew | apply Blk.drewN | apply Blk.more | apply Blk.put | (apply Blk.far; focus (first | assumption | (apply Ne.symm; assumption) | (simp; done) | (simp <;> omega)))))) hb18
                      obtain ⟨z18_3, c18_3, f18_3⟩ := id B18_3
                      have B18_4 : Blk w18 (g11_1) _ := Blk.below (by repeat (with_reducible (first | assumption | (apply Blk.at; simp; done) | apply Blk.alloc | apply Blk.drew | apply Blk.drewN | apply Blk.more | apply Blk.put | (apply Blk.far; focus (first | assumption | (apply Ne.symm; assumption) | (simp; done) | (simp <;> omega)))))) hb18
                      obtain ⟨z18_4, c18_4, f18_4⟩ := id B18_4
                      have B18_5 : Blk w18 (g13_0) _ := Blk.below (by repeat (with_reducible (first | assumption | (apply Blk.at; simp; done) | apply Blk.alloc | apply Blk.drew | apply Blk.drewN | apply Blk.more | apply Blk.put | (apply Blk.far; focus (first | assumption | (apply Ne.symm; assumption) | (simp; done) | (simp <;> omega)))))) hb18
                      obtain ⟨z18_5, c18_5, f18_5⟩ := id B18_5
                      have B18_6 : Blk w18 (g13_1) _ := Blk.below (by repeat (with_reducible (first | assumption | (apply Blk.at; simp; done) | apply Blk.alloc | apply Blk.drew | apply Blk.drewN | apply Blk.more | apply Blk.put | (apply Blk.far; focus (first | assumption | (apply Ne.symm; assumption) | (simp; done) | (simp <;> omega)))))) hb18
                      obtain ⟨z18_6, c18_6, f18_6⟩ := id B18_6
                      have hT18 : Tab w18 b n 17 M1 := ((show Tab _ b n 17 M1 from (by repeat (with_reducible (first | assumption | apply Tab.alloc | apply Tab.drew | apply Tab.drewN | apply Tab.more | (apply Tab.far; focus (first | assumption | (apply Ne.symm; assumption) | (simp; done) | (simp <;> omega)))))))).below hb18
                      clear B17_0 z17_0 c17_0 f17_0 B17_1 z17_1 c17_1 f17_1 B17_2 z17_2 c17_2 f17_2 B17_3 z17_3 c17_3 f17_3 B17_4 z17_4 c17_4 f17_4 B17_5 z17_5 c17_5 f17_5 B17_6 z17_6 c17_6 f17_6 hT17
                      have hB18 : Below w.heap.size w w18 := (by repeat (with_reducible (first | exact Below.refl _ _ | assumption | apply ext_drew | apply ext_drewN | apply ext_alloc | apply ext_more | (refine ext_setCell ?_ (by first | assumption | (simp <;> omega)) _) | (refine ext_below ?_ (by assumption)))))
                      have ms18 : w.heap.size ≤ w18.heap.size := hB18.size
                      clear hb18
                      refine region_grow (A := ?A19C) 11 [18] (fun _ => #[.int .i64 0, .int .i64 0, .int .i64 0]) (by kernel_rfl) (by kernel_rfl) ?hrun19C ?hq19C ?htail19C
                      case hq19C =>
                        intro w0 hb0
                        simp only [List.take_succ_cons, List.take_zero]
                        have B0_0 : Blk w0 _ _ := B18_0.below hb0
                        obtain ⟨z0_0, c0_0, f0_0⟩ := id B0_0
                        have B0_1 : Blk w0 _ _ := B18_1.below hb0
                        obtain ⟨z0_1, c0_1, f0_1⟩ := id B0_1
                        have B0_2 : Blk w0 _ _ := B18_2.below hb0
                        obtain ⟨z0_2, c0_2, f0_2⟩ := id B0_2
                        have B0_3 : Blk w0 _ _ := B18_3.below hb0
                        obtain ⟨z0_3, c0_3, f0_3⟩ := id B0_3
                        have B0_4 : Blk w0 _ _ := B18_4.below hb0
                        obtain ⟨z0_4, c0_4, f0_4⟩ := id B0_4
                        have B0_5 : Blk w0 _ _ := B18_5.below hb0
                        obtain ⟨z0_5, c0_5, f0_5⟩ := id B0_5
                        have B0_6 : Blk w0 _ _ := B18_6.below hb0
                        obtain ⟨z0_6, c0_6, f0_6⟩ := id B0_6
                        have hT0_ : Tab w0 b n 17 M1 := hT18.below hb0
                        have bk9 := hT0_.cell hj (j := 9) (by decide)
                        have bi9 := hT0_.cell hi (j := 9) (by decide)
                        have bk10 := hT0_.cell hj (j := 10) (by decide)
                        have bi10 := hT0_.cell hi (j := 10) (by decide)
                        have bk11 := hT0_.cell hj (j := 11) (by decide)
                        have bi11 := hT0_.cell hi (j := 11) (by decide)
                        have bz := hT0_.lt
                        repeat (go_big_quiet_step ((go_at_call 61; exact calls_after (rminus_c _ _ _ _ _ _ _))))
                        refine wpQuiet_nil ?_
                        rfl
                      case hrun19C =>
                        intro j hj
                        match j, hj with
                        | 0, _ => exact ⟨_, _, rfl, fun a w => by simp [go_sem]; rfl⟩
                      case htail19C =>
                        intro gs w19 hb19 hblk hne
                        obtain ⟨G19_0, hg19_0⟩ := hblk 0 (by decide)
                        simp only [List.drop_succ_cons, List.drop_zero, List.length_cons, List.length_nil, laySlots]
                        clear hblk hne
                        generalize gs 0 = g19_0 at *
                        have B19_0 : Blk w19 _ _ := B18_0.below hb19
                        obtain ⟨z19_0, c19_0, f19_0⟩ := id B19_0
                        have B19_1 : Blk w19 _ _ := B18_1.below hb19
                        obtain ⟨z19_1, c19_1, f19_1⟩ := id B19_1
                        have B19_2 : Blk w19 _ _ := B18_2.below hb19
                        obtain ⟨z19_2, c19_2, f19_2⟩ := id B19_2
                        have B19_3 : Blk w19 _ _ := B18_3.below hb19
                        obtain ⟨z19_3, c19_3, f19_3⟩ := id B19_3
                        have B19_4 : Blk w19 _ _ := B18_4.below hb19
                        obtain ⟨z19_4, c19_4, f19_4⟩ := id B19_4
                        have B19_5 : Blk w19 _ _ := B18_5.below hb19
                        obtain ⟨z19_5, c19_5, f19_5⟩ := id B19_5
                        have B19_6 : Blk w19 _ _ := B18_6.below hb19
                        obtain ⟨z19_6, c19_6, f19_6⟩ := id B19_6
                        obtain ⟨zg19_0, cg19_0, fg19_0⟩ := id G19_0
                        have ne19_0_0 : g19_0 ≠ w.heap.size := by omega
                        have ne19_0_1 : g19_0 ≠ w1.heap.size := by omega
                        have ne19_0_2 : g19_0 ≠ wr.heap.size := by omega
                        have ne19_0_3 : g19_0 ≠ g11_0 := by omega
                        have ne19_0_4 : g19_0 ≠ g11_1 := by omega
                        have ne19_0_5 : g19_0 ≠ g13_0 := by omega
                        have ne19_0_6 : g19_0 ≠ g13_1 := by omega
                        have hT19 : Tab w19 b n 17 M1 := hT18.below hb19
                        have nt19_0 : g19_0 ≠ b := by have := hT18.lt; omega
                        have lb19_0 : w.heap.size ≤ g19_0 := Nat.le_trans ms18 hg19_0
                        clear hg19_0
                        clear B18_0 z18_0 c18_0 f18_0 B18_1 z18_1 c18_1 f18_1 B18_2 z18_2 c18_2 f18_2 B18_3 z18_3 c18_3 f18_3 B18_4 z18_4 c18_4 f18_4 B18_5 z18_5 c18_5 f18_5 B18_6 z18_6 c18_6 f18_6 hT18
                        go_wp2_with fail
                        refine wp_fresh ?_
                        rintro w20 hb20
                        have B20_0 : Blk w20 (w.heap.size) _ := Blk.below (by repeat (with_reducible (first | assumption | (apply Blk.at; simp; done) | apply Blk.alloc | apply Blk.drew | apply Blk.drewN | apply Blk.more | apply Blk.put | (apply Blk.far; focus (first | assumption | (apply Ne.symm; assumption) | (simp; done) | (simp <;> omega)))))) hb20
                        obtain ⟨z20_0, c20_0, f20_0⟩ := id B20_0
                        have B20_1 : Blk w20 (w1.heap.size) _ := Blk.below (by repeat (with_reducible (first | assumption | (apply Blk.at; simp; done) | apply Blk.alloc | apply Blk.drew | apply Blk.drewN | apply Blk.more | apply Blk.put | (apply Blk.far; focus (first | assumption | (apply Ne.symm; assumption) | (simp; done) | (simp <;> omega)))))) hb20
                        obtain ⟨z20_1, c20_1, f20_1⟩ := id B20_1
                        have B20_2 : Blk w20 (wr.heap.size) _ := Blk.below (by repeat (with_reducible (first | assumption | (apply Blk.at; simp; done) | apply Blk.alloc | apply Blk.drew | apply Blk.drewN | apply Blk.more | apply Blk.put | (apply Blk.far; focus (first | assumption | (apply Ne.symm; assumption) | (simp; done) | (simp <;> omega)))))) hb20
                        obtain ⟨z20_2, c20_2, f20_2⟩ := id B20_2
                        have B20_3 : Blk w20 (g11_0) _ := Blk.below (by repeat (with_reducible (first | assumption | (apply Blk.at; simp; done) | apply Blk.alloc | apply Blk.drew | apply Blk.drewN | apply Blk.more | apply Blk.put | (apply Blk.far; focus (first | assumption | (apply Ne.symm; assumption) | (simp; done) | (simp <;> omega)))))) hb20
                        obtain ⟨z20_3, c20_3, f20_3⟩ := id B20_3
                        have B20_4 : Blk w20 (g11_1) _ := Blk.below (by repeat (with_reducible (first | assumption | (apply Blk.at; simp; done) | apply Blk.alloc | apply Blk.drew | apply Blk.drewN | apply Blk.more | apply Blk.put | (apply Blk.far; focus (first | assumption | (apply Ne.symm; assumption) | (simp; done) | (simp <;> omega)))))) hb20
                        obtain ⟨z20_4, c20_4, f20_4⟩ := id B20_4
                        have B20_5 : Blk w20 (g13_0) _ := Blk.below (by repeat (with_reducible (first | assumption | (apply Blk.at; simp; done) | apply Blk.alloc | apply Blk.drew | apply Blk.drewN | apply Blk.more | apply Blk.put | (apply Blk.far; focus (first | assumption | (apply Ne.symm; assumption) | (simp; done) | (simp <;> omega)))))) hb20
                        obtain ⟨z20_5, c20_5, f20_5⟩ := id B20_5
                        have B20_6 : Blk w20 (g13_1) _ := Blk.below (by repeat (with_reducible (first | assumption | (apply Blk.at; simp; done) | apply Blk.alloc | apply Blk.drew | apply Blk.drewN | apply Blk.more | apply Blk.put | (apply Blk.far; focus (first | assumption | (apply Ne.symm; assumption) | (simp; done) | (simp <;> omega)))))) hb20
                        obtain ⟨z20_6, c20_6, f20_6⟩ := id B20_6
                        have B20_7 : Blk w20 (g19_0) _ := Blk.below (by repeat (with_reducible (first | assumption | (apply Blk.at; simp; done) | apply Blk.alloc | apply Blk.drew | apply Blk.drewN | apply Blk.more | apply Blk.put | (apply Blk.far; focus (first | assumption | (apply Ne.symm; assumption) | (simp; done) | (simp <;> omega)))))) hb20
                        try simp only [List.setIfInBounds_toArray] at B20_7
                        try simp only [List.set_cons_succ] at B20_7
                        try simp only [List.set_cons_zero] at B20_7
                        obtain ⟨z20_7, c20_7, f20_7⟩ := id B20_7
                        have hT20 : Tab w20 b n 17 M1 := ((show Tab _ b n 17 M1 from (by repeat (with_reducible (first | assumption | apply Tab.alloc | apply Tab.drew | apply Tab.drewN | apply Tab.more | (apply Tab.far; focus (first | assumption | (apply Ne.symm; assumption) | (simp; done) | (simp <;> omega)))))))).below hb20
                        clear B19_0 z19_0 c19_0 f19_0 B19_1 z19_1 c19_1 f19_1 B19_2 z19_2 c19_2 f19_2 B19_3 z19_3 c19_3 f19_3 B19_4 z19_4 c19_4 f19_4 B19_5 z19_5 c19_5 f19_5 B19_6 z19_6 c19_6 f19_6 hT19 G19_0 zg19_0 cg19_0 fg19_0
                        have hB20 : Below w.heap.size w w20 := (by repeat (with_reducible (first | exact Below.refl _ _ | assumption | apply ext_drew | apply ext_drewN | apply ext_alloc | apply ext_more | (refine ext_setCell ?_ (by first | assumption | (simp <;> omega)) _) | (refine ext_below ?_ (by assumption)))))
                        have ms20 : w.heap.size ≤ w20.heap.size := hB20.size
                        clear hb19 hb20
                        refine region_grow (A := ?A21C) 9 [19] (fun _ => #[.int .i64 0, .int .i64 0, .int .i64 0]) (by kernel_rfl) (by kernel_rfl) ?hrun21C ?hq21C ?htail21C
                        case hq21C =>
                          intro w0 hb0
                          simp only [List.take_succ_cons, List.take_zero]
                          have B0_0 : Blk w0 _ _ := B20_0.below hb0
                          obtain ⟨z0_0, c0_0, f0_0⟩ := id B0_0
                          have B0_1 : Blk w0 _ _ := B20_1.below hb0
                          obtain ⟨z0_1, c0_1, f0_1⟩ := id B0_1
                          have B0_2 : Blk w0 _ _ := B20_2.below hb0
                          obtain ⟨z0_2, c0_2, f0_2⟩ := id B0_2
                          have B0_3 : Blk w0 _ _ := B20_3.below hb0
                          obtain ⟨z0_3, c0_3, f0_3⟩ := id B0_3
                          have B0_4 : Blk w0 _ _ := B20_4.below hb0
                          obtain ⟨z0_4, c0_4, f0_4⟩ := id B0_4
                          have B0_5 : Blk w0 _ _ := B20_5.below hb0
                          obtain ⟨z0_5, c0_5, f0_5⟩ := id B0_5
                          have B0_6 : Blk w0 _ _ := B20_6.below hb0
                          obtain ⟨z0_6, c0_6, f0_6⟩ := id B0_6
                          have B0_7 : Blk w0 _ _ := B20_7.below hb0
                          obtain ⟨z0_7, c0_7, f0_7⟩ := id B0_7
                          have hT0_ : Tab w0 b n 17 M1 := hT20.below hb0
                          repeat (go_big_quiet_step ((first | (go_at_call 65; exact calls_after (calls_v (rdot_c _ _ _ _ _ _ _) HDV.out)) | (go_at_call 63; exact calls_after (rtimes_c _ _ _ _ _)) | (go_at_call 61; exact calls_after (calls_v3 (rminus_c _ _ _ _ _ _ _) HS1.out HS2.out HS3.out)))))
                          refine wpQuiet_nil ?_
                          rfl
                        case hrun21C =>
                          intro j hj
                          match j, hj with
                          | 0, _ => exact ⟨_, _, rfl, fun a w => by simp [go_sem]; rfl⟩
                        case htail21C =>
                          intro gs w21 hb21 hblk hne
                          obtain ⟨G21_0, hg21_0⟩ := hblk 0 (by decide)
                          simp only [List.drop_succ_cons, List.drop_zero, List.length_cons, List.length_nil, laySlots]
                          clear hblk hne
                          generalize gs 0 = g21_0 at *
                          have B21_0 : Blk w21 _ _ := B20_0.below hb21
                          obtain ⟨z21_0, c21_0, f21_0⟩ := id B21_0
                          have B21_1 : Blk w21 _ _ := B20_1.below hb21
                          obtain ⟨z21_1, c21_1, f21_1⟩ := id B21_1
                          have B21_2 : Blk w21 _ _ := B20_2.below hb21
                          obtain ⟨z21_2, c21_2, f21_2⟩ := id B21_2
                          have B21_3 : Blk w21 _ _ := B20_3.below hb21
                          obtain ⟨z21_3, c21_3, f21_3⟩ := id B21_3
                          have B21_4 : Blk w21 _ _ := B20_4.below hb21
                          obtain ⟨z21_4, c21_4, f21_4⟩ := id B21_4
                          have B21_5 : Blk w21 _ _ := B20_5.below hb21
                          obtain ⟨z21_5, c21_5, f21_5⟩ := id B21_5
                          have B21_6 : Blk w21 _ _ := B20_6.below hb21
                          obtain ⟨z21_6, c21_6, f21_6⟩ := id B21_6
                          have B21_7 : Blk w21 _ _ := B20_7.below hb21
                          obtain ⟨z21_7, c21_7, f21_7⟩ := id B21_7
                          obtain ⟨zg21_0, cg21_0, fg21_0⟩ := id G21_0
                          have ne21_0_0 : g21_0 ≠ w.heap.size := by omega
                          have ne21_0_1 : g21_0 ≠ w1.heap.size := by omega
                          have ne21_0_2 : g21_0 ≠ wr.heap.size := by omega
                          have ne21_0_3 : g21_0 ≠ g11_0 := by omega
                          have ne21_0_4 : g21_0 ≠ g11_1 := by omega
                          have ne21_0_5 : g21_0 ≠ g13_0 := by omega
                          have ne21_0_6 : g21_0 ≠ g13_1 := by omega
                          have ne21_0_7 : g21_0 ≠ g19_0 := by omega
                          have hT21 : Tab w21 b n 17 M1 := hT20.below hb21
                          have nt21_0 : g21_0 ≠ b := by have := hT20.lt; omega
                          have lb21_0 : w.heap.size ≤ g21_0 := Nat.le_trans ms20 hg21_0
                          clear hg21_0
                          clear B20_0 z20_0 c20_0 f20_0 B20_1 z20_1 c20_1 f20_1 B20_2 z20_2 c20_2 f20_2 B20_3 z20_3 c20_3 f20_3 B20_4 z20_4 c20_4 f20_4 B20_5 z20_5 c20_5 f20_5 B20_6 z20_6 c20_6 f20_6 B20_7 z20_7 c20_7 f20_7 hT20
                          go_wp2_with fail
                          refine (calls_v (rlong_c _ _ _ _) HLG.out).mono ?_
                          rintro e w22 ⟨rfl, hb22⟩
                          have B22_0 : Blk w22 (w.heap.size) _ := Blk.below (by repeat (with_reducible (first | assumption | (apply Blk.at; simp; done) | apply Blk.alloc | apply Blk.drew | apply Blk.drewN | apply Blk.more | apply Blk.put | (apply Blk.far; focus (first | assumption | (apply Ne.symm; assumption) | (simp; done) | (simp <;> omega)))))) hb22
                          obtain ⟨z22_0, c22_0, f22_0⟩ := id B22_0
                          have B22_1 : Blk w22 (w1.heap.size) _ := Blk.below (by repeat (with_reducible (first | assumption | (apply Blk.at; simp; done) | apply Blk.alloc | apply Blk.drew | apply Blk.drewN | apply Blk.more | apply Blk.put | (apply Blk.far; focus (first | assumption | (apply Ne.symm; assumption) | (simp; done) | (simp <;> omega)))))) hb22
                          obtain ⟨z22_1, c22_1, f22_1⟩ := id B22_1
                          have B22_2 : Blk w22 (wr.heap.size) _ := Blk.below (by repeat (with_reducible (first | assumption | (apply Blk.at; simp; done) | apply Blk.alloc | apply Blk.drew | apply Blk.drewN | apply Blk.more | apply Blk.put | (apply Blk.far; focus (first | assumption | (apply Ne.symm; assumption) | (simp; done) | (simp <;> omega)))))) hb22
                          obtain ⟨z22_2, c22_2, f22_2⟩ := id B22_2
                          have B22_3 : Blk w22 (g11_0) _ := Blk.below (by repeat (with_reducible (first | assumption | (apply Blk.at; simp; done) | apply Blk.alloc | apply Blk.drew | apply Blk.drewN | apply Blk.more | apply Blk.put | (apply Blk.far; focus (first | assumption | (apply Ne.symm; assumption) | (simp; done) | (simp <;> omega)))))) hb22
                          obtain ⟨z22_3, c22_3, f22_3⟩ := id B22_3
                          have B22_4 : Blk w22 (g11_1) _ := Blk.below (by repeat (with_reducible (first | assumption | (apply Blk.at; simp; done) | apply Blk.alloc | apply Blk.drew | apply Blk.drewN | apply Blk.more | apply Blk.put | (apply Blk.far; focus (first | assumption | (apply Ne.symm; assumption) | (simp; done) | (simp <;> omega)))))) hb22
                          obtain ⟨z22_4, c22_4, f22_4⟩ := id B22_4
                          have B22_5 : Blk w22 (g13_0) _ := Blk.below (by repeat (with_reducible (first | assumption | (apply Blk.at; simp; done) | apply Blk.alloc | apply Blk.drew | apply Blk.drewN | apply Blk.more | apply Blk.put | (apply Blk.far; focus (first | assumption | (apply Ne.symm; assumption) | (simp; done) | (simp <;> omega)))))) hb22
                          obtain ⟨z22_5, c22_5, f22_5⟩ := id B22_5
                          have B22_6 : Blk w22 (g13_1) _ := Blk.below (by repeat (with_reducible (first | assumption | (apply Blk.at; simp; done) | apply Blk.alloc | apply Blk.drew | apply Blk.drewN | apply Blk.more | apply Blk.put | (apply Blk.far; focus (first | assumption | (apply Ne.symm; assumption) | (simp; done) | (simp <;> omega)))))) hb22
                          obtain ⟨z22_6, c22_6, f22_6⟩ := id B22_6
                          have B22_7 : Blk w22 (g19_0) _ := Blk.below (by repeat (with_reducible (first | assumption | (apply Blk.at; simp; done) | apply Blk.alloc | apply Blk.drew | apply Blk.drewN | apply Blk.more | apply Blk.put | (apply Blk.far; focus (first | assumption | (apply Ne.symm; assumption) | (simp; done) | (simp <;> omega)))))) hb22
                          obtain ⟨z22_7, c22_7, f22_7⟩ := id B22_7
                          have B22_8 : Blk w22 (g21_0) _ := Blk.below (by repeat (with_reducible (first | assumption | (apply Blk.at; simp; done) | apply Blk.alloc | apply Blk.drew | apply Blk.drewN | apply Blk.more | apply Blk.put | (apply Blk.far; focus (first | assumption | (apply Ne.symm; assumption) | (simp; done) | (simp <;> omega)))))) hb22
                          try simp only [List.setIfInBounds_toArray] at B22_8
                          try simp only [List.set_cons_succ] at B22_8
                          try simp only [List.set_cons_zero] at B22_8
                          obtain ⟨z22_8, c22_8, f22_8⟩ := id B22_8
                          have hT22 : Tab w22 b n 17 M1 := ((show Tab _ b n 17 M1 from (by repeat (with_reducible (first | assumption | apply Tab.alloc | apply Tab.drew | apply Tab.drewN | apply Tab.more | (apply Tab.far; focus (first | assumption | (apply Ne.symm; assumption) | (simp; done) | (simp <;> omega)))))))).below hb22
                          clear B21_0 z21_0 c21_0 f21_0 B21_1 z21_1 c21_1 f21_1 B21_2 z21_2 c21_2 f21_2 B21_3 z21_3 c21_3 f21_3 B21_4 z21_4 c21_4 f21_4 B21_5 z21_5 c21_5 f21_5 B21_6 z21_6 c21_6 f21_6 B21_7 z21_7 c21_7 f21_7 hT21 G21_0 zg21_0 cg21_0 fg21_0
                          go_wp2_with fail
                          go_roundw
                          case rel => exact ⟨k + 1, by omega, by go_num, by rw [HGO.out i j HA.out HB.out hne, push_some HX.out HY.out HAL.out HDN.out h1 (by omega) HJ.out HM1.out HDV.out HS1.out HS2.out HS3.out HLG.out]; unfold endM; rw [if_neg (by omega)]; exact fun hn0 => ⟨b, rfl, hbb, (by repeat (with_reducible (first | assumption | apply Tab.alloc | apply Tab.drew | apply Tab.drewN | apply Tab.more | (apply Tab.far; focus (first | assumption | (apply Ne.symm; assumption) | (simp; done) | (simp <;> omega))))))⟩, (by repeat (with_reducible (first | assumption | (apply Blk.at; simp; done) | apply Blk.alloc | apply Blk.drew | apply Blk.drewN | apply Blk.more | apply Blk.put | (apply Blk.far; focus (first | assumption | (apply Ne.symm; assumption) | (simp; done) | (simp <;> omega)))))), (by repeat (with_reducible (first | assumption | (apply Blk.at; simp; done) | apply Blk.alloc | apply Blk.drew | apply Blk.drewN | apply Blk.more | apply Blk.put | (apply Blk.far; focus (first | assumption | (apply Ne.symm; assumption) | (simp; done) | (simp <;> omega)))))), (by repeat (with_reducible (first | exact Below.refl _ _ | assumption | apply ext_drew | apply ext_drewN | apply ext_alloc | apply ext_more | (refine ext_setCell ?_ (by first | assumption | (simp <;> omega)) _) | (refine ext_below ?_ (by assumption)))))⟩
                          case measure => simp [intOf]; omega
                have h3' : (lg == 0) = false := by simpa using h3
                have h3'' : (lg != 0) = true := by simpa using h3
                obtain ⟨mj, hHMJ⟩ : ∃ v, mul jj ru = v := ⟨_, rfl⟩
                have HMJ := Lib.hid hHMJ
                clear hHMJ
                obtain ⟨dj, hHDJ⟩ : ∃ v, div lg al = v := ⟨_, rfl⟩
                have HDJ := Lib.hid hHDJ
                clear hHDJ
                have hm1 : -70368744177664 ≤ mj ∧ mj ≤ 70368744177664 := by rw [← HMJ.out]; exact mul_bd _ _
                have hm2 : -70368744177664 ≤ dj ∧ dj ≤ 70368744177664 := by rw [← HDJ.out]; exact div_bd _ _
                have hlp : 0 < lg := by omega
                have HLP := Lib.hid hlp
                clear hlp
                by_cases h4 : dj < mj
                · have HMIN := Lib.hid (Int.min_eq_right (Int.le_of_lt h4))
                  have hT9 := hTk
                  have hblt := hTk.lt
                  have nbw : b ≠ wr.heap.size := by omega
                  have nlb : w.heap.size ≠ b := by omega
                  have lw1 : w.heap.size ≤ w1.heap.size := by omega
                  go_wp2_with fail
                  refine wp_fresh ?_
                  rintro w10 hb10
                  have B10_0 : Blk w10 (w.heap.size) _ := Blk.below (by repeat (with_reducible (first | assumption | (apply Blk.at; simp; done) | apply Blk.alloc | apply Blk.drew | apply Blk.drewN | apply Blk.more | apply Blk.put | (apply Blk.far; focus (first | assumption | (apply Ne.symm; assumption) | (simp; done) | (simp <;> omega)))))) hb10
                  obtain ⟨z10_0, c10_0, f10_0⟩ := id B10_0
                  have B10_1 : Blk w10 (w1.heap.size) _ := Blk.below (by repeat (with_reducible (first | assumption | (apply Blk.at; simp; done) | apply Blk.alloc | apply Blk.drew | apply Blk.drewN | apply Blk.more | apply Blk.put | (apply Blk.far; focus (first | assumption | (apply Ne.symm; assumption) | (simp; done) | (simp <;> omega)))))) hb10
                  obtain ⟨z10_1, c10_1, f10_1⟩ := id B10_1
                  have B10_2 : Blk w10 (wr.heap.size) _ := Blk.below (by repeat (with_reducible (first | assumption | (apply Blk.at; simp; done) | apply Blk.alloc | apply Blk.drew | apply Blk.drewN | apply Blk.more | apply Blk.put | (apply Blk.far; focus (first | assumption | (apply Ne.symm; assumption) | (simp; done) | (simp <;> omega)))))) hb10
                  try simp only [List.setIfInBounds_toArray] at B10_2
                  try simp only [List.set_cons_succ] at B10_2
                  try simp only [List.set_cons_zero] at B10_2
                  obtain ⟨z10_2, c10_2, f10_2⟩ := id B10_2
                  have hT10 : Tab w10 b n 17 Mk := ((show Tab _ b n 17 Mk from (by repeat (with_reducible (first | assumption | apply Tab.alloc | apply Tab.drew | apply Tab.drewN | apply Tab.more | (apply Tab.far; focus (first | assumption | (apply Ne.symm; assumption) | (simp; done) | (simp <;> omega)))))))).below hb10
                  have hB10 : Below w.heap.size w w10 := (by repeat (with_reducible (first | exact Below.refl _ _ | assumption | apply ext_drew | apply ext_drewN | apply ext_alloc | apply ext_more | (refine ext_setCell ?_ (by first | assumption | (simp <;> omega)) _) | (refine ext_below ?_ (by assumption)))))
                  have ms10 : w.heap.size ≤ w10.heap.size := hB10.size
                  clear hb10
                  clear hTk hT9 hO hP cp zl cl fl zp fp hL hAp htb
                  refine region_grow (A := ?A11D1) 8 [10, 11] (fun _ => #[.int .i64 0]) (by kernel_rfl) (by kernel_rfl) ?hrun11D1 ?hq11D1 ?htail11D1
                  case hq11D1 =>
                    intro w0 hb0
                    simp only [List.take_succ_cons, List.take_zero]
                    have B0_0 : Blk w0 _ _ := B10_0.below hb0
                    obtain ⟨z0_0, c0_0, f0_0⟩ := id B0_0
                    have B0_1 : Blk w0 _ _ := B10_1.below hb0
                    obtain ⟨z0_1, c0_1, f0_1⟩ := id B0_1
                    have B0_2 : Blk w0 _ _ := B10_2.below hb0
                    obtain ⟨z0_2, c0_2, f0_2⟩ := id B0_2
                    have hT0_ : Tab w0 b n 17 Mk := hT10.below hb0
                    repeat (go_big_quiet_step (first | (go_at_call 108; with_reducible exact calls_after (rindex_c Mk _ n cap tA _ _ hn9 (Own.more (Own.of_tab hT0_) _) HA.out)) | (go_at_call 108; with_reducible exact calls_after (rindex_c Mk _ n cap tB _ _ hn9 (Own.more (Own.of_tab hT0_) _) HB.out))))
                    refine wpQuiet_nil ?_
                    rfl
                  case hrun11D1 =>
                    intro j hj
                    match j, hj with
                    | 0, _ => exact ⟨_, _, rfl, fun a w => by simp [go_sem]; rfl⟩
                    | 1, _ => exact ⟨_, _, rfl, fun a w => by simp [go_sem]; rfl⟩
                  case htail11D1 =>
                    intro gs w11 hb11 hblk hne
                    obtain ⟨G11_0, hg11_0⟩ := hblk 0 (by decide)
                    obtain ⟨G11_1, hg11_1⟩ := hblk 1 (by decide)
                    have hn11_0_1 := hne 0 1 (by decide) (by decide) (by decide)
                    simp only [List.drop_succ_cons, List.drop_zero, List.length_cons, List.length_nil, laySlots]
                    clear hblk hne
                    generalize gs 0 = g11_0 at *
                    generalize gs 1 = g11_1 at *
                    have B11_0 : Blk w11 _ _ := B10_0.below hb11
                    obtain ⟨z11_0, c11_0, f11_0⟩ := id B11_0
                    have B11_1 : Blk w11 _ _ := B10_1.below hb11
                    obtain ⟨z11_1, c11_1, f11_1⟩ := id B11_1
                    have B11_2 : Blk w11 _ _ := B10_2.below hb11
                    obtain ⟨z11_2, c11_2, f11_2⟩ := id B11_2
                    obtain ⟨zg11_0, cg11_0, fg11_0⟩ := id G11_0
                    have ne11_0_0 : g11_0 ≠ w.heap.size := by omega
                    have ne11_0_1 : g11_0 ≠ w1.heap.size := by omega
                    have ne11_0_2 : g11_0 ≠ wr.heap.size := by omega
                    obtain ⟨zg11_1, cg11_1, fg11_1⟩ := id G11_1
                    have ne11_1_0 : g11_1 ≠ w.heap.size := by omega
                    have ne11_1_1 : g11_1 ≠ w1.heap.size := by omega
                    have ne11_1_2 : g11_1 ≠ wr.heap.size := by omega
                    have hT11 : Tab w11 b n 17 Mk := hT10.below hb11
                    have nt11_0 : g11_0 ≠ b := by have := hT10.lt; omega
                    have nt11_1 : g11_1 ≠ b := by have := hT10.lt; omega
                    have lb11_0 : w.heap.size ≤ g11_0 := Nat.le_trans ms10 hg11_0
                    have lb11_1 : w.heap.size ≤ g11_1 := Nat.le_trans ms10 hg11_1
                    clear hg11_0 hg11_1
                    clear B10_0 z10_0 c10_0 f10_0 B10_1 z10_1 c10_1 f10_1 B10_2 z10_2 c10_2 f10_2 hT10
                    go_wp2_with fail
                    refine wp_fresh ?_
                    rintro w12 hb12
                    have B12_0 : Blk w12 (w.heap.size) _ := Blk.below (by repeat (with_reducible (first | assumption | (apply Blk.at; simp; done) | apply Blk.alloc | apply Blk.drew | apply Blk.drewN | apply Blk.more | apply Blk.put | (apply Blk.far; focus (first | assumption | (apply Ne.symm; assumption) | (simp; done) | (simp <;> omega)))))) hb12
                    obtain ⟨z12_0, c12_0, f12_0⟩ := id B12_0
                    have B12_1 : Blk w12 (w1.heap.size) _ := Blk.below (by repeat (with_reducible (first | assumption | (apply Blk.at; simp; done) | apply Blk.alloc | apply Blk.drew | apply Blk.drewN | apply Blk.more | apply Blk.put | (apply Blk.far; focus (first | assumption | (apply Ne.symm; assumption) | (simp; done) | (simp <;> omega)))))) hb12
                    obtain ⟨z12_1, c12_1, f12_1⟩ := id B12_1
                    have B12_2 : Blk w12 (wr.heap.size) _ := Blk.below (by repeat (with_reducible (first | assumption | (apply Blk.at; simp; done) | apply Blk.alloc | apply Blk.drew | apply Blk.drewN | apply Blk.more | apply Blk.put | (apply Blk.far; focus (first | assumption | (apply Ne.symm; assumption) | (simp; done) | (simp <;> omega)))))) hb12
                    obtain ⟨z12_2, c12_2, f12_2⟩ := id B12_2
                    have B12_3 : Blk w12 (g11_0) _ := Blk.below (by repeat (with_reducible (first | assumption | (apply Blk.at; simp; done) | apply Blk.alloc | apply Blk.drew | apply Blk.drewN | apply Blk.more | apply Blk.put | (apply Blk.far; focus (first | assumption | (apply Ne.symm; assumption) | (simp; done) | (simp <;> omega)))))) hb12
                    try simp only [List.setIfInBounds_toArray] at B12_3
                    try simp only [List.set_cons_succ] at B12_3
                    try simp only [List.set_cons_zero] at B12_3
                    obtain ⟨z12_3, c12_3, f12_3⟩ := id B12_3
                    have B12_4 : Blk w12 (g11_1) _ := Blk.below (by repeat (with_reducible (first | assumption | (apply Blk.at; simp; done) | apply Blk.alloc | apply Blk.drew | apply Blk.drewN | apply Blk.more | apply Blk.put | (apply Blk.far; focus (first | assumption | (apply Ne.symm; assumption) | (simp; done) | (simp <;> omega)))))) hb12
                    try simp only [List.setIfInBounds_toArray] at B12_4
                    try simp only [List.set_cons_succ] at B12_4
                    try simp only [List.set_cons_zero] at B12_4
                    obtain ⟨z12_4, c12_4, f12_4⟩ := id B12_4
                    have hT12 : Tab w12 b n 17 Mk := ((show Tab _ b n 17 Mk from (by repeat (with_reducible (first | assumption | apply Tab.alloc | apply Tab.drew | apply Tab.drewN | apply Tab.more | (apply Tab.far; focus (first | assumption | (apply Ne.symm; assumption) | (simp; done) | (simp <;> omega)))))))).below hb12
                    clear B11_0 z11_0 c11_0 f11_0 B11_1 z11_1 c11_1 f11_1 B11_2 z11_2 c11_2 f11_2 hT11 G11_0 zg11_0 cg11_0 fg11_0 G11_1 zg11_1 cg11_1 fg11_1
                    have hB12 : Below w.heap.size w w12 := (by repeat (with_reducible (first | exact Below.refl _ _ | assumption | apply ext_drew | apply ext_drewN | apply ext_alloc | apply ext_more | (refine ext_setCell ?_ (by first | assumption | (simp <;> omega)) _) | (refine ext_below ?_ (by assumption)))))
                    have ms12 : w.heap.size ≤ w12.heap.size := hB12.size
                    clear hb11 hb12
                    refine region_grow (A := ?A13D1) 10 [12, 13] (fun _ => #[.int .i64 0]) (by kernel_rfl) (by kernel_rfl) ?hrun13D1 ?hq13D1 ?htail13D1
                    case hq13D1 =>
                      intro w0 hb0
                      simp only [List.take_succ_cons, List.take_zero]
                      have B0_0 : Blk w0 _ _ := B12_0.below hb0
                      obtain ⟨z0_0, c0_0, f0_0⟩ := id B0_0
                      have B0_1 : Blk w0 _ _ := B12_1.below hb0
                      obtain ⟨z0_1, c0_1, f0_1⟩ := id B0_1
                      have B0_2 : Blk w0 _ _ := B12_2.below hb0
                      obtain ⟨z0_2, c0_2, f0_2⟩ := id B0_2
                      have B0_3 : Blk w0 _ _ := B12_3.below hb0
                      obtain ⟨z0_3, c0_3, f0_3⟩ := id B0_3
                      have B0_4 : Blk w0 _ _ := B12_4.below hb0
                      obtain ⟨z0_4, c0_4, f0_4⟩ := id B0_4
                      have hT0_ : Tab w0 b n 17 Mk := hT12.below hb0
                      have zt := hT0_.lt
                      iterate 3 go_big_quiet_step (fail)
                      go_big_quiet_want
                      refine quiet_body hT0_ hi (.tmp 62) rfl rfl ?_
                      simp only [Act.put, List.setIfInBounds_toArray, List.set_cons_zero, List.set_cons_succ]
                      go_big_quiet_on
                      go_big_quiet_step ((go_at_call 109; exact calls_after (calls_v (rlight_c _ _ _ _ _ _ _ _ _ _ _ _ _ _ _ _ _ _) HX.out)))
                      iterate 3 go_big_quiet_step (fail)
                      go_big_quiet_want
                      refine quiet_body hT0_ hj (.tmp 67) rfl rfl ?_
                      simp only [Act.put, List.setIfInBounds_toArray, List.set_cons_zero, List.set_cons_succ]
                      go_big_quiet_on
                      go_big_quiet_step ((go_at_call 109; exact calls_after (calls_v (rlight_c _ _ _ _ _ _ _ _ _ _ _ _ _ _ _ _ _ _) HY.out)))
                      refine wpQuiet_nil ?_
                      rfl
                    case hrun13D1 =>
                      intro j hj
                      match j, hj with
                      | 0, _ => exact ⟨_, _, rfl, fun a w => by simp [go_sem]; rfl⟩
                      | 1, _ => exact ⟨_, _, rfl, fun a w => by simp [go_sem]; rfl⟩
                    case htail13D1 =>
                      intro gs w13 hb13 hblk hne
                      obtain ⟨G13_0, hg13_0⟩ := hblk 0 (by decide)
                      obtain ⟨G13_1, hg13_1⟩ := hblk 1 (by decide)
                      have hn13_0_1 := hne 0 1 (by decide) (by decide) (by decide)
                      simp only [List.drop_succ_cons, List.drop_zero, List.length_cons, List.length_nil, laySlots]
                      clear hblk hne
                      generalize gs 0 = g13_0 at *
                      generalize gs 1 = g13_1 at *
                      have B13_0 : Blk w13 _ _ := B12_0.below hb13
                      obtain ⟨z13_0, c13_0, f13_0⟩ := id B13_0
                      have B13_1 : Blk w13 _ _ := B12_1.below hb13
                      obtain ⟨z13_1, c13_1, f13_1⟩ := id B13_1
                      have B13_2 : Blk w13 _ _ := B12_2.below hb13
                      obtain ⟨z13_2, c13_2, f13_2⟩ := id B13_2
                      have B13_3 : Blk w13 _ _ := B12_3.below hb13
                      obtain ⟨z13_3, c13_3, f13_3⟩ := id B13_3
                      have B13_4 : Blk w13 _ _ := B12_4.below hb13
                      obtain ⟨z13_4, c13_4, f13_4⟩ := id B13_4
                      obtain ⟨zg13_0, cg13_0, fg13_0⟩ := id G13_0
                      have ne13_0_0 : g13_0 ≠ w.heap.size := by omega
                      have ne13_0_1 : g13_0 ≠ w1.heap.size := by omega
                      have ne13_0_2 : g13_0 ≠ wr.heap.size := by omega
                      have ne13_0_3 : g13_0 ≠ g11_0 := by omega
                      have ne13_0_4 : g13_0 ≠ g11_1 := by omega
                      obtain ⟨zg13_1, cg13_1, fg13_1⟩ := id G13_1
                      have ne13_1_0 : g13_1 ≠ w.heap.size := by omega
                      have ne13_1_1 : g13_1 ≠ w1.heap.size := by omega
                      have ne13_1_2 : g13_1 ≠ wr.heap.size := by omega
                      have ne13_1_3 : g13_1 ≠ g11_0 := by omega
                      have ne13_1_4 : g13_1 ≠ g11_1 := by omega
                      have hT13 : Tab w13 b n 17 Mk := hT12.below hb13
                      have nt13_0 : g13_0 ≠ b := by have := hT12.lt; omega
                      have nt13_1 : g13_1 ≠ b := by have := hT12.lt; omega
                      have lb13_0 : w.heap.size ≤ g13_0 := Nat.le_trans ms12 hg13_0
                      have lb13_1 : w.heap.size ≤ g13_1 := Nat.le_trans ms12 hg13_1
                      clear hg13_0 hg13_1
                      clear B12_0 z12_0 c12_0 f12_0 B12_1 z12_1 c12_1 f12_1 B12_2 z12_2 c12_2 f12_2 B12_3 z12_3 c12_3 f12_3 B12_4 z12_4 c12_4 f12_4 hT12
                      go_wp2_with fail
                      refine (calls_v (radd_c _ _ _) HAL.out).mono ?_
                      rintro e w' ⟨rfl, rfl⟩
                      go_wp2_with fail
                      refine wp_fresh ?_
                      rintro w14 hb14
                      have B14_0 : Blk w14 (w.heap.size) _ := Blk.below (by repeat (with_reducible (first | assumption | (apply Blk.at; simp; done) | apply Blk.alloc | apply Blk.drew | apply Blk.drewN | apply Blk.more | apply Blk.put | (apply Blk.far; focus (first | assumption | (apply Ne.symm; assumption) | (simp; done) | (simp <;> omega)))))) hb14
                      obtain ⟨z14_0, c14_0, f14_0⟩ := id B14_0
                      have B14_1 : Blk w14 (w1.heap.size) _ := Blk.below (by repeat (with_reducible (first | assumption | (apply Blk.at; simp; done) | apply Blk.alloc | apply Blk.drew | apply Blk.drewN | apply Blk.more | apply Blk.put | (apply Blk.far; focus (first | assumption | (apply Ne.symm; assumption) | (simp; done) | (simp <;> omega)))))) hb14
                      obtain ⟨z14_1, c14_1, f14_1⟩ := id B14_1
                      have B14_2 : Blk w14 (wr.heap.size) _ := Blk.below (by repeat (with_reducible (first | assumption | (apply Blk.at; simp; done) | apply Blk.alloc | apply Blk.drew | apply Blk.drewN | apply Blk.more | apply Blk.put | (apply Blk.far; focus (first | assumption | (apply Ne.symm; assumption) | (simp; done) | (simp <;> omega)))))) hb14
                      obtain ⟨z14_2, c14_2, f14_2⟩ := id B14_2
                      have B14_3 : Blk w14 (g11_0) _ := Blk.below (by repeat (with_reducible (first | assumption | (apply Blk.at; simp; done) | apply Blk.alloc | apply Blk.drew | apply Blk.drewN | apply Blk.more | apply Blk.put | (apply Blk.far; focus (first | assumption | (apply Ne.symm; assumption) | (simp; done) | (simp <;> omega)))))) hb14
                      obtain ⟨z14_3, c14_3, f14_3⟩ := id B14_3
                      have B14_4 : Blk w14 (g11_1) _ := Blk.below (by repeat (with_reducible (first | assumption | (apply Blk.at; simp; done) | apply Blk.alloc | apply Blk.drew | apply Blk.drewN | apply Blk.more | apply Blk.put | (apply Blk.far; focus (first | assumption | (apply Ne.symm; assumption) | (simp; done) | (simp <;> omega)))))) hb14
                      obtain ⟨z14_4, c14_4, f14_4⟩ := id B14_4
                      have B14_5 : Blk w14 (g13_0) _ := Blk.below (by repeat (with_reducible (first | assumption | (apply Blk.at; simp; done) | apply Blk.alloc | apply Blk.drew | apply Blk.drewN | apply Blk.more | apply Blk.put | (apply Blk.far; focus (first | assumption | (apply Ne.symm; assumption) | (simp; done) | (simp <;> omega)))))) hb14
                      try simp only [List.setIfInBounds_toArray] at B14_5
                      try simp only [List.set_cons_succ] at B14_5
                      try simp only [List.set_cons_zero] at B14_5
                      obtain ⟨z14_5, c14_5, f14_5⟩ := id B14_5
                      have B14_6 : Blk w14 (g13_1) _ := Blk.below (by repeat (with_reducible (first | assumption | (apply Blk.at; simp; done) | apply Blk.alloc | apply Blk.drew | apply Blk.drewN | apply Blk.more | apply Blk.put | (apply Blk.far; focus (first | assumption | (apply Ne.symm; assumption) | (simp; done) | (simp <;> omega)))))) hb14
                      try simp only [List.setIfInBounds_toArray] at B14_6
                      try simp only [List.set_cons_succ] at B14_6
                      try simp only [List.set_cons_zero] at B14_6
                      obtain ⟨z14_6, c14_6, f14_6⟩ := id B14_6
                      have hT14 : Tab w14 b n 17 Mk := ((show Tab _ b n 17 Mk from (by repeat (with_reducible (first | assumption | apply Tab.alloc | apply Tab.drew | apply Tab.drewN | apply Tab.more | (apply Tab.far; focus (first | assumption | (apply Ne.symm; assumption) | (simp; done) | (simp <;> omega)))))))).below hb14
                      clear B13_0 z13_0 c13_0 f13_0 B13_1 z13_1 c13_1 f13_1 B13_2 z13_2 c13_2 f13_2 B13_3 z13_3 c13_3 f13_3 B13_4 z13_4 c13_4 f13_4 hT13 G13_0 zg13_0 cg13_0 fg13_0 G13_1 zg13_1 cg13_1 fg13_1
                      have ak9 := hT14.cell hj (j := 9) (by decide)
                      have ai9 := hT14.cell hi (j := 9) (by decide)
                      have ak10 := hT14.cell hj (j := 10) (by decide)
                      have ai10 := hT14.cell hi (j := 10) (by decide)
                      have ak11 := hT14.cell hj (j := 11) (by decide)
                      have ai11 := hT14.cell hi (j := 11) (by decide)
                      have az := hT14.lt
                      go_wp2_with fail
                      refine region_quiet_but 14 (by kernel_rfl) (by kernel_rfl) ?_
                      simp only [List.take_succ_cons, List.take_zero, List.drop_succ_cons, List.drop_zero]
                      repeat (go_big_quiet_step (first | (go_at_call 61; exact calls_after (rminus_c _ _ _ _ _ _ _)) | (go_at_call 65; exact calls_after (calls_v (rdot_c _ _ _ _ _ _ _) HDN.out))))
                      refine wpQuiet_nil ?_
                      rintro w15 hw15
                      have hb15 := after_below hw15
                      clear hw15
                      have B15_0 : Blk w15 (w.heap.size) _ := Blk.below (by repeat (with_reducible (first | assumption | (apply Blk.at; simp; done) | apply Blk.alloc | apply Blk.drew | apply Blk.drewN | apply Blk.more | apply Blk.put | (apply Blk.far; focus (first | assumption | (apply Ne.symm; assumption) | (simp; done) | (simp <;> omega)))))) hb15
                      obtain ⟨z15_0, c15_0, f15_0⟩ := id B15_0
                      have B15_1 : Blk w15 (w1.heap.size) _ := Blk.below (by repeat (with_reducible (first | assumption | (apply Blk.at; simp; done) | apply Blk.alloc | apply Blk.drew | apply Blk.drewN | apply Blk.more | apply Blk.put | (apply Blk.far; focus (first | assumption | (apply Ne.symm; assumption) | (simp; done) | (simp <;> omega)))))) hb15
                      obtain ⟨z15_1, c15_1, f15_1⟩ := id B15_1
                      have B15_2 : Blk w15 (wr.heap.size) _ := Blk.below (by repeat (with_reducible (first | assumption | (apply Blk.at; simp; done) | apply Blk.alloc | apply Blk.drew | apply Blk.drewN | apply Blk.more | apply Blk.put | (apply Blk.far; focus (first | assumption | (apply Ne.symm; assumption) | (simp; done) | (simp <;> omega)))))) hb15
                      obtain ⟨z15_2, c15_2, f15_2⟩ := id B15_2
                      have B15_3 : Blk w15 (g11_0) _ := Blk.below (by repeat (with_reducible (first | assumption | (apply Blk.at; simp; done) | apply Blk.alloc | apply Blk.drew | apply Blk.drewN | apply Blk.more | apply Blk.put | (apply Blk.far; focus (first | assumption | (apply Ne.symm; assumption) | (simp; done) | (simp <;> omega)))))) hb15
                      obtain ⟨z15_3, c15_3, f15_3⟩ := id B15_3
                      have B15_4 : Blk w15 (g11_1) _ := Blk.below (by repeat (with_reducible (first | assumption | (apply Blk.at; simp; done) | apply Blk.alloc | apply Blk.drew | apply Blk.drewN | apply Blk.more | apply Blk.put | (apply Blk.far; focus (first | assumption | (apply Ne.symm; assumption) | (simp; done) | (simp <;> omega)))))) hb15
                      obtain ⟨z15_4, c15_4, f15_4⟩ := id B15_4
                      have B15_5 : Blk w15 (g13_0) _ := Blk.below (by repeat (with_reducible (first | assumption | (apply Blk.at; simp; done) | apply Blk.alloc | apply Blk.drew | apply Blk.drewN | apply Blk.more | apply Blk.put | (apply Blk.far; focus (first | assumption | (apply Ne.symm; assumption) | (simp; done) | (simp <;> omega)))))) hb15
                      obtain ⟨z15_5, c15_5, f15_5⟩ := id B15_5
                      have B15_6 : Blk w15 (g13_1) _ := Blk.below (by repeat (with_reducible (first | assumption | (apply Blk.at; simp; done) | apply Blk.alloc | apply Blk.drew | apply Blk.drewN | apply Blk.more | apply Blk.put | (apply Blk.far; focus (first | assumption | (apply Ne.symm; assumption) | (simp; done) | (simp <;> omega)))))) hb15
                      obtain ⟨z15_6, c15_6, f15_6⟩ := id B15_6
                      have hT15 : Tab w15 b n 17 Mk := ((show Tab _ b n 17 Mk from (by repeat (with_reducible (first | assumption | apply Tab.alloc | apply Tab.drew | apply Tab.drewN | apply Tab.more | (apply Tab.far; focus (first | assumption | (apply Ne.symm; assumption) | (simp; done) | (simp <;> omega)))))))).below hb15
                      clear B14_0 z14_0 c14_0 f14_0 B14_1 z14_1 c14_1 f14_1 B14_2 z14_2 c14_2 f14_2 B14_3 z14_3 c14_3 f14_3 B14_4 z14_4 c14_4 f14_4 B14_5 z14_5 c14_5 f14_5 B14_6 z14_6 c14_6 f14_6 hT14
                      clear ak9 ai9 ak10 ai10 ak11 ai11
                      go_wp2_with fail
                      go_wp2_with fail
                      with_reducible refine (rmul_c _ _ _).mono ?_
                      rintro e w' ⟨rfl, rfl⟩
                      go_wp2_with fail
                      go_wp2_with fail
                      with_reducible refine (calls_v (rdiv_c _ _ _) HJ.out).mono ?_
                      rintro e w' ⟨rfl, rfl⟩
                      go_wp2_with fail
                      go_wp2_with fail
                      refine calls_here ?_
                      rintro w16 hb16
                      have B16_0 : Blk w16 (w.heap.size) _ := Blk.below (by repeat (with_reducible (first | assumption | (apply Blk.at; simp; done) | apply Blk.alloc | apply Blk.drew | apply Blk.drewN | apply Blk.more | apply Blk.put | (apply Blk.far; focus (first | assumption | (apply Ne.symm; assumption) | (simp; done) | (simp <;> omega)))))) hb16
                      obtain ⟨z16_0, c16_0, f16_0⟩ := id B16_0
                      have B16_1 : Blk w16 (w1.heap.size) _ := Blk.below (by repeat (with_reducible (first | assumption | (apply Blk.at; simp; done) | apply Blk.alloc | apply Blk.drew | apply Blk.drewN | apply Blk.more | apply Blk.put | (apply Blk.far; focus (first | assumption | (apply Ne.symm; assumption) | (simp; done) | (simp <;> omega)))))) hb16
                      obtain ⟨z16_1, c16_1, f16_1⟩ := id B16_1
                      have B16_2 : Blk w16 (wr.heap.size) _ := Blk.below (by repeat (with_reducible (first | assumption | (apply Blk.at; simp; done) | apply Blk.alloc | apply Blk.drew | apply Blk.drewN | apply Blk.more | apply Blk.put | (apply Blk.far; focus (first | assumption | (apply Ne.symm; assumption) | (simp; done) | (simp <;> omega)))))) hb16
                      obtain ⟨z16_2, c16_2, f16_2⟩ := id B16_2
                      have B16_3 : Blk w16 (g11_0) _ := Blk.below (by repeat (with_reducible (first | assumption | (apply Blk.at; simp; done) | apply Blk.alloc | apply Blk.drew | apply Blk.drewN | apply Blk.more | apply Blk.put | (apply Blk.far; focus (first | assumption | (apply Ne.symm; assumption) | (simp; done) | (simp <;> omega)))))) hb16
                      obtain ⟨z16_3, c16_3, f16_3⟩ := id B16_3
                      have B16_4 : Blk w16 (g11_1) _ := Blk.below (by repeat (with_reducible (first | assumption | (apply Blk.at; simp; done) | apply Blk.alloc | apply Blk.drew | apply Blk.drewN | apply Blk.more | apply Blk.put | (apply Blk.far; focus (first | assumption | (apply Ne.symm; assumption) | (simp; done) | (simp <;> omega)))))) hb16
                      obtain ⟨z16_4, c16_4, f16_4⟩ := id B16_4
                      have B16_5 : Blk w16 (g13_0) _ := Blk.below (by repeat (with_reducible (first | assumption | (apply Blk.at; simp; done) | apply Blk.alloc | apply Blk.drew | apply Blk.drewN | apply Blk.more | apply Blk.put | (apply Blk.far; focus (first | assumption | (apply Ne.symm; assumption) | (simp; done) | (simp <;> omega)))))) hb16
                      obtain ⟨z16_5, c16_5, f16_5⟩ := id B16_5
                      have B16_6 : Blk w16 (g13_1) _ := Blk.below (by repeat (with_reducible (first | assumption | (apply Blk.at; simp; done) | apply Blk.alloc | apply Blk.drew | apply Blk.drewN | apply Blk.more | apply Blk.put | (apply Blk.far; focus (first | assumption | (apply Ne.symm; assumption) | (simp; done) | (simp <;> omega)))))) hb16
                      obtain ⟨z16_6, c16_6, f16_6⟩ := id B16_6
                      have hT16 : Tab w16 b n 17 Mk := ((show Tab _ b n 17 Mk from (by repeat (with_reducible (first | assumption | apply Tab.alloc | apply Tab.drew | apply Tab.drewN | apply Tab.more | (apply Tab.far; focus (first | assumption | (apply Ne.symm; assumption) | (simp; done) | (simp <;> omega)))))))).below hb16
                      clear B15_0 z15_0 c15_0 f15_0 B15_1 z15_1 c15_1 f15_1 B15_2 z15_2 c15_2 f15_2 B15_3 z15_3 c15_3 f15_3 B15_4 z15_4 c15_4 f15_4 B15_5 z15_5 c15_5 f15_5 B15_6 z15_6 c15_6 f15_6 hT15
                      have hbl16 := hT16.lt
                      with_reducible refine (rgive_c Mk b n i j g1 g2 g3 jj x y cap (w1.heap.size) (g11_0) (g13_0) (g11_1) (g13_1) _ hT16 hi hj hne B16_1 (Nat.ne_of_lt nbp) B16_3 nt11_0.symm B16_5 nt13_0.symm B16_4 nt11_1.symm B16_6 nt13_1.symm).mono ?_
                      rintro e w17 ⟨rfl, hT17, hm17⟩
                      have hB16 : Below w.heap.size w w16 := (by repeat (with_reducible (first | exact Below.refl _ _ | assumption | apply ext_drew | apply ext_drewN | apply ext_alloc | apply ext_more | (refine ext_setCell ?_ (by first | assumption | (simp <;> omega)) _) | (refine ext_below ?_ (by assumption)))))
                      clear hbl16 hb13 hb14 hb15 hb16
                      have hB17 : Below w.heap.size w w17 := hB16.trans (hm17.toBelow hB16.size (fun c hc e => Nat.lt_irrefl _ (Nat.lt_trans hc (Nat.lt_of_lt_of_eq hbb e.symm))))
                      have B17_0 : Blk w17 (w.heap.size) _ := B16_0.mod hm17 (fun e => nlb e)
                      obtain ⟨z17_0, c17_0, f17_0⟩ := id B17_0
                      have B17_1 : Blk w17 (w1.heap.size) _ := B16_1.mod hm17 (fun e => Nat.ne_of_gt nbp e)
                      obtain ⟨z17_1, c17_1, f17_1⟩ := id B17_1
                      have B17_2 : Blk w17 (wr.heap.size) _ := B16_2.mod hm17 (fun e => nbw e.symm)
                      obtain ⟨z17_2, c17_2, f17_2⟩ := id B17_2
                      have B17_3 : Blk w17 (g11_0) _ := B16_3.mod hm17 (fun e => nt11_0 e)
                      obtain ⟨z17_3, c17_3, f17_3⟩ := id B17_3
                      have B17_4 : Blk w17 (g11_1) _ := B16_4.mod hm17 (fun e => nt11_1 e)
                      obtain ⟨z17_4, c17_4, f17_4⟩ := id B17_4
                      have B17_5 : Blk w17 (g13_0) _ := B16_5.mod hm17 (fun e => nt13_0 e)
                      obtain ⟨z17_5, c17_5, f17_5⟩ := id B17_5
                      have B17_6 : Blk w17 (g13_1) _ := B16_6.mod hm17 (fun e => nt13_1 e)
                      obtain ⟨z17_6, c17_6, f17_6⟩ := id B17_6
                      clear B16_0 z16_0 c16_0 f16_0 B16_1 z16_1 c16_1 f16_1 B16_2 z16_2 c16_2 f16_2 B16_3 z16_3 c16_3 f16_3 B16_4 z16_4 c16_4 f16_4 B16_5 z16_5 c16_5 f16_5 B16_6 z16_6 c16_6 f16_6 hT16
                      clear hm17 hB16
                      rw [HM1.out] at hT17
                      go_wp2_with fail
                      refine wp_fresh ?_
                      rintro w18 hb18
                      have B18_0 : Blk w18 (w.heap.size) _ := Blk.below (by repeat (with_reducible (first | assumption | (apply Blk.at; simp; done) | apply Blk.alloc | apply Blk.drew | apply Blk.drewN | apply Blk.more | apply Blk.put | (apply Blk.far; focus (first | assumption | (apply Ne.symm; assumption) | (simp; done) | (simp <;> omega)))))) hb18
                      obtain ⟨z18_0, c18_0, f18_0⟩ := id B18_0
                      have B18_1 : Blk w18 (w1.heap.size) _ := Blk.below (by repeat (with_reducible (first | assumption | (apply Blk.at; simp; done) | apply Blk.alloc | apply Blk.drew | apply Blk.drewN | apply Blk.more | apply Blk.put | (apply Blk.far; focus (first | assumption | (apply Ne.symm; assumption) | (simp; done) | (simp <;> omega)))))) hb18
                      obtain ⟨z18_1, c18_1, f18_1⟩ := id B18_1
                      have B18_2 : Blk w18 (wr.heap.size) _ := Blk.below (by repeat (with_reducible (first | assumption | (apply Blk.at; simp; done) | apply Blk.alloc | apply Blk.drew | apply Blk.drewN | apply Blk.more | apply Blk.put | (apply Blk.far; focus (first | assumption | (apply Ne.symm; assumption) | (simp; done) | (simp <;> omega)))))) hb18
                      obtain ⟨z18_2, c18_2, f18_2⟩ := id B18_2
                      have B18_3 : Blk w18 (g11_0) _ := Blk.below (by repeat (with_reducible (first | assumption | (apply Blk.at; simp; done) | apply Blk.alloc | apply Blk.drew | apply Blk.drewN | apply Blk.more | apply Blk.put | (apply Blk.far; focus (first | assumption | (apply Ne.symm; assumption) | (simp; done) | (simp <;> omega)))))) hb18
                      obtain ⟨z18_3, c18_3, f18_3⟩ := id B18_3
                      have B18_4 : Blk w18 (g11_1) _ := Blk.below (by repeat (with_reducible (first | assumption | (apply Blk.at; simp; done) | apply Blk.alloc | apply Blk.drew | apply Blk.drewN | apply Blk.more | apply Blk.put | (apply Blk.far; focus (first | assumption | (apply Ne.symm; assumption) | (simp; done) | (simp <;> omega)))))) hb18
                      obtain ⟨z18_4, c18_4, f18_4⟩ := id B18_4
                      have B18_5 : Blk w18 (g13_0) _ := Blk.below (by repeat (with_reducible (first | assumption | (apply Blk.at; simp; done) | apply Blk.alloc | apply Blk.drew | apply Blk.drewN | apply Blk.more | apply Blk.put | (apply Blk.far; focus (first | assumption | (apply Ne.symm; assumption) | (simp; done) | (simp <;> omega)))))) hb18
                      obtain ⟨z18_5, c18_5, f18_5⟩ := id B18_5
                      have B18_6 : Blk w18 (g13_1) _ := Blk.below (by repeat (with_reducible (first | assumption | (apply Blk.at; simp; done) | apply Blk.alloc | apply Blk.drew | apply Blk.drewN | apply Blk.more | apply Blk.put | (apply Blk.far; focus (first | assumption | (apply Ne.symm; assumption) | (simp; done) | (simp <;> omega)))))) hb18
                      obtain ⟨z18_6, c18_6, f18_6⟩ := id B18_6
                      have hT18 : Tab w18 b n 17 M1 := ((show Tab _ b n 17 M1 from (by repeat (with_reducible (first | assumption | apply Tab.alloc | apply Tab.drew | apply Tab.drewN | apply Tab.more | (apply Tab.far; focus (first | assumption | (apply Ne.symm; assumption) | (simp; done) | (simp <;> omega)))))))).below hb18
                      clear B17_0 z17_0 c17_0 f17_0 B17_1 z17_1 c17_1 f17_1 B17_2 z17_2 c17_2 f17_2 B17_3 z17_3 c17_3 f17_3 B17_4 z17_4 c17_4 f17_4 B17_5 z17_5 c17_5 f17_5 B17_6 z17_6 c17_6 f17_6 hT17
                      have hB18 : Below w.heap.size w w18 := (by repeat (with_reducible (first | exact Below.refl _ _ | assumption | apply ext_drew | apply ext_drewN | apply ext_alloc | apply ext_more | (refine ext_setCell ?_ (by first | assumption | (simp <;> omega)) _) | (refine ext_below ?_ (by assumption)))))
                      have ms18 : w.heap.size ≤ w18.heap.size := hB18.size
                      clear hb18
                      refine region_grow (A := ?A19D1) 11 [18] (fun _ => #[.int .i64 0, .int .i64 0, .int .i64 0]) (by kernel_rfl) (by kernel_rfl) ?hrun19D1 ?hq19D1 ?htail19D1
                      case hq19D1 =>
                        intro w0 hb0
                        simp only [List.take_succ_cons, List.take_zero]
                        have B0_0 : Blk w0 _ _ := B18_0.below hb0
                        obtain ⟨z0_0, c0_0, f0_0⟩ := id B0_0
                        have B0_1 : Blk w0 _ _ := B18_1.below hb0
                        obtain ⟨z0_1, c0_1, f0_1⟩ := id B0_1
                        have B0_2 : Blk w0 _ _ := B18_2.below hb0
                        obtain ⟨z0_2, c0_2, f0_2⟩ := id B0_2
                        have B0_3 : Blk w0 _ _ := B18_3.below hb0
                        obtain ⟨z0_3, c0_3, f0_3⟩ := id B0_3
                        have B0_4 : Blk w0 _ _ := B18_4.below hb0
                        obtain ⟨z0_4, c0_4, f0_4⟩ := id B0_4
                        have B0_5 : Blk w0 _ _ := B18_5.below hb0
                        obtain ⟨z0_5, c0_5, f0_5⟩ := id B0_5
                        have B0_6 : Blk w0 _ _ := B18_6.below hb0
                        obtain ⟨z0_6, c0_6, f0_6⟩ := id B0_6
                        have hT0_ : Tab w0 b n 17 M1 := hT18.below hb0
                        have bk9 := hT0_.cell hj (j := 9) (by decide)
                        have bi9 := hT0_.cell hi (j := 9) (by decide)
                        have bk10 := hT0_.cell hj (j := 10) (by decide)
                        have bi10 := hT0_.cell hi (j := 10) (by decide)
                        have bk11 := hT0_.cell hj (j := 11) (by decide)
                        have bi11 := hT0_.cell hi (j := 11) (by decide)
                        have bz := hT0_.lt
                        repeat (go_big_quiet_step ((go_at_call 61; exact calls_after (rminus_c _ _ _ _ _ _ _))))
                        refine wpQuiet_nil ?_
                        rfl
                      case hrun19D1 =>
                        intro j hj
                        match j, hj with
                        | 0, _ => exact ⟨_, _, rfl, fun a w => by simp [go_sem]; rfl⟩
                      case htail19D1 =>
                        intro gs w19 hb19 hblk hne
                        obtain ⟨G19_0, hg19_0⟩ := hblk 0 (by decide)
                        simp only [List.drop_succ_cons, List.drop_zero, List.length_cons, List.length_nil, laySlots]
                        clear hblk hne
                        generalize gs 0 = g19_0 at *
                        have B19_0 : Blk w19 _ _ := B18_0.below hb19
                        obtain ⟨z19_0, c19_0, f19_0⟩ := id B19_0
                        have B19_1 : Blk w19 _ _ := B18_1.below hb19
                        obtain ⟨z19_1, c19_1, f19_1⟩ := id B19_1
                        have B19_2 : Blk w19 _ _ := B18_2.below hb19
                        obtain ⟨z19_2, c19_2, f19_2⟩ := id B19_2
                        have B19_3 : Blk w19 _ _ := B18_3.below hb19
                        obtain ⟨z19_3, c19_3, f19_3⟩ := id B19_3
                        have B19_4 : Blk w19 _ _ := B18_4.below hb19
                        obtain ⟨z19_4, c19_4, f19_4⟩ := id B19_4
                        have B19_5 : Blk w19 _ _ := B18_5.below hb19
                        obtain ⟨z19_5, c19_5, f19_5⟩ := id B19_5
                        have B19_6 : Blk w19 _ _ := B18_6.below hb19
                        obtain ⟨z19_6, c19_6, f19_6⟩ := id B19_6
                        obtain ⟨zg19_0, cg19_0, fg19_0⟩ := id G19_0
                        have ne19_0_0 : g19_0 ≠ w.heap.size := by omega
                        have ne19_0_1 : g19_0 ≠ w1.heap.size := by omega
                        have ne19_0_2 : g19_0 ≠ wr.heap.size := by omega
                        have ne19_0_3 : g19_0 ≠ g11_0 := by omega
                        have ne19_0_4 : g19_0 ≠ g11_1 := by omega
                        have ne19_0_5 : g19_0 ≠ g13_0 := by omega
                        have ne19_0_6 : g19_0 ≠ g13_1 := by omega
                        have hT19 : Tab w19 b n 17 M1 := hT18.below hb19
                        have nt19_0 : g19_0 ≠ b := by have := hT18.lt; omega
                        have lb19_0 : w.heap.size ≤ g19_0 := Nat.le_trans ms18 hg19_0
                        clear hg19_0
                        clear B18_0 z18_0 c18_0 f18_0 B18_1 z18_1 c18_1 f18_1 B18_2 z18_2 c18_2 f18_2 B18_3 z18_3 c18_3 f18_3 B18_4 z18_4 c18_4 f18_4 B18_5 z18_5 c18_5 f18_5 B18_6 z18_6 c18_6 f18_6 hT18
                        go_wp2_with fail
                        refine wp_fresh ?_
                        rintro w20 hb20
                        have B20_0 : Blk w20 (w.heap.size) _ := Blk.below (by repeat (with_reducible (first | assumption | (apply Blk.at; simp; done) | apply Blk.alloc | apply Blk.drew | apply Blk.drewN | apply Blk.more | apply Blk.put | (apply Blk.far; focus (first | assumption | (apply Ne.symm; assumption) | (simp; done) | (simp <;> omega)))))) hb20
                        obtain ⟨z20_0, c20_0, f20_0⟩ := id B20_0
                        have B20_1 : Blk w20 (w1.heap.size) _ := Blk.below (by repeat (with_reducible (first | assumption | (apply Blk.at; simp; done) | apply Blk.alloc | apply Blk.drew | apply Blk.drewN | apply Blk.more | apply Blk.put | (apply Blk.far; focus (first | assumption | (apply Ne.symm; assumption) | (simp; done) | (simp <;> omega)))))) hb20
                        obtain ⟨z20_1, c20_1, f20_1⟩ := id B20_1
                        have B20_2 : Blk w20 (wr.heap.size) _ := Blk.below (by repeat (with_reducible (first | assumption | (apply Blk.at; simp; done) | apply Blk.alloc | apply Blk.drew | apply Blk.drewN | apply Blk.more | apply Blk.put | (apply Blk.far; focus (first | assumption | (apply Ne.symm; assumption) | (simp; done) | (simp <;> omega)))))) hb20
                        obtain ⟨z20_2, c20_2, f20_2⟩ := id B20_2
                        have B20_3 : Blk w20 (g11_0) _ := Blk.below (by repeat (with_reducible (first | assumption | (apply Blk.at; simp; done) | apply Blk.alloc | apply Blk.drew | apply Blk.drewN | apply Blk.more | apply Blk.put | (apply Blk.far; focus (first | assumption | (apply Ne.symm; assumption) | (simp; done) | (simp <;> omega)))))) hb20
                        obtain ⟨z20_3, c20_3, f20_3⟩ := id B20_3
                        have B20_4 : Blk w20 (g11_1) _ := Blk.below (by repeat (with_reducible (first | assumption | (apply Blk.at; simp; done) | apply Blk.alloc | apply Blk.drew | apply Blk.drewN | apply Blk.more | apply Blk.put | (apply Blk.far; focus (first | assumption | (apply Ne.symm; assumption) | (simp; done) | (simp <;> omega)))))) hb20
                        obtain ⟨z20_4, c20_4, f20_4⟩ := id B20_4
                        have B20_5 : Blk w20 (g13_0) _ := Blk.below (by repeat (with_reducible (first | assumption | (apply Blk.at; simp; done) | apply Blk.alloc | apply Blk.drew | apply Blk.drewN | apply Blk.more | apply Blk.put | (apply Blk.far; focus (first | assumption | (apply Ne.symm; assumption) | (simp; done) | (simp <;> omega)))))) hb20
                        obtain ⟨z20_5, c20_5, f20_5⟩ := id B20_5
                        have B20_6 : Blk w20 (g13_1) _ := Blk.below (by repeat (with_reducible (first | assumption | (apply Blk.at; simp; done) | apply Blk.alloc | apply Blk.drew | apply Blk.drewN | apply Blk.more | apply Blk.put | (apply Blk.far; focus (first | assumption | (apply Ne.symm; assumption) | (simp; done) | (simp <;> omega)))))) hb20
                        obtain ⟨z20_6, c20_6, f20_6⟩ := id B20_6
                        have B20_7 : Blk w20 (g19_0) _ := Blk.below (by repeat (with_reducible (first | assumption | (apply Blk.at; simp; done) | apply Blk.alloc | apply Blk.drew | apply Blk.drewN | apply Blk.more | apply Blk.put | (apply Blk.far; focus (first | assumption | (apply Ne.symm; assumption) | (simp; done) | (simp <;> omega)))))) hb20
                        try simp only [List.setIfInBounds_toArray] at B20_7
                        try simp only [List.set_cons_succ] at B20_7
                        try simp only [List.set_cons_zero] at B20_7
                        obtain ⟨z20_7, c20_7, f20_7⟩ := id B20_7
                        have hT20 : Tab w20 b n 17 M1 := ((show Tab _ b n 17 M1 from (by repeat (with_reducible (first | assumption | apply Tab.alloc | apply Tab.drew | apply Tab.drewN | apply Tab.more | (apply Tab.far; focus (first | assumption | (apply Ne.symm; assumption) | (simp; done) | (simp <;> omega)))))))).below hb20
                        clear B19_0 z19_0 c19_0 f19_0 B19_1 z19_1 c19_1 f19_1 B19_2 z19_2 c19_2 f19_2 B19_3 z19_3 c19_3 f19_3 B19_4 z19_4 c19_4 f19_4 B19_5 z19_5 c19_5 f19_5 B19_6 z19_6 c19_6 f19_6 hT19 G19_0 zg19_0 cg19_0 fg19_0
                        have hB20 : Below w.heap.size w w20 := (by repeat (with_reducible (first | exact Below.refl _ _ | assumption | apply ext_drew | apply ext_drewN | apply ext_alloc | apply ext_more | (refine ext_setCell ?_ (by first | assumption | (simp <;> omega)) _) | (refine ext_below ?_ (by assumption)))))
                        have ms20 : w.heap.size ≤ w20.heap.size := hB20.size
                        clear hb19 hb20
                        refine region_grow (A := ?A21D1) 9 [19] (fun _ => #[.int .i64 0, .int .i64 0, .int .i64 0]) (by kernel_rfl) (by kernel_rfl) ?hrun21D1 ?hq21D1 ?htail21D1
                        case hq21D1 =>
                          intro w0 hb0
                          simp only [List.take_succ_cons, List.take_zero]
                          have B0_0 : Blk w0 _ _ := B20_0.below hb0
                          obtain ⟨z0_0, c0_0, f0_0⟩ := id B0_0
                          have B0_1 : Blk w0 _ _ := B20_1.below hb0
                          obtain ⟨z0_1, c0_1, f0_1⟩ := id B0_1
                          have B0_2 : Blk w0 _ _ := B20_2.below hb0
                          obtain ⟨z0_2, c0_2, f0_2⟩ := id B0_2
                          have B0_3 : Blk w0 _ _ := B20_3.below hb0
                          obtain ⟨z0_3, c0_3, f0_3⟩ := id B0_3
                          have B0_4 : Blk w0 _ _ := B20_4.below hb0
                          obtain ⟨z0_4, c0_4, f0_4⟩ := id B0_4
                          have B0_5 : Blk w0 _ _ := B20_5.below hb0
                          obtain ⟨z0_5, c0_5, f0_5⟩ := id B0_5
                          have B0_6 : Blk w0 _ _ := B20_6.below hb0
                          obtain ⟨z0_6, c0_6, f0_6⟩ := id B0_6
                          have B0_7 : Blk w0 _ _ := B20_7.below hb0
                          obtain ⟨z0_7, c0_7, f0_7⟩ := id B0_7
                          have hT0_ : Tab w0 b n 17 M1 := hT20.below hb0
                          repeat (go_big_quiet_step ((first | (go_at_call 65; exact calls_after (calls_v (rdot_c _ _ _ _ _ _ _) HDV.out)) | (go_at_call 63; exact calls_after (rtimes_c _ _ _ _ _)) | (go_at_call 61; exact calls_after (calls_v3 (rminus_c _ _ _ _ _ _ _) HS1.out HS2.out HS3.out)))))
                          refine wpQuiet_nil ?_
                          rfl
                        case hrun21D1 =>
                          intro j hj
                          match j, hj with
                          | 0, _ => exact ⟨_, _, rfl, fun a w => by simp [go_sem]; rfl⟩
                        case htail21D1 =>
                          intro gs w21 hb21 hblk hne
                          obtain ⟨G21_0, hg21_0⟩ := hblk 0 (by decide)
                          simp only [List.drop_succ_cons, List.drop_zero, List.length_cons, List.length_nil, laySlots]
                          clear hblk hne
                          generalize gs 0 = g21_0 at *
                          have B21_0 : Blk w21 _ _ := B20_0.below hb21
                          obtain ⟨z21_0, c21_0, f21_0⟩ := id B21_0
                          have B21_1 : Blk w21 _ _ := B20_1.below hb21
                          obtain ⟨z21_1, c21_1, f21_1⟩ := id B21_1
                          have B21_2 : Blk w21 _ _ := B20_2.below hb21
                          obtain ⟨z21_2, c21_2, f21_2⟩ := id B21_2
                          have B21_3 : Blk w21 _ _ := B20_3.below hb21
                          obtain ⟨z21_3, c21_3, f21_3⟩ := id B21_3
                          have B21_4 : Blk w21 _ _ := B20_4.below hb21
                          obtain ⟨z21_4, c21_4, f21_4⟩ := id B21_4
                          have B21_5 : Blk w21 _ _ := B20_5.below hb21
                          obtain ⟨z21_5, c21_5, f21_5⟩ := id B21_5
                          have B21_6 : Blk w21 _ _ := B20_6.below hb21
                          obtain ⟨z21_6, c21_6, f21_6⟩ := id B21_6
                          have B21_7 : Blk w21 _ _ := B20_7.below hb21
                          obtain ⟨z21_7, c21_7, f21_7⟩ := id B21_7
                          obtain ⟨zg21_0, cg21_0, fg21_0⟩ := id G21_0
                          have ne21_0_0 : g21_0 ≠ w.heap.size := by omega
                          have ne21_0_1 : g21_0 ≠ w1.heap.size := by omega
                          have ne21_0_2 : g21_0 ≠ wr.heap.size := by omega
                          have ne21_0_3 : g21_0 ≠ g11_0 := by omega
                          have ne21_0_4 : g21_0 ≠ g11_1 := by omega
                          have ne21_0_5 : g21_0 ≠ g13_0 := by omega
                          have ne21_0_6 : g21_0 ≠ g13_1 := by omega
                          have ne21_0_7 : g21_0 ≠ g19_0 := by omega
                          have hT21 : Tab w21 b n 17 M1 := hT20.below hb21
                          have nt21_0 : g21_0 ≠ b := by have := hT20.lt; omega
                          have lb21_0 : w.heap.size ≤ g21_0 := Nat.le_trans ms20 hg21_0
                          clear hg21_0
                          clear B20_0 z20_0 c20_0 f20_0 B20_1 z20_1 c20_1 f20_1 B20_2 z20_2 c20_2 f20_2 B20_3 z20_3 c20_3 f20_3 B20_4 z20_4 c20_4 f20_4 B20_5 z20_5 c20_5 f20_5 B20_6 z20_6 c20_6 f20_6 B20_7 z20_7 c20_7 f20_7 hT20
                          go_wp2_with fail
                          refine (calls_v (rlong_c _ _ _ _) HLG.out).mono ?_
                          rintro e w22 ⟨rfl, hb22⟩
                          have B22_0 : Blk w22 (w.heap.size) _ := Blk.below (by repeat (with_reducible (first | assumption | (apply Blk.at; simp; done) | apply Blk.alloc | apply Blk.drew | apply Blk.drewN | apply Blk.more | apply Blk.put | (apply Blk.far; focus (first | assumption | (apply Ne.symm; assumption) | (simp; done) | (simp <;> omega)))))) hb22
                          obtain ⟨z22_0, c22_0, f22_0⟩ := id B22_0
                          have B22_1 : Blk w22 (w1.heap.size) _ := Blk.below (by repeat (with_reducible (first | assumption | (apply Blk.at; simp; done) | apply Blk.alloc | apply Blk.drew | apply Blk.drewN | apply Blk.more | apply Blk.put | (apply Blk.far; focus (first | assumption | (apply Ne.symm; assumption) | (simp; done) | (simp <;> omega)))))) hb22
                          obtain ⟨z22_1, c22_1, f22_1⟩ := id B22_1
                          have B22_2 : Blk w22 (wr.heap.size) _ := Blk.below (by repeat (with_reducible (first | assumption | (apply Blk.at; simp; done) | apply Blk.alloc | apply Blk.drew | apply Blk.drewN | apply Blk.more | apply Blk.put | (apply Blk.far; focus (first | assumption | (apply Ne.symm; assumption) | (simp; done) | (simp <;> omega)))))) hb22
                          obtain ⟨z22_2, c22_2, f22_2⟩ := id B22_2
                          have B22_3 : Blk w22 (g11_0) _ := Blk.below (by repeat (with_reducible (first | assumption | (apply Blk.at; simp; done) | apply Blk.alloc | apply Blk.drew | apply Blk.drewN | apply Blk.more | apply Blk.put | (apply Blk.far; focus (first | assumption | (apply Ne.symm; assumption) | (simp; done) | (simp <;> omega)))))) hb22
                          obtain ⟨z22_3, c22_3, f22_3⟩ := id B22_3
                          have B22_4 : Blk w22 (g11_1) _ := Blk.below (by repeat (with_reducible (first | assumption | (apply Blk.at; simp; done) | apply Blk.alloc | apply Blk.drew | apply Blk.drewN | apply Blk.more | apply Blk.put | (apply Blk.far; focus (first | assumption | (apply Ne.symm; assumption) | (simp; done) | (simp <;> omega)))))) hb22
                          obtain ⟨z22_4, c22_4, f22_4⟩ := id B22_4
                          have B22_5 : Blk w22 (g13_0) _ := Blk.below (by repeat (with_reducible (first | assumption | (apply Blk.at; simp; done) | apply Blk.alloc | apply Blk.drew | apply Blk.drewN | apply Blk.more | apply Blk.put | (apply Blk.far; focus (first | assumption | (apply Ne.symm; assumption) | (simp; done) | (simp <;> omega)))))) hb22
                          obtain ⟨z22_5, c22_5, f22_5⟩ := id B22_5
                          have B22_6 : Blk w22 (g13_1) _ := Blk.below (by repeat (with_reducible (first | assumption | (apply Blk.at; simp; done) | apply Blk.alloc | apply Blk.drew | apply Blk.drewN | apply Blk.more | apply Blk.put | (apply Blk.far; focus (first | assumption | (apply Ne.symm; assumption) | (simp; done) | (simp <;> omega)))))) hb22
                          obtain ⟨z22_6, c22_6, f22_6⟩ := id B22_6
                          have B22_7 : Blk w22 (g19_0) _ := Blk.below (by repeat (with_reducible (first | assumption | (apply Blk.at; simp; done) | apply Blk.alloc | apply Blk.drew | apply Blk.drewN | apply Blk.more | apply Blk.put | (apply Blk.far; focus (first | assumption | (apply Ne.symm; assumption) | (simp; done) | (simp <;> omega)))))) hb22
                          obtain ⟨z22_7, c22_7, f22_7⟩ := id B22_7
                          have B22_8 : Blk w22 (g21_0) _ := Blk.below (by repeat (with_reducible (first | assumption | (apply Blk.at; simp; done) | apply Blk.alloc | apply Blk.drew | apply Blk.drewN | apply Blk.more | apply Blk.put | (apply Blk.far; focus (first | assumption | (apply Ne.symm; assumption) | (simp; done) | (simp <;> omega)))))) hb22
                          try simp only [List.setIfInBounds_toArray] at B22_8
                          try simp only [List.set_cons_succ] at B22_8
                          try simp only [List.set_cons_zero] at B22_8
                          obtain ⟨z22_8, c22_8, f22_8⟩ := id B22_8
                          have hT22 : Tab w22 b n 17 M1 := ((show Tab _ b n 17 M1 from (by repeat (with_reducible (first | assumption | apply Tab.alloc | apply Tab.drew | apply Tab.drewN | apply Tab.more | (apply Tab.far; focus (first | assumption | (apply Ne.symm; assumption) | (simp; done) | (simp <;> omega)))))))).below hb22
                          clear B21_0 z21_0 c21_0 f21_0 B21_1 z21_1 c21_1 f21_1 B21_2 z21_2 c21_2 f21_2 B21_3 z21_3 c21_3 f21_3 B21_4 z21_4 c21_4 f21_4 B21_5 z21_5 c21_5 f21_5 B21_6 z21_6 c21_6 f21_6 B21_7 z21_7 c21_7 f21_7 hT21 G21_0 zg21_0 cg21_0 fg21_0
                          go_wp2_with fail
                          go_wp2_with fail
                          with_reducible refine (calls_v (rmul_c _ _ _) HMJ.out).mono ?_
                          rintro e w' ⟨rfl, rfl⟩
                          go_wp2_with fail
                          go_wp2_with fail
                          with_reducible refine (calls_v (rdiv_c _ _ _) HDJ.out).mono ?_
                          rintro e w' ⟨rfl, rfl⟩
                          go_wp2_with fail
                          refine (runit_c _ _ _ _).mono ?_
                          rintro e w23 ⟨rfl, hb23⟩
                          have B23_0 : Blk w23 (w.heap.size) _ := Blk.below (by repeat (with_reducible (first | assumption | (apply Blk.at; simp; done) | apply Blk.alloc | apply Blk.drew | apply Blk.drewN | apply Blk.more | apply Blk.put | (apply Blk.far; focus (first | assumption | (apply Ne.symm; assumption) | (simp; done) | (simp <;> omega)))))) hb23
                          obtain ⟨z23_0, c23_0, f23_0⟩ := id B23_0
                          have B23_1 : Blk w23 (w1.heap.size) _ := Blk.below (by repeat (with_reducible (first | assumption | (apply Blk.at; simp; done) | apply Blk.alloc | apply Blk.drew | apply Blk.drewN | apply Blk.more | apply Blk.put | (apply Blk.far; focus (first | assumption | (apply Ne.symm; assumption) | (simp; done) | (simp <;> omega)))))) hb23
                          obtain ⟨z23_1, c23_1, f23_1⟩ := id B23_1
                          have B23_2 : Blk w23 (wr.heap.size) _ := Blk.below (by repeat (with_reducible (first | assumption | (apply Blk.at; simp; done) | apply Blk.alloc | apply Blk.drew | apply Blk.drewN | apply Blk.more | apply Blk.put | (apply Blk.far; focus (first | assumption | (apply Ne.symm; assumption) | (simp; done) | (simp <;> omega)))))) hb23
                          obtain ⟨z23_2, c23_2, f23_2⟩ := id B23_2
                          have B23_3 : Blk w23 (g11_0) _ := Blk.below (by repeat (with_reducible (first | assumption | (apply Blk.at; simp; done) | apply Blk.alloc | apply Blk.drew | apply Blk.drewN | apply Blk.more | apply Blk.put | (apply Blk.far; focus (first | assumption | (apply Ne.symm; assumption) | (simp; done) | (simp <;> omega)))))) hb23
                          obtain ⟨z23_3, c23_3, f23_3⟩ := id B23_3
                          have B23_4 : Blk w23 (g11_1) _ := Blk.below (by repeat (with_reducible (first | assumption | (apply Blk.at; simp; done) | apply Blk.alloc | apply Blk.drew | apply Blk.drewN | apply Blk.more | apply Blk.put | (apply Blk.far; focus (first | assumption | (apply Ne.symm; assumption) | (simp; done) | (simp <;> omega)))))) hb23
                          obtain ⟨z23_4, c23_4, f23_4⟩ := id B23_4
                          have B23_5 : Blk w23 (g13_0) _ := Blk.below (by repeat (with_reducible (first | assumption | (apply Blk.at; simp; done) | apply Blk.alloc | apply Blk.drew | apply Blk.drewN | apply Blk.more | apply Blk.put | (apply Blk.far; focus (first | assumption | (apply Ne.symm; assumption) | (simp; done) | (simp <;> omega)))))) hb23
                          obtain ⟨z23_5, c23_5, f23_5⟩ := id B23_5
                          have B23_6 : Blk w23 (g13_1) _ := Blk.below (by repeat (with_reducible (first | assumption | (apply Blk.at; simp; done) | apply Blk.alloc | apply Blk.drew | apply Blk.drewN | apply Blk.more | apply Blk.put | (apply Blk.far; focus (first | assumption | (apply Ne.symm; assumption) | (simp; done) | (simp <;> omega)))))) hb23
                          obtain ⟨z23_6, c23_6, f23_6⟩ := id B23_6
                          have B23_7 : Blk w23 (g19_0) _ := Blk.below (by repeat (with_reducible (first | assumption | (apply Blk.at; simp; done) | apply Blk.alloc | apply Blk.drew | apply Blk.drewN | apply Blk.more | apply Blk.put | (apply Blk.far; focus (first | assumption | (apply Ne.symm; assumption) | (simp; done) | (simp <;> omega)))))) hb23
                          obtain ⟨z23_7, c23_7, f23_7⟩ := id B23_7
                          have B23_8 : Blk w23 (g21_0) _ := Blk.below (by repeat (with_reducible (first | assumption | (apply Blk.at; simp; done) | apply Blk.alloc | apply Blk.drew | apply Blk.drewN | apply Blk.more | apply Blk.put | (apply Blk.far; focus (first | assumption | (apply Ne.symm; assumption) | (simp; done) | (simp <;> omega)))))) hb23
                          obtain ⟨z23_8, c23_8, f23_8⟩ := id B23_8
                          have hT23 : Tab w23 b n 17 M1 := ((show Tab _ b n 17 M1 from (by repeat (with_reducible (first | assumption | apply Tab.alloc | apply Tab.drew | apply Tab.drewN | apply Tab.more | (apply Tab.far; focus (first | assumption | (apply Ne.symm; assumption) | (simp; done) | (simp <;> omega)))))))).below hb23
                          clear B22_0 z22_0 c22_0 f22_0 B22_1 z22_1 c22_1 f22_1 B22_2 z22_2 c22_2 f22_2 B22_3 z22_3 c22_3 f22_3 B22_4 z22_4 c22_4 f22_4 B22_5 z22_5 c22_5 f22_5 B22_6 z22_6 c22_6 f22_6 B22_7 z22_7 c22_7 f22_7 B22_8 z22_8 c22_8 f22_8 hT22
                          go_wp2_with fail
                          go_wp2_with fail
                          refine calls_here ?_
                          rintro w24 hb24
                          have B24_0 : Blk w24 (w.heap.size) _ := Blk.below (by repeat (with_reducible (first | assumption | (apply Blk.at; simp; done) | apply Blk.alloc | apply Blk.drew | apply Blk.drewN | apply Blk.more | apply Blk.put | (apply Blk.far; focus (first | assumption | (apply Ne.symm; assumption) | (simp; done) | (simp <;> omega)))))) hb24
                          obtain ⟨z24_0, c24_0, f24_0⟩ := id B24_0
                          have B24_1 : Blk w24 (w1.heap.size) _ := Blk.below (by repeat (with_reducible (first | assumption | (apply Blk.at; simp; done) | apply Blk.alloc | apply Blk.drew | apply Blk.drewN | apply Blk.more | apply Blk.put | (apply Blk.far; focus (first | assumption | (apply Ne.symm; assumption) | (simp; done) | (simp <;> omega)))))) hb24
                          obtain ⟨z24_1, c24_1, f24_1⟩ := id B24_1
                          have B24_2 : Blk w24 (wr.heap.size) _ := Blk.below (by repeat (with_reducible (first | assumption | (apply Blk.at; simp; done) | apply Blk.alloc | apply Blk.drew | apply Blk.drewN | apply Blk.more | apply Blk.put | (apply Blk.far; focus (first | assumption | (apply Ne.symm; assumption) | (simp; done) | (simp <;> omega)))))) hb24
                          obtain ⟨z24_2, c24_2, f24_2⟩ := id B24_2
                          have B24_3 : Blk w24 (g11_0) _ := Blk.below (by repeat (with_reducible (first | assumption | (apply Blk.at; simp; done) | apply Blk.alloc | apply Blk.drew | apply Blk.drewN | apply Blk.more | apply Blk.put | (apply Blk.far; focus (first | assumption | (apply Ne.symm; assumption) | (simp; done) | (simp <;> omega)))))) hb24
                          obtain ⟨z24_3, c24_3, f24_3⟩ := id B24_3
                          have B24_4 : Blk w24 (g11_1) _ := Blk.below (by repeat (with_reducible (first | assumption | (apply Blk.at; simp; done) | apply Blk.alloc | apply Blk.drew | apply Blk.drewN | apply Blk.more | apply Blk.put | (apply Blk.far; focus (first | assumption | (apply Ne.symm; assumption) | (simp; done) | (simp <;> omega)))))) hb24
                          obtain ⟨z24_4, c24_4, f24_4⟩ := id B24_4
                          have B24_5 : Blk w24 (g13_0) _ := Blk.below (by repeat (with_reducible (first | assumption | (apply Blk.at; simp; done) | apply Blk.alloc | apply Blk.drew | apply Blk.drewN | apply Blk.more | apply Blk.put | (apply Blk.far; focus (first | assumption | (apply Ne.symm; assumption) | (simp; done) | (simp <;> omega)))))) hb24
                          obtain ⟨z24_5, c24_5, f24_5⟩ := id B24_5
                          have B24_6 : Blk w24 (g13_1) _ := Blk.below (by repeat (with_reducible (first | assumption | (apply Blk.at; simp; done) | apply Blk.alloc | apply Blk.drew | apply Blk.drewN | apply Blk.more | apply Blk.put | (apply Blk.far; focus (first | assumption | (apply Ne.symm; assumption) | (simp; done) | (simp <;> omega)))))) hb24
                          obtain ⟨z24_6, c24_6, f24_6⟩ := id B24_6
                          have B24_7 : Blk w24 (g19_0) _ := Blk.below (by repeat (with_reducible (first | assumption | (apply Blk.at; simp; done) | apply Blk.alloc | apply Blk.drew | apply Blk.drewN | apply Blk.more | apply Blk.put | (apply Blk.far; focus (first | assumption | (apply Ne.symm; assumption) | (simp; done) | (simp <;> omega)))))) hb24
                          obtain ⟨z24_7, c24_7, f24_7⟩ := id B24_7
                          have B24_8 : Blk w24 (g21_0) _ := Blk.below (by repeat (with_reducible (first | assumption | (apply Blk.at; simp; done) | apply Blk.alloc | apply Blk.drew | apply Blk.drewN | apply Blk.more | apply Blk.put | (apply Blk.far; focus (first | assumption | (apply Ne.symm; assumption) | (simp; done) | (simp <;> omega)))))) hb24
                          obtain ⟨z24_8, c24_8, f24_8⟩ := id B24_8
                          have hT24 : Tab w24 b n 17 M1 := ((show Tab _ b n 17 M1 from (by repeat (with_reducible (first | assumption | apply Tab.alloc | apply Tab.drew | apply Tab.drewN | apply Tab.more | (apply Tab.far; focus (first | assumption | (apply Ne.symm; assumption) | (simp; done) | (simp <;> omega)))))))).below hb24
                          clear B23_0 z23_0 c23_0 f23_0 B23_1 z23_1 c23_1 f23_1 B23_2 z23_2 c23_2 f23_2 B23_3 z23_3 c23_3 f23_3 B23_4 z23_4 c23_4 f23_4 B23_5 z23_5 c23_5 f23_5 B23_6 z23_6 c23_6 f23_6 B23_7 z23_7 c23_7 f23_7 B23_8 z23_8 c23_8 f23_8 hT23
                          have hbl24 := hT24.lt
                          with_reducible refine (rgive_c M1 b n i j (unit1 s1 s2 s3) (unit2 s1 s2 s3) (unit3 s1 s2 s3) (-dj) x y cap (w1.heap.size) (g11_0) (g13_0) (g11_1) (g13_1) _ hT24 hi hj hne B24_1 (Nat.ne_of_lt nbp) B24_3 nt11_0.symm B24_5 nt13_0.symm B24_4 nt11_1.symm B24_6 nt13_1.symm).mono ?_
                          rintro e w25 ⟨rfl, hT25, hm25⟩
                          have hB24 : Below w.heap.size w w24 := (by repeat (with_reducible (first | exact Below.refl _ _ | assumption | apply ext_drew | apply ext_drewN | apply ext_alloc | apply ext_more | (refine ext_setCell ?_ (by first | assumption | (simp <;> omega)) _) | (refine ext_below ?_ (by assumption)))))
                          clear hbl24 hb21 hb22 hb23 hb24
                          have hB25 : Below w.heap.size w w25 := hB24.trans (hm25.toBelow hB24.size (fun c hc e => Nat.lt_irrefl _ (Nat.lt_trans hc (Nat.lt_of_lt_of_eq hbb e.symm))))
                          have B25_0 : Blk w25 (w.heap.size) _ := B24_0.mod hm25 (fun e => nlb e)
                          obtain ⟨z25_0, c25_0, f25_0⟩ := id B25_0
                          have B25_1 : Blk w25 (w1.heap.size) _ := B24_1.mod hm25 (fun e => Nat.ne_of_gt nbp e)
                          obtain ⟨z25_1, c25_1, f25_1⟩ := id B25_1
                          have B25_2 : Blk w25 (wr.heap.size) _ := B24_2.mod hm25 (fun e => nbw e.symm)
                          obtain ⟨z25_2, c25_2, f25_2⟩ := id B25_2
                          have B25_3 : Blk w25 (g11_0) _ := B24_3.mod hm25 (fun e => nt11_0 e)
                          obtain ⟨z25_3, c25_3, f25_3⟩ := id B25_3
                          have B25_4 : Blk w25 (g11_1) _ := B24_4.mod hm25 (fun e => nt11_1 e)
                          obtain ⟨z25_4, c25_4, f25_4⟩ := id B25_4
                          have B25_5 : Blk w25 (g13_0) _ := B24_5.mod hm25 (fun e => nt13_0 e)
                          obtain ⟨z25_5, c25_5, f25_5⟩ := id B25_5
                          have B25_6 : Blk w25 (g13_1) _ := B24_6.mod hm25 (fun e => nt13_1 e)
                          obtain ⟨z25_6, c25_6, f25_6⟩ := id B25_6
                          have B25_7 : Blk w25 (g19_0) _ := B24_7.mod hm25 (fun e => nt19_0 e)
                          obtain ⟨z25_7, c25_7, f25_7⟩ := id B25_7
                          have B25_8 : Blk w25 (g21_0) _ := B24_8.mod hm25 (fun e => nt21_0 e)
                          obtain ⟨z25_8, c25_8, f25_8⟩ := id B25_8
                          clear B24_0 z24_0 c24_0 f24_0 B24_1 z24_1 c24_1 f24_1 B24_2 z24_2 c24_2 f24_2 B24_3 z24_3 c24_3 f24_3 B24_4 z24_4 c24_4 f24_4 B24_5 z24_5 c24_5 f24_5 B24_6 z24_6 c24_6 f24_6 B24_7 z24_7 c24_7 f24_7 B24_8 z24_8 c24_8 f24_8 hT24
                          clear hm25 hB24
                          go_wp2_with fail
                          go_roundw
                          case rel => exact ⟨k + 1, by omega, by go_num, by rw [HGO.out i j HA.out HB.out hne, push_some HX.out HY.out HAL.out HDN.out h1 (by omega) HJ.out HM1.out HDV.out HS1.out HS2.out HS3.out HLG.out]; unfold endM; rw [if_pos HLP.out]; rw [HMJ.out, HDJ.out, HMIN.out]; exact fun hn0 => ⟨b, rfl, hbb, (by repeat (with_reducible (first | assumption | apply Tab.alloc | apply Tab.drew | apply Tab.drewN | apply Tab.more | (apply Tab.far; focus (first | assumption | (apply Ne.symm; assumption) | (simp; done) | (simp <;> omega))))))⟩, (by repeat (with_reducible (first | assumption | (apply Blk.at; simp; done) | apply Blk.alloc | apply Blk.drew | apply Blk.drewN | apply Blk.more | apply Blk.put | (apply Blk.far; focus (first | assumption | (apply Ne.symm; assumption) | (simp; done) | (simp <;> omega)))))), (by repeat (with_reducible (first | assumption | (apply Blk.at; simp; done) | apply Blk.alloc | apply Blk.drew | apply Blk.drewN | apply Blk.more | apply Blk.put | (apply Blk.far; focus (first | assumption | (apply Ne.symm; assumption) | (simp; done) | (simp <;> omega)))))), (by repeat (with_reducible (first | exact Below.refl _ _ | assumption | apply ext_drew | apply ext_drewN | apply ext_alloc | apply ext_more | (refine ext_setCell ?_ (by first | assumption | (simp <;> omega)) _) | (refine ext_below ?_ (by assumption)))))⟩
                          case measure => simp [intOf]; omega
                · have HMIN := Lib.hid (Int.min_eq_left (Int.not_lt.mp h4))
                  have hT9 := hTk
                  have hblt := hTk.lt
                  have nbw : b ≠ wr.heap.size := by omega
                  have nlb : w.heap.size ≠ b := by omega
                  have lw1 : w.heap.size ≤ w1.heap.size := by omega
                  go_wp2_with fail
                  refine wp_fresh ?_
                  rintro w10 hb10
                  have B10_0 : Blk w10 (w.heap.size) _ := Blk.below (by repeat (with_reducible (first | assumption | (apply Blk.at; simp; done) | apply Blk.alloc | apply Blk.drew | apply Blk.drewN | apply Blk.more | apply Blk.put | (apply Blk.far; focus (first | assumption | (apply Ne.symm; assumption) | (simp; done) | (simp <;> omega)))))) hb10
                  obtain ⟨z10_0, c10_0, f10_0⟩ := id B10_0
                  have B10_1 : Blk w10 (w1.heap.size) _ := Blk.below (by repeat (with_reducible (first | assumption | (apply Blk.at; simp; done) | apply Blk.alloc | apply Blk.drew | apply Blk.drewN | apply Blk.more | apply Blk.put | (apply Blk.far; focus (first | assumption | (apply Ne.symm; assumption) | (simp; done) | (simp <;> omega)))))) hb10
                  obtain ⟨z10_1, c10_1, f10_1⟩ := id B10_1
                  have B10_2 : Blk w10 (wr.heap.size) _ := Blk.below (by repeat (with_reducible (first | assumption | (apply Blk.at; simp; done) | apply Blk.alloc | apply Blk.drew | apply Blk.drewN | apply Blk.more | apply Blk.put | (apply Blk.far; focus (first | assumption | (apply Ne.symm; assumption) | (simp; done) | (simp <;> omega)))))) hb10
                  try simp only [List.setIfInBounds_toArray] at B10_2
                  try simp only [List.set_cons_succ] at B10_2
                  try simp only [List.set_cons_zero] at B10_2
                  obtain ⟨z10_2, c10_2, f10_2⟩ := id B10_2
                  have hT10 : Tab w10 b n 17 Mk := ((show Tab _ b n 17 Mk from (by repeat (with_reducible (first | assumption | apply Tab.alloc | apply Tab.drew | apply Tab.drewN | apply Tab.more | (apply Tab.far; focus (first | assumption | (apply Ne.symm; assumption) | (simp; done) | (simp <;> omega)))))))).below hb10
                  have hB10 : Below w.heap.size w w10 := (by repeat (with_reducible (first | exact Below.refl _ _ | assumption | apply ext_drew | apply ext_drewN | apply ext_alloc | apply ext_more | (refine ext_setCell ?_ (by first | assumption | (simp <;> omega)) _) | (refine ext_below ?_ (by assumption)))))
                  have ms10 : w.heap.size ≤ w10.heap.size := hB10.size
                  clear hb10
                  clear hTk hT9 hO hP cp zl cl fl zp fp hL hAp htb
                  refine region_grow (A := ?A11D2) 8 [10, 11] (fun _ => #[.int .i64 0]) (by kernel_rfl) (by kernel_rfl) ?hrun11D2 ?hq11D2 ?htail11D2
                  case hq11D2 =>
                    intro w0 hb0
                    simp only [List.take_succ_cons, List.take_zero]
                    have B0_0 : Blk w0 _ _ := B10_0.below hb0
                    obtain ⟨z0_0, c0_0, f0_0⟩ := id B0_0
                    have B0_1 : Blk w0 _ _ := B10_1.below hb0
                    obtain ⟨z0_1, c0_1, f0_1⟩ := id B0_1
                    have B0_2 : Blk w0 _ _ := B10_2.below hb0
                    obtain ⟨z0_2, c0_2, f0_2⟩ := id B0_2
                    have hT0_ : Tab w0 b n 17 Mk := hT10.below hb0
                    repeat (go_big_quiet_step (first | (go_at_call 108; with_reducible exact calls_after (rindex_c Mk _ n cap tA _ _ hn9 (Own.more (Own.of_tab hT0_) _) HA.out)) | (go_at_call 108; with_reducible exact calls_after (rindex_c Mk _ n cap tB _ _ hn9 (Own.more (Own.of_tab hT0_) _) HB.out))))
                    refine wpQuiet_nil ?_
                    rfl
                  case hrun11D2 =>
                    intro j hj
                    match j, hj with
                    | 0, _ => exact ⟨_, _, rfl, fun a w => by simp [go_sem]; rfl⟩
                    | 1, _ => exact ⟨_, _, rfl, fun a w => by simp [go_sem]; rfl⟩
                  case htail11D2 =>
                    intro gs w11 hb11 hblk hne
                    obtain ⟨G11_0, hg11_0⟩ := hblk 0 (by decide)
                    obtain ⟨G11_1, hg11_1⟩ := hblk 1 (by decide)
                    have hn11_0_1 := hne 0 1 (by decide) (by decide) (by decide)
                    simp only [List.drop_succ_cons, List.drop_zero, List.length_cons, List.length_nil, laySlots]
                    clear hblk hne
                    generalize gs 0 = g11_0 at *
                    generalize gs 1 = g11_1 at *
                    have B11_0 : Blk w11 _ _ := B10_0.below hb11
                    obtain ⟨z11_0, c11_0, f11_0⟩ := id B11_0
                    have B11_1 : Blk w11 _ _ := B10_1.below hb11
                    obtain ⟨z11_1, c11_1, f11_1⟩ := id B11_1
                    have B11_2 : Blk w11 _ _ := B10_2.below hb11
                    obtain ⟨z11_2, c11_2, f11_2⟩ := id B11_2
                    obtain ⟨zg11_0, cg11_0, fg11_0⟩ := id G11_0
                    have ne11_0_0 : g11_0 ≠ w.heap.size := by omega
                    have ne11_0_1 : g11_0 ≠ w1.heap.size := by omega
                    have ne11_0_2 : g11_0 ≠ wr.heap.size := by omega
                    obtain ⟨zg11_1, cg11_1, fg11_1⟩ := id G11_1
                    have ne11_1_0 : g11_1 ≠ w.heap.size := by omega
                    have ne11_1_1 : g11_1 ≠ w1.heap.size := by omega
                    have ne11_1_2 : g11_1 ≠ wr.heap.size := by omega
                    have hT11 : Tab w11 b n 17 Mk := hT10.below hb11
                    have nt11_0 : g11_0 ≠ b := by have := hT10.lt; omega
                    have nt11_1 : g11_1 ≠ b := by have := hT10.lt; omega
                    have lb11_0 : w.heap.size ≤ g11_0 := Nat.le_trans ms10 hg11_0
                    have lb11_1 : w.heap.size ≤ g11_1 := Nat.le_trans ms10 hg11_1
                    clear hg11_0 hg11_1
                    clear B10_0 z10_0 c10_0 f10_0 B10_1 z10_1 c10_1 f10_1 B10_2 z10_2 c10_2 f10_2 hT10
                    go_wp2_with fail
                    refine wp_fresh ?_
                    rintro w12 hb12
                    have B12_0 : Blk w12 (w.heap.size) _ := Blk.below (by repeat (with_reducible (first | assumption | (apply Blk.at; simp; done) | apply Blk.alloc | apply Blk.drew | apply Blk.drewN | apply Blk.more | apply Blk.put | (apply Blk.far; focus (first | assumption | (apply Ne.symm; assumption) | (simp; done) | (simp <;> omega)))))) hb12
                    obtain ⟨z12_0, c12_0, f12_0⟩ := id B12_0
                    have B12_1 : Blk w12 (w1.heap.size) _ := Blk.below (by repeat (with_reducible (first | assumption | (apply Blk.at; simp; done) | apply Blk.alloc | apply Blk.drew | apply Blk.drewN | apply Blk.more | apply Blk.put | (apply Blk.far; focus (first | assumption | (apply Ne.symm; assumption) | (simp; done) | (simp <;> omega)))))) hb12
                    obtain ⟨z12_1, c12_1, f12_1⟩ := id B12_1
                    have B12_2 : Blk w12 (wr.heap.size) _ := Blk.below (by repeat (with_reducible (first | assumption | (apply Blk.at; simp; done) | apply Blk.alloc | apply Blk.drew | apply Blk.drewN | apply Blk.more | apply Blk.put | (apply Blk.far; focus (first | assumption | (apply Ne.symm; assumption) | (simp; done) | (simp <;> omega)))))) hb12
                    obtain ⟨z12_2, c12_2, f12_2⟩ := id B12_2
                    have B12_3 : Blk w12 (g11_0) _ := Blk.below (by repeat (with_reducible (first | assumption | (apply Blk.at; simp; done) | apply Blk.alloc | apply Blk.drew | apply Blk.drewN | apply Blk.more | apply Blk.put | (apply Blk.far; focus (first | assumption | (apply Ne.symm; assumption) | (simp; done) | (simp <;> omega)))))) hb12
                    try simp only [List.setIfInBounds_toArray] at B12_3
                    try simp only [List.set_cons_succ] at B12_3
                    try simp only [List.set_cons_zero] at B12_3
                    obtain ⟨z12_3, c12_3, f12_3⟩ := id B12_3
                    have B12_4 : Blk w12 (g11_1) _ := Blk.below (by repeat (with_reducible (first | assumption | (apply Blk.at; simp; done) | apply Blk.alloc | apply Blk.drew | apply Blk.drewN | apply Blk.more | apply Blk.put | (apply Blk.far; focus (first | assumption | (apply Ne.symm; assumption) | (simp; done) | (simp <;> omega)))))) hb12
                    try simp only [List.setIfInBounds_toArray] at B12_4
                    try simp only [List.set_cons_succ] at B12_4
                    try simp only [List.set_cons_zero] at B12_4
                    obtain ⟨z12_4, c12_4, f12_4⟩ := id B12_4
                    have hT12 : Tab w12 b n 17 Mk := ((show Tab _ b n 17 Mk from (by repeat (with_reducible (first | assumption | apply Tab.alloc | apply Tab.drew | apply Tab.drewN | apply Tab.more | (apply Tab.far; focus (first | assumption | (apply Ne.symm; assumption) | (simp; done) | (simp <;> omega)))))))).below hb12
                    clear B11_0 z11_0 c11_0 f11_0 B11_1 z11_1 c11_1 f11_1 B11_2 z11_2 c11_2 f11_2 hT11 G11_0 zg11_0 cg11_0 fg11_0 G11_1 zg11_1 cg11_1 fg11_1
                    have hB12 : Below w.heap.size w w12 := (by repeat (with_reducible (first | exact Below.refl _ _ | assumption | apply ext_drew | apply ext_drewN | apply ext_alloc | apply ext_more | (refine ext_setCell ?_ (by first | assumption | (simp <;> omega)) _) | (refine ext_below ?_ (by assumption)))))
                    have ms12 : w.heap.size ≤ w12.heap.size := hB12.size
                    clear hb11 hb12
                    refine region_grow (A := ?A13D2) 10 [12, 13] (fun _ => #[.int .i64 0]) (by kernel_rfl) (by kernel_rfl) ?hrun13D2 ?hq13D2 ?htail13D2
                    case hq13D2 =>
                      intro w0 hb0
                      simp only [List.take_succ_cons, List.take_zero]
                      have B0_0 : Blk w0 _ _ := B12_0.below hb0
                      obtain ⟨z0_0, c0_0, f0_0⟩ := id B0_0
                      have B0_1 : Blk w0 _ _ := B12_1.below hb0
                      obtain ⟨z0_1, c0_1, f0_1⟩ := id B0_1
                      have B0_2 : Blk w0 _ _ := B12_2.below hb0
                      obtain ⟨z0_2, c0_2, f0_2⟩ := id B0_2
                      have B0_3 : Blk w0 _ _ := B12_3.below hb0
                      obtain ⟨z0_3, c0_3, f0_3⟩ := id B0_3
                      have B0_4 : Blk w0 _ _ := B12_4.below hb0
                      obtain ⟨z0_4, c0_4, f0_4⟩ := id B0_4
                      have hT0_ : Tab w0 b n 17 Mk := hT12.below hb0
                      have zt := hT0_.lt
                      iterate 3 go_big_quiet_step (fail)
                      go_big_quiet_want
                      refine quiet_body hT0_ hi (.tmp 62) rfl rfl ?_
                      simp only [Act.put, List.setIfInBounds_toArray, List.set_cons_zero, List.set_cons_succ]
                      go_big_quiet_on
                      go_big_quiet_step ((go_at_call 109; exact calls_after (calls_v (rlight_c _ _ _ _ _ _ _ _ _ _ _ _ _ _ _ _ _ _) HX.out)))
                      iterate 3 go_big_quiet_step (fail)
                      go_big_quiet_want
                      refine quiet_body hT0_ hj (.tmp 67) rfl rfl ?_
                      simp only [Act.put, List.setIfInBounds_toArray, List.set_cons_zero, List.set_cons_succ]
                      go_big_quiet_on
                      go_big_quiet_step ((go_at_call 109; exact calls_after (calls_v (rlight_c _ _ _ _ _ _ _ _ _ _ _ _ _ _ _ _ _ _) HY.out)))
                      refine wpQuiet_nil ?_
                      rfl
                    case hrun13D2 =>
                      intro j hj
                      match j, hj with
                      | 0, _ => exact ⟨_, _, rfl, fun a w => by simp [go_sem]; rfl⟩
                      | 1, _ => exact ⟨_, _, rfl, fun a w => by simp [go_sem]; rfl⟩
                    case htail13D2 =>
                      intro gs w13 hb13 hblk hne
                      obtain ⟨G13_0, hg13_0⟩ := hblk 0 (by decide)
                      obtain ⟨G13_1, hg13_1⟩ := hblk 1 (by decide)
                      have hn13_0_1 := hne 0 1 (by decide) (by decide) (by decide)
                      simp only [List.drop_succ_cons, List.drop_zero, List.length_cons, List.length_nil, laySlots]
                      clear hblk hne
                      generalize gs 0 = g13_0 at *
                      generalize gs 1 = g13_1 at *
                      have B13_0 : Blk w13 _ _ := B12_0.below hb13
                      obtain ⟨z13_0, c13_0, f13_0⟩ := id B13_0
                      have B13_1 : Blk w13 _ _ := B12_1.below hb13
                      obtain ⟨z13_1, c13_1, f13_1⟩ := id B13_1
                      have B13_2 : Blk w13 _ _ := B12_2.below hb13
                      obtain ⟨z13_2, c13_2, f13_2⟩ := id B13_2
                      have B13_3 : Blk w13 _ _ := B12_3.below hb13
                      obtain ⟨z13_3, c13_3, f13_3⟩ := id B13_3
                      have B13_4 : Blk w13 _ _ := B12_4.below hb13
                      obtain ⟨z13_4, c13_4, f13_4⟩ := id B13_4
                      obtain ⟨zg13_0, cg13_0, fg13_0⟩ := id G13_0
                      have ne13_0_0 : g13_0 ≠ w.heap.size := by omega
                      have ne13_0_1 : g13_0 ≠ w1.heap.size := by omega
                      have ne13_0_2 : g13_0 ≠ wr.heap.size := by omega
                      have ne13_0_3 : g13_0 ≠ g11_0 := by omega
                      have ne13_0_4 : g13_0 ≠ g11_1 := by omega
                      obtain ⟨zg13_1, cg13_1, fg13_1⟩ := id G13_1
                      have ne13_1_0 : g13_1 ≠ w.heap.size := by omega
                      have ne13_1_1 : g13_1 ≠ w1.heap.size := by omega
                      have ne13_1_2 : g13_1 ≠ wr.heap.size := by omega
                      have ne13_1_3 : g13_1 ≠ g11_0 := by omega
                      have ne13_1_4 : g13_1 ≠ g11_1 := by omega
                      have hT13 : Tab w13 b n 17 Mk := hT12.below hb13
                      have nt13_0 : g13_0 ≠ b := by have := hT12.lt; omega
                      have nt13_1 : g13_1 ≠ b := by have := hT12.lt; omega
                      have lb13_0 : w.heap.size ≤ g13_0 := Nat.le_trans ms12 hg13_0
                      have lb13_1 : w.heap.size ≤ g13_1 := Nat.le_trans ms12 hg13_1
                      clear hg13_0 hg13_1
                      clear B12_0 z12_0 c12_0 f12_0 B12_1 z12_1 c12_1 f12_1 B12_2 z12_2 c12_2 f12_2 B12_3 z12_3 c12_3 f12_3 B12_4 z12_4 c12_4 f12_4 hT12
                      go_wp2_with fail
                      refine (calls_v (radd_c _ _ _) HAL.out).mono ?_
                      rintro e w' ⟨rfl, rfl⟩
                      go_wp2_with fail
                      refine wp_fresh ?_
                      rintro w14 hb14
                      have B14_0 : Blk w14 (w.heap.size) _ := Blk.below (by repeat (with_reducible (first | assumption | (apply Blk.at; simp; done) | apply Blk.alloc | apply Blk.drew | apply Blk.drewN | apply Blk.more | apply Blk.put | (apply Blk.far; focus (first | assumption | (apply Ne.symm; assumption) | (simp; done) | (simp <;> omega)))))) hb14
                      obtain ⟨z14_0, c14_0, f14_0⟩ := id B14_0
                      have B14_1 : Blk w14 (w1.heap.size) _ := Blk.below (by repeat (with_reducible (first | assumption | (apply Blk.at; simp; done) | apply Blk.alloc | apply Blk.drew | apply Blk.drewN | apply Blk.more | apply Blk.put | (apply Blk.far; focus (first | assumption | (apply Ne.symm; assumption) | (simp; done) | (simp <;> omega)))))) hb14
                      obtain ⟨z14_1, c14_1, f14_1⟩ := id B14_1
                      have B14_2 : Blk w14 (wr.heap.size) _ := Blk.below (by repeat (with_reducible (first | assumption | (apply Blk.at; simp; done) | apply Blk.alloc | apply Blk.drew | apply Blk.drewN | apply Blk.more | apply Blk.put | (apply Blk.far; focus (first | assumption | (apply Ne.symm; assumption) | (simp; done) | (simp <;> omega)))))) hb14
                      obtain ⟨z14_2, c14_2, f14_2⟩ := id B14_2
                      have B14_3 : Blk w14 (g11_0) _ := Blk.below (by repeat (with_reducible (first | assumption | (apply Blk.at; simp; done) | apply Blk.alloc | apply Blk.drew | apply Blk.drewN | apply Blk.more | apply Blk.put | (apply Blk.far; focus (first | assumption | (apply Ne.symm; assumption) | (simp; done) | (simp <;> omega)))))) hb14
                      obtain ⟨z14_3, c14_3, f14_3⟩ := id B14_3
                      have B14_4 : Blk w14 (g11_1) _ := Blk.below (by repeat (with_reducible (first | assumption | (apply Blk.at; simp; done) | apply Blk.alloc | apply Blk.drew | apply Blk.drewN | apply Blk.more | apply Blk.put | (apply Blk.far; focus (first | assumption | (apply Ne.symm; assumption) | (simp; done) | (simp <;> omega)))))) hb14
                      obtain ⟨z14_4, c14_4, f14_4⟩ := id B14_4
                      have B14_5 : Blk w14 (g13_0) _ := Blk.below (by repeat (with_reducible (first | assumption | (apply Blk.at; simp; done) | apply Blk.alloc | apply Blk.drew | apply Blk.drewN | apply Blk.more | apply Blk.put | (apply Blk.far; focus (first | assumption | (apply Ne.symm; assumption) | (simp; done) | (simp <;> omega)))))) hb14
                      try simp only [List.setIfInBounds_toArray] at B14_5
                      try simp only [List.set_cons_succ] at B14_5
                      try simp only [List.set_cons_zero] at B14_5
                      obtain ⟨z14_5, c14_5, f14_5⟩ := id B14_5
                      have B14_6 : Blk w14 (g13_1) _ := Blk.below (by repeat (with_reducible (first | assumption | (apply Blk.at; simp; done) | apply Blk.alloc | apply Blk.drew | apply Blk.drewN | apply Blk.more | apply Blk.put | (apply Blk.far; focus (first | assumption | (apply Ne.symm; assumption) | (simp; done) | (simp <;> omega)))))) hb14
                      try simp only [List.setIfInBounds_toArray] at B14_6
                      try simp only [List.set_cons_succ] at B14_6
                      try simp only [List.set_cons_zero] at B14_6
                      obtain ⟨z14_6, c14_6, f14_6⟩ := id B14_6
                      have hT14 : Tab w14 b n 17 Mk := ((show Tab _ b n 17 Mk from (by repeat (with_reducible (first | assumption | apply Tab.alloc | apply Tab.drew | apply Tab.drewN | apply Tab.more | (apply Tab.far; focus (first | assumption | (apply Ne.symm; assumption) | (simp; done) | (simp <;> omega)))))))).below hb14
                      clear B13_0 z13_0 c13_0 f13_0 B13_1 z13_1 c13_1 f13_1 B13_2 z13_2 c13_2 f13_2 B13_3 z13_3 c13_3 f13_3 B13_4 z13_4 c13_4 f13_4 hT13 G13_0 zg13_0 cg13_0 fg13_0 G13_1 zg13_1 cg13_1 fg13_1
                      have ak9 := hT14.cell hj (j := 9) (by decide)
                      have ai9 := hT14.cell hi (j := 9) (by decide)
                      have ak10 := hT14.cell hj (j := 10) (by decide)
                      have ai10 := hT14.cell hi (j := 10) (by decide)
                      have ak11 := hT14.cell hj (j := 11) (by decide)
                      have ai11 := hT14.cell hi (j := 11) (by decide)
                      have az := hT14.lt
                      go_wp2_with fail
                      refine region_quiet_but 14 (by kernel_rfl) (by kernel_rfl) ?_
                      simp only [List.take_succ_cons, List.take_zero, List.drop_succ_cons, List.drop_zero]
                      repeat (go_big_quiet_step (first | (go_at_call 61; exact calls_after (rminus_c _ _ _ _ _ _ _)) | (go_at_call 65; exact calls_after (calls_v (rdot_c _ _ _ _ _ _ _) HDN.out))))
                      refine wpQuiet_nil ?_
                      rintro w15 hw15
                      have hb15 := after_below hw15
                      clear hw15
                      have B15_0 : Blk w15 (w.heap.size) _ := Blk.below (by repeat (with_reducible (first | assumption | (apply Blk.at; simp; done) | apply Blk.alloc | apply Blk.drew | apply Blk.drewN | apply Blk.more | apply Blk.put | (apply Blk.far; focus (first | assumption | (apply Ne.symm; assumption) | (simp; done) | (simp <;> omega)))))) hb15
                      obtain ⟨z15_0, c15_0, f15_0⟩ := id B15_0
                      have B15_1 : Blk w15 (w1.heap.size) _ := Blk.below (by repeat (with_reducible (first | assumption | (apply Blk.at; simp; done) | apply Blk.alloc | apply Blk.drew | apply Blk.drewN | apply Blk.more | apply Blk.put | (apply Blk.far; focus (first | assumption | (apply Ne.symm; assumption) | (simp; done) | (simp <;> omega)))))) hb15
                      obtain ⟨z15_1, c15_1, f15_1⟩ := id B15_1
                      have B15_2 : Blk w15 (wr.heap.size) _ := Blk.below (by repeat (with_reducible (first | assumption | (apply Blk.at; simp; done) | apply Blk.alloc | apply Blk.drew | apply Blk.drewN | apply Blk.more | apply Blk.put | (apply Blk.far; focus (first | assumption | (apply Ne.symm; assumption) | (simp; done) | (simp <;> omega)))))) hb15
                      obtain ⟨z15_2, c15_2, f15_2⟩ := id B15_2
                      have B15_3 : Blk w15 (g11_0) _ := Blk.below (by repeat (with_reducible (first | assumption | (apply Blk.at; simp; done) | apply Blk.alloc | apply Blk.drew | apply Blk.drewN | apply Blk.more | apply Blk.put | (apply Blk.far; focus (first | assumption | (apply Ne.symm; assumption) | (simp; done) | (simp <;> omega)))))) hb15
                      obtain ⟨z15_3, c15_3, f15_3⟩ := id B15_3
                      have B15_4 : Blk w15 (g11_1) _ := Blk.below (by repeat (with_reducible (first | assumption | (apply Blk.at; simp; done) | apply Blk.alloc | apply Blk.drew | apply Blk.drewN | apply Blk.more | apply Blk.put | (apply Blk.far; focus (first | assumption | (apply Ne.symm; assumption) | (simp; done) | (simp <;> omega)))))) hb15
                      obtain ⟨z15_4, c15_4, f15_4⟩ := id B15_4
                      have B15_5 : Blk w15 (g13_0) _ := Blk.below (by repeat (with_reducible (first | assumption | (apply Blk.at; simp; done) | apply Blk.alloc | apply Blk.drew | apply Blk.drewN | apply Blk.more | apply Blk.put | (apply Blk.far; focus (first | assumption | (apply Ne.symm; assumption) | (simp; done) | (simp <;> omega)))))) hb15
                      obtain ⟨z15_5, c15_5, f15_5⟩ := id B15_5
                      have B15_6 : Blk w15 (g13_1) _ := Blk.below (by repeat (with_reducible (first | assumption | (apply Blk.at; simp; done) | apply Blk.alloc | apply Blk.drew | apply Blk.drewN | apply Blk.more | apply Blk.put | (apply Blk.far; focus (first | assumption | (apply Ne.symm; assumption) | (simp; done) | (simp <;> omega)))))) hb15
                      obtain ⟨z15_6, c15_6, f15_6⟩ := id B15_6
                      have hT15 : Tab w15 b n 17 Mk := ((show Tab _ b n 17 Mk from (by repeat (with_reducible (first | assumption | apply Tab.alloc | apply Tab.drew | apply Tab.drewN | apply Tab.more | (apply Tab.far; focus (first | assumption | (apply Ne.symm; assumption) | (simp; done) | (simp <;> omega)))))))).below hb15
                      clear B14_0 z14_0 c14_0 f14_0 B14_1 z14_1 c14_1 f14_1 B14_2 z14_2 c14_2 f14_2 B14_3 z14_3 c14_3 f14_3 B14_4 z14_4 c14_4 f14_4 B14_5 z14_5 c14_5 f14_5 B14_6 z14_6 c14_6 f14_6 hT14
                      clear ak9 ai9 ak10 ai10 ak11 ai11
                      go_wp2_with fail
                      go_wp2_with fail
                      with_reducible refine (rmul_c _ _ _).mono ?_
                      rintro e w' ⟨rfl, rfl⟩
                      go_wp2_with fail
                      go_wp2_with fail
                      with_reducible refine (calls_v (rdiv_c _ _ _) HJ.out).mono ?_
                      rintro e w' ⟨rfl, rfl⟩
                      go_wp2_with fail
                      go_wp2_with fail
                      refine calls_here ?_
                      rintro w16 hb16
                      have B16_0 : Blk w16 (w.heap.size) _ := Blk.below (by repeat (with_reducible (first | assumption | (apply Blk.at; simp; done) | apply Blk.alloc | apply Blk.drew | apply Blk.drewN | apply Blk.more | apply Blk.put | (apply Blk.far; focus (first | assumption | (apply Ne.symm; assumption) | (simp; done) | (simp <;> omega)))))) hb16
                      obtain ⟨z16_0, c16_0, f16_0⟩ := id B16_0
                      have B16_1 : Blk w16 (w1.heap.size) _ := Blk.below (by repeat (with_reducible (first | assumption | (apply Blk.at; simp; done) | apply Blk.alloc | apply Blk.drew | apply Blk.drewN | apply Blk.more | apply Blk.put | (apply Blk.far; focus (first | assumption | (apply Ne.symm; assumption) | (simp; done) | (simp <;> omega)))))) hb16
                      obtain ⟨z16_1, c16_1, f16_1⟩ := id B16_1
                      have B16_2 : Blk w16 (wr.heap.size) _ := Blk.below (by repeat (with_reducible (first | assumption | (apply Blk.at; simp; done) | apply Blk.alloc | apply Blk.drew | apply Blk.drewN | apply Blk.more | apply Blk.put | (apply Blk.far; focus (first | assumption | (apply Ne.symm; assumption) | (simp; done) | (simp <;> omega)))))) hb16
                      obtain ⟨z16_2, c16_2, f16_2⟩ := id B16_2
                      have B16_3 : Blk w16 (g11_0) _ := Blk.below (by repeat (with_reducible (first | assumption | (apply Blk.at; simp; done) | apply Blk.alloc | apply Blk.drew | apply Blk.drewN | apply Blk.more | apply Blk.put | (apply Blk.far; focus (first | assumption | (apply Ne.symm; assumption) | (simp; done) | (simp <;> omega)))))) hb16
                      obtain ⟨z16_3, c16_3, f16_3⟩ := id B16_3
                      have B16_4 : Blk w16 (g11_1) _ := Blk.below (by repeat (with_reducible (first | assumption | (apply Blk.at; simp; done) | apply Blk.alloc | apply Blk.drew | apply Blk.drewN | apply Blk.more | apply Blk.put | (apply Blk.far; focus (first | assumption | (apply Ne.symm; assumption) | (simp; done) | (simp <;> omega)))))) hb16
                      obtain ⟨z16_4, c16_4, f16_4⟩ := id B16_4
                      have B16_5 : Blk w16 (g13_0) _ := Blk.below (by repeat (with_reducible (first | assumption | (apply Blk.at; simp; done) | apply Blk.alloc | apply Blk.drew | apply Blk.drewN | apply Blk.more | apply Blk.put | (apply Blk.far; focus (first | assumption | (apply Ne.symm; assumption) | (simp; done) | (simp <;> omega)))))) hb16
                      obtain ⟨z16_5, c16_5, f16_5⟩ := id B16_5
                      have B16_6 : Blk w16 (g13_1) _ := Blk.below (by repeat (with_reducible (first | assumption | (apply Blk.at; simp; done) | apply Blk.alloc | apply Blk.drew | apply Blk.drewN | apply Blk.more | apply Blk.put | (apply Blk.far; focus (first | assumption | (apply Ne.symm; assumption) | (simp; done) | (simp <;> omega)))))) hb16
                      obtain ⟨z16_6, c16_6, f16_6⟩ := id B16_6
                      have hT16 : Tab w16 b n 17 Mk := ((show Tab _ b n 17 Mk from (by repeat (with_reducible (first | assumption | apply Tab.alloc | apply Tab.drew | apply Tab.drewN | apply Tab.more | (apply Tab.far; focus (first | assumption | (apply Ne.symm; assumption) | (simp; done) | (simp <;> omega)))))))).below hb16
                      clear B15_0 z15_0 c15_0 f15_0 B15_1 z15_1 c15_1 f15_1 B15_2 z15_2 c15_2 f15_2 B15_3 z15_3 c15_3 f15_3 B15_4 z15_4 c15_4 f15_4 B15_5 z15_5 c15_5 f15_5 B15_6 z15_6 c15_6 f15_6 hT15
                      have hbl16 := hT16.lt
                      with_reducible refine (rgive_c Mk b n i j g1 g2 g3 jj x y cap (w1.heap.size) (g11_0) (g13_0) (g11_1) (g13_1) _ hT16 hi hj hne B16_1 (Nat.ne_of_lt nbp) B16_3 nt11_0.symm B16_5 nt13_0.symm B16_4 nt11_1.symm B16_6 nt13_1.symm).mono ?_
                      rintro e w17 ⟨rfl, hT17, hm17⟩
                      have hB16 : Below w.heap.size w w16 := (by repeat (with_reducible (first | exact Below.refl _ _ | assumption | apply ext_drew | apply ext_drewN | apply ext_alloc | apply ext_more | (refine ext_setCell ?_ (by first | assumption | (simp <;> omega)) _) | (refine ext_below ?_ (by assumption)))))
                      clear hbl16 hb13 hb14 hb15 hb16
                      have hB17 : Below w.heap.size w w17 := hB16.trans (hm17.toBelow hB16.size (fun c hc e => Nat.lt_irrefl _ (Nat.lt_trans hc (Nat.lt_of_lt_of_eq hbb e.symm))))
                      have B17_0 : Blk w17 (w.heap.size) _ := B16_0.mod hm17 (fun e => nlb e)
                      obtain ⟨z17_0, c17_0, f17_0⟩ := id B17_0
                      have B17_1 : Blk w17 (w1.heap.size) _ := B16_1.mod hm17 (fun e => Nat.ne_of_gt nbp e)
                      obtain ⟨z17_1, c17_1, f17_1⟩ := id B17_1
                      have B17_2 : Blk w17 (wr.heap.size) _ := B16_2.mod hm17 (fun e => nbw e.symm)
                      obtain ⟨z17_2, c17_2, f17_2⟩ := id B17_2
                      have B17_3 : Blk w17 (g11_0) _ := B16_3.mod hm17 (fun e => nt11_0 e)
                      obtain ⟨z17_3, c17_3, f17_3⟩ := id B17_3
                      have B17_4 : Blk w17 (g11_1) _ := B16_4.mod hm17 (fun e => nt11_1 e)
                      obtain ⟨z17_4, c17_4, f17_4⟩ := id B17_4
                      have B17_5 : Blk w17 (g13_0) _ := B16_5.mod hm17 (fun e => nt13_0 e)
                      obtain ⟨z17_5, c17_5, f17_5⟩ := id B17_5
                      have B17_6 : Blk w17 (g13_1) _ := B16_6.mod hm17 (fun e => nt13_1 e)
                      obtain ⟨z17_6, c17_6, f17_6⟩ := id B17_6
                      clear B16_0 z16_0 c16_0 f16_0 B16_1 z16_1 c16_1 f16_1 B16_2 z16_2 c16_2 f16_2 B16_3 z16_3 c16_3 f16_3 B16_4 z16_4 c16_4 f16_4 B16_5 z16_5 c16_5 f16_5 B16_6 z16_6 c16_6 f16_6 hT16
                      clear hm17 hB16
                      rw [HM1.out] at hT17
                      go_wp2_with fail
                      refine wp_fresh ?_
                      rintro w18 hb18
                      have B18_0 : Blk w18 (w.heap.size) _ := Blk.below (by repeat (with_reducible (first | assumption | (apply Blk.at; simp; done) | apply Blk.alloc | apply Blk.drew | apply Blk.drewN | apply Blk.more | apply Blk.put | (apply Blk.far; focus (first | assumption | (apply Ne.symm; assumption) | (simp; done) | (simp <;> omega)))))) hb18
                      obtain ⟨z18_0, c18_0, f18_0⟩ := id B18_0
                      have B18_1 : Blk w18 (w1.heap.size) _ := Blk.below (by repeat (with_reducible (first | assumption | (apply Blk.at; simp; done) | apply Blk.alloc | apply Blk.drew | apply Blk.drewN | apply Blk.more | apply Blk.put | (apply Blk.far; focus (first | assumption | (apply Ne.symm; assumption) | (simp; done) | (simp <;> omega)))))) hb18
                      obtain ⟨z18_1, c18_1, f18_1⟩ := id B18_1
                      have B18_2 : Blk w18 (wr.heap.size) _ := Blk.below (by repeat (with_reducible (first | assumption | (apply Blk.at; simp; done) | apply Blk.alloc | apply Blk.drew | apply Blk.drewN | apply Blk.more | apply Blk.put | (apply Blk.far; focus (first | assumption | (apply Ne.symm; assumption) | (simp; done) | (simp <;> omega)))))) hb18
                      obtain ⟨z18_2, c18_2, f18_2⟩ := id B18_2
                      have B18_3 : Blk w18 (g11_0) _ := Blk.below (by repeat (with_reducible (first | assumption | (apply Blk.at; simp; done) | apply Blk.alloc | apply Blk.drew | apply Blk.drewN | apply Blk.more | apply Blk.put | (apply Blk.far; focus (first | assumption | (apply Ne.symm; assumption) | (simp; done) | (simp <;> omega)))))) hb18
                      obtain ⟨z18_3, c18_3, f18_3⟩ := id B18_3
                      have B18_4 : Blk w18 (g11_1) _ := Blk.below (by repeat (with_reducible (first | assumption | (apply Blk.at; simp; done) | apply Blk.alloc | apply Blk.drew | apply Blk.drewN | apply Blk.more | apply Blk.put | (apply Blk.far; focus (first | assumption | (apply Ne.symm; assumption) | (simp; done) | (simp <;> omega)))))) hb18
                      obtain ⟨z18_4, c18_4, f18_4⟩ := id B18_4
                      have B18_5 : Blk w18 (g13_0) _ := Blk.below (by repeat (with_reducible (first | assumption | (apply Blk.at; simp; done) | apply Blk.alloc | apply Blk.drew | apply Blk.drewN | apply Blk.more | apply Blk.put | (apply Blk.far; focus (first | assumption | (apply Ne.symm; assumption) | (simp; done) | (simp <;> omega)))))) hb18
                      obtain ⟨z18_5, c18_5, f18_5⟩ := id B18_5
                      have B18_6 : Blk w18 (g13_1) _ := Blk.below (by repeat (with_reducible (first | assumption | (apply Blk.at; simp; done) | apply Blk.alloc | apply Blk.drew | apply Blk.drewN | apply Blk.more | apply Blk.put | (apply Blk.far; focus (first | assumption | (apply Ne.symm; assumption) | (simp; done) | (simp <;> omega)))))) hb18
                      obtain ⟨z18_6, c18_6, f18_6⟩ := id B18_6
                      have hT18 : Tab w18 b n 17 M1 := ((show Tab _ b n 17 M1 from (by repeat (with_reducible (first | assumption | apply Tab.alloc | apply Tab.drew | apply Tab.drewN | apply Tab.more | (apply Tab.far; focus (first | assumption | (apply Ne.symm; assumption) | (simp; done) | (simp <;> omega)))))))).below hb18
                      clear B17_0 z17_0 c17_0 f17_0 B17_1 z17_1 c17_1 f17_1 B17_2 z17_2 c17_2 f17_2 B17_3 z17_3 c17_3 f17_3 B17_4 z17_4 c17_4 f17_4 B17_5 z17_5 c17_5 f17_5 B17_6 z17_6 c17_6 f17_6 hT17
                      have hB18 : Below w.heap.size w w18 := (by repeat (with_reducible (first | exact Below.refl _ _ | assumption | apply ext_drew | apply ext_drewN | apply ext_alloc | apply ext_more | (refine ext_setCell ?_ (by first | assumption | (simp <;> omega)) _) | (refine ext_below ?_ (by assumption)))))
                      have ms18 : w.heap.size ≤ w18.heap.size := hB18.size
                      clear hb18
                      refine region_grow (A := ?A19D2) 11 [18] (fun _ => #[.int .i64 0, .int .i64 0, .int .i64 0]) (by kernel_rfl) (by kernel_rfl) ?hrun19D2 ?hq19D2 ?htail19D2
                      case hq19D2 =>
                        intro w0 hb0
                        simp only [List.take_succ_cons, List.take_zero]
                        have B0_0 : Blk w0 _ _ := B18_0.below hb0
                        obtain ⟨z0_0, c0_0, f0_0⟩ := id B0_0
                        have B0_1 : Blk w0 _ _ := B18_1.below hb0
                        obtain ⟨z0_1, c0_1, f0_1⟩ := id B0_1
                        have B0_2 : Blk w0 _ _ := B18_2.below hb0
                        obtain ⟨z0_2, c0_2, f0_2⟩ := id B0_2
                        have B0_3 : Blk w0 _ _ := B18_3.below hb0
                        obtain ⟨z0_3, c0_3, f0_3⟩ := id B0_3
                        have B0_4 : Blk w0 _ _ := B18_4.below hb0
                        obtain ⟨z0_4, c0_4, f0_4⟩ := id B0_4
                        have B0_5 : Blk w0 _ _ := B18_5.below hb0
                        obtain ⟨z0_5, c0_5, f0_5⟩ := id B0_5
                        have B0_6 : Blk w0 _ _ := B18_6.below hb0
                        obtain ⟨z0_6, c0_6, f0_6⟩ := id B0_6
                        have hT0_ : Tab w0 b n 17 M1 := hT18.below hb0
                        have bk9 := hT0_.cell hj (j := 9) (by decide)
                        have bi9 := hT0_.cell hi (j := 9) (by decide)
                        have bk10 := hT0_.cell hj (j := 10) (by decide)
                        have bi10 := hT0_.cell hi (j := 10) (by decide)
                        have bk11 := hT0_.cell hj (j := 11) (by decide)
                        have bi11 := hT0_.cell hi (j := 11) (by decide)
                        have bz := hT0_.lt
                        repeat (go_big_quiet_step ((go_at_call 61; exact calls_after (rminus_c _ _ _ _ _ _ _))))
                        refine wpQuiet_nil ?_
                        rfl
                      case hrun19D2 =>
                        intro j hj
                        match j, hj with
                        | 0, _ => exact ⟨_, _, rfl, fun a w => by simp [go_sem]; rfl⟩
                      case htail19D2 =>
                        intro gs w19 hb19 hblk hne
                        obtain ⟨G19_0, hg19_0⟩ := hblk 0 (by decide)
                        simp only [List.drop_succ_cons, List.drop_zero, List.length_cons, List.length_nil, laySlots]
                        clear hblk hne
                        generalize gs 0 = g19_0 at *
                        have B19_0 : Blk w19 _ _ := B18_0.below hb19
                        obtain ⟨z19_0, c19_0, f19_0⟩ := id B19_0
                        have B19_1 : Blk w19 _ _ := B18_1.below hb19
                        obtain ⟨z19_1, c19_1, f19_1⟩ := id B19_1
                        have B19_2 : Blk w19 _ _ := B18_2.below hb19
                        obtain ⟨z19_2, c19_2, f19_2⟩ := id B19_2
                        have B19_3 : Blk w19 _ _ := B18_3.below hb19
                        obtain ⟨z19_3, c19_3, f19_3⟩ := id B19_3
                        have B19_4 : Blk w19 _ _ := B18_4.below hb19
                        obtain ⟨z19_4, c19_4, f19_4⟩ := id B19_4
                        have B19_5 : Blk w19 _ _ := B18_5.below hb19
                        obtain ⟨z19_5, c19_5, f19_5⟩ := id B19_5
                        have B19_6 : Blk w19 _ _ := B18_6.below hb19
                        obtain ⟨z19_6, c19_6, f19_6⟩ := id B19_6
                        obtain ⟨zg19_0, cg19_0, fg19_0⟩ := id G19_0
                        have ne19_0_0 : g19_0 ≠ w.heap.size := by omega
                        have ne19_0_1 : g19_0 ≠ w1.heap.size := by omega
                        have ne19_0_2 : g19_0 ≠ wr.heap.size := by omega
                        have ne19_0_3 : g19_0 ≠ g11_0 := by omega
                        have ne19_0_4 : g19_0 ≠ g11_1 := by omega
                        have ne19_0_5 : g19_0 ≠ g13_0 := by omega
                        have ne19_0_6 : g19_0 ≠ g13_1 := by omega
                        have hT19 : Tab w19 b n 17 M1 := hT18.below hb19
                        have nt19_0 : g19_0 ≠ b := by have := hT18.lt; omega
                        have lb19_0 : w.heap.size ≤ g19_0 := Nat.le_trans ms18 hg19_0
                        clear hg19_0
                        clear B18_0 z18_0 c18_0 f18_0 B18_1 z18_1 c18_1 f18_1 B18_2 z18_2 c18_2 f18_2 B18_3 z18_3 c18_3 f18_3 B18_4 z18_4 c18_4 f18_4 B18_5 z18_5 c18_5 f18_5 B18_6 z18_6 c18_6 f18_6 hT18
                        go_wp2_with fail
                        refine wp_fresh ?_
                        rintro w20 hb20
                        have B20_0 : Blk w20 (w.heap.size) _ := Blk.below (by repeat (with_reducible (first | assumption | (apply Blk.at; simp; done) | apply Blk.alloc | apply Blk.drew | apply Blk.drewN | apply Blk.more | apply Blk.put | (apply Blk.far; focus (first | assumption | (apply Ne.symm; assumption) | (simp; done) | (simp <;> omega)))))) hb20
                        obtain ⟨z20_0, c20_0, f20_0⟩ := id B20_0
                        have B20_1 : Blk w20 (w1.heap.size) _ := Blk.below (by repeat (with_reducible (first | assumption | (apply Blk.at; simp; done) | apply Blk.alloc | apply Blk.drew | apply Blk.drewN | apply Blk.more | apply Blk.put | (apply Blk.far; focus (first | assumption | (apply Ne.symm; assumption) | (simp; done) | (simp <;> omega)))))) hb20
                        obtain ⟨z20_1, c20_1, f20_1⟩ := id B20_1
                        have B20_2 : Blk w20 (wr.heap.size) _ := Blk.below (by repeat (with_reducible (first | assumption | (apply Blk.at; simp; done) | apply Blk.alloc | apply Blk.drew | apply Blk.drewN | apply Blk.more | apply Blk.put | (apply Blk.far; focus (first | assumption | (apply Ne.symm; assumption) | (simp; done) | (simp <;> omega)))))) hb20
                        obtain ⟨z20_2, c20_2, f20_2⟩ := id B20_2
                        have B20_3 : Blk w20 (g11_0) _ := Blk.below (by repeat (with_reducible (first | assumption | (apply Blk.at; simp; done) | apply Blk.alloc | apply Blk.drew | apply Blk.drewN | apply Blk.more | apply Blk.put | (apply Blk.far; focus (first | assumption | (apply Ne.symm; assumption) | (simp; done) | (simp <;> omega)))))) hb20
                        obtain ⟨z20_3, c20_3, f20_3⟩ := id B20_3
                        have B20_4 : Blk w20 (g11_1) _ := Blk.below (by repeat (with_reducible (first | assumption | (apply Blk.at; simp; done) | apply Blk.alloc | apply Blk.drew | apply Blk.drewN | apply Blk.more | apply Blk.put | (apply Blk.far; focus (first | assumption | (apply Ne.symm; assumption) | (simp; done) | (simp <;> omega)))))) hb20
                        obtain ⟨z20_4, c20_4, f20_4⟩ := id B20_4
                        have B20_5 : Blk w20 (g13_0) _ := Blk.below (by repeat (with_reducible (first | assumption | (apply Blk.at; simp; done) | apply Blk.alloc | apply Blk.drew | apply Blk.drewN | apply Blk.more | apply Blk.put | (apply Blk.far; focus (first | assumption | (apply Ne.symm; assumption) | (simp; done) | (simp <;> omega)))))) hb20
                        obtain ⟨z20_5, c20_5, f20_5⟩ := id B20_5
                        have B20_6 : Blk w20 (g13_1) _ := Blk.below (by repeat (with_reducible (first | assumption | (apply Blk.at; simp; done) | apply Blk.alloc | apply Blk.drew | apply Blk.drewN | apply Blk.more | apply Blk.put | (apply Blk.far; focus (first | assumption | (apply Ne.symm; assumption) | (simp; done) | (simp <;> omega)))))) hb20
                        obtain ⟨z20_6, c20_6, f20_6⟩ := id B20_6
                        have B20_7 : Blk w20 (g19_0) _ := Blk.below (by repeat (with_reducible (first | assumption | (apply Blk.at; simp; done) | apply Blk.alloc | apply Blk.drew | apply Blk.drewN | apply Blk.more | apply Blk.put | (apply Blk.far; focus (first | assumption | (apply Ne.symm; assumption) | (simp; done) | (simp <;> omega)))))) hb20
                        try simp only [List.setIfInBounds_toArray] at B20_7
                        try simp only [List.set_cons_succ] at B20_7
                        try simp only [List.set_cons_zero] at B20_7
                        obtain ⟨z20_7, c20_7, f20_7⟩ := id B20_7
                        have hT20 : Tab w20 b n 17 M1 := ((show Tab _ b n 17 M1 from (by repeat (with_reducible (first | assumption | apply Tab.alloc | apply Tab.drew | apply Tab.drewN | apply Tab.more | (apply Tab.far; focus (first | assumption | (apply Ne.symm; assumption) | (simp; done) | (simp <;> omega)))))))).below hb20
                        clear B19_0 z19_0 c19_0 f19_0 B19_1 z19_1 c19_1 f19_1 B19_2 z19_2 c19_2 f19_2 B19_3 z19_3 c19_3 f19_3 B19_4 z19_4 c19_4 f19_4 B19_5 z19_5 c19_5 f19_5 B19_6 z19_6 c19_6 f19_6 hT19 G19_0 zg19_0 cg19_0 fg19_0
                        have hB20 : Below w.heap.size w w20 := (by repeat (with_reducible (first | exact Below.refl _ _ | assumption | apply ext_drew | apply ext_drewN | apply ext_alloc | apply ext_more | (refine ext_setCell ?_ (by first | assumption | (simp <;> omega)) _) | (refine ext_below ?_ (by assumption)))))
                        have ms20 : w.heap.size ≤ w20.heap.size := hB20.size
                        clear hb19 hb20
                        refine region_grow (A := ?A21D2) 9 [19] (fun _ => #[.int .i64 0, .int .i64 0, .int .i64 0]) (by kernel_rfl) (by kernel_rfl) ?hrun21D2 ?hq21D2 ?htail21D2
                        case hq21D2 =>
                          intro w0 hb0
                          simp only [List.take_succ_cons, List.take_zero]
                          have B0_0 : Blk w0 _ _ := B20_0.below hb0
                          obtain ⟨z0_0, c0_0, f0_0⟩ := id B0_0
                          have B0_1 : Blk w0 _ _ := B20_1.below hb0
                          obtain ⟨z0_1, c0_1, f0_1⟩ := id B0_1
                          have B0_2 : Blk w0 _ _ := B20_2.below hb0
                          obtain ⟨z0_2, c0_2, f0_2⟩ := id B0_2
                          have B0_3 : Blk w0 _ _ := B20_3.below hb0
                          obtain ⟨z0_3, c0_3, f0_3⟩ := id B0_3
                          have B0_4 : Blk w0 _ _ := B20_4.below hb0
                          obtain ⟨z0_4, c0_4, f0_4⟩ := id B0_4
                          have B0_5 : Blk w0 _ _ := B20_5.below hb0
                          obtain ⟨z0_5, c0_5, f0_5⟩ := id B0_5
                          have B0_6 : Blk w0 _ _ := B20_6.below hb0
                          obtain ⟨z0_6, c0_6, f0_6⟩ := id B0_6
                          have B0_7 : Blk w0 _ _ := B20_7.below hb0
                          obtain ⟨z0_7, c0_7, f0_7⟩ := id B0_7
                          have hT0_ : Tab w0 b n 17 M1 := hT20.below hb0
                          repeat (go_big_quiet_step ((first | (go_at_call 65; exact calls_after (calls_v (rdot_c _ _ _ _ _ _ _) HDV.out)) | (go_at_call 63; exact calls_after (rtimes_c _ _ _ _ _)) | (go_at_call 61; exact calls_after (calls_v3 (rminus_c _ _ _ _ _ _ _) HS1.out HS2.out HS3.out)))))
                          refine wpQuiet_nil ?_
                          rfl
                        case hrun21D2 =>
                          intro j hj
                          match j, hj with
                          | 0, _ => exact ⟨_, _, rfl, fun a w => by simp [go_sem]; rfl⟩
                        case htail21D2 =>
                          intro gs w21 hb21 hblk hne
                          obtain ⟨G21_0, hg21_0⟩ := hblk 0 (by decide)
                          simp only [List.drop_succ_cons, List.drop_zero, List.length_cons, List.length_nil, laySlots]
                          clear hblk hne
                          generalize gs 0 = g21_0 at *
                          have B21_0 : Blk w21 _ _ := B20_0.below hb21
                          obtain ⟨z21_0, c21_0, f21_0⟩ := id B21_0
                          have B21_1 : Blk w21 _ _ := B20_1.below hb21
                          obtain ⟨z21_1, c21_1, f21_1⟩ := id B21_1
                          have B21_2 : Blk w21 _ _ := B20_2.below hb21
                          obtain ⟨z21_2, c21_2, f21_2⟩ := id B21_2
                          have B21_3 : Blk w21 _ _ := B20_3.below hb21
                          obtain ⟨z21_3, c21_3, f21_3⟩ := id B21_3
                          have B21_4 : Blk w21 _ _ := B20_4.below hb21
                          obtain ⟨z21_4, c21_4, f21_4⟩ := id B21_4
                          have B21_5 : Blk w21 _ _ := B20_5.below hb21
                          obtain ⟨z21_5, c21_5, f21_5⟩ := id B21_5
                          have B21_6 : Blk w21 _ _ := B20_6.below hb21
                          obtain ⟨z21_6, c21_6, f21_6⟩ := id B21_6
                          have B21_7 : Blk w21 _ _ := B20_7.below hb21
                          obtain ⟨z21_7, c21_7, f21_7⟩ := id B21_7
                          obtain ⟨zg21_0, cg21_0, fg21_0⟩ := id G21_0
                          have ne21_0_0 : g21_0 ≠ w.heap.size := by omega
                          have ne21_0_1 : g21_0 ≠ w1.heap.size := by omega
                          have ne21_0_2 : g21_0 ≠ wr.heap.size := by omega
                          have ne21_0_3 : g21_0 ≠ g11_0 := by omega
                          have ne21_0_4 : g21_0 ≠ g11_1 := by omega
                          have ne21_0_5 : g21_0 ≠ g13_0 := by omega
                          have ne21_0_6 : g21_0 ≠ g13_1 := by omega
                          have ne21_0_7 : g21_0 ≠ g19_0 := by omega
                          have hT21 : Tab w21 b n 17 M1 := hT20.below hb21
                          have nt21_0 : g21_0 ≠ b := by have := hT20.lt; omega
                          have lb21_0 : w.heap.size ≤ g21_0 := Nat.le_trans ms20 hg21_0
                          clear hg21_0
                          clear B20_0 z20_0 c20_0 f20_0 B20_1 z20_1 c20_1 f20_1 B20_2 z20_2 c20_2 f20_2 B20_3 z20_3 c20_3 f20_3 B20_4 z20_4 c20_4 f20_4 B20_5 z20_5 c20_5 f20_5 B20_6 z20_6 c20_6 f20_6 B20_7 z20_7 c20_7 f20_7 hT20
                          go_wp2_with fail
                          refine (calls_v (rlong_c _ _ _ _) HLG.out).mono ?_
                          rintro e w22 ⟨rfl, hb22⟩
                          have B22_0 : Blk w22 (w.heap.size) _ := Blk.below (by repeat (with_reducible (first | assumption | (apply Blk.at; simp; done) | apply Blk.alloc | apply Blk.drew | apply Blk.drewN | apply Blk.more | apply Blk.put | (apply Blk.far; focus (first | assumption | (apply Ne.symm; assumption) | (simp; done) | (simp <;> omega)))))) hb22
                          obtain ⟨z22_0, c22_0, f22_0⟩ := id B22_0
                          have B22_1 : Blk w22 (w1.heap.size) _ := Blk.below (by repeat (with_reducible (first | assumption | (apply Blk.at; simp; done) | apply Blk.alloc | apply Blk.drew | apply Blk.drewN | apply Blk.more | apply Blk.put | (apply Blk.far; focus (first | assumption | (apply Ne.symm; assumption) | (simp; done) | (simp <;> omega)))))) hb22
                          obtain ⟨z22_1, c22_1, f22_1⟩ := id B22_1
                          have B22_2 : Blk w22 (wr.heap.size) _ := Blk.below (by repeat (with_reducible (first | assumption | (apply Blk.at; simp; done) | apply Blk.alloc | apply Blk.drew | apply Blk.drewN | apply Blk.more | apply Blk.put | (apply Blk.far; focus (first | assumption | (apply Ne.symm; assumption) | (simp; done) | (simp <;> omega)))))) hb22
                          obtain ⟨z22_2, c22_2, f22_2⟩ := id B22_2
                          have B22_3 : Blk w22 (g11_0) _ := Blk.below (by repeat (with_reducible (first | assumption | (apply Blk.at; simp; done) | apply Blk.alloc | apply Blk.drew | apply Blk.drewN | apply Blk.more | apply Blk.put | (apply Blk.far; focus (first | assumption | (apply Ne.symm; assumption) | (simp; done) | (simp <;> omega)))))) hb22
                          obtain ⟨z22_3, c22_3, f22_3⟩ := id B22_3
                          have B22_4 : Blk w22 (g11_1) _ := Blk.below (by repeat (with_reducible (first | assumption | (apply Blk.at; simp; done) | apply Blk.alloc | apply Blk.drew | apply Blk.drewN | apply Blk.more | apply Blk.put | (apply Blk.far; focus (first | assumption | (apply Ne.symm; assumption) | (simp; done) | (simp <;> omega)))))) hb22
                          obtain ⟨z22_4, c22_4, f22_4⟩ := id B22_4
                          have B22_5 : Blk w22 (g13_0) _ := Blk.below (by repeat (with_reducible (first | assumption | (apply Blk.at; simp; done) | apply Blk.alloc | apply Blk.drew | apply Blk.drewN | apply Blk.more | apply Blk.put | (apply Blk.far; focus (first | assumption | (apply Ne.symm; assumption) | (simp; done) | (simp <;> omega)))))) hb22
                          obtain ⟨z22_5, c22_5, f22_5⟩ := id B22_5
                          have B22_6 : Blk w22 (g13_1) _ := Blk.below (by repeat (with_reducible (first | assumption | (apply Blk.at; simp; done) | apply Blk.alloc | apply Blk.drew | apply Blk.drewN | apply Blk.more | apply Blk.put | (apply Blk.far; focus (first | assumption | (apply Ne.symm; assumption) | (simp; done) | (simp <;> omega)))))) hb22
                          obtain ⟨z22_6, c22_6, f22_6⟩ := id B22_6
                          have B22_7 : Blk w22 (g19_0) _ := Blk.below (by repeat (with_reducible (first | assumption | (apply Blk.at; simp; done) | apply Blk.alloc | apply Blk.drew | apply Blk.drewN | apply Blk.more | apply Blk.put | (apply Blk.far; focus (first | assumption | (apply Ne.symm; assumption) | (simp; done) | (simp <;> omega)))))) hb22
                          obtain ⟨z22_7, c22_7, f22_7⟩ := id B22_7
                          have B22_8 : Blk w22 (g21_0) _ := Blk.below (by repeat (with_reducible (first | assumption | (apply Blk.at; simp; done) | apply Blk.alloc | apply Blk.drew | apply Blk.drewN | apply Blk.more | apply Blk.put | (apply Blk.far; focus (first | assumption | (apply Ne.symm; assumption) | (simp; done) | (simp <;> omega)))))) hb22
                          try simp only [List.setIfInBounds_toArray] at B22_8
                          try simp only [List.set_cons_succ] at B22_8
                          try simp only [List.set_cons_zero] at B22_8
                          obtain ⟨z22_8, c22_8, f22_8⟩ := id B22_8
                          have hT22 : Tab w22 b n 17 M1 := ((show Tab _ b n 17 M1 from (by repeat (with_reducible (first | assumption | apply Tab.alloc | apply Tab.drew | apply Tab.drewN | apply Tab.more | (apply Tab.far; focus (first | assumption | (apply Ne.symm; assumption) | (simp; done) | (simp <;> omega)))))))).below hb22
                          clear B21_0 z21_0 c21_0 f21_0 B21_1 z21_1 c21_1 f21_1 B21_2 z21_2 c21_2 f21_2 B21_3 z21_3 c21_3 f21_3 B21_4 z21_4 c21_4 f21_4 B21_5 z21_5 c21_5 f21_5 B21_6 z21_6 c21_6 f21_6 B21_7 z21_7 c21_7 f21_7 hT21 G21_0 zg21_0 cg21_0 fg21_0
                          go_wp2_with fail
                          go_wp2_with fail
                          with_reducible refine (calls_v (rmul_c _ _ _) HMJ.out).mono ?_
                          rintro e w' ⟨rfl, rfl⟩
                          go_wp2_with fail
                          go_wp2_with fail
                          with_reducible refine (calls_v (rdiv_c _ _ _) HDJ.out).mono ?_
                          rintro e w' ⟨rfl, rfl⟩
                          go_wp2_with fail
                          refine (runit_c _ _ _ _).mono ?_
                          rintro e w23 ⟨rfl, hb23⟩
                          have B23_0 : Blk w23 (w.heap.size) _ := Blk.below (by repeat (with_reducible (first | assumption | (apply Blk.at; simp; done) | apply Blk.alloc | apply Blk.drew | apply Blk.drewN | apply Blk.more | apply Blk.put | (apply Blk.far; focus (first | assumption | (apply Ne.symm; assumption) | (simp; done) | (simp <;> omega)))))) hb23
                          obtain ⟨z23_0, c23_0, f23_0⟩ := id B23_0
                          have B23_1 : Blk w23 (w1.heap.size) _ := Blk.below (by repeat (with_reducible (first | assumption | (apply Blk.at; simp; done) | apply Blk.alloc | apply Blk.drew | apply Blk.drewN | apply Blk.more | apply Blk.put | (apply Blk.far; focus (first | assumption | (apply Ne.symm; assumption) | (simp; done) | (simp <;> omega)))))) hb23
                          obtain ⟨z23_1, c23_1, f23_1⟩ := id B23_1
                          have B23_2 : Blk w23 (wr.heap.size) _ := Blk.below (by repeat (with_reducible (first | assumption | (apply Blk.at; simp; done) | apply Blk.alloc | apply Blk.drew | apply Blk.drewN | apply Blk.more | apply Blk.put | (apply Blk.far; focus (first | assumption | (apply Ne.symm; assumption) | (simp; done) | (simp <;> omega)))))) hb23
                          obtain ⟨z23_2, c23_2, f23_2⟩ := id B23_2
                          have B23_3 : Blk w23 (g11_0) _ := Blk.below (by repeat (with_reducible (first | assumption | (apply Blk.at; simp; done) | apply Blk.alloc | apply Blk.drew | apply Blk.drewN | apply Blk.more | apply Blk.put | (apply Blk.far; focus (first | assumption | (apply Ne.symm; assumption) | (simp; done) | (simp <;> omega)))))) hb23
                          obtain ⟨z23_3, c23_3, f23_3⟩ := id B23_3
                          have B23_4 : Blk w23 (g11_1) _ := Blk.below (by repeat (with_reducible (first | assumption | (apply Blk.at; simp; done) | apply Blk.alloc | apply Blk.drew | apply Blk.drewN | apply Blk.more | apply Blk.put | (apply Blk.far; focus (first | assumption | (apply Ne.symm; assumption) | (simp; done) | (simp <;> omega)))))) hb23
                          obtain ⟨z23_4, c23_4, f23_4⟩ := id B23_4
                          have B23_5 : Blk w23 (g13_0) _ := Blk.below (by repeat (with_reducible (first | assumption | (apply Blk.at; simp; done) | apply Blk.alloc | apply Blk.drew | apply Blk.drewN | apply Blk.more | apply Blk.put | (apply Blk.far; focus (first | assumption | (apply Ne.symm; assumption) | (simp; done) | (simp <;> omega)))))) hb23
                          obtain ⟨z23_5, c23_5, f23_5⟩ := id B23_5
                          have B23_6 : Blk w23 (g13_1) _ := Blk.below (by repeat (with_reducible (first | assumption | (apply Blk.at; simp; done) | apply Blk.alloc | apply Blk.drew | apply Blk.drewN | apply Blk.more | apply Blk.put | (apply Blk.far; focus (first | assumption | (apply Ne.symm; assumption) | (simp; done) | (simp <;> omega)))))) hb23
                          obtain ⟨z23_6, c23_6, f23_6⟩ := id B23_6
                          have B23_7 : Blk w23 (g19_0) _ := Blk.below (by repeat (with_reducible (first | assumption | (apply Blk.at; simp; done) | apply Blk.alloc | apply Blk.drew | apply Blk.drewN | apply Blk.more | apply Blk.put | (apply Blk.far; focus (first | assumption | (apply Ne.symm; assumption) | (simp; done) | (simp <;> omega)))))) hb23
                          obtain ⟨z23_7, c23_7, f23_7⟩ := id B23_7
                          have B23_8 : Blk w23 (g21_0) _ := Blk.below (by repeat (with_reducible (first | assumption | (apply Blk.at; simp; done) | apply Blk.alloc | apply Blk.drew | apply Blk.drewN | apply Blk.more | apply Blk.put | (apply Blk.far; focus (first | assumption | (apply Ne.symm; assumption) | (simp; done) | (simp <;> omega)))))) hb23
                          obtain ⟨z23_8, c23_8, f23_8⟩ := id B23_8
                          have hT23 : Tab w23 b n 17 M1 := ((show Tab _ b n 17 M1 from (by repeat (with_reducible (first | assumption | apply Tab.alloc | apply Tab.drew | apply Tab.drewN | apply Tab.more | (apply Tab.far; focus (first | assumption | (apply Ne.symm; assumption) | (simp; done) | (simp <;> omega)))))))).below hb23
                          clear B22_0 z22_0 c22_0 f22_0 B22_1 z22_1 c22_1 f22_1 B22_2 z22_2 c22_2 f22_2 B22_3 z22_3 c22_3 f22_3 B22_4 z22_4 c22_4 f22_4 B22_5 z22_5 c22_5 f22_5 B22_6 z22_6 c22_6 f22_6 B22_7 z22_7 c22_7 f22_7 B22_8 z22_8 c22_8 f22_8 hT22
                          go_wp2_with fail
                          go_wp2_with fail
                          refine calls_here ?_
                          rintro w24 hb24
                          have B24_0 : Blk w24 (w.heap.size) _ := Blk.below (by repeat (with_reducible (first | assumption | (apply Blk.at; simp; done) | apply Blk.alloc | apply Blk.drew | apply Blk.drewN | apply Blk.more | apply Blk.put | (apply Blk.far; focus (first | assumption | (apply Ne.symm; assumption) | (simp; done) | (simp <;> omega)))))) hb24
                          obtain ⟨z24_0, c24_0, f24_0⟩ := id B24_0
                          have B24_1 : Blk w24 (w1.heap.size) _ := Blk.below (by repeat (with_reducible (first | assumption | (apply Blk.at; simp; done) | apply Blk.alloc | apply Blk.drew | apply Blk.drewN | apply Blk.more | apply Blk.put | (apply Blk.far; focus (first | assumption | (apply Ne.symm; assumption) | (simp; done) | (simp <;> omega)))))) hb24
                          obtain ⟨z24_1, c24_1, f24_1⟩ := id B24_1
                          have B24_2 : Blk w24 (wr.heap.size) _ := Blk.below (by repeat (with_reducible (first | assumption | (apply Blk.at; simp; done) | apply Blk.alloc | apply Blk.drew | apply Blk.drewN | apply Blk.more | apply Blk.put | (apply Blk.far; focus (first | assumption | (apply Ne.symm; assumption) | (simp; done) | (simp <;> omega)))))) hb24
                          obtain ⟨z24_2, c24_2, f24_2⟩ := id B24_2
                          have B24_3 : Blk w24 (g11_0) _ := Blk.below (by repeat (with_reducible (first | assumption | (apply Blk.at; simp; done) | apply Blk.alloc | apply Blk.drew | apply Blk.drewN | apply Blk.more | apply Blk.put | (apply Blk.far; focus (first | assumption | (apply Ne.symm; assumption) | (simp; done) | (simp <;> omega)))))) hb24
                          obtain ⟨z24_3, c24_3, f24_3⟩ := id B24_3
                          have B24_4 : Blk w24 (g11_1) _ := Blk.below (by repeat (with_reducible (first | assumption | (apply Blk.at; simp; done) | apply Blk.alloc | apply Blk.drew | apply Blk.drewN | apply Blk.more | apply Blk.put | (apply Blk.far; focus (first | assumption | (apply Ne.symm; assumption) | (simp; done) | (simp <;> omega)))))) hb24
                          obtain ⟨z24_4, c24_4, f24_4⟩ := id B24_4
                          have B24_5 : Blk w24 (g13_0) _ := Blk.below (by repeat (with_reducible (first | assumption | (apply Blk.at; simp; done) | apply Blk.alloc | apply Blk.drew | apply Blk.drewN | apply Blk.more | apply Blk.put | (apply Blk.far; focus (first | assumption | (apply Ne.symm; assumption) | (simp; done) | (simp <;> omega)))))) hb24
                          obtain ⟨z24_5, c24_5, f24_5⟩ := id B24_5
                          have B24_6 : Blk w24 (g13_1) _ := Blk.below (by repeat (with_reducible (first | assumption | (apply Blk.at; simp; done) | apply Blk.alloc | apply Blk.drew | apply Blk.drewN | apply Blk.more | apply Blk.put | (apply Blk.far; focus (first | assumption | (apply Ne.symm; assumption) | (simp; done) | (simp <;> omega)))))) hb24
                          obtain ⟨z24_6, c24_6, f24_6⟩ := id B24_6
                          have B24_7 : Blk w24 (g19_0) _ := Blk.below (by repeat (with_reducible (first | assumption | (apply Blk.at; simp; done) | apply Blk.alloc | apply Blk.drew | apply Blk.drewN | apply Blk.more | apply Blk.put | (apply Blk.far; focus (first | assumption | (apply Ne.symm; assumption) | (simp; done) | (simp <;> omega)))))) hb24
                          obtain ⟨z24_7, c24_7, f24_7⟩ := id B24_7
                          have B24_8 : Blk w24 (g21_0) _ := Blk.below (by repeat (with_reducible (first | assumption | (apply Blk.at; simp; done) | apply Blk.alloc | apply Blk.drew | apply Blk.drewN | apply Blk.more | apply Blk.put | (apply Blk.far; focus (first | assumption | (apply Ne.symm; assumption) | (simp; done) | (simp <;> omega)))))) hb24
                          obtain ⟨z24_8, c24_8, f24_8⟩ := id B24_8
                          have hT24 : Tab w24 b n 17 M1 := ((show Tab _ b n 17 M1 from (by repeat (with_reducible (first | assumption | apply Tab.alloc | apply Tab.drew | apply Tab.drewN | apply Tab.more | (apply Tab.far; focus (first | assumption | (apply Ne.symm; assumption) | (simp; done) | (simp <;> omega)))))))).below hb24
                          clear B23_0 z23_0 c23_0 f23_0 B23_1 z23_1 c23_1 f23_1 B23_2 z23_2 c23_2 f23_2 B23_3 z23_3 c23_3 f23_3 B23_4 z23_4 c23_4 f23_4 B23_5 z23_5 c23_5 f23_5 B23_6 z23_6 c23_6 f23_6 B23_7 z23_7 c23_7 f23_7 B23_8 z23_8 c23_8 f23_8 hT23
                          have hbl24 := hT24.lt
                          with_reducible refine (rgive_c M1 b n i j (unit1 s1 s2 s3) (unit2 s1 s2 s3) (unit3 s1 s2 s3) (-mj) x y cap (w1.heap.size) (g11_0) (g13_0) (g11_1) (g13_1) _ hT24 hi hj hne B24_1 (Nat.ne_of_lt nbp) B24_3 nt11_0.symm B24_5 nt13_0.symm B24_4 nt11_1.symm B24_6 nt13_1.symm).mono ?_
                          rintro e w25 ⟨rfl, hT25, hm25⟩
                          have hB24 : Below w.heap.size w w24 := (by repeat (with_reducible (first | exact Below.refl _ _ | assumption | apply ext_drew | apply ext_drewN | apply ext_alloc | apply ext_more | (refine ext_setCell ?_ (by first | assumption | (simp <;> omega)) _) | (refine ext_below ?_ (by assumption)))))
                          clear hbl24 hb21 hb22 hb23 hb24
                          have hB25 : Below w.heap.size w w25 := hB24.trans (hm25.toBelow hB24.size (fun c hc e => Nat.lt_irrefl _ (Nat.lt_trans hc (Nat.lt_of_lt_of_eq hbb e.symm))))
                          have B25_0 : Blk w25 (w.heap.size) _ := B24_0.mod hm25 (fun e => nlb e)
                          obtain ⟨z25_0, c25_0, f25_0⟩ := id B25_0
                          have B25_1 : Blk w25 (w1.heap.size) _ := B24_1.mod hm25 (fun e => Nat.ne_of_gt nbp e)
                          obtain ⟨z25_1, c25_1, f25_1⟩ := id B25_1
                          have B25_2 : Blk w25 (wr.heap.size) _ := B24_2.mod hm25 (fun e => nbw e.symm)
                          obtain ⟨z25_2, c25_2, f25_2⟩ := id B25_2
                          have B25_3 : Blk w25 (g11_0) _ := B24_3.mod hm25 (fun e => nt11_0 e)
                          obtain ⟨z25_3, c25_3, f25_3⟩ := id B25_3
                          have B25_4 : Blk w25 (g11_1) _ := B24_4.mod hm25 (fun e => nt11_1 e)
                          obtain ⟨z25_4, c25_4, f25_4⟩ := id B25_4
                          have B25_5 : Blk w25 (g13_0) _ := B24_5.mod hm25 (fun e => nt13_0 e)
                          obtain ⟨z25_5, c25_5, f25_5⟩ := id B25_5
                          have B25_6 : Blk w25 (g13_1) _ := B24_6.mod hm25 (fun e => nt13_1 e)
                          obtain ⟨z25_6, c25_6, f25_6⟩ := id B25_6
                          have B25_7 : Blk w25 (g19_0) _ := B24_7.mod hm25 (fun e => nt19_0 e)
                          obtain ⟨z25_7, c25_7, f25_7⟩ := id B25_7
                          have B25_8 : Blk w25 (g21_0) _ := B24_8.mod hm25 (fun e => nt21_0 e)
                          obtain ⟨z25_8, c25_8, f25_8⟩ := id B25_8
                          clear B24_0 z24_0 c24_0 f24_0 B24_1 z24_1 c24_1 f24_1 B24_2 z24_2 c24_2 f24_2 B24_3 z24_3 c24_3 f24_3 B24_4 z24_4 c24_4 f24_4 B24_5 z24_5 c24_5 f24_5 B24_6 z24_6 c24_6 f24_6 B24_7 z24_7 c24_7 f24_7 B24_8 z24_8 c24_8 f24_8 hT24
                          clear hm25 hB24
                          go_wp2_with fail
                          go_roundw
                          case rel => exact ⟨k + 1, by omega, by go_num, by rw [HGO.out i j HA.out HB.out hne, push_some HX.out HY.out HAL.out HDN.out h1 (by omega) HJ.out HM1.out HDV.out HS1.out HS2.out HS3.out HLG.out]; unfold endM; rw [if_pos HLP.out]; rw [HMJ.out, HDJ.out, HMIN.out]; exact fun hn0 => ⟨b, rfl, hbb, (by repeat (with_reducible (first | assumption | apply Tab.alloc | apply Tab.drew | apply Tab.drewN | apply Tab.more | (apply Tab.far; focus (first | assumption | (apply Ne.symm; assumption) | (simp; done) | (simp <;> omega))))))⟩, (by repeat (with_reducible (first | assumption | (apply Blk.at; simp; done) | apply Blk.alloc | apply Blk.drew | apply Blk.drewN | apply Blk.more | apply Blk.put | (apply Blk.far; focus (first | assumption | (apply Ne.symm; assumption) | (simp; done) | (simp <;> omega)))))), (by repeat (with_reducible (first | assumption | (apply Blk.at; simp; done) | apply Blk.alloc | apply Blk.drew | apply Blk.drewN | apply Blk.more | apply Blk.put | (apply Blk.far; focus (first | assumption | (apply Ne.symm; assumption) | (simp; done) | (simp <;> omega)))))), (by repeat (with_reducible (first | exact Below.refl _ _ | assumption | apply ext_drew | apply ext_drewN | apply ext_alloc | apply ext_more | (refine ext_setCell ?_ (by first | assumption | (simp <;> omega)) _) | (refine ext_below ?_ (by assumption)))))⟩
                          case measure => simp [intOf]; omega
            · have HB := Lib.hid (idx_not hb0)
              clear hb0
              have hT9 := hTk
              have hblt := hTk.lt
              have nbw : b ≠ wr.heap.size := by omega
              have nlb : w.heap.size ≠ b := by omega
              have lw1 : w.heap.size ≤ w1.heap.size := by omega
              go_wp2_with fail
              refine wp_fresh ?_
              rintro w10 hb10
              have B10_0 : Blk w10 (w.heap.size) _ := Blk.below (by repeat (with_reducible (first | assumption | (apply Blk.at; simp; done) | apply Blk.alloc | apply Blk.drew | apply Blk.drewN | apply Blk.more | apply Blk.put | (apply Blk.far; focus (first | assumption | (apply Ne.symm; assumption) | (simp; done) | (simp <;> omega)))))) hb10
              obtain ⟨z10_0, c10_0, f10_0⟩ := id B10_0
              have B10_1 : Blk w10 (w1.heap.size) _ := Blk.below (by repeat (with_reducible (first | assumption | (apply Blk.at; simp; done) | apply Blk.alloc | apply Blk.drew | apply Blk.drewN | apply Blk.more | apply Blk.put | (apply Blk.far; focus (first | assumption | (apply Ne.symm; assumption) | (simp; done) | (simp <;> omega)))))) hb10
              obtain ⟨z10_1, c10_1, f10_1⟩ := id B10_1
              have B10_2 : Blk w10 (wr.heap.size) _ := Blk.below (by repeat (with_reducible (first | assumption | (apply Blk.at; simp; done) | apply Blk.alloc | apply Blk.drew | apply Blk.drewN | apply Blk.more | apply Blk.put | (apply Blk.far; focus (first | assumption | (apply Ne.symm; assumption) | (simp; done) | (simp <;> omega)))))) hb10
              try simp only [List.setIfInBounds_toArray] at B10_2
              try simp only [List.set_cons_succ] at B10_2
              try simp only [List.set_cons_zero] at B10_2
              obtain ⟨z10_2, c10_2, f10_2⟩ := id B10_2
              have hT10 : Tab w10 b n 17 Mk := ((show Tab _ b n 17 Mk from (by repeat (with_reducible (first | assumption | apply Tab.alloc | apply Tab.drew | apply Tab.drewN | apply Tab.more | (apply Tab.far; focus (first | assumption | (apply Ne.symm; assumption) | (simp; done) | (simp <;> omega)))))))).below hb10
              have hB10 : Below w.heap.size w w10 := (by repeat (with_reducible (first | exact Below.refl _ _ | assumption | apply ext_drew | apply ext_drewN | apply ext_alloc | apply ext_more | (refine ext_setCell ?_ (by first | assumption | (simp <;> omega)) _) | (refine ext_below ?_ (by assumption)))))
              have ms10 : w.heap.size ≤ w10.heap.size := hB10.size
              clear hb10
              clear hTk hT9 hO hP cp zl cl fl zp fp hL hAp htb
              refine region_grow (A := ?A11yn) 8 [10, 11] (fun _ => #[.int .i64 0]) (by kernel_rfl) (by kernel_rfl) ?hrun11yn ?hq11yn ?htail11yn
              case hq11yn =>
                intro w0 hb0
                simp only [List.take_succ_cons, List.take_zero]
                have B0_0 : Blk w0 _ _ := B10_0.below hb0
                obtain ⟨z0_0, c0_0, f0_0⟩ := id B0_0
                have B0_1 : Blk w0 _ _ := B10_1.below hb0
                obtain ⟨z0_1, c0_1, f0_1⟩ := id B0_1
                have B0_2 : Blk w0 _ _ := B10_2.below hb0
                obtain ⟨z0_2, c0_2, f0_2⟩ := id B0_2
                have hT0_ : Tab w0 b n 17 Mk := hT10.below hb0
                repeat (go_big_quiet_step (first | (go_at_call 108; with_reducible exact calls_after (rindex_c Mk _ n cap tA _ _ hn9 (Own.more (Own.of_tab hT0_) _) HA.out)) | (go_at_call 108; with_reducible exact calls_after (rindex_c Mk _ n cap tB _ _ hn9 (Own.more (Own.of_tab hT0_) _) HB.out))))
                refine wpQuiet_nil ?_
                rfl
              case hrun11yn =>
                intro j hj
                match j, hj with
                | 0, _ => exact ⟨_, _, rfl, fun a w => by simp [go_sem]; rfl⟩
                | 1, _ => exact ⟨_, _, rfl, fun a w => by simp [go_sem]; rfl⟩
              case htail11yn =>
                intro gs w11 hb11 hblk hne
                obtain ⟨G11_0, hg11_0⟩ := hblk 0 (by decide)
                obtain ⟨G11_1, hg11_1⟩ := hblk 1 (by decide)
                have hn11_0_1 := hne 0 1 (by decide) (by decide) (by decide)
                simp only [List.drop_succ_cons, List.drop_zero, List.length_cons, List.length_nil, laySlots]
                clear hblk hne
                generalize gs 0 = g11_0 at *
                generalize gs 1 = g11_1 at *
                have B11_0 : Blk w11 _ _ := B10_0.below hb11
                obtain ⟨z11_0, c11_0, f11_0⟩ := id B11_0
                have B11_1 : Blk w11 _ _ := B10_1.below hb11
                obtain ⟨z11_1, c11_1, f11_1⟩ := id B11_1
                have B11_2 : Blk w11 _ _ := B10_2.below hb11
                obtain ⟨z11_2, c11_2, f11_2⟩ := id B11_2
                obtain ⟨zg11_0, cg11_0, fg11_0⟩ := id G11_0
                have ne11_0_0 : g11_0 ≠ w.heap.size := by omega
                have ne11_0_1 : g11_0 ≠ w1.heap.size := by omega
                have ne11_0_2 : g11_0 ≠ wr.heap.size := by omega
                obtain ⟨zg11_1, cg11_1, fg11_1⟩ := id G11_1
                have ne11_1_0 : g11_1 ≠ w.heap.size := by omega
                have ne11_1_1 : g11_1 ≠ w1.heap.size := by omega
                have ne11_1_2 : g11_1 ≠ wr.heap.size := by omega
                have hT11 : Tab w11 b n 17 Mk := hT10.below hb11
                have nt11_0 : g11_0 ≠ b := by have := hT10.lt; omega
                have nt11_1 : g11_1 ≠ b := by have := hT10.lt; omega
                have lb11_0 : w.heap.size ≤ g11_0 := Nat.le_trans ms10 hg11_0
                have lb11_1 : w.heap.size ≤ g11_1 := Nat.le_trans ms10 hg11_1
                clear hg11_0 hg11_1
                clear B10_0 z10_0 c10_0 f10_0 B10_1 z10_1 c10_1 f10_1 B10_2 z10_2 c10_2 f10_2 hT10
                go_wp2_with fail
                go_roundw
                case rel => exact ⟨k + 1, by omega, by go_num, by rw [HNO.out (fun h => by have := h.2.1; rw [HB.out] at this; omega)]; exact fun hn0 => ⟨b, rfl, hbb, (by repeat (with_reducible (first | assumption | apply Tab.alloc | apply Tab.drew | apply Tab.drewN | apply Tab.more | (apply Tab.far; focus (first | assumption | (apply Ne.symm; assumption) | (simp; done) | (simp <;> omega))))))⟩, (by repeat (with_reducible (first | assumption | (apply Blk.at; simp; done) | apply Blk.alloc | apply Blk.drew | apply Blk.drewN | apply Blk.more | apply Blk.put | (apply Blk.far; focus (first | assumption | (apply Ne.symm; assumption) | (simp; done) | (simp <;> omega)))))), (by repeat (with_reducible (first | assumption | (apply Blk.at; simp; done) | apply Blk.alloc | apply Blk.drew | apply Blk.drewN | apply Blk.more | apply Blk.put | (apply Blk.far; focus (first | assumption | (apply Ne.symm; assumption) | (simp; done) | (simp <;> omega)))))), (by repeat (with_reducible (first | exact Below.refl _ _ | assumption | apply ext_drew | apply ext_drewN | apply ext_alloc | apply ext_more | (refine ext_setCell ?_ (by first | assumption | (simp <;> omega)) _) | (refine ext_below ?_ (by assumption)))))⟩
                case measure => simp [intOf]; omega
          · have HA := Lib.hid (idx_not ha)
            clear ha
            by_cases hb0 : 0 ≤ idx Mk n tB
            · obtain ⟨hb2, hj⟩ := idx_lt hb0
              obtain ⟨b, e_b, hbb, hTk⟩ := hO (by omega)
              have nbp : b < w1.heap.size := hAp (by omega) b e_b
              subst e_b
              generalize (idx Mk n tB).toNat = j at *
              have HB := Lib.hid hb2
              clear hb0 hb2
              have hj0 : ¬ (j : Int) < 0 := by omega
              have hT9 := hTk
              have hblt := hTk.lt
              have nbw : b ≠ wr.heap.size := by omega
              have nlb : w.heap.size ≠ b := by omega
              have lw1 : w.heap.size ≤ w1.heap.size := by omega
              go_wp2_with fail
              refine wp_fresh ?_
              rintro w10 hb10
              have B10_0 : Blk w10 (w.heap.size) _ := Blk.below (by repeat (with_reducible (first | assumption | (apply Blk.at; simp; done) | apply Blk.alloc | apply Blk.drew | apply Blk.drewN | apply Blk.more | apply Blk.put | (apply Blk.far; focus (first | assumption | (apply Ne.symm; assumption) | (simp; done) | (simp <;> omega)))))) hb10
              obtain ⟨z10_0, c10_0, f10_0⟩ := id B10_0
              have B10_1 : Blk w10 (w1.heap.size) _ := Blk.below (by repeat (with_reducible (first | assumption | (apply Blk.at; simp; done) | apply Blk.alloc | apply Blk.drew | apply Blk.drewN | apply Blk.more | apply Blk.put | (apply Blk.far; focus (first | assumption | (apply Ne.symm; assumption) | (simp; done) | (simp <;> omega)))))) hb10
              obtain ⟨z10_1, c10_1, f10_1⟩ := id B10_1
              have B10_2 : Blk w10 (wr.heap.size) _ := Blk.below (by repeat (with_reducible (first | assumption | (apply Blk.at; simp; done) | apply Blk.alloc | apply Blk.drew | apply Blk.drewN | apply Blk.more | apply Blk.put | (apply Blk.far; focus (first | assumption | (apply Ne.symm; assumption) | (simp; done) | (simp <;> omega)))))) hb10
              try simp only [List.setIfInBounds_toArray] at B10_2
              try simp only [List.set_cons_succ] at B10_2
              try simp only [List.set_cons_zero] at B10_2
              obtain ⟨z10_2, c10_2, f10_2⟩ := id B10_2
              have hT10 : Tab w10 b n 17 Mk := ((show Tab _ b n 17 Mk from (by repeat (with_reducible (first | assumption | apply Tab.alloc | apply Tab.drew | apply Tab.drewN | apply Tab.more | (apply Tab.far; focus (first | assumption | (apply Ne.symm; assumption) | (simp; done) | (simp <;> omega)))))))).below hb10
              have hB10 : Below w.heap.size w w10 := (by repeat (with_reducible (first | exact Below.refl _ _ | assumption | apply ext_drew | apply ext_drewN | apply ext_alloc | apply ext_more | (refine ext_setCell ?_ (by first | assumption | (simp <;> omega)) _) | (refine ext_below ?_ (by assumption)))))
              have ms10 : w.heap.size ≤ w10.heap.size := hB10.size
              clear hb10
              clear hTk hT9 hO hP cp zl cl fl zp fp hL hAp htb
              refine region_grow (A := ?A11ny) 8 [10, 11] (fun _ => #[.int .i64 0]) (by kernel_rfl) (by kernel_rfl) ?hrun11ny ?hq11ny ?htail11ny
              case hq11ny =>
                intro w0 hb0
                simp only [List.take_succ_cons, List.take_zero]
                have B0_0 : Blk w0 _ _ := B10_0.below hb0
                obtain ⟨z0_0, c0_0, f0_0⟩ := id B0_0
                have B0_1 : Blk w0 _ _ := B10_1.below hb0
                obtain ⟨z0_1, c0_1, f0_1⟩ := id B0_1
                have B0_2 : Blk w0 _ _ := B10_2.below hb0
                obtain ⟨z0_2, c0_2, f0_2⟩ := id B0_2
                have hT0_ : Tab w0 b n 17 Mk := hT10.below hb0
                repeat (go_big_quiet_step (first | (go_at_call 108; with_reducible exact calls_after (rindex_c Mk _ n cap tA _ _ hn9 (Own.more (Own.of_tab hT0_) _) HA.out)) | (go_at_call 108; with_reducible exact calls_after (rindex_c Mk _ n cap tB _ _ hn9 (Own.more (Own.of_tab hT0_) _) HB.out))))
                refine wpQuiet_nil ?_
                rfl
              case hrun11ny =>
                intro j hj
                match j, hj with
                | 0, _ => exact ⟨_, _, rfl, fun a w => by simp [go_sem]; rfl⟩
                | 1, _ => exact ⟨_, _, rfl, fun a w => by simp [go_sem]; rfl⟩
              case htail11ny =>
                intro gs w11 hb11 hblk hne
                obtain ⟨G11_0, hg11_0⟩ := hblk 0 (by decide)
                obtain ⟨G11_1, hg11_1⟩ := hblk 1 (by decide)
                have hn11_0_1 := hne 0 1 (by decide) (by decide) (by decide)
                simp only [List.drop_succ_cons, List.drop_zero, List.length_cons, List.length_nil, laySlots]
                clear hblk hne
                generalize gs 0 = g11_0 at *
                generalize gs 1 = g11_1 at *
                have B11_0 : Blk w11 _ _ := B10_0.below hb11
                obtain ⟨z11_0, c11_0, f11_0⟩ := id B11_0
                have B11_1 : Blk w11 _ _ := B10_1.below hb11
                obtain ⟨z11_1, c11_1, f11_1⟩ := id B11_1
                have B11_2 : Blk w11 _ _ := B10_2.below hb11
                obtain ⟨z11_2, c11_2, f11_2⟩ := id B11_2
                obtain ⟨zg11_0, cg11_0, fg11_0⟩ := id G11_0
                have ne11_0_0 : g11_0 ≠ w.heap.size := by omega
                have ne11_0_1 : g11_0 ≠ w1.heap.size := by omega
                have ne11_0_2 : g11_0 ≠ wr.heap.size := by omega
                obtain ⟨zg11_1, cg11_1, fg11_1⟩ := id G11_1
                have ne11_1_0 : g11_1 ≠ w.heap.size := by omega
                have ne11_1_1 : g11_1 ≠ w1.heap.size := by omega
                have ne11_1_2 : g11_1 ≠ wr.heap.size := by omega
                have hT11 : Tab w11 b n 17 Mk := hT10.below hb11
                have nt11_0 : g11_0 ≠ b := by have := hT10.lt; omega
                have nt11_1 : g11_1 ≠ b := by have := hT10.lt; omega
                have lb11_0 : w.heap.size ≤ g11_0 := Nat.le_trans ms10 hg11_0
                have lb11_1 : w.heap.size ≤ g11_1 := Nat.le_trans ms10 hg11_1
                clear hg11_0 hg11_1
                clear B10_0 z10_0 c10_0 f10_0 B10_1 z10_1 c10_1 f10_1 B10_2 z10_2 c10_2 f10_2 hT10
                go_wp2_with fail
                go_roundw
                case rel => exact ⟨k + 1, by omega, by go_num, by rw [HNO.out (fun h => by have := h.1; rw [HA.out] at this; omega)]; exact fun hn0 => ⟨b, rfl, hbb, (by repeat (with_reducible (first | assumption | apply Tab.alloc | apply Tab.drew | apply Tab.drewN | apply Tab.more | (apply Tab.far; focus (first | assumption | (apply Ne.symm; assumption) | (simp; done) | (simp <;> omega))))))⟩, (by repeat (with_reducible (first | assumption | (apply Blk.at; simp; done) | apply Blk.alloc | apply Blk.drew | apply Blk.drewN | apply Blk.more | apply Blk.put | (apply Blk.far; focus (first | assumption | (apply Ne.symm; assumption) | (simp; done) | (simp <;> omega)))))), (by repeat (with_reducible (first | assumption | (apply Blk.at; simp; done) | apply Blk.alloc | apply Blk.drew | apply Blk.drewN | apply Blk.more | apply Blk.put | (apply Blk.far; focus (first | assumption | (apply Ne.symm; assumption) | (simp; done) | (simp <;> omega)))))), (by repeat (with_reducible (first | exact Below.refl _ _ | assumption | apply ext_drew | apply ext_drewN | apply ext_alloc | apply ext_more | (refine ext_setCell ?_ (by first | assumption | (simp <;> omega)) _) | (refine ext_below ?_ (by assumption)))))⟩
                case measure => simp [intOf]; omega
            · have HB := Lib.hid (idx_not hb0)
              clear hb0
              have hO9 := hO.own
              go_wp2_with fail
              refine wp_fresh ?_
              rintro w10 hb10
              have B10_0 : Blk w10 (w.heap.size) _ := Blk.below (by repeat (with_reducible (first | assumption | (apply Blk.at; simp; done) | apply Blk.alloc | apply Blk.drew | apply Blk.drewN | apply Blk.more | apply Blk.put | (apply Blk.far; focus (first | assumption | (apply Ne.symm; assumption) | (simp; done) | (simp <;> omega)))))) hb10
              obtain ⟨z10_0, c10_0, f10_0⟩ := id B10_0
              have B10_1 : Blk w10 (w1.heap.size) _ := Blk.below (by repeat (with_reducible (first | assumption | (apply Blk.at; simp; done) | apply Blk.alloc | apply Blk.drew | apply Blk.drewN | apply Blk.more | apply Blk.put | (apply Blk.far; focus (first | assumption | (apply Ne.symm; assumption) | (simp; done) | (simp <;> omega)))))) hb10
              obtain ⟨z10_1, c10_1, f10_1⟩ := id B10_1
              have B10_2 : Blk w10 (wr.heap.size) _ := Blk.below (by repeat (with_reducible (first | assumption | (apply Blk.at; simp; done) | apply Blk.alloc | apply Blk.drew | apply Blk.drewN | apply Blk.more | apply Blk.put | (apply Blk.far; focus (first | assumption | (apply Ne.symm; assumption) | (simp; done) | (simp <;> omega)))))) hb10
              try simp only [List.setIfInBounds_toArray] at B10_2
              try simp only [List.set_cons_succ] at B10_2
              try simp only [List.set_cons_zero] at B10_2
              obtain ⟨z10_2, c10_2, f10_2⟩ := id B10_2
              have hO10 : Own w10 A n Mk := ((show Own _ A n Mk from (by repeat (with_reducible (first | assumption | apply Own.alloc | apply Own.drew | apply Own.drewN | apply Own.more | (apply Own.far; focus (first | assumption | (apply Ne.symm; assumption) | (simp; done) | (simp <;> omega)))))))).below hb10
              have ms10 : wr.heap.size ≤ w10.heap.size := (show Below wr.heap.size wr w10 from (by repeat (with_reducible (first | exact Below.refl _ _ | assumption | apply ext_drew | apply ext_drewN | apply ext_alloc | apply ext_more | (refine ext_setCell ?_ (by first | assumption | (simp <;> omega)) _) | (refine ext_below ?_ (by assumption)))))).size
              refine region_grow (A := ?A11nn) 8 [10, 11] (fun _ => #[.int .i64 0]) (by kernel_rfl) (by kernel_rfl) ?hrun11nn ?hq11nn ?htail11nn
              case hq11nn =>
                intro w0 hb0
                simp only [List.take_succ_cons, List.take_zero]
                have B0_0 : Blk w0 _ _ := B10_0.below hb0
                obtain ⟨z0_0, c0_0, f0_0⟩ := id B0_0
                have B0_1 : Blk w0 _ _ := B10_1.below hb0
                obtain ⟨z0_1, c0_1, f0_1⟩ := id B0_1
                have B0_2 : Blk w0 _ _ := B10_2.below hb0
                obtain ⟨z0_2, c0_2, f0_2⟩ := id B0_2
                have hO0_ : Own w0 A n Mk := hO10.below hb0
                repeat (go_big_quiet_step (first | (go_at_call 108; with_reducible exact calls_after (rindex_c Mk _ n cap tA _ _ hn9 (Own.more hO0_ _) HA.out)) | (go_at_call 108; with_reducible exact calls_after (rindex_c Mk _ n cap tB _ _ hn9 (Own.more hO0_ _) HB.out))))
                refine wpQuiet_nil ?_
                rfl
              case hrun11nn =>
                intro j hj
                match j, hj with
                | 0, _ => exact ⟨_, _, rfl, fun a w => by simp [go_sem]; rfl⟩
                | 1, _ => exact ⟨_, _, rfl, fun a w => by simp [go_sem]; rfl⟩
              case htail11nn =>
                intro gs w11 hb11 hblk hne
                obtain ⟨G11_0, hg11_0⟩ := hblk 0 (by decide)
                obtain ⟨G11_1, hg11_1⟩ := hblk 1 (by decide)
                have hn11_0_1 := hne 0 1 (by decide) (by decide) (by decide)
                simp only [List.drop_succ_cons, List.drop_zero, List.length_cons, List.length_nil, laySlots]
                clear hblk hne
                generalize gs 0 = g11_0 at *
                generalize gs 1 = g11_1 at *
                have B11_0 : Blk w11 _ _ := B10_0.below hb11
                obtain ⟨z11_0, c11_0, f11_0⟩ := id B11_0
                have B11_1 : Blk w11 _ _ := B10_1.below hb11
                obtain ⟨z11_1, c11_1, f11_1⟩ := id B11_1
                have B11_2 : Blk w11 _ _ := B10_2.below hb11
                obtain ⟨z11_2, c11_2, f11_2⟩ := id B11_2
                obtain ⟨zg11_0, cg11_0, fg11_0⟩ := id G11_0
                have ne11_0_0 : g11_0 ≠ w.heap.size := by omega
                have ne11_0_1 : g11_0 ≠ w1.heap.size := by omega
                have ne11_0_2 : g11_0 ≠ wr.heap.size := by omega
                obtain ⟨zg11_1, cg11_1, fg11_1⟩ := id G11_1
                have ne11_1_0 : g11_1 ≠ w.heap.size := by omega
                have ne11_1_1 : g11_1 ≠ w1.heap.size := by omega
                have ne11_1_2 : g11_1 ≠ wr.heap.size := by omega
                have hO11 : Own w11 A n Mk := hO10.below hb11
                clear B10_0 z10_0 c10_0 f10_0 B10_1 z10_1 c10_1 f10_1 B10_2 z10_2 c10_2 f10_2 hO10
                go_wp2_with fail
                go_roundw
                case rel => exact ⟨k + 1, by omega, by go_num, by rw [HNO.out (fun h => by have := h.1; rw [HA.out] at this; omega)]; exact (hO.below (by repeat (with_reducible (first | exact Below.refl _ _ | assumption | apply ext_drew | apply ext_drewN | apply ext_alloc | apply ext_more | (refine ext_setCell ?_ (by first | assumption | (simp <;> omega)) _) | (refine ext_below ?_ (by assumption)))))), (by repeat (with_reducible (first | assumption | (apply Blk.at; simp; done) | apply Blk.alloc | apply Blk.drew | apply Blk.drewN | apply Blk.more | apply Blk.put | (apply Blk.far; focus (first | assumption | (apply Ne.symm; assumption) | (simp; done) | (simp <;> omega)))))), (by repeat (with_reducible (first | assumption | (apply Blk.at; simp; done) | apply Blk.alloc | apply Blk.drew | apply Blk.drewN | apply Blk.more | apply Blk.put | (apply Blk.far; focus (first | assumption | (apply Ne.symm; assumption) | (simp; done) | (simp <;> omega)))))), (by repeat (with_reducible (first | exact Below.refl _ _ | assumption | apply ext_drew | apply ext_drewN | apply ext_alloc | apply ext_more | (refine ext_setCell ?_ (by first | assumption | (simp <;> omega)) _) | (refine ext_below ?_ (by assumption)))))⟩
                case measure => simp [intOf]; omega
        · have hkm : k = m := by omega
          subst hkm
          go_wp2
          go_roundw
          case rel => exact ⟨p + 1, by omega, by go_num, by show OwnB _ _ _ _ (passF _ _ _ _ _ _); rw [← HMp.out]; exact hO, hL, hP, hB⟩
          case measure => simp [intOf]; omega
    · have hpR : p = R := by omega
      subst hpR
      obtain ⟨zp4, cp4, fp4⟩ := id hPp
      go_wp2
      go_loopw [152] (fun i wr => ∃ k : Nat, k ≤ n ∧ i = .int .i64 k ∧ OwnB (w.heap.size + 1) wr A n (clampF Mp k) ∧ Blk wr w1.heap.size #[.slice A n cap] ∧ Below w.heap.size w wr) (fun i _ => n - (intOf i).toNat)
      case atStart => exact ⟨0, by omega, rfl, fun h => by obtain ⟨b, e, h1, h2⟩ := hOp h; exact ⟨b, e, h1, h2.eq (fun a _ c _ => (clampF_zero _ _ _).symm)⟩, hPp, hBp⟩
      case round =>
        obtain ⟨k, hk, rfl, hO, hP, hB⟩ := hrel
        obtain ⟨zp, cp, fp⟩ := id hP
        by_cases hlt : k < n
        · obtain ⟨b, e_b, hbb, hT⟩ := hO (by omega)
          have nbp : b < w1.heap.size := hAp (by omega) b e_b
          subst e_b
          clear hO hOp hPp zp4 cp4 fp4
          have y0 := hT.cell hlt (j := 9) (by decide)
          have y1 := hT.cell hlt (j := 10) (by decide)
          have y2 := hT.cell hlt (j := 11) (by decide)
          have zb0 := hT.lt
          go_wp2_with fail
          refine region_quiet_but 10 (by kernel_rfl) (by kernel_rfl) ?_
          simp only [List.take_succ_cons, List.take_zero, List.drop_succ_cons, List.drop_zero]
          repeat (go_big_quiet_step ((go_at_call 71; exact calls_after (rclampS_c _ _ _ _))))
          refine wpQuiet_nil ?_
          rintro w4 hw4
          have hb4 := after_below hw4
          clear hw4
          have hT3 : Tab w4 b n 17 (clampF Mp k) := hT.below hb4
          have hP4 : Blk w4 w1.heap.size _ := hP.below hb4
          have v0 : w4.cell? ⟨b, k * 17 + 9, none⟩ = some (.int .i64 (clampF Mp k k 9)) := hT3.cell hlt (j := 9) (by decide)
          have v1 : w4.cell? ⟨b, k * 17 + 9 + 1, none⟩ = some (.int .i64 (clampF Mp k k 10)) := hT3.cell hlt (j := 10) (by decide)
          have v2 : w4.cell? ⟨b, k * 17 + 9 + 2, none⟩ = some (.int .i64 (clampF Mp k k 11)) := hT3.cell hlt (j := 11) (by decide)
          have u0 : w4.frozen? ⟨b, k * 17 + 9, none⟩ = false := hT3.free _
          have u1 : w4.frozen? ⟨b, k * 17 + 9 + 1, none⟩ = false := hT3.free _
          have u2 : w4.frozen? ⟨b, k * 17 + 9 + 2, none⟩ = false := hT3.free _
          have zb := hT3.lt
          have nbq : b ≠ w1.heap.size := by omega
          have hB4 : Below w.heap.size w w4 := hB.trans (hb4.mono hB.size)
          go_wp2
          go_roundw
          case rel => exact ⟨k + 1, by omega, by go_num, fun _ => ⟨b, rfl, hbb, Tab.eq (hT3.set3 hlt (j := 9) (by decide) _ _ _) (fun a _ c _ => clampF_succ Mp k a c)⟩, (by repeat (with_reducible (first | assumption | (apply Blk.at; simp; done) | apply Blk.alloc | apply Blk.drew | apply Blk.drewN | apply Blk.more | apply Blk.put | (apply Blk.far; focus (first | assumption | (apply Ne.symm; assumption) | (simp; done) | (simp <;> omega)))))), (by repeat (with_reducible (first | exact Below.refl _ _ | assumption | apply ext_drew | apply ext_drewN | apply ext_alloc | apply ext_more | (refine ext_setCell ?_ (by first | assumption | (simp <;> omega)) _) | (refine ext_below ?_ (by assumption)))))⟩
          case measure => simp [intOf]; omega
        · have hkn : k = n := by omega
          go_wp2
          go_ret
          exact ⟨A, cap, rfl, by have h9 := OwnB.mono (base' := w.heap.size) hO (by omega); rw [hkn] at h9; rw [← HMp.out]; exact h9, hB⟩

end Go.Proofs.Ytfagkbmphohelaa
