/- The contracts of gyrekeep.solved and gyrekeep.law. Conditions: none. -/
import Derived.Test.YtniahipadfgkbaaGreatKB
import Derived.Test.YtniahipadfgkbaaGreatKSolve12
import Derived.LoopTactic
import Derived.Test.YtniahipadfgkbaaGreatKMath2
import Derived.Test.YtniahipadfgkbaaGreatKS2
import Derived.Test.YtniahipadfgkbaaGreatKPick
namespace Go.Proofs.YtniahipadfgkbaaGreat
open Go.ChangeShapes Go.WideShapes Go.ChangeAt Go.RowKit Go.BigFrame
/-- a law that may be -/
def RightL (bo ru ro : Int) : Prop := (0 ≤ bo ∧ bo ≤ 65536) ∧ (0 ≤ ru ∧ ru ≤ 65536) ∧ 1 ≤ ro ∧ ro ≤ 20
instance (bo ru ro : Int) : Decidable (RightL bo ru ro) := inferInstanceAs (Decidable (_ ∧ _))

theorem okl_yes (n : Int) (h0 : 0 ≤ n) (h1 : n ≤ 65536) (w : World) : Calls Tryz.prog 59 #[.int .i64 n] w fun e w' => e = .returned (.bool true) ∧ w = w' := by
  go_enter Tryz.func59, Tryz.ntmps59
  go_wp2
  go_ret
  exact ⟨rfl, rfl⟩
theorem okl_no (n : Int) (h : ¬ (0 ≤ n ∧ n ≤ 65536)) (w : World) : Calls Tryz.prog 59 #[.int .i64 n] w fun e w' => e = .returned (.bool false) ∧ w = w' := by
  by_cases h0 : 0 ≤ n
  · have h1 : ¬ n ≤ 65536 := fun h1 => h ⟨h0, h1⟩
    go_enter Tryz.func59, Tryz.ntmps59
    go_wp2
    go_ret
    exact ⟨rfl, rfl⟩
  · go_enter Tryz.func59, Tryz.ntmps59
    go_wp2
    go_ret
    exact ⟨rfl, rfl⟩

set_option maxHeartbeats 2000000 in
theorem lawright_c (bo ru ro : Int) (w : World) : Calls Tryz.prog 29 #[.agg #[.int .i64 bo, .int .i64 ru, .int .i64 ro]] w fun e w' => e = .returned (.bool (decide (RightL bo ru ro))) ∧ Below w.heap.size w w' := by
  by_cases hbo : 0 ≤ bo ∧ bo ≤ 65536
  rotate_left
  · have hbo' := hbo
    go_enter Tryz.func29, Tryz.ntmps29
    go_wp2_with fail
    refine (okl_no bo hbo' _).mono ?_
    rintro e w' ⟨rfl, rfl⟩
    go_wp2
    go_ret
    exact ⟨by simp [RightL, *], (by repeat (with_reducible (first | exact Below.refl _ _ | assumption | apply ext_drew | apply ext_drewN | apply ext_alloc | apply ext_more | (refine ext_setCell ?_ (by simp <;> omega) _) | (refine ext_below ?_ (by assumption)))))⟩
  by_cases hru : 0 ≤ ru ∧ ru ≤ 65536
  rotate_left
  · have hru' := hru
    go_enter Tryz.func29, Tryz.ntmps29
    go_wp2_with fail
    refine (okl_yes bo hbo.1 hbo.2 _).mono ?_
    rintro e w' ⟨rfl, rfl⟩
    go_wp2_with fail
    refine (okl_no ru hru' _).mono ?_
    rintro e w' ⟨rfl, rfl⟩
    go_wp2
    go_ret
    exact ⟨by simp [RightL, *], (by repeat (with_reducible (first | exact Below.refl _ _ | assumption | apply ext_drew | apply ext_drewN | apply ext_alloc | apply ext_more | (refine ext_setCell ?_ (by simp <;> omega) _) | (refine ext_below ?_ (by assumption)))))⟩
  by_cases h1 : 1 ≤ ro
  rotate_left
  · have hf : ¬ RightL bo ru ro := fun h => h1 h.2.2.1
    have hf' : decide (RightL bo ru ro) = false := decide_eq_false hf
    clear hf
    go_enter Tryz.func29, Tryz.ntmps29
    go_wp2_with fail
    refine (okl_yes bo hbo.1 hbo.2 _).mono ?_
    rintro e w' ⟨rfl, rfl⟩
    go_wp2_with fail
    refine (okl_yes ru hru.1 hru.2 _).mono ?_
    rintro e w' ⟨rfl, rfl⟩
    go_wp2
    go_ret
    exact ⟨by first | rfl | (rw [hf']; rfl) | (simp; omega) | (rw [hf']; simp; omega), (by repeat (with_reducible (first | exact Below.refl _ _ | assumption | apply ext_drew | apply ext_drewN | apply ext_alloc | apply ext_more | (refine ext_setCell ?_ (by simp <;> omega) _) | (refine ext_below ?_ (by assumption)))))⟩
  by_cases h2 : ro ≤ 20
  rotate_left
  · have hf : ¬ RightL bo ru ro := fun h => h2 h.2.2.2
    have hf' : decide (RightL bo ru ro) = false := decide_eq_false hf
    clear hf
    go_enter Tryz.func29, Tryz.ntmps29
    go_wp2_with fail
    refine (okl_yes bo hbo.1 hbo.2 _).mono ?_
    rintro e w' ⟨rfl, rfl⟩
    go_wp2_with fail
    refine (okl_yes ru hru.1 hru.2 _).mono ?_
    rintro e w' ⟨rfl, rfl⟩
    go_wp2
    go_ret
    exact ⟨by first | rfl | (rw [hf']; rfl) | (simp; omega) | (rw [hf']; simp; omega), (by repeat (with_reducible (first | exact Below.refl _ _ | assumption | apply ext_drew | apply ext_drewN | apply ext_alloc | apply ext_more | (refine ext_setCell ?_ (by simp <;> omega) _) | (refine ext_below ?_ (by assumption)))))⟩
  · have hf' : decide (RightL bo ru ro) = true := decide_eq_true ⟨hbo, hru, h1, h2⟩
    go_enter Tryz.func29, Tryz.ntmps29
    go_wp2_with fail
    refine (okl_yes bo hbo.1 hbo.2 _).mono ?_
    rintro e w' ⟨rfl, rfl⟩
    go_wp2_with fail
    refine (okl_yes ru hru.1 hru.2 _).mono ?_
    rintro e w' ⟨rfl, rfl⟩
    go_wp2
    go_ret
    exact ⟨by first | rfl | (rw [hf']; rfl) | (simp; omega) | (rw [hf']; simp; omega), (by repeat (with_reducible (first | exact Below.refl _ _ | assumption | apply ext_drew | apply ext_drewN | apply ext_alloc | apply ext_more | (refine ext_setCell ?_ (by simp <;> omega) _) | (refine ext_below ?_ (by assumption)))))⟩

end Go.Proofs.YtniahipadfgkbaaGreat
namespace Go.Proofs.YtniahipadfgkbaaGreat
open Go.ChangeShapes Go.WideShapes Go.ChangeAt Go.RowKit Go.BigFrame
def speedStep (M : Nat → Nat → Int) (n : Nat) (bo ru tA tB g1 g2 g3 : Int) : Nat → Nat → Int := if Both M n tA tB then pushM M (idx M n tA).toNat (idx M n tB).toNat g1 g2 g3 bo ru else M
/-- k touches, one behind the other -/
def passF (M T : Nat → Nat → Int) (n : Nat) (bo ru : Int) : Nat → Nat → Nat → Int
  | 0 => M
  | k + 1 => speedStep (passF M T n bo ru k) n bo ru (T k 0) (T k 1) (T k 2) (T k 3) (T k 4)
/-- p times all touches -/
def passes (M T : Nat → Nat → Int) (n m : Nat) (bo ru : Int) : Nat → Nat → Nat → Int
  | 0 => M
  | p + 1 => passF (passes M T n m bo ru p) T n bo ru m
/-- the speeds of the first k rows within their bound -/
def clampF (M : Nat → Nat → Int) (k : Nat) : Nat → Nat → Int := fun a c => if a < k ∧ (c = 9 ∨ c = 10 ∨ c = 11) then clamp 6553600 (M a c) else M a c
def speedsF (M T : Nat → Nat → Int) (n m : Nat) (bo ru ro : Int) : Nat → Nat → Int := if RightL bo ru ro then clampF (passes M T n m bo ru ro.toNat) n else M
theorem clampF_zero (M : Nat → Nat → Int) (a c : Nat) : clampF M 0 a c = M a c := if_neg (by omega)
theorem clampF_row (M : Nat → Nat → Int) (k c : Nat) : clampF M k k c = M k c := if_neg (by omega)
theorem clampF_succ (M : Nat → Nat → Int) (k a c : Nat) : put3 (clampF M k) k 9 (clamp 6553600 (clampF M k k 9)) (clamp 6553600 (clampF M k k 10)) (clamp 6553600 (clampF M k k 11)) a c = clampF M (k + 1) a c := by
  simp only [clampF_row]
  unfold put3 put1 clampF
  by_cases ha : a = k
  · subst ha
    by_cases h9 : c = 9
    · subst h9; simp
    by_cases h10 : c = 10
    · subst h10; simp
    by_cases h11 : c = 11
    · subst h11; simp
    simp [h9, h10, h11]
  · simp only [ha, false_and, if_false]
    by_cases h : a < k
    · simp [h, Nat.lt_succ_of_lt h]
    · rw [if_neg (by omega), if_neg (by omega)]
theorem clampS_c (a1 a2 a3 : Int) (w : World) : Calls Tryz.prog 12 #[.agg #[.int .i64 a1, .int .i64 a2, .int .i64 a3], .int .i64 6553600] w fun e w' => e = .returned (.agg #[.int .i64 (clamp 6553600 a1), .int .i64 (clamp 6553600 a2), .int .i64 (clamp 6553600 a3)]) ∧ Below w.heap.size w w' := clamp_c a1 a2 a3 6553600 (by decide) w
theorem speeds_no (M T : Nat → Nat → Int) (n k : Nat) (bo ru : Int) (h : ¬ Both (passF M T n bo ru k) n (T k 0) (T k 1)) : passF M T n bo ru (k + 1) = passF M T n bo ru k := if_neg h
theorem speeds_go (M T : Nat → Nat → Int) (n k i j : Nat) (bo ru : Int) (hA : idx (passF M T n bo ru k) n (T k 0) = i) (hB : idx (passF M T n bo ru k) n (T k 1) = j) (hne : i ≠ j) : passF M T n bo ru (k + 1) = pushM (passF M T n bo ru k) i j (T k 2) (T k 3) (T k 4) bo ru := by
  show speedStep _ _ _ _ _ _ _ _ _ = _
  have hb : Both (passF M T n bo ru k) n (T k 0) (T k 1) := ⟨by rw [hA]; omega, by rw [hB]; omega, by rw [hA, hB]; omega⟩
  unfold speedStep
  rw [if_pos hb, hA, hB]
  simp

set_option maxRecDepth 100000 in
set_option maxHeartbeats 16000000 in
theorem speeds_1 (M T : Nat → Nat → Int) (B1 B2 : Option Addr) (n cap0 m cap2 R : Nat) (bo ru : Int) (w : World) (hR : Reads w B1 n 17 M) (hA0 : B1 = none → n = 0 ∧ cap0 = 0) (hn : n ≤ 1000000) (hRT : Reads w B2 m 6 T) (hm : m ≤ 1000000) (HR : Hid (RightL bo ru (R : Int))) (hbo : 0 ≤ bo ∧ bo ≤ 65536) (_hR20 : R ≤ 20) :
    Calls Tryz.prog 20 #[.slice B1 n cap0, .slice B2 m cap2, .agg #[.int .i64 bo, .int .i64 ru, .int .i64 (R : Int)]] w fun e w' => ∃ A cap, e = .returned (.slice A n cap) ∧ RowQ w.heap.size w' A n cap (clampF (passes M T n m bo ru R) n) ∧ Below w.heap.size w w' := by
  have hmc := more_cell
  have hmf := more_frozen
  have hml := more_lt
  go_enter Tryz.func20, Tryz.ntmps20
  go_wp2_with fail
  refine (clone_r M B1 n cap0 _ (hR.below (below_alloc _ _)) hA0 hn).mono ?_
  rintro e w1 ⟨A, cap, rfl, hR1, hb1⟩
  have hO1 := hR1.own
  simp only [World.size_alloc] at hR1
  have L1 : Blk w1 w.heap.size #[.int .i64 bo, .int .i64 ru, .int .i64 (R : Int)] := (Blk.fresh _ _ _).below hb1
  obtain ⟨zl, cl, fl⟩ := id L1
  simp only [World.size_alloc] at hO1
  have hn9 : n ≤ 9223372036854775807 := by omega
  have hB1 : Below w.heap.size w w1 := (by repeat (with_reducible (first | exact Below.refl _ _ | assumption | apply ext_drew | apply ext_drewN | apply ext_alloc | apply ext_more | (refine ext_setCell ?_ (by simp <;> omega) _) | (refine ext_below ?_ (by assumption)))))
  go_wp2_with fail
  refine (lawright_c bo ru (R : Int) _).mono ?_
  rintro e w2 ⟨rfl, hb2⟩
  rw [decide_eq_true HR.out]
  have L2 : Blk w2 w.heap.size #[.int .i64 bo, .int .i64 ru, .int .i64 (R : Int)] := L1.below hb2
  obtain ⟨zl2, cl2, fl2⟩ := id L2
  have hO2 := hO1.below hb2
  have hB2 : Below w.heap.size w w2 := hB1.trans (hb2.mono hB1.size)
  have hS2 : Shp w1 w2 := (Shp.refl w1).below hb2
  have HR1 := Lib.hid hR1
  clear hR1
  go_wp2
  go_loopw [22] (fun i wr => ∃ p : Nat, p ≤ R ∧ i = .int .i64 p ∧ OwnB (w.heap.size + 1) wr A n (passes M T n m bo ru p) ∧ Blk wr w.heap.size #[.int .i64 bo, .int .i64 ru, .int .i64 (R : Int)] ∧ Below w.heap.size w wr ∧ Shp w1 wr) (fun i _ => R - (intOf i).toNat)
  case atStart => exact ⟨0, by omega, rfl, hO2, L2, hB2, hS2⟩
  case round =>
    obtain ⟨p, hp, rfl, hOp, hLp, hBp, hSp⟩ := hrel
    obtain ⟨wo, rfl⟩ : ∃ wo : World, wo = wr := ⟨_, rfl⟩
    obtain ⟨Mp, hMp⟩ : ∃ Mp, Mp = passes M T n m bo ru p := ⟨_, rfl⟩
    have HMp := Lib.hid hMp
    rw [← hMp] at hOp
    clear hMp
    by_cases hlt0 : p < R
    · go_wp2
      go_loopw [26] (fun i wr => ∃ k : Nat, k ≤ m ∧ i = .int .i64 k ∧ OwnB (w.heap.size + 1) wr A n (passF Mp T n bo ru k) ∧ Blk wr w.heap.size #[.int .i64 bo, .int .i64 ru, .int .i64 (R : Int)] ∧ Below w.heap.size w wr ∧ Shp w1 wr) (fun i _ => m - (intOf i).toNat)
      case atStart => exact ⟨0, by omega, rfl, hOp, hLp, hBp, hSp⟩
      case round =>
        obtain ⟨k, hk, rfl, hO, hL, hB, hS⟩ := hrel
        by_cases hlt : k < m
        · obtain ⟨tb, to, rfl, htb, htc⟩ := hRT (by omega)
          have q0 : wr.cell? ⟨tb, to + k * 6 + 0, none⟩ = some (.int .i64 (T k 0)) := by rw [Nat.add_assoc]; exact (hB.cell (p := ⟨tb, to + (k * 6 + 0), none⟩) htb).trans (htc k hlt 0 (by decide))
          have q1 : wr.cell? ⟨tb, to + k * 6 + 1, none⟩ = some (.int .i64 (T k 1)) := by rw [Nat.add_assoc]; exact (hB.cell (p := ⟨tb, to + (k * 6 + 1), none⟩) htb).trans (htc k hlt 1 (by decide))
          have q2 : wr.cell? ⟨tb, to + k * 6 + 2, none⟩ = some (.int .i64 (T k 2)) := by rw [Nat.add_assoc]; exact (hB.cell (p := ⟨tb, to + (k * 6 + 2), none⟩) htb).trans (htc k hlt 2 (by decide))
          have q3 : wr.cell? ⟨tb, to + k * 6 + 3, none⟩ = some (.int .i64 (T k 3)) := by rw [Nat.add_assoc]; exact (hB.cell (p := ⟨tb, to + (k * 6 + 3), none⟩) htb).trans (htc k hlt 3 (by decide))
          have q4 : wr.cell? ⟨tb, to + k * 6 + 4, none⟩ = some (.int .i64 (T k 4)) := by rw [Nat.add_assoc]; exact (hB.cell (p := ⟨tb, to + (k * 6 + 4), none⟩) htb).trans (htc k hlt 4 (by decide))
          have q5 : wr.cell? ⟨tb, to + k * 6 + 5, none⟩ = some (.int .i64 (T k 5)) := by rw [Nat.add_assoc]; exact (hB.cell (p := ⟨tb, to + (k * 6 + 5), none⟩) htb).trans (htc k hlt 5 (by decide))
          simp only [Nat.add_zero] at q0
          have hno := speeds_no Mp T n k bo ru
          have hgo := fun i j => speeds_go Mp T n k i j bo ru
          obtain ⟨Mk, hMk⟩ : ∃ Mk, Mk = passF Mp T n bo ru k := ⟨_, rfl⟩
          rw [← hMk] at hO hno
          simp only [← hMk] at hgo
          obtain ⟨tA, htA⟩ : ∃ x, x = T k 0 := ⟨_, rfl⟩
          rw [← htA] at q0
          obtain ⟨tB, htB⟩ : ∃ x, x = T k 1 := ⟨_, rfl⟩
          rw [← htB] at q1
          obtain ⟨g1, hg1⟩ : ∃ x, x = T k 2 := ⟨_, rfl⟩
          rw [← hg1] at q2
          obtain ⟨g2, hg2⟩ : ∃ x, x = T k 3 := ⟨_, rfl⟩
          rw [← hg2] at q3
          obtain ⟨g3, hg3⟩ : ∃ x, x = T k 4 := ⟨_, rfl⟩
          rw [← hg3] at q4
          obtain ⟨dp, hdp⟩ : ∃ x, x = T k 5 := ⟨_, rfl⟩
          rw [← hdp] at q5
          simp only [← htA, ← htB, ← hg1, ← hg2, ← hg3] at hgo
          rw [← htA, ← htB] at hno
          clear htA htB hg1 hg2 hg3 hdp hMk htc
          have HNO := Lib.hid hno
          have HGO := Lib.hid hgo
          clear hno hgo
          clear hO1 hO2 hOp hLp hBp hSp hS2 L1 L2 cl fl cl2 fl2 zl zl2 hb1 hb2 hB1 hB2 hRT hR
          obtain ⟨zl, cl, fl⟩ := id hL
          have hrb : w.heap.size ≤ wr.heap.size := hB.size
          have nwl : wr.heap.size ≠ w.heap.size := by omega
          by_cases ha : 0 ≤ idx Mk n tA
          · obtain ⟨ha1, hi⟩ := idx_lt ha
            obtain ⟨b, e_b, hbb, hTk⟩ := hO (by omega)
            generalize (idx Mk n tA).toNat = i at *
            have HA := Lib.hid ha1
            clear ha ha1
            subst e_b
            by_cases hb0 : 0 ≤ idx Mk n tB
            · obtain ⟨hb2, hj⟩ := idx_lt hb0
              generalize (idx Mk n tB).toNat = j at *
              have HB := Lib.hid hb2
              clear hb0 hb2
              by_cases hne : i = j
              · subst hne
                have hT9 := hTk
                have hblt := hTk.lt
                have nbw : b ≠ wr.heap.size := by omega
                go_wp2_with fail
                go_wp2_with fail
                refine calls_here ?_
                rintro w10 hb10
                have B10_0 : Blk w10 (w.heap.size) _ := Blk.below (by repeat (with_reducible (first | assumption | (apply Blk.at; simp; done) | apply Blk.alloc | apply Blk.drew | apply Blk.drewN | apply Blk.more | apply Blk.put | (apply Blk.far; focus (first | assumption | (apply Ne.symm; assumption) | (simp; done) | (simp <;> omega)))))) hb10
                obtain ⟨z10_0, c10_0, f10_0⟩ := id B10_0
                have B10_1 : Blk w10 (wr.heap.size) _ := Blk.below (by repeat (with_reducible (first | assumption | (apply Blk.at; simp; done) | apply Blk.alloc | apply Blk.drew | apply Blk.drewN | apply Blk.more | apply Blk.put | (apply Blk.far; focus (first | assumption | (apply Ne.symm; assumption) | (simp; done) | (simp <;> omega)))))) hb10
                try simp only [List.setIfInBounds_toArray, List.set_cons_zero, List.set_cons_succ] at B10_1
                obtain ⟨z10_1, c10_1, f10_1⟩ := id B10_1
                have hT10 : Tab w10 b n 17 Mk := ((show Tab _ b n 17 Mk from (by repeat (with_reducible (first | assumption | apply Tab.alloc | apply Tab.drew | apply Tab.drewN | apply Tab.more | (apply Tab.far; focus (first | assumption | (apply Ne.symm; assumption) | (simp; done) | (simp <;> omega)))))))).below hb10
                refine (both_same Mk n cap tA tB g1 g2 g3 dp _ b i (hT10) hi HA HB hn9).mono ?_
                rintro e w11 ⟨rfl, hb11⟩
                have B11_0 : Blk w11 (w.heap.size) _ := Blk.below (by repeat (with_reducible (first | assumption | (apply Blk.at; simp; done) | apply Blk.alloc | apply Blk.drew | apply Blk.drewN | apply Blk.more | apply Blk.put | (apply Blk.far; focus (first | assumption | (apply Ne.symm; assumption) | (simp; done) | (simp <;> omega)))))) hb11
                obtain ⟨z11_0, c11_0, f11_0⟩ := id B11_0
                have B11_1 : Blk w11 (wr.heap.size) _ := Blk.below (by repeat (with_reducible (first | assumption | (apply Blk.at; simp; done) | apply Blk.alloc | apply Blk.drew | apply Blk.drewN | apply Blk.more | apply Blk.put | (apply Blk.far; focus (first | assumption | (apply Ne.symm; assumption) | (simp; done) | (simp <;> omega)))))) hb11
                obtain ⟨z11_1, c11_1, f11_1⟩ := id B11_1
                have hT11 : Tab w11 b n 17 Mk := ((show Tab _ b n 17 Mk from (by repeat (with_reducible (first | assumption | apply Tab.alloc | apply Tab.drew | apply Tab.drewN | apply Tab.more | (apply Tab.far; focus (first | assumption | (apply Ne.symm; assumption) | (simp; done) | (simp <;> omega)))))))).below hb11
                go_wp2_with fail
                go_roundw
                case rel => exact ⟨k + 1, by omega, by go_num, by rw [HNO.out (fun h => h.2.2 (by rw [HA.out, HB.out]))]; exact fun hn0 => ⟨b, rfl, hbb, (by repeat (with_reducible (first | assumption | apply Tab.alloc | apply Tab.drew | apply Tab.drewN | apply Tab.more | (apply Tab.far; focus (first | assumption | (apply Ne.symm; assumption) | (simp; done) | (simp <;> omega))))))⟩, (by repeat (with_reducible (first | assumption | (apply Blk.at; simp; done) | apply Blk.alloc | apply Blk.drew | apply Blk.drewN | apply Blk.more | apply Blk.put | (apply Blk.far; focus (first | assumption | (apply Ne.symm; assumption) | (simp; done) | (simp <;> omega)))))), (by repeat (with_reducible (first | exact Below.refl _ _ | assumption | apply ext_drew | apply ext_drewN | apply ext_alloc | apply ext_more | (refine ext_setCell ?_ (by simp <;> omega) _) | (refine ext_below ?_ (by assumption))))), (by repeat (with_reducible (first | assumption | apply Shp.drew | apply Shp.drewN | apply Shp.alloc | apply Shp.more | apply Shp.set | (refine Shp.below ?_ (by assumption)) | (refine Shp.mds ?_ (by assumption)))))⟩
                case measure => simp [intOf]; omega
              · have hT9 := hTk
                have hblt := hTk.lt
                have nbw : b ≠ wr.heap.size := by omega
                go_wp2_with fail
                go_wp2_with fail
                refine calls_here ?_
                rintro w10 hb10
                have B10_0 : Blk w10 (w.heap.size) _ := Blk.below (by repeat (with_reducible (first | assumption | (apply Blk.at; simp; done) | apply Blk.alloc | apply Blk.drew | apply Blk.drewN | apply Blk.more | apply Blk.put | (apply Blk.far; focus (first | assumption | (apply Ne.symm; assumption) | (simp; done) | (simp <;> omega)))))) hb10
                obtain ⟨z10_0, c10_0, f10_0⟩ := id B10_0
                have B10_1 : Blk w10 (wr.heap.size) _ := Blk.below (by repeat (with_reducible (first | assumption | (apply Blk.at; simp; done) | apply Blk.alloc | apply Blk.drew | apply Blk.drewN | apply Blk.more | apply Blk.put | (apply Blk.far; focus (first | assumption | (apply Ne.symm; assumption) | (simp; done) | (simp <;> omega)))))) hb10
                try simp only [List.setIfInBounds_toArray, List.set_cons_zero, List.set_cons_succ] at B10_1
                obtain ⟨z10_1, c10_1, f10_1⟩ := id B10_1
                have hT10 : Tab w10 b n 17 Mk := ((show Tab _ b n 17 Mk from (by repeat (with_reducible (first | assumption | apply Tab.alloc | apply Tab.drew | apply Tab.drewN | apply Tab.more | (apply Tab.far; focus (first | assumption | (apply Ne.symm; assumption) | (simp; done) | (simp <;> omega)))))))).below hb10
                refine (both_yes Mk n cap tA tB g1 g2 g3 dp _ b i j (hT10) hi hj HA HB hne hn9).mono ?_
                rintro e w11 ⟨rfl, hb11⟩
                have B11_0 : Blk w11 (w.heap.size) _ := Blk.below (by repeat (with_reducible (first | assumption | (apply Blk.at; simp; done) | apply Blk.alloc | apply Blk.drew | apply Blk.drewN | apply Blk.more | apply Blk.put | (apply Blk.far; focus (first | assumption | (apply Ne.symm; assumption) | (simp; done) | (simp <;> omega)))))) hb11
                obtain ⟨z11_0, c11_0, f11_0⟩ := id B11_0
                have B11_1 : Blk w11 (wr.heap.size) _ := Blk.below (by repeat (with_reducible (first | assumption | (apply Blk.at; simp; done) | apply Blk.alloc | apply Blk.drew | apply Blk.drewN | apply Blk.more | apply Blk.put | (apply Blk.far; focus (first | assumption | (apply Ne.symm; assumption) | (simp; done) | (simp <;> omega)))))) hb11
                obtain ⟨z11_1, c11_1, f11_1⟩ := id B11_1
                have hT11 : Tab w11 b n 17 Mk := ((show Tab _ b n 17 Mk from (by repeat (with_reducible (first | assumption | apply Tab.alloc | apply Tab.drew | apply Tab.drewN | apply Tab.more | (apply Tab.far; focus (first | assumption | (apply Ne.symm; assumption) | (simp; done) | (simp <;> omega)))))))).below hb11
                go_wp2_with fail
                go_wp2_with fail
                refine calls_here ?_
                rintro w12 hb12
                have B12_0 : Blk w12 (w.heap.size) _ := Blk.below (by repeat (with_reducible (first | assumption | (apply Blk.at; simp; done) | apply Blk.alloc | apply Blk.drew | apply Blk.drewN | apply Blk.more | apply Blk.put | (apply Blk.far; focus (first | assumption | (apply Ne.symm; assumption) | (simp; done) | (simp <;> omega)))))) hb12
                obtain ⟨z12_0, c12_0, f12_0⟩ := id B12_0
                have B12_1 : Blk w12 (wr.heap.size) _ := Blk.below (by repeat (with_reducible (first | assumption | (apply Blk.at; simp; done) | apply Blk.alloc | apply Blk.drew | apply Blk.drewN | apply Blk.more | apply Blk.put | (apply Blk.far; focus (first | assumption | (apply Ne.symm; assumption) | (simp; done) | (simp <;> omega)))))) hb12
                obtain ⟨z12_1, c12_1, f12_1⟩ := id B12_1
                have hT12 : Tab w12 b n 17 Mk := ((show Tab _ b n 17 Mk from (by repeat (with_reducible (first | assumption | apply Tab.alloc | apply Tab.drew | apply Tab.drewN | apply Tab.more | (apply Tab.far; focus (first | assumption | (apply Ne.symm; assumption) | (simp; done) | (simp <;> omega)))))))).below hb12
                with_reducible refine (push_c Mk b n i j tA tB g1 g2 g3 dp bo ru (R : Int) _ hT12 hi hj hne hbo).mono ?_
                rintro e w13 ⟨rfl, hT13, hm13⟩
                have hS12 : Shp w1 w12 := (by repeat (with_reducible (first | assumption | apply Shp.drew | apply Shp.drewN | apply Shp.alloc | apply Shp.more | apply Shp.set | (refine Shp.below ?_ (by assumption)) | (refine Shp.mds ?_ (by assumption)))))
                have hB12 : Below w.heap.size w w12 := (by repeat (with_reducible (first | exact Below.refl _ _ | assumption | apply ext_drew | apply ext_drewN | apply ext_alloc | apply ext_more | (refine ext_setCell ?_ (by simp <;> omega) _) | (refine ext_below ?_ (by assumption)))))
                have hS13 : Shp w1 w13 := hS12.mds hm13
                have hB13 : Below w.heap.size w w13 := hB12.trans (hm13.toBelow hB12.size (fun c hc e => by omega))
                have hL13 : Blk w13 w.heap.size #[.int .i64 bo, .int .i64 ru, .int .i64 (R : Int)] := (show Blk w12 _ _ from (by repeat (with_reducible (first | assumption | (apply Blk.at; simp; done) | apply Blk.alloc | apply Blk.drew | apply Blk.drewN | apply Blk.more | apply Blk.put | (apply Blk.far; focus (first | assumption | (apply Ne.symm; assumption) | (simp; done) | (simp <;> omega))))))).mod hm13.toMod (fun e => by omega)
                go_wp2_with fail
                go_roundw
                case rel => exact ⟨k + 1, by omega, by go_num, by rw [HGO.out i j HA.out HB.out hne]; exact fun _ => ⟨b, rfl, hbb, hT13⟩, hL13, hB13, (by repeat (with_reducible (first | assumption | apply Shp.drew | apply Shp.drewN | apply Shp.alloc | apply Shp.more | apply Shp.set | (refine Shp.below ?_ (by assumption)) | (refine Shp.mds ?_ (by assumption)))))⟩
                case measure => simp [intOf]; omega
            · have HB := Lib.hid (idx_not hb0)
              clear hb0
              have hT9 := hTk
              have hblt := hTk.lt
              have nbw : b ≠ wr.heap.size := by omega
              go_wp2_with fail
              go_wp2_with fail
              refine calls_here ?_
              rintro w10 hb10
              have B10_0 : Blk w10 (w.heap.size) _ := Blk.below (by repeat (with_reducible (first | assumption | (apply Blk.at; simp; done) | apply Blk.alloc | apply Blk.drew | apply Blk.drewN | apply Blk.more | apply Blk.put | (apply Blk.far; focus (first | assumption | (apply Ne.symm; assumption) | (simp; done) | (simp <;> omega)))))) hb10
              obtain ⟨z10_0, c10_0, f10_0⟩ := id B10_0
              have B10_1 : Blk w10 (wr.heap.size) _ := Blk.below (by repeat (with_reducible (first | assumption | (apply Blk.at; simp; done) | apply Blk.alloc | apply Blk.drew | apply Blk.drewN | apply Blk.more | apply Blk.put | (apply Blk.far; focus (first | assumption | (apply Ne.symm; assumption) | (simp; done) | (simp <;> omega)))))) hb10
              try simp only [List.setIfInBounds_toArray, List.set_cons_zero, List.set_cons_succ] at B10_1
              obtain ⟨z10_1, c10_1, f10_1⟩ := id B10_1
              have hT10 : Tab w10 b n 17 Mk := ((show Tab _ b n 17 Mk from (by repeat (with_reducible (first | assumption | apply Tab.alloc | apply Tab.drew | apply Tab.drewN | apply Tab.more | (apply Tab.far; focus (first | assumption | (apply Ne.symm; assumption) | (simp; done) | (simp <;> omega)))))))).below hb10
              refine (both_yn Mk n cap tA tB g1 g2 g3 dp _ b i (hT10) hi HA HB hn9).mono ?_
              rintro e w11 ⟨rfl, hb11⟩
              have B11_0 : Blk w11 (w.heap.size) _ := Blk.below (by repeat (with_reducible (first | assumption | (apply Blk.at; simp; done) | apply Blk.alloc | apply Blk.drew | apply Blk.drewN | apply Blk.more | apply Blk.put | (apply Blk.far; focus (first | assumption | (apply Ne.symm; assumption) | (simp; done) | (simp <;> omega)))))) hb11
              obtain ⟨z11_0, c11_0, f11_0⟩ := id B11_0
              have B11_1 : Blk w11 (wr.heap.size) _ := Blk.below (by repeat (with_reducible (first | assumption | (apply Blk.at; simp; done) | apply Blk.alloc | apply Blk.drew | apply Blk.drewN | apply Blk.more | apply Blk.put | (apply Blk.far; focus (first | assumption | (apply Ne.symm; assumption) | (simp; done) | (simp <;> omega)))))) hb11
              obtain ⟨z11_1, c11_1, f11_1⟩ := id B11_1
              have hT11 : Tab w11 b n 17 Mk := ((show Tab _ b n 17 Mk from (by repeat (with_reducible (first | assumption | apply Tab.alloc | apply Tab.drew | apply Tab.drewN | apply Tab.more | (apply Tab.far; focus (first | assumption | (apply Ne.symm; assumption) | (simp; done) | (simp <;> omega)))))))).below hb11
              go_wp2_with fail
              go_roundw
              case rel => exact ⟨k + 1, by omega, by go_num, by rw [HNO.out (fun h => by have := h.2.1; rw [HB.out] at this; omega)]; exact fun hn0 => ⟨b, rfl, hbb, (by repeat (with_reducible (first | assumption | apply Tab.alloc | apply Tab.drew | apply Tab.drewN | apply Tab.more | (apply Tab.far; focus (first | assumption | (apply Ne.symm; assumption) | (simp; done) | (simp <;> omega))))))⟩, (by repeat (with_reducible (first | assumption | (apply Blk.at; simp; done) | apply Blk.alloc | apply Blk.drew | apply Blk.drewN | apply Blk.more | apply Blk.put | (apply Blk.far; focus (first | assumption | (apply Ne.symm; assumption) | (simp; done) | (simp <;> omega)))))), (by repeat (with_reducible (first | exact Below.refl _ _ | assumption | apply ext_drew | apply ext_drewN | apply ext_alloc | apply ext_more | (refine ext_setCell ?_ (by simp <;> omega) _) | (refine ext_below ?_ (by assumption))))), (by repeat (with_reducible (first | assumption | apply Shp.drew | apply Shp.drewN | apply Shp.alloc | apply Shp.more | apply Shp.set | (refine Shp.below ?_ (by assumption)) | (refine Shp.mds ?_ (by assumption)))))⟩
              case measure => simp [intOf]; omega
          · have HA := Lib.hid (idx_not ha)
            clear ha
            by_cases hb0 : 0 ≤ idx Mk n tB
            · obtain ⟨hb2, hj⟩ := idx_lt hb0
              obtain ⟨b, e_b, hbb, hTk⟩ := hO (by omega)
              subst e_b
              generalize (idx Mk n tB).toNat = j at *
              have HB := Lib.hid hb2
              clear hb0 hb2
              have hT9 := hTk
              have hblt := hTk.lt
              have nbw : b ≠ wr.heap.size := by omega
              go_wp2_with fail
              go_wp2_with fail
              refine calls_here ?_
              rintro w10 hb10
              have B10_0 : Blk w10 (w.heap.size) _ := Blk.below (by repeat (with_reducible (first | assumption | (apply Blk.at; simp; done) | apply Blk.alloc | apply Blk.drew | apply Blk.drewN | apply Blk.more | apply Blk.put | (apply Blk.far; focus (first | assumption | (apply Ne.symm; assumption) | (simp; done) | (simp <;> omega)))))) hb10
              obtain ⟨z10_0, c10_0, f10_0⟩ := id B10_0
              have B10_1 : Blk w10 (wr.heap.size) _ := Blk.below (by repeat (with_reducible (first | assumption | (apply Blk.at; simp; done) | apply Blk.alloc | apply Blk.drew | apply Blk.drewN | apply Blk.more | apply Blk.put | (apply Blk.far; focus (first | assumption | (apply Ne.symm; assumption) | (simp; done) | (simp <;> omega)))))) hb10
              try simp only [List.setIfInBounds_toArray, List.set_cons_zero, List.set_cons_succ] at B10_1
              obtain ⟨z10_1, c10_1, f10_1⟩ := id B10_1
              have hT10 : Tab w10 b n 17 Mk := ((show Tab _ b n 17 Mk from (by repeat (with_reducible (first | assumption | apply Tab.alloc | apply Tab.drew | apply Tab.drewN | apply Tab.more | (apply Tab.far; focus (first | assumption | (apply Ne.symm; assumption) | (simp; done) | (simp <;> omega)))))))).below hb10
              refine (both_ny Mk n cap tA tB g1 g2 g3 dp _ b j (hT10) hj HA HB hn9).mono ?_
              rintro e w11 ⟨rfl, hb11⟩
              have B11_0 : Blk w11 (w.heap.size) _ := Blk.below (by repeat (with_reducible (first | assumption | (apply Blk.at; simp; done) | apply Blk.alloc | apply Blk.drew | apply Blk.drewN | apply Blk.more | apply Blk.put | (apply Blk.far; focus (first | assumption | (apply Ne.symm; assumption) | (simp; done) | (simp <;> omega)))))) hb11
              obtain ⟨z11_0, c11_0, f11_0⟩ := id B11_0
              have B11_1 : Blk w11 (wr.heap.size) _ := Blk.below (by repeat (with_reducible (first | assumption | (apply Blk.at; simp; done) | apply Blk.alloc | apply Blk.drew | apply Blk.drewN | apply Blk.more | apply Blk.put | (apply Blk.far; focus (first | assumption | (apply Ne.symm; assumption) | (simp; done) | (simp <;> omega)))))) hb11
              obtain ⟨z11_1, c11_1, f11_1⟩ := id B11_1
              have hT11 : Tab w11 b n 17 Mk := ((show Tab _ b n 17 Mk from (by repeat (with_reducible (first | assumption | apply Tab.alloc | apply Tab.drew | apply Tab.drewN | apply Tab.more | (apply Tab.far; focus (first | assumption | (apply Ne.symm; assumption) | (simp; done) | (simp <;> omega)))))))).below hb11
              go_wp2_with fail
              go_roundw
              case rel => exact ⟨k + 1, by omega, by go_num, by rw [HNO.out (fun h => by have := h.1; rw [HA.out] at this; omega)]; exact fun hn0 => ⟨b, rfl, hbb, (by repeat (with_reducible (first | assumption | apply Tab.alloc | apply Tab.drew | apply Tab.drewN | apply Tab.more | (apply Tab.far; focus (first | assumption | (apply Ne.symm; assumption) | (simp; done) | (simp <;> omega))))))⟩, (by repeat (with_reducible (first | assumption | (apply Blk.at; simp; done) | apply Blk.alloc | apply Blk.drew | apply Blk.drewN | apply Blk.more | apply Blk.put | (apply Blk.far; focus (first | assumption | (apply Ne.symm; assumption) | (simp; done) | (simp <;> omega)))))), (by repeat (with_reducible (first | exact Below.refl _ _ | assumption | apply ext_drew | apply ext_drewN | apply ext_alloc | apply ext_more | (refine ext_setCell ?_ (by simp <;> omega) _) | (refine ext_below ?_ (by assumption))))), (by repeat (with_reducible (first | assumption | apply Shp.drew | apply Shp.drewN | apply Shp.alloc | apply Shp.more | apply Shp.set | (refine Shp.below ?_ (by assumption)) | (refine Shp.mds ?_ (by assumption)))))⟩
              case measure => simp [intOf]; omega
            · have HB := Lib.hid (idx_not hb0)
              clear hb0
              have hO9 := hO.own
              go_wp2_with fail
              go_wp2_with fail
              refine calls_here ?_
              rintro w10 hb10
              have B10_0 : Blk w10 (w.heap.size) _ := Blk.below (by repeat (with_reducible (first | assumption | (apply Blk.at; simp; done) | apply Blk.alloc | apply Blk.drew | apply Blk.drewN | apply Blk.more | apply Blk.put | (apply Blk.far; focus (first | assumption | (apply Ne.symm; assumption) | (simp; done) | (simp <;> omega)))))) hb10
              obtain ⟨z10_0, c10_0, f10_0⟩ := id B10_0
              have B10_1 : Blk w10 (wr.heap.size) _ := Blk.below (by repeat (with_reducible (first | assumption | (apply Blk.at; simp; done) | apply Blk.alloc | apply Blk.drew | apply Blk.drewN | apply Blk.more | apply Blk.put | (apply Blk.far; focus (first | assumption | (apply Ne.symm; assumption) | (simp; done) | (simp <;> omega)))))) hb10
              try simp only [List.setIfInBounds_toArray, List.set_cons_zero, List.set_cons_succ] at B10_1
              obtain ⟨z10_1, c10_1, f10_1⟩ := id B10_1
              have hO10 : Own w10 A n Mk := ((show Own _ A n Mk from (by repeat (with_reducible (first | assumption | apply Own.alloc | apply Own.drew | apply Own.drewN | apply Own.more | (apply Own.far; focus (first | assumption | (apply Ne.symm; assumption) | (simp; done) | (simp <;> omega)))))))).below hb10
              refine (both_nn Mk n cap tA tB g1 g2 g3 dp _ A (hO10) HA HB hn9).mono ?_
              rintro e w11 ⟨rfl, hb11⟩
              have B11_0 : Blk w11 (w.heap.size) _ := Blk.below (by repeat (with_reducible (first | assumption | (apply Blk.at; simp; done) | apply Blk.alloc | apply Blk.drew | apply Blk.drewN | apply Blk.more | apply Blk.put | (apply Blk.far; focus (first | assumption | (apply Ne.symm; assumption) | (simp; done) | (simp <;> omega)))))) hb11
              obtain ⟨z11_0, c11_0, f11_0⟩ := id B11_0
              have B11_1 : Blk w11 (wr.heap.size) _ := Blk.below (by repeat (with_reducible (first | assumption | (apply Blk.at; simp; done) | apply Blk.alloc | apply Blk.drew | apply Blk.drewN | apply Blk.more | apply Blk.put | (apply Blk.far; focus (first | assumption | (apply Ne.symm; assumption) | (simp; done) | (simp <;> omega)))))) hb11
              obtain ⟨z11_1, c11_1, f11_1⟩ := id B11_1
              have hO11 : Own w11 A n Mk := ((show Own _ A n Mk from (by repeat (with_reducible (first | assumption | apply Own.alloc | apply Own.drew | apply Own.drewN | apply Own.more | (apply Own.far; focus (first | assumption | (apply Ne.symm; assumption) | (simp; done) | (simp <;> omega)))))))).below hb11
              go_wp2_with fail
              go_roundw
              case rel => exact ⟨k + 1, by omega, by go_num, by rw [HNO.out (fun h => by have := h.1; rw [HA.out] at this; omega)]; exact (hO.below (by repeat (with_reducible (first | exact Below.refl _ _ | assumption | apply ext_drew | apply ext_drewN | apply ext_alloc | apply ext_more | (refine ext_setCell ?_ (by simp <;> omega) _) | (refine ext_below ?_ (by assumption)))))), (by repeat (with_reducible (first | assumption | (apply Blk.at; simp; done) | apply Blk.alloc | apply Blk.drew | apply Blk.drewN | apply Blk.more | apply Blk.put | (apply Blk.far; focus (first | assumption | (apply Ne.symm; assumption) | (simp; done) | (simp <;> omega)))))), (by repeat (with_reducible (first | exact Below.refl _ _ | assumption | apply ext_drew | apply ext_drewN | apply ext_alloc | apply ext_more | (refine ext_setCell ?_ (by simp <;> omega) _) | (refine ext_below ?_ (by assumption))))), (by repeat (with_reducible (first | assumption | apply Shp.drew | apply Shp.drewN | apply Shp.alloc | apply Shp.more | apply Shp.set | (refine Shp.below ?_ (by assumption)) | (refine Shp.mds ?_ (by assumption)))))⟩
              case measure => simp [intOf]; omega
        · have hkm : k = m := by omega
          subst hkm
          go_wp2
          go_roundw
          case rel => exact ⟨p + 1, by omega, by go_num, by show OwnB _ _ _ _ (passF _ _ _ _ _ _); rw [← HMp.out]; exact hO, hL, hB, hS⟩
          case measure => simp [intOf]; omega
    · have hpR : p = R := by omega
      subst hpR
      go_wp2
      go_loopw [47] (fun i wr => ∃ k : Nat, k ≤ n ∧ i = .int .i64 k ∧ OwnB (w.heap.size + 1) wr A n (clampF Mp k) ∧ Below w.heap.size w wr ∧ Shp w1 wr) (fun i _ => n - (intOf i).toNat)
      case atStart => exact ⟨0, by omega, rfl, fun h => by obtain ⟨b, e, h1, h2⟩ := hOp h; exact ⟨b, e, h1, h2.eq (fun a _ c _ => (clampF_zero _ _ _).symm)⟩, hBp, hSp⟩
      case round =>
        obtain ⟨k, hk, rfl, hO, hB, hS⟩ := hrel
        by_cases hlt : k < n
        · obtain ⟨b, rfl, hbb, hT⟩ := hO (by omega)
          clear hO hOp hO1 hO2 hSp hS2
          have y0 := hT.cell hlt (j := 9) (by decide)
          have y1 := hT.cell hlt (j := 10) (by decide)
          have y2 := hT.cell hlt (j := 11) (by decide)
          go_wp2_with fail
          refine (clampS_c _ _ _ _).mono ?_
          rintro e w3 ⟨rfl, hb3⟩
          have hT3 : Tab w3 b n 17 (clampF Mp k) := hT.below hb3
          have v0 : w3.cell? ⟨b, k * 17 + 9, none⟩ = some (.int .i64 (clampF Mp k k 9)) := hT3.cell hlt (j := 9) (by decide)
          have v1 : w3.cell? ⟨b, k * 17 + 9 + 1, none⟩ = some (.int .i64 (clampF Mp k k 10)) := hT3.cell hlt (j := 10) (by decide)
          have v2 : w3.cell? ⟨b, k * 17 + 9 + 2, none⟩ = some (.int .i64 (clampF Mp k k 11)) := hT3.cell hlt (j := 11) (by decide)
          have u0 : w3.frozen? ⟨b, k * 17 + 9, none⟩ = false := hT3.free _
          have u1 : w3.frozen? ⟨b, k * 17 + 9 + 1, none⟩ = false := hT3.free _
          have u2 : w3.frozen? ⟨b, k * 17 + 9 + 2, none⟩ = false := hT3.free _
          have zb := hT3.lt
          have hB3 : Below w.heap.size w w3 := hB.trans (hb3.mono hB.size)
          have hS3 : Shp w1 w3 := hS.below hb3
          go_wp2
          go_roundw
          case rel => exact ⟨k + 1, by omega, by go_num, fun _ => ⟨b, rfl, hbb, Tab.eq (hT3.set3 hlt (j := 9) (by decide) _ _ _) (fun a _ c _ => clampF_succ Mp k a c)⟩, (by repeat (with_reducible (first | exact Below.refl _ _ | assumption | apply ext_drew | apply ext_drewN | apply ext_alloc | apply ext_more | (refine ext_setCell ?_ (by simp <;> omega) _) | (refine ext_below ?_ (by assumption))))), (by repeat (with_reducible (first | assumption | apply Shp.drew | apply Shp.drewN | apply Shp.alloc | apply Shp.more | apply Shp.set | (refine Shp.below ?_ (by assumption)) | (refine Shp.mds ?_ (by assumption)))))⟩
          case measure => simp [intOf]; omega
        · have hkn : k = n := by omega
          go_wp2
          go_ret
          exact ⟨A, cap, rfl, by rw [hkn] at hO; rw [← HMp.out]; exact (HR1.out.shp hS hO).mono (by omega), hB⟩

end Go.Proofs.YtniahipadfgkbaaGreat
namespace Go.Proofs.YtniahipadfgkbaaGreat
open Go.ChangeShapes Go.WideShapes Go.ChangeAt Go.RowKit Go.BigFrame

set_option maxRecDepth 100000 in
set_option maxHeartbeats 4000000 in
theorem speeds_0 (M _T : Nat → Nat → Int) (B1 B2 : Option Addr) (n cap0 m cap2 : Nat) (bo ru ro : Int) (w : World) (hR : Reads w B1 n 17 M) (hA0 : B1 = none → n = 0 ∧ cap0 = 0) (hn : n ≤ 1000000) (HR : Hid (¬ RightL bo ru ro)) :
    Calls Tryz.prog 20 #[.slice B1 n cap0, .slice B2 m cap2, .agg #[.int .i64 bo, .int .i64 ru, .int .i64 ro]] w fun e w' => ∃ A cap, e = .returned (.slice A n cap) ∧ RowQ w.heap.size w' A n cap M ∧ Below w.heap.size w w' := by
  go_enter Tryz.func20, Tryz.ntmps20
  go_wp2_with fail
  refine (clone_r M B1 n cap0 _ (hR.below (below_alloc _ _)) hA0 hn).mono ?_
  rintro e w1 ⟨A, cap, rfl, hO1, hb1⟩
  have L1 : Blk w1 w.heap.size #[.int .i64 bo, .int .i64 ru, .int .i64 ro] := (Blk.fresh _ _ _).below hb1
  obtain ⟨zl, cl, fl⟩ := id L1
  simp only [World.size_alloc] at hO1
  have hB1 : Below w.heap.size w w1 := (by repeat (with_reducible (first | exact Below.refl _ _ | assumption | apply ext_drew | apply ext_drewN | apply ext_alloc | apply ext_more | (refine ext_setCell ?_ (by first | assumption | (simp <;> omega)) _) | (refine ext_below ?_ (by assumption)))))
  go_wp2_with fail
  refine (lawright_c bo ru ro _).mono ?_
  rintro e w2 ⟨rfl, hb2⟩
  rw [decide_eq_false HR.out]
  have hO2 := hO1.below hb2
  have hB2 : Below w.heap.size w w2 := hB1.trans (hb2.mono hB1.size)
  go_wp2
  go_ret
  exact ⟨A, cap, rfl, hO2.mono (by omega), hB2⟩

theorem speeds_c (M T : Nat → Nat → Int) (B1 B2 : Option Addr) (n cap0 m cap2 : Nat) (bo ru ro : Int) (w : World) (hR : Reads w B1 n 17 M) (hA0 : B1 = none → n = 0 ∧ cap0 = 0) (hn : n ≤ 1000000) (hRT : Reads w B2 m 6 T) (hm : m ≤ 1000000) :
    Calls Tryz.prog 20 #[.slice B1 n cap0, .slice B2 m cap2, .agg #[.int .i64 bo, .int .i64 ru, .int .i64 ro]] w fun e w' => ∃ A cap, e = .returned (.slice A n cap) ∧ RowQ w.heap.size w' A n cap (speedsF M T n m bo ru ro) ∧ Below w.heap.size w w' := by
  by_cases hr : RightL bo ru ro
  · obtain ⟨R, rfl⟩ : ∃ R : Nat, ro = R := ⟨ro.toNat, by have := hr.2.2.1; omega⟩
    unfold speedsF
    rw [if_pos hr, Int.toNat_natCast]
    exact speeds_1 M T B1 B2 n cap0 m cap2 R bo ru w hR hA0 hn hRT hm (Lib.hid hr) hr.1 (by have := hr.2.2.2; omega)
  · unfold speedsF
    rw [if_neg hr]
    exact speeds_0 M T B1 B2 n cap0 m cap2 bo ru ro w hR hA0 hn (Lib.hid hr)

end Go.Proofs.YtniahipadfgkbaaGreat
namespace Go.Proofs.YtniahipadfgkbaaGreat
theorem mul_zero9 (a : Int) : mul a 0 = 0 := by
  have h : mag 0 = 0 := by decide
  unfold mul
  rw [h, Int.mul_zero]
  exact sgn_zero _
theorem sub_zero9 {a : Int} (h : -70368744177664 ≤ a ∧ a ≤ 70368744177664) : sub a 0 = a := by
  unfold sub
  rw [show cut 0 = 0 from by decide, Int.sub_zero, cut_cut, cut_in h.1 h.2]
theorem add_zero9 {a : Int} (h : -70368744177664 ≤ a ∧ a ≤ 70368744177664) : add a 0 = a := by
  unfold add
  rw [show cut 0 = 0 from by decide, Int.add_zero, cut_cut, cut_in h.1 h.2]
theorem clamp_in9 {m n : Int} (hm : 0 ≤ m) (h : -m ≤ n ∧ n ≤ m) : clamp m n = n := by
  unfold clamp
  rw [show max m 0 = m from by omega]
  exact clampP_in h.1 h.2
/-- the number stands where it is found -/
theorem idx_at {M : Nat → Nat → Int} {x : Int} : ∀ f k : Nat, 0 ≤ idxF M x k f → M (idxF M x k f).toNat 0 = x := by
  intro f
  induction f with
  | zero => intro k h; simp [idxF] at h
  | succ f ih =>
    intro k h
    unfold idxF at h ⊢
    by_cases e : M k 0 = x
    · rw [if_pos e]; simpa using e
    · rw [if_neg e] at h ⊢; exact ih (k + 1) h
/-- three numbers of row a within most -/
def Bd (M : Nat → Nat → Int) (a j : Nat) (most : Int) : Prop := (-most ≤ M a j ∧ M a j ≤ most) ∧ (-most ≤ M a (j + 1) ∧ M a (j + 1) ≤ most) ∧ (-most ≤ M a (j + 2) ∧ M a (j + 2) ≤ most)
theorem put3_self {M : Nat → Nat → Int} {i j : Nat} {x y z : Int} {a : Nat} (h : a ≠ i ∨ (x = M a j ∧ y = M a (j + 1) ∧ z = M a (j + 2))) (c : Nat) : put3 M i j x y z a c = M a c := by
  by_cases e : a = i
  · subst e
    obtain ⟨hx, hy, hz⟩ := h.resolve_left (fun h => h rfl)
    unfold put3 put1
    by_cases e2 : c = j + 2
    · subst e2; simp [hz]
    by_cases e1 : c = j + 1
    · subst e1; simp [hy]
    by_cases e0 : c = j
    · subst e0; simp [hx]
    simp [e0, e1, e2]
  · exact put3_row _ _ _ _ _ _ e c
theorem give_row {M : Nat → Nat → Int} {i k a : Nat} {u1 u2 u3 j x y : Int} (hb : Bd M a 9 6553600) (h1 : a ≠ i ∨ x = 0) (h2 : a ≠ k ∨ y = 0) (c : Nat) : giveM M i k u1 u2 u3 j x y a c = M a c := by
  obtain ⟨b0, b1, b2⟩ := hb
  have b1 : -6553600 ≤ M a 10 ∧ M a 10 ≤ 6553600 := b1
  have b2 : -6553600 ≤ M a 11 ∧ M a 11 ≤ 6553600 := b2
  have e : ∀ c, put3 M i 9 (sub (M i 9) (mul u1 (mul j x))) (sub (M i 10) (mul u2 (mul j x))) (sub (M i 11) (mul u3 (mul j x))) a c = M a c := by
    apply put3_self
    by_cases e : a = i
    · refine .inr ?_
      have hx := h1.resolve_left (fun h => h e)
      subst hx; subst e
      rw [mul_zero9, mul_zero9, mul_zero9, mul_zero9, sub_zero9 (by omega), sub_zero9 (by omega), sub_zero9 (by omega)]
      exact ⟨rfl, rfl, rfl⟩
    · exact .inl e
  unfold giveM
  refine (put3_self ?_ c).trans (e c)
  by_cases e' : a = k
  · refine .inr ?_
    have hy := h2.resolve_left (fun h => h e')
    subst hy; subst e'
    rw [mul_zero9, mul_zero9, mul_zero9, mul_zero9, add_zero9 (by omega), add_zero9 (by omega), add_zero9 (by omega)]
    exact ⟨(e 9).symm, (e 10).symm, (e 11).symm⟩
  · exact .inl e'
theorem Bd.of {M M' : Nat → Nat → Int} {a j : Nat} {most : Int} (h : Bd M a j most) (e : ∀ c, M' a c = M a c) : Bd M' a j most := by
  unfold Bd at h ⊢
  rw [e, e, e]
  exact h
theorem push_row {M : Nat → Nat → Int} {i k a : Nat} {g1 g2 g3 bo ru : Int} (hb : Bd M a 9 6553600) (h1 : a ≠ i ∨ M a 15 ≤ 0) (h2 : a ≠ k ∨ M a 15 ≤ 0) (c : Nat) : pushM M i k g1 g2 g3 bo ru a c = M a c := by
  have hx : a ≠ i ∨ light (M i 15) = 0 := by
    by_cases e : a = i
    · subst e; exact .inr (if_pos (h1.resolve_left (fun h => h rfl)))
    · exact .inl e
  have hy : a ≠ k ∨ light (M k 15) = 0 := by
    by_cases e : a = k
    · subst e; exact .inr (if_pos (h2.resolve_left (fun h => h rfl)))
    · exact .inl e
  unfold pushM goM
  split
  · rfl
  · have e1 := give_row (u1 := g1) (u2 := g2) (u3 := g3) (j := div (mul (-(dotW M i k g1 g2 g3)) (65536 + bo)) (add (light (M i 15)) (light (M k 15)))) hb hx hy
    unfold midM sideM endM
    split
    · exact (give_row (hb.of e1) hx hy c).trans (e1 c)
    · exact e1 c
theorem put3_to {M : Nat → Nat → Int} {i j : Nat} {x y z : Int} (a : Nat) {c : Nat} (h : c < j ∨ j + 2 < c) : put3 M i j x y z a c = M a c := put3_col _ _ _ _ _ _ a h
theorem give_col {M : Nat → Nat → Int} {i k : Nat} {u1 u2 u3 j x y : Int} (a : Nat) {c : Nat} (h : c < 9 ∨ 11 < c) : giveM M i k u1 u2 u3 j x y a c = M a c := by
  unfold giveM
  rw [put3_to a (by omega), put3_to a (by omega)]
theorem push_col {M : Nat → Nat → Int} {i k : Nat} {g1 g2 g3 bo ru : Int} (a : Nat) {c : Nat} (h : c < 9 ∨ 11 < c) : pushM M i k g1 g2 g3 bo ru a c = M a c := by
  unfold pushM goM
  split
  · rfl
  · unfold midM sideM endM
    split
    · rw [give_col a h, give_col a h]
    · rw [give_col a h]
/-- row a has no mass, or none of the touches is its own -/
def Still (M T : Nat → Nat → Int) (m a : Nat) : Prop := M a 15 ≤ 0 ∨ ∀ k, k < m → T k 0 ≠ M a 0 ∧ T k 1 ≠ M a 0
theorem both_at {M : Nat → Nat → Int} {n : Nat} {x y : Int} (h : Both M n x y) : M (idx M n x).toNat 0 = x ∧ M (idx M n y).toNat 0 = y := ⟨idx_at n 0 h.1, idx_at n 0 h.2.1⟩
theorem still_of {M M' T : Nat → Nat → Int} {m a : Nat} (h : Still M T m a) (e : ∀ c, M' a c = M a c) : Still M' T m a := by
  unfold Still at h ⊢
  rw [e, e]
  exact h
theorem speedStep_row {M T : Nat → Nat → Int} {n m a k : Nat} {bo ru g1 g2 g3 : Int} (hb : Bd M a 9 6553600) (hs : Still M T m a) (hk : k < m) (c : Nat) : speedStep M n bo ru (T k 0) (T k 1) g1 g2 g3 a c = M a c := by
  unfold speedStep
  split
  · next h =>
    obtain ⟨e1, e2⟩ := both_at h
    apply push_row hb
    · by_cases e : a = (idx M n (T k 0)).toNat
      · refine .inr (hs.resolve_right fun h => (h k hk).1 ?_)
        rw [e, e1]
      · exact .inl e
    · by_cases e : a = (idx M n (T k 1)).toNat
      · refine .inr (hs.resolve_right fun h => (h k hk).2 ?_)
        rw [e, e2]
      · exact .inl e
  · rfl
theorem passF_row {M T : Nat → Nat → Int} {n m a : Nat} {bo ru : Int} (hb : Bd M a 9 6553600) (hs : Still M T m a) : ∀ k, k ≤ m → ∀ c, passF M T n bo ru k a c = M a c := by
  intro k
  induction k with
  | zero => intro _ c; rfl
  | succ k ih =>
    intro hk c
    have e := ih (by omega)
    show speedStep _ _ _ _ _ _ _ _ _ a c = _
    rw [speedStep_row (hb.of e) (still_of hs e) (by omega)]
    exact e c
theorem passes_row {M T : Nat → Nat → Int} {n m a : Nat} {bo ru : Int} (hb : Bd M a 9 6553600) (hs : Still M T m a) : ∀ p, ∀ c, passes M T n m bo ru p a c = M a c := by
  intro p
  induction p with
  | zero => intro c; rfl
  | succ p ih =>
    intro c
    show passF _ _ _ _ _ _ a c = _
    rw [passF_row (hb.of ih) (still_of hs ih) m (Nat.le_refl _)]
    exact ih c
theorem speedsF_row {M T : Nat → Nat → Int} {n m a : Nat} {bo ru ro : Int} (hb : Bd M a 9 6553600) (hs : Still M T m a) (c : Nat) : speedsF M T n m bo ru ro a c = M a c := by
  unfold speedsF
  split
  · have e := passes_row (n := n) (bo := bo) (ru := ru) hb hs ro.toNat
    unfold clampF
    split
    · next h =>
      rw [e]
      obtain ⟨b0, b1, b2⟩ := hb
      apply clamp_in9 (by decide)
      rcases h.2 with h | h | h <;> subst h <;> assumption
    · exact e c
  · rfl
theorem passF_col {M T : Nat → Nat → Int} {n : Nat} {bo ru : Int} (a : Nat) {c : Nat} (h : c < 9 ∨ 11 < c) : ∀ k, passF M T n bo ru k a c = M a c := by
  intro k
  induction k with
  | zero => rfl
  | succ k ih =>
    show speedStep _ _ _ _ _ _ _ _ _ a c = _
    unfold speedStep
    split
    · rw [push_col a h]; exact ih
    · exact ih
theorem speedsF_col {M T : Nat → Nat → Int} {n m : Nat} {bo ru ro : Int} (a : Nat) {c : Nat} (h : c < 9 ∨ 11 < c) : speedsF M T n m bo ru ro a c = M a c := by
  unfold speedsF
  split
  · unfold clampF
    rw [if_neg (by omega)]
    generalize ro.toNat = p
    induction p with
    | zero => rfl
    | succ p ih =>
      show passF _ _ _ _ _ _ a c = _
      rw [passF_col a h]
      exact ih
  · rfl
theorem placesF_col {M T : Nat → Nat → Int} {n : Nat} (a : Nat) {c : Nat} (h : c < 6 ∨ 8 < c) : ∀ k, placesF M T n k a c = M a c := by
  intro k
  induction k with
  | zero => rfl
  | succ k ih =>
    show placeStep _ _ _ _ _ _ _ _ a c = _
    unfold placeStep
    split
    · unfold placeGo
      split
      · rw [put3_to a (by omega), put3_to a (by omega)]; exact ih
      · exact ih
    · exact ih
end Go.Proofs.YtniahipadfgkbaaGreat
namespace Go.Proofs.YtniahipadfgkbaaGreat
open Go.ChangeShapes Go.WideShapes Go.ChangeAt Go.RowKit Go.BigFrame
set_option maxRecDepth 100000 in
set_option maxHeartbeats 4000000 in
theorem law_c (a b c : Int) (w : World) : Calls Tryz.prog 8 #[.int .i64 a, .int .i64 b, .int .i64 c] w fun e w' => e = .returned (.agg #[.int .i64 (pickP a 65537), .int .i64 (pickP b 65537), .int .i64 (1 + pickP c 6)]) ∧ Below w.heap.size w w' := by
  have k1 := pickP_lt a 65537 (by decide)
  have k2 := pickP_lt b 65537 (by decide)
  have k3 := pickP_lt c 6 (by decide)
  obtain ⟨x, hx⟩ : ∃ x, pickP a 65537 = x := ⟨_, rfl⟩
  obtain ⟨y, hy⟩ : ∃ x, pickP b 65537 = x := ⟨_, rfl⟩
  obtain ⟨z, hz⟩ : ∃ x, pickP c 6 = x := ⟨_, rfl⟩
  rw [hx] at k1 ⊢
  rw [hy] at k2 ⊢
  rw [hz] at k3 ⊢
  have HX : (pickP a 65537 : Int) = x := by rw [hx]
  have HY : (pickP b 65537 : Int) = y := by rw [hy]
  have HZ : (pickP c 6 : Int) = z := by rw [hz]
  have HX := Lib.hid HX
  have HY := Lib.hid HY
  have HZ := Lib.hid HZ
  clear hx hy hz
  go_enter Tryz.func8, Tryz.ntmps8
  go_wp2_with fail
  refine (pick_v a 65537 65537 x _ rfl (by decide) (by decide) HX.out).mono ?_
  rintro e w1 ⟨rfl, rfl⟩
  go_wp2_with fail
  refine (pick_v b 65537 65537 y _ rfl (by decide) (by decide) HY.out).mono ?_
  rintro e w2 ⟨rfl, rfl⟩
  go_wp2_with fail
  refine (pick_v c 6 6 z _ rfl (by decide) (by decide) HZ.out).mono ?_
  rintro e w3 ⟨rfl, rfl⟩
  go_wp2
  exact bodyPost_ret (v := .agg #[.int .i64 x, .int .i64 y, .int .i64 (1 + z)]) (by simp [results, Tryz.results8, go_sem, *]) rfl ⟨rfl, (by repeat (with_reducible (first | exact Below.refl _ _ | assumption | apply ext_drew | apply ext_drewN | apply ext_alloc | apply ext_more | (refine ext_setCell ?_ (by first | assumption | (simp <;> omega)) _) | (refine ext_below ?_ (by assumption)))))⟩

end Go.Proofs.YtniahipadfgkbaaGreat
