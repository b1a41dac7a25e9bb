/- The contract of solve.Speeds; plain: the speeds that touches give. Conditions: none but that there are not too many. -/
import Derived.Test.YtfagkbmphohelaaSolve12
import Derived.Test.YtfagkbmphohelaaSolve11
import Derived.LoopTactic
namespace Go.Proofs.Ytfagkbmphohelaa
open Go.ChangeShapes Go.WideShapes Go.ChangeAt Go.RowKit Go.BigFrame
def speedStep (M : Nat → Nat → Int) (n : Nat) (bo ru tA tB g1 g2 g3 : Int) : Nat → Nat → Int := if Both M n tA tB then pushM M (idx M n tA).toNat (idx M n tB).toNat g1 g2 g3 bo ru else M
/-- k touches, one behind the other -/
def passF (M T : Nat → Nat → Int) (n : Nat) (bo ru : Int) : Nat → Nat → Nat → Int
  | 0 => M
  | k + 1 => speedStep (passF M T n bo ru k) n bo ru (T k 0) (T k 1) (T k 2) (T k 3) (T k 4)
/-- p times all touches -/
def passes (M T : Nat → Nat → Int) (n m : Nat) (bo ru : Int) : Nat → Nat → Nat → Int
  | 0 => M
  | p + 1 => passF (passes M T n m bo ru p) T n bo ru m
/-- the speeds of the first k rows within their bound -/
def clampF (M : Nat → Nat → Int) (k : Nat) : Nat → Nat → Int := fun a c => if a < k ∧ (c = 9 ∨ c = 10 ∨ c = 11) then clamp 6553600 (M a c) else M a c
def speedsF (M T : Nat → Nat → Int) (n m : Nat) (bo ru ro : Int) : Nat → Nat → Int := if RightL bo ru ro then clampF (passes M T n m bo ru ro.toNat) n else M
theorem clampF_zero (M : Nat → Nat → Int) (a c : Nat) : clampF M 0 a c = M a c := if_neg (by omega)
theorem clampF_row (M : Nat → Nat → Int) (k c : Nat) : clampF M k k c = M k c := if_neg (by omega)
theorem clampF_succ (M : Nat → Nat → Int) (k a c : Nat) : put3 (clampF M k) k 9 (clamp 6553600 (clampF M k k 9)) (clamp 6553600 (clampF M k k 10)) (clamp 6553600 (clampF M k k 11)) a c = clampF M (k + 1) a c := by
  simp only [clampF_row]
  unfold put3 put1 clampF
  by_cases ha : a = k
  · subst ha
    by_cases h9 : c = 9
    · subst h9; simp
    by_cases h10 : c = 10
    · subst h10; simp
    by_cases h11 : c = 11
    · subst h11; simp
    simp [h9, h10, h11]
  · simp only [ha, false_and, if_false]
    by_cases h : a < k
    · simp [h, Nat.lt_succ_of_lt h]
    · rw [if_neg (by omega), if_neg (by omega)]
theorem clampS_c (a1 a2 a3 : Int) (w : World) : Calls Try.prog 70 #[.agg #[.int .i64 a1, .int .i64 a2, .int .i64 a3], .int .i64 6553600] w fun e w' => e = .returned (.agg #[.int .i64 (clamp 6553600 a1), .int .i64 (clamp 6553600 a2), .int .i64 (clamp 6553600 a3)]) ∧ Below w.heap.size w w' := clamp_c a1 a2 a3 6553600 (by decide) w
theorem speeds_no (M T : Nat → Nat → Int) (n k : Nat) (bo ru : Int) (h : ¬ Both (passF M T n bo ru k) n (T k 0) (T k 1)) : passF M T n bo ru (k + 1) = passF M T n bo ru k := if_neg h
theorem speeds_go (M T : Nat → Nat → Int) (n k i j : Nat) (bo ru : Int) (hA : idx (passF M T n bo ru k) n (T k 0) = i) (hB : idx (passF M T n bo ru k) n (T k 1) = j) (hne : i ≠ j) : passF M T n bo ru (k + 1) = pushM (passF M T n bo ru k) i j (T k 2) (T k 3) (T k 4) bo ru := by
  show speedStep _ _ _ _ _ _ _ _ _ = _
  have hb : Both (passF M T n bo ru k) n (T k 0) (T k 1) := ⟨by rw [hA]; omega, by rw [hB]; omega, by rw [hA, hB]; omega⟩
  unfold speedStep
  rw [if_pos hb, hA, hB]
  simp

set_option maxRecDepth 100000 in
set_option maxHeartbeats 16000000 in
theorem speeds_1 (M T : Nat → Nat → Int) (B1 B2 : Option Addr) (n cap0 m cap2 R : Nat) (bo ru : Int) (w : World) (hR : Reads w B1 n 17 M) (hA0 : B1 = none → n = 0 ∧ cap0 = 0) (hn : n ≤ 1000000) (hRT : Reads w B2 m 6 T) (hm : m ≤ 1000000) (HR : Hid (RightL bo ru (R : Int))) (hbo : 0 ≤ bo ∧ bo ≤ 65536) (_hR20 : R ≤ 20) :
    Calls Try.prog 80 #[.slice B1 n cap0, .slice B2 m cap2, .agg #[.int .i64 bo, .int .i64 ru, .int .i64 (R : Int)]] w fun e w' => ∃ A cap, e = .returned (.slice A n cap) ∧ OwnB w.heap.size w' A n (clampF (passes M T n m bo ru R) n) ∧ Below w.heap.size w w' := by
  have hmc := more_cell
  have hmf := more_frozen
  have hml := more_lt
  go_enter Try.func80, Try.ntmps80
  go_wp2_with fail
  refine (clone_c M B1 n cap0 _ (hR.below (below_alloc _ _)) hA0 hn).mono ?_
  rintro e w1 ⟨A, cap, rfl, hO1, hb1⟩
  have L1 : Blk w1 w.heap.size #[.int .i64 bo, .int .i64 ru, .int .i64 (R : Int)] := (Blk.fresh _ _ _).below hb1
  obtain ⟨zl, cl, fl⟩ := id L1
  simp only [World.size_alloc] at hO1
  have hn9 : n ≤ 9223372036854775807 := by omega
  have hB1 : Below w.heap.size w w1 := (by repeat (with_reducible (first | exact Below.refl _ _ | assumption | apply ext_drew | apply ext_drewN | apply ext_alloc | apply ext_more | (refine ext_setCell ?_ (by simp <;> omega) _) | (refine ext_below ?_ (by assumption)))))
  go_wp2_with fail
  refine (right_c bo ru (R : Int) _).mono ?_
  rintro e w2 ⟨rfl, hb2⟩
  rw [decide_eq_true HR.out]
  have L2 : Blk w2 w.heap.size #[.int .i64 bo, .int .i64 ru, .int .i64 (R : Int)] := L1.below hb2
  obtain ⟨zl2, cl2, fl2⟩ := id L2
  have hO2 := hO1.below hb2
  have hB2 : Below w.heap.size w w2 := hB1.trans (hb2.mono hB1.size)
  go_wp2
  go_loopw [22] (fun i wr => ∃ p : Nat, p ≤ R ∧ i = .int .i64 p ∧ OwnB (w.heap.size + 1) wr A n (passes M T n m bo ru p) ∧ Blk wr w.heap.size #[.int .i64 bo, .int .i64 ru, .int .i64 (R : Int)] ∧ Below w.heap.size w wr) (fun i _ => R - (intOf i).toNat)
  case atStart => exact ⟨0, by omega, rfl, hO2, L2, hB2⟩
  case round =>
    obtain ⟨p, hp, rfl, hOp, hLp, hBp⟩ := hrel
    obtain ⟨wo, rfl⟩ : ∃ wo : World, wo = wr := ⟨_, rfl⟩
    obtain ⟨Mp, hMp⟩ : ∃ Mp, Mp = passes M T n m bo ru p := ⟨_, rfl⟩
    have HMp := Lib.hid hMp
    rw [← hMp] at hOp
    clear hMp
    by_cases hlt0 : p < R
    · go_wp2
      go_loopw [26] (fun i wr => ∃ k : Nat, k ≤ m ∧ i = .int .i64 k ∧ OwnB (w.heap.size + 1) wr A n (passF Mp T n bo ru k) ∧ Blk wr w.heap.size #[.int .i64 bo, .int .i64 ru, .int .i64 (R : Int)] ∧ Below w.heap.size w wr) (fun i _ => m - (intOf i).toNat)
      case atStart => exact ⟨0, by omega, rfl, hOp, hLp, hBp⟩
      case round =>
        obtain ⟨k, hk, rfl, hO, hL, hB⟩ := hrel
        by_cases hlt : k < m
        · obtain ⟨tb, to, rfl, htb, htc⟩ := hRT (by omega)
          have q0 : wr.cell? ⟨tb, to + k * 6 + 0, none⟩ = some (.int .i64 (T k 0)) := by rw [Nat.add_assoc]; exact (hB.cell (p := ⟨tb, to + (k * 6 + 0), none⟩) htb).trans (htc k hlt 0 (by decide))
          have q1 : wr.cell? ⟨tb, to + k * 6 + 1, none⟩ = some (.int .i64 (T k 1)) := by rw [Nat.add_assoc]; exact (hB.cell (p := ⟨tb, to + (k * 6 + 1), none⟩) htb).trans (htc k hlt 1 (by decide))
          have q2 : wr.cell? ⟨tb, to + k * 6 + 2, none⟩ = some (.int .i64 (T k 2)) := by rw [Nat.add_assoc]; exact (hB.cell (p := ⟨tb, to + (k * 6 + 2), none⟩) htb).trans (htc k hlt 2 (by decide))
          have q3 : wr.cell? ⟨tb, to + k * 6 + 3, none⟩ = some (.int .i64 (T k 3)) := by rw [Nat.add_assoc]; exact (hB.cell (p := ⟨tb, to + (k * 6 + 3), none⟩) htb).trans (htc k hlt 3 (by decide))
          have q4 : wr.cell? ⟨tb, to + k * 6 + 4, none⟩ = some (.int .i64 (T k 4)) := by rw [Nat.add_assoc]; exact (hB.cell (p := ⟨tb, to + (k * 6 + 4), none⟩) htb).trans (htc k hlt 4 (by decide))
          have q5 : wr.cell? ⟨tb, to + k * 6 + 5, none⟩ = some (.int .i64 (T k 5)) := by rw [Nat.add_assoc]; exact (hB.cell (p := ⟨tb, to + (k * 6 + 5), none⟩) htb).trans (htc k hlt 5 (by decide))
          simp only [Nat.add_zero] at q0
          have hno := speeds_no Mp T n k bo ru
          have hgo := fun i j => speeds_go Mp T n k i j bo ru
          obtain ⟨Mk, hMk⟩ : ∃ Mk, Mk = passF Mp T n bo ru k := ⟨_, rfl⟩
          rw [← hMk] at hO hno
          simp only [← hMk] at hgo
          obtain ⟨tA, htA⟩ : ∃ x, x = T k 0 := ⟨_, rfl⟩
          rw [← htA] at q0
          obtain ⟨tB, htB⟩ : ∃ x, x = T k 1 := ⟨_, rfl⟩
          rw [← htB] at q1
          obtain ⟨g1, hg1⟩ : ∃ x, x = T k 2 := ⟨_, rfl⟩
          rw [← hg1] at q2
          obtain ⟨g2, hg2⟩ : ∃ x, x = T k 3 := ⟨_, rfl⟩
          rw [← hg2] at q3
          obtain ⟨g3, hg3⟩ : ∃ x, x = T k 4 := ⟨_, rfl⟩
          rw [← hg3] at q4
          obtain ⟨dp, hdp⟩ : ∃ x, x = T k 5 := ⟨_, rfl⟩
          rw [← hdp] at q5
          simp only [← htA, ← htB, ← hg1, ← hg2, ← hg3] at hgo
          rw [← htA, ← htB] at hno
          clear htA htB hg1 hg2 hg3 hdp hMk htc
          have HNO := Lib.hid hno
          have HGO := Lib.hid hgo
          clear hno hgo
          clear hO1 hO2 hOp hLp hBp L1 L2 cl fl cl2 fl2 zl zl2 hb1 hb2 hB1 hB2 hRT hR
          obtain ⟨zl, cl, fl⟩ := id hL
          have hrb : w.heap.size ≤ wr.heap.size := hB.size
          have nwl : wr.heap.size ≠ w.heap.size := by omega
          by_cases ha : 0 ≤ idx Mk n tA
          · obtain ⟨ha1, hi⟩ := idx_lt ha
            obtain ⟨b, e_b, hbb, hTk⟩ := hO (by omega)
            generalize (idx Mk n tA).toNat = i at *
            have HA := Lib.hid ha1
            clear ha ha1
            subst e_b
            by_cases hb0 : 0 ≤ idx Mk n tB
            · obtain ⟨hb2, hj⟩ := idx_lt hb0
              generalize (idx Mk n tB).toNat = j at *
              have HB := Lib.hid hb2
              clear hb0 hb2
              by_cases hne : i = j
              · subst hne
                have hT9 := hTk
                have hblt := hTk.lt
                have nbw : b ≠ wr.heap.size := by omega
                go_wp2_with fail
                go_wp2_with fail
                refine calls_here ?_
                rintro w10 hb10
                have B10_0 : Blk w10 (w.heap.size) _ := Blk.below (by repeat (with_reducible (first | assumption | (apply Blk.at; simp; done) | apply Blk.alloc | apply Blk.drew | apply Blk.drewN | apply Blk.more | apply Blk.put | (apply Blk.far; focus (first | assumption | (apply Ne.symm; assumption) | (simp; done) | (simp <;> omega)))))) hb10
                obtain ⟨z10_0, c10_0, f10_0⟩ := id B10_0
                have B10_1 : Blk w10 (wr.heap.size) _ := Blk.below (by repeat (with_reducible (first | assumption | (apply Blk.at; simp; done) | apply Blk.alloc | apply Blk.drew | apply Blk.drewN | apply Blk.more | apply Blk.put | (apply Blk.far; focus (first | assumption | (apply Ne.symm; assumption) | (simp; done) | (simp <;> omega)))))) hb10
                try simp only [List.setIfInBounds_toArray, List.set_cons_zero, List.set_cons_succ] at B10_1
                obtain ⟨z10_1, c10_1, f10_1⟩ := id B10_1
                have hT10 : Tab w10 b n 17 Mk := ((show Tab _ b n 17 Mk from (by repeat (with_reducible (first | assumption | apply Tab.alloc | apply Tab.drew | apply Tab.drewN | apply Tab.more | (apply Tab.far; focus (first | assumption | (apply Ne.symm; assumption) | (simp; done) | (simp <;> omega)))))))).below hb10
                refine (both_same Mk n cap tA tB g1 g2 g3 dp _ b i (hT10) hi HA HB hn9).mono ?_
                rintro e w11 ⟨rfl, hb11⟩
                have B11_0 : Blk w11 (w.heap.size) _ := Blk.below (by repeat (with_reducible (first | assumption | (apply Blk.at; simp; done) | apply Blk.alloc | apply Blk.drew | apply Blk.drewN | apply Blk.more | apply Blk.put | (apply Blk.far; focus (first | assumption | (apply Ne.symm; assumption) | (simp; done) | (simp <;> omega)))))) hb11
                obtain ⟨z11_0, c11_0, f11_0⟩ := id B11_0
                have B11_1 : Blk w11 (wr.heap.size) _ := Blk.below (by repeat (with_reducible (first | assumption | (apply Blk.at; simp; done) | apply Blk.alloc | apply Blk.drew | apply Blk.drewN | apply Blk.more | apply Blk.put | (apply Blk.far; focus (first | assumption | (apply Ne.symm; assumption) | (simp; done) | (simp <;> omega)))))) hb11
                obtain ⟨z11_1, c11_1, f11_1⟩ := id B11_1
                have hT11 : Tab w11 b n 17 Mk := ((show Tab _ b n 17 Mk from (by repeat (with_reducible (first | assumption | apply Tab.alloc | apply Tab.drew | apply Tab.drewN | apply Tab.more | (apply Tab.far; focus (first | assumption | (apply Ne.symm; assumption) | (simp; done) | (simp <;> omega)))))))).below hb11
                go_wp2_with fail
                go_roundw
                case rel => exact ⟨k + 1, by omega, by go_num, by rw [HNO.out (fun h => h.2.2 (by rw [HA.out, HB.out]))]; exact fun hn0 => ⟨b, rfl, hbb, (by repeat (with_reducible (first | assumption | apply Tab.alloc | apply Tab.drew | apply Tab.drewN | apply Tab.more | (apply Tab.far; focus (first | assumption | (apply Ne.symm; assumption) | (simp; done) | (simp <;> omega))))))⟩, (by repeat (with_reducible (first | assumption | (apply Blk.at; simp; done) | apply Blk.alloc | apply Blk.drew | apply Blk.drewN | apply Blk.more | apply Blk.put | (apply Blk.far; focus (first | assumption | (apply Ne.symm; assumption) | (simp; done) | (simp <;> omega)))))), (by repeat (with_reducible (first | exact Below.refl _ _ | assumption | apply ext_drew | apply ext_drewN | apply ext_alloc | apply ext_more | (refine ext_setCell ?_ (by simp <;> omega) _) | (refine ext_below ?_ (by assumption)))))⟩
                case measure => simp [intOf]; omega
              · have hT9 := hTk
                have hblt := hTk.lt
                have nbw : b ≠ wr.heap.size := by omega
                go_wp2_with fail
                go_wp2_with fail
                refine calls_here ?_
                rintro w10 hb10
                have B10_0 : Blk w10 (w.heap.size) _ := Blk.below (by repeat (with_reducible (first | assumption | (apply Blk.at; simp; done) | apply Blk.alloc | apply Blk.drew | apply Blk.drewN | apply Blk.more | apply Blk.put | (apply Blk.far; focus (first | assumption | (apply Ne.symm; assumption) | (simp; done) | (simp <;> omega)))))) hb10
                obtain ⟨z10_0, c10_0, f10_0⟩ := id B10_0
                have B10_1 : Blk w10 (wr.heap.size) _ := Blk.below (by repeat (with_reducible (first | assumption | (apply Blk.at; simp; done) | apply Blk.alloc | apply Blk.drew | apply Blk.drewN | apply Blk.more | apply Blk.put | (apply Blk.far; focus (first | assumption | (apply Ne.symm; assumption) | (simp; done) | (simp <;> omega)))))) hb10
                try simp only [List.setIfInBounds_toArray, List.set_cons_zero, List.set_cons_succ] at B10_1
                obtain ⟨z10_1, c10_1, f10_1⟩ := id B10_1
                have hT10 : Tab w10 b n 17 Mk := ((show Tab _ b n 17 Mk from (by repeat (with_reducible (first | assumption | apply Tab.alloc | apply Tab.drew | apply Tab.drewN | apply Tab.more | (apply Tab.far; focus (first | assumption | (apply Ne.symm; assumption) | (simp; done) | (simp <;> omega)))))))).below hb10
                refine (both_yes Mk n cap tA tB g1 g2 g3 dp _ b i j (hT10) hi hj HA HB hne hn9).mono ?_
                rintro e w11 ⟨rfl, hb11⟩
                have B11_0 : Blk w11 (w.heap.size) _ := Blk.below (by repeat (with_reducible (first | assumption | (apply Blk.at; simp; done) | apply Blk.alloc | apply Blk.drew | apply Blk.drewN | apply Blk.more | apply Blk.put | (apply Blk.far; focus (first | assumption | (apply Ne.symm; assumption) | (simp; done) | (simp <;> omega)))))) hb11
                obtain ⟨z11_0, c11_0, f11_0⟩ := id B11_0
                have B11_1 : Blk w11 (wr.heap.size) _ := Blk.below (by repeat (with_reducible (first | assumption | (apply Blk.at; simp; done) | apply Blk.alloc | apply Blk.drew | apply Blk.drewN | apply Blk.more | apply Blk.put | (apply Blk.far; focus (first | assumption | (apply Ne.symm; assumption) | (simp; done) | (simp <;> omega)))))) hb11
                obtain ⟨z11_1, c11_1, f11_1⟩ := id B11_1
                have hT11 : Tab w11 b n 17 Mk := ((show Tab _ b n 17 Mk from (by repeat (with_reducible (first | assumption | apply Tab.alloc | apply Tab.drew | apply Tab.drewN | apply Tab.more | (apply Tab.far; focus (first | assumption | (apply Ne.symm; assumption) | (simp; done) | (simp <;> omega)))))))).below hb11
                go_wp2_with fail
                go_wp2_with fail
                refine calls_here ?_
                rintro w12 hb12
                have B12_0 : Blk w12 (w.heap.size) _ := Blk.below (by repeat (with_reducible (first | assumption | (apply Blk.at; simp; done) | apply Blk.alloc | apply Blk.drew | apply Blk.drewN | apply Blk.more | apply Blk.put | (apply Blk.far; focus (first | assumption | (apply Ne.symm; assumption) | (simp; done) | (simp <;> omega)))))) hb12
                obtain ⟨z12_0, c12_0, f12_0⟩ := id B12_0
                have B12_1 : Blk w12 (wr.heap.size) _ := Blk.below (by repeat (with_reducible (first | assumption | (apply Blk.at; simp; done) | apply Blk.alloc | apply Blk.drew | apply Blk.drewN | apply Blk.more | apply Blk.put | (apply Blk.far; focus (first | assumption | (apply Ne.symm; assumption) | (simp; done) | (simp <;> omega)))))) hb12
                obtain ⟨z12_1, c12_1, f12_1⟩ := id B12_1
                have hT12 : Tab w12 b n 17 Mk := ((show Tab _ b n 17 Mk from (by repeat (with_reducible (first | assumption | apply Tab.alloc | apply Tab.drew | apply Tab.drewN | apply Tab.more | (apply Tab.far; focus (first | assumption | (apply Ne.symm; assumption) | (simp; done) | (simp <;> omega)))))))).below hb12
                with_reducible refine (push_c Mk b n i j tA tB g1 g2 g3 dp bo ru (R : Int) _ hT12 hi hj hne hbo).mono ?_
                rintro e w13 ⟨rfl, hT13, hm13⟩
                have hB12 : Below w.heap.size w w12 := (by repeat (with_reducible (first | exact Below.refl _ _ | assumption | apply ext_drew | apply ext_drewN | apply ext_alloc | apply ext_more | (refine ext_setCell ?_ (by simp <;> omega) _) | (refine ext_below ?_ (by assumption)))))
                have hB13 : Below w.heap.size w w13 := hB12.trans (hm13.toBelow hB12.size (fun c hc e => by omega))
                have hL13 : Blk w13 w.heap.size #[.int .i64 bo, .int .i64 ru, .int .i64 (R : Int)] := (show Blk w12 _ _ from (by repeat (with_reducible (first | assumption | (apply Blk.at; simp; done) | apply Blk.alloc | apply Blk.drew | apply Blk.drewN | apply Blk.more | apply Blk.put | (apply Blk.far; focus (first | assumption | (apply Ne.symm; assumption) | (simp; done) | (simp <;> omega))))))).mod hm13 (fun e => by omega)
                go_wp2_with fail
                go_roundw
                case rel => exact ⟨k + 1, by omega, by go_num, by rw [HGO.out i j HA.out HB.out hne]; exact fun _ => ⟨b, rfl, hbb, hT13⟩, hL13, hB13⟩
                case measure => simp [intOf]; omega
            · have HB := Lib.hid (idx_not hb0)
              clear hb0
              have hT9 := hTk
              have hblt := hTk.lt
              have nbw : b ≠ wr.heap.size := by omega
              go_wp2_with fail
              go_wp2_with fail
              refine calls_here ?_
              rintro w10 hb10
              have B10_0 : Blk w10 (w.heap.size) _ := Blk.below (by repeat (with_reducible (first | assumption | (apply Blk.at; simp; done) | apply Blk.alloc | apply Blk.drew | apply Blk.drewN | apply Blk.more | apply Blk.put | (apply Blk.far; focus (first | assumption | (apply Ne.symm; assumption) | (simp; done) | (simp <;> omega)))))) hb10
              obtain ⟨z10_0, c10_0, f10_0⟩ := id B10_0
              have B10_1 : Blk w10 (wr.heap.size) _ := Blk.below (by repeat (with_reducible (first | assumption | (apply Blk.at; simp; done) | apply Blk.alloc | apply Blk.drew | apply Blk.drewN | apply Blk.more | apply Blk.put | (apply Blk.far; focus (first | assumption | (apply Ne.symm; assumption) | (simp; done) | (simp <;> omega)))))) hb10
              try simp only [List.setIfInBounds_toArray, List.set_cons_zero, List.set_cons_succ] at B10_1
              obtain ⟨z10_1, c10_1, f10_1⟩ := id B10_1
              have hT10 : Tab w10 b n 17 Mk := ((show Tab _ b n 17 Mk from (by repeat (with_reducible (first | assumption | apply Tab.alloc | apply Tab.drew | apply Tab.drewN | apply Tab.more | (apply Tab.far; focus (first | assumption | (apply Ne.symm; assumption) | (simp; done) | (simp <;> omega)))))))).below hb10
              refine (both_yn Mk n cap tA tB g1 g2 g3 dp _ b i (hT10) hi HA HB hn9).mono ?_
              rintro e w11 ⟨rfl, hb11⟩
              have B11_0 : Blk w11 (w.heap.size) _ := Blk.below (by repeat (with_reducible (first | assumption | (apply Blk.at; simp; done) | apply Blk.alloc | apply Blk.drew | apply Blk.drewN | apply Blk.more | apply Blk.put | (apply Blk.far; focus (first | assumption | (apply Ne.symm; assumption) | (simp; done) | (simp <;> omega)))))) hb11
              obtain ⟨z11_0, c11_0, f11_0⟩ := id B11_0
              have B11_1 : Blk w11 (wr.heap.size) _ := Blk.below (by repeat (with_reducible (first | assumption | (apply Blk.at; simp; done) | apply Blk.alloc | apply Blk.drew | apply Blk.drewN | apply Blk.more | apply Blk.put | (apply Blk.far; focus (first | assumption | (apply Ne.symm; assumption) | (simp; done) | (simp <;> omega)))))) hb11
              obtain ⟨z11_1, c11_1, f11_1⟩ := id B11_1
              have hT11 : Tab w11 b n 17 Mk := ((show Tab _ b n 17 Mk from (by repeat (with_reducible (first | assumption | apply Tab.alloc | apply Tab.drew | apply Tab.drewN | apply Tab.more | (apply Tab.far; focus (first | assumption | (apply Ne.symm; assumption) | (simp; done) | (simp <;> omega)))))))).below hb11
              go_wp2_with fail
              go_roundw
              case rel => exact ⟨k + 1, by omega, by go_num, by rw [HNO.out (fun h => by have := h.2.1; rw [HB.out] at this; omega)]; exact fun hn0 => ⟨b, rfl, hbb, (by repeat (with_reducible (first | assumption | apply Tab.alloc | apply Tab.drew | apply Tab.drewN | apply Tab.more | (apply Tab.far; focus (first | assumption | (apply Ne.symm; assumption) | (simp; done) | (simp <;> omega))))))⟩, (by repeat (with_reducible (first | assumption | (apply Blk.at; simp; done) | apply Blk.alloc | apply Blk.drew | apply Blk.drewN | apply Blk.more | apply Blk.put | (apply Blk.far; focus (first | assumption | (apply Ne.symm; assumption) | (simp; done) | (simp <;> omega)))))), (by repeat (with_reducible (first | exact Below.refl _ _ | assumption | apply ext_drew | apply ext_drewN | apply ext_alloc | apply ext_more | (refine ext_setCell ?_ (by simp <;> omega) _) | (refine ext_below ?_ (by assumption)))))⟩
              case measure => simp [intOf]; omega
          · have HA := Lib.hid (idx_not ha)
            clear ha
            by_cases hb0 : 0 ≤ idx Mk n tB
            · obtain ⟨hb2, hj⟩ := idx_lt hb0
              obtain ⟨b, e_b, hbb, hTk⟩ := hO (by omega)
              subst e_b
              generalize (idx Mk n tB).toNat = j at *
              have HB := Lib.hid hb2
              clear hb0 hb2
              have hT9 := hTk
              have hblt := hTk.lt
              have nbw : b ≠ wr.heap.size := by omega
              go_wp2_with fail
              go_wp2_with fail
              refine calls_here ?_
              rintro w10 hb10
              have B10_0 : Blk w10 (w.heap.size) _ := Blk.below (by repeat (with_reducible (first | assumption | (apply Blk.at; simp; done) | apply Blk.alloc | apply Blk.drew | apply Blk.drewN | apply Blk.more | apply Blk.put | (apply Blk.far; focus (first | assumption | (apply Ne.symm; assumption) | (simp; done) | (simp <;> omega)))))) hb10
              obtain ⟨z10_0, c10_0, f10_0⟩ := id B10_0
              have B10_1 : Blk w10 (wr.heap.size) _ := Blk.below (by repeat (with_reducible (first | assumption | (apply Blk.at; simp; done) | apply Blk.alloc | apply Blk.drew | apply Blk.drewN | apply Blk.more | apply Blk.put | (apply Blk.far; focus (first | assumption | (apply Ne.symm; assumption) | (simp; done) | (simp <;> omega)))))) hb10
              try simp only [List.setIfInBounds_toArray, List.set_cons_zero, List.set_cons_succ] at B10_1
              obtain ⟨z10_1, c10_1, f10_1⟩ := id B10_1
              have hT10 : Tab w10 b n 17 Mk := ((show Tab _ b n 17 Mk from (by repeat (with_reducible (first | assumption | apply Tab.alloc | apply Tab.drew | apply Tab.drewN | apply Tab.more | (apply Tab.far; focus (first | assumption | (apply Ne.symm; assumption) | (simp; done) | (simp <;> omega)))))))).below hb10
              refine (both_ny Mk n cap tA tB g1 g2 g3 dp _ b j (hT10) hj HA HB hn9).mono ?_
              rintro e w11 ⟨rfl, hb11⟩
              have B11_0 : Blk w11 (w.heap.size) _ := Blk.below (by repeat (with_reducible (first | assumption | (apply Blk.at; simp; done) | apply Blk.alloc | apply Blk.drew | apply Blk.drewN | apply Blk.more | apply Blk.put | (apply Blk.far; focus (first | assumption | (apply Ne.symm; assumption) | (simp; done) | (simp <;> omega)))))) hb11
              obtain ⟨z11_0, c11_0, f11_0⟩ := id B11_0
              have B11_1 : Blk w11 (wr.heap.size) _ := Blk.below (by repeat (with_reducible (first | assumption | (apply Blk.at; simp; done) | apply Blk.alloc | apply Blk.drew | apply Blk.drewN | apply Blk.more | apply Blk.put | (apply Blk.far; focus (first | assumption | (apply Ne.symm; assumption) | (simp; done) | (simp <;> omega)))))) hb11
              obtain ⟨z11_1, c11_1, f11_1⟩ := id B11_1
              have hT11 : Tab w11 b n 17 Mk := ((show Tab _ b n 17 Mk from (by repeat (with_reducible (first | assumption | apply Tab.alloc | apply Tab.drew | apply Tab.drewN | apply Tab.more | (apply Tab.far; focus (first | assumption | (apply Ne.symm; assumption) | (simp; done) | (simp <;> omega)))))))).below hb11
              go_wp2_with fail
              go_roundw
              case rel => exact ⟨k + 1, by omega, by go_num, by rw [HNO.out (fun h => by have := h.1; rw [HA.out] at this; omega)]; exact fun hn0 => ⟨b, rfl, hbb, (by repeat (with_reducible (first | assumption | apply Tab.alloc | apply Tab.drew | apply Tab.drewN | apply Tab.more | (apply Tab.far; focus (first | assumption | (apply Ne.symm; assumption) | (simp; done) | (simp <;> omega))))))⟩, (by repeat (with_reducible (first | assumption | (apply Blk.at; simp; done) | apply Blk.alloc | apply Blk.drew | apply Blk.drewN | apply Blk.more | apply Blk.put | (apply Blk.far; focus (first | assumption | (apply Ne.symm; assumption) | (simp; done) | (simp <;> omega)))))), (by repeat (with_reducible (first | exact Below.refl _ _ | assumption | apply ext_drew | apply ext_drewN | apply ext_alloc | apply ext_more | (refine ext_setCell ?_ (by simp <;> omega) _) | (refine ext_below ?_ (by assumption)))))⟩
              case measure => simp [intOf]; omega
            · have HB := Lib.hid (idx_not hb0)
              clear hb0
              have hO9 := hO.own
              go_wp2_with fail
              go_wp2_with fail
              refine calls_here ?_
              rintro w10 hb10
              have B10_0 : Blk w10 (w.heap.size) _ := Blk.below (by repeat (with_reducible (first | assumption | (apply Blk.at; simp; done) | apply Blk.alloc | apply Blk.drew | apply Blk.drewN | apply Blk.more | apply Blk.put | (apply Blk.far; focus (first | assumption | (apply Ne.symm; assumption) | (simp; done) | (simp <;> omega)))))) hb10
              obtain ⟨z10_0, c10_0, f10_0⟩ := id B10_0
              have B10_1 : Blk w10 (wr.heap.size) _ := Blk.below (by repeat (with_reducible (first | assumption | (apply Blk.at; simp; done) | apply Blk.alloc | apply Blk.drew | apply Blk.drewN | apply Blk.more | apply Blk.put | (apply Blk.far; focus (first | assumption | (apply Ne.symm; assumption) | (simp; done) | (simp <;> omega)))))) hb10
              try simp only [List.setIfInBounds_toArray, List.set_cons_zero, List.set_cons_succ] at B10_1
              obtain ⟨z10_1, c10_1, f10_1⟩ := id B10_1
              have hO10 : Own w10 A n Mk := ((show Own _ A n Mk from (by repeat (with_reducible (first | assumption | apply Own.alloc | apply Own.drew | apply Own.drewN | apply Own.more | (apply Own.far; focus (first | assumption | (apply Ne.symm; assumption) | (simp; done) | (simp <;> omega)))))))).below hb10
              refine (both_nn Mk n cap tA tB g1 g2 g3 dp _ A (hO10) HA HB hn9).mono ?_
              rintro e w11 ⟨rfl, hb11⟩
              have B11_0 : Blk w11 (w.heap.size) _ := Blk.below (by repeat (with_reducible (first | assumption | (apply Blk.at; simp; done) | apply Blk.alloc | apply Blk.drew | apply Blk.drewN | apply Blk.more | apply Blk.put | (apply Blk.far; focus (first | assumption | (apply Ne.symm; assumption) | (simp; done) | (simp <;> omega)))))) hb11
              obtain ⟨z11_0, c11_0, f11_0⟩ := id B11_0
              have B11_1 : Blk w11 (wr.heap.size) _ := Blk.below (by repeat (with_reducible (first | assumption | (apply Blk.at; simp; done) | apply Blk.alloc | apply Blk.drew | apply Blk.drewN | apply Blk.more | apply Blk.put | (apply Blk.far; focus (first | assumption | (apply Ne.symm; assumption) | (simp; done) | (simp <;> omega)))))) hb11
              obtain ⟨z11_1, c11_1, f11_1⟩ := id B11_1
              have hO11 : Own w11 A n Mk := ((show Own _ A n Mk from (by repeat (with_reducible (first | assumption | apply Own.alloc | apply Own.drew | apply Own.drewN | apply Own.more | (apply Own.far; focus (first | assumption | (apply Ne.symm; assumption) | (simp; done) | (simp <;> omega)))))))).below hb11
              go_wp2_with fail
              go_roundw
              case rel => exact ⟨k + 1, by omega, by go_num, by rw [HNO.out (fun h => by have := h.1; rw [HA.out] at this; omega)]; exact (hO.below (by repeat (with_reducible (first | exact Below.refl _ _ | assumption | apply ext_drew | apply ext_drewN | apply ext_alloc | apply ext_more | (refine ext_setCell ?_ (by simp <;> omega) _) | (refine ext_below ?_ (by assumption)))))), (by repeat (with_reducible (first | assumption | (apply Blk.at; simp; done) | apply Blk.alloc | apply Blk.drew | apply Blk.drewN | apply Blk.more | apply Blk.put | (apply Blk.far; focus (first | assumption | (apply Ne.symm; assumption) | (simp; done) | (simp <;> omega)))))), (by repeat (with_reducible (first | exact Below.refl _ _ | assumption | apply ext_drew | apply ext_drewN | apply ext_alloc | apply ext_more | (refine ext_setCell ?_ (by simp <;> omega) _) | (refine ext_below ?_ (by assumption)))))⟩
              case measure => simp [intOf]; omega
        · have hkm : k = m := by omega
          subst hkm
          go_wp2
          go_roundw
          case rel => exact ⟨p + 1, by omega, by go_num, by show OwnB _ _ _ _ (passF _ _ _ _ _ _); rw [← HMp.out]; exact hO, hL, hB⟩
          case measure => simp [intOf]; omega
    · have hpR : p = R := by omega
      subst hpR
      go_wp2
      go_loopw [47] (fun i wr => ∃ k : Nat, k ≤ n ∧ i = .int .i64 k ∧ OwnB (w.heap.size + 1) wr A n (clampF Mp k) ∧ Below w.heap.size w wr) (fun i _ => n - (intOf i).toNat)
      case atStart => exact ⟨0, by omega, rfl, fun h => by obtain ⟨b, e, h1, h2⟩ := hOp h; exact ⟨b, e, h1, h2.eq (fun a _ c _ => (clampF_zero _ _ _).symm)⟩, hBp⟩
      case round =>
        obtain ⟨k, hk, rfl, hO, hB⟩ := hrel
        by_cases hlt : k < n
        · obtain ⟨b, rfl, hbb, hT⟩ := hO (by omega)
          clear hO hOp hO1 hO2
          have y0 := hT.cell hlt (j := 9) (by decide)
          have y1 := hT.cell hlt (j := 10) (by decide)
          have y2 := hT.cell hlt (j := 11) (by decide)
          go_wp2_with fail
          refine (clampS_c _ _ _ _).mono ?_
          rintro e w3 ⟨rfl, hb3⟩
          have hT3 : Tab w3 b n 17 (clampF Mp k) := hT.below hb3
          have v0 : w3.cell? ⟨b, k * 17 + 9, none⟩ = some (.int .i64 (clampF Mp k k 9)) := hT3.cell hlt (j := 9) (by decide)
          have v1 : w3.cell? ⟨b, k * 17 + 9 + 1, none⟩ = some (.int .i64 (clampF Mp k k 10)) := hT3.cell hlt (j := 10) (by decide)
          have v2 : w3.cell? ⟨b, k * 17 + 9 + 2, none⟩ = some (.int .i64 (clampF Mp k k 11)) := hT3.cell hlt (j := 11) (by decide)
          have u0 : w3.frozen? ⟨b, k * 17 + 9, none⟩ = false := hT3.free _
          have u1 : w3.frozen? ⟨b, k * 17 + 9 + 1, none⟩ = false := hT3.free _
          have u2 : w3.frozen? ⟨b, k * 17 + 9 + 2, none⟩ = false := hT3.free _
          have zb := hT3.lt
          have hB3 : Below w.heap.size w w3 := hB.trans (hb3.mono hB.size)
          go_wp2
          go_roundw
          case rel => exact ⟨k + 1, by omega, by go_num, fun _ => ⟨b, rfl, hbb, Tab.eq (hT3.set3 hlt (j := 9) (by decide) _ _ _) (fun a _ c _ => clampF_succ Mp k a c)⟩, (by repeat (with_reducible (first | exact Below.refl _ _ | assumption | apply ext_drew | apply ext_drewN | apply ext_alloc | apply ext_more | (refine ext_setCell ?_ (by simp <;> omega) _) | (refine ext_below ?_ (by assumption)))))⟩
          case measure => simp [intOf]; omega
        · have hkn : k = n := by omega
          go_wp2
          go_ret
          exact ⟨A, cap, rfl, by have h9 := OwnB.mono (base' := w.heap.size) hO (by omega); rw [hkn] at h9; rw [← HMp.out]; exact h9, hB⟩

end Go.Proofs.Ytfagkbmphohelaa
