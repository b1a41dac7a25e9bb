/- The contracts of quotients and roots (package fx and the document's answers): each returns the plain number of XMath. Conditions: none. -/
import Derived.Test.YtfagkbmphohelaaFx
namespace Go.Proofs.Ytfagkbmphohelaa
open Go.ChangeShapes Go.WideShapes Go.ChangeAt Go.RowKit

theorem div_c (a b : Int) (w : World) : Calls Try.prog 55 #[.int .i64 a, .int .i64 b] w fun e w' => e = .returned (.int .i64 (div a b)) ∧ ∃ q, w' = w.drewN q := by
  obtain ⟨ha0, ha1⟩ := mag_bd a
  obtain ⟨hb0, hb1⟩ := mag_bd b
  have hz : mag a / 281474976710656 = 0 := by omega
  by_cases h : mag b = 0
  · have hB : (mag b == 0) = true := by rw [beq_iff_eq]; exact h
    by_cases g : mag a = 0
    · have hA : (mag a == 0) = true := by rw [beq_iff_eq]; exact g
      have Hf := Lib.hid (show 0 = div a b by unfold div; rw [if_pos h, if_pos g])
      clear h g hz
      go_enter Try.func55, Try.ntmps55
      go_wp2_with (go_at_call 96; refine (magnitude_c _ _).mono ?_; rintro e w' ⟨rfl, rfl⟩)
      go_ret
      exact ⟨ri Hf.out, 0, rfl⟩
    · have hA : (mag a == 0) = false := by rw [beq_eq_false_iff_ne]; exact g
      have Hf := Lib.hid (show sgn 70368744177664 (ng a) = div a b by unfold div; rw [if_pos h, if_neg g])
      clear h g hz
      go_enter Try.func55, Try.ntmps55
      go_wp2_with (first | (go_at_call 96; refine (magnitude_c _ _).mono ?_; rintro e w' ⟨rfl, rfl⟩) | (go_at_call 98; refine (signed_c _ _ (by omega) (by omega) _).mono ?_; rintro e w' ⟨rfl, rfl⟩))
      go_ret
      exact ⟨ri Hf.out, 0, rfl⟩
  · have hB : (mag b == 0) = false := by rw [beq_eq_false_iff_ne]; exact h
    have hb2 : 1 ≤ mag b := by omega
    have hq0 : 0 ≤ mag a * 65536 / mag b := Int.ediv_nonneg (by omega) hb0
    have hq1 : mag a * 65536 / mag b < 18446744073709551616 := Int.lt_of_le_of_lt (Int.ediv_le_self _ (by omega)) (by omega)
    have Hf := Lib.hid (show sgn (mag a * 65536 / mag b) (ng a != ng b) = div a b by unfold div; rw [if_neg h])
    clear h
    go_enter Try.func55, Try.ntmps55
    go_wp2_with (first | (go_at_call 96; refine (magnitude_c _ _).mono ?_; rintro e w' ⟨rfl, rfl⟩) | (go_at_call 100; refine (div64_c _ _ (by omega) (by omega) (by omega) (by omega) _).mono ?_; rintro e w' ⟨rfl, rfl⟩) | (go_at_call 98; refine (signed_c _ _ (by omega) (by omega) _).mono ?_; rintro e w' ⟨rfl, rfl⟩))
    go_ret
    exact ⟨ri (by rw [← Hf.out]; congr 1), 1, rfl⟩

theorem rdiv_c (a b : Int) (w : World) : Calls Try.prog 56 #[.int .i64 a, .int .i64 b] w fun e w' => e = .returned (.int .i64 (div a b)) ∧ w = w' := by
  obtain ⟨ha0, ha1⟩ := mag_bd a
  obtain ⟨hb0, hb1⟩ := mag_bd b
  obtain ⟨sa0, sa1⟩ := si_bd (ng a)
  have hs : -1 ≤ si (ng a) * si (ng b) ∧ si (ng a) * si (ng b) ≤ 1 := by cases ng a <;> cases ng b <;> simp [si]
  obtain ⟨hs0, hs1⟩ := hs
  by_cases h : mag b = 0
  · have hB : (mag b == 0) = true := by rw [beq_iff_eq]; exact h
    by_cases g : mag a = 0
    · have hA : (mag a == 0) = true := by rw [beq_iff_eq]; exact g
      have Hf := Lib.hid (show 0 = div a b by unfold div; rw [if_pos h, if_pos g])
      clear h g
      go_enter Try.func56, Try.ntmps56
      go_wp2_with (go_at_call 99; refine (abs_c _ _).mono ?_; rintro e w' ⟨rfl, rfl⟩)
      go_ret
      exact ⟨ri Hf.out, rfl⟩
    · have hA : (mag a == 0) = false := by rw [beq_eq_false_iff_ne]; exact g
      have Hf := Lib.hid (show si (ng a) * 70368744177664 = div a b by unfold div; rw [if_pos h, if_neg g]; unfold sgn si; cases ng a <;> simp)
      clear h g
      go_enter Try.func56, Try.ntmps56
      go_wp2_with (first | (go_at_call 99; refine (abs_c _ _).mono ?_; rintro e w' ⟨rfl, rfl⟩))
      go_ret
      exact ⟨ri Hf.out, rfl⟩
  · have hB : (mag b == 0) = false := by rw [beq_eq_false_iff_ne]; exact h
    have hb2 : 1 ≤ mag b := by omega
    have hq0 : 0 ≤ mag a * 65536 / mag b := Int.ediv_nonneg (by omega) hb0
    have hq1 : mag a * 65536 / mag b ≤ 4611686018427387904 := Int.le_trans (Int.ediv_le_self _ (by omega)) (by omega)
    have Hf := Lib.hid (show si (ng a) * si (ng b) * cut (mag a * 65536 / mag b) = div a b by unfold div; rw [if_neg h, sgn_si _ _ _ hq0])
    have hs2 := div_bd a b
    rw [← Hf.out] at hs2
    obtain ⟨hs2, hs3⟩ := hs2
    clear h
    go_enter Try.func56, Try.ntmps56
    go_wp2_with (first | (go_at_call 99; refine (abs_c _ _).mono ?_; rintro e w' ⟨rfl, rfl⟩) | (go_at_call 50; refine (rcut_c _ _).mono ?_; rintro e w' ⟨rfl, rfl⟩))
    go_ret
    exact ⟨ri Hf.out, rfl⟩

theorem RI_or {v r b : Int} (h : RI v r b) (hb : 0 < b) : bits .or .u64 r b = r + b := by
  obtain ⟨h1, h2, h3, h4, _⟩ := RI_bd h
  obtain ⟨k, e1, e2⟩ := RI_even h hb
  rw [u64_or _ _ (by omega) (by omega) (by omega) (by omega), nat_join (k + 1) _ _ e2 (by rw [e1, Nat.pow_succ]; have := Nat.pow_pos (n := k) (show 0 < 2 by decide); omega)]
  omega

theorem root_c (n : Int) (w : World) : Calls Try.prog 47 #[.int .i64 n] w fun e w' => e = .returned (.int .i64 (root n)) ∧ w = w' := by
  obtain ⟨ha0, ha1⟩ := mag_bd n
  cases hg : ng n with
  | true =>
    have Hf := Lib.hid (show 0 = root n by unfold root; rw [if_pos (by simpa [ng] using hg)])
    go_enter Try.func47, Try.ntmps47
    go_wp2_with (go_at_call 96; refine (magnitude_c _ _).mono ?_; rintro e w' ⟨rfl, rfl⟩)
    go_ret
    exact ⟨ri Hf.out, rfl⟩
  | false =>
    have hn : ¬ cut n < 0 := by simpa [ng] using hg
    by_cases h : mag n = 0
    · have hB : (mag n == 0) = true := by rw [beq_iff_eq]; exact h
      have Hf := Lib.hid (show 0 = root n by unfold root; rw [if_neg hn, h]; exact (congrArg Int.ofNat isq_zero).symm)
      clear h hn
      go_enter Try.func47, Try.ntmps47
      go_wp2_with (go_at_call 96; refine (magnitude_c _ _).mono ?_; rintro e w' ⟨rfl, rfl⟩)
      go_ret
      exact ⟨ri Hf.out, rfl⟩
    · have hB : (mag n == 0) = false := by rw [beq_eq_false_iff_ne]; exact h
      have Hf := Lib.hid (show (isq (mag n * 65536).toNat : Int) = root n by unfold root; rw [if_neg hn])
      clear h hn
      go_enter Try.func47, Try.ntmps47
      go_wp2_with (go_at_call 96; refine (magnitude_c _ _).mono ?_; rintro e w' ⟨rfl, rfl⟩)
      go_loop [6, 7, 8] (fun r b _ => ∃ ri bi : Int, RI (mag n * 65536) ri bi ∧ r = .int .u64 ri ∧ b = .int .u64 bi) (fun _ b _ => (intOf b).toNat)
      case atStart => exact ⟨0, 2147483648, RI_start _ (by omega) (by omega), rfl, rfl⟩
      case round =>
        obtain ⟨r, b, HR, rfl, rfl⟩ := hrel
        obtain ⟨k1, k2, k3, k4, k5, k6, k7⟩ := RI_bd HR
        by_cases hb : 0 < b
        · have hor := RI_or HR hb
          by_cases ht : (r + b) * (r + b) ≤ mag n * 65536
          · have HN := RI_yes HR hb ht
            go_wp2
            go_round
            case rel => exact ⟨_, _, HN, rfl, rfl⟩
            case measure => simp [intOf]; omega
          · have HN := RI_no HR hb ht
            go_wp2
            go_round
            case rel => exact ⟨_, _, HN, rfl, rfl⟩
            case measure => simp [intOf]; omega
        · have HE := Lib.hid (RI_end HR hb (by omega))
          go_wp2
          go_ret
          exact ⟨ri (by rw [HE.out]; exact Hf.out), rfl⟩

theorem rroot_c (n : Int) (w : World) : Calls Try.prog 57 #[.int .i64 n] w fun e w' => e = .returned (.int .i64 (root n)) ∧ w = w' := by
  obtain ⟨ha0, ha1⟩ := mag_bd n
  cases hg : ng n with
  | true =>
    have Hf := Lib.hid (show 0 = root n by unfold root; rw [if_pos (by simpa [ng] using hg)])
    have hsi : si (ng n) = -1 := by rw [hg]; rfl
    go_enter Try.func57, Try.ntmps57
    go_wp2_with (go_at_call 99; refine (abs_c _ _).mono ?_; rw [hsi]; rintro e w' ⟨rfl, rfl⟩)
    go_ret
    exact ⟨ri Hf.out, rfl⟩
  | false =>
    have hn : ¬ cut n < 0 := by simpa [ng] using hg
    have hsi : si (ng n) = 1 := by rw [hg]; rfl
    have Hf := Lib.hid (show (isq (mag n * 65536).toNat : Int) = root n by unfold root; rw [if_neg hn])
    clear hn
    go_enter Try.func57, Try.ntmps57
    go_wp2_with (go_at_call 99; refine (abs_c _ _).mono ?_; rw [hsi]; rintro e w' ⟨rfl, rfl⟩)
    go_loop [5, 6, 7] (fun l h _ => ∃ li hi : Int, HI (mag n * 65536) li hi ∧ l = .int .u64 li ∧ h = .int .u64 hi) (fun l h _ => (intOf h - intOf l).toNat)
    case atStart => exact ⟨0, 2147483648, HI_start _ (by omega) (by omega), rfl, rfl⟩
    case round =>
      obtain ⟨l, h, HR, rfl, rfl⟩ := hrel
      obtain ⟨k1, k2, k3, _⟩ := id HR
      by_cases hb : l < h
      · obtain ⟨m1, m2, m3, m4, m5⟩ := HI_mid HR hb
        by_cases ht : (l + h + 1) / 2 * ((l + h + 1) / 2) ≤ mag n * 65536
        · have HN := HI_yes HR hb ht
          go_wp2
          go_round
          case rel => exact ⟨_, _, HN, rfl, rfl⟩
          case measure => simp [intOf]; omega
        · have HN := HI_no HR hb ht
          go_wp2
          go_round
          case rel => exact ⟨_, _, HN, rfl, rfl⟩
          case measure => simp [intOf]; omega
      · have HE := Lib.hid (HI_end HR hb (by omega))
        go_wp2
        go_ret
        exact ⟨ri (by rw [HE.out]; exact Hf.out), rfl⟩
end Go.Proofs.Ytfagkbmphohelaa
