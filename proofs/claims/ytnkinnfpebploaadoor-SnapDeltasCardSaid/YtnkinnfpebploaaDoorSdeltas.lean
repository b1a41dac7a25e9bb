/- What both Delta answer, in one form; the walk of gyrelaw.SnapDeltas. Conditions: what the variable errors.errorType holds. -/
import Derived.Test.YtnkinnfpebploaaDoorDeltas
import Derived.Test.YtnkinnfpebploaaDoorBare
import Derived.Test.YtnkinnfpebploaaDoorSnap4
namespace Go.Proofs.YtnkinnfpebploaaDoor
open Go.ChangeShapes Go.WideShapes Go.ChangeAt Go.RowKit Go.BigFrame
open B
theorem lbare_eq2 (n m : Int) (v : Value) (w : World) (hg : Handle w) (hv : errV n = v) (h : n = m) : Calls Tryd.prog 16 #[v, .int .i64 m] w fun e w' => e = .returned (.bool true) ∧ Below w.heap.size w w' := by
  subst hv
  exact lbare_eq n m w hg h
theorem snapDeltas_w (A1 : Option Addr) (n1 c1 : Nat) (M1 : Nat → Nat → Int) (A2 : Option Addr) (n2 c2 : Nat) (M2 : Nat → Nat → Int) (w : World) (hH : Handle w) (_hn1 : n1 ≤ maxLen) (hR1 : Reads w A1 n1 11 M1) (_hM1 : ∀ i j, -9223372036854775808 ≤ M1 i j ∧ M1 i j ≤ 9223372036854775807) (hk1 : n1 ≤ 1599289640354) (_hn2 : n2 ≤ maxLen) (hR2 : Reads w A2 n2 11 M2) (_hM2 : ∀ i j, -9223372036854775808 ≤ M2 i j ∧ M2 i j ≤ 9223372036854775807) (hk2 : n2 ≤ 1599289640354) :
    Calls Tryd.prog 10 #[.slice A1 n1 c1, .slice A2 n2 c2] w fun e w' => e = .returned (.bool true) ∧ Below w.heap.size w w' := by

  have HR1 := Lib.hid hR1
  have HR2 := Lib.hid hR2
  clear hR1 hR2
  by_cases h150 : 150 < n1 + n2
  · go_enter Tryd.func10, Tryd.ntmps10
    have hd : decide (150 < (n1 : Int) + (n2 : Int)) = true := decide_eq_true (by omega)
    go_wp2
    go_ret
    exact ⟨rfl, Below.refl _ _⟩
  have hd : decide (150 < (n1 : Int) + (n2 : Int)) = false := decide_eq_false (by omega)
  go_enter Tryd.func10, Tryd.ntmps10
  go_wp2_with fail
  with_reducible refine (seen_c n1 A1 c1 M1 w (by omega) HR1.out).mono ?_
  rintro e w1 ⟨B1, k1, rfl, _, hs1, hb1⟩
  have HS1 := Lib.hid hs1
  clear hs1
  go_wp2_with fail
  with_reducible refine (seen_c n2 A2 c2 M2 w1 (by omega) (HR2.out.below hb1)).mono ?_
  rintro e w2 ⟨B2, k2, rfl, _, hs2, hb2⟩
  have HS2 := Lib.hid hs2
  have hB2 : Below w.heap.size w w2 := hb1.trans (hb2.mono hb1.size)
  clear hs2
  go_wp2_with fail
  with_reducible refine (rdelta_d n1 n2 B1 B2 k1 k2 M1 M2 w2 (by omega) (by omega) (HS1.out.below hb2) HS2.out).mono ?_
  rintro e w3 ⟨v3, A3, k3, rfl, hv3, hr3, hb3⟩
  subst hv3
  have hB3 : Below w.heap.size w w3 := hB2.trans (hb3.mono hB2.size)
  clear hb1 hb2 hb3 hB2 HS1 HS2
  obtain ⟨L, hL⟩ : ∃ L, L = dL M1 n1 M2 n2 := ⟨_, rfl⟩
  obtain ⟨n, hn⟩ : ∃ n, n = dN M1 n1 M2 n2 := ⟨_, rfl⟩
  rw [← hL] at hr3
  rw [← hL, ← hn]
  have HL := Lib.hid hL
  have HN := Lib.hid hn
  clear hL hn
  go_wp2_with fail
  with_reducible refine (delta_d n1 n2 A1 A2 c1 c2 M1 M2 w3 (by omega) (by omega) (HR1.out.below hB3) (HR2.out.below hB3)).mono ?_
  rintro e w4 ⟨v4, A4, k4, rfl, hv4, hr4, hb4⟩
  subst hv4
  rw [← HL.out] at hr4
  rw [← HL.out, ← HN.out]
  have hB4 : Below w.heap.size w w4 := hB3.trans (hb4.mono hB3.size)
  have hr3 := hr3.below hb4
  clear hb4 hB3
  obtain ⟨ev, hev⟩ : ∃ ev, errV n = ev := ⟨_, rfl⟩
  rw [hev]
  have HE := Lib.hid hev
  clear hev
  go_wp2_with fail
  with_reducible refine (lbare_eq2 n n ev _ (hH.below hB4) HE.out rfl).mono ?_
  rintro e w5 ⟨rfl, hb5⟩
  have hB5 : Below w.heap.size w w5 := hB4.trans (hb5.mono hB4.size)
  have hr3 := hr3.below hb5
  have hr4 := hr4.below hb5
  have hc3 := conv_rdb hr3
  have hc4 := conv_rdb hr4
  clear hr3 hr4 hb5 hB4 HL HN HE
  go_wp2_with fail
  with_reducible refine (right_c n1 A1 c1 M1 w5 (by omega) (HR1.out.below hB5)).mono ?_
  rintro e w6 ⟨d1, rfl, hd1, hb6⟩
  have hB6 : Below w.heap.size w w6 := hB5.trans (hb6.mono hB5.size)
  have HD1 := Lib.hid hd1
  clear hd1 hc3 hc4 hb6 hB5
  go_wp2_with fail
  with_reducible refine (seen_c n1 A1 c1 M1 w6 (by omega) (HR1.out.below hB6)).mono ?_
  rintro e w7 ⟨B7, k7, rfl, _, hs7, hb7⟩
  have HS7 := Lib.hid hs7
  have hB7 : Below w.heap.size w w7 := hB6.trans (hb7.mono hB6.size)
  clear hs7 hb7 hB6
  go_wp2_with fail
  with_reducible refine (rright_c n1 B7 k7 M1 w7 (by omega) HS7.out).mono ?_
  rintro e w8 ⟨d2, rfl, hd2, hb8⟩
  have hB8 : Below w.heap.size w w8 := hB7.trans (hb8.mono hB7.size)
  obtain rfl : d1 = d2 := by
    rw [Bool.eq_iff_iff, HD1.out, hd2]
  clear hd2 hb8 hB7 HD1
  cases d1 with
  | true =>
    go_wp2
    go_ret
    exact ⟨rfl, hB8⟩
  | false =>
    go_wp2
    go_ret
    exact ⟨rfl, hB8⟩
end Go.Proofs.YtnkinnfpebploaaDoor
