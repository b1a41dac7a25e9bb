/- Proved: Rows.SolveStillSaid: what has no mass is not moved, who has no touch keeps both. Conditions: none. -/
import Derived.Test.YtfagkbmphohelaaStill1
import Derived.Test.YtfagkbmphohelaaStill0
import Derived.Test.YtfagkbmphohelaaStillP
import Derived.Test.YtfagkbmphohelaaMapE
import Derived.Test.YtfagkbmphohelaaLoad17
import Derived.Test.YtfagkbmphohelaaSolve7
import Derived.Test.YtfagkbmphohelaaLift
import Derived.Test.YtfagkbmphohelaaOpen
import Derived.LoopTactic
import Derived.WalkKit
namespace Go.Proofs.Ytfagkbmphohelaa
open Go.ChangeShapes Go.WideShapes Go.ChangeAt Go.RowKit Go.BigFrame
open Go.Maps
theorem zero_bool9 (w : World) : (zeroValue 4).run Try.prog w = .ok (.bool false) w := by kernel_rfl
theorem clampA_c (a1 a2 a3 : Int) (w : World) : Calls Try.prog 70 #[.agg #[.int .i64 a1, .int .i64 a2, .int .i64 a3], .int .i64 65536000] w fun e w' => e = .returned (.agg #[.int .i64 (clamp 65536000 a1), .int .i64 (clamp 65536000 a2), .int .i64 (clamp 65536000 a3)]) ∧ Below w.heap.size w w' := clamp_c a1 a2 a3 65536000 (by decide) w
theorem OwnB.mod_map {base n bm m cnt : Nat} {w w' : World} {A : Option Addr} {M : Nat → Nat → Int} {P : Program} {K : TypeId} {F : Lit → Option Value} (h : OwnB base w A n M) (hM : MapV P K w bm m F cnt) (k : Mod (· = bm) w w') : OwnB base w' A n M := fun hn => by
  obtain ⟨b, e, hb, hT⟩ := h hn
  obtain ⟨cs, T, h1, _⟩ := id hT
  exact ⟨b, e, hb, hT.mod k (hM.ne h1)⟩
theorem quiet_body_row {w : World} {b n k : Nat} {M : Nat → Nat → Int} {R : Nat → Int} (hT : Tab w b n 17 M) (hk : k < n) (hrow : ∀ c, M k c = R c) {o : Oper} {a : Act} {K : Act → Prop} (x : Operand) (ho : o.op = .load 27 x) (hx : a.eval x = .pointer (some ⟨b, k * 17, none⟩))
    (h : K (a.put o.dst (.agg #[.int .i64 (R 0), .int .i64 (R 1), .int .i64 (R 2), .int .i64 (R 3), .int .i64 (R 4), .int .i64 (R 5), .int .i64 (R 6), .int .i64 (R 7), .int .i64 (R 8), .int .i64 (R 9), .int .i64 (R 10), .int .i64 (R 11), .int .i64 (R 12), .int .i64 (R 13), .int .i64 (R 14), .int .i64 (R 15), .int .i64 (R 16)]))) : o.quiet Try.prog a (fun w' => ∃ m, w' = more w m) K :=
  quiet_body hT hk x ho hx (by simp only [hrow]; exact h)
/-- all that stands in a map is true -/
def TrueF (F : Lit → Option Value) : Prop := ∀ l, F l = none ∨ F l = some (.bool true)
theorem trueF_put {F : Lit → Option Value} (h : TrueF F) (k : Lit) : TrueF (putF F k (.bool true)) := by
  intro l
  unfold putF
  by_cases e : l = k
  · rw [if_pos e]; exact .inr rfl
  · rw [if_neg e]; exact h l
theorem putF_keep {F : Lit → Option Value} {k l : Lit} (h : F l = some (.bool true)) : putF F k (.bool true) l = some (.bool true) := by
  unfold putF
  by_cases e : l = k
  · rw [if_pos e]
  · rw [if_neg e]; exact h
theorem putF_new {F : Lit → Option Value} {k : Lit} : putF F k (.bool true) k = some (.bool true) := by
  unfold putF
  rw [if_pos rfl]

set_option maxRecDepth 100000 in
set_option maxHeartbeats 16000000 in
theorem solveStill_w (A0 : Option Addr) (n0 c0 : Nat) (M0 : Nat → Nat → Int) (A1 : Option Addr) (n1 c1 : Nat) (M1 : Nat → Nat → Int) (a b c : Int) (w : World) (_hn0 : n0 ≤ maxLen) (hR0 : Reads w A0 n0 17 M0) (_ : ∀ i j, -9223372036854775808 ≤ M0 i j ∧ M0 i j ≤ 9223372036854775807) (hZ0 : A0 = none → n0 = 0 ∧ c0 = 0)
    (_hn1 : n1 ≤ maxLen) (hR1 : Reads w A1 n1 6 M1) (hM1 : ∀ i j, -9223372036854775808 ≤ M1 i j ∧ M1 i j ≤ 9223372036854775807) (_hZ1 : A1 = none → n1 = 0 ∧ c1 = 0) :
    Calls Try.prog 14 #[.slice A0 n0 c0, .slice A1 n1 c1, .int .i64 a, .int .i64 b, .int .i64 c] w fun e w' => e = .returned (.bool true) ∧ Below w.heap.size w w' := by
  by_cases h0 : 20 < n0
  · go_enter Try.func14, Try.ntmps14
    go_wp2
    go_ret
    exact ⟨rfl, Below.refl _ _⟩
  by_cases h1 : 40 < n1
  · go_enter Try.func14, Try.ntmps14
    go_wp2
    go_ret
    exact ⟨rfl, Below.refl _ _⟩
  go_enter Try.func14, Try.ntmps14
  go_wp2_with fail
  refine (solved_c _).mono ?_
  rintro e w1 ⟨rfl, hb1⟩
  go_wp2_with (at_builtin; go_must (refine append_bodies2 rfl (.tmp 28) (.tmp 29) rfl w1 rfl M0 A0 n0 c0 rfl (hR0.below hb1) hZ0 (by omega) ?_))
  rintro A cap w2 hOz hZ hb2
  have hB2 : Below w.heap.size w w2 := hb1.trans (hb2.mono hb1.size)
  have hO2 : OwnB w.heap.size w2 A n0 M0 := hOz.mono hb1.size
  clear hb1 hb2 hOz
  have HR1 := Lib.hid hR1
  have HM1 := Lib.hid hM1
  clear hR1 hM1 hR0
  obtain ⟨hn0, hn1⟩ : n0 ≤ 20 ∧ n1 ≤ 40 := by omega
  clear h0 h1
  go_wp2
  go_loopw [12] (fun i wr => ∃ k : Nat, k ≤ n0 ∧ i = .int .i64 k ∧ OwnB w.heap.size wr A n0 (readyF M0 k) ∧ Below w.heap.size w wr) (fun i _ => n0 - (intOf i).toNat)
  case atStart => exact ⟨0, by omega, rfl, fun h => by obtain ⟨b, e, h1, h2⟩ := hO2 h; exact ⟨b, e, h1, h2.eq (fun a _ c _ => (readyF_zero _ _ _).symm)⟩, hB2⟩
  case round =>
    obtain ⟨k, hk, rfl, hO, hB⟩ := hrel
    by_cases hlt : k < n0
    · obtain ⟨b, rfl, hbb, hT⟩ := hO (by omega)
      clear hO hO2
      have HSU := Lib.hid (readyF_succ M0 k)
      have hrow := fun c => readyF_row M0 k c
      obtain ⟨Mk, hMk⟩ : ∃ Mk, Mk = readyF M0 k := ⟨_, rfl⟩
      rw [← hMk] at hT HSU hrow
      have HROW := Lib.hid hrow
      clear hMk hrow
      have zb := hT.lt
      have zf0 : wr.frozen? ⟨b, k * 17, none⟩ = false := hT.free _
      have z0 : wr.cell? ⟨b, k * 17, none⟩ = some (.int .i64 (Mk k 0)) := hT.cell hlt (j := 0) (by decide)
      have y0 : wr.cell? ⟨b, k * 17 + 9, none⟩ = some (.int .i64 (M0 k 9)) := by rw [← HROW.out 9]; exact hT.cell hlt (j := 9) (by decide)
      have yf0 : wr.frozen? ⟨b, k * 17 + 9, none⟩ = false := hT.free _
      have y1 : wr.cell? ⟨b, k * 17 + 9 + 1, none⟩ = some (.int .i64 (M0 k 10)) := by rw [← HROW.out 10]; exact hT.cell hlt (j := 10) (by decide)
      have yf1 : wr.frozen? ⟨b, k * 17 + 9 + 1, none⟩ = false := hT.free _
      have y2 : wr.cell? ⟨b, k * 17 + 9 + 2, none⟩ = some (.int .i64 (M0 k 11)) := by rw [← HROW.out 11]; exact hT.cell hlt (j := 11) (by decide)
      have yf2 : wr.frozen? ⟨b, k * 17 + 9 + 2, none⟩ = false := hT.free _
      go_wp2_with fail
      refine calls_here ?_
      rintro w4 hb4
      have hT4 : Tab w4 b n0 17 (put1 Mk k 0 ((k : Int) + 1)) := (hT.set hlt (j := 0) (by decide) _).below hb4
      have hB4 : Below w.heap.size w w4 := (by repeat (with_reducible (first | exact Below.refl _ _ | assumption | apply ext_drew | apply ext_drewN | apply ext_alloc | apply ext_more | (refine ext_setCell ?_ (by first | assumption | (simp <;> omega)) _) | (refine ext_below ?_ (by assumption)))))
      clear hb4 hB hT zb zf0 z0 y0 yf0 y1 yf1 y2 yf2
      have hrow : ∀ c, put1 Mk k 0 ((k : Int) + 1) k (c + 1) = M0 k (c + 1) := fun c => by rw [put1_col _ _ _ _ _ (by omega)]; exact HROW.out _
      have HR4 := Lib.hid hrow
      clear hrow HROW
      obtain ⟨M4, hM4⟩ : ∃ M4, M4 = put1 Mk k 0 ((k : Int) + 1) := ⟨_, rfl⟩
      rw [← hM4] at hT4 HSU HR4
      clear hM4
      refine (clampS_c _ _ _ _).mono ?_
      rintro e w5 ⟨rfl, hb5⟩
      have hT5 := hT4.below hb5
      have hB5 : Below w.heap.size w w5 := hB4.trans (hb5.mono hB4.size)
      clear hb5 hB4 hT4
      have zb5 := hT5.lt
      have y0 : w5.cell? ⟨b, k * 17 + 9, none⟩ = some (.int .i64 (M0 k 9)) := by rw [← HR4.out (9 - 1)]; exact hT5.cell hlt (j := 9) (by decide)
      have yf0 : w5.frozen? ⟨b, k * 17 + 9, none⟩ = false := hT5.free _
      have y1 : w5.cell? ⟨b, k * 17 + 9 + 1, none⟩ = some (.int .i64 (M0 k 10)) := by rw [← HR4.out (10 - 1)]; exact hT5.cell hlt (j := 10) (by decide)
      have yf1 : w5.frozen? ⟨b, k * 17 + 9 + 1, none⟩ = false := hT5.free _
      have y2 : w5.cell? ⟨b, k * 17 + 9 + 2, none⟩ = some (.int .i64 (M0 k 11)) := by rw [← HR4.out (11 - 1)]; exact hT5.cell hlt (j := 11) (by decide)
      have yf2 : w5.frozen? ⟨b, k * 17 + 9 + 2, none⟩ = false := hT5.free _
      have x0 : w5.cell? ⟨b, k * 17 + 6, none⟩ = some (.int .i64 (M0 k 6)) := by rw [← HR4.out (6 - 1)]; exact hT5.cell hlt (j := 6) (by decide)
      have xf0 : w5.frozen? ⟨b, k * 17 + 6, none⟩ = false := hT5.free _
      have x1 : w5.cell? ⟨b, k * 17 + 6 + 1, none⟩ = some (.int .i64 (M0 k 7)) := by rw [← HR4.out (7 - 1)]; exact hT5.cell hlt (j := 7) (by decide)
      have xf1 : w5.frozen? ⟨b, k * 17 + 6 + 1, none⟩ = false := hT5.free _
      have x2 : w5.cell? ⟨b, k * 17 + 6 + 2, none⟩ = some (.int .i64 (M0 k 8)) := by rw [← HR4.out (8 - 1)]; exact hT5.cell hlt (j := 8) (by decide)
      have xf2 : w5.frozen? ⟨b, k * 17 + 6 + 2, none⟩ = false := hT5.free _
      go_wp2_with fail
      refine calls_here ?_
      rintro w6 hb6
      have hT6 : Tab w6 b n0 17 (put3 M4 k 9 (clamp 6553600 (M0 k 9)) (clamp 6553600 (M0 k 10)) (clamp 6553600 (M0 k 11))) := (hT5.set3 hlt (j := 9) (by decide) _ _ _).below hb6
      have hB6 : Below w.heap.size w w6 := (by repeat (with_reducible (first | exact Below.refl _ _ | assumption | apply ext_drew | apply ext_drewN | apply ext_alloc | apply ext_more | (refine ext_setCell ?_ (by first | assumption | (simp <;> omega)) _) | (refine ext_below ?_ (by assumption)))))
      clear hb6 hB5 zb5 y0 yf0 y1 yf1 y2 yf2 x0 xf0 x1 xf1 x2 xf2
      have hrow : ∀ c, c < 8 → put3 M4 k 9 (clamp 6553600 (M0 k 9)) (clamp 6553600 (M0 k 10)) (clamp 6553600 (M0 k 11)) k (c + 1) = M0 k (c + 1) := fun c h => by rw [put3_col _ _ _ _ _ _ _ (by omega)]; exact HR4.out _
      have HR6 := Lib.hid hrow
      clear hrow HR4
      obtain ⟨M6, hM6⟩ : ∃ M6, M6 = put3 M4 k 9 (clamp 6553600 (M0 k 9)) (clamp 6553600 (M0 k 10)) (clamp 6553600 (M0 k 11)) := ⟨_, rfl⟩
      rw [← hM6] at hT6 HSU HR6
      clear hM6
      refine (clampA_c _ _ _ _).mono ?_
      rintro e w7 ⟨rfl, hb7⟩
      have hT7 := hT6.below hb7
      have hB7 : Below w.heap.size w w7 := hB6.trans (hb7.mono hB6.size)
      clear hb7 hB6 hT6
      have zb7 := hT7.lt
      have x0 : w7.cell? ⟨b, k * 17 + 6, none⟩ = some (.int .i64 (M0 k 6)) := by rw [← HR6.out (6 - 1) (by decide)]; exact hT7.cell hlt (j := 6) (by decide)
      have xf0 : w7.frozen? ⟨b, k * 17 + 6, none⟩ = false := hT7.free _
      have x1 : w7.cell? ⟨b, k * 17 + 6 + 1, none⟩ = some (.int .i64 (M0 k 7)) := by rw [← HR6.out (7 - 1) (by decide)]; exact hT7.cell hlt (j := 7) (by decide)
      have xf1 : w7.frozen? ⟨b, k * 17 + 6 + 1, none⟩ = false := hT7.free _
      have x2 : w7.cell? ⟨b, k * 17 + 6 + 2, none⟩ = some (.int .i64 (M0 k 8)) := by rw [← HR6.out (8 - 1) (by decide)]; exact hT7.cell hlt (j := 8) (by decide)
      have xf2 : w7.frozen? ⟨b, k * 17 + 6 + 2, none⟩ = false := hT7.free _
      go_wp2
      go_roundw
      case rel => exact ⟨k + 1, by omega, by go_num, fun _ => ⟨b, rfl, hbb, Tab.eq (hT7.set3 hlt (j := 6) (by decide) _ _ _) (fun a _ c _ => HSU.out a c)⟩, (by repeat (with_reducible (first | exact Below.refl _ _ | assumption | apply ext_drew | apply ext_drewN | apply ext_alloc | apply ext_more | (refine ext_setCell ?_ (by first | assumption | (simp <;> omega)) _) | (refine ext_below ?_ (by assumption)))))⟩
      case measure => simp [intOf]; omega
    · have hkn : n0 = k := by omega
      subst hkn
      clear hO2 hB2
      obtain ⟨wm, rfl⟩ : ∃ wm : World, wm = wr := ⟨_, rfl⟩
      have hmk := @run_makeMap Try.prog
      go_wp2
      clear hmk
      go_loopw [14] (fun i wx => ∃ (j : Nat) (F : Lit → Option Value) (cnt : Nat), j ≤ n1 ∧ i = .int .i64 j ∧ OwnB w.heap.size wx A n0 (readyF M0 n0) ∧ MapV Try.prog 3 wx wm.heap.size (2 * j) F cnt ∧ TrueF F ∧ (∀ q, q < j → F (.int .i64 (M1 q 0)) = some (.bool true) ∧ F (.int .i64 (M1 q 1)) = some (.bool true)) ∧ Below w.heap.size w wx) (fun i _ => n1 - (intOf i).toNat)
      case atStart => exact ⟨0, _, 0, by omega, rfl, hO.below ((Below.refl _ _).alloc (Nat.le_refl _) _), mapV_made wm _ _, fun _ => .inl rfl, fun q hq => absurd hq (Nat.not_lt_zero q), hB.alloc hB.size _⟩
      case round =>
        obtain ⟨j, F, cnt, hj, rfl, hOj, hMP, hTF, hin, hBj⟩ := hrel
        by_cases hjt : j < n1
        · obtain ⟨tb, to, rfl, htb, htc⟩ := HR1.out (by omega)
          have htw : tb < wr.heap.size := Nat.lt_of_lt_of_le htb hBj.size
          have hmc := more_cell
          have hz : wm.heap.size < wr.heap.size := hMP.lt
          have hsz := hB.size
          have q0 : wr.cell? ⟨tb, to + j * 6, none⟩ = some (.int .i64 (M1 j 0)) := (hBj.cell (p := ⟨tb, to + j * 6, none⟩) htb).trans (htc j hjt 0 (by decide))
          have q1 : wr.cell? ⟨tb, to + j * 6 + 1, none⟩ = some (.int .i64 (M1 j 1)) := (hBj.cell (p := ⟨tb, to + j * 6 + 1, none⟩) htb).trans (htc j hjt 1 (by decide))
          have k0 := Lib.hid (keyOf_int_mk Try.underlying3 (intKey_wf (HM1.out j 0).1 (HM1.out j 0).2))
          have k1 := Lib.hid (keyOf_int_mk Try.underlying3 (intKey_wf (HM1.out j 1).1 (HM1.out j 1).2))
          obtain ⟨ta, hta⟩ : ∃ ta, ta = M1 j 0 := ⟨_, rfl⟩
          obtain ⟨tc, htc'⟩ : ∃ tc, tc = M1 j 1 := ⟨_, rfl⟩
          rw [← hta] at q0 k0
          rw [← htc'] at q1 k1
          have HIN : Hid (∀ F' : Lit → Option Value, (∀ l, F l = some (.bool true) → F' l = some (.bool true)) → F' (.int .i64 ta) = some (.bool true) → F' (.int .i64 tc) = some (.bool true) → ∀ q, q < j + 1 → F' (.int .i64 (M1 q 0)) = some (.bool true) ∧ F' (.int .i64 (M1 q 1)) = some (.bool true)) := Lib.hid (fun F' h1 h2 h3 q hq => by
            by_cases e : q < j
            · exact ⟨h1 _ (hin q e).1, h1 _ (hin q e).2⟩
            · have e' : q = j := by omega
              subst e'
              rw [← hta, ← htc']
              exact ⟨h2, h3⟩)
          clear hta htc' hin htc hO
          have HTF := Lib.hid hTF
          clear hTF
          have HNM : Hid (2 * j < maxLen ∧ 2 * j + 1 < maxLen) := Lib.hid (by unfold maxLen; omega)
          go_wp2_with fail
          refine region_late [6] 12 ?lz16 ?hlz16 (by kernel_rfl) (by kernel_rfl) ?_
          case hlz16 => simp [lateE]; rfl
          refine any_quiet_but 12 (by kernel_rfl) ?_
          simp only [List.take_succ_cons, List.take_zero, List.drop_succ_cons, List.drop_zero]
          repeat (go_big_quiet_step (fail))
          refine wpQuiet_nil ?_
          rintro w4 hw4
          have hb4 := after_below hw4
          clear hw4
          have HM4 := Lib.hid (hMP.below hb4)
          have hO4 := hOj.below hb4
          have hB4 : Below w.heap.size w w4 := hBj.trans (hb4.mono hBj.size)
          clear hMP hOj hBj q0 q1 hz htw hmc
          refine at_entry1 rfl _ _ rfl (int_keyed Try.underlying3) Try.underlying100 zero_bool9 rfl HM4.out HNM.out.1 _ (.int .i64 ta) rfl k0.out trivial ?_
          intro v0 s0 w5 hS
          obtain ⟨w6, hr6, ⟨_, hM6⟩, hm6⟩ := hS (.bool true)
          clear hS
          have HM6 := Lib.hid hM6
          clear hM6
          have hr6' : (Instr.entryStore 100 (.map (some wm.heap.size)) (.int .i64 s0) (.bool true)).run Try.prog w5 = .ok () w6 := hr6
          clear hr6
          go_wp2_with (first | (refine at_entry1 rfl _ _ rfl (int_keyed Try.underlying3) Try.underlying100 zero_bool9 rfl HM6.out HNM.out.2 _ (.int .i64 tc) rfl k1.out trivial ?_))
          intro v1 s1 w7 hS
          obtain ⟨w8, hr8, ⟨_, hM8⟩, hm8⟩ := hS (.bool true)
          clear hS
          have HM8 := Lib.hid hM8
          clear hM8
          have hr8' : (Instr.entryStore 100 (.map (some wm.heap.size)) (.int .i64 s1) (.bool true)).run Try.prog w7 = .ok () w8 := hr8
          clear hr8 hr6'
          go_wp2
          refine ⟨rfl, ?_⟩
          go_wp2
          go_roundw
          case rel => exact ⟨j + 1, _, _, by omega, by go_num, (hO4.mod_map HM4.out hm6).mod_map HM6.out hm8, HM8.out, trueF_put (trueF_put HTF.out _) _, HIN.out _ (fun l h => putF_keep (putF_keep h)) (putF_keep putF_new) putF_new, hB4.trans ((hm6.trans hm8).toBelow hB4.size (fun b hb e => by omega))⟩
          case measure => simp [intOf]; omega
        · have hje : n1 = j := by omega
          subst hje
          clear hO
          obtain ⟨wv, rfl⟩ : ∃ wv : World, wv = wr := ⟨_, rfl⟩
          have HP := Lib.hid hMP
          have HTF := Lib.hid hTF
          have HIN := Lib.hid hin
          clear hMP hTF hin hB
          go_wp2_with fail
          refine (law_c a b c _).mono ?_
          rintro e w4 ⟨rfl, hb4⟩
          have hB4 := hBj.trans (hb4.mono hBj.size)
          have hO4 := hOj.below hb4
          have HP4 := Lib.hid (HP.out.below hb4)
          clear hBj hOj HP hb4
          go_wp2_with fail
          refine (speeds_c (readyF M0 n0) M1 A A1 n0 cap n1 c1 _ _ _ _ hO4.reads hZ (by omega) (HR1.out.below hB4) (by omega)).mono ?_
          rintro e w5 ⟨X, kx, rfl, hX5, hb5⟩
          have hB5 := hB4.trans (hb5.mono hB4.size)
          have hO5 := hO4.below hb5
          have HP5 := Lib.hid (HP4.out.below hb5)
          clear hB4 hO4 HP4 hb5
          go_wp2_with fail
          refine (places_c (readyF M0 n0) M1 A A1 n0 cap n1 c1 _ hO5.reads hZ (by omega) (HR1.out.below hB5) (by omega)).mono ?_
          rintro e w6 ⟨Y, ky, rfl, hY6, hb6⟩
          have hB6 := hB5.trans (hb6.mono hB5.size)
          have hO6 := hO5.below hb6
          have hX6 := hX5.below hb6
          have HP6 := Lib.hid (HP5.out.below hb6)
          clear hB5 hO5 hX5 HP5 hb6 hZ
          obtain ⟨L, hL⟩ : ∃ L, L = readyF M0 n0 := ⟨_, rfl⟩
          have hbd : ∀ k, k < n0 → Bd L k 9 6553600 ∧ Bd L k 6 65536000 ∧ L k 0 = (k : Int) + 1 := fun k hk => by rw [hL]; exact readyF_bd M0 hk
          rw [← hL] at hO6 hX6 hY6
          clear hL
          obtain ⟨SX, hSX⟩ : ∃ SX, SX = speedsF L M1 n0 n1 (pickP a 65537) (pickP b 65537) (1 + pickP c 6) := ⟨_, rfl⟩
          obtain ⟨SY, hSY⟩ : ∃ SY, SY = placesF L M1 n0 n1 := ⟨_, rfl⟩
          have HXR : Hid (∀ k, k < n0 → Still L M1 n1 k → ∀ c, SX k c = L k c) := Lib.hid (fun k hk hs c => by rw [hSX]; exact speedsF_row (hbd k hk).1 hs c)
          have HYR : Hid (∀ k, k < n0 → Still L M1 n1 k → ∀ c, SY k c = L k c) := Lib.hid (fun k hk hs c => by rw [hSY]; exact placesF_row (hbd k hk).2.1 hs n1 (Nat.le_refl _) c)
          have HXC : Hid (∀ k c, c < 9 ∨ 11 < c → SX k c = L k c) := Lib.hid (fun k c h => by rw [hSX]; exact speedsF_col k h)
          have HYC : Hid (∀ k c, c < 6 ∨ 8 < c → SY k c = L k c) := Lib.hid (fun k c h => by rw [hSY]; exact placesF_col k h n1)
          have HID : Hid (∀ k, k < n0 → L k 0 = (k : Int) + 1) := Lib.hid (fun k hk => (hbd k hk).2.2)
          rw [← hSX] at hX6
          rw [← hSY] at hY6
          clear hSX hSY hbd
          go_wp2
          go_loopw [17] (fun i wz => ∃ k : Nat, k ≤ n0 ∧ i = .int .i64 k ∧ Below w6.heap.size w6 wz) (fun i _ => n0 - (intOf i).toNat)
          case atStart => exact ⟨0, by omega, rfl, Below.refl _ _⟩
          case round =>
            obtain ⟨k, hk, rfl, hz6⟩ := hrel
            by_cases hkt : k < n0
            · obtain ⟨bl, rfl, _, hTl⟩ := (hO6.below hz6) (by omega)
              obtain ⟨bx, rfl, _, hTx⟩ := (hX6.below hz6) (by omega)
              obtain ⟨bY, rfl, _, hTy⟩ := (hY6.below hz6) (by omega)
              have HPz := Lib.hid (HP6.out.below hz6)
              have HBz := Lib.hid (hB6.trans (hz6.mono hB6.size))
              clear hO6 hX6 hY6
              have zl := hTl.lt
              have zx := hTx.lt
              have zy := hTy.lt
              have hmc := more_cell
              obtain ⟨mm, hmm⟩ : ∃ mm, mm = L k 15 := ⟨_, rfl⟩
              have qm : wr.cell? ⟨bl, k * 17 + 15, none⟩ = some (.int .i64 mm) := by rw [hmm]; exact hTl.cell hkt (j := 15) (by decide)
              have qi : wr.cell? ⟨bl, k * 17, none⟩ = some (.int .i64 ((k : Int) + 1)) := by rw [← HID.out k hkt]; exact hTl.cell hkt (j := 0) (by decide)
              have HMM := Lib.hid hmm
              clear hmm
              by_cases hm : mm ≤ 0
              · have HS : Hid (Still L M1 n1 k) := Lib.hid (.inl (by rw [← HMM.out]; exact hm))
                go_wp2_with fail
                refine region_quiet_all (by kernel_rfl) (by kernel_rfl) ?_
                repeat (go_big_quiet_step (fail))
                go_big_quiet_want
                refine quiet_body_row hTx hkt (HXR.out k hkt HS.out) (.tmp 133) rfl rfl ?_
                simp only [Act.put, List.setIfInBounds_toArray, List.set_cons_zero, List.set_cons_succ]
                go_big_quiet_on
                repeat (go_big_quiet_step (fail))
                go_big_quiet_want
                refine quiet_body hTl hkt (.tmp 137) rfl rfl ?_
                simp only [Act.put, List.setIfInBounds_toArray, List.set_cons_zero, List.set_cons_succ]
                go_big_quiet_on
                repeat (go_big_quiet_step (fail))
                go_big_quiet_want
                refine quiet_body_row hTy hkt (HYR.out k hkt HS.out) (.tmp 143) rfl rfl ?_
                simp only [Act.put, List.setIfInBounds_toArray, List.set_cons_zero, List.set_cons_succ]
                go_big_quiet_on
                repeat (go_big_quiet_step (fail))
                go_big_quiet_want
                refine quiet_body hTl hkt (.tmp 147) rfl rfl ?_
                simp only [Act.put, List.setIfInBounds_toArray, List.set_cons_zero, List.set_cons_succ]
                go_big_quiet_on
                repeat (go_big_quiet_step (fail))
                refine wpQuiet_nil ?_
                rintro wq hwq
                have hbq := after_below hwq
                clear hwq
                have hTl9 := hTl.below hbq
                have hTx9 := hTx.below hbq
                have hTy9 := hTy.below hbq
                have hz9 : Below w6.heap.size w6 wq := hz6.trans (hbq.mono hz6.size)
                clear hbq hTl hTx hTy zl zx zy qm qi
                have zl := hTl9.lt
                have zx := hTx9.lt
                have zy := hTy9.lt
                have l6 : wq.cell? ⟨bl, k * 17 + 6, none⟩ = some (.int .i64 (L k 6)) := hTl9.cell hkt (j := 6) (by decide)
                have l7 : wq.cell? ⟨bl, k * 17 + 6 + 1, none⟩ = some (.int .i64 (L k 7)) := hTl9.cell hkt (j := 7) (by decide)
                have l8 : wq.cell? ⟨bl, k * 17 + 6 + 2, none⟩ = some (.int .i64 (L k 8)) := hTl9.cell hkt (j := 8) (by decide)
                have l9 : wq.cell? ⟨bl, k * 17 + 9, none⟩ = some (.int .i64 (L k 9)) := hTl9.cell hkt (j := 9) (by decide)
                have l10 : wq.cell? ⟨bl, k * 17 + 9 + 1, none⟩ = some (.int .i64 (L k 10)) := hTl9.cell hkt (j := 10) (by decide)
                have l11 : wq.cell? ⟨bl, k * 17 + 9 + 2, none⟩ = some (.int .i64 (L k 11)) := hTl9.cell hkt (j := 11) (by decide)
                have x6 : wq.cell? ⟨bx, k * 17 + 6, none⟩ = some (.int .i64 (L k 6)) := by rw [← HXC.out k 6 (by decide)]; exact hTx9.cell hkt (j := 6) (by decide)
                have x7 : wq.cell? ⟨bx, k * 17 + 6 + 1, none⟩ = some (.int .i64 (L k 7)) := by rw [← HXC.out k 7 (by decide)]; exact hTx9.cell hkt (j := 7) (by decide)
                have x8 : wq.cell? ⟨bx, k * 17 + 6 + 2, none⟩ = some (.int .i64 (L k 8)) := by rw [← HXC.out k 8 (by decide)]; exact hTx9.cell hkt (j := 8) (by decide)
                have y9 : wq.cell? ⟨bY, k * 17 + 9, none⟩ = some (.int .i64 (L k 9)) := by rw [← HYC.out k 9 (by decide)]; exact hTy9.cell hkt (j := 9) (by decide)
                have y10 : wq.cell? ⟨bY, k * 17 + 9 + 1, none⟩ = some (.int .i64 (L k 10)) := by rw [← HYC.out k 10 (by decide)]; exact hTy9.cell hkt (j := 10) (by decide)
                have y11 : wq.cell? ⟨bY, k * 17 + 9 + 2, none⟩ = some (.int .i64 (L k 11)) := by rw [← HYC.out k 11 (by decide)]; exact hTy9.cell hkt (j := 11) (by decide)
                go_wp2_with fail
                refine region_quiet_all (by kernel_rfl) (by kernel_rfl) ?_
                repeat (go_big_quiet_step (fail))
                refine wpQuiet_nil ?_
                rintro wp hwp
                have hbp := after_below hwp
                clear hwp
                go_wp2
                go_roundw
                case rel => exact ⟨k + 1, by omega, by go_num, hz9.trans (hbp.mono hz9.size)⟩
                case measure => simp [intOf]; omega
              · have hmb : decide (mm ≤ 0) = false := decide_eq_false hm
                rcases (HTF.out (.int .i64 ((k : Int) + 1))) with hF | hF
                · have HS : Hid (Still L M1 n1 k) := Lib.hid (.inr (fun q hq => ⟨fun e => (by have := (HIN.out q hq).1; rw [e, HID.out k hkt, hF] at this; cases this), fun e => (by have := (HIN.out q hq).2; rw [e, HID.out k hkt, hF] at this; cases this)⟩))
                  go_wp2_with fail
                  refine region_quiet_all (by kernel_rfl) (by kernel_rfl) ?_
                  repeat (go_big_quiet_step (fail))
                  go_big_quiet_want
                  refine quiet_lookup1 (.tmp 121) (.tmp 126) rfl (int_keyed Try.underlying3) Try.underlying100 zero_bool9 rfl (by rintro _ ⟨m, rfl⟩; exact HPz.out.below (more_below _ _)) _ (.int .i64 ((k : Int) + 1)) rfl (keyOf_int_mk Try.underlying3 (intKey_wf (by omega) (by omega))) trivial ?_
                  rw [hF]
                  simp only [Option.getD_none]
                  simp only [Act.put, List.setIfInBounds_toArray, List.set_cons_zero, List.set_cons_succ]
                  go_big_quiet_on
                  repeat (go_big_quiet_step (fail))
                  go_big_quiet_want
                  refine quiet_body_row hTx hkt (HXR.out k hkt HS.out) (.tmp 133) rfl rfl ?_
                  simp only [Act.put, List.setIfInBounds_toArray, List.set_cons_zero, List.set_cons_succ]
                  go_big_quiet_on
                  repeat (go_big_quiet_step (fail))
                  go_big_quiet_want
                  refine quiet_body hTl hkt (.tmp 137) rfl rfl ?_
                  simp only [Act.put, List.setIfInBounds_toArray, List.set_cons_zero, List.set_cons_succ]
                  go_big_quiet_on
                  repeat (go_big_quiet_step (fail))
                  go_big_quiet_want
                  refine quiet_body_row hTy hkt (HYR.out k hkt HS.out) (.tmp 143) rfl rfl ?_
                  simp only [Act.put, List.setIfInBounds_toArray, List.set_cons_zero, List.set_cons_succ]
                  go_big_quiet_on
                  repeat (go_big_quiet_step (fail))
                  go_big_quiet_want
                  refine quiet_body hTl hkt (.tmp 147) rfl rfl ?_
                  simp only [Act.put, List.setIfInBounds_toArray, List.set_cons_zero, List.set_cons_succ]
                  go_big_quiet_on
                  repeat (go_big_quiet_step (fail))
                  refine wpQuiet_nil ?_
                  rintro wq hwq
                  have hbq := after_below hwq
                  clear hwq
                  have hTl9 := hTl.below hbq
                  have hTx9 := hTx.below hbq
                  have hTy9 := hTy.below hbq
                  have hz9 : Below w6.heap.size w6 wq := hz6.trans (hbq.mono hz6.size)
                  clear hbq hTl hTx hTy zl zx zy qm qi
                  have zl := hTl9.lt
                  have zx := hTx9.lt
                  have zy := hTy9.lt
                  have l6 : wq.cell? ⟨bl, k * 17 + 6, none⟩ = some (.int .i64 (L k 6)) := hTl9.cell hkt (j := 6) (by decide)
                  have l7 : wq.cell? ⟨bl, k * 17 + 6 + 1, none⟩ = some (.int .i64 (L k 7)) := hTl9.cell hkt (j := 7) (by decide)
                  have l8 : wq.cell? ⟨bl, k * 17 + 6 + 2, none⟩ = some (.int .i64 (L k 8)) := hTl9.cell hkt (j := 8) (by decide)
                  have l9 : wq.cell? ⟨bl, k * 17 + 9, none⟩ = some (.int .i64 (L k 9)) := hTl9.cell hkt (j := 9) (by decide)
                  have l10 : wq.cell? ⟨bl, k * 17 + 9 + 1, none⟩ = some (.int .i64 (L k 10)) := hTl9.cell hkt (j := 10) (by decide)
                  have l11 : wq.cell? ⟨bl, k * 17 + 9 + 2, none⟩ = some (.int .i64 (L k 11)) := hTl9.cell hkt (j := 11) (by decide)
                  have x6 : wq.cell? ⟨bx, k * 17 + 6, none⟩ = some (.int .i64 (L k 6)) := by rw [← HXC.out k 6 (by decide)]; exact hTx9.cell hkt (j := 6) (by decide)
                  have x7 : wq.cell? ⟨bx, k * 17 + 6 + 1, none⟩ = some (.int .i64 (L k 7)) := by rw [← HXC.out k 7 (by decide)]; exact hTx9.cell hkt (j := 7) (by decide)
                  have x8 : wq.cell? ⟨bx, k * 17 + 6 + 2, none⟩ = some (.int .i64 (L k 8)) := by rw [← HXC.out k 8 (by decide)]; exact hTx9.cell hkt (j := 8) (by decide)
                  have y9 : wq.cell? ⟨bY, k * 17 + 9, none⟩ = some (.int .i64 (L k 9)) := by rw [← HYC.out k 9 (by decide)]; exact hTy9.cell hkt (j := 9) (by decide)
                  have y10 : wq.cell? ⟨bY, k * 17 + 9 + 1, none⟩ = some (.int .i64 (L k 10)) := by rw [← HYC.out k 10 (by decide)]; exact hTy9.cell hkt (j := 10) (by decide)
                  have y11 : wq.cell? ⟨bY, k * 17 + 9 + 2, none⟩ = some (.int .i64 (L k 11)) := by rw [← HYC.out k 11 (by decide)]; exact hTy9.cell hkt (j := 11) (by decide)
                  go_wp2_with fail
                  refine region_quiet_all (by kernel_rfl) (by kernel_rfl) ?_
                  repeat (go_big_quiet_step (fail))
                  refine wpQuiet_nil ?_
                  rintro wp hwp
                  have hbp := after_below hwp
                  clear hwp
                  go_wp2
                  go_roundw
                  case rel => exact ⟨k + 1, by omega, by go_num, hz9.trans (hbp.mono hz9.size)⟩
                  case measure => simp [intOf]; omega
                · skip
                  go_wp2_with fail
                  refine region_quiet_all (by kernel_rfl) (by kernel_rfl) ?_
                  repeat (go_big_quiet_step (fail))
                  go_big_quiet_want
                  refine quiet_lookup1 (.tmp 121) (.tmp 126) rfl (int_keyed Try.underlying3) Try.underlying100 zero_bool9 rfl (by rintro _ ⟨m, rfl⟩; exact HPz.out.below (more_below _ _)) _ (.int .i64 ((k : Int) + 1)) rfl (keyOf_int_mk Try.underlying3 (intKey_wf (by omega) (by omega))) trivial ?_
                  rw [hF]
                  simp only [Option.getD_some]
                  simp only [Act.put, List.setIfInBounds_toArray, List.set_cons_zero, List.set_cons_succ]
                  go_big_quiet_on
                  repeat (go_big_quiet_step (fail))
                  refine wpQuiet_nil ?_
                  rintro wq hwq
                  have hbq := after_below hwq
                  clear hwq
                  have hTl9 := hTl.below hbq
                  have hTx9 := hTx.below hbq
                  have hTy9 := hTy.below hbq
                  have hz9 : Below w6.heap.size w6 wq := hz6.trans (hbq.mono hz6.size)
                  clear hbq hTl hTx hTy zl zx zy qm qi
                  have zl := hTl9.lt
                  have zx := hTx9.lt
                  have zy := hTy9.lt
                  have l6 : wq.cell? ⟨bl, k * 17 + 6, none⟩ = some (.int .i64 (L k 6)) := hTl9.cell hkt (j := 6) (by decide)
                  have l7 : wq.cell? ⟨bl, k * 17 + 6 + 1, none⟩ = some (.int .i64 (L k 7)) := hTl9.cell hkt (j := 7) (by decide)
                  have l8 : wq.cell? ⟨bl, k * 17 + 6 + 2, none⟩ = some (.int .i64 (L k 8)) := hTl9.cell hkt (j := 8) (by decide)
                  have l9 : wq.cell? ⟨bl, k * 17 + 9, none⟩ = some (.int .i64 (L k 9)) := hTl9.cell hkt (j := 9) (by decide)
                  have l10 : wq.cell? ⟨bl, k * 17 + 9 + 1, none⟩ = some (.int .i64 (L k 10)) := hTl9.cell hkt (j := 10) (by decide)
                  have l11 : wq.cell? ⟨bl, k * 17 + 9 + 2, none⟩ = some (.int .i64 (L k 11)) := hTl9.cell hkt (j := 11) (by decide)
                  have x6 : wq.cell? ⟨bx, k * 17 + 6, none⟩ = some (.int .i64 (L k 6)) := by rw [← HXC.out k 6 (by decide)]; exact hTx9.cell hkt (j := 6) (by decide)
                  have x7 : wq.cell? ⟨bx, k * 17 + 6 + 1, none⟩ = some (.int .i64 (L k 7)) := by rw [← HXC.out k 7 (by decide)]; exact hTx9.cell hkt (j := 7) (by decide)
                  have x8 : wq.cell? ⟨bx, k * 17 + 6 + 2, none⟩ = some (.int .i64 (L k 8)) := by rw [← HXC.out k 8 (by decide)]; exact hTx9.cell hkt (j := 8) (by decide)
                  have y9 : wq.cell? ⟨bY, k * 17 + 9, none⟩ = some (.int .i64 (L k 9)) := by rw [← HYC.out k 9 (by decide)]; exact hTy9.cell hkt (j := 9) (by decide)
                  have y10 : wq.cell? ⟨bY, k * 17 + 9 + 1, none⟩ = some (.int .i64 (L k 10)) := by rw [← HYC.out k 10 (by decide)]; exact hTy9.cell hkt (j := 10) (by decide)
                  have y11 : wq.cell? ⟨bY, k * 17 + 9 + 2, none⟩ = some (.int .i64 (L k 11)) := by rw [← HYC.out k 11 (by decide)]; exact hTy9.cell hkt (j := 11) (by decide)
                  go_wp2_with fail
                  refine region_quiet_all (by kernel_rfl) (by kernel_rfl) ?_
                  repeat (go_big_quiet_step (fail))
                  refine wpQuiet_nil ?_
                  rintro wp hwp
                  have hbp := after_below hwp
                  clear hwp
                  go_wp2
                  go_roundw
                  case rel => exact ⟨k + 1, by omega, by go_num, hz9.trans (hbp.mono hz9.size)⟩
                  case measure => simp [intOf]; omega
            · have hke : n0 = k := by omega
              subst hke
              clear hO6 hX6 hY6
              go_wp2
              go_ret
              exact ⟨rfl, hB6.trans (hz6.mono hB6.size)⟩

set_option maxRecDepth 100000 in
theorem solveStill_lifted (os : Os) (started : os.Started) (H : Type) (enc : TypeId × Value → H) :
    ReturnsInHanded {} Try.checked os 14 .any (Rows.solveStillSpec.pre6 enc Try.prog Try.f14 Rows.solveStillRow.domain false) (Rows.solveStillSpec.post enc Try.prog Try.f14 false true false false) := by
  refine returnsInHanded_of_change (C := Try.checked) own started (by kernel_rfl) Try.func14
    (ChangeSpec.witness6 (enc := enc) (C := Try.checked) false ⟨#[], #[.slice none 0 0, .slice none 0 0, .int .i64 0, .int .i64 0, .int .i64 0], []⟩ 8 (by kernel_rfl) (by kernel_rfl) (by kernel_rfl) (by kernel_rfl)) ?_
  intro W base args ds gs before hval0 hW hcnd _
  have hval : ∀ (j : Nat) t v, Try.f14.params[j]? = some t → args[j]? = some v → Value.okWide Try.prog W .any base t v := hval0
  obtain ⟨p, q, hA0, _⟩ := id hW
  have hsz := (trodAll_length _ _ _ _ hA0).1
  obtain ⟨v0, v1, v2, v3, v4, rfl⟩ : ∃ v0 v1 v2 v3 v4, args = #[v0, v1, v2, v3, v4] := by
    rcases args with ⟨_ | ⟨v0, _ | ⟨v1, _ | ⟨v2, _ | ⟨v3, _ | ⟨v4, _ | ⟨v5, l⟩⟩⟩⟩⟩⟩⟩ <;> first | exact ⟨v0, v1, v2, v3, v4, rfl⟩ | (simp [Try.params14] at hsz)
  obtain ⟨d0, p0, t0⟩ := trodAll_at _ _ _ _ hA0 0 85 v0 (by rw [Try.params14]; rfl) rfl
  obtain ⟨A0, n0, c0, M0, rfl, hn0, hR0, hM0⟩ := open_rows 8 17 Try.underlying85 (by kernel_rfl) (by kernel_rfl) (by decide) (slice_of_okv Try.underlying85 (hval 0 85 v0 (by rw [Try.params14]; rfl) rfl)) t0
  have hZ0 := slice_nil0 Try.underlying85 t0
  obtain ⟨d1, p1, t1⟩ := trodAll_at _ _ _ _ hA0 1 86 v1 (by rw [Try.params14]; rfl) rfl
  obtain ⟨A1, n1, c1, M1, rfl, hn1, hR1, hM1⟩ := open_rows 8 6 Try.underlying86 (by kernel_rfl) (by kernel_rfl) (by decide) (slice_of_okv Try.underlying86 (hval 1 86 v1 (by rw [Try.params14]; rfl) rfl)) t1
  have hZ1 := slice_nil0 Try.underlying86 t1
  obtain ⟨a2, rfl, b2⟩ := int_of_okv Try.underlying3 (hval 2 3 v2 (by rw [Try.params14]; rfl) rfl)
  obtain ⟨a3, rfl, b3⟩ := int_of_okv Try.underlying3 (hval 3 3 v3 (by rw [Try.params14]; rfl) rfl)
  obtain ⟨a4, rfl, b4⟩ := int_of_okv Try.underlying3 (hval 4 3 v4 (by rw [Try.params14]; rfl) rfl)
  refine (solveStill_w A0 n0 c0 M0 A1 n1 c1 M1 a2 a3 a4 W hn0 hR0 hM0 hZ0 hn1 hR1 hM1 hZ1).mono fun e W' ⟨he, hb⟩ => ⟨_, he, ?_⟩
  exact law_post laid (by kernel_rfl) (by kernel_rfl) Try.underlying4 rfl (fun ds h => by match ds, h with | [d0, d1, d2, d3, d4], _ => rfl) hW hb

theorem solveStill_over : Rows.solveStillRow.holds Try.pinned (OpenSpec.ofChange Rows.solveStillSpec) :=
  OpenClaim.holds_of_wide 14 Try.f14 rfl rfl rfl rfl rfl rfl rfl ⟨rfl, rfl, rfl, rfl, rfl⟩ rfl rfl rfl rfl rfl (by kernel_rfl) Try.func14 (by kernel_rfl)
    (of_decide_eq_true (by kernel_rfl)) (by unfold Func.isWrapper; first | (rw [if_pos (by decide +kernel)]; kernel_rfl) | (rw [if_neg (by decide +kernel)]; exact ⟨rfl, rfl⟩))
    (fun os started H enc _ => solveStill_lifted os started H enc)

theorem solveStill_holds : Rows.SolveStillSaid := solveStill_over
#print axioms solveStill_holds
end Go.Proofs.Ytfagkbmphohelaa
