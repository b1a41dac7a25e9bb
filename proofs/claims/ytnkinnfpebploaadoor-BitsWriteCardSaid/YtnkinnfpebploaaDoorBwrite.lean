/- The walk of gyrelaw.BitsWrite. Conditions: what the variable errors.errorType holds. -/
import Derived.Test.YtnkinnfpebploaaDoorBoth
import Derived.Test.YtnkinnfpebploaaDoorAs2
import Derived.Test.YtnkinnfpebploaaDoorOpen
import Derived.Tactics
import Derived.Tactics2
import Derived.Outline
import Derived.Deep.CutBlock
import Derived.Deep.DeepCutAuto
namespace Go.Proofs.YtnkinnfpebploaaDoor
open Go.ChangeShapes Go.WideShapes Go.ChangeAt Go.RowKit Go.BigFrame
open B
theorem Wr.drewX {w : World} {base p : Nat} {v : Value} {L : List Nat} (h : Wr w base p v L) : Wr w.drew base p v L := wr_of_below h (Below.refl _ _).drew
/-- what a write came to: the error, whether it may not be, and the document's bits of it -/
def Mid (B P Q x1 : Nat) (rv : Value) (L : List Nat) (t10 t11 : Value) (w : World) : Prop :=
  (t10 = .iface 25 (.int .i64 2) ∧ t11 = .bool true ∧ ∃ v, St2 B P Q w v rv L L) ∨
  ∃ (b : List Nat) (mv v : Value), t11 = .bool false ∧ Bin b ∧ b.length ≤ 200 ∧ Rb w B x1 mv b ∧ (∀ c, mv.ownBlock = some c → c ≠ Q ∧ rv.ownBlock ≠ some c) ∧
    ((t10 = .iface 25 (.int .i64 4) ∧ 32000 < L.length + b.length ∧ St2 B P Q w v rv L L) ∨ (t10 = .nilIface ∧ L.length + b.length ≤ 32000 ∧ St2 B P Q w v rv (L ++ b) L))
theorem pow_val (wd : Nat) (h : wd ≤ 62) : wrap64 ((2 : Int) ^ wd) = 2 ^ wd := by
  have e2 : (2 : Int) ^ wd = ((2 ^ wd : Nat) : Int) := by simp
  have := Nat.pow_le_pow_right (show 0 < 2 by omega) h
  rw [e2]
  generalize 2 ^ wd = z at *
  exact IntWalk.wrap64_in _ (by omega)
def Aft (B P Q : Nat) (t10 t12 : Value) (w : World) : Prop := ∃ (e : Int) (v rv : Value) (X : List Nat), (e = 0 ∨ e = 2 ∨ e = 4) ∧ t10 = (if e = 0 then .nilIface else .iface 25 (.int .i64 e)) ∧ t12 = .int .i64 e ∧ St2 B P Q w v rv X X

set_option maxRecDepth 100000 in
set_option maxHeartbeats 8000000 in
theorem bitsWrite_w (A : Option Addr) (n cap : Nat) (M : Nat → Nat → Int) (full : Bool) (w : World) (hH : Handle w) (hn : n ≤ maxLen) (hA : Reads w A n 3 M) (_hM : ∀ i j, -9223372036854775808 ≤ M i j ∧ M i j ≤ 9223372036854775807) : Calls Tryd.prog 6 #[.slice A n cap, .bool full] w fun e w' => e = .returned (.bool true) ∧ Below w.heap.size w w' := by
  by_cases h100 : n > 80
  · unfold maxLen at hn
    go_enter Tryd.func6, Tryd.ntmps6
    go_wp2
    go_ret
    exact ⟨rfl, Below.refl _ _⟩
  have hn80 : n ≤ 80 := by omega
  clear h100 hn
  go_enter Tryd.func6, Tryd.ntmps6
  go_upto_if 16 with fail
  go_cut [] (fun wx => (∃ v rA rN rC X, rN = X.length ∧ St2 w.heap.size w.heap.size (w.heap.size + 1) wx v (.slice rA rN rC) X X) ∧ Below w.heap.size w wx)
  case first =>
    have hB1 : Below w.heap.size w ((w.alloc (.cells #[.slice none 0 0, .int .i64 0] 64)).alloc (.cells #[.slice none 0 0] 65)) := (balloc w _).trans ((balloc _ _).mono (by simp))
    have hS1 : St2 w.heap.size w.heap.size (w.heap.size + 1) ((w.alloc (.cells #[.slice none 0 0, .int .i64 0] 64)).alloc (.cells #[.slice none 0 0] 65)) (.slice none 0 0) (.slice none 0 0) [] [] :=
      ⟨wr_new rfl (balloc _ _), rb_new (by simp) (Below.refl _ _), by omega, by simp [Value.ownBlock], by simp [Value.ownBlock], by simp [Value.ownBlock]⟩
    cases full with
    | false =>
      go_wp2
      go_meet
      exact ⟨⟨_, none, 0, 0, [], rfl, hS1⟩, hB1⟩
    | true =>
      go_wp2
      refine wp_fresh ?_
      intro w2 hb2
      have hS2 := hS1.below hb2
      have hB2 := hB1.trans (hb2.mono hB1.size)
      clear hS1 hB1 hb2
      go_loopw [] (fun wr => (∃ v rA rN rC X, rN = X.length ∧ X.length % 50 = 0 ∧ X.length ≤ 31900 ∧ St2 w.heap.size w.heap.size (w.heap.size + 1) wr v (.slice rA rN rC) X X) ∧ Below w.heap.size w wr) (fun wr => match wr.cell? ⟨w.heap.size + 1, 0, none⟩ with | some (.slice _ m _) => 32000 - m | _ => 0)
      case atStart => exact ⟨⟨_, none, 0, 0, [], rfl, rfl, by simp, hS2⟩, hB2⟩
      case round =>
        obtain ⟨⟨v, rA, _, rC, X, rfl, h50, hle, hS⟩, hB⟩ := hrel
        have hBs := hB.size
        obtain ⟨zq, cq, fq⟩ := id hS.rb.blk
        have kq : wr.cell? ⟨w.heap.size + 1, 0, none⟩ = some (.slice rA X.length rC) := cq 0
        clear cq
        obtain ⟨N, hN⟩ : ∃ N, N = X.length := ⟨_, rfl⟩
        rw [← hN] at kq
        have HN := Lib.hid hN
        by_cases hlt : N < 31900
        · rw [← hN] at h50 hle
          have hlt' : (N : Int) < 31900 := by omega
          have H50 := Lib.hid h50
          have HLE := Lib.hid hle
          have HLT := Lib.hid hlt
          clear hN h50 hle hlt
          go_wp2_with fail
          refine (put_i w.heap.size w.heap.size 5 50 5 50 _ _ _ hS.wr hBs rfl rfl (by omega) (by omega) (by have := HN.out; have := HLT.out; omega)).mono ?_
          rintro e w3 ⟨rfl, v3, hW3, hT3⟩
          have hS3 := hS.wput hW3 hT3
          have hB3 := hB.trans (wr_below hS.wr (Nat.le_refl _) hBs hT3)
          have hBs3 := hB3.size
          clear hT3 hS
          go_wp2_with fail
          refine (rput_i w.heap.size (w.heap.size + 1) 5 50 5 50 _ _ _ hS3.rb hBs3 rfl rfl (by omega) (by unfold Lt63; omega) (by have := HN.out; have := HLT.out; omega)).mono ?_
          rintro e w4 ⟨rfl, v4, hR4, hT4⟩
          have hS4 := hS3.rput hR4 hT4
          have hB4 := hB3.trans (rb_below hS3.rb (by omega) hBs3 hT4)
          obtain ⟨rA4, rC4, hrv⟩ := row_form hS4.rb.row
          subst hrv
          have hc4 : w4.cell? ⟨w.heap.size + 1, 0, none⟩ = some (.slice rA4 (X ++ bitsOf 50 5).length rC4) := hS4.rb.blk.cell 0
          have hl4 : (X ++ bitsOf 50 5).length = N + 50 := by rw [List.length_append, bitsOf_length, HN.out]
          go_wp2
          go_roundw
          case rel => exact ⟨⟨_, rA4, _, rC4, X ++ bitsOf 50 5, rfl, by have := H50.out; rw [hl4]; omega, by have := HLT.out; have := H50.out; rw [hl4]; omega, hS4⟩, hB4⟩
          case measure => have := HLT.out; rw [hc4, kq]; simp only [hl4]; omega
        · have hlt' : ¬ (N : Int) < 31900 := by omega
          clear hN h50 hle hlt
          go_wp2
          go_meet
          exact ⟨⟨v, rA, _, rC, X, rfl, hS⟩, hB⟩
  case rest =>
    obtain ⟨hS0, hB0⟩ := hcut
    have hz0 := hB0.size
    go_wp2
    go_loopw [7] (fun i wr => ∃ (k : Nat) (v : Value) (rA : Option Addr) (rN rC : Nat) (X : List Nat), k ≤ n ∧ i = .int .i64 k ∧ rN = X.length ∧ St2 w.heap.size w.heap.size (w.heap.size + 1) wr v (.slice rA rN rC) X X ∧ Below w.heap.size w wr) (fun i _ => n - (intOf i).toNat)
    case atStart =>
      obtain ⟨v, rA, rN, rC, X, h1, h2⟩ := hS0
      exact ⟨0, v, rA, rN, rC, X, by omega, rfl, h1, h2, hB0⟩
    case round =>
      clear hS0 hB0 hz0
      obtain ⟨k, v, rA, _, rC, L, hk, rfl, rfl, hS, hB⟩ := hrel
      have hBs := hB.size
      have hHr := hH.below hB
      by_cases hlt : k < n
      · obtain ⟨ab, ao, rfl, hab, hcell⟩ := (hA.below hB) (by omega)
        have q0 := hcell k hlt 0 (by decide)
        have q1 := hcell k hlt 1 (by decide)
        have q2 := hcell k hlt 2 (by decide)
        simp only [Nat.add_zero] at q0
        rw [← Nat.add_assoc] at q1 q2
        obtain ⟨q, hq⟩ : ∃ q, q = M k 0 := ⟨_, rfl⟩
        obtain ⟨xn, hxn⟩ : ∃ xn, xn = M k 1 := ⟨_, rfl⟩
        obtain ⟨xw, hxw⟩ : ∃ xw, xw = M k 2 := ⟨_, rfl⟩
        rw [← hq] at q0
        rw [← hxn] at q1
        rw [← hxw] at q2
        clear hcell hab hq hxn hxw
        have hX1 := Blk.alloc (Blk.fresh wr #[.int .i64 (q), .int .i64 (xn), .int .i64 (xw)] 68) (.cells #[.slice none 0 0] 65)
        have hR1 := rb_new (base := w.heap.size) (w := wr.alloc (.cells #[.int .i64 (q), .int .i64 (xn), .int .i64 (xw)] 68)) (p := wr.heap.size + 1) (T := 65) (by simp) (Below.refl _ _)
        have hB1 : Below wr.heap.size wr ((wr.alloc (.cells #[.int .i64 (q), .int .i64 (xn), .int .i64 (xw)] 68)).alloc (.cells #[.slice none 0 0] 65)) := (balloc wr _).trans ((balloc _ _).mono (by simp))
        go_upto_block 4 with fail
        refine wp_fresh ?_
        intro w2 hb2
        have hX2 := hX1.below hb2
        have hR2 := rb_of_below hR1 hb2
        have hB2 := hB1.trans (hb2.mono hB1.size)
        have hS2 := hS.below hB2
        have hB2 := hB.trans (hB2.mono hBs)
        have hlt2 := hS.lt
        obtain ⟨x0, hx0⟩ : ∃ x0, x0 = wr.heap.size := ⟨_, rfl⟩
        rw [← hx0] at hX2 hR2 hlt2
        rw [← hx0]
        have hbx : w.heap.size ≤ x0 := by omega
        clear hx0 hX1 hR1 hB1 hb2 hS hB hBs hHr q0 q1 q2
        go_cut [10, 11] (fun t10 t11 wx => Mid w.heap.size w.heap.size (w.heap.size + 1) (x0 + 1) (.slice rA L.length rC) L t10 t11 wx ∧ Below w.heap.size w wx)
        case first =>
          obtain ⟨zx, cx, fx⟩ := id hX2
          have m0 : w2.cell? ⟨x0, 0, none⟩ = some (.int .i64 (q)) := cx 0
          have m1 : w2.cell? ⟨x0, 1, none⟩ = some (.int .i64 (xn)) := cx 1
          have m2 : w2.cell? ⟨x0, 2, none⟩ = some (.int .i64 (xw)) := cx 2
          clear cx
          by_cases h0 : q = 0
          · subst h0
            by_cases hok : 0 ≤ xw ∧ xw ≤ 62 ∧ 0 ≤ xn ∧ xn < 2 ^ xw.toNat
            · obtain ⟨o1, o2, o3, o4⟩ := hok
              obtain ⟨x, hx⟩ : ∃ x : Nat, xn = x := ⟨xn.toNat, by omega⟩
              obtain ⟨wd, hwd⟩ : ∃ wd : Nat, xw = wd := ⟨xw.toNat, by omega⟩
              have hxl : x < 2 ^ wd := by have := toNat_lt_pow o3 o4; rw [hx, hwd] at this; simpa using this
              have hwd62 : wd ≤ 62 := by omega
              have hx63 := lt63_pow hxl hwd62
              subst hx hwd
              have HX := Lib.hid hxl
              have HW := Lib.hid hwd62
              have hge : ¬ (x : Int) ≥ 2 ^ wd := by
                have e : (2 : Int) ^ wd = ((2 ^ wd : Nat) : Int) := by simp
                rw [e]; omega
              have hw62 : (wd : Int) ≤ 62 := by omega
              have d1 : decide ((wd : Int) < 0) = false := by simp
              have d2 : decide ((62 : Int) < wd) = false := by simpa using hw62
              have d3 : decide ((x : Int) < 0) = false := by simp
              have d5 : (if (wd : Int) < 62 then (wd : Int) else 62) = wd := by split <;> omega
              have d6 : (if (0 : Int) < (wd : Int) then (wd : Int) else 0) = wd := by split <;> omega
              have d8 : (if 0 < wd then (wd : Int) else 0) = wd := by split <;> omega
              have d7 : wrap64 ((2 : Int) ^ wd) = 2 ^ wd := pow_val wd HW.out
              have d4 : decide ((2 : Int) ^ wd ≤ (x : Int)) = false := by simpa using hge
              clear o1 o2 o3 o4 hxl hwd62 hge
              by_cases hl : L.length + (bitsOf wd x).length ≤ 32000
              · go_wp2_with fail
                refine (put_i w.heap.size w.heap.size (x : Int) (wd : Int) x wd v L _ hS2.wr hB2.size rfl rfl HW.out HX.out (by rw [bitsOf_length] at hl; exact hl)).mono ?_
                rintro e w3 ⟨rfl, v3, hW3, hT3⟩
                have hR3 : Rb w3 w.heap.size (x0 + 1) (.slice none 0 0) [] := rb_mod hR2 hT3.mod (by rintro (e | e); omega; have := hlt2.2.2.1 _ e; omega) (by simp [Value.ownBlock])
                have hX3 := hX2.mod hT3.mod (by rintro (e | e); omega; have := hlt2.2.2.1 _ e; omega)
                have hS3 := hS2.wput hW3 hT3
                have hB3 := hB2.trans (wr_below hS2.wr (Nat.le_refl _) hB2.size hT3)
                obtain ⟨z3, c3, f3⟩ := id hX3
                have m13 : w3.cell? ⟨x0, 1, none⟩ = some (.int .i64 x) := c3 1
                have m23 : w3.cell? ⟨x0, 2, none⟩ = some (.int .i64 wd) := c3 2
                clear c3
                have hfar : (∀ b, v3.ownBlock = some b → b ≠ x0 + 1) ∧ ∀ b, (Value.slice rA L.length rC).ownBlock = some b → b ≠ x0 + 1 := by
                  refine ⟨fun b hb => ?_, fun b hb => by have := hlt2.2.2.2 b hb; omega⟩
                  rcases hT3.own with e | e
                  · rw [e] at hb; have := hlt2.2.2.1 b hb; omega
                  · have := e b hb; have := hR2.blk.lt; omega
                have HFAR := Lib.hid hfar
                clear hfar
                clear hT3 hW3 m0 m1 m2 zx fx
                have hmc := more_cell
                have hmf := more_frozen
                have hml := more_lt
                go_wp2
                refine region_quiet_all (by kernel_rfl) (by kernel_rfl) ?_
                repeat (go_big_quiet_step (fail))
                refine wpQuiet_nil ?_
                rintro w4 hw4
                have hb4 := after_below hw4
                clear hw4
                have z4 := Nat.lt_of_lt_of_le z3 hb4.size
                have m14 := (hb4.cell (p := ⟨x0, 1, none⟩) z3).trans m13
                have m24 := (hb4.cell (p := ⟨x0, 2, none⟩) z3).trans m23
                have hS4 := hS3.below hb4
                have hR4 := rb_of_below hR3 hb4
                have hB4 := hB3.trans (hb4.mono hB3.size)
                try clear d4
                try clear d3
                try clear d2
                try clear d1
                try clear d5 d6 d7 d8
                go_wp2_with fail
                refine (rput_i w.heap.size (x0 + 1) (x : Int) (wd : Int) x wd (.slice none 0 0) [] _ hR4 hB4.size rfl rfl HW.out hx63 (by have := HW.out; simp; omega)).mono ?_
                rintro e w5 ⟨rfl, mv, hR5, hT5⟩
                have hlt4 := hS4.lt
                have hS5 := hS4.mod hT5.mod (by rintro (e | e); omega; simp [Value.ownBlock] at e) (by rintro (e | e); omega; simp [Value.ownBlock] at e) (by rintro b hb (e | e); have := HFAR.out.1 b hb; omega; simp [Value.ownBlock] at e) (by rintro b hb (e | e); have := HFAR.out.2 b hb; omega; simp [Value.ownBlock] at e)
                have hB5 := hB4.trans (rb_below hR4 (by omega) hB4.size hT5)
                have hMv : ∀ c, mv.ownBlock = some c → c ≠ w.heap.size + 1 ∧ (Value.slice rA L.length rC).ownBlock ≠ some c := by
                  intro c hc
                  rcases hT5.own with e | e
                  · rw [e] at hc; simp [Value.ownBlock] at hc
                  · have := e c hc
                    refine ⟨by omega, fun e2 => ?_⟩
                    have := hlt4.2.2.2 c e2
                    omega
                go_wp2
                go_meet
                exact ⟨.inr ⟨bitsOf wd x, mv, v3, by first | rfl | (congr 1; simp; omega), bitsOf_bin _ _, by rw [bitsOf_length]; have := HW.out; omega, hR5, hMv, .inr ⟨rfl, hl, hS5⟩⟩, hB5⟩
              · have HLL := Lib.hid hl
                go_wp2_with fail
                refine (put_f w.heap.size w.heap.size (x : Int) (wd : Int) x wd v L _ hS2.wr rfl rfl HW.out HX.out (by rw [bitsOf_length] at hl; omega)).mono ?_
                clear hl
                rintro e w3 ⟨rfl, rfl⟩
                have hR3 := hR2
                have hS3 := hS2
                have hB3 := hB2
                have z3 := zx
                have m13 := m1
                have m23 := m2
                have hfar : (∀ b, v.ownBlock = some b → b ≠ x0 + 1) ∧ ∀ b, (Value.slice rA L.length rC).ownBlock = some b → b ≠ x0 + 1 := by
                  refine ⟨fun b hb => ?_, fun b hb => by have := hlt2.2.2.2 b hb; omega⟩
                  have := hlt2.2.2.1 b hb; omega
                have HFAR := Lib.hid hfar
                clear hfar
                clear m0 m1 m2 zx fx
                have hmc := more_cell
                have hmf := more_frozen
                have hml := more_lt
                go_wp2
                refine region_quiet_all (by kernel_rfl) (by kernel_rfl) ?_
                repeat (go_big_quiet_step (fail))
                refine wpQuiet_nil ?_
                rintro w4 hw4
                have hb4 := after_below hw4
                clear hw4
                have z4 := Nat.lt_of_lt_of_le z3 hb4.size
                have m14 := (hb4.cell (p := ⟨x0, 1, none⟩) z3).trans m13
                have m24 := (hb4.cell (p := ⟨x0, 2, none⟩) z3).trans m23
                have hS4 := hS3.below hb4
                have hR4 := rb_of_below hR3 hb4
                have hB4 := hB3.trans (hb4.mono hB3.size)
                try clear d4
                try clear d3
                try clear d2
                try clear d1
                try clear d5 d6 d7 d8
                go_wp2_with fail
                refine (rput_i w.heap.size (x0 + 1) (x : Int) (wd : Int) x wd (.slice none 0 0) [] _ hR4 hB4.size rfl rfl HW.out hx63 (by have := HW.out; simp; omega)).mono ?_
                rintro e w5 ⟨rfl, mv, hR5, hT5⟩
                have hlt4 := hS4.lt
                have hS5 := hS4.mod hT5.mod (by rintro (e | e); omega; simp [Value.ownBlock] at e) (by rintro (e | e); omega; simp [Value.ownBlock] at e) (by rintro b hb (e | e); have := HFAR.out.1 b hb; omega; simp [Value.ownBlock] at e) (by rintro b hb (e | e); have := HFAR.out.2 b hb; omega; simp [Value.ownBlock] at e)
                have hB5 := hB4.trans (rb_below hR4 (by omega) hB4.size hT5)
                have hMv : ∀ c, mv.ownBlock = some c → c ≠ w.heap.size + 1 ∧ (Value.slice rA L.length rC).ownBlock ≠ some c := by
                  intro c hc
                  rcases hT5.own with e | e
                  · rw [e] at hc; simp [Value.ownBlock] at hc
                  · have := e c hc
                    refine ⟨by omega, fun e2 => ?_⟩
                    have := hlt4.2.2.2 c e2
                    omega
                go_wp2
                go_meet
                exact ⟨.inr ⟨bitsOf wd x, mv, v, by first | rfl | (congr 1; simp; omega), bitsOf_bin _ _, by rw [bitsOf_length]; have := HW.out; omega, hR5, hMv, .inl ⟨rfl, by have := HLL.out; skip; omega, hS5⟩⟩, hB5⟩
            · by_cases ha : xw < 0
              · have d1 : decide (xw < 0) = true := by simpa using ha
                go_wp2_with fail
                refine (put_bad1 xn xw _ _ (.inl ha)).mono ?_
                rintro e w3 ⟨rfl, rfl⟩
                have hR3 := hR2
                have hS3 := hS2
                have hB3 := hB2
                have z3 := zx
                have m13 := m1
                have m23 := m2
                clear m0 m1 m2 zx fx
                have hmc := more_cell
                have hmf := more_frozen
                have hml := more_lt
                go_wp2
                refine region_quiet_all (by kernel_rfl) (by kernel_rfl) ?_
                repeat (go_big_quiet_step (fail))
                refine wpQuiet_nil ?_
                rintro w4 hw4
                have hb4 := after_below hw4
                clear hw4
                have z4 := Nat.lt_of_lt_of_le z3 hb4.size
                have m14 := (hb4.cell (p := ⟨x0, 1, none⟩) z3).trans m13
                have m24 := (hb4.cell (p := ⟨x0, 2, none⟩) z3).trans m23
                have hS4 := hS3.below hb4
                have hR4 := rb_of_below hR3 hb4
                have hB4 := hB3.trans (hb4.mono hB3.size)
                try clear d4
                try clear d3
                try clear d2
                try clear d1
                try clear d5 d6 d7 d8
                go_wp2
                go_meet
                exact ⟨.inl ⟨rfl, by first | rfl | (congr 1; simp; omega), v, hS4⟩, hB4⟩
              by_cases hb : 62 < xw
              · have d1 : decide (xw < 0) = false := by simp; omega
                have d2 : decide (62 < xw) = true := by simpa using hb
                go_wp2_with fail
                refine (put_bad1 xn xw _ _ (.inr (.inl hb))).mono ?_
                rintro e w3 ⟨rfl, rfl⟩
                have hR3 := hR2
                have hS3 := hS2
                have hB3 := hB2
                have z3 := zx
                have m13 := m1
                have m23 := m2
                clear m0 m1 m2 zx fx
                have hmc := more_cell
                have hmf := more_frozen
                have hml := more_lt
                go_wp2
                refine region_quiet_all (by kernel_rfl) (by kernel_rfl) ?_
                repeat (go_big_quiet_step (fail))
                refine wpQuiet_nil ?_
                rintro w4 hw4
                have hb4 := after_below hw4
                clear hw4
                have z4 := Nat.lt_of_lt_of_le z3 hb4.size
                have m14 := (hb4.cell (p := ⟨x0, 1, none⟩) z3).trans m13
                have m24 := (hb4.cell (p := ⟨x0, 2, none⟩) z3).trans m23
                have hS4 := hS3.below hb4
                have hR4 := rb_of_below hR3 hb4
                have hB4 := hB3.trans (hb4.mono hB3.size)
                try clear d4
                try clear d3
                try clear d2
                try clear d1
                try clear d5 d6 d7 d8
                go_wp2
                go_meet
                exact ⟨.inl ⟨rfl, by first | rfl | (congr 1; simp; omega), v, hS4⟩, hB4⟩
              by_cases hc : xn < 0
              · have d1 : decide (xw < 0) = false := by simp; omega
                have d2 : decide (62 < xw) = false := by simp; omega
                have d3 : decide (xn < 0) = true := by simpa using hc
                go_wp2_with fail
                refine (put_bad1 xn xw _ _ (.inr (.inr hc))).mono ?_
                rintro e w3 ⟨rfl, rfl⟩
                have hR3 := hR2
                have hS3 := hS2
                have hB3 := hB2
                have z3 := zx
                have m13 := m1
                have m23 := m2
                clear m0 m1 m2 zx fx
                have hmc := more_cell
                have hmf := more_frozen
                have hml := more_lt
                go_wp2
                refine region_quiet_all (by kernel_rfl) (by kernel_rfl) ?_
                repeat (go_big_quiet_step (fail))
                refine wpQuiet_nil ?_
                rintro w4 hw4
                have hb4 := after_below hw4
                clear hw4
                have z4 := Nat.lt_of_lt_of_le z3 hb4.size
                have m14 := (hb4.cell (p := ⟨x0, 1, none⟩) z3).trans m13
                have m24 := (hb4.cell (p := ⟨x0, 2, none⟩) z3).trans m23
                have hS4 := hS3.below hb4
                have hR4 := rb_of_below hR3 hb4
                have hB4 := hB3.trans (hb4.mono hB3.size)
                try clear d4
                try clear d3
                try clear d2
                try clear d1
                try clear d5 d6 d7 d8
                go_wp2
                go_meet
                exact ⟨.inl ⟨rfl, by first | rfl | (congr 1; simp; omega), v, hS4⟩, hB4⟩
              have hd : 2 ^ xw.toNat ≤ xn := by omega
              have d1 : decide (xw < 0) = false := by simp; omega
              have d2 : decide (62 < xw) = false := by simp; omega
              have d3 : decide (xn < 0) = false := by simp; omega
              obtain ⟨wd, rfl⟩ := Int.eq_ofNat_of_zero_le (show 0 ≤ xw by omega)
              have d5 : (if (wd : Int) < 62 then (wd : Int) else 62) = wd := by split <;> omega
              have d6 : (if (0 : Int) < (wd : Int) then (wd : Int) else 0) = wd := by split <;> omega
              have d8 : (if 0 < wd then (wd : Int) else 0) = wd := by split <;> omega
              have d7 : wrap64 ((2 : Int) ^ wd) = 2 ^ wd := pow_val wd (by omega)
              have d4 : decide ((2 : Int) ^ wd ≤ xn) = true := by simpa using hd
              go_wp2_with fail
              refine (put_bad2 xn wd _ _ (by omega) (by omega) (by omega) hd).mono ?_
              clear hd hok ha hb hc
              rintro e w3 ⟨rfl, rfl⟩
              have hR3 := hR2
              have hS3 := hS2
              have hB3 := hB2
              have z3 := zx
              have m13 := m1
              have m23 := m2
              clear m0 m1 m2 zx fx
              have hmc := more_cell
              have hmf := more_frozen
              have hml := more_lt
              go_wp2
              refine region_quiet_all (by kernel_rfl) (by kernel_rfl) ?_
              repeat (go_big_quiet_step (fail))
              refine wpQuiet_nil ?_
              rintro w4 hw4
              have hb4 := after_below hw4
              clear hw4
              have z4 := Nat.lt_of_lt_of_le z3 hb4.size
              have m14 := (hb4.cell (p := ⟨x0, 1, none⟩) z3).trans m13
              have m24 := (hb4.cell (p := ⟨x0, 2, none⟩) z3).trans m23
              have hS4 := hS3.below hb4
              have hR4 := rb_of_below hR3 hb4
              have hB4 := hB3.trans (hb4.mono hB3.size)
              try clear d4
              try clear d3
              try clear d2
              try clear d1
              try clear d5 d6 d7 d8
              go_wp2
              go_meet
              exact ⟨.inl ⟨rfl, by first | rfl | (congr 1; simp; omega), v, hS4⟩, hB4⟩
          by_cases h1 : q = 1
          · subst h1
            by_cases hok : 0 ≤ xn ∧ xn < 4611686018427387904
            · obtain ⟨o1, o2⟩ := hok
              have HN : Hid (0 ≤ xn ∧ xn < 4611686018427387904) := Lib.hid ⟨o1, o2⟩
              have d2 : decide (4611686018427387904 ≤ xn) = false := by simp; omega
              have d1 : decide (xn < 0) = false := by simp; omega
              clear o1 o2
              have hpc := pieces_bd (xn.toNat)
              have HPC := Lib.hid hpc
              clear hpc
              have hbl : (varL xn.toNat).length = 6 * pieces (xn.toNat) := varL_length _
              have HBL := Lib.hid hbl
              clear hbl
              by_cases hl : L.length + (varL xn.toNat).length ≤ 32000
              · go_wp2_with fail
                refine (var_i w.heap.size w.heap.size xn.toNat xn v L _ hS2.wr hB2.size (by have := HN.out; omega) (by have := HN.out; omega) (by have := HBL.out; omega)).mono ?_
                rintro e w3 ⟨rfl, v3, hW3, hT3⟩
                have hR3 : Rb w3 w.heap.size (x0 + 1) (.slice none 0 0) [] := rb_mod hR2 hT3.mod (by rintro (e | e); omega; have := hlt2.2.2.1 _ e; omega) (by simp [Value.ownBlock])
                have hX3 := hX2.mod hT3.mod (by rintro (e | e); omega; have := hlt2.2.2.1 _ e; omega)
                have hS3 := hS2.wput hW3 hT3
                have hB3 := hB2.trans (wr_below hS2.wr (Nat.le_refl _) hB2.size hT3)
                obtain ⟨z3, c3, f3⟩ := id hX3
                have m13 : w3.cell? ⟨x0, 1, none⟩ = some (.int .i64 xn) := c3 1
                have m23 : w3.cell? ⟨x0, 2, none⟩ = some (.int .i64 xw) := c3 2
                clear c3
                have hfar : (∀ b, v3.ownBlock = some b → b ≠ x0 + 1) ∧ ∀ b, (Value.slice rA L.length rC).ownBlock = some b → b ≠ x0 + 1 := by
                  refine ⟨fun b hb => ?_, fun b hb => by have := hlt2.2.2.2 b hb; omega⟩
                  rcases hT3.own with e | e
                  · rw [e] at hb; have := hlt2.2.2.1 b hb; omega
                  · have := e b hb; have := hR2.blk.lt; omega
                have HFAR := Lib.hid hfar
                clear hfar
                clear hT3 hW3 m0 m1 m2 zx fx
                have hb4 := Below.refl w3.heap.size w3
                have hS4 := hS3
                have hR4 := hR3
                have hB4 := hB3
                go_wp2_with fail
                refine (rvarw_i w.heap.size (x0 + 1) xn.toNat xn (.slice none 0 0) [] _ hR4 hB4.size (by have := HN.out; omega) (by have := HN.out; unfold Lt62; omega) (by have := HPC.out; simp; omega)).mono ?_
                rintro e w5 ⟨rfl, mv, hR5, hT5⟩
                have hlt4 := hS4.lt
                have hS5 := hS4.mod hT5.mod (by rintro (e | e); omega; simp [Value.ownBlock] at e) (by rintro (e | e); omega; simp [Value.ownBlock] at e) (by rintro b hb (e | e); have := HFAR.out.1 b hb; omega; simp [Value.ownBlock] at e) (by rintro b hb (e | e); have := HFAR.out.2 b hb; omega; simp [Value.ownBlock] at e)
                have hB5 := hB4.trans (rb_below hR4 (by omega) hB4.size hT5)
                have hMv : ∀ c, mv.ownBlock = some c → c ≠ w.heap.size + 1 ∧ (Value.slice rA L.length rC).ownBlock ≠ some c := by
                  intro c hc
                  rcases hT5.own with e | e
                  · rw [e] at hc; simp [Value.ownBlock] at hc
                  · have := e c hc
                    refine ⟨by omega, fun e2 => ?_⟩
                    have := hlt4.2.2.2 c e2
                    omega
                go_wp2
                go_meet
                exact ⟨.inr ⟨varL xn.toNat, mv, v3, by first | rfl | (congr 1; simp; omega), varL_bin _, by have := HBL.out; have := HPC.out; omega, hR5, hMv, .inr ⟨rfl, hl, hS5⟩⟩, hB5⟩
              · have HLL := Lib.hid hl
                go_wp2_with fail
                refine (var_fi w.heap.size w.heap.size xn.toNat xn v L _ hS2.wr (by have := HN.out; omega) (by have := HN.out; omega) (by have := HBL.out; omega)).mono ?_
                clear hl
                rintro e w3 ⟨rfl, rfl⟩
                have hR3 := hR2
                have hS3 := hS2
                have hB3 := hB2
                have hfar : (∀ b, v.ownBlock = some b → b ≠ x0 + 1) ∧ ∀ b, (Value.slice rA L.length rC).ownBlock = some b → b ≠ x0 + 1 := by
                  refine ⟨fun b hb => ?_, fun b hb => by have := hlt2.2.2.2 b hb; omega⟩
                  have := hlt2.2.2.1 b hb; omega
                have HFAR := Lib.hid hfar
                clear hfar
                clear m0 zx fx
                have hb4 := Below.refl w2.heap.size w2
                have hS4 := hS3
                have hR4 := hR3
                have hB4 := hB3
                go_wp2_with fail
                refine (rvarw_i w.heap.size (x0 + 1) xn.toNat xn (.slice none 0 0) [] _ hR4 hB4.size (by have := HN.out; omega) (by have := HN.out; unfold Lt62; omega) (by have := HPC.out; simp; omega)).mono ?_
                rintro e w5 ⟨rfl, mv, hR5, hT5⟩
                have hlt4 := hS4.lt
                have hS5 := hS4.mod hT5.mod (by rintro (e | e); omega; simp [Value.ownBlock] at e) (by rintro (e | e); omega; simp [Value.ownBlock] at e) (by rintro b hb (e | e); have := HFAR.out.1 b hb; omega; simp [Value.ownBlock] at e) (by rintro b hb (e | e); have := HFAR.out.2 b hb; omega; simp [Value.ownBlock] at e)
                have hB5 := hB4.trans (rb_below hR4 (by omega) hB4.size hT5)
                have hMv : ∀ c, mv.ownBlock = some c → c ≠ w.heap.size + 1 ∧ (Value.slice rA L.length rC).ownBlock ≠ some c := by
                  intro c hc
                  rcases hT5.own with e | e
                  · rw [e] at hc; simp [Value.ownBlock] at hc
                  · have := e c hc
                    refine ⟨by omega, fun e2 => ?_⟩
                    have := hlt4.2.2.2 c e2
                    omega
                go_wp2
                go_meet
                exact ⟨.inr ⟨varL xn.toNat, mv, v, by first | rfl | (congr 1; simp; omega), varL_bin _, by have := HBL.out; have := HPC.out; omega, hR5, hMv, .inl ⟨rfl, by have := HLL.out; skip; omega, hS5⟩⟩, hB5⟩
            · by_cases ha : xn < 0
              · skip
                go_wp2_with fail
                refine (var_bad xn _ _ (.inl ha)).mono ?_
                rintro e w3 ⟨rfl, rfl⟩
                have hS4 := hS2
                have hB4 := hB2
                clear m0 zx fx
                go_wp2
                go_meet
                exact ⟨.inl ⟨rfl, by first | rfl | (congr 1; simp; omega), v, hS4⟩, hB4⟩
              have hb : 4611686018427387904 ≤ xn := by omega
              have ha' : ¬ xn < 0 := by omega
              clear hok
              go_wp2_with fail
              refine (var_bad xn _ _ (.inr hb)).mono ?_
              rintro e w3 ⟨rfl, rfl⟩
              have hS4 := hS2
              have hB4 := hB2
              clear m0 zx fx
              go_wp2
              go_meet
              exact ⟨.inl ⟨rfl, by first | rfl | (congr 1; simp; omega), v, hS4⟩, hB4⟩
          by_cases h2 : q = 2
          · subst h2
            by_cases hok : -1152921504606846976 ≤ xn ∧ xn ≤ 1152921504606846976
            · obtain ⟨o1, o2⟩ := hok
              have HN : Hid (-1152921504606846976 ≤ xn ∧ xn ≤ 1152921504606846976) := Lib.hid ⟨o1, o2⟩
              have d2 : decide (1152921504606846976 < xn) = false := by simp; omega
              have d1 : decide (xn < -1152921504606846976) = false := by simp; omega
              clear o1 o2
              have hpc := pieces_bd (zig xn)
              have HPC := Lib.hid hpc
              clear hpc
              have hbl : (intL xn).length = 6 * pieces (zig xn) := varL_length _
              have HBL := Lib.hid hbl
              clear hbl
              by_cases hl : L.length + (intL xn).length ≤ 32000
              · go_wp2_with fail
                refine (int_ok w.heap.size w.heap.size xn v L _ hS2.wr hB2.size HN.out.1 HN.out.2 (by have := HBL.out; omega)).mono ?_
                rintro e w3 ⟨rfl, v3, hW3, hT3⟩
                have hR3 : Rb w3 w.heap.size (x0 + 1) (.slice none 0 0) [] := rb_mod hR2 hT3.mod (by rintro (e | e); omega; have := hlt2.2.2.1 _ e; omega) (by simp [Value.ownBlock])
                have hX3 := hX2.mod hT3.mod (by rintro (e | e); omega; have := hlt2.2.2.1 _ e; omega)
                have hS3 := hS2.wput hW3 hT3
                have hB3 := hB2.trans (wr_below hS2.wr (Nat.le_refl _) hB2.size hT3)
                obtain ⟨z3, c3, f3⟩ := id hX3
                have m13 : w3.cell? ⟨x0, 1, none⟩ = some (.int .i64 xn) := c3 1
                have m23 : w3.cell? ⟨x0, 2, none⟩ = some (.int .i64 xw) := c3 2
                clear c3
                have hfar : (∀ b, v3.ownBlock = some b → b ≠ x0 + 1) ∧ ∀ b, (Value.slice rA L.length rC).ownBlock = some b → b ≠ x0 + 1 := by
                  refine ⟨fun b hb => ?_, fun b hb => by have := hlt2.2.2.2 b hb; omega⟩
                  rcases hT3.own with e | e
                  · rw [e] at hb; have := hlt2.2.2.1 b hb; omega
                  · have := e b hb; have := hR2.blk.lt; omega
                have HFAR := Lib.hid hfar
                clear hfar
                clear hT3 hW3 m0 m1 m2 zx fx
                have hb4 := Below.refl w3.heap.size w3
                have hS4 := hS3
                have hR4 := hR3
                have hB4 := hB3
                go_wp2_with fail
                refine (rintw_ok w.heap.size (x0 + 1) xn (.slice none 0 0) [] _ hR4 hB4.size HN.out.1 HN.out.2 (by have := HPC.out; simp; omega)).mono ?_
                rintro e w5 ⟨rfl, mv, hR5, hT5⟩
                have hlt4 := hS4.lt
                have hS5 := hS4.mod hT5.mod (by rintro (e | e); omega; simp [Value.ownBlock] at e) (by rintro (e | e); omega; simp [Value.ownBlock] at e) (by rintro b hb (e | e); have := HFAR.out.1 b hb; omega; simp [Value.ownBlock] at e) (by rintro b hb (e | e); have := HFAR.out.2 b hb; omega; simp [Value.ownBlock] at e)
                have hB5 := hB4.trans (rb_below hR4 (by omega) hB4.size hT5)
                have hMv : ∀ c, mv.ownBlock = some c → c ≠ w.heap.size + 1 ∧ (Value.slice rA L.length rC).ownBlock ≠ some c := by
                  intro c hc
                  rcases hT5.own with e | e
                  · rw [e] at hc; simp [Value.ownBlock] at hc
                  · have := e c hc
                    refine ⟨by omega, fun e2 => ?_⟩
                    have := hlt4.2.2.2 c e2
                    omega
                go_wp2
                go_meet
                exact ⟨.inr ⟨intL xn, mv, v3, by first | rfl | (congr 1; simp; omega), intL_bin _, by have := HBL.out; have := HPC.out; omega, hR5, hMv, .inr ⟨rfl, hl, hS5⟩⟩, hB5⟩
              · have HLL := Lib.hid hl
                go_wp2_with fail
                refine (int_full w.heap.size w.heap.size xn v L _ hS2.wr HN.out.1 HN.out.2 (by have := HBL.out; omega)).mono ?_
                clear hl
                rintro e w3 ⟨rfl, rfl⟩
                have hR3 := hR2
                have hS3 := hS2
                have hB3 := hB2
                have hfar : (∀ b, v.ownBlock = some b → b ≠ x0 + 1) ∧ ∀ b, (Value.slice rA L.length rC).ownBlock = some b → b ≠ x0 + 1 := by
                  refine ⟨fun b hb => ?_, fun b hb => by have := hlt2.2.2.2 b hb; omega⟩
                  have := hlt2.2.2.1 b hb; omega
                have HFAR := Lib.hid hfar
                clear hfar
                clear m0 zx fx
                have hb4 := Below.refl w2.heap.size w2
                have hS4 := hS3
                have hR4 := hR3
                have hB4 := hB3
                go_wp2_with fail
                refine (rintw_ok w.heap.size (x0 + 1) xn (.slice none 0 0) [] _ hR4 hB4.size HN.out.1 HN.out.2 (by have := HPC.out; simp; omega)).mono ?_
                rintro e w5 ⟨rfl, mv, hR5, hT5⟩
                have hlt4 := hS4.lt
                have hS5 := hS4.mod hT5.mod (by rintro (e | e); omega; simp [Value.ownBlock] at e) (by rintro (e | e); omega; simp [Value.ownBlock] at e) (by rintro b hb (e | e); have := HFAR.out.1 b hb; omega; simp [Value.ownBlock] at e) (by rintro b hb (e | e); have := HFAR.out.2 b hb; omega; simp [Value.ownBlock] at e)
                have hB5 := hB4.trans (rb_below hR4 (by omega) hB4.size hT5)
                have hMv : ∀ c, mv.ownBlock = some c → c ≠ w.heap.size + 1 ∧ (Value.slice rA L.length rC).ownBlock ≠ some c := by
                  intro c hc
                  rcases hT5.own with e | e
                  · rw [e] at hc; simp [Value.ownBlock] at hc
                  · have := e c hc
                    refine ⟨by omega, fun e2 => ?_⟩
                    have := hlt4.2.2.2 c e2
                    omega
                go_wp2
                go_meet
                exact ⟨.inr ⟨intL xn, mv, v, by first | rfl | (congr 1; simp; omega), intL_bin _, by have := HBL.out; have := HPC.out; omega, hR5, hMv, .inl ⟨rfl, by have := HLL.out; skip; omega, hS5⟩⟩, hB5⟩
            · by_cases ha : xn < -1152921504606846976
              · skip
                go_wp2_with fail
                refine (int_bad xn _ _ (.inl ha)).mono ?_
                rintro e w3 ⟨rfl, rfl⟩
                have hS4 := hS2
                have hB4 := hB2
                clear m0 zx fx
                go_wp2
                go_meet
                exact ⟨.inl ⟨rfl, by first | rfl | (congr 1; simp; omega), v, hS4⟩, hB4⟩
              have hb : 1152921504606846976 < xn := by omega
              have ha' : ¬ xn < -1152921504606846976 := by omega
              clear hok
              go_wp2_with fail
              refine (int_bad xn _ _ (.inr hb)).mono ?_
              rintro e w3 ⟨rfl, rfl⟩
              have hS4 := hS2
              have hB4 := hB2
              clear m0 zx fx
              go_wp2
              go_meet
              exact ⟨.inl ⟨rfl, by first | rfl | (congr 1; simp; omega), v, hS4⟩, hB4⟩
          have h0' : (q == 0) = false := by simpa using h0
          have h1' : (q == 1) = false := by simpa using h1
          have h2' : (q == 2) = false := by simpa using h2
          clear h0 h1 h2
          go_wp2
          go_roundw
          case rel => exact ⟨k + 1, v, rA, L.length, rC, L, by omega, by go_num, rfl, hS2, hB2⟩
          case measure => simp [intOf]; omega
        case rest =>
          obtain ⟨hMid, hB3⟩ := hcut
          have hlim : L.length ≤ 32000 := hS2.wr.lim
          have hH3 := hH.below hB3
          rcases hMid with ⟨rfl, rfl, v3, hS3⟩ | ⟨b, mv, v3, rfl, hbin, hbl, hR3, hMv, ⟨rfl, hl, hS3⟩ | ⟨rfl, hl, hS3⟩⟩
          · obtain ⟨zq, cq, fq⟩ := id hS3.rb.blk
            have kq : wc.cell? ⟨w.heap.size + 1, 0, none⟩ = some (.slice rA L.length rC) := cq 0
            clear cq
            have HL := Lib.hid hlim
            have hli : (L.length : Int) ≤ 32000 := by omega
            clear hlim
            have hS9 := hS3
            have hB9 := hB3
            have hmc := more_cell
            have hmf := more_frozen
            have hml := more_lt
            go_wp2
            refine region_quiet_all (by kernel_rfl) (by kernel_rfl) ?_
            repeat (go_big_quiet_step (first | (go_at_call 16; exact calls_after (lbare_hit 2 2 true _ ((hH.below hB9).below (more_below _ _)) rfl)) | (go_at_call 33; exact calls_after_same (many_c _ _ _ _ _ (wr_of_below hS9.wr (more_below _ _))))))
            refine wpQuiet_nil ?_
            rintro wz hwz
            have hbz := after_below hwz
            clear hwz
            go_wp2
            go_roundw
            case rel => exact ⟨k + 1, _, _, _, _, L, by omega, by go_num, rfl, hS9.below hbz, hB9.trans (hbz.mono hB9.size)⟩
            case measure => simp [intOf]; omega
          · obtain ⟨zq, cq, fq⟩ := id hS3.rb.blk
            have kq : wc.cell? ⟨w.heap.size + 1, 0, none⟩ = some (.slice rA L.length rC) := cq 0
            clear cq
            obtain ⟨mA, mC, hmv⟩ := row_form hR3.row
            subst hmv
            obtain ⟨zm, cm, fm⟩ := id hR3.blk
            have km : wc.cell? ⟨x0 + 1, 0, none⟩ = some (.slice mA b.length mC) := cm 0
            clear cm
            have hsum : (L.length : Int) + (b.length : Int) > 32000 := by omega
            have hli : (L.length : Int) ≤ 32000 := by omega
            have hlb : (b.length : Int) ≤ 200 := by omega
            clear hlim hl hbl
            have hS9 := hS3
            have hB9 := hB3
            have hmc := more_cell
            have hmf := more_frozen
            have hml := more_lt
            go_wp2
            refine region_quiet_all (by kernel_rfl) (by kernel_rfl) ?_
            repeat (go_big_quiet_step (first | (go_at_call 16; exact calls_after (lbare_hit 4 4 true _ ((hH.below hB9).below (more_below _ _)) rfl)) | (go_at_call 33; exact calls_after_same (many_c _ _ _ _ _ (wr_of_below hS9.wr (more_below _ _))))))
            refine wpQuiet_nil ?_
            rintro wz hwz
            have hbz := after_below hwz
            clear hwz
            go_wp2
            go_roundw
            case rel => exact ⟨k + 1, _, _, _, _, L, by omega, by go_num, rfl, hS9.below hbz, hB9.trans (hbz.mono hB9.size)⟩
            case measure => simp [intOf]; omega
          · obtain ⟨zq, cq, fq⟩ := id hS3.rb.blk
            have kq : wc.cell? ⟨w.heap.size + 1, 0, none⟩ = some (.slice rA L.length rC) := cq 0
            clear cq
            obtain ⟨mA, mC, hmv⟩ := row_form hR3.row
            subst hmv
            obtain ⟨zm, cm, fm⟩ := id hR3.blk
            have km : wc.cell? ⟨x0 + 1, 0, none⟩ = some (.slice mA b.length mC) := cm 0
            clear cm
            have hsum : ¬ (L.length : Int) + (b.length : Int) > 32000 := by omega
            have hli : (L.length : Int) ≤ 32000 := by omega
            have hlb : (b.length : Int) ≤ 200 := by omega
            have hnil := hR3.row.2
            have HLL := Lib.hid hl
            have HLM := Lib.hid hlim
            clear hlim hl hbl
            rcases hnil with hnil | hnil
            · have hb0 : b = [] := List.eq_nil_of_length_eq_zero hnil.2
              have hmn : mA = none ∧ mC = 0 := by have h1 := hnil.1; injection h1 with h1 h2 h3; exact ⟨h1, h3⟩
              obtain ⟨rfl, rfl⟩ := hmn
              subst hb0
              simp only [List.length_nil] at km hsum
              clear hnil
              obtain ⟨i0, hi, hz0, hz1, hz2⟩ := info_parts byteInfo
              have HI := Lib.hid hi
              have HZ0 := Lib.hid hz0
              have HZ1 := Lib.hid hz1
              have HZ2 := Lib.hid hz2
              clear hi hz0 hz1 hz2
              go_wp2_with (at_builtin; refine wpList_append_own_none rfl (.tmp 107) (.tmp 108) 65 rfl w.heap.size 5 i0 1 Tryd.underlying65 HI.out (.slice rA L.length rC) L.length (u8s L) rfl hS3.rb.row rfl ?_)
              clear HI HZ0 HZ1 HZ2
              go_wp2_with fail
              refine wp_fresh ?_
              intro w9 hb9
              have hS9 : St2 w.heap.size w.heap.size (w.heap.size + 1) w9 v3 (.slice rA L.length rC) (L ++ []) (L ++ []) := by
                have h1 := hS3.rapp (w1 := wc) (b := []) (rv' := .slice rA L.length rC) (by simpa using hS3.rb.row) ⟨rfl, rfl, rfl, Nat.le_refl _, fun _ _ _ => rfl⟩ (.inl rfl) Bin.nil (by have := HLM.out; simp; omega)
                exact h1.below hb9
              have hB9 : Below w.heap.size w w9 := by
                refine (hB3.trans (Below.setCell (Below.refl _ _) (by simp) _)).trans (hb9.mono (by have := hB3.size; simp; omega))
              clear hb9 km
              obtain ⟨X, hX⟩ : ∃ X, X = L ++ [] := ⟨_, rfl⟩
              have hXl : X.length = L.length := by rw [hX]; simp
              rw [← hX] at hS9
              rw [← hXl] at hS9 hli
              rw [← hXl]
              clear hX hXl kq zq fq
              obtain ⟨zq, cq, fq⟩ := id hS9.rb.blk
              have kq : w9.cell? ⟨w.heap.size + 1, 0, none⟩ = some (.slice rA X.length rC) := cq 0
              clear cq
              have hmc := more_cell
              have hmf := more_frozen
              have hml := more_lt
              go_wp2
              refine region_quiet_all (by kernel_rfl) (by kernel_rfl) ?_
              repeat (go_big_quiet_step (first | (go_at_call 16; exact calls_after_same (lbare_nil 0 true _ rfl)) | (go_at_call 33; exact calls_after_same (many_c _ _ _ _ _ (wr_of_below hS9.wr (more_below _ _))))))
              refine wpQuiet_nil ?_
              rintro wz hwz
              have hbz := after_below hwz
              clear hwz
              go_wp2
              go_roundw
              case rel => exact ⟨k + 1, _, _, _, _, X, by omega, by go_num, rfl, hS9.below hbz, hB9.trans (hbz.mono hB9.size)⟩
              case measure => simp [intOf]; omega
            · obtain ⟨mg, mcap, mcur, hmv, _⟩ := hnil
              have hmn : mA = some ⟨mg, 0, none⟩ := by injection hmv
              subst hmn
              have hsrc := fun j u (hu : (u8s b)[j]? = some u) => row_cells hR3.row j u hu
              have HSRC := Lib.hid hsrc
              clear hsrc hmv
              obtain ⟨i0, hi, hz0, hz1, hz2⟩ := info_parts byteInfo
              have HI := Lib.hid hi
              have HZ0 := Lib.hid hz0
              have HZ1 := Lib.hid hz1
              have HZ2 := Lib.hid hz2
              clear hi hz0 hz1 hz2
              go_wp2_with (at_builtin; refine wpList_append_own_at _ rfl (.tmp 107) (.tmp 108) 65 rfl w.heap.size 5 i0 (.int .u8 0) 1 1 Tryd.underlying65 HI.out HZ0.out HZ1.out HZ2.out rfl (by decide) (.slice rA L.length rC) L.length (u8s L) rfl hS3.rb.row ⟨mg, 0, none⟩ b.length mC (u8s b) rfl ?c1 ?c2 ?c3 ?c4 ?c5 ?c6 ?_)
              case c1 => simp [u8s_length]
              case c2 =>
                intro j u hu
                have := HSRC.out j u hu
                rw [add_plain, Nat.zero_add] at this
                exact this
              case c3 => exact u8s_one b
              case c4 => have := HLL.out; unfold maxLen; omega
              case c5 => have := HLL.out; omega
              case c6 => exact hB3.size
              intro rv' w8 hown hgrow _ hwhere
              have hown2 : w8.ownsRow w.heap.size 5 1 rv' (L ++ b).length (u8s (L ++ b)) := by rw [List.length_append, u8s_append]; exact hown
              obtain ⟨rA', rC', hrv⟩ := row_form hown2
              subst hrv
              have hq8 : w8.cell? ⟨w.heap.size + 1, 0, none⟩ = some (.slice rA L.length rC) := ((mod_grown hgrow).cell (o := 0) zq (fun e => hS3.rb.ne e)).trans kq
              have hf8 : w8.frozen? ⟨w.heap.size + 1, 0, none⟩ = false := ((mod_grown hgrow).free (o := 0) zq (fun e => hS3.rb.ne e)).trans (fq 0)
              have hz8 : w.heap.size + 1 < w8.heap.size := Nat.lt_of_lt_of_le zq hgrow.size
              have hS8 := hS3.rapp hown2 hgrow hwhere hbin (by have := HLL.out; simp; omega)
              have hB8 : Below w.heap.size w w8 := hB3.trans ((mod_grown hgrow).toBelow hB3.size fun c hc e => by have := (row_lt hS3.rb.row e).2; omega)
              clear HI HZ0 HZ1 HZ2 hown hgrow hwhere km hown2
              go_wp2_with fail
              refine wp_fresh ?_
              intro w9 hb9
              have hlab : (L ++ b).length = L.length + b.length := List.length_append
              rw [hlab] at hS8
              have hS9 := hS8.below hb9
              have hB9 : Below w.heap.size w w9 := (hB8.trans (Below.setCell (Below.refl _ _) (by simp) _)).trans (hb9.mono (by simp; omega))
              have hXli : ((L ++ b).length : Int) ≤ 32000 := by have := HLL.out; simp; omega
              clear hb9 hS8 hB8 hq8 hf8 hz8
              obtain ⟨X, hX⟩ : ∃ X, X = L ++ b := ⟨_, rfl⟩
              rw [← hX] at hS9 hXli hlab
              rw [← hlab] at hS9
              clear hlab
              clear hX kq zq fq
              obtain ⟨zq, cq, fq⟩ := id hS9.rb.blk
              have kq : w9.cell? ⟨w.heap.size + 1, 0, none⟩ = some (.slice rA' X.length rC') := cq 0
              clear cq
              have hmc := more_cell
              have hmf := more_frozen
              have hml := more_lt
              go_wp2
              refine region_quiet_all (by kernel_rfl) (by kernel_rfl) ?_
              repeat (go_big_quiet_step (first | (go_at_call 16; exact calls_after_same (lbare_nil 0 true _ rfl)) | (go_at_call 33; exact calls_after_same (many_c _ _ _ _ _ (wr_of_below hS9.wr (more_below _ _))))))
              refine wpQuiet_nil ?_
              rintro wz hwz
              have hbz := after_below hwz
              clear hwz
              go_wp2
              go_roundw
              case rel => exact ⟨k + 1, _, _, _, _, X, by omega, by go_num, rfl, hS9.below hbz, hB9.trans (hbz.mono hB9.size)⟩
              case measure => simp [intOf]; omega
      · obtain rfl : k = n := by omega
        have hbin := hS.rb.bin
        have hlim2 := hS.rb.lim
        obtain ⟨zq, cq, fq⟩ := id hS.rb.blk
        have kq : wr.cell? ⟨w.heap.size + 1, 0, none⟩ = some (.slice rA L.length rC) := cq 0
        clear cq
        have HSX := Lib.hid hS
        have HBX := Lib.hid hB
        have HLM := Lib.hid hlim2
        have hrq := Rdb.of_row hS.rb.row
        have HRQ := Lib.hid hrq
        clear hS hlim2 hrq hB
        go_wp2
        go_region_with (first
          | (go_at_call 34; refine (bytes_c _ _ _ _ _ (HSX.out.wr.drewX)).mono ?_; rintro e w1 ⟨v1, rfl, hBs1, hb1⟩; have kq1 := (hb1.cell (p := ⟨w.heap.size + 1, 0, none⟩) zq).trans kq; have hr1 := Rdb.of_row hBs1.row; have hc1 := conv_rdb hr1; have HB1 := Lib.hid hb1; clear hb1 hBs1)
          | (go_at_call 35; refine (rbytes_c _ L _ ((HRQ.out.below (Below.drew (Below.refl _ _))).below HB1.out) hbin HLM.out).mono ?_; rintro e w2 ⟨v2, rfl, hr2, hb2⟩; have hc2 := conv_rdb (Rdb.of_row (by rw [← pack_length] at hr2; exact hr2)); have hc1' := conv_rdb (hr1.below hb2); have HB2 := Lib.hid hb2; clear hb2 hr2))
        all_goals
          go_wp2
          go_ret
          exact ⟨rfl, (HBX.out.trans ((Below.drew (Below.refl _ _)).mono hBs)).trans ((HB1.out.mono (by simpa using hBs)).trans (HB2.out.mono (by have := HB1.out.size; simp at this; omega)))⟩

end Go.Proofs.YtnkinnfpebploaaDoor
