/- The walk of gyrelaw.BitsRead. Conditions: what the variable errors.errorType holds. -/
import Derived.Test.YtnkinnfpebploaaDoorTape
import Derived.Test.YtnkinnfpebploaaDoorBare
import Derived.Test.YtnkinnfpebploaaDoorOpenB
import Derived.Test.YtnkinnfpebploaaDoorBoth
import Derived.Tactics
import Derived.Tactics2
import Derived.Outline
import Derived.Deep.CutBlock
import Derived.Deep.DeepCutAuto
namespace Go.Proofs.YtnkinnfpebploaaDoor
open Go.ChangeShapes Go.WideShapes Go.ChangeAt Go.RowKit Go.BigFrame
open B
/-- a reader, and the document's tape, side by side -/
structure RT (B B1 P X : Nat) (w : World) (rv tv : Value) (l : List Nat) (a : Nat) : Prop where
  rd : Rd w B P rv l a
  tp : Tp w B1 X tv (openL l) a
  px : P ≠ X
  d1 : rv.ownBlock ≠ some X
  d2 : tv.ownBlock ≠ some P
theorem RT.below {B B1 P X a : Nat} {w w' : World} {rv tv : Value} {l : List Nat} (h : RT B B1 P X w rv tv l a) (k : Below w.heap.size w w') : RT B B1 P X w' rv tv l a := ⟨h.rd.below k, h.tp.below k, h.px, h.d1, h.d2⟩
theorem RT.step {B B1 P X a a' : Nat} {w w1 w' : World} {rv tv : Value} {l : List Nat} (h : RT B B1 P X w rv tv l a) (ht : Tp w1 B1 X tv (openL l) a') (hr : Rd w' B P rv l a') (hm2 : Mod (· = P) w1 w') : RT B B1 P X w' rv tv l a' :=
  ⟨hr, ht.mod hm2 (fun e => h.px e.symm) (fun _ hb e => h.d2 (e ▸ hb)), h.px, h.d1, h.d2⟩
theorem RT.rd1 {B B1 P X a : Nat} {w w1 : World} {rv tv : Value} {l : List Nat} (h : RT B B1 P X w rv tv l a) (hm : Mod (· = X) w w1) : Rd w1 B P rv l a := h.rd.mod hm h.px (fun _ hb e => h.d1 (e ▸ hb))
theorem left_v (base p a : Nat) (N : Int) (v : Value) (l : List Nat) (w : World) (h : Rd w base p v l a) (hN : (8 * l.length : Int) = N) : Calls Tryd.prog 44 #[.pointer (some ⟨p, 0, none⟩)] w fun e w' => e = .returned (.int .i64 (N - a)) ∧ Below w.heap.size w w' := by
  subst hN; exact left_c base p a v l w h
theorem src_form {w : World} {v : Value} {l : List Nat} (h : Src w v l) : ∃ A cap, v = .slice A l.length cap := by
  rcases h with ⟨rfl, rfl⟩ | ⟨ad, cap, rfl, _⟩
  · exact ⟨none, 0, rfl⟩
  · exact ⟨_, cap, rfl⟩
theorem mod_above {w w' : World} {B x : Nat} (k : Mod (· = x) w w') (hB : B ≤ w.heap.size) (hx : B ≤ x) : Below B w w' := k.toBelow hB fun _ hb e => by omega

set_option maxRecDepth 100000 in
set_option maxHeartbeats 4000000 in
theorem bitsRead_w (v : Value) (l : List Nat) (A : Option Addr) (n cap : Nat) (M : Nat → Nat → Int) (w : World) (hH : Handle w) (hSr : Src w v l) (h8 : ∀ b ∈ l, b < 256) (hl : l.length ≤ maxLen) (hn : n ≤ maxLen) (hA : Reads w A n 3 M) (_hM : ∀ i j, -9223372036854775808 ≤ M i j ∧ M i j ≤ 9223372036854775807) :
    Calls Tryd.prog 7 #[v, .slice A n cap] w fun e w' => e = .returned (.bool true) ∧ Below w.heap.size w w' := by
  obtain ⟨VA, vc, hv⟩ := src_form hSr
  obtain ⟨N, hN⟩ : ∃ N, N = l.length := ⟨_, rfl⟩
  rw [← hN] at hv hl
  have HN := Lib.hid hN
  unfold maxLen at hl hn
  by_cases h300 : N > 300
  · subst hv
    clear hN
    go_enter Tryd.func7, Tryd.ntmps7
    go_wp2
    go_ret
    exact ⟨rfl, Below.refl _ _⟩
  by_cases h80 : n > 80
  · have h300' : ¬ (N : Int) > 300 := by omega
    subst hv
    clear hN h300
    go_enter Tryd.func7, Tryd.ntmps7
    go_wp2
    go_ret
    exact ⟨rfl, Below.refl _ _⟩
  have h300' : ¬ (N : Int) > 300 := by omega
  have h80' : ¬ (n : Int) > 80 := by omega
  have HSR := Lib.hid hSr
  have H8 := Lib.hid h8
  have HV := Lib.hid hv
  subst hv
  clear hN hSr h8 h300
  go_enter Tryd.func7, Tryd.ntmps7
  go_wp2_with fail
  refine (read_c _ l _ HSR.out H8.out (by have := HN.out; omega)).mono ?_
  rintro e w1 ⟨p, rv, rfl, hp, hRd, hb1⟩
  have hN300 : N ≤ 300 := by omega
  clear h300' h80'
  have hpl := hRd.blk.lt
  go_wp2_with fail
  refine (ropen_c _ l _ (Rdb.of_src (HSR.out.below hb1)) H8.out (by have := HN.out; omega)).mono ?_
  rintro e w2 ⟨tv, rfl, hrow, hb2⟩
  have hRd2 := hRd.below hb2
  obtain ⟨tA, tcap, htv⟩ := row_form hrow
  have h8l : (8 * l.length : Int) = ((openL l).length : Nat) := by rw [openL_length]; omega
  obtain ⟨N8, hN8⟩ : ∃ N8, N8 = (openL l).length := ⟨_, rfl⟩
  rw [← hN8] at htv h8l
  have HN8 := Lib.hid hN8
  have H8L := Lib.hid h8l
  have hN8b : N8 ≤ 2400 := by have := HN.out; omega
  subst htv
  clear hN8 h8l
  go_wp2
  refine wp_fresh ?_
  intro w3 hb3
  have hb23 : Below w2.heap.size w2 w3 := (balloc w2 _).trans (hb3.mono (by simp))
  have hX3 := (Blk.fresh w2 #[.slice tA N8 tcap, .int .i64 0] 78).below hb3
  have hB3 : Below w.heap.size w w3 := (hb1.trans (hb2.mono hb1.size)).trans (hb23.mono (by have := hb1.size; have := hb2.size; omega))
  have hS3 : RT w.heap.size w1.heap.size p w2.heap.size w3 rv (.slice tA N8 tcap) l 0 := by
    have hz := hb2.size
    refine ⟨hRd2.below hb23, ⟨hX3, row_below hrow hb23, fun e => ?_, openL_bin l, by rw [openL_length]; have := HN.out; omega, by omega⟩, by omega, fun e => ?_, fun e => ?_⟩
    · have := (row_lt hrow e).1; omega
    · have := (row_lt hRd2.row e).1; omega
    · have := (row_lt hrow e).2; omega
  obtain ⟨x, hx⟩ : ∃ x, x = w2.heap.size := ⟨_, rfl⟩
  rw [← hx] at hS3
  rw [← hx]
  have hxx : w.heap.size ≤ x := by have := hb1.size; have := hb2.size; omega
  have hbs3 : w1.heap.size ≤ w3.heap.size := by have := hb2.size; have := hb23.size; omega
  have HXX := Lib.hid hxx
  have HPP := Lib.hid hp
  clear hRd hb1 hpl hrow hb2 hRd2 hb3 hb23 hX3 hx hxx hp
  go_loopw [7] (fun i wr => ∃ k a : Nat, k ≤ n ∧ i = .int .i64 k ∧ RT w.heap.size w1.heap.size p x wr rv (.slice tA N8 tcap) l a ∧ w1.heap.size ≤ wr.heap.size ∧ Below w.heap.size w wr) (fun i _ => n - (intOf i).toNat)
  case atStart => exact ⟨0, 0, by omega, rfl, hS3, hbs3, hB3⟩
  case round =>
    clear hS3 hB3 hbs3
    obtain ⟨k, a, hk, rfl, hS, hbs, hB⟩ := hrel
    by_cases hlt : k < n
    · obtain ⟨ab, ao, rfl, hab, hcell⟩ := hA (by omega)
      have q0' := hcell k hlt 0 (by decide)
      have q2' := hcell k hlt 2 (by decide)
      simp only [Nat.add_zero] at q0'
      rw [← Nat.add_assoc] at q2'
      have QQ : Hid (∀ w', Below w.heap.size w w' → w'.cell? ⟨ab, ao + k * 3 + 2, none⟩ = some (.int .i64 (M k 2))) := Lib.hid (fun w' hb => (hb.cell (p := ⟨ab, ao + k * 3 + 2, none⟩) hab).trans q2')
      have q0 := (hB.cell (p := ⟨ab, ao + k * 3, none⟩) hab).trans q0'
      have q2 := QQ.out wr hB
      clear hcell hab q0' q2'
      go_upto_block 2 with fail
      go_cut [8, 9, 10, 11] (fun t8 t9 t10 t11 wx => (∃ (n e : Int) (a' : Nat), t8 = .int .i64 n ∧ t9 = .int .i64 n ∧ t10 = .int .i64 e ∧ t11 = errV e ∧ RT w.heap.size w1.heap.size p x wx rv (.slice tA N8 tcap) l a') ∧ w1.heap.size ≤ wx.heap.size ∧ Below w.heap.size w wx)
      case first =>
        by_cases h0 : M k 0 = 0
        · have e0 : (M k 0 == 0) = true := by simpa using h0
          clear h0
          go_wp2_with fail
          refine (tget_c w1.heap.size x a (M k 2) (.slice tA N8 tcap) (openL l) _ hS.tp).mono ?_
          rintro e w2 ⟨rfl, hT2, hM2⟩
          have hRd2 := hS.rd1 hM2
          have hB2 := hB.trans (mod_above hM2 (by have := hB.size; omega) HXX.out)
          have q22 := QQ.out w2 hB2
          go_wp2_with fail
          refine (getD_c w.heap.size p a (M k 2) rv l _ hRd2).mono ?_
          rintro e w3 ⟨rfl, hRd3, hM3⟩
          have hS3 := hS.step hT2 hRd3 hM3
          have hB3 := hB2.trans (mod_above hM3 hB2.size HPP.out)
          go_wp2
          go_meet
          exact ⟨⟨_, _, _, rfl, rfl, rfl, rfl, hS3⟩, by have := hM2.size; have := hM3.size; omega, hB3⟩
        · by_cases h1 : M k 0 = 1
          · have e0 : (M k 0 == 0) = false := by simpa using h0
            have e1 : (M k 0 == 1) = true := by simpa using h1
            clear h0 h1
            go_wp2_with fail
            refine (tvar_c w1.heap.size x a (.slice tA N8 tcap) (openL l) _ hS.tp).mono ?_
            rintro e w2 ⟨rfl, hT2, hM2⟩
            have hRd2 := hS.rd1 hM2
            have hB2 := hB.trans (mod_above hM2 (by have := hB.size; omega) HXX.out)
            have q22 := QQ.out w2 hB2
            go_wp2_with fail
            refine (varD_c w.heap.size p a rv l _ hRd2).mono ?_
            rintro e w3 ⟨rfl, hRd3, hM3⟩
            have hS3 := hS.step hT2 hRd3 hM3
            have hB3 := hB2.trans (mod_above hM3 hB2.size HPP.out)
            go_wp2
            go_meet
            exact ⟨⟨_, _, _, rfl, rfl, rfl, rfl, hS3⟩, by have := hM2.size; have := hM3.size; omega, hB3⟩
          · by_cases h2 : M k 0 = 2
            · have e0 : (M k 0 == 0) = false := by simpa using h0
              have e1 : (M k 0 == 1) = false := by simpa using h1
              have e2 : (M k 0 == 2) = true := by simpa using h2
              clear h0 h1 h2
              go_wp2_with fail
              refine (tint_c w1.heap.size x a (.slice tA N8 tcap) (openL l) _ hS.tp).mono ?_
              rintro e w2 ⟨rfl, hT2, hM2⟩
              have hRd2 := hS.rd1 hM2
              have hB2 := hB.trans (mod_above hM2 (by have := hB.size; omega) HXX.out)
              have q22 := QQ.out w2 hB2
              go_wp2_with fail
              refine (intD_c w.heap.size p a rv l _ hRd2).mono ?_
              rintro e w3 ⟨rfl, hRd3, hM3⟩
              have hS3 := hS.step hT2 hRd3 hM3
              have hB3 := hB2.trans (mod_above hM3 hB2.size HPP.out)
              go_wp2
              go_meet
              exact ⟨⟨_, _, _, rfl, rfl, rfl, rfl, hS3⟩, by have := hM2.size; have := hM3.size; omega, hB3⟩
            · have e0 : (M k 0 == 0) = false := by simpa using h0
              have e1 : (M k 0 == 1) = false := by simpa using h1
              have e2 : (M k 0 == 2) = false := by simpa using h2
              clear h0 h1 h2
              go_wp2
              go_meet
              exact ⟨⟨0, 0, a, rfl, rfl, rfl, rfl, hS⟩, hbs, hB⟩
      case rest =>
        obtain ⟨⟨nn, ee, a', rfl, rfl, rfl, rfl, hS4⟩, hbs4, hB4⟩ := hcut
        have hH4 := hH.below hB4
        obtain ⟨z4, c4, f4⟩ := id hS4.tp.blk
        have k0 : wc.cell? ⟨x, 0, none⟩ = some (.slice tA N8 tcap) := c4 0
        have k1 : wc.cell? ⟨x, 1, none⟩ = some (.int .i64 (a' : Int)) := c4 1
        have ha8 : a' ≤ N8 := by rw [HN8.out]; exact hS4.tp.le
        have HH4 := Lib.hid hH4
        clear c4 q0 q2 hH4 QQ
        have hmc := more_cell
        have hmf := more_frozen
        have hml := more_lt
        go_wp2
        refine region_quiet_all (by kernel_rfl) (by kernel_rfl) ?_
        repeat (go_big_quiet_step (first | (go_at_call 16; exact calls_after (lbare_eq ee ee _ (HH4.out.below (more_below _ _)) rfl)) | (go_at_call 44; exact calls_after (left_v w.heap.size p a' N8 rv l _ (hS4.rd.below (more_below _ _)) H8L.out))))
        refine wpQuiet_nil ?_
        rintro w5 hw5
        have hb5 := after_below hw5
        clear hw5
        go_wp2
        go_roundw
        case rel => exact ⟨k + 1, a', by omega, by go_num, hS4.below hb5, by have := hb5.size; omega, hB4.trans (hb5.mono hB4.size)⟩
        case measure => first | (simp [intOf]; done) | (simp [intOf]; omega)
    · obtain rfl : k = n := by omega
      go_wp2
      go_ret
      exact ⟨rfl, hB⟩

end Go.Proofs.YtnkinnfpebploaaDoor
