/- The contracts of gyreref.Tape: what it reads is what the reader reads. Conditions: none. -/
import Derived.Test.YtefhmbmbhiehdaaKClB
import Derived.IntWalk
namespace Go.Proofs.Ytefhmbmbhiehdaa
open Go.ChangeShapes Go.WideShapes Go.ChangeAt Go.RowKit Go.BigFrame
open B
/-- the tape at block p has the bits L, and is at bit a -/
structure Tp (w : World) (base p : Nat) (v : Value) (L : List Nat) (a : Nat) : Prop where
  blk : Blk w p #[v, .int .i64 (a : Int)]
  row : w.ownsRow base 5 1 v L.length (u8s L)
  ne : v.ownBlock ≠ some p
  bin : Bin L
  len : L.length ≤ 1000000
  le : a ≤ L.length
theorem Tp.mod {w w' : World} {base p a : Nat} {v : Value} {L : List Nat} {S : Nat → Prop} (h : Tp w base p v L a) (k : Mod S w w') (h1 : ¬ S p) (h2 : ∀ b, v.ownBlock = some b → ¬ S b) : Tp w' base p v L a :=
  ⟨h.blk.mod k h1, row_mod h.row k h2, h.ne, h.bin, h.len, h.le⟩
theorem Tp.below {w w' : World} {base p a : Nat} {v : Value} {L : List Nat} (h : Tp w base p v L a) (k : Below w.heap.size w w') : Tp w' base p v L a :=
  h.mod (S := fun _ => False) (Mod.of_below k) id fun _ _ => id
theorem Tp.goto {w w' : World} {base p a a' : Nat} {v : Value} {L : List Nat} (h : Tp w base p v L a) (k : Below w.heap.size w w') (hl : a' ≤ L.length) {x : Int} (hx : x = a') : Tp (w'.setCell ⟨p, 1, none⟩ (.int .i64 x)) base p v L a' := by
  subst hx
  exact ⟨blk_set2 (h.blk.below k), row_far (row_below h.row k) h.ne, h.ne, h.bin, h.len, hl⟩
def TDet (base p : Nat) (v : Value) (L : List Nat) (r : Int × Int × Nat) (w : World) (e : Ending) (w' : World) : Prop :=
  e = .returned (.tuple #[.int .i64 r.1, .int .i64 r.2.1]) ∧ Tp w' base p v L r.2.2 ∧ Mod (· = p) w w'
theorem tdet {base p : Nat} {v : Value} {L : List Nat} {r : Int × Int × Nat} {w w' : World} {e : Ending} {n x : Int} {a : Nat} (h : r = (n, x, a)) (he : e = .returned (.tuple #[.int .i64 n, .int .i64 x])) (hp : Tp w' base p v L a ∧ Mod (· = p) w w') : TDet base p v L r w e w' := by
  subst h; exact ⟨he, hp⟩
theorem tget_bad (n : Int) (x : Option Addr) (w : World) (hn : n < 0 ∨ 62 < n) : Calls Try.prog 82 #[.pointer x, .int .i64 n] w fun e w' => e = .returned (.tuple #[.int .i64 0, .int .i64 2]) ∧ w = w' := by
  rcases hn with h | h
  · go_enter Try.func82, Try.ntmps82
    go_wp2
    go_ret2
    exact ⟨rfl, rfl⟩
  · have h' : ¬ n < 0 := by omega
    go_enter Try.func82, Try.ntmps82
    go_wp2
    go_ret2
    exact ⟨rfl, rfl⟩
theorem tp_form {w : World} {base p a : Nat} {v : Value} {L : List Nat} (h : Tp w base p v L a) : ∃ A cap, v = .slice A L.length cap := by
  rcases h.row.2 with ⟨rfl, h3⟩ | ⟨g, cap, cur, rfl, _⟩
  · exact ⟨none, 0, by rw [h3]⟩
  · exact ⟨_, cap, rfl⟩

theorem tget_none (base p a n : Nat) (v : Value) (L : List Nat) (w : World) (h : Tp w base p v L a) (hn : n ≤ 62) (hl : L.length < a + n) :
    Calls Try.prog 82 #[.pointer (some ⟨p, 0, none⟩), .int .i64 n] w fun e w' => e = .returned (.tuple #[.int .i64 0, .int .i64 8]) ∧ Below w.heap.size w w' := by
  obtain ⟨z0, c0, f0⟩ := h.blk
  have h1 := h.len
  have h2 := h.le
  have hmc := more_cell
  have hmf := more_frozen
  have hml := more_lt
  obtain ⟨A, cap, hv⟩ := tp_form h
  have k0 : w.cell? ⟨p, 0, none⟩ = some (.slice A L.length cap) := by rw [← hv]; exact c0 0
  have k1 : w.cell? ⟨p, 1, none⟩ = some (.int .i64 (a : Int)) := c0 1
  clear c0
  obtain ⟨N, hN⟩ : ∃ N, N = L.length := ⟨_, rfl⟩
  rw [← hN] at k0 h1 h2
  have HN := Lib.hid hN
  have HV := Lib.hid hv
  clear hN hv
  have hlt : (N : Int) < (a : Int) + n := by have := HN.out; omega
  go_enter Try.func82, Try.ntmps82
  go_wp2
  refine region_quiet_all (by kernel_rfl) (by kernel_rfl) ?_
  repeat (go_big_quiet_step (fail))
  refine wpQuiet_nil ?_
  rintro w1 hw1
  have hb1 := after_below hw1
  clear hw1
  go_wp2
  go_ret2
  exact ⟨rfl, hb1⟩
set_option maxHeartbeats 1000000 in
theorem tget_ok (base p a n : Nat) (v : Value) (L : List Nat) (w : World) (h : Tp w base p v L a) (hn : n ≤ 62) (hl : a + n ≤ L.length) :
    Calls Try.prog 82 #[.pointer (some ⟨p, 0, none⟩), .int .i64 n] w fun e w' => e = .returned (.tuple #[.int .i64 (getV L a n : Nat), .int .i64 0]) ∧ Tp w' base p v L (a + n) ∧ Mod (· = p) w w' := by
  obtain ⟨z0, c0, f0⟩ := h.blk
  have h1 := h.len
  have h2 := h.le
  have hmc := more_cell
  have hmf := more_frozen
  have hml := more_lt
  obtain ⟨A, cap, hv⟩ := tp_form h
  have k0 : w.cell? ⟨p, 0, none⟩ = some (.slice A L.length cap) := by rw [← hv]; exact c0 0
  have k1 : w.cell? ⟨p, 1, none⟩ = some (.int .i64 (a : Int)) := c0 1
  clear c0
  obtain ⟨N, hN⟩ : ∃ N, N = L.length := ⟨_, rfl⟩
  rw [← hN] at k0 h1 h2
  have HN := Lib.hid hN
  have HV := Lib.hid hv
  clear hN hv
  have hlt : ¬ (N : Int) < (a : Int) + n := by have := HN.out; omega
  go_enter Try.func82, Try.ntmps82
  go_wp2
  refine region_quiet_all (by kernel_rfl) (by kernel_rfl) ?_
  repeat (go_big_quiet_step (fail))
  refine wpQuiet_nil ?_
  rintro w1 hw1
  have hb1 := after_below hw1
  clear hw1
  go_wp2
  have hB1 := h.below hb1
  clear hlt k0 k1 f0 z0
  go_loopw [6, 26] (fun x i wr => ∃ k : Nat, k ≤ n ∧ i = .int .i64 k ∧ x = .int .i64 (getV L a k : Nat) ∧ Tp wr base p v L (a + k) ∧ Mod (· = p) w wr) (fun _ i _ => n - (intOf i).toNat)
  case atStart => exact ⟨0, by omega, rfl, by rw [getV_zero]; rfl, hB1, Mod.of_below hb1⟩
  case round =>
    clear hB1 hb1
    obtain ⟨k, hk, rfl, rfl, hR, hM⟩ := hrel
    by_cases hlt : k < n
    · obtain ⟨z0, c0, f0⟩ := hR.blk
      have k0 : wr.cell? ⟨p, 0, none⟩ = some (.slice A N cap) := by rw [HN.out, ← HV.out]; exact c0 0
      have k1 : wr.cell? ⟨p, 1, none⟩ = some (.int .i64 ((a + k : Nat) : Int)) := c0 1
      clear c0
      obtain ⟨m, hm⟩ : ∃ m, m = a + k := ⟨_, rfl⟩
      rw [← hm] at k1
      have HM1 := Lib.hid hm
      have hmN : m < N := by have := HN.out; omega
      have hrow := hR.row
      rw [HV.out] at hrow
      obtain ⟨g, cap', hge, g1, g2, g3, g4, g5, g6, _⟩ := row_at hrow (by omega)
      cases hge
      obtain ⟨x, hx⟩ : ∃ x, L[a + k]? = some x := ⟨_, List.getElem?_eq_getElem (by omega)⟩
      have hx2 : x < 2 := hR.bin x (List.mem_of_getElem? hx)
      have hc := g6 (a + k) (.int .u8 (x : Nat)) (by unfold u8s; rw [List.getElem?_map, hx]; rfl)
      rw [← hm] at hc
      have hsucc := getV_succ hx
      have hle := getV_lt h.bin a k
      have hpk : 2 ^ k ≤ 2 ^ 61 := Nat.pow_le_pow_right (by omega) (by omega)
      obtain ⟨y, hy⟩ : ∃ y, y = getV L a k := ⟨_, rfl⟩
      rw [← hy] at hsucc hle
      have hyl : y < 2305843009213693952 := by omega
      obtain ⟨y2, hy2⟩ : ∃ y2, y2 = 2 * y + x := ⟨_, rfl⟩
      have hsum : 2 * (y : Int) + (x : Int) = (y2 : Int) := by omega
      have HX := Lib.hid hx
      have HS := Lib.hid hsucc
      have HY2 := Lib.hid hy2
      rw [← hy]
      have HY := Lib.hid hy
      have hm3 : m ≤ 1000000 := by omega
      have hfro := g5 m
      have HR0 := Lib.hid hrow
      clear hm hx hsucc hy hy2 g6 g5 hle hpk hrow
      go_wp2
      refine region_quiet_all (by kernel_rfl) (by kernel_rfl) ?_
      repeat (go_big_quiet_step (fail))
      refine wpQuiet_nil ?_
      rintro w2 hw2
      have hb2 := after_below hw2
      clear hw2
      have z2 := Nat.lt_of_lt_of_le z0 hb2.size
      have k12 := (hb2.cell (p := ⟨p, 1, none⟩) z0).trans k1
      have f02 := fun o => (hb2.frozen (p := ⟨p, o, none⟩) z0).trans (f0 o)
      go_wp2
      go_roundw
      case rel =>
        refine ⟨k + 1, by omega, by go_num, ?_, ?_, ?_⟩
        · have := HS.out
          rw [← HY2.out] at this
          rw [this]
        · exact hR.goto hb2 (by omega) (by have := HM1.out; omega)
        · exact (hM.below hb2).set (.inl rfl)
      case measure => first | (simp [intOf]; done) | (simp [intOf]; omega)
    · obtain rfl : k = n := by omega
      go_wp2
      go_ret2
      exact ⟨rfl, hR, hM⟩
theorem tget_c (base p a : Nat) (k : Int) (v : Value) (L : List Nat) (w : World) (h : Tp w base p v L a) : Calls Try.prog 82 #[.pointer (some ⟨p, 0, none⟩), .int .i64 k] w (TDet base p v L (getD L a k) w) := by
  unfold TDet getD
  by_cases h1 : k < 0 ∨ 62 < k
  · refine (tget_bad k _ w h1).mono fun e w' ⟨he, hw⟩ => ?_
    subst hw
    rw [if_pos h1]
    exact ⟨he, h, Mod.refl _ _⟩
  · rw [if_neg h1]
    obtain ⟨n, rfl⟩ : ∃ n : Nat, k = n := ⟨k.toNat, by omega⟩
    by_cases h2 : L.length < a + n
    · refine (tget_none base p a n v L w h (by omega) h2).mono fun e w' ⟨he, hb⟩ => ?_
      rw [if_pos (by simpa using h2)]
      exact ⟨he, h.below hb, Mod.of_below hb⟩
    · refine (tget_ok base p a n v L w h (by omega) (by omega)).mono fun e w' ⟨he, hR, hM⟩ => ?_
      rw [if_neg (by simpa using h2)]
      exact ⟨he, hR, hM⟩
theorem tfail_c (base p a b q0 q1 : Nat) (x : Int) (v : Value) (L : List Nat) (w : World) (h : Tp w base p v L b) (h0 : Blk w q0 #[.int .i64 (a : Int)]) (h1 : Blk w q1 #[.pointer (some ⟨p, 0, none⟩)]) (ha : a ≤ L.length) :
    Calls Try.prog 115 #[.int .i64 x, .pointer (some ⟨q0, 0, none⟩), .pointer (some ⟨q1, 0, none⟩)] w fun e w' => e = .returned (.tuple #[.int .i64 0, .int .i64 x]) ∧ Tp w' base p v L a ∧ Mod (· = p) w w' := by
  obtain ⟨z0, c0, f0⟩ := h.blk
  have k0 : w.cell? ⟨q0, 0, none⟩ = some (.int .i64 (a : Int)) := h0.cell 0
  have k1 : w.cell? ⟨q1, 0, none⟩ = some (.pointer (some ⟨p, 0, none⟩)) := h1.cell 0
  have k2 : w.cell? ⟨p, 1, none⟩ = some (.int .i64 (b : Int)) := c0 1
  clear c0
  go_enter Try.func115, Try.ntmps115
  go_wp2
  go_ret2
  exact ⟨rfl, h.goto (Below.refl _ _) ha rfl, (Mod.refl _ _).set (.inl rfl)⟩
theorem take_split {α : Type} (L : List α) (b : Nat) : (L.drop b).take 6 = (L.drop b).take 1 ++ (L.drop (b + 1)).take 5 := by
  rw [← List.drop_drop]
  generalize L.drop b = M
  cases M <;> simp
/-- six bits are one, and five -/
theorem getV_split {L : List Nat} {b : Nat} (hl : b + 6 ≤ L.length) : getV L b 6 = getV L b 1 * 32 + getV L (b + 1) 5 := by
  unfold getV val
  rw [take_split, valF_append, valF_eq]
  have : ((L.drop (b + 1)).take 5).length = 5 := by simp; omega
  rw [this]
  rfl

set_option maxHeartbeats 2000000 in
theorem tvar_c (base p a : Nat) (v : Value) (L : List Nat) (w : World) (h : Tp w base p v L a) : Calls Try.prog 81 #[.pointer (some ⟨p, 0, none⟩)] w (TDet base p v L (varD L a) w) := by
  obtain ⟨z00, c00, f00⟩ := h.blk
  have k10 : w.cell? ⟨p, 1, none⟩ = some (.int .i64 (a : Int)) := c00 1
  clear c00
  have hal := h.le
  have hll := h.len
  have hmc := more_cell
  have hmf := more_frozen
  have hml := more_lt
  go_enter Try.func81, Try.ntmps81
  go_wp2
  refine wp_fresh ?_
  intro w1 hb1
  have hB1 : Below w.heap.size w w1 := ((balloc w _).trans ((balloc _ _).mono (by simp))).trans (hb1.mono (by simp; omega))
  have Q1 : Blk w1 w.heap.size #[.pointer (some ⟨p, 0, none⟩)] := (Blk.alloc (Blk.fresh _ _ _) _).below hb1
  have Q0 : Blk w1 (w.heap.size + 1) #[.int .i64 (a : Int)] := (Blk.at _ _ _ _ (by simp)).below hb1
  have hT1 := h.below hB1
  obtain ⟨q, hq⟩ : ∃ q, q = w.heap.size := ⟨_, rfl⟩
  rw [← hq] at Q1 Q0
  rw [← hq]
  have hpq : p < q := by omega
  have hown : ∀ b, v.ownBlock = some b → b < q := fun b hb => by rw [hq]; exact (row_lt h.row hb).1
  have HQ := Lib.hid hq
  have HO := Lib.hid hown
  have HM0 : Hid (Mod (· = p) w w1) := Lib.hid (Mod.of_below hB1)
  clear k10 f00 hb1 hB1 hq hown h z00
  go_loopw [6, 7] (fun x s wr => ∃ i m b : Nat, s = .int .i64 (i : Nat) ∧ x = .int .i64 (m : Nat) ∧ i ≤ 12 ∧ m < 2 ^ (5 * i) ∧ Tp wr base p v L b ∧ Mod (· = p) w wr ∧ Blk wr q #[.pointer (some ⟨p, 0, none⟩)] ∧ Blk wr (q + 1) #[.int .i64 (a : Int)] ∧ varR L (13 - i) i m b = varG L a) (fun _ s _ => (65 - intOf s).toNat)
  case atStart => exact ⟨0, 0, a, rfl, rfl, by omega, by omega, hT1, HM0.out, Q1, Q0, rfl⟩
  case round =>
    clear Q1 Q0 hT1
    obtain ⟨i, m, b, rfl, rfl, hi, hm, hR, hM, Q1, Q0, hv⟩ := hrel
    have HV := Lib.hid hv
    have HM := Lib.hid hm
    clear hv hm
    obtain ⟨s, hs⟩ : ∃ s, s = 5 * i := ⟨_, rfl⟩
    have hs5 : 5 * (i : Int) = (s : Int) := by omega
    have HS5 := Lib.hid hs
    obtain ⟨f, hf⟩ : ∃ f, 13 - i = f + 1 := ⟨12 - i, by omega⟩
    have HF := Lib.hid hf
    clear hf hs
    obtain ⟨A, cap, hvv⟩ := tp_form hR
    have HVV := Lib.hid hvv
    obtain ⟨N, hN⟩ : ∃ N, N = L.length := ⟨_, rfl⟩
    have HN := Lib.hid hN
    obtain ⟨z0, c0, f0⟩ := hR.blk
    have k0 : wr.cell? ⟨p, 0, none⟩ = some (.slice A N cap) := by rw [hN, ← hvv]; exact c0 0
    have k1 : wr.cell? ⟨p, 1, none⟩ = some (.int .i64 (b : Int)) := c0 1
    have q1 : wr.cell? ⟨q, 0, none⟩ = some (.pointer (some ⟨p, 0, none⟩)) := Q1.cell 0
    have zq := Q1.lt
    have hbN : b ≤ N := by rw [hN]; exact hR.le
    have hNN : N ≤ 1000000 := by omega
    clear c0 hN hvv hs5
    by_cases hb6 : N < b + 6
    · have hb6' : (b : Int) + 6 > (N : Int) := by omega
      have hfin : varD L a = (0, 8, a) := by
        have := HV.out
        rw [HF.out, varR, if_pos (by rw [← HN.out]; exact hb6)] at this
        exact varD_err this.symm
      have HFIN := Lib.hid hfin
      clear hfin
      go_wp2
      refine region_quiet_all (by kernel_rfl) (by kernel_rfl) ?_
      repeat (go_big_quiet_step (fail))
      refine wpQuiet_nil ?_
      rintro w2 hw2
      have hb2 := after_below hw2
      clear hw2
      go_wp2_with fail
      refine (tfail_c base p a b (q + 1) q 8 v L _ (hR.below hb2) (Q0.below hb2) (Q1.below hb2) hal).mono ?_
      rintro e w3 ⟨rfl, hR3, hM3⟩
      go_wp2
      go_ret2
      exact tdet HFIN.out rfl ⟨hR3, (hM.below hb2).trans hM3⟩
    · have hb6' : ¬ (b : Int) + 6 > (N : Int) := by omega
      have hbL : b + 6 ≤ L.length := by have := HN.out; omega
      go_wp2
      refine region_quiet_all (by kernel_rfl) (by kernel_rfl) ?_
      repeat (go_big_quiet_step (fail))
      refine wpQuiet_nil ?_
      rintro w2 hw2
      have hb2 := after_below hw2
      clear hw2
      have hR2 := hR.below hb2
      have Q12 := Q1.below hb2
      have Q02 := Q0.below hb2
      have hM2 := hM.below hb2
      have q12 : w2.cell? ⟨q, 0, none⟩ = some (.pointer (some ⟨p, 0, none⟩)) := Q12.cell 0
      clear k0 k1 q1 f0 z0 zq hR Q1 Q0 hM hb2
      go_wp2_with fail
      refine (tget_ok base p b 1 v L _ hR2 (by omega) (by omega)).mono ?_
      rintro e w3 ⟨rfl, hR3, hM3⟩
      have Q13 := Q12.mod hM3 (by omega)
      have Q03 := Q02.mod hM3 (by omega)
      have hM3' := hM2.trans hM3
      have q13 : w3.cell? ⟨q, 0, none⟩ = some (.pointer (some ⟨p, 0, none⟩)) := Q13.cell 0
      clear q12 hR2 Q12 Q02 hM2 hM3 hb6' hb6
      go_wp2_with fail
      refine (tget_ok base p (b + 1) 5 v L _ hR3 (by omega) (by omega)).mono ?_
      rintro e w4 ⟨rfl, hR4, hM4⟩
      have Q14 := Q13.mod hM4 (by omega)
      have Q04 := Q03.mod hM4 (by omega)
      have hM5 := hM3'.trans hM4
      have q14 : w4.cell? ⟨q, 0, none⟩ = some (.pointer (some ⟨p, 0, none⟩)) := Q14.cell 0
      clear q13 hR3 Q13 Q03 hM3' hM4
      have hp1 := getV_lt hR4.bin b 1
      have hp5 := getV_lt hR4.bin (b + 1) 5
      have hp6 := getV_split hbL
      obtain ⟨c1, hc1⟩ : ∃ c, c = getV L b 1 := ⟨_, rfl⟩
      obtain ⟨c, hc⟩ : ∃ c, c = getV L (b + 1) 5 := ⟨_, rfl⟩
      rw [← hc1] at hp1 hp6
      rw [← hc] at hp5 hp6
      rw [← hc, ← hc1]
      have H6 := Lib.hid hp6
      have hR5 : Tp w4 base p v L (b + 6) := hR4
      clear hc hc1 hp6 hR4
      have hc2 : c1 < 2 := hp1
      have hc32 : c < 32 := hp5
      clear hp1 hp5
      by_cases hbad : i = 12 ∧ (c1 = 1 ∨ 3 < c) ∨ 0 < i ∧ c1 = 0 ∧ c = 0
      · have hfin : varD L a = (0, 3, a) := by
          have := HV.out
          rw [HF.out, varR, if_neg (by omega)] at this
          simp only [H6.out] at this
          rw [if_pos (by omega)] at this
          exact varD_err this.symm
        have HFIN := Lib.hid hfin
        clear hfin
        have hOR : ((i = 12 ∧ c1 = 1) ∨ (i = 12 ∧ c1 ≠ 1 ∧ 3 < c)) ∨ ((i = 12 ∧ c1 ≠ 1 ∧ ¬ 3 < c ∧ c1 = 0 ∧ c = 0) ∨ (i ≠ 12 ∧ 0 < i ∧ c1 = 0 ∧ c = 0)) := by omega
        have fin : ∀ w4, Tp w4 base p v L (b + 6) → Blk w4 q #[.pointer (some ⟨p, 0, none⟩)] → Blk w4 (q + 1) #[.int .i64 (a : Int)] → Mod (· = p) w w4 → True := fun _ _ _ _ _ => trivial
        clear fin hbad
        rcases hOR with (⟨j1, j2⟩ | ⟨j1, j2, j3⟩) | (⟨j1, j2, j3, j4, j5⟩ | ⟨j1, j2, j3, j4⟩)
        · have e1 : ((i : Int) == 12) = true := by simp; omega
          have e2 : ((c1 : Int) == 1) = true := by simp; omega
          clear j1 j2
          go_wp2_with fail
          refine (tfail_c base p a (b + 6) (q + 1) q 3 v L _ hR5 Q04 Q14 hal).mono ?_
          rintro e w5 ⟨rfl, hR6, hM6⟩
          go_wp2
          go_ret2
          exact tdet HFIN.out rfl ⟨hR6, hM5.trans hM6⟩
        · have e1 : ((i : Int) == 12) = true := by simp; omega
          have e2 : ((c1 : Int) == 1) = false := by simp; omega
          have e3 : (c : Int) > 3 := by omega
          clear j1 j2 j3
          go_wp2_with fail
          refine (tfail_c base p a (b + 6) (q + 1) q 3 v L _ hR5 Q04 Q14 hal).mono ?_
          rintro e w5 ⟨rfl, hR6, hM6⟩
          go_wp2
          go_ret2
          exact tdet HFIN.out rfl ⟨hR6, hM5.trans hM6⟩
        · have e1 : ((i : Int) == 12) = true := by simp; omega
          have e2 : ((c1 : Int) == 1) = false := by simp; omega
          have e3 : ¬ (c : Int) > 3 := by omega
          have e4 : (i : Int) > 0 := by omega
          have e5 : ((c1 : Int) == 0) = true := by simp; omega
          have e6 : ((c : Int) == 0) = true := by simp; omega
          clear j1 j2 j3 j4 j5
          go_wp2_with fail
          refine (tfail_c base p a (b + 6) (q + 1) q 3 v L _ hR5 Q04 Q14 hal).mono ?_
          rintro e w5 ⟨rfl, hR6, hM6⟩
          go_wp2
          go_ret2
          exact tdet HFIN.out rfl ⟨hR6, hM5.trans hM6⟩
        · have e1 : ((i : Int) == 12) = false := by simp; omega
          have e4 : (i : Int) > 0 := by omega
          have e5 : ((c1 : Int) == 0) = true := by simp; omega
          have e6 : ((c : Int) == 0) = true := by simp; omega
          clear j1 j2 j3 j4
          go_wp2_with fail
          refine (tfail_c base p a (b + 6) (q + 1) q 3 v L _ hR5 Q04 Q14 hal).mono ?_
          rintro e w5 ⟨rfl, hR6, hM6⟩
          go_wp2
          go_ret2
          exact tdet HFIN.out rfl ⟨hR6, hM5.trans hM6⟩
      · obtain ⟨y, hy⟩ : ∃ y, y = c * 2 ^ s := ⟨_, rfl⟩
        obtain ⟨m2, hm2⟩ : ∃ m2, m2 = m + y := ⟨_, rfl⟩
        have hsm : y < 2 ^ 62 := by
          rw [hy]
          have hs := HS5.out
          by_cases h12 : i = 12
          · have h3 : c ≤ 3 := by omega
            have : c * 2 ^ s ≤ 3 * 2 ^ 60 := Nat.mul_le_mul (by omega) (Nat.pow_le_pow_right (by omega) (by omega))
            omega
          · have : c * 2 ^ s ≤ 31 * 2 ^ 55 := Nat.mul_le_mul (by omega) (Nat.pow_le_pow_right (by omega) (by omega))
            omega
        have hmm : m < 2 ^ 60 := Nat.lt_of_lt_of_le HM.out (Nat.pow_le_pow_right (by omega) (by have := HS5.out; omega))
        have hwr : wrap64 ((c : Int) * 2 ^ s) = (y : Int) := by
          have ecast : ((c * 2 ^ s : Nat) : Int) = (c : Int) * 2 ^ s := by simp
          rw [← ecast, ← hy]
          exact IntWalk.wrap64_in (y : Int) (by omega)
        have hsum : (m : Int) + (y : Int) = (m2 : Int) := by omega
        have hyb : y < 4611686018427387904 := by omega
        have hmb : m < 1152921504606846976 := by omega
        have hs5 : 5 * (i : Int) = (s : Int) := by have := HS5.out; omega
        have hs60 : s ≤ 60 := by have := HS5.out; omega
        have hstep : varG L a = if c1 = 0 then .ok (m2, b + 6) else varR L f (i + 1) m2 (b + 6) := by
          have := HV.out
          rw [HF.out, varR, if_neg (by omega)] at this
          simp only [H6.out] at this
          have e32 : (c1 * 32 + c) % 32 = c := by omega
          rw [if_neg (by omega), e32, ← HS5.out, ← hy, ← hm2] at this
          rw [← this]
          by_cases hz : c1 = 0
          · rw [if_pos hz, if_pos (by omega)]
          · rw [if_neg hz, if_neg (by omega)]
        have hm2b : m2 < 2 ^ (5 * (i + 1)) := by
          have := varR_bd i m c HM.out
          rw [hm2, hy, HS5.out]
          rwa [Nat.mod_eq_of_lt hc32] at this
        have HST := Lib.hid hstep
        have HM2B := Lib.hid hm2b
        have HYC := Lib.hid hy
        clear hy hm2 hsm hmm hstep hm2b
        have fin : (if c1 = 0 then True else True) := by split <;> trivial
        clear fin
        by_cases h0 : i = 0
        · obtain rfl : s = 0 := by have := HS5.out; omega
          subst h0
          obtain rfl : y = c := by
            have := HYC.out
            simpa using this
          clear hs5 hbad hwr
          by_cases hz : c1 = 0
          · subst hz
            go_wp2
            go_ret2
            refine tdet (n := m2) (x := 0) (a := b + 6) ?_ rfl ⟨hR5, hM5⟩
            exact varD_ok (by simpa using HST.out)
          · obtain rfl : c1 = 1 := by omega
            clear hz
            go_wp2
            go_roundw
            case rel =>
              refine ⟨0 + 1, m2, b + 6, by go_num, rfl, by omega, HM2B.out, hR5, hM5, Q14, Q04, ?_⟩
              rw [HST.out, if_neg (by omega)]
              have e13 : 13 - (0 + 1) = f := by have := HF.out; omega
              rw [e13]
            case measure => first | (simp [intOf]; done) | (simp [intOf]; omega)
        · have e4 : (i : Int) > 0 := by omega
          by_cases hz : c1 = 0
          · subst hz
            have e6 : ((c : Int) == 0) = false := by simp; omega
            by_cases h12 : i = 12
            · have e1 : ((i : Int) == 12) = true := by simp; omega
              have e3 : ¬ (c : Int) > 3 := by omega
              clear hbad h0 h12
              go_wp2
              go_ret2
              refine tdet (n := m2) (x := 0) (a := b + 6) ?_ rfl ⟨hR5, hM5⟩
              exact varD_ok (by simpa using HST.out)
            · have e1 : ((i : Int) == 12) = false := by simp; omega
              clear hbad h0 h12
              go_wp2
              go_ret2
              refine tdet (n := m2) (x := 0) (a := b + 6) ?_ rfl ⟨hR5, hM5⟩
              exact varD_ok (by simpa using HST.out)
          · obtain rfl : c1 = 1 := by omega
            have h12 : i < 12 := by omega
            have e1 : ((i : Int) == 12) = false := by simp; omega
            clear hbad h0 hz
            go_wp2
            go_roundw
            case rel =>
              refine ⟨i + 1, m2, b + 6, by go_num, rfl, by omega, HM2B.out, hR5, hM5, Q14, Q04, ?_⟩
              rw [HST.out, if_neg (by omega)]
              have e13 : 13 - (i + 1) = f := by have := HF.out; omega
              rw [e13]
            case measure => first | (simp [intOf]; done) | (simp [intOf]; omega)

theorem tint_c (base p a : Nat) (v : Value) (L : List Nat) (w : World) (h : Tp w base p v L a) : Calls Try.prog 85 #[.pointer (some ⟨p, 0, none⟩)] w (TDet base p v L (intD L a) w) := by
  obtain ⟨z00, c00, f00⟩ := h.blk
  have k10 : w.cell? ⟨p, 1, none⟩ = some (.int .i64 (a : Int)) := c00 1
  clear c00
  have hal := h.le
  have hD : TDet base p v L (varD L a) w = TDet base p v L (match varG L a with | .error x => (0, x, a) | .ok (n, a') => ((n : Int), 0, a')) w := rfl
  have hcv := tvar_c base p a v L w h
  rw [hD] at hcv
  clear hD
  have hi : intD L a = match varG L a with | .error x => (0, x, a) | .ok (n, a') => if 2305843009213693952 < n then (0, 3, a) else (zag n, 0, a') := by
    unfold intD intG
    cases varG L a with
    | error x => rfl
    | ok q =>
      by_cases hq : 2305843009213693952 < q.1
      · simp only [if_pos hq]
      · simp only [if_neg hq]
  cases hv : varG L a with
  | error x =>
    rw [hv] at hcv hi
    have hx : ((x : Int) != 0) = true := by rcases varG_err hv with e | e <;> subst e <;> rfl
    simp only at hi
    have HI := Lib.hid hi
    clear hv hi
    go_enter Try.func85, Try.ntmps85
    go_wp2_with fail
    refine hcv.mono ?_
    rintro e w1 ⟨rfl, hR1, hM1⟩
    go_wp2
    go_ret2
    exact tdet HI.out rfl ⟨hR1, hM1⟩
  | ok q =>
    obtain ⟨n, a'⟩ := q
    rw [hv] at hcv hi
    simp only at hi
    clear hv
    by_cases hn : 2305843009213693952 < n
    · have hn' : (n : Int) > 2305843009213693952 := by omega
      rw [if_pos hn] at hi
      have HI := Lib.hid hi
      clear hi
      go_enter Try.func85, Try.ntmps85
      go_wp2_with fail
      refine hcv.mono ?_
      rintro e w1 ⟨rfl, hR1, hM1⟩
      obtain ⟨z1, c1, f1⟩ := hR1.blk
      have k1 : w1.cell? ⟨p, 1, none⟩ = some (.int .i64 (a' : Int)) := c1 1
      clear c1
      go_wp2
      go_ret2
      exact tdet HI.out rfl ⟨hR1.goto (Below.refl _ _) hal rfl, hM1.set (.inl rfl)⟩
    · have hn' : ¬ (n : Int) > 2305843009213693952 := by omega
      rw [if_neg hn] at hi
      have HI := Lib.hid hi
      clear hi
      by_cases ho : n % 2 = 1
      · have ho' : ((n : Int) % 2 == 0) = false := by simp; omega
        obtain ⟨k, hk⟩ : ∃ k, n = 2 * k + 1 := ⟨n / 2, by omega⟩
        have hk2 : (n : Int) / 2 = (k : Int) := by omega
        have hz : zag n = -(k : Int) - 1 := by unfold zag; rw [if_pos ho]; omega
        have HZ := Lib.hid hz
        have hkb : k < 2305843009213693952 := by omega
        clear hz hk hn
        go_enter Try.func85, Try.ntmps85
        go_wp2_with fail
        refine hcv.mono ?_
        rintro e w1 ⟨rfl, hP⟩
        go_wp2
        go_ret2
        exact tdet (HI.out.trans (by rw [HZ.out])) rfl hP
      · have ho' : ((n : Int) % 2 == 0) = true := by simp; omega
        have hz : zag n = (n : Int) / 2 := by
          unfold zag
          rw [if_neg ho]
          omega
        have HZ := Lib.hid hz
        clear hz
        go_enter Try.func85, Try.ntmps85
        go_wp2_with fail
        refine hcv.mono ?_
        rintro e w1 ⟨rfl, hP⟩
        go_wp2
        go_ret2
        exact tdet (HI.out.trans (by rw [HZ.out])) rfl hP

end Go.Proofs.Ytefhmbmbhiehdaa
