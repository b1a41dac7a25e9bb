/- The contracts of bits.Reader. Conditions: none. -/
import Derived.Test.YtnkinnfpebploaaDoorBits2
import Derived.IntWalk
namespace Go.Proofs.YtnkinnfpebploaaDoor
open Go.ChangeShapes Go.WideShapes Go.ChangeAt Go.RowKit Go.BigFrame
open B
theorem balloc (w : World) (o : Obj) : Below w.heap.size w (w.alloc o) := (Below.refl _ _).alloc (Nat.le_refl _) o
/-- the slice value v reads as the bytes l -/
def Src (w : World) (v : Value) (l : List Nat) : Prop :=
  (v = .slice none 0 0 ∧ l = []) ∨ ∃ ad cap, v = .slice (some ad) l.length cap ∧ ∀ j u, (u8s l)[j]? = some u → w.cell? (ad.add j) = some u
theorem lt_cell {w : World} {a : Addr} {v : Value} (h : w.cell? a = some v) : a.block < w.heap.size := by
  unfold World.cell? at h
  cases hb : w.heap[a.block]? with
  | none => rw [hb] at h; cases h
  | some o => exact (Array.getElem?_eq_some_iff.1 hb).1
theorem Src.below {w w' : World} {v : Value} {l : List Nat} (h : Src w v l) (k : Below w.heap.size w w') : Src w' v l := by
  rcases h with h | ⟨ad, cap, hv, hc⟩
  · exact .inl h
  · exact .inr ⟨ad, cap, hv, fun j u hu => (k.cell (p := ad.add j) (lt_cell (hc j u hu))).trans (hc j u hu)⟩
theorem Src.of_bs {w : World} {base : Nat} {v : Value} {l : List Nat} (h : Bs w base v l) : Src w v l := by
  obtain ⟨hr, hn⟩ := h
  rcases hr.2 with ⟨rfl, _⟩ | ⟨g, cap, cur, rfl, _⟩
  · exact absurd rfl hn
  · exact .inr ⟨_, cap, rfl, fun j u hu => row_cells hr j u hu⟩
/-- the reader at block p has the bytes l, and is at bit a -/
structure Rd (w : World) (base p : Nat) (v : Value) (l : List Nat) (a : Nat) : Prop where
  blk : Blk w p #[v, .int .i64 (a : Int)]
  row : w.ownsRow base 5 1 v l.length (u8s l)
  ne : v.ownBlock ≠ some p
  ok : ∀ b ∈ l, b < 256
  len : l.length ≤ 1000000
  le : a ≤ 8 * l.length
theorem Rd.mod {w w' : World} {base p a : Nat} {v : Value} {l : List Nat} {S : Nat → Prop} (h : Rd w base p v l a) (k : Mod S w w') (h1 : ¬ S p) (h2 : ∀ b, v.ownBlock = some b → ¬ S b) : Rd w' base p v l a :=
  ⟨h.blk.mod k h1, row_mod h.row k h2, h.ne, h.ok, h.len, h.le⟩
theorem Rd.below {w w' : World} {base p a : Nat} {v : Value} {l : List Nat} (h : Rd w base p v l a) (k : Below w.heap.size w w') : Rd w' base p v l a :=
  h.mod (S := fun _ => False) (Mod.of_below k) id fun _ _ => id
theorem Rd.goto {w w' : World} {base p a a' : Nat} {v : Value} {l : List Nat} (h : Rd w base p v l a) (k : Below w.heap.size w w') (hl : a' ≤ 8 * l.length) {x : Int} (hx : x = a') : Rd (w'.setCell ⟨p, 1, none⟩ (.int .i64 x)) base p v l a' := by
  subst hx
  exact ⟨blk_set2 (h.blk.below k), row_far (row_below h.row k) h.ne, h.ne, h.ok, h.len, hl⟩
def RdPost (base p : Nat) (v : Value) (l : List Nat) (a : Nat) (w w' : World) : Prop := Rd w' base p v l a ∧ Mod (· = p) w w'
theorem left_c (base p a : Nat) (v : Value) (l : List Nat) (w : World) (h : Rd w base p v l a) : Calls Tryd.prog 44 #[.pointer (some ⟨p, 0, none⟩)] w fun e w' => e = .returned (.int .i64 (8 * l.length - a : Int)) ∧ Below w.heap.size w w' := by
  obtain ⟨z0, c0, f0⟩ := h.blk
  have k0 : w.cell? ⟨p, 0, none⟩ = some v := c0 0
  have k1 : w.cell? ⟨p, 1, none⟩ = some (.int .i64 (a : Int)) := c0 1
  clear c0
  have h1 := h.len
  have h2 := h.le
  have hv : ∃ A cap, v = .slice A l.length cap := by
    rcases h.row.2 with ⟨rfl, h3⟩ | ⟨g, cap, cur, rfl, _⟩
    · exact ⟨none, 0, by rw [h3]⟩
    · exact ⟨_, cap, rfl⟩
  obtain ⟨A, cap, rfl⟩ := hv
  clear h
  have hmc := more_cell
  have hmf := more_frozen
  have hml := more_lt
  go_enter Tryd.func44, Tryd.ntmps44
  go_wp2
  refine region_quiet_all (by kernel_rfl) (by kernel_rfl) ?_
  repeat (go_big_quiet_step (fail))
  refine wpQuiet_nil ?_
  rintro w1 hw1
  have hb1 := after_below hw1
  clear hw1
  go_wp2
  go_ret
  exact ⟨rfl, hb1⟩
theorem get_bad (n : Int) (x : Option Addr) (w : World) (hn : n < 0 ∨ 62 < n) : Calls Tryd.prog 39 #[.pointer x, .int .i64 n] w fun e w' => e = .returned (.tuple #[.int .i64 0, .iface 25 (.int .i64 2)]) ∧ w = w' := by
  rcases hn with h | h
  · go_enter Tryd.func39, Tryd.ntmps39
    go_wp2
    go_ret2
    exact ⟨rfl, rfl⟩
  · have h' : ¬ n < 0 := by omega
    go_enter Tryd.func39, Tryd.ntmps39
    go_wp2
    go_ret2
    exact ⟨rfl, rfl⟩
theorem get_none (base p a n : Nat) (v : Value) (l : List Nat) (w : World) (h : Rd w base p v l a) (hn : n ≤ 62) (hl : 8 * l.length < a + n) :
    Calls Tryd.prog 39 #[.pointer (some ⟨p, 0, none⟩), .int .i64 n] w fun e w' => e = .returned (.tuple #[.int .i64 0, .iface 25 (.int .i64 8)]) ∧ Below w.heap.size w w' := by
  have h1 := h.len
  have h2 := h.le
  go_enter Tryd.func39, Tryd.ntmps39
  go_wp2_with fail
  refine (left_c base p a v l _ h).mono ?_
  rintro e w1 ⟨rfl, hb1⟩
  have hlt : (n : Int) > 8 * (l.length : Int) - a := by omega
  go_wp2
  go_ret2
  exact ⟨rfl, hb1⟩

set_option maxHeartbeats 1000000 in
theorem get_ok (base p a n : Nat) (v : Value) (l : List Nat) (w : World) (h : Rd w base p v l a) (hn : n ≤ 62) (hl : a + n ≤ 8 * l.length) :
    Calls Tryd.prog 39 #[.pointer (some ⟨p, 0, none⟩), .int .i64 n] w fun e w' => e = .returned (.tuple #[.int .i64 (getV (openL l) a n : Nat), .nilIface]) ∧ RdPost base p v l (a + n) w w' := by
  have h1 := h.len
  have h2 := h.le
  have hmc := more_cell
  have hmf := more_frozen
  have hml := more_lt
  go_enter Tryd.func39, Tryd.ntmps39
  go_wp2_with fail
  refine (left_c base p a v l _ h).mono ?_
  rintro e w1 ⟨rfl, hb1⟩
  have hlt : ¬ (n : Int) > 8 * (l.length : Int) - a := by omega
  go_wp2
  clear hlt
  go_loopw [6, 20] (fun x i wr => ∃ k : Nat, k ≤ n ∧ i = .int .i64 k ∧ x = .int .i64 (getV (openL l) a k : Nat) ∧ Rd wr base p v l (a + k) ∧ Mod (· = p) w wr) (fun _ i _ => n - (intOf i).toNat)
  case atStart => exact ⟨0, by omega, rfl, by rw [getV_zero]; rfl, h.below hb1, Mod.of_below hb1⟩
  case round =>
    obtain ⟨k, hk, rfl, rfl, hR, hM⟩ := hrel
    by_cases hlt : k < n
    · obtain ⟨z0, c0, f0⟩ := hR.blk
      have k0 : wr.cell? ⟨p, 0, none⟩ = some v := c0 0
      have k1 : wr.cell? ⟨p, 1, none⟩ = some (.int .i64 ((a + k : Nat) : Int)) := c0 1
      clear c0
      obtain ⟨m, hm⟩ : ∃ m, m = a + k := ⟨_, rfl⟩
      obtain ⟨q, hq⟩ : ∃ q : Nat, q = m / 8 := ⟨_, rfl⟩
      obtain ⟨r, hr⟩ : ∃ r : Nat, r = m % 8 := ⟨_, rfl⟩
      have hqi : (m : Int) / 8 = (q : Int) := by omega
      have hri : (m : Int) % 8 = (r : Int) := by omega
      have hr7 : r ≤ 7 := by omega
      obtain ⟨g, cap, rfl, g1, g2, g3, g4, g5, g6, _⟩ := row_at hR.row (by omega)
      obtain ⟨N, hN⟩ : ∃ N, N = l.length := ⟨_, rfl⟩
      have hqN : q < N := by omega
      obtain ⟨x, hx⟩ : ∃ x, l[q]? = some x := ⟨_, List.getElem?_eq_getElem (by omega)⟩
      have hx8 : x < 256 := hR.ok x (List.mem_of_getElem? hx)
      have hc := g6 q (.int .u8 (x : Nat)) (by unfold u8s; rw [List.getElem?_map, hx]; rfl)
      have hf := g5 q
      have hbit := openL_get l q r x hx (by omega)
      rw [show 8 * q + r = a + k by omega] at hbit
      have hsucc := getV_succ hbit
      have hle := getV_lt (openL_bin l) a k
      have hpk : 2 ^ k ≤ 2 ^ 61 := Nat.pow_le_pow_right (by omega) (by omega)
      have hgb := get_bit x r hx8
      have hb2 : x / 2 ^ (7 - r) % 2 < 2 := Nat.mod_lt _ (by omega)
      obtain ⟨b, hbb⟩ : ∃ b, b = x / 2 ^ (7 - r) % 2 := ⟨_, rfl⟩
      obtain ⟨y, hy⟩ : ∃ y, y = getV (openL l) a k := ⟨_, rfl⟩
      rw [← hbb] at hgb hb2 hsucc
      rw [← hy] at hsucc hle
      have hyl : y < 2305843009213693952 := by omega
      have hor := or_low y b (by omega) hb2
      obtain ⟨y2, hy2⟩ : ∃ y2, y2 = 2 * y + b := ⟨_, rfl⟩
      rw [← hy2, show ((2 * y : Nat) : Int) = (y : Int) * 2 by omega] at hor
      rw [← hN] at k0 g3
      rw [← hm] at k1
      have hN2 : N ≤ 1000000 := by omega
      have HM1 := Lib.hid hm
      have HQ := Lib.hid hq
      have HR := Lib.hid hr
      have HN := Lib.hid hN
      have HX := Lib.hid hx
      have HB := Lib.hid hbb
      have HS := Lib.hid hsucc
      have HY2 := Lib.hid hy2
      rw [← hy]
      have HY := Lib.hid hy
      have hm3 : m ≤ 8000000 := by omega
      clear hm hq hr hN hx hbb hsucc hy hy2 g6 g5 hbit hle hpk
      go_wp2
      refine region_quiet_all (by kernel_rfl) (by kernel_rfl) ?_
      repeat (go_big_quiet_step (fail))
      refine wpQuiet_nil ?_
      rintro w2 hw2
      have hb2 := after_below hw2
      clear hw2
      have z2 := Nat.lt_of_lt_of_le z0 hb2.size
      have k12 := (hb2.cell (p := ⟨p, 1, none⟩) z0).trans k1
      have f02 := fun o => (hb2.frozen (p := ⟨p, o, none⟩) z0).trans (f0 o)
      go_wp2
      go_roundw
      case rel =>
        refine ⟨k + 1, by omega, by go_num, ?_, ?_, ?_⟩
        · have := HS.out
          rw [← HY2.out] at this
          rw [this]
        · exact hR.goto hb2 (by omega) (by have := HM1.out; omega)
        · exact (hM.below hb2).set (.inl rfl)
      case measure => first | (simp [intOf]; done) | (simp [intOf]; omega)
    · obtain rfl : k = n := by omega
      go_wp2
      go_ret2
      exact ⟨rfl, hR, hM⟩

def VarPost (base p : Nat) (v : Value) (l : List Nat) (a : Nat) (w : World) (e : Ending) (w' : World) : Prop :=
  match varG (openL l) a with
  | .error x => e = .returned (.tuple #[.int .i64 0, .iface 25 (.int .i64 x)]) ∧ RdPost base p v l a w w'
  | .ok (n, a') => e = .returned (.tuple #[.int .i64 (n : Nat), .nilIface]) ∧ RdPost base p v l a' w w'
theorem varPost_err {base p a : Nat} {v : Value} {l : List Nat} {w w' : World} {e : Ending} {x : Int} (h : varG (openL l) a = .error x) (he : e = .returned (.tuple #[.int .i64 0, .iface 25 (.int .i64 x)])) (hp : RdPost base p v l a w w') : VarPost base p v l a w e w' := by
  unfold VarPost; rw [h]; exact ⟨he, hp⟩
theorem varPost_ok {base p a a' n : Nat} {v : Value} {l : List Nat} {w w' : World} {e : Ending} (h : varG (openL l) a = .ok (n, a')) (he : e = .returned (.tuple #[.int .i64 (n : Nat), .nilIface])) (hp : RdPost base p v l a' w w') : VarPost base p v l a w e w' := by
  unfold VarPost; rw [h]; exact ⟨he, hp⟩
set_option maxHeartbeats 2000000 in
theorem rvar_c (base p a : Nat) (v : Value) (l : List Nat) (w : World) (h : Rd w base p v l a) : Calls Tryd.prog 41 #[.pointer (some ⟨p, 0, none⟩)] w (VarPost base p v l a w) := by
  obtain ⟨z00, c00, f00⟩ := h.blk
  have k10 : w.cell? ⟨p, 1, none⟩ = some (.int .i64 (a : Int)) := c00 1
  clear c00
  have hal := h.le
  have hll := h.len
  go_enter Tryd.func41, Tryd.ntmps41
  go_wp2
  clear k10 f00
  go_loopw [5, 6] (fun x s wr => ∃ i m b : Nat, s = .int .i64 (5 * i : Nat) ∧ x = .int .i64 (m : Nat) ∧ i ≤ 12 ∧ m < 2 ^ (5 * i) ∧ Rd wr base p v l b ∧ Mod (· = p) w wr ∧ varR (openL l) (13 - i) i m b = varG (openL l) a) (fun _ s _ => (65 - intOf s).toNat)
  case atStart => exact ⟨0, 0, a, rfl, rfl, by omega, by omega, h, Mod.refl _ _, rfl⟩
  case round =>
    obtain ⟨i, m, b, rfl, rfl, hi, hm, hR, hM, hv⟩ := hrel
    have HV := Lib.hid hv
    have HM := Lib.hid hm
    clear hv hm
    obtain ⟨s, hs⟩ : ∃ s, s = 5 * i := ⟨_, rfl⟩
    rw [← hs]
    obtain ⟨f, hf⟩ : ∃ f, 13 - i = f + 1 := ⟨12 - i, by omega⟩
    have HF := Lib.hid hf
    clear hf
    have hTl := openL_length l
    have HT := Lib.hid hTl
    clear hTl
    by_cases hb6 : 8 * l.length < b + 6
    · go_wp2_with fail
      refine (get_none base p b 6 v l _ hR (by omega) hb6).mono ?_
      rintro e w1 ⟨rfl, hb1⟩
      obtain ⟨z1, c1, f1⟩ := (hR.below hb1).blk
      have k1 : w1.cell? ⟨p, 1, none⟩ = some (.int .i64 (b : Int)) := c1 1
      clear c1
      go_wp2
      go_ret2
      refine varPost_err (x := 8) ?_ rfl ⟨hR.goto hb1 hal rfl, (hM.below hb1).set (.inl rfl)⟩
      have := HV.out
      rw [HF.out, varR, if_pos (by rw [HT.out]; exact hb6)] at this
      exact this.symm
    · go_wp2_with fail
      refine (get_ok base p b 6 v l _ hR (by omega) (by omega)).mono ?_
      rintro e w1 ⟨rfl, hR1, hM1⟩
      obtain ⟨z1, c1, f1⟩ := hR1.blk
      have k1 : w1.cell? ⟨p, 1, none⟩ = some (.int .i64 ((b + 6 : Nat) : Int)) := c1 1
      clear c1
      have hp := getV_lt (openL_bin l) b 6
      obtain ⟨c, hc⟩ : ∃ c, c = getV (openL l) b 6 := ⟨_, rfl⟩
      rw [← hc] at hp
      rw [← hc]
      have HC := Lib.hid hc
      clear hc
      have hM2 : Mod (· = p) w w1 := hM.trans hM1
      by_cases hbad : i = 12 ∧ 3 < c ∨ 0 < i ∧ c = 0
      · have hfin : varG (openL l) a = .error 3 := by
          have := HV.out
          rw [HF.out, varR, if_neg (by rw [HT.out]; omega)] at this
          simp only [← HC.out] at this
          rw [if_pos hbad] at this
          exact this.symm
        have HFIN := Lib.hid hfin
        clear hfin
        by_cases h12 : i = 12
        · have h60 : ((s : Int) == 60) = true := by simp; omega
          by_cases h3 : 3 < c
          · have h3' : (c : Int) > 3 := by omega
            go_wp2
            go_ret2
            exact varPost_err HFIN.out rfl ⟨hR1.goto (Below.refl _ _) hal rfl, hM2.set (.inl rfl)⟩
          · have h3' : ¬ (c : Int) > 3 := by omega
            have h0 : ((c : Int) == 0) = true := by simp; omega
            have hs0 : (s : Int) > 0 := by omega
            go_wp2
            go_ret2
            exact varPost_err HFIN.out rfl ⟨hR1.goto (Below.refl _ _) hal rfl, hM2.set (.inl rfl)⟩
        · have h60 : ((s : Int) == 60) = false := by simp; omega
          have h0 : ((c : Int) == 0) = true := by simp; omega
          have hs0 : (s : Int) > 0 := by omega
          go_wp2
          go_ret2
          exact varPost_err HFIN.out rfl ⟨hR1.goto (Below.refl _ _) hal rfl, hM2.set (.inl rfl)⟩
      · obtain ⟨m2, hm2⟩ : ∃ m2, m2 = m + c % 32 * 2 ^ s := ⟨_, rfl⟩
        have hsm : c % 32 * 2 ^ s < 2 ^ 62 := by
          by_cases h12 : i = 12
          · have h3 : c ≤ 3 := by omega
            have : c % 32 * 2 ^ s ≤ 3 * 2 ^ 60 := Nat.mul_le_mul (by omega) (Nat.pow_le_pow_right (by omega) (by omega))
            omega
          · have : c % 32 * 2 ^ s ≤ 31 * 2 ^ 55 := Nat.mul_le_mul (by omega) (Nat.pow_le_pow_right (by omega) (by omega))
            omega
        have hmm : m < 2 ^ 60 := Nat.lt_of_lt_of_le HM.out (Nat.pow_le_pow_right (by omega) (by omega))
        have h31 := and31 c (by omega)
        obtain ⟨d, hd⟩ : ∃ d, d = c % 32 := ⟨_, rfl⟩
        obtain ⟨y, hy⟩ : ∃ y, y = c % 32 * 2 ^ s := ⟨_, rfl⟩
        have hor := or_high m (c % 32) s (by rw [hs]; exact HM.out) (by omega) (by omega)
        rw [← hm2, ← hy] at hor
        rw [← hd] at h31
        have hwr : wrap64 ((d : Int) * 2 ^ s) = (y : Int) := by
          have ecast : ((c % 32 * 2 ^ s : Nat) : Int) = ((c % 32 : Nat) : Int) * 2 ^ s := by simp
          rw [hd, ← ecast, ← hy]
          exact IntWalk.wrap64_in (y : Int) (by omega)
        have HMB := Lib.hid (show m < 2 ^ (5 * i) from HM.out)
        clear hd hy
        have HM2 := Lib.hid hm2
        have HS5 := Lib.hid hs
        clear hm2 hsm hmm
        by_cases h0 : i = 0
        · obtain rfl : s = 0 := by omega
          simp only [Int.pow_zero, Int.mul_one] at hwr
          clear hs
          by_cases h32 : c < 32
          · have h32' : (c : Int) < 32 := by omega
            go_wp2
            go_ret2
            refine varPost_ok (n := m2) (a' := b + 6) ?_ rfl ⟨hR1, hM2⟩
            have := HV.out
            rw [HF.out, varR, if_neg (by rw [HT.out]; omega)] at this
            simp only [← HC.out] at this
            rw [if_neg hbad, if_pos h32] at this
            rw [← this, HM2.out, HS5.out]
          · have h32' : ¬ (c : Int) < 32 := by omega
            go_wp2
            go_roundw
            case rel =>
              refine ⟨i + 1, m2, b + 6, by have := HS5.out; go_num, rfl, by omega, by rw [HM2.out, HS5.out]; exact varR_bd _ _ _ HM.out, hR1, hM2, ?_⟩
              have := HV.out
              rw [HF.out, varR, if_neg (by rw [HT.out]; omega)] at this
              simp only [← HC.out] at this
              rw [if_neg hbad, if_neg h32, ← HS5.out, ← HM2.out] at this
              have e13 : 13 - (i + 1) = f := by have := HF.out; omega
              rw [e13]
              exact this
            case measure => first | (simp [intOf]; done) | (simp [intOf]; omega)
        · have hs0 : (s : Int) > 0 := by have := HS5.out; omega
          have hsn : s ≤ 60 := by have := HS5.out; omega
          clear hs
          by_cases h12 : i = 12
          · have h60 : ((s : Int) == 60) = true := by have := HS5.out; simp; omega
            have h3 : ¬ (c : Int) > 3 := by omega
            have hc0 : ((c : Int) == 0) = false := by simp; omega
            have h32 : c < 32 := by omega
            have h32' : (c : Int) < 32 := by omega
            go_wp2
            go_ret2
            refine varPost_ok (n := m2) (a' := b + 6) ?_ rfl ⟨hR1, hM2⟩
            have := HV.out
            rw [HF.out, varR, if_neg (by rw [HT.out]; omega)] at this
            simp only [← HC.out] at this
            rw [if_neg hbad, if_pos h32] at this
            rw [← this, HM2.out, HS5.out]
          · have h60 : ((s : Int) == 60) = false := by have := HS5.out; simp; omega
            have hc0 : ((c : Int) == 0) = false := by simp; omega
            by_cases h32 : c < 32
            · have h32' : (c : Int) < 32 := by omega
              go_wp2
              go_ret2
              refine varPost_ok (n := m2) (a' := b + 6) ?_ rfl ⟨hR1, hM2⟩
              have := HV.out
              rw [HF.out, varR, if_neg (by rw [HT.out]; omega)] at this
              simp only [← HC.out] at this
              rw [if_neg hbad, if_pos h32] at this
              rw [← this, HM2.out, HS5.out]
            · have h32' : ¬ (c : Int) < 32 := by omega
              go_wp2
              go_roundw
              case rel =>
                refine ⟨i + 1, m2, b + 6, by have := HS5.out; go_num, rfl, by omega, by rw [HM2.out, HS5.out]; exact varR_bd _ _ _ HM.out, hR1, hM2, ?_⟩
                have := HV.out
                rw [HF.out, varR, if_neg (by rw [HT.out]; omega)] at this
                simp only [← HC.out] at this
                rw [if_neg hbad, if_neg h32, ← HS5.out, ← HM2.out] at this
                have e13 : 13 - (i + 1) = f := by have := HF.out; omega
                rw [e13]
                exact this
              case measure => first | (simp [intOf]; done) | (simp [intOf]; omega)

theorem rvar_err (base p a : Nat) (v : Value) (l : List Nat) (w : World) (h : Rd w base p v l a) (x : Int) (hv : varG (openL l) a = .error x) : Calls Tryd.prog 41 #[.pointer (some ⟨p, 0, none⟩)] w fun e w' => e = .returned (.tuple #[.int .i64 0, .iface 25 (.int .i64 x)]) ∧ RdPost base p v l a w w' :=
  (rvar_c base p a v l w h).mono fun e w' h => by unfold VarPost at h; rw [hv] at h; exact h
theorem rvar_yes (base p a n a' : Nat) (v : Value) (l : List Nat) (w : World) (h : Rd w base p v l a) (hv : varG (openL l) a = .ok (n, a')) : Calls Tryd.prog 41 #[.pointer (some ⟨p, 0, none⟩)] w fun e w' => e = .returned (.tuple #[.int .i64 (n : Nat), .nilIface]) ∧ RdPost base p v l a' w w' :=
  (rvar_c base p a v l w h).mono fun e w' h => by unfold VarPost at h; rw [hv] at h; exact h
def IntPost (base p : Nat) (v : Value) (l : List Nat) (a : Nat) (w : World) (e : Ending) (w' : World) : Prop :=
  match intG (openL l) a with
  | .error x => e = .returned (.tuple #[.int .i64 0, .iface 25 (.int .i64 x)]) ∧ RdPost base p v l a w w'
  | .ok (n, a') => e = .returned (.tuple #[.int .i64 n, .nilIface]) ∧ RdPost base p v l a' w w'
theorem intPost_err {base p a : Nat} {v : Value} {l : List Nat} {w w' : World} {e : Ending} {x : Int} (h : intG (openL l) a = .error x) (he : e = .returned (.tuple #[.int .i64 0, .iface 25 (.int .i64 x)])) (hp : RdPost base p v l a w w') : IntPost base p v l a w e w' := by
  unfold IntPost; rw [h]; exact ⟨he, hp⟩
theorem intPost_ok {base p a a' : Nat} {n : Int} {v : Value} {l : List Nat} {w w' : World} {e : Ending} (h : intG (openL l) a = .ok (n, a')) (he : e = .returned (.tuple #[.int .i64 n, .nilIface])) (hp : RdPost base p v l a' w w') : IntPost base p v l a w e w' := by
  unfold IntPost; rw [h]; exact ⟨he, hp⟩
set_option maxHeartbeats 1000000 in
theorem rint_c (base p a : Nat) (v : Value) (l : List Nat) (w : World) (h : Rd w base p v l a) : Calls Tryd.prog 43 #[.pointer (some ⟨p, 0, none⟩)] w (IntPost base p v l a w) := by
  obtain ⟨z00, c00, f00⟩ := h.blk
  have k10 : w.cell? ⟨p, 1, none⟩ = some (.int .i64 (a : Int)) := c00 1
  clear c00
  have hal := h.le
  match hv : varG (openL l) a with
  | .error x =>
    have HV := Lib.hid hv
    clear hv
    go_enter Tryd.func43, Tryd.ntmps43
    go_wp2_with fail
    refine (rvar_err base p a v l _ h x HV.out).mono ?_
    rintro e w1 ⟨rfl, hP⟩
    go_wp2
    go_ret2
    refine intPost_err (x := x) ?_ rfl hP
    unfold intG
    rw [HV.out]
  | .ok (n, a') =>
    have HV := Lib.hid hv
    clear hv
    by_cases hn : 2305843009213693952 < n
    · have hn' : (n : Int) > 2305843009213693952 := by omega
      go_enter Tryd.func43, Tryd.ntmps43
      go_wp2_with fail
      refine (rvar_yes base p a n a' v l _ h HV.out).mono ?_
      rintro e w1 ⟨rfl, hR1, hM1⟩
      obtain ⟨z1, c1, f1⟩ := hR1.blk
      have k1 : w1.cell? ⟨p, 1, none⟩ = some (.int .i64 (a' : Int)) := c1 1
      clear c1
      go_wp2
      go_ret2
      refine intPost_err (x := 3) ?_ rfl ⟨hR1.goto (Below.refl _ _) hal rfl, hM1.set (.inl rfl)⟩
      unfold intG
      rw [HV.out]
      simp only
      rw [if_pos hn]
    · have hn' : ¬ (n : Int) > 2305843009213693952 := by omega
      have hfin : intG (openL l) a = .ok (zag n, a') := by
        unfold intG
        rw [HV.out]
        simp only
        rw [if_neg hn]
      have HF := Lib.hid hfin
      clear hfin hn
      by_cases ho : n % 2 = 1
      · have ho' : ((n : Int) % 2 == 1) = true := by simp; omega
        have hz : (-((n : Int) + 1)).tdiv 2 = zag n := by
          unfold zag
          rw [if_pos ho, Int.neg_tdiv, Int.tdiv_eq_ediv_of_nonneg (by omega)]
          omega
        have hzw : wrap64 (zag n) = zag n := by
          apply IntWalk.wrap64_in
          unfold zag
          rw [if_pos ho]
          omega
        have HZW := Lib.hid hzw
        clear hzw
        go_enter Tryd.func43, Tryd.ntmps43
        go_wp2_with fail
        refine (rvar_yes base p a n a' v l _ h HV.out).mono ?_
        rintro e w1 ⟨rfl, hP⟩
        go_wp2
        go_ret2
        refine intPost_ok HF.out ?_ hP
        show Ending.returned (.tuple #[.int .i64 (wrap64 (zag n)), .nilIface]) = _
        rw [HZW.out]
      · have ho' : ((n : Int) % 2 == 1) = false := by simp; omega
        have hz : (n : Int) / 2 = zag n := by
          unfold zag
          rw [if_neg ho]
          omega
        go_enter Tryd.func43, Tryd.ntmps43
        go_wp2_with fail
        refine (rvar_yes base p a n a' v l _ h HV.out).mono ?_
        rintro e w1 ⟨rfl, hP⟩
        go_wp2
        go_ret2
        exact intPost_ok HF.out rfl hP
theorem rint_err (base p a : Nat) (v : Value) (l : List Nat) (w : World) (h : Rd w base p v l a) (x : Int) (hv : intG (openL l) a = .error x) : Calls Tryd.prog 43 #[.pointer (some ⟨p, 0, none⟩)] w fun e w' => e = .returned (.tuple #[.int .i64 0, .iface 25 (.int .i64 x)]) ∧ RdPost base p v l a w w' :=
  (rint_c base p a v l w h).mono fun e w' h => by unfold IntPost at h; rw [hv] at h; exact h
theorem rint_yes (base p a a' : Nat) (n : Int) (v : Value) (l : List Nat) (w : World) (h : Rd w base p v l a) (hv : intG (openL l) a = .ok (n, a')) : Calls Tryd.prog 43 #[.pointer (some ⟨p, 0, none⟩)] w fun e w' => e = .returned (.tuple #[.int .i64 n, .nilIface]) ∧ RdPost base p v l a' w w' :=
  (rint_c base p a v l w h).mono fun e w' h => by unfold IntPost at h; rw [hv] at h; exact h
/-- what Read makes -/
def ReadPost (l : List Nat) (w : World) (e : Ending) (w' : World) : Prop := ∃ p v, e = .returned (.pointer (some ⟨p, 0, none⟩)) ∧ w.heap.size ≤ p ∧ Rd w' w.heap.size p v l 0 ∧ Below w.heap.size w w'
set_option maxHeartbeats 1000000 in
theorem read_c (v : Value) (l : List Nat) (w : World) (h : Src w v l) (h8 : ∀ b ∈ l, b < 256) (hl : l.length ≤ 1000000) : Calls Tryd.prog 36 #[v] w (ReadPost l w) := by
  obtain ⟨i0, hi, hz0, hz1, hz2⟩ := info_parts byteInfo
  have HI := Lib.hid hi
  have HZ0 := Lib.hid hz0
  have HZ1 := Lib.hid hz1
  have HZ2 := Lib.hid hz2
  clear hi hz0 hz1 hz2
  rcases h with ⟨rfl, rfl⟩ | ⟨ad, cap, rfl, hc⟩
  · go_enter Tryd.func36, Tryd.ntmps36
    go_wp2_with (at_builtin; refine wpList_append_own_none _ rfl (.tmp 3) (.tmp 4) 22 rfl w.heap.size 5 i0 1 Tryd.underlying22 HI.out (.slice (some ⟨w.heap.size, 0, none⟩) 0 0) 0 [] rfl (own_empty 5 1) rfl ?_)
    clear HI HZ0 HZ1 HZ2
    go_wp2
    go_ret
    refine ⟨_, _, rfl, by simp, ⟨by apply Blk.at; simp, row_below (own_empty 5 1) (balloc _ _), by simp [Value.ownBlock], h8, hl, by omega⟩, (balloc _ _).trans ((balloc _ _).mono (by simp))⟩
  · have hcH := Lib.hid hc
    clear hc
    go_enter Tryd.func36, Tryd.ntmps36
    go_wp2_with (at_builtin; refine wpList_append_own_at _ rfl (.tmp 3) (.tmp 4) 22 rfl w.heap.size 5 i0 (.int .u8 0) 1 1 Tryd.underlying22 HI.out HZ0.out HZ1.out HZ2.out rfl (by decide) (.slice (some ⟨w.heap.size, 0, none⟩) 0 0) 0 [] rfl (own_empty 5 1) ad l.length cap (u8s l) rfl ?c1 ?c2 ?c3 ?c4 ?c5 ?c6 ?_)
    case c1 => rw [u8s_length]; omega
    case c2 =>
      intro j u hu
      rw [World.cell?_alloc_lt _ _ _ (lt_cell (hcH.out j u hu))]
      exact hcH.out j u hu
    case c3 => exact u8s_one _
    case c4 => unfold maxLen; omega
    case c5 => omega
    case c6 => simp
    intro v' w1 hown hgrow _ _
    have hfo : v'.ownBlock ≠ some w1.heap.size := by
      intro e
      have := (row_lt hown e).1
      omega
    have hv' : ∃ A n c, v' = .slice A n c := by
      rcases hown.2 with ⟨h1, _⟩ | ⟨g, cap, cur, h1, _⟩
      · exact ⟨_, _, _, h1⟩
      · exact ⟨_, _, _, h1⟩
    obtain ⟨A, n', c', rfl⟩ := hv'
    have HO := Lib.hid hown
    have HG := Lib.hid hgrow
    have HFO := Lib.hid hfo
    clear hown hgrow HI HZ0 HZ1 HZ2 hfo
    go_wp2
    go_ret
    refine ⟨_, _, rfl, by have := HG.out.size; simp at this ⊢; omega, ⟨by apply Blk.at; simp, row_below (by simpa using HO.out) (balloc _ _), HFO.out, h8, hl, by omega⟩, ?_⟩
    exact ((balloc w _).trans ((mod_grown HG.out).toBelow (by simp) (fun b hb e => by simp only [Value.ownBlock, Option.some.injEq] at e; omega))).trans ((balloc _ _).mono (by have := HG.out.size; simp at this; omega))

end Go.Proofs.YtnkinnfpebploaaDoor
