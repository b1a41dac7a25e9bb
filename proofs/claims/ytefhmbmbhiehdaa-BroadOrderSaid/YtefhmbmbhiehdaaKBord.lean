/- The walk of gyrekeep.BroadOrder. Conditions: none. -/
import Derived.Test.YtefhmbmbhiehdaaKBt16
import Derived.Test.YtefhmbmbhiehdaaKPick
namespace Go.Proofs.Ytefhmbmbhiehdaa
open Go Go.Maps Go.RowKit Go.BigFrame Go.ChangeShapes Go.WideShapes
theorem cells_int : Try.prog.cellsOf 3 = 1 := by kernel_rfl
theorem run_equalIn_pair (d : Nat) (a b c e : Int) (w : World) : (Op.equalIn (d + 2) 89 (.agg #[.int .i64 a, .int .i64 b]) (.agg #[.int .i64 c, .int .i64 e])).run Try.prog w = .ok (a == c && b == e) w := by
  obtain ⟨i, hi, _⟩ := info_three intInfoT
  rw [run_equalIn_array (P := Try.prog) w (d + 1) _ _ Try.underlying89 hi]
  simp only [List.range, List.range.loop, Op.eqItems, cells_int]
  cases h1 : (a == c) <;> cases h2 : (b == e) <;> simp [go_sem, Try.underlying3, h1, h2]
theorem run_neq_pair (a b c e : Int) (w : World) : (binOp .neq 89 (.agg #[.int .i64 a, .int .i64 b]) (.agg #[.int .i64 c, .int .i64 e])).run Try.prog w = .ok (.bool (!(a == c && b == e))) w := by
  rw [run_neq_struct, run_equalIn_pair 9998]
  rfl
theorem run_eql_pair (a b c e : Int) (w : World) : (binOp .eql 89 (.agg #[.int .i64 a, .int .i64 b]) (.agg #[.int .i64 c, .int .i64 e])).run Try.prog w = .ok (.bool (a == c && b == e)) w := by
  rw [run_eql_struct, run_equalIn_pair 9998]
  rfl
def b7 : Bx := ⟨0, 0, 0, 9, 9, 9⟩
def b3 : Bx := ⟨9, 0, 0, 12, 0, 0⟩
def D7 : Int → Option Bx := fun y => if y = 7 then some b7 else none
def D37 : Int → Option Bx := fun y => if y = 3 then some b3 else D7 y
theorem d37_pairs (x y : Int) : PairX D37 x y ↔ (x, y) ∈ [((3 : Int), (7 : Int))] := by
  have e : ∀ z a, D37 z = some a → (z = 3 ∧ a = b3) ∨ (z = 7 ∧ a = b7) := fun z a h => by
    unfold D37 D7 at h
    split at h
    · exact .inl ⟨by assumption, (Option.some.inj h).symm⟩
    · split at h
      · exact .inr ⟨by assumption, (Option.some.inj h).symm⟩
      · cases h
  constructor
  · rintro ⟨h1, a, b, h2, h3, _⟩
    rcases e x a h2 with ⟨rfl, _⟩ | ⟨rfl, _⟩ <;> rcases e y b h3 with ⟨rfl, _⟩ | ⟨rfl, _⟩ <;> first | omega | simp
  · intro h
    have h' : x = 3 ∧ y = 7 := by simpa using h
    obtain ⟨rfl, rfl⟩ := h'
    exact ⟨by omega, b3, b7, rfl, rfl, by decide⟩
set_option maxRecDepth 100000 in
set_option maxHeartbeats 4000000 in
theorem hung_c (w : World) : Calls Try.prog 25 #[] w fun e w' => e = .returned (.bool true) ∧ Below w.heap.size w w' := by
  go_enter Try.func25, Try.ntmps25
  go_wp2_with fail
  refine (bnew_c 5 (by omega) _).mono ?_
  rintro e w1 ⟨t, S, rfl, hb1, hB1, hS1⟩
  have H1 := Lib.hid (And.intro hb1 (And.intro hB1 hS1))
  clear hb1 hB1 hS1
  go_wp2_with fail
  have hp1 := put_c w1 t 7 b7 5 0 _ 0 S H1.out.2.1 (by omega) (by omega) (keyX 7 (by omega) (by omega))
  rw [show errV (putE (fun _ => none) 0 7 b7) = .nilIface from rfl] at hp1
  refine hp1.mono ?_
  rintro e w2 ⟨rfl, hm2, S2, hB2, hS2⟩
  rw [show putD (fun _ => none) 0 7 b7 = D7 from rfl, show putN (fun _ => none) 0 7 b7 = 1 from rfl] at hB2
  have H2 := Lib.hid (And.intro hm2 (And.intro hB2 hS2))
  clear hp1 hm2 hB2 hS2
  go_wp2_with fail
  have hp2 := put_c w2 t 3 b3 5 1 _ 1 S2 H2.out.2.1 (by omega) (by omega) (keyX 3 (by omega) (by omega))
  rw [show errV (putE D7 1 3 b3) = .nilIface from rfl] at hp2
  refine hp2.mono ?_
  rintro e w3 ⟨rfl, hm3, S3, hB3, hS3⟩
  rw [show putD D7 1 3 b3 = D37 from rfl] at hB3
  have H3 := Lib.hid (And.intro hm3 (And.intro hB3 hS3))
  clear hp2 hm3 hB3 hS3
  have hkeys : KeysOk D37 := by
    intro y hy
    unfold D37 D7 at hy
    split at hy
    · rename_i h; subst h; exact keyX 3 (by omega) (by omega)
    · split at hy
      · rename_i h; subst h; exact keyX 7 (by omega) (by omega)
      · cases hy
  have HK := Lib.hid hkeys
  clear hkeys
  go_wp2_with fail
  refine (pairs_c w3 t 5 2 D37 _ S3 H3.out.2.1 (by omega) HK.out).mono ?_
  rintro e w4 ⟨v, ps, rfl, hb4, hrow, hsort, hlen, hmem⟩
  have hps : ps = [((3 : Int), (7 : Int))] := pairs_same (D := D37) hsort (by simp) hmem (fun x y => (d37_pairs x y).symm)
  subst hps
  obtain ⟨g, cap, hv, hg, hc⟩ := rowP_at hrow (by simp)
  subst hv
  have hc0 := hc 0 (3, 7) rfl
  obtain ⟨q0, q1⟩ := hc0
  simp only [Nat.zero_mul, Nat.zero_add] at q0 q1
  have HB4 : Hid (Below w.heap.size w w4) := Lib.hid (by
    have a1 := H1.out.1
    have a2 : Below w.heap.size w w2 := a1.trans (H2.out.1.toBelow a1.size (fun b h1 h2 => by have := H1.out.2.2 b h2; omega))
    have a3 : Below w.heap.size w w3 := a2.trans (H3.out.1.toBelow a2.size (fun b h1 h2 => by
      rcases H2.out.2.2 b h2 with h | h
      · have := H1.out.2.2 b h; omega
      · have := a1.size; omega))
    exact a3.trans (hb4.mono a3.size))
  clear hb4 hrow hsort hlen hmem hc
  have heq : ∀ w, (binOp .eql 89 (.agg #[.int .i64 3, .int .i64 7]) (.agg #[.int .i64 3, .int .i64 7])).run Try.prog w = .ok (.bool true) w := fun w => run_eql_pair 3 7 3 7 w
  go_wp2
  go_ret
  exact ⟨rfl, HB4.out⟩
set_option maxRecDepth 100000 in
set_option maxHeartbeats 16000000 in
theorem broadOrder_w (A0 : Option Addr) (n0 c0 : Nat) (M0 : Nat → Nat → Int) (a1 a2 : Int) (w : World) (_hn0 : n0 ≤ maxLen) (hR0 : Reads w A0 n0 6 M0) (_hM0 : ∀ i j, -9223372036854775808 ≤ M0 i j ∧ M0 i j ≤ 9223372036854775807) :
    Calls Try.prog 5 #[.slice A0 n0 c0, .int .i64 a1, .int .i64 a2] w fun e w' => e = .returned (.bool true) ∧ Below w.heap.size w w' := by
  have HR0 := Lib.hid hR0
  clear hR0 _hM0
  by_cases h50 : 50 < n0
  · have d50 : decide ((50 : Int) < (n0 : Int)) = true := decide_eq_true (by omega)
    go_enter Try.func5, Try.ntmps5
    go_wp2
    go_ret
    exact ⟨rfl, Below.refl _ _⟩
  have d50 : decide ((50 : Int) < (n0 : Int)) = false := decide_eq_false (by omega)
  have h50' : n0 ≤ 50 := by omega
  have HN := Lib.hid h50'
  clear h50 h50'
  go_enter Try.func5, Try.ntmps5
  go_wp2_with fail
  refine (hung_c w).mono ?_
  rintro e w1 ⟨rfl, hb1⟩
  have HB1 := Lib.hid hb1
  clear hb1
  go_wp2_with fail
  refine (pick_c a1 1000 1000 w1 rfl (by decide) (by decide)).mono ?_
  rintro e w2 ⟨rfl, rfl⟩
  obtain ⟨fa, hfa⟩ : ∃ x : Int, x = (pickP a1 1000 : Int) := ⟨_, rfl⟩
  have hfa2 : 0 ≤ fa ∧ fa ≤ 3276800 := by have := pickP_lt a1 1000 (by decide); omega
  rw [← hfa]
  have HFA := Lib.hid hfa2
  clear hfa hfa2
  go_wp2_with fail
  refine (bnew_c fa HFA.out _).mono ?_
  rintro e w3 ⟨ta, Sa, rfl, hb3, hB3, hS3⟩
  have H3 := Lib.hid (And.intro hb3 (And.intro hB3 hS3))
  clear hb3 hB3 hS3
  go_wp2_with fail
  refine (bnew_c 0 (by omega) _).mono ?_
  rintro e w4 ⟨tb, Sb, rfl, hb4, hB4, hS4⟩
  have HT : Hid (Two w w4 ta tb fa 0 (DX (nodeBx M0) 0 fun _ => true) (cntX (nodeBx M0) 0) (DX (nodeBx M0) 0 fun _ => false) (cntX (nodeBx M0) 0)) := Lib.hid (by
    rw [DX_zero, DX_zero]
    have e1 := HB1.out.trans (H3.out.1.mono HB1.out.size)
    exact ⟨Sa, Sb, H3.out.2.1.below hb4, hB4, fun x hx hy => by have := H3.out.2.1.2 x hx; have := hS4 x hy; omega, fun x hx => Nat.le_trans HB1.out.size (H3.out.2.2 x hx), fun x hx => Nat.le_trans e1.size (hS4 x hx), e1.trans (hb4.mono e1.size)⟩)
  clear hb4 hB4 hS4
  go_wp2_with fail
  go_loopg [11] n0 (fun k vi wr => ∃ j : Nat, vi = .int .i64 (j : Int) ∧ j ≤ n0 ∧ k = n0 - j ∧ Two w wr ta tb fa (2 * j) (DX (nodeBx M0) j fun _ => true) (cntX (nodeBx M0) j) (DX (nodeBx M0) j fun _ => false) (cntX (nodeBx M0) j))
  case atStart => exact ⟨0, rfl, Nat.zero_le _, rfl, HT.out⟩
  case round =>
    clear HT H3
    obtain ⟨j, rfl, hj, hk, hT⟩ := hrel
    have HT := Lib.hid hT
    have HK := Lib.hid hk
    have hn50 := HN.out
    clear hT hk
    by_cases hjl : j < n0
    · have d1 : decide ((j : Int) < (n0 : Int)) = true := decide_eq_true (by omega)
      obtain ⟨bb, oo, eA, hbb, hcl⟩ := HR0.out (by omega)
      subst eA
      have q0 : wr.cell? ⟨bb, oo + (j * 6 + 0), none⟩ = some (.int .i64 (M0 j 0)) := (HT.out.ext.cell (p := ⟨bb, oo + (j * 6 + 0), none⟩) hbb).trans (hcl j hjl 0 (by decide))
      have q1 : wr.cell? ⟨bb, oo + (j * 6 + 1), none⟩ = some (.int .i64 (M0 j 1)) := (HT.out.ext.cell (p := ⟨bb, oo + (j * 6 + 1), none⟩) hbb).trans (hcl j hjl 1 (by decide))
      have q2 : wr.cell? ⟨bb, oo + (j * 6 + 2), none⟩ = some (.int .i64 (M0 j 2)) := (HT.out.ext.cell (p := ⟨bb, oo + (j * 6 + 2), none⟩) hbb).trans (hcl j hjl 2 (by decide))
      have q3 : wr.cell? ⟨bb, oo + (j * 6 + 3), none⟩ = some (.int .i64 (M0 j 3)) := (HT.out.ext.cell (p := ⟨bb, oo + (j * 6 + 3), none⟩) hbb).trans (hcl j hjl 3 (by decide))
      have q4 : wr.cell? ⟨bb, oo + (j * 6 + 4), none⟩ = some (.int .i64 (M0 j 4)) := (HT.out.ext.cell (p := ⟨bb, oo + (j * 6 + 4), none⟩) hbb).trans (hcl j hjl 4 (by decide))
      have q5 : wr.cell? ⟨bb, oo + (j * 6 + 5), none⟩ = some (.int .i64 (M0 j 5)) := (HT.out.ext.cell (p := ⟨bb, oo + (j * 6 + 5), none⟩) hbb).trans (hcl j hjl 5 (by decide))
      simp only [Nat.add_zero] at q0
      rw [← Nat.add_assoc] at q1
      rw [← Nat.add_assoc] at q2
      rw [← Nat.add_assoc] at q3
      rw [← Nat.add_assoc] at q4
      rw [← Nat.add_assoc] at q5
      have hbl : bb < wr.heap.size := Nat.lt_of_lt_of_le hbb HT.out.ext.size
      have hw1 : wrap64 ((j : Int) + 1) = (j : Int) + 1 := by unfold wrap64; omega
      have hw2 : wrap64 ((j : Int) + 100) = (j : Int) + 100 := by unfold wrap64; omega
      have hj50 : j < 50 := by omega
      have HJ := Lib.hid (And.intro hj50 (And.intro hjl (And.intro hbb hcl)))
      clear hcl hn50 hj50 hj
      go_wp2_with fail
      refine (two_putA HT.out (j : Int) (nodeBx M0 j) rfl HFA.out.1 (by have := HJ.out.1; omega) (keyX _ (by omega) (by have := HJ.out.1; omega))).mono ?_
      rintro e w5 ⟨rfl, hT5⟩
      have hcj := cntX_le (nodeBx M0) j
      rw [DX_put (by have := HJ.out.1; omega), DX_putN HJ.out.1] at hT5
      have HT5 := Lib.hid hT5
      clear hT5 hbl q0 q1 q2 q3 q4 q5 hcj
      have hcl := HJ.out.2.2.2
      have hbb := HJ.out.2.2.1
      have q0 : w5.cell? ⟨bb, oo + (j * 6 + 0), none⟩ = some (.int .i64 (M0 j 0)) := (HT5.out.ext.cell (p := ⟨bb, oo + (j * 6 + 0), none⟩) hbb).trans (hcl j hjl 0 (by decide))
      have q1 : w5.cell? ⟨bb, oo + (j * 6 + 1), none⟩ = some (.int .i64 (M0 j 1)) := (HT5.out.ext.cell (p := ⟨bb, oo + (j * 6 + 1), none⟩) hbb).trans (hcl j hjl 1 (by decide))
      have q2 : w5.cell? ⟨bb, oo + (j * 6 + 2), none⟩ = some (.int .i64 (M0 j 2)) := (HT5.out.ext.cell (p := ⟨bb, oo + (j * 6 + 2), none⟩) hbb).trans (hcl j hjl 2 (by decide))
      have q3 : w5.cell? ⟨bb, oo + (j * 6 + 3), none⟩ = some (.int .i64 (M0 j 3)) := (HT5.out.ext.cell (p := ⟨bb, oo + (j * 6 + 3), none⟩) hbb).trans (hcl j hjl 3 (by decide))
      have q4 : w5.cell? ⟨bb, oo + (j * 6 + 4), none⟩ = some (.int .i64 (M0 j 4)) := (HT5.out.ext.cell (p := ⟨bb, oo + (j * 6 + 4), none⟩) hbb).trans (hcl j hjl 4 (by decide))
      have q5 : w5.cell? ⟨bb, oo + (j * 6 + 5), none⟩ = some (.int .i64 (M0 j 5)) := (HT5.out.ext.cell (p := ⟨bb, oo + (j * 6 + 5), none⟩) hbb).trans (hcl j hjl 5 (by decide))
      simp only [Nat.add_zero] at q0
      rw [← Nat.add_assoc] at q1
      rw [← Nat.add_assoc] at q2
      rw [← Nat.add_assoc] at q3
      rw [← Nat.add_assoc] at q4
      rw [← Nat.add_assoc] at q5
      have hbl : bb < w5.heap.size := Nat.lt_of_lt_of_le hbb HT5.out.ext.size
      clear hcl
      go_wp2_with fail
      refine (two_putB HT5.out ((j : Int) + 100) (nodeBx M0 j) rfl (by have := HJ.out.1; omega) (keyX _ (by omega) (by have := HJ.out.1; omega))).mono ?_
      rintro e w6 ⟨rfl, hT6⟩
      have hcj := cntX_le (nodeBx M0) j
      rw [DX_put1 HJ.out.1 (by have := HJ.out.1; omega), DX_put1N HJ.out.1] at hT6
      have HT6 := Lib.hid hT6
      clear hT6 hbl q0 q1 q2 q3 q4 q5 hcj
      go_wp2
      go_roundg (n0 - (j + 1))
      case measure => have := HK.out; omega
      case rel => exact ⟨j + 1, (by first | (simp; done) | (simp; exact hw1)), by omega, rfl, HT6.out.le (by omega)⟩
    · have d1 : decide ((j : Int) < (n0 : Int)) = false := decide_eq_false (by omega)
      have ej : j = n0 := by omega
      subst ej
      go_wp2_with fail
      go_loopg [12] j (fun k vi wr2 => ∃ (i : Nat) (M : Nat → Bool), vi = .int .i64 (i : Int) ∧ i ≤ j ∧ k = j - i ∧ Two w wr2 ta tb fa (200 + 3 * i) (DX (nodeBx M0) j fun _ => true) (cntX (nodeBx M0) j) (DX (nodeBx M0) j M) (cntX (nodeBx M0) j))
      case atStart => exact ⟨0, fun _ => false, rfl, Nat.zero_le _, rfl, HT.out.le (by omega)⟩
      case round =>
        clear HT HK d1 hjl hj
        obtain ⟨i, M, rfl, hi, hk, hT⟩ := hrel
        have HT := Lib.hid hT
        have HK := Lib.hid hk
        clear hT hk
        by_cases hil : i < j
        · have d1 : decide ((i : Int) < (j : Int)) = true := decide_eq_true (by omega)
          have hw1 : wrap64 ((i : Int) + 1) = (i : Int) + 1 := by unfold wrap64; omega
          have hw7 : wrap64 ((i : Int) * 7) = (i : Int) * 7 := by unfold wrap64; omega
          go_wp2_with fail
          refine (pick_c a2 50 50 wr rfl (by decide) (by decide)).mono ?_
          rintro e w5 ⟨rfl, rfl⟩
          obtain ⟨r, hr⟩ : ∃ r : Nat, r = pickP a2 50 := ⟨_, rfl⟩
          have hr2 : r < 50 := by rw [hr]; exact pickP_lt a2 50 (by decide)
          rw [← hr]
          clear hr
          obtain ⟨bb, oo, eA, hbb, hcl⟩ := HR0.out (Nat.zero_lt_of_lt hil)
          subst eA
          have hw8 : wrap64 ((i : Int) * 7 + (r : Int)) = (i : Int) * 7 + (r : Int) := by unfold wrap64; omega
          have hj0 : ((j : Int) == 0) = false := by have := Nat.zero_lt_of_lt hil; simp; omega
          go_upto_region 18 with fail
          obtain ⟨kk, hkk⟩ : ∃ kk : Nat, kk = (i * 7 + r) % j := ⟨_, rfl⟩
          have hkl : kk < j := by rw [hkk]; exact Nat.mod_lt _ (Nat.zero_lt_of_lt hil)
          have hkk2 : ((i : Int) * 7 + (r : Int)) % (j : Int) = (kk : Int) := by
            rw [hkk, Int.natCast_emod]
            congr 1
          rw [hkk2]
          have hj50 := HN.out
          clear hkk hkk2 hw8 hj0 hw7 hr2
          have hw2 : wrap64 ((kk : Int) + 100) = (kk : Int) + 100 := by unfold wrap64; omega
          have q0 : wr.cell? ⟨bb, oo + (kk * 6 + 0), none⟩ = some (.int .i64 (M0 kk 0)) := (HT.out.ext.cell (p := ⟨bb, oo + (kk * 6 + 0), none⟩) hbb).trans (hcl kk hkl 0 (by decide))
          have q1 : wr.cell? ⟨bb, oo + (kk * 6 + 1), none⟩ = some (.int .i64 (M0 kk 1)) := (HT.out.ext.cell (p := ⟨bb, oo + (kk * 6 + 1), none⟩) hbb).trans (hcl kk hkl 1 (by decide))
          have q2 : wr.cell? ⟨bb, oo + (kk * 6 + 2), none⟩ = some (.int .i64 (M0 kk 2)) := (HT.out.ext.cell (p := ⟨bb, oo + (kk * 6 + 2), none⟩) hbb).trans (hcl kk hkl 2 (by decide))
          have q3 : wr.cell? ⟨bb, oo + (kk * 6 + 3), none⟩ = some (.int .i64 (M0 kk 3)) := (HT.out.ext.cell (p := ⟨bb, oo + (kk * 6 + 3), none⟩) hbb).trans (hcl kk hkl 3 (by decide))
          have q4 : wr.cell? ⟨bb, oo + (kk * 6 + 4), none⟩ = some (.int .i64 (M0 kk 4)) := (HT.out.ext.cell (p := ⟨bb, oo + (kk * 6 + 4), none⟩) hbb).trans (hcl kk hkl 4 (by decide))
          have q5 : wr.cell? ⟨bb, oo + (kk * 6 + 5), none⟩ = some (.int .i64 (M0 kk 5)) := (HT.out.ext.cell (p := ⟨bb, oo + (kk * 6 + 5), none⟩) hbb).trans (hcl kk hkl 5 (by decide))
          simp only [Nat.add_zero] at q0
          rw [← Nat.add_assoc] at q1
          rw [← Nat.add_assoc] at q2
          rw [← Nat.add_assoc] at q3
          rw [← Nat.add_assoc] at q4
          rw [← Nat.add_assoc] at q5
          have hbl : bb < wr.heap.size := Nat.lt_of_lt_of_le hbb HT.out.ext.size
          have HJ := Lib.hid (And.intro hkl (And.intro hbb (And.intro hcl (And.intro hj50 hil))))
          clear hcl hj50 hi
          have hcj := cntX_le (nodeBx M0) j
          rcases Bool.eq_false_or_eq_true (goodX (nodeBx M0 kk)) with hg | hg
          · go_wp2_with fail
            refine (two_putA (v := .nilIface) HT.out (kk : Int) (nodeBx M0 kk) (by rw [putE_good hg (.inr (by have := HJ.out.2.2.2.1; omega))]; rfl) HFA.out.1 (by have := HJ.out.2.2.2; omega) (keyX _ (by omega) (by have := HJ.out.2.2.2.1; omega))).mono ?_
            rintro e w5 ⟨rfl, hT5⟩
            rw [(DX_again hkl rfl).1, (DX_again hkl rfl).2] at hT5
            have HT5 := Lib.hid hT5
            clear hT5 hbl q0 q1 q2 q3 q4 q5
            go_wp2_with fail
            refine (two_remB HT5.out ((kk : Int) + 100) (by have := HJ.out.2.2.2; omega) (keyX _ (by omega) (by have := HJ.out.2.2.2.1; omega))).mono ?_
            rintro e w6 ⟨rfl, hT6⟩
            have HT6 := Lib.hid hT6
            clear hT6
            have hcl := HJ.out.2.2.1
            have hbb := HJ.out.2.1
            have q0 : w6.cell? ⟨bb, oo + (kk * 6 + 0), none⟩ = some (.int .i64 (M0 kk 0)) := (HT6.out.ext.cell (p := ⟨bb, oo + (kk * 6 + 0), none⟩) hbb).trans (hcl kk hkl 0 (by decide))
            have q1 : w6.cell? ⟨bb, oo + (kk * 6 + 1), none⟩ = some (.int .i64 (M0 kk 1)) := (HT6.out.ext.cell (p := ⟨bb, oo + (kk * 6 + 1), none⟩) hbb).trans (hcl kk hkl 1 (by decide))
            have q2 : w6.cell? ⟨bb, oo + (kk * 6 + 2), none⟩ = some (.int .i64 (M0 kk 2)) := (HT6.out.ext.cell (p := ⟨bb, oo + (kk * 6 + 2), none⟩) hbb).trans (hcl kk hkl 2 (by decide))
            have q3 : w6.cell? ⟨bb, oo + (kk * 6 + 3), none⟩ = some (.int .i64 (M0 kk 3)) := (HT6.out.ext.cell (p := ⟨bb, oo + (kk * 6 + 3), none⟩) hbb).trans (hcl kk hkl 3 (by decide))
            have q4 : w6.cell? ⟨bb, oo + (kk * 6 + 4), none⟩ = some (.int .i64 (M0 kk 4)) := (HT6.out.ext.cell (p := ⟨bb, oo + (kk * 6 + 4), none⟩) hbb).trans (hcl kk hkl 4 (by decide))
            have q5 : w6.cell? ⟨bb, oo + (kk * 6 + 5), none⟩ = some (.int .i64 (M0 kk 5)) := (HT6.out.ext.cell (p := ⟨bb, oo + (kk * 6 + 5), none⟩) hbb).trans (hcl kk hkl 5 (by decide))
            simp only [Nat.add_zero] at q0
            rw [← Nat.add_assoc] at q1
            rw [← Nat.add_assoc] at q2
            rw [← Nat.add_assoc] at q3
            rw [← Nat.add_assoc] at q4
            rw [← Nat.add_assoc] at q5
            have hbl : bb < w6.heap.size := Nat.lt_of_lt_of_le hbb HT6.out.ext.size
            clear hcl
            go_wp2_with fail
            refine (two_putB HT6.out (kk : Int) (nodeBx M0 kk) rfl (by have := HJ.out.2.2.2; omega) (keyX _ (by omega) (by have := HJ.out.2.2.2.1; omega))).mono ?_
            rintro e w7 ⟨rfl, hT7⟩
            have hrN : remN (DX (nodeBx M0) j M) (cntX (nodeBx M0) j) ((kk : Int) + 100) < 60 := by
              have := HJ.out.2.2.2.1
              unfold remN
              split <;> omega
            rw [DX_move hkl HJ.out.2.2.2.1 hrN, DX_moveN hkl HJ.out.2.2.2.1] at hT7
            have HT7 := Lib.hid hT7
            clear hT7 hbl q0 q1 q2 q3 q4 q5 hcj hrN
            go_wp2
            go_roundg (j - (i + 1))
            case measure => have := HK.out; omega
            case rel => exact ⟨i + 1, setX M kk, (by first | (simp; done) | (simp; exact hw1)), by omega, rfl, HT7.out.le (by omega)⟩
          · go_wp2_with fail
            refine (two_putA HT.out (kk : Int) (nodeBx M0 kk) (errV_n (putE_bad hg)) HFA.out.1 (by have := HJ.out.2.2.2; omega) (keyX _ (by omega) (by have := HJ.out.2.2.2.1; omega))).mono ?_
            rintro e w5 ⟨rfl, hT5⟩
            rw [(DX_again hkl rfl).1, (DX_again hkl rfl).2] at hT5
            have HT5 := Lib.hid hT5
            clear hT5 hbl q0 q1 q2 q3 q4 q5 hcj
            go_wp2
            go_roundg (j - (i + 1))
            case measure => have := HK.out; omega
            case rel => exact ⟨i + 1, M, (by first | (simp; done) | (simp; exact hw1)), by omega, rfl, HT5.out.le (by omega)⟩
        · have d1 : decide ((i : Int) < (j : Int)) = false := decide_eq_false (by omega)
          have ei : i = j := by omega
          subst ei
          go_wp2_with fail
          go_loopg [14] i (fun k vi wr3 => ∃ (l : Nat) (M : Nat → Bool), vi = .int .i64 (l : Int) ∧ l ≤ i ∧ k = i - l ∧ (∀ x, x < l → M x = true) ∧ Two w wr3 ta tb fa (400 + 3 * l) (DX (nodeBx M0) i fun _ => true) (cntX (nodeBx M0) i) (DX (nodeBx M0) i M) (cntX (nodeBx M0) i))
          case atStart => exact ⟨0, M, rfl, Nat.zero_le _, rfl, fun x hx => absurd hx (Nat.not_lt_zero x), HT.out.le (by have := HN.out; omega)⟩
          case round =>
            clear HT HK d1 hil hi
            obtain ⟨l, M2, rfl, hl, hk, hM, hT⟩ := hrel
            have HT := Lib.hid hT
            have HK := Lib.hid hk
            have HM := Lib.hid hM
            clear hT hk hM
            by_cases hll : l < i
            · have d1 : decide ((l : Int) < (i : Int)) = true := decide_eq_true (by omega)
              have hw1 : wrap64 ((l : Int) + 1) = (l : Int) + 1 := by unfold wrap64; omega
              have hw2 : wrap64 ((l : Int) + 100) = (l : Int) + 100 := by unfold wrap64; omega
              obtain ⟨bb, oo, eA, hbb, hcl⟩ := HR0.out (by omega)
              subst eA
              have hj50 := HN.out
              have HJ := Lib.hid (And.intro hll (And.intro hbb (And.intro hcl hj50)))
              clear hj50 hl
              go_wp2_with fail
              refine (two_remB HT.out ((l : Int) + 100) (by have := HJ.out.2.2.2; omega) (keyX _ (by omega) (by have := HJ.out.2.2.2; omega))).mono ?_
              rintro e w5 ⟨rfl, hT5⟩
              have HT5 := Lib.hid hT5
              clear hT5
              have q0 : w5.cell? ⟨bb, oo + (l * 6 + 0), none⟩ = some (.int .i64 (M0 l 0)) := (HT5.out.ext.cell (p := ⟨bb, oo + (l * 6 + 0), none⟩) hbb).trans (hcl l hll 0 (by decide))
              have q1 : w5.cell? ⟨bb, oo + (l * 6 + 1), none⟩ = some (.int .i64 (M0 l 1)) := (HT5.out.ext.cell (p := ⟨bb, oo + (l * 6 + 1), none⟩) hbb).trans (hcl l hll 1 (by decide))
              have q2 : w5.cell? ⟨bb, oo + (l * 6 + 2), none⟩ = some (.int .i64 (M0 l 2)) := (HT5.out.ext.cell (p := ⟨bb, oo + (l * 6 + 2), none⟩) hbb).trans (hcl l hll 2 (by decide))
              have q3 : w5.cell? ⟨bb, oo + (l * 6 + 3), none⟩ = some (.int .i64 (M0 l 3)) := (HT5.out.ext.cell (p := ⟨bb, oo + (l * 6 + 3), none⟩) hbb).trans (hcl l hll 3 (by decide))
              have q4 : w5.cell? ⟨bb, oo + (l * 6 + 4), none⟩ = some (.int .i64 (M0 l 4)) := (HT5.out.ext.cell (p := ⟨bb, oo + (l * 6 + 4), none⟩) hbb).trans (hcl l hll 4 (by decide))
              have q5 : w5.cell? ⟨bb, oo + (l * 6 + 5), none⟩ = some (.int .i64 (M0 l 5)) := (HT5.out.ext.cell (p := ⟨bb, oo + (l * 6 + 5), none⟩) hbb).trans (hcl l hll 5 (by decide))
              simp only [Nat.add_zero] at q0
              rw [← Nat.add_assoc] at q1
              rw [← Nat.add_assoc] at q2
              rw [← Nat.add_assoc] at q3
              rw [← Nat.add_assoc] at q4
              rw [← Nat.add_assoc] at q5
              have hbl : bb < w5.heap.size := Nat.lt_of_lt_of_le hbb HT5.out.ext.size
              clear hcl
              have hcj := cntX_le (nodeBx M0) i
              have hrN : remN (DX (nodeBx M0) i M2) (cntX (nodeBx M0) i) ((l : Int) + 100) < 60 := by
                have := HJ.out.2.2.2
                unfold remN
                split <;> omega
              have HM3 : Hid (∀ x, x < l + 1 → setX M2 l x = true) := Lib.hid (fun x hx => by
                unfold setX
                by_cases e : x = l
                · simp [e]
                · simp only [e, if_false]
                  exact HM.out x (by omega))
              have hq := DX_move (c := remN (DX (nodeBx M0) i M2) (cntX (nodeBx M0) i) ((l : Int) + 100)) (M := M2) (B := nodeBx M0) hll HJ.out.2.2.2 hrN
              have hqN := DX_moveN (M := M2) (B := nodeBx M0) hll HJ.out.2.2.2
              rcases Bool.eq_false_or_eq_true (goodX (nodeBx M0 l)) with hg | hg
              · have he := putE_good (D := remD (DX (nodeBx M0) i M2) ((l : Int) + 100)) (id := (l : Int)) hg (.inr hrN)
                have HQ := Lib.hid (And.intro hq (And.intro hqN he))
                clear hq hqN he hrN hcj
                go_wp2_with fail
                refine (two_putB (v := .nilIface) HT5.out (l : Int) (nodeBx M0 l) (by rw [HQ.out.2.2]; rfl) (by have := HJ.out.2.2.2; omega) (keyX _ (by omega) (by have := HJ.out.2.2.2; omega))).mono ?_
                rintro e w6 ⟨rfl, hT6⟩
                rw [HQ.out.1, HQ.out.2.1] at hT6
                have HT6 := Lib.hid hT6
                clear hT6 hbl q0 q1 q2 q3 q4 q5
                have hcl := HJ.out.2.2.1
                have hbb := HJ.out.2.1
                have q0 : w6.cell? ⟨bb, oo + (l * 6 + 0), none⟩ = some (.int .i64 (M0 l 0)) := (HT6.out.ext.cell (p := ⟨bb, oo + (l * 6 + 0), none⟩) hbb).trans (hcl l hll 0 (by decide))
                have q1 : w6.cell? ⟨bb, oo + (l * 6 + 1), none⟩ = some (.int .i64 (M0 l 1)) := (HT6.out.ext.cell (p := ⟨bb, oo + (l * 6 + 1), none⟩) hbb).trans (hcl l hll 1 (by decide))
                have q2 : w6.cell? ⟨bb, oo + (l * 6 + 2), none⟩ = some (.int .i64 (M0 l 2)) := (HT6.out.ext.cell (p := ⟨bb, oo + (l * 6 + 2), none⟩) hbb).trans (hcl l hll 2 (by decide))
                have q3 : w6.cell? ⟨bb, oo + (l * 6 + 3), none⟩ = some (.int .i64 (M0 l 3)) := (HT6.out.ext.cell (p := ⟨bb, oo + (l * 6 + 3), none⟩) hbb).trans (hcl l hll 3 (by decide))
                have q4 : w6.cell? ⟨bb, oo + (l * 6 + 4), none⟩ = some (.int .i64 (M0 l 4)) := (HT6.out.ext.cell (p := ⟨bb, oo + (l * 6 + 4), none⟩) hbb).trans (hcl l hll 4 (by decide))
                have q5 : w6.cell? ⟨bb, oo + (l * 6 + 5), none⟩ = some (.int .i64 (M0 l 5)) := (HT6.out.ext.cell (p := ⟨bb, oo + (l * 6 + 5), none⟩) hbb).trans (hcl l hll 5 (by decide))
                simp only [Nat.add_zero] at q0
                rw [← Nat.add_assoc] at q1
                rw [← Nat.add_assoc] at q2
                rw [← Nat.add_assoc] at q3
                rw [← Nat.add_assoc] at q4
                rw [← Nat.add_assoc] at q5
                have hbl : bb < w6.heap.size := Nat.lt_of_lt_of_le hbb HT6.out.ext.size
                clear hcl
                go_wp2_with fail
                refine (two_putA HT6.out (l : Int) (nodeBx M0 l) rfl HFA.out.1 (by have := HJ.out.2.2.2; omega) (keyX _ (by omega) (by have := HJ.out.2.2.2; omega))).mono ?_
                rintro e w7 ⟨rfl, hT7⟩
                rw [(DX_again hll rfl).1, (DX_again hll rfl).2] at hT7
                have HT7 := Lib.hid hT7
                clear hT7 hbl q0 q1 q2 q3 q4 q5
                go_wp2
                go_roundg (i - (l + 1))
                case measure => have := HK.out; omega
                case rel => exact ⟨l + 1, setX M2 l, (by first | (simp; done) | (simp; exact hw1)), by omega, rfl, HM3.out, HT7.out.le (by omega)⟩
              · have he := putE_bad (D := remD (DX (nodeBx M0) i M2) ((l : Int) + 100)) (n := remN (DX (nodeBx M0) i M2) (cntX (nodeBx M0) i) ((l : Int) + 100)) (id := (l : Int)) hg
                have HQ := Lib.hid (And.intro hq (And.intro hqN he))
                clear hq hqN he hrN hcj
                go_wp2_with fail
                refine (two_putB HT5.out (l : Int) (nodeBx M0 l) (errV_n HQ.out.2.2) (by have := HJ.out.2.2.2; omega) (keyX _ (by omega) (by have := HJ.out.2.2.2; omega))).mono ?_
                rintro e w6 ⟨rfl, hT6⟩
                rw [HQ.out.1, HQ.out.2.1] at hT6
                have HT6 := Lib.hid hT6
                clear hT6 hbl q0 q1 q2 q3 q4 q5
                go_wp2
                go_roundg (i - (l + 1))
                case measure => have := HK.out; omega
                case rel => exact ⟨l + 1, setX M2 l, (by first | (simp; done) | (simp; exact hw1)), by omega, rfl, HM3.out, HT6.out.le (by omega)⟩
            · have d1 : decide ((l : Int) < (i : Int)) = false := decide_eq_false (by omega)
              have el : l = i := by omega
              subst el
              have hT := HT.out
              rw [DX_all HN.out HM.out] at hT
              have HTT := Lib.hid hT
              clear hT
              have hp : 400 + 3 * l < 300000 := by have := HN.out; omega
              have HPP := Lib.hid hp
              clear hp
              go_wp2_with fail
              refine (two_pairsA HTT.out HPP.out (DX_keys HN.out)).mono ?_
              rintro e w5 ⟨va, ps, rfl, hb5, hrow5, hs5, hl5, hm5⟩
              have HT5 := Lib.hid (HTT.out.below hb5)
              have HA := Lib.hid (And.intro hrow5 (And.intro hs5 (And.intro hl5 hm5)))
              clear hb5 hrow5 hs5 hl5 hm5
              go_wp2_with fail
              refine (two_pairsB HT5.out HPP.out (DX_keys HN.out)).mono ?_
              rintro e w6 ⟨vb, qs, rfl, hb6, hrow6, hs6, hl6, hm6⟩
              have eq : qs = ps := pairs_same hs6 HA.out.2.1 hm6 HA.out.2.2.2
              subst eq
              have hra := row_below HA.out.1 hb6
              obtain ⟨Aa, Ca, hva⟩ := rowP_val hra
              obtain ⟨Ab, Cb, hvb⟩ := rowP_val hrow6
              subst hva hvb
              have HRW := Lib.hid (And.intro hra (And.intro hrow6 hl6))
              have HE6 : Hid (Below w.heap.size w w6) := Lib.hid (HT5.out.ext.trans (hb6.mono HT5.out.ext.size))
              clear hb6 hrow6 hs6 hl6 hm6 hra
              go_wp2_with fail
              go_loopg [17] qs.length (fun k vi wr4 => ∃ (c : Nat), vi = .int .i64 (c : Int) ∧ c ≤ qs.length ∧ k = qs.length - c ∧ Below w6.heap.size w6 wr4)
              case atStart => exact ⟨0, rfl, Nat.zero_le _, rfl, Below.refl _ _⟩
              case round =>
                obtain ⟨c, rfl, hc, hk, hbr⟩ := hrel
                have HK2 := Lib.hid hk
                have HBR := Lib.hid hbr
                clear hk hbr
                by_cases hcl : c < qs.length
                · have d2 : decide ((c : Int) < (qs.length : Int)) = true := decide_eq_true (by omega)
                  have hw3 : wrap64 ((c : Int) + 1) = (c : Int) + 1 := by have := HRW.out.2.2; unfold wrap64; omega
                  obtain ⟨ga, ca, ea, hga, hcga⟩ := rowP_at (row_below HRW.out.1 HBR.out) (by omega)
                  obtain ⟨gb, cb, eb, hgb, hcgb⟩ := rowP_at (row_below HRW.out.2.1 HBR.out) (by omega)
                  injection ea with ea1 _ ea2
                  injection eb with eb1 _ eb2
                  subst ea1 ea2 eb1 eb2
                  obtain ⟨x, hx⟩ : ∃ x, qs[c]? = some x := ⟨_, List.getElem?_eq_getElem hcl⟩
                  obtain ⟨x1, x2⟩ := x
                  obtain ⟨qa0, qa1⟩ := hcga c _ hx
                  obtain ⟨qb0, qb1⟩ := hcgb c _ hx
                  simp only at qa0 qa1 qb0 qb1
                  have heq : ∀ w, (binOp .neq 89 (.agg #[.int .i64 x1, .int .i64 x2]) (.agg #[.int .i64 x1, .int .i64 x2])).run Try.prog w = .ok (.bool false) w := fun w => by rw [run_neq_pair]; simp
                  clear hcga hcgb hx hc
                  go_upto_region 33 with fail
                  have hmc := more_cell
                  refine region_quiet_all (by kernel_rfl) (by kernel_rfl) ?_
                  repeat (go_big_quiet_step (fail))
                  refine wpQuiet_nil ?_
                  rintro w8 hw8
                  have hb8 := after_below hw8
                  have HB8 : Hid (Below w6.heap.size w6 w8) := Lib.hid (HBR.out.trans (hb8.mono HBR.out.size))
                  clear hw8 hmc hb8 qa0 qa1 qb0 qb1 hga hgb
                  go_wp2
                  go_roundg (qs.length - (c + 1))
                  case measure => have := HK2.out; omega
                  case rel => exact ⟨c + 1, (by first | (simp; done) | (simp; exact hw3)), by omega, rfl, HB8.out⟩
                · have d2 : decide ((c : Int) < (qs.length : Int)) = false := decide_eq_false (by omega)
                  go_wp2
                  go_ret
                  exact ⟨rfl, HE6.out.trans (HBR.out.mono HE6.out.size)⟩
end Go.Proofs.Ytefhmbmbhiehdaa
