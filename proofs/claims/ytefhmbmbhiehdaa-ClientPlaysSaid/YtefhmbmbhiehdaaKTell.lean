/- The contracts of wire.right, wire.Tell, gyreref.Tell. Conditions: none. -/
import Derived.Test.YtefhmbmbhiehdaaKClB
namespace Go.Proofs.Ytefhmbmbhiehdaa
open Go.ChangeShapes Go.WideShapes Go.ChangeAt Go.RowKit Go.BigFrame
open B
/-- whether a piece may be -/
def RightP (st ba ix ma : Int) (N : Nat) : Prop := 1 ≤ st ∧ st ≤ 70368744177664 ∧ 0 ≤ ba ∧ ba < st ∧ 1 ≤ ma ∧ ma ≤ 40 ∧ 0 ≤ ix ∧ ix < ma ∧ N ≤ 100
/-- its bits -/
def tellL (st ba ix ma : Int) (l : List Nat) : List Nat := varL st.toNat ++ varL ba.toNat ++ bitsOf 6 ma.toNat ++ bitsOf 6 ix.toNat ++ bitsOf 7 l.length ++ openL l
def WAYS (st ba ix ma : Int) (N : Nat) : Prop :=
  (st < 1) ∨ (1 ≤ st ∧ 70368744177664 < st) ∨ (1 ≤ st ∧ st ≤ 70368744177664 ∧ ba < 0) ∨ (1 ≤ st ∧ st ≤ 70368744177664 ∧ 0 ≤ ba ∧ st ≤ ba) ∨ (1 ≤ st ∧ st ≤ 70368744177664 ∧ 0 ≤ ba ∧ ba < st ∧ ma < 1) ∨ (1 ≤ st ∧ st ≤ 70368744177664 ∧ 0 ≤ ba ∧ ba < st ∧ 1 ≤ ma ∧ 40 < ma) ∨
  (1 ≤ st ∧ st ≤ 70368744177664 ∧ 0 ≤ ba ∧ ba < st ∧ 1 ≤ ma ∧ ma ≤ 40 ∧ ix < 0) ∨ (1 ≤ st ∧ st ≤ 70368744177664 ∧ 0 ≤ ba ∧ ba < st ∧ 1 ≤ ma ∧ ma ≤ 40 ∧ 0 ≤ ix ∧ ma ≤ ix) ∨ (1 ≤ st ∧ st ≤ 70368744177664 ∧ 0 ≤ ba ∧ ba < st ∧ 1 ≤ ma ∧ ma ≤ 40 ∧ 0 ≤ ix ∧ ix < ma ∧ 100 < (N : Int))
theorem pieceWays {st ba ix ma : Int} {N : Nat} (h : ¬ RightP st ba ix ma N) : WAYS st ba ix ma N := by
  by_cases h1 : 1 ≤ st
  case neg => exact .inl (by omega)
  by_cases h2 : st ≤ 70368744177664
  case neg => exact (.inr (.inl ⟨h1, by omega⟩))
  by_cases h3 : 0 ≤ ba
  case neg => exact (.inr (.inr (.inl ⟨h1, h2, by omega⟩)))
  by_cases h4 : ba < st
  case neg => exact (.inr (.inr (.inr (.inl ⟨h1, h2, h3, by omega⟩))))
  by_cases h5 : 1 ≤ ma
  case neg => exact (.inr (.inr (.inr (.inr (.inl ⟨h1, h2, h3, h4, by omega⟩)))))
  by_cases h6 : ma ≤ 40
  case neg => exact (.inr (.inr (.inr (.inr (.inr (.inl ⟨h1, h2, h3, h4, h5, by omega⟩))))))
  by_cases h7 : 0 ≤ ix
  case neg => exact (.inr (.inr (.inr (.inr (.inr (.inr (.inl ⟨h1, h2, h3, h4, h5, h6, by omega⟩)))))))
  by_cases h8 : ix < ma
  case neg => exact (.inr (.inr (.inr (.inr (.inr (.inr (.inr (.inl ⟨h1, h2, h3, h4, h5, h6, h7, by omega⟩))))))))
  by_cases h9 : N ≤ 100
  case neg => exact (.inr (.inr (.inr (.inr (.inr (.inr (.inr (.inr ⟨h1, h2, h3, h4, h5, h6, h7, h8, by omega⟩))))))))
  exact absurd ⟨h1, h2, h3, h4, h5, h6, h7, h8, h9⟩ h
theorem right_yes (st ba ix ma : Int) (A : Option Addr) (N cap : Nat) (w : World) (h : RightP st ba ix ma N) : Calls Try.prog 74 #[.agg #[.int .i64 st, .int .i64 ba, .int .i64 ix, .int .i64 ma, .slice A N cap]] w fun e w' => e = .returned (.bool true) ∧ Below w.heap.size w w' := by
  obtain ⟨h1, h2, h3, h4, h5, h6, h7, h8, h9⟩ := h
  have h9' : (N : Int) ≤ 100 := by omega
  go_enter Try.func74, Try.ntmps74
  go_wp2
  go_ret
  exact ⟨rfl, balloc _ _⟩
set_option maxHeartbeats 4000000 in
theorem right_no (st ba ix ma : Int) (A : Option Addr) (N cap : Nat) (w : World) (h : ¬ RightP st ba ix ma N) : Calls Try.prog 74 #[.agg #[.int .i64 st, .int .i64 ba, .int .i64 ix, .int .i64 ma, .slice A N cap]] w fun e w' => e = .returned (.bool false) ∧ Below w.heap.size w w' := by
  rcases pieceWays h with h1 | ⟨h1, h2⟩ | ⟨h1, h2, h3⟩ | ⟨h1, h2, h3, h4⟩ | ⟨h1, h2, h3, h4, h5⟩ | ⟨h1, h2, h3, h4, h5, h6⟩ | ⟨h1, h2, h3, h4, h5, h6, h7⟩ | ⟨h1, h2, h3, h4, h5, h6, h7, h8⟩ | ⟨h1, h2, h3, h4, h5, h6, h7, h8, h9⟩
  all_goals
    clear h
    go_enter Try.func74, Try.ntmps74
    go_wp2
    go_ret
    refine ⟨?_, balloc _ _⟩
    first | rfl | (simp; omega)
set_option maxHeartbeats 4000000 in
theorem rtell_no (st ba ix ma : Int) (A : Option Addr) (N cap : Nat) (w : World) (h : ¬ RightP st ba ix ma N) : Calls Try.prog 10 #[.agg #[.int .i64 st, .int .i64 ba, .int .i64 ix, .int .i64 ma, .slice A N cap]] w fun e w' => e = .returned (.tuple #[.slice none 0 0, .int .i64 1]) ∧ Below w.heap.size w w' := by
  rcases pieceWays h with h1 | ⟨h1, h2⟩ | ⟨h1, h2, h3⟩ | ⟨h1, h2, h3, h4⟩ | ⟨h1, h2, h3, h4, h5⟩ | ⟨h1, h2, h3, h4, h5, h6⟩ | ⟨h1, h2, h3, h4, h5, h6, h7⟩ | ⟨h1, h2, h3, h4, h5, h6, h7, h8⟩ | ⟨h1, h2, h3, h4, h5, h6, h7, h8, h9⟩
  all_goals
    clear h
    go_enter Try.func10, Try.ntmps10
    go_wp2
    go_ret2
    exact ⟨rfl, balloc _ _⟩
theorem openL_take_succ {l : List Nat} {k x : Nat} (h : l[k]? = some x) : openL (l.take (k + 1)) = openL (l.take k) ++ bitsOf 8 x := by
  rw [List.take_add_one, h, openL_append]
  show _ ++ openL [x] = _
  unfold openL
  simp
/-- the bytes of a slice that was there -/
theorem src_get {w : World} {A : Option Addr} {N cap : Nat} {l : List Nat} (h : Src w (.slice A N cap) l) (hN : N = l.length) {k : Nat} (hk : k < N) : ∃ b o x, A = some ⟨b, o, none⟩ ∧ b < w.heap.size ∧ l[k]? = some x ∧ w.cell? ⟨b, o + k, none⟩ = some (.int .u8 (x : Int)) := by
  obtain ⟨A', cap', e, hc⟩ := Rdb.of_src h
  obtain ⟨b, o, hA, hb, hcell⟩ := hc (by omega)
  cases e
  obtain ⟨x, hx⟩ : ∃ x, l[k]? = some x := ⟨_, List.getElem?_eq_getElem (by omega)⟩
  exact ⟨b, o, x, hA, hb, hx, hcell k x hx⟩
theorem Blk.low {w w' : World} {x p : Nat} {cs : Array Value} (h : Blk w x cs) (k : Below p w w') (hx : x < p) : Blk w' x cs := by
  refine ⟨?_, fun o => (k.cell (p := ⟨x, o, none⟩) hx).trans (h.cell o), fun o => (k.frozen (p := ⟨x, o, none⟩) hx).trans (h.free o)⟩
  have h1 := k.block x hx
  have h2 := h.lt
  by_cases e : x < w'.heap.size
  · exact e
  · rw [Array.getElem?_eq_none (by omega)] at h1
    rw [Array.getElem?_eq_getElem h2] at h1
    cases h1
theorem bsOf_mono {w : World} {B B' : Nat} {v : Value} {l : List Nat} (h : BsOf w B v l) (hb : B' ≤ B) : BsOf w B' v l := by
  obtain ⟨h1, h2 | ⟨g, cap, cur, a, b, c⟩⟩ := h
  · exact ⟨h1, .inl h2⟩
  · exact ⟨h1, .inr ⟨g, cap, cur, a, by omega, c⟩⟩

set_option maxHeartbeats 2000000 in
theorem tell_yes (st ba ix ma : Nat) (A : Option Addr) (N cap : Nat) (l : List Nat) (w : World) (hS : Src w (.slice A N cap) l) (hN : N = l.length) (h8 : ∀ b ∈ l, b < 256) (h : RightP st ba ix ma N) : Calls Try.prog 75 #[.agg #[.int .i64 (st : Int), .int .i64 (ba : Int), .int .i64 (ix : Int), .int .i64 (ma : Int), .slice A N cap]] w fun e w' => ∃ A' c', e = .returned (.tuple #[.slice A' (pack (tellL st ba ix ma l)).length c', .nilIface]) ∧ BsOf w' w.heap.size (.slice A' (pack (tellL st ba ix ma l)).length c') (pack (tellL st ba ix ma l)) ∧ Below w.heap.size w w' := by
  have HR := Lib.hid h
  obtain ⟨h1, h2, h3, h4, h5, h6, h7, h8', h9⟩ := h
  have h9' : (N : Int) ≤ 100 := by omega
  have HSR := Lib.hid hS
  have HN := Lib.hid hN
  have H8 := Lib.hid h8
  obtain ⟨L, hL⟩ : ∃ L, L = tellL st ba ix ma l := ⟨_, rfl⟩
  have HL := Lib.hid hL
  rw [← hL]
  clear hS hN h8 hL
  go_enter Try.func75, Try.ntmps75
  go_wp2_with fail
  with_reducible refine (right_yes st ba ix ma A N cap _ HR.out).mono ?_
  rintro e w1 ⟨rfl, hb1⟩
  have hX1 := (Blk.fresh w #[.int .i64 (st : Int), .int .i64 (ba : Int), .int .i64 (ix : Int), .int .i64 (ma : Int), .slice A N cap] 107).below hb1
  have hB1 : Below w.heap.size w w1 := (balloc _ _).trans (hb1.mono (by simp))
  obtain ⟨z1, c1, f1⟩ := id hX1
  have a1 : w1.cell? ⟨w.heap.size, 0, none⟩ = some (.int .i64 (st : Int)) := c1 0
  clear c1
  go_wp2_with fail
  refine calls_anew ?_
  intro w2 hb2
  have hX2 := ((hX1.alloc (.cells #[.slice none 0 0, .int .i64 0] 194)).below hb2)
  have hW2 := wo_new (w := w1) (p := w1.heap.size) (T := 194) rfl hb2
  have hB2 : Below w.heap.size w w2 := hB1.trans (((balloc w1 (.cells #[.slice none 0 0, .int .i64 0] 194)).trans (hb2.mono (by simp))).mono hB1.size)
  have hxp : w.heap.size < w1.heap.size := hX1.lt
  obtain ⟨p, hp⟩ : ∃ p, p = w1.heap.size := ⟨_, rfl⟩
  rw [← hp] at hW2 hxp
  rw [← hp]
  clear hp hb1 hb2 hX1 hB1 a1 z1 f1
  obtain ⟨x0, hx0⟩ : ∃ x0, x0 = w.heap.size := ⟨_, rfl⟩
  rw [← hx0] at hX2 hxp
  rw [← hx0]
  have hx0' : w.heap.size ≤ x0 := by omega
  have HX0 : Hid (x0 = w.heap.size) := Lib.hid hx0
  have hrel : Hid (∀ w', Below x0 w w' → Below w.heap.size w w') := Lib.hid (fun w' h => by rw [← hx0]; exact h)
  clear hx0
  obtain ⟨z2, c2, f2⟩ := id hX2
  have a2 : w2.cell? ⟨x0, 0, none⟩ = some (.int .i64 (st : Int)) := c2 0
  have b2 : w2.cell? ⟨x0, 1, none⟩ = some (.int .i64 (ba : Int)) := c2 1
  have i2 : w2.cell? ⟨x0, 2, none⟩ = some (.int .i64 (ix : Int)) := c2 2
  have m2 : w2.cell? ⟨x0, 3, none⟩ = some (.int .i64 (ma : Int)) := c2 3
  have s2 : w2.cell? ⟨x0, 4, none⟩ = some (.slice A N cap) := c2 4
  clear c2
  obtain ⟨L2, hL2⟩ : ∃ L2 : List Nat, L2 = [] := ⟨_, rfl⟩
  rw [← hL2] at hW2
  have HL2 : Hid (L2.length ≤ 0) := Lib.hid (by rw [hL2]; simp)
  have HE2 : Hid (L2 = []) := Lib.hid hL2
  clear hL2
  go_wp2_with fail
  with_reducible refine (var_o p st st L2 _ hW2 rfl (by omega) (by have := pieces6 st; have := HL2.out; omega)).mono ?_
  rintro e w3 ⟨rfl, hW3, hq3⟩
  have hX3 := Blk.low hX2 hq3 hxp
  have hB3 := hB2.trans (hq3.mono (by have := HX0.out; omega))
  obtain ⟨L3, hL3⟩ : ∃ L', L' = L2 ++ varL st := ⟨_, rfl⟩
  rw [← hL3] at hW3
  have HL3 : Hid (L3.length ≤ 78) := Lib.hid (by rw [hL3]; exact (by have := varL_le st; have := HL2.out; rw [List.length_append]; omega))
  have HE3 := Lib.hid hL3
  clear hL3 a2 b2 i2 m2 s2 z2 f2 hX2 hW2 hB2 hq3
  obtain ⟨z3, c3, f3⟩ := id hX3
  have a3 : w3.cell? ⟨x0, 0, none⟩ = some (.int .i64 (st : Int)) := c3 0
  have b3 : w3.cell? ⟨x0, 1, none⟩ = some (.int .i64 (ba : Int)) := c3 1
  have i3 : w3.cell? ⟨x0, 2, none⟩ = some (.int .i64 (ix : Int)) := c3 2
  have m3 : w3.cell? ⟨x0, 3, none⟩ = some (.int .i64 (ma : Int)) := c3 3
  have s3 : w3.cell? ⟨x0, 4, none⟩ = some (.slice A N cap) := c3 4
  clear c3
  go_wp2_with fail
  with_reducible refine (var_o p ba ba L3 _ hW3 rfl (by omega) (by have := pieces6 ba; have := HL3.out; omega)).mono ?_
  rintro e w4 ⟨rfl, hW4, hq4⟩
  have hX4 := Blk.low hX3 hq4 hxp
  have hB4 := hB3.trans (hq4.mono (by have := HX0.out; omega))
  obtain ⟨L4, hL4⟩ : ∃ L', L' = L3 ++ varL ba := ⟨_, rfl⟩
  rw [← hL4] at hW4
  have HL4 : Hid (L4.length ≤ 156) := Lib.hid (by rw [hL4]; exact (by have := varL_le ba; have := HL3.out; rw [List.length_append]; omega))
  have HE4 := Lib.hid hL4
  clear hL4 a3 b3 i3 m3 s3 z3 f3 hX3 hW3 hB3 hq4
  obtain ⟨z4, c4, f4⟩ := id hX4
  have a4 : w4.cell? ⟨x0, 0, none⟩ = some (.int .i64 (st : Int)) := c4 0
  have b4 : w4.cell? ⟨x0, 1, none⟩ = some (.int .i64 (ba : Int)) := c4 1
  have i4 : w4.cell? ⟨x0, 2, none⟩ = some (.int .i64 (ix : Int)) := c4 2
  have m4 : w4.cell? ⟨x0, 3, none⟩ = some (.int .i64 (ma : Int)) := c4 3
  have s4 : w4.cell? ⟨x0, 4, none⟩ = some (.slice A N cap) := c4 4
  clear c4
  go_wp2_with fail
  with_reducible refine (put_o p ma 6 ma 6 L4 _ hW4 rfl rfl (by omega) (by omega) (by have := HL4.out; omega)).mono ?_
  rintro e w5 ⟨rfl, hW5, hq5⟩
  have hX5 := Blk.low hX4 hq5 hxp
  have hB5 := hB4.trans (hq5.mono (by have := HX0.out; omega))
  obtain ⟨L5, hL5⟩ : ∃ L', L' = L4 ++ bitsOf 6 ma := ⟨_, rfl⟩
  rw [← hL5] at hW5
  have HL5 : Hid (L5.length ≤ 162) := Lib.hid (by rw [hL5]; exact (by have := HL4.out; rw [List.length_append, bitsOf_length]; omega))
  have HE5 := Lib.hid hL5
  clear hL5 a4 b4 i4 m4 s4 z4 f4 hX4 hW4 hB4 hq5
  obtain ⟨z5, c5, f5⟩ := id hX5
  have a5 : w5.cell? ⟨x0, 0, none⟩ = some (.int .i64 (st : Int)) := c5 0
  have b5 : w5.cell? ⟨x0, 1, none⟩ = some (.int .i64 (ba : Int)) := c5 1
  have i5 : w5.cell? ⟨x0, 2, none⟩ = some (.int .i64 (ix : Int)) := c5 2
  have m5 : w5.cell? ⟨x0, 3, none⟩ = some (.int .i64 (ma : Int)) := c5 3
  have s5 : w5.cell? ⟨x0, 4, none⟩ = some (.slice A N cap) := c5 4
  clear c5
  go_wp2_with fail
  with_reducible refine (put_o p ix 6 ix 6 L5 _ hW5 rfl rfl (by omega) (by omega) (by have := HL5.out; omega)).mono ?_
  rintro e w6 ⟨rfl, hW6, hq6⟩
  have hX6 := Blk.low hX5 hq6 hxp
  have hB6 := hB5.trans (hq6.mono (by have := HX0.out; omega))
  obtain ⟨L6, hL6⟩ : ∃ L', L' = L5 ++ bitsOf 6 ix := ⟨_, rfl⟩
  rw [← hL6] at hW6
  have HL6 : Hid (L6.length ≤ 168) := Lib.hid (by rw [hL6]; exact (by have := HL5.out; rw [List.length_append, bitsOf_length]; omega))
  have HE6 := Lib.hid hL6
  clear hL6 a5 b5 i5 m5 s5 z5 f5 hX5 hW5 hB5 hq6
  obtain ⟨z6, c6, f6⟩ := id hX6
  have a6 : w6.cell? ⟨x0, 0, none⟩ = some (.int .i64 (st : Int)) := c6 0
  have b6 : w6.cell? ⟨x0, 1, none⟩ = some (.int .i64 (ba : Int)) := c6 1
  have i6 : w6.cell? ⟨x0, 2, none⟩ = some (.int .i64 (ix : Int)) := c6 2
  have m6 : w6.cell? ⟨x0, 3, none⟩ = some (.int .i64 (ma : Int)) := c6 3
  have s6 : w6.cell? ⟨x0, 4, none⟩ = some (.slice A N cap) := c6 4
  clear c6
  go_wp2_with fail
  with_reducible refine (put_o p N 7 N 7 L6 _ hW6 rfl rfl (by omega) (by omega) (by have := HL6.out; omega)).mono ?_
  rintro e w7 ⟨rfl, hW7, hq7⟩
  have hX7 := Blk.low hX6 hq7 hxp
  have hB7 := hB6.trans (hq7.mono (by have := HX0.out; omega))
  obtain ⟨L7, hL7⟩ : ∃ L', L' = L6 ++ bitsOf 7 N := ⟨_, rfl⟩
  rw [← hL7] at hW7
  have HL7 : Hid (L7.length ≤ 175) := Lib.hid (by rw [hL7]; exact (by have := HL6.out; rw [List.length_append, bitsOf_length]; omega))
  have HE7 := Lib.hid hL7
  clear hL7 a6 b6 i6 m6 s6 z6 f6 hX6 hW6 hB6 hq7
  obtain ⟨z7, c7, f7⟩ := id hX7
  have a7 : w7.cell? ⟨x0, 0, none⟩ = some (.int .i64 (st : Int)) := c7 0
  have b7 : w7.cell? ⟨x0, 1, none⟩ = some (.int .i64 (ba : Int)) := c7 1
  have i7 : w7.cell? ⟨x0, 2, none⟩ = some (.int .i64 (ix : Int)) := c7 2
  have m7 : w7.cell? ⟨x0, 3, none⟩ = some (.int .i64 (ma : Int)) := c7 3
  have s7 : w7.cell? ⟨x0, 4, none⟩ = some (.slice A N cap) := c7 4
  clear c7
  have hE : L7 ++ openL l = L := by
    rw [HE7.out, HE6.out, HE5.out, HE4.out, HE3.out, HE2.out, HL.out]
    unfold tellL
    simp only [Int.toNat_natCast, ← HN.out, List.nil_append]
  have HE := Lib.hid hE
  have hLN : (openL l).length ≤ 800 := by rw [openL_length]; have := HN.out; omega
  have HLN := Lib.hid hLN
  clear hE hLN
  go_wp2
  refine wp_fresh ?_
  intro w8 hb8
  have hW8 := hW7.below hb8
  have hB8 := hB7.trans (hb8.mono hB7.size)
  clear a7 b7 i7 m7 s7 z7 f7 hX7 hW7 hB7 hb8
  go_loopw [37] (fun i wr => ∃ j : Nat, j ≤ N ∧ i = .int .i64 j ∧ Wo wr p (L7 ++ openL (l.take j)) ∧ Below w.heap.size w wr) (fun i _ => N - (intOf i).toNat)
  case atStart => exact ⟨0, by omega, rfl, by simpa [openL] using hW8, hB8⟩
  case round =>
    clear hW8 hB8
    obtain ⟨j, hj, rfl, hW, hB⟩ := hrel
    by_cases hlt : j < N
    · obtain ⟨ab, ao, x, rfl, hab, hx, hc⟩ := src_get HSR.out HN.out hlt
      have hc' := (hB.cell (p := ⟨ab, ao + j, none⟩) hab).trans hc
      have hx8 : x < 256 := H8.out x (List.mem_of_getElem? hx)
      have hsucc := openL_take_succ hx
      have hlen : (openL (l.take j)).length ≤ 800 := by rw [openL_length]; have := List.length_take_le j l; omega
      have HSU := Lib.hid hsucc
      have HLE := Lib.hid hlen
      clear hc hx hsucc hlen hab
      go_wp2_with fail
      with_reducible refine (put_o p x 8 x 8 _ _ hW rfl rfl (by omega) (by omega) (by rw [List.length_append]; have := HL7.out; have := HLE.out; omega)).mono ?_
      rintro e w9 ⟨rfl, hW9, hq9⟩
      have hB9 := hB.trans (hq9.mono (by have := HX0.out; omega))
      go_wp2
      go_roundw
      case rel => exact ⟨j + 1, by omega, by go_num, by rw [HSU.out, ← List.append_assoc]; exact hW9, hB9⟩
      case measure => first | (simp [intOf]; done) | (simp [intOf]; omega)
    · obtain rfl : j = N := by omega
      have hWf : Wo wr p L := by
        rw [← HE.out, ← show openL (l.take j) = openL l by rw [List.take_of_length_le (by have := HN.out; omega)]]
        exact hW
      clear hW
      go_wp2_with fail
      refine (wbytes_o p L _ hWf).mono ?_
      rintro e w9 ⟨A', c', rfl, hBs, _, hb9⟩
      go_wp2
      go_ret2
      exact ⟨A', c', rfl, bsOf_mono hBs hB.size, hB.trans (hb9.mono hB.size)⟩

set_option maxHeartbeats 2000000 in
theorem rtell_yes (st ba ix ma : Nat) (A : Option Addr) (N cap : Nat) (l : List Nat) (w : World) (hS : Src w (.slice A N cap) l) (hN : N = l.length) (h8 : ∀ b ∈ l, b < 256) (h : RightP st ba ix ma N) : Calls Try.prog 10 #[.agg #[.int .i64 (st : Int), .int .i64 (ba : Int), .int .i64 (ix : Int), .int .i64 (ma : Int), .slice A N cap]] w fun e w' => ∃ A' c', e = .returned (.tuple #[.slice A' (pack (tellL st ba ix ma l)).length c', .int .i64 0]) ∧ BsOf w' w.heap.size (.slice A' (pack (tellL st ba ix ma l)).length c') (pack (tellL st ba ix ma l)) ∧ Below w.heap.size w w' := by
  have HR := Lib.hid h
  obtain ⟨h1, h2, h3, h4, h5, h6, h7, h8', h9⟩ := h
  have h9' : (N : Int) ≤ 100 := by omega
  have HSR := Lib.hid hS
  have HN := Lib.hid hN
  have H8 := Lib.hid h8
  obtain ⟨L, hL⟩ : ∃ L, L = tellL st ba ix ma l := ⟨_, rfl⟩
  have HL := Lib.hid hL
  rw [← hL]
  clear hS hN h8 hL
  go_enter Try.func10, Try.ntmps10
  go_wp2_with fail
  refine calls_anew ?_
  intro w2 hb2
  have hX2 := ((Blk.fresh w #[.int .i64 (st : Int), .int .i64 (ba : Int), .int .i64 (ix : Int), .int .i64 (ma : Int), .slice A N cap] 45).alloc (.cells #[.slice none 0 0] 96)).below hb2
  have hW2 := ro_new (w := w.alloc (.cells #[.int .i64 (st : Int), .int .i64 (ba : Int), .int .i64 (ix : Int), .int .i64 (ma : Int), .slice A N cap] 45)) (p := w.heap.size + 1) (T := 96) (by simp) hb2
  have hB2 : Below w.heap.size w w2 := ((balloc w (.cells #[.int .i64 (st : Int), .int .i64 (ba : Int), .int .i64 (ix : Int), .int .i64 (ma : Int), .slice A N cap] 45)).trans (((balloc _ (.cells #[.slice none 0 0] 96)).trans (hb2.mono (by simp))).mono (by simp)))
  have hxp : w.heap.size < w.heap.size + 1 := by omega
  obtain ⟨p, hp⟩ : ∃ p, p = w.heap.size + 1 := ⟨_, rfl⟩
  rw [← hp] at hW2 hxp
  rw [← hp]
  clear hp hb2
  obtain ⟨x0, hx0⟩ : ∃ x0, x0 = w.heap.size := ⟨_, rfl⟩
  rw [← hx0] at hX2 hxp
  rw [← hx0]
  have hx0' : w.heap.size ≤ x0 := by omega
  have HX0 : Hid (x0 = w.heap.size) := Lib.hid hx0
  have hrel : Hid (∀ w', Below x0 w w' → Below w.heap.size w w') := Lib.hid (fun w' h => by rw [← hx0]; exact h)
  clear hx0
  obtain ⟨z2, c2, f2⟩ := id hX2
  have a2 : w2.cell? ⟨x0, 0, none⟩ = some (.int .i64 (st : Int)) := c2 0
  have b2 : w2.cell? ⟨x0, 1, none⟩ = some (.int .i64 (ba : Int)) := c2 1
  have i2 : w2.cell? ⟨x0, 2, none⟩ = some (.int .i64 (ix : Int)) := c2 2
  have m2 : w2.cell? ⟨x0, 3, none⟩ = some (.int .i64 (ma : Int)) := c2 3
  have s2 : w2.cell? ⟨x0, 4, none⟩ = some (.slice A N cap) := c2 4
  clear c2
  obtain ⟨L2, hL2⟩ : ∃ L2 : List Nat, L2 = [] := ⟨_, rfl⟩
  rw [← hL2] at hW2
  have HL2 : Hid (L2.length ≤ 0) := Lib.hid (by rw [hL2]; simp)
  have HE2 : Hid (L2 = []) := Lib.hid hL2
  clear hL2
  go_wp2_with fail
  with_reducible refine (rvar_o p st st L2 _ hW2 rfl (by unfold Lt62; omega) (by have := pieces6 st; have := HL2.out; omega)).mono ?_
  rintro e w3 ⟨rfl, hW3, hq3⟩
  have hX3 := Blk.low hX2 hq3 hxp
  have hB3 := hB2.trans (hq3.mono (by have := HX0.out; omega))
  obtain ⟨L3, hL3⟩ : ∃ L', L' = L2 ++ varL st := ⟨_, rfl⟩
  rw [← hL3] at hW3
  have HL3 : Hid (L3.length ≤ 78) := Lib.hid (by rw [hL3]; exact (by have := varL_le st; have := HL2.out; rw [List.length_append]; omega))
  have HE3 := Lib.hid hL3
  clear hL3 a2 b2 i2 m2 s2 z2 f2 hX2 hW2 hB2 hq3
  obtain ⟨z3, c3, f3⟩ := id hX3
  have a3 : w3.cell? ⟨x0, 0, none⟩ = some (.int .i64 (st : Int)) := c3 0
  have b3 : w3.cell? ⟨x0, 1, none⟩ = some (.int .i64 (ba : Int)) := c3 1
  have i3 : w3.cell? ⟨x0, 2, none⟩ = some (.int .i64 (ix : Int)) := c3 2
  have m3 : w3.cell? ⟨x0, 3, none⟩ = some (.int .i64 (ma : Int)) := c3 3
  have s3 : w3.cell? ⟨x0, 4, none⟩ = some (.slice A N cap) := c3 4
  clear c3
  go_wp2_with fail
  with_reducible refine (rvar_o p ba ba L3 _ hW3 rfl (by unfold Lt62; omega) (by have := pieces6 ba; have := HL3.out; omega)).mono ?_
  rintro e w4 ⟨rfl, hW4, hq4⟩
  have hX4 := Blk.low hX3 hq4 hxp
  have hB4 := hB3.trans (hq4.mono (by have := HX0.out; omega))
  obtain ⟨L4, hL4⟩ : ∃ L', L' = L3 ++ varL ba := ⟨_, rfl⟩
  rw [← hL4] at hW4
  have HL4 : Hid (L4.length ≤ 156) := Lib.hid (by rw [hL4]; exact (by have := varL_le ba; have := HL3.out; rw [List.length_append]; omega))
  have HE4 := Lib.hid hL4
  clear hL4 a3 b3 i3 m3 s3 z3 f3 hX3 hW3 hB3 hq4
  obtain ⟨z4, c4, f4⟩ := id hX4
  have a4 : w4.cell? ⟨x0, 0, none⟩ = some (.int .i64 (st : Int)) := c4 0
  have b4 : w4.cell? ⟨x0, 1, none⟩ = some (.int .i64 (ba : Int)) := c4 1
  have i4 : w4.cell? ⟨x0, 2, none⟩ = some (.int .i64 (ix : Int)) := c4 2
  have m4 : w4.cell? ⟨x0, 3, none⟩ = some (.int .i64 (ma : Int)) := c4 3
  have s4 : w4.cell? ⟨x0, 4, none⟩ = some (.slice A N cap) := c4 4
  clear c4
  go_wp2_with fail
  with_reducible refine (rput_o p ma 6 ma 6 L4 _ hW4 rfl rfl (by omega) (by unfold Lt63; omega) (by have := HL4.out; omega)).mono ?_
  rintro e w5 ⟨rfl, hW5, hq5⟩
  have hX5 := Blk.low hX4 hq5 hxp
  have hB5 := hB4.trans (hq5.mono (by have := HX0.out; omega))
  obtain ⟨L5, hL5⟩ : ∃ L', L' = L4 ++ bitsOf 6 ma := ⟨_, rfl⟩
  rw [← hL5] at hW5
  have HL5 : Hid (L5.length ≤ 162) := Lib.hid (by rw [hL5]; exact (by have := HL4.out; rw [List.length_append, bitsOf_length]; omega))
  have HE5 := Lib.hid hL5
  clear hL5 a4 b4 i4 m4 s4 z4 f4 hX4 hW4 hB4 hq5
  obtain ⟨z5, c5, f5⟩ := id hX5
  have a5 : w5.cell? ⟨x0, 0, none⟩ = some (.int .i64 (st : Int)) := c5 0
  have b5 : w5.cell? ⟨x0, 1, none⟩ = some (.int .i64 (ba : Int)) := c5 1
  have i5 : w5.cell? ⟨x0, 2, none⟩ = some (.int .i64 (ix : Int)) := c5 2
  have m5 : w5.cell? ⟨x0, 3, none⟩ = some (.int .i64 (ma : Int)) := c5 3
  have s5 : w5.cell? ⟨x0, 4, none⟩ = some (.slice A N cap) := c5 4
  clear c5
  go_wp2_with fail
  with_reducible refine (rput_o p ix 6 ix 6 L5 _ hW5 rfl rfl (by omega) (by unfold Lt63; omega) (by have := HL5.out; omega)).mono ?_
  rintro e w6 ⟨rfl, hW6, hq6⟩
  have hX6 := Blk.low hX5 hq6 hxp
  have hB6 := hB5.trans (hq6.mono (by have := HX0.out; omega))
  obtain ⟨L6, hL6⟩ : ∃ L', L' = L5 ++ bitsOf 6 ix := ⟨_, rfl⟩
  rw [← hL6] at hW6
  have HL6 : Hid (L6.length ≤ 168) := Lib.hid (by rw [hL6]; exact (by have := HL5.out; rw [List.length_append, bitsOf_length]; omega))
  have HE6 := Lib.hid hL6
  clear hL6 a5 b5 i5 m5 s5 z5 f5 hX5 hW5 hB5 hq6
  obtain ⟨z6, c6, f6⟩ := id hX6
  have a6 : w6.cell? ⟨x0, 0, none⟩ = some (.int .i64 (st : Int)) := c6 0
  have b6 : w6.cell? ⟨x0, 1, none⟩ = some (.int .i64 (ba : Int)) := c6 1
  have i6 : w6.cell? ⟨x0, 2, none⟩ = some (.int .i64 (ix : Int)) := c6 2
  have m6 : w6.cell? ⟨x0, 3, none⟩ = some (.int .i64 (ma : Int)) := c6 3
  have s6 : w6.cell? ⟨x0, 4, none⟩ = some (.slice A N cap) := c6 4
  clear c6
  go_wp2_with fail
  with_reducible refine (rput_o p N 7 N 7 L6 _ hW6 rfl rfl (by omega) (by unfold Lt63; omega) (by have := HL6.out; omega)).mono ?_
  rintro e w7 ⟨rfl, hW7, hq7⟩
  have hX7 := Blk.low hX6 hq7 hxp
  have hB7 := hB6.trans (hq7.mono (by have := HX0.out; omega))
  obtain ⟨L7, hL7⟩ : ∃ L', L' = L6 ++ bitsOf 7 N := ⟨_, rfl⟩
  rw [← hL7] at hW7
  have HL7 : Hid (L7.length ≤ 175) := Lib.hid (by rw [hL7]; exact (by have := HL6.out; rw [List.length_append, bitsOf_length]; omega))
  have HE7 := Lib.hid hL7
  clear hL7 a6 b6 i6 m6 s6 z6 f6 hX6 hW6 hB6 hq7
  obtain ⟨z7, c7, f7⟩ := id hX7
  have a7 : w7.cell? ⟨x0, 0, none⟩ = some (.int .i64 (st : Int)) := c7 0
  have b7 : w7.cell? ⟨x0, 1, none⟩ = some (.int .i64 (ba : Int)) := c7 1
  have i7 : w7.cell? ⟨x0, 2, none⟩ = some (.int .i64 (ix : Int)) := c7 2
  have m7 : w7.cell? ⟨x0, 3, none⟩ = some (.int .i64 (ma : Int)) := c7 3
  have s7 : w7.cell? ⟨x0, 4, none⟩ = some (.slice A N cap) := c7 4
  clear c7
  have hE : L7 ++ openL l = L := by
    rw [HE7.out, HE6.out, HE5.out, HE4.out, HE3.out, HE2.out, HL.out]
    unfold tellL
    simp only [Int.toNat_natCast, ← HN.out, List.nil_append]
  have HE := Lib.hid hE
  have hLN : (openL l).length ≤ 800 := by rw [openL_length]; have := HN.out; omega
  have HLN := Lib.hid hLN
  clear hE hLN
  go_wp2
  refine wp_fresh ?_
  intro w8 hb8
  have hW8 := hW7.below hb8
  have hB8 := hB7.trans (hb8.mono hB7.size)
  clear a7 b7 i7 m7 s7 z7 f7 hX7 hW7 hB7 hb8
  go_loopw [74] (fun i wr => ∃ j : Nat, j ≤ N ∧ i = .int .i64 j ∧ Ro wr p (L7 ++ openL (l.take j)) ∧ Below w.heap.size w wr) (fun i _ => N - (intOf i).toNat)
  case atStart => exact ⟨0, by omega, rfl, by simpa [openL] using hW8, hB8⟩
  case round =>
    clear hW8 hB8
    obtain ⟨j, hj, rfl, hW, hB⟩ := hrel
    by_cases hlt : j < N
    · obtain ⟨ab, ao, x, rfl, hab, hx, hc⟩ := src_get HSR.out HN.out hlt
      have hc' := (hB.cell (p := ⟨ab, ao + j, none⟩) hab).trans hc
      have hx8 : x < 256 := H8.out x (List.mem_of_getElem? hx)
      have hsucc := openL_take_succ hx
      have hlen : (openL (l.take j)).length ≤ 800 := by rw [openL_length]; have := List.length_take_le j l; omega
      have HSU := Lib.hid hsucc
      have HLE := Lib.hid hlen
      clear hc hx hsucc hlen hab
      go_wp2_with fail
      with_reducible refine (rput_o p x 8 x 8 _ _ hW rfl rfl (by omega) (by unfold Lt63; omega) (by rw [List.length_append]; have := HL7.out; have := HLE.out; omega)).mono ?_
      rintro e w9 ⟨rfl, hW9, hq9⟩
      have hB9 := hB.trans (hq9.mono (by have := HX0.out; omega))
      go_wp2
      go_roundw
      case rel => exact ⟨j + 1, by omega, by go_num, by rw [HSU.out, ← List.append_assoc]; exact hW9, hB9⟩
      case measure => first | (simp [intOf]; done) | (simp [intOf]; omega)
    · obtain rfl : j = N := by omega
      have hWf : Ro wr p L := by
        rw [← HE.out, ← show openL (l.take j) = openL l by rw [List.take_of_length_le (by have := HN.out; omega)]]
        exact hW
      clear hW
      obtain ⟨rA, rc, kq, hrd, _⟩ := ro_cell hWf
      obtain ⟨NL, hNL⟩ : ∃ n, n = L.length := ⟨_, rfl⟩
      rw [← hNL] at kq hrd
      have HRD := Lib.hid hrd
      clear hNL hrd
      go_wp2_with fail
      refine (rbytes_o _ L _ HRD.out hWf.bin hWf.lim).mono ?_
      rintro e w9 ⟨A', c', rfl, hBs, hb9⟩
      go_wp2
      go_ret2
      exact ⟨A', c', rfl, bsOf_mono hBs hB.size, hB.trans (hb9.mono hB.size)⟩

end Go.Proofs.Ytefhmbmbhiehdaa
