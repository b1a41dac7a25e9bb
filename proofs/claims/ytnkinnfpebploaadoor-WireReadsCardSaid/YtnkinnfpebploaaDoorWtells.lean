/- The walk of gyrelaw.WireTells. Conditions: what the variable errors.errorType holds. -/
import Derived.Test.YtnkinnfpebploaaDoorTell
import Derived.Test.YtnkinnfpebploaaDoorBare
import Derived.Test.YtnkinnfpebploaaDoorOpenP
namespace Go.Proofs.YtnkinnfpebploaaDoor
open Go.ChangeShapes Go.WideShapes Go.ChangeAt Go.RowKit Go.BigFrame
open B
theorem tellL_bin (st ba ix ma : Int) (l : List Nat) : Bin (tellL st ba ix ma l) := by
  unfold tellL
  exact ((((((varL_bin _).append (varL_bin _)).append (bitsOf_bin _ _)).append (bitsOf_bin _ _)).append (bitsOf_bin _ _)).append (openL_bin _))
theorem lbare_eq2 (n m : Int) (v : Value) (w : World) (hg : Handle w) (hv : errV n = v) (h : n = m) : Calls Tryd.prog 16 #[v, .int .i64 m] w fun e w' => e = .returned (.bool true) ∧ Below w.heap.size w w' := by
  subst hv
  exact lbare_eq n m w hg h
theorem wireTells_yes (st ba ix ma : Int) (A : Option Addr) (N cap : Nat) (l : List Nat) (w : World) (hH : Handle w) (hS : Src w (.slice A N cap) l) (hN : N = l.length) (h8 : ∀ b ∈ l, b < 256) (hN3 : N ≤ 300) (h : RightP st ba ix ma N) :
    Calls Tryd.prog 8 #[.agg #[.int .i64 st, .int .i64 ba, .int .i64 ix, .int .i64 ma, .slice A N cap]] w fun e w' => e = .returned (.bool true) ∧ Below w.heap.size w w' := by
  obtain ⟨st, rfl⟩ : ∃ n : Nat, st = n := ⟨st.toNat, by have := h.1; omega⟩
  obtain ⟨ba, rfl⟩ : ∃ n : Nat, ba = n := ⟨ba.toNat, by have := h.2.2.1; omega⟩
  obtain ⟨ma, rfl⟩ : ∃ n : Nat, ma = n := ⟨ma.toNat, by have := h.2.2.2.2.1; omega⟩
  obtain ⟨ix, rfl⟩ : ∃ n : Nat, ix = n := ⟨ix.toNat, by have := h.2.2.2.2.2.2.1; omega⟩
  have hbin : ∀ b ∈ pack (tellL st ba ix ma l), b < 256 := pack_lt (tellL_bin _ _ _ _ _)
  obtain ⟨PL, hPL⟩ : ∃ PL, PL = pack (tellL st ba ix ma l) := ⟨_, rfl⟩
  have HPL := Lib.hid hPL
  clear hbin hPL
  have h300 : ¬ (N : Int) > 300 := by omega
  have HH := Lib.hid h
  have HSR := Lib.hid hS
  have HN := Lib.hid hN
  have H8 := Lib.hid h8
  clear h hS hN h8
  go_enter Tryd.func8, Tryd.ntmps8
  go_wp2_with fail
  with_reducible refine (rtell_yes st ba ix ma A N cap l _ (HSR.out.below (balloc _ _)) HN.out H8.out HH.out).mono ?_
  rintro e w1 ⟨A1, c1, rfl, hs1, hb1⟩
  have hr1 := Rdb.of_row hs1
  rw [← HPL.out] at hr1
  rw [← HPL.out]
  have hX1 := (Blk.fresh w #[.int .i64 (st : Int), .int .i64 (ba : Int), .int .i64 (ix : Int), .int .i64 (ma : Int), .slice A N cap] 36).below hb1
  have hB1 : Below w.heap.size w w1 := (balloc _ _).trans (hb1.mono (by simp))
  obtain ⟨z1, c1', f1⟩ := id hX1
  go_wp2_with fail
  with_reducible refine (tell_yes st ba ix ma A N cap l _ (HSR.out.below hB1) HN.out H8.out HH.out).mono ?_
  rintro e w2 ⟨A2, c2, rfl, hs2, hb2⟩
  have hr2 := Rdb.of_row hs2
  rw [← HPL.out] at hr2
  rw [← HPL.out]
  have hr1 := hr1.below hb2
  have hB2 := hB1.trans (hb2.mono hB1.size)
  clear hX1 z1 c1' f1
  go_wp2_with fail
  with_reducible refine (lbare_eq2 0 0 .nilIface _ (hH.below hB2) rfl rfl).mono ?_
  rintro e w3 ⟨rfl, hb3⟩
  have hc1 := conv_rdb (hr1.below hb3)
  have hc2 := conv_rdb (hr2.below hb3)
  clear hr1 hr2
  go_wp2
  go_ret
  exact ⟨rfl, hB2.trans (hb3.mono hB2.size)⟩
theorem wireTells_no (st ba ix ma : Int) (A : Option Addr) (N cap : Nat) (l : List Nat) (w : World) (hH : Handle w) (hS : Src w (.slice A N cap) l) (hN : N = l.length) (h8 : ∀ b ∈ l, b < 256) (hN3 : N ≤ 300) (h : ¬ RightP st ba ix ma N) :
    Calls Tryd.prog 8 #[.agg #[.int .i64 st, .int .i64 ba, .int .i64 ix, .int .i64 ma, .slice A N cap]] w fun e w' => e = .returned (.bool true) ∧ Below w.heap.size w w' := by
  have h300 : ¬ (N : Int) > 300 := by omega
  have HH := Lib.hid h
  have HSR := Lib.hid hS
  have HN := Lib.hid hN
  have H8 := Lib.hid h8
  clear h hS hN h8
  go_enter Tryd.func8, Tryd.ntmps8
  go_wp2_with fail
  with_reducible refine (rtell_no st ba ix ma A N cap _ HH.out).mono ?_
  rintro e w1 ⟨rfl, hb1⟩
  have hr1 : Rdb w1 (.slice none 0 0) [] := ⟨none, 0, rfl, fun h => absurd h (by simp)⟩
  have hX1 := (Blk.fresh w #[.int .i64 st, .int .i64 ba, .int .i64 ix, .int .i64 ma, .slice A N cap] 36).below hb1
  have hB1 : Below w.heap.size w w1 := (balloc _ _).trans (hb1.mono (by simp))
  obtain ⟨z1, c1', f1⟩ := id hX1
  go_wp2_with fail
  with_reducible refine (tell_no st ba ix ma A N cap _ HH.out).mono ?_
  rintro e w2 ⟨rfl, hb2⟩
  have hr1 := hr1.below hb2
  have hr2 : Rdb w2 (.slice none 0 0) [] := ⟨none, 0, rfl, fun h => absurd h (by simp)⟩
  have hB2 := hB1.trans (hb2.mono hB1.size)
  clear hX1 z1 c1' f1
  go_wp2_with fail
  with_reducible refine (lbare_eq2 1 1 (.iface 25 (.int .i64 1)) _ (hH.below hB2) rfl rfl).mono ?_
  rintro e w3 ⟨rfl, hb3⟩
  have hc1 := conv_rdb (hr1.below hb3)
  have hc2 := conv_rdb (hr2.below hb3)
  clear hr1 hr2
  go_wp2
  go_ret
  exact ⟨rfl, hB2.trans (hb3.mono hB2.size)⟩
theorem wireTells_w (v : Value) (st ba ix ma : Int) (A : Option Addr) (N cap : Nat) (l : List Nat) (w : World) (hH : Handle w) (hv : v = .agg #[.int .i64 st, .int .i64 ba, .int .i64 ix, .int .i64 ma, .slice A N cap]) (hS : Src w (.slice A N cap) l) (hN : N = l.length) (h8 : ∀ b ∈ l, b < 256) (hl : l.length ≤ maxLen) :
    Calls Tryd.prog 8 #[v] w fun e w' => e = .returned (.bool true) ∧ Below w.heap.size w w' := by
  subst hv
  by_cases h3 : N > 300
  · rw [← hN] at hl
    unfold maxLen at hl
    clear hS hN h8
    go_enter Tryd.func8, Tryd.ntmps8
    go_wp2
    go_ret
    exact ⟨rfl, balloc _ _⟩
  by_cases h : RightP st ba ix ma N
  · exact wireTells_yes st ba ix ma A N cap l w hH hS hN h8 (by omega) h
  · exact wireTells_no st ba ix ma A N cap l w hH hS hN h8 (by omega) h
end Go.Proofs.YtnkinnfpebploaaDoor
