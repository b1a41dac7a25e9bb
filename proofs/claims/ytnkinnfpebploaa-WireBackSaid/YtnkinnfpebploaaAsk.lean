/- The contracts of wire.vars, wire.Ask. Conditions: none. -/
import Derived.Test.YtnkinnfpebploaaTell
import Derived.Test.YtnkinnfpebploaaNums
import Derived.Tactics
import Derived.Tactics2
import Derived.Outline
import Derived.Deep.CutBlock
import Derived.Deep.DeepCutAuto
namespace Go.Proofs.Ytnkinnfpebploaa
open Go.ChangeShapes Go.WideShapes Go.ChangeAt Go.RowKit Go.BigFrame
open B
def InTop (n : Int) : Prop := 0 ≤ n ∧ n ≤ 70368744177664
def InSp (n : Int) : Prop := -6553600 ≤ n ∧ n ≤ 6553600
def varsL (xs : List Int) : List Nat := xs.flatMap fun x => varL x.toNat
def intsL (xs : List Int) : List Nat := xs.flatMap intL
theorem varsL_snoc (xs : List Int) (x : Int) : varsL (xs ++ [x]) = varsL xs ++ varL x.toNat := by unfold varsL; simp
theorem intsL_snoc (xs : List Int) (x : Int) : intsL (xs ++ [x]) = intsL xs ++ intL x := by unfold intsL; simp
theorem varsL_le (xs : List Int) : (varsL xs).length ≤ 78 * xs.length := by
  induction xs with
  | nil => simp [varsL]
  | cons x xs ih =>
    have e : varsL (x :: xs) = varL x.toNat ++ varsL xs := by unfold varsL; simp
    rw [e, List.length_append, List.length_cons]
    have := varL_le x.toNat
    omega
theorem take_snoc {xs : List Int} {k : Nat} {x : Int} (h : xs[k]? = some x) : xs.take (k + 1) = xs.take k ++ [x] := by rw [List.take_add_one, h]; rfl
/-- what vars leaves -/
def VarsPost (p : Nat) (xs : List Int) (L : List Nat) (w : World) (e : Ending) (w' : World) : Prop :=
  ∃ (ok : Bool) (L' : List Nat), e = .returned (.bool ok) ∧ Wo w' p L' ∧ Below p w w' ∧ L'.length ≤ L.length + 78 * xs.length ∧ (ok = true ↔ ∀ x ∈ xs, InTop x) ∧ (ok = true → L' = L ++ varsL xs)
theorem varsPost_no {p : Nat} {xs : List Int} {L : List Nat} {w : World} {e : Ending} {w' : World} {k : Nat} {x : Int} (hx : xs[k]? = some x) (hn : ¬ InTop x) (he : e = .returned (.bool false)) (hw : Wo w' p (L ++ varsL (xs.take k))) (hb : Below p w w') : VarsPost p xs L w e w' := by
  refine ⟨false, _, he, hw, hb, ?_, ⟨(fun h => by cases h), fun h => absurd (h x (List.mem_of_getElem? hx)) hn⟩, (fun h => by cases h)⟩
  rw [List.length_append]
  have h1 := varsL_le (xs.take k)
  have h2 := List.length_take_le k xs
  have h3 := List.length_take_le' k xs
  omega
set_option maxHeartbeats 2000000 in
theorem vars_c (p b N : Nat) (xs : List Int) (L : List Nat) (v : Value) (w : World) (h : Wr w p p v L) (hb : Blk w b (i64s xs).toArray) (hvb : v.ownBlock ≠ some b) (hpb : p ≠ b) (hN : N = xs.length) (hn : N ≤ 4) (hl : L.length ≤ 30000) :
    Calls Try.prog 10 #[.pointer (some ⟨p, 0, none⟩), .slice (some ⟨b, 0, none⟩) N N] w (VarsPost p xs L w) := by
  have HN := Lib.hid hN
  clear hN
  go_enter Try.func10, Try.ntmps10
  go_wp2
  go_loopw [9] (fun i wr => ∃ (j : Nat) (v : Value), j ≤ N ∧ i = .int .i64 j ∧ Wr wr p p v (L ++ varsL (xs.take j)) ∧ v.ownBlock ≠ some b ∧ Blk wr b (i64s xs).toArray ∧ Below p w wr ∧ ∀ x ∈ xs.take j, InTop x) (fun i _ => N - (intOf i).toNat)
  case atStart => exact ⟨0, v, by omega, rfl, by simpa [varsL] using h, hvb, hb, Below.refl _ _, by simp⟩
  case round =>
    clear h hb hvb
    obtain ⟨j, v, hj, rfl, hW, hv, hb, hB, hin⟩ := hrel
    by_cases hlt : j < N
    · obtain ⟨x, hx⟩ : ∃ x, xs[j]? = some x := ⟨_, List.getElem?_eq_getElem (by have := HN.out; omega)⟩
      obtain ⟨z0, c0, f0⟩ := id hb
      have hc : wr.cell? ⟨b, j, none⟩ = some (.int .i64 x) := by rw [c0]; simpa using i64s_get hx
      have HX := Lib.hid hx
      have HIN := Lib.hid hin
      clear c0 hx hin
      by_cases h1 : x < 0
      · go_wp2
        go_ret
        exact varsPost_no HX.out (by unfold InTop; omega) rfl ⟨v, hW⟩ hB
      by_cases h2 : 70368744177664 < x
      · go_wp2
        go_ret
        exact varsPost_no HX.out (by unfold InTop; omega) rfl ⟨v, hW⟩ hB
      · have hpl := pieces6 x.toNat
        have hle : (varsL (xs.take j)).length ≤ 312 := by have := varsL_le (xs.take j); have := List.length_take_le j xs; have := HN.out; omega
        have HLE := Lib.hid hle
        have HPL := Lib.hid hpl
        clear hle hpl
        go_wp2_with fail
        with_reducible refine (var_i p p x.toNat x v _ _ hW (Nat.le_of_lt hW.blk.lt) (by omega) (by omega) (by rw [List.length_append]; have := HLE.out; have := HPL.out; omega)).mono ?_
        rintro e w1 ⟨rfl, v1, hW1, hT1⟩
        have hv1 : v1.ownBlock ≠ some b := by
          rcases hT1.own with e | e
          · rw [e]; exact hv
          · intro e2; have := e _ e2; omega
        have hb1 := hb.mod hT1.mod (by
          rintro (e | e)
          · exact hpb e.symm
          · exact hv e)
        have hB1 := hB.trans (wr_below hW (Nat.le_refl _) (Nat.le_of_lt hW.blk.lt) hT1)
        go_wp2
        go_roundw
        case rel =>
          refine ⟨j + 1, v1, by omega, by go_num, ?_, hv1, hb1, hB1, ?_⟩
          · rw [take_snoc HX.out, varsL_snoc, ← List.append_assoc]; exact hW1
          · intro y hy
            rw [take_snoc HX.out] at hy
            rcases List.mem_append.1 hy with hy | hy
            · exact HIN.out y hy
            · simp at hy; subst hy; unfold InTop; omega
        case measure => first | (simp [intOf]; done) | (simp [intOf]; omega)
    · obtain rfl : j = N := by omega
      have ht : xs.take j = xs := List.take_of_length_le (by have := HN.out; omega)
      rw [ht] at hW hin
      have HIN := Lib.hid hin
      clear ht hin
      go_wp2
      go_ret
      refine ⟨true, _, rfl, ⟨v, hW⟩, hB, ?_, ⟨fun _ => HIN.out, fun _ => rfl⟩, fun _ => rfl⟩
      rw [List.length_append]
      have := varsL_le xs
      omega
/-- Int at whatever number -/
def IntAny (p : Nat) (n : Int) (v : Value) (L : List Nat) (w : World) (e : Ending) (w' : World) : Prop :=
  ∃ (ev v' : Value) (L' : List Nat), e = .returned ev ∧ Wr w' p p v' L' ∧ Turn (· = p) w v w' v' ∧ L'.length ≤ L.length + 78 ∧ (InSp n → L' = L ++ intL n)
theorem int_any (p : Nat) (n : Int) (v : Value) (L : List Nat) (w : World) (h : Wr w p p v L) (hl : L.length ≤ 30000) : Calls Try.prog 12 #[.pointer (some ⟨p, 0, none⟩), .int .i64 n] w (IntAny p n v L w) := by
  by_cases h1 : -1152921504606846976 ≤ n ∧ n ≤ 1152921504606846976
  · have := pieces6 (zig n)
    refine (int_ok p p n v L w h (Nat.le_of_lt h.blk.lt) h1.1 h1.2 (by omega)).mono fun e w' ⟨he, v', hW, hT⟩ => ?_
    exact ⟨_, v', _, he, hW, hT, by rw [List.length_append]; have := intL_le n; omega, fun _ => rfl⟩
  · refine (int_bad n _ w (by omega)).mono fun e w' ⟨he, hw⟩ => ?_
    subst hw
    exact ⟨_, v, L, he, h, Turn.refl _ _ _, by omega, fun h => absurd h (by unfold InSp; omega)⟩
/-- a command that may be, of such a kind -/
def AskOk (t n s k b x y z : Int) : Prop := (∀ i ∈ [t, n, s], InTop i) ∧ (k ≠ 0 → InTop b) ∧ (k = 1 → ∀ i ∈ [x, y, z], InSp i)
/-- its bits -/
def askL (t n s k b x y z : Int) : List Nat := varsL [t, n, s] ++ bitsOf 2 k.toNat ++ (if k ≠ 0 then varsL [b] else []) ++ (if k = 1 then intsL [x, y, z] else [])
def AskPost (t n s k b x y z : Int) (w : World) (e : Ending) (w' : World) : Prop :=
  (AskOk t n s k b x y z ∧ ∃ A c, e = .returned (.tuple #[.slice A (pack (askL t n s k b x y z)).length c, .nilIface]) ∧ BsOf w' w.heap.size (.slice A (pack (askL t n s k b x y z)).length c) (pack (askL t n s k b x y z)) ∧ Below w.heap.size w w') ∨
  (¬ AskOk t n s k b x y z ∧ e = .returned (.tuple #[.slice none 0 0, .iface 43 (.int .i64 2)]) ∧ Below w.heap.size w w')
theorem askPost_no {t n s k b x y z : Int} {w : World} {e : Ending} {w' : World} (h : ¬ AskOk t n s k b x y z) (he : e = .returned (.tuple #[.slice none 0 0, .iface 43 (.int .i64 2)])) (hb : Below w.heap.size w w') : AskPost t n s k b x y z w e w' := .inr ⟨h, he, hb⟩
theorem askPost_yes {t n s k b x y z : Int} {w : World} {e : Ending} {w' : World} {L : List Nat} {A : Option Addr} {c B : Nat} (h : AskOk t n s k b x y z) (hL : L = askL t n s k b x y z) (he : e = .returned (.tuple #[.slice A (pack L).length c, .nilIface]))
    (hs : BsOf w' B (.slice A (pack L).length c) (pack L)) (hB : w.heap.size ≤ B) (hb : Below w.heap.size w w') : AskPost t n s k b x y z w e w' := by
  subst hL
  exact .inl ⟨h, A, c, he, bsOf_mono hs hB, hb⟩
theorem ask_kind (t n s k b x y z : Int) (w : World) (h : k < 0 ∨ 2 < k) : Calls Try.prog 5 #[.agg #[.int .i64 t, .int .i64 n, .int .i64 s, .int .i64 k, .int .i64 b, .int .i64 x, .int .i64 y, .int .i64 z]] w fun e w' => e = .returned (.tuple #[.slice none 0 0, .iface 43 (.int .i64 1)]) ∧ Below w.heap.size w w' := by
  have hp : k < 0 ∨ (¬ k < 0 ∧ 2 < k) := by omega
  clear h
  rcases hp with h | ⟨h, h2⟩
  all_goals
    go_enter Try.func5, Try.ntmps5
    go_wp2
    go_ret2
    exact ⟨rfl, balloc _ _⟩

set_option maxHeartbeats 4000000 in
theorem ask_0 (t n s b x y z : Int) (w : World) : Calls Try.prog 5 #[.agg #[.int .i64 t, .int .i64 n, .int .i64 s, .int .i64 0, .int .i64 b, .int .i64 x, .int .i64 y, .int .i64 z]] w (AskPost t n s 0 b x y z w) := by
  go_enter Try.func5, Try.ntmps5
  go_wp2_with fail
  refine calls_anew ?_
  intro w2 hb2
  have hX2 := (((Blk.fresh w #[.int .i64 t, .int .i64 n, .int .i64 s, .int .i64 0, .int .i64 b, .int .i64 x, .int .i64 y, .int .i64 z] 25).alloc (.cells #[.slice none 0 0, .int .i64 0] 46)).alloc (.cells #[.int .i64 t, .int .i64 n, .int .i64 s] 3)).below hb2
  have hY2 := (Blk.at ((w.alloc (.cells #[.int .i64 t, .int .i64 n, .int .i64 s, .int .i64 0, .int .i64 b, .int .i64 x, .int .i64 y, .int .i64 z] 25)).alloc (.cells #[.slice none 0 0, .int .i64 0] 46)) (w.heap.size + 1 + 1) #[.int .i64 t, .int .i64 n, .int .i64 s] 3 (by simp)).below hb2
  have hW2 := wr_new (base := w.heap.size + 1) (w := w.alloc (.cells #[.int .i64 t, .int .i64 n, .int .i64 s, .int .i64 0, .int .i64 b, .int .i64 x, .int .i64 y, .int .i64 z] 25)) (p := w.heap.size + 1) (T := 46) (by simp) ((balloc _ (.cells #[.int .i64 t, .int .i64 n, .int .i64 s] 3)).trans (hb2.mono (by simp)))
  have hB2 : Below w.heap.size w w2 := (((balloc w (.cells #[.int .i64 t, .int .i64 n, .int .i64 s, .int .i64 0, .int .i64 b, .int .i64 x, .int .i64 y, .int .i64 z] 25)).trans ((balloc _ (.cells #[.slice none 0 0, .int .i64 0] 46)).mono (by simp))).trans ((balloc _ (.cells #[.int .i64 t, .int .i64 n, .int .i64 s] 3)).mono (by simp; omega))).trans (hb2.mono (by simp; omega))
  obtain ⟨x0, hx0⟩ : ∃ x0, x0 = w.heap.size := ⟨_, rfl⟩
  rw [← hx0] at hX2 hY2 hW2
  rw [← hx0]
  have HX0 : Hid (x0 = w.heap.size) := Lib.hid hx0
  obtain ⟨p, hp⟩ : ∃ p, p = x0 + 1 := ⟨_, rfl⟩
  rw [← hp] at hW2 hY2
  rw [← hp]
  obtain ⟨b1, hb1⟩ : ∃ b1, b1 = p + 1 := ⟨_, rfl⟩
  rw [← hb1] at hY2
  rw [← hb1]
  have hxp : x0 < p := by omega
  have hpb1 : p ≠ b1 := by omega
  clear hp hb1 hb2 hx0
  have hY2' : Blk w2 b1 (i64s [t, n, s]).toArray := hY2
  with_reducible refine (vars_c p b1 3 [t, n, s] [] (.slice none 0 0) _ hW2 hY2' (by simp [Value.ownBlock]) hpb1 rfl (by decide) (by simp)).mono ?_
  rintro e w3 ⟨ok1, L1, rfl, hW3, hq3, hl3, hok1, hL1⟩
  have hX3 := Blk.low hX2 hq3 hxp
  have hB3 := hB2.trans (hq3.mono (by have := HX0.out; omega))
  clear hX2 hY2 hY2' hW2 hq3 hpb1 hB2
  obtain ⟨z3, c3, f3⟩ := id hX3
  have hl3' : L1.length ≤ 234 := by simpa using hl3
  clear hl3
  have HOK := Lib.hid hok1
  have HL1 := Lib.hid hL1
  clear hok1 hL1
  go_wp2_with fail
  with_reducible refine (put_o p 0 2 0 2 L1 _ hW3 rfl rfl (by omega) (by omega) (by omega)).mono ?_
  rintro e w4 ⟨rfl, hW4, hq4⟩
  have hX4 := Blk.low hX3 hq4 hxp
  have hB4 := hB3.trans (hq4.mono (by have := HX0.out; omega))
  clear hX3 z3 c3 f3 hW3 hq4 hB3
  obtain ⟨z4, c4, f4⟩ := id hX4
  obtain ⟨L4, hL4⟩ : ∃ L', L' = L1 ++ bitsOf 2 0 := ⟨_, rfl⟩
  rw [← hL4] at hW4
  have hl4 : L4.length ≤ 236 := by rw [hL4, List.length_append, bitsOf_length]; omega
  have HL4 := Lib.hid hL4
  clear hL4 hl3'
  cases ok1 with
  | true =>
    go_wp2_with fail
    refine (wbytes_o p _ _ hW4).mono ?_
    rintro e w9 ⟨A', c', rfl, hBs, _, hb9⟩
    go_wp2
    go_ret2
    exact askPost_yes ⟨HOK.out.1 (by trivial), fun h => absurd rfl h, fun h => absurd h (by decide)⟩ (by rw [HL4.out, HL1.out (by trivial)]; simp [askL]) rfl hBs hB4.size (hB4.trans (hb9.mono hB4.size))
  | false =>
    go_wp2
    go_ret2
    exact askPost_no (fun h => by have := HOK.out.2 h.1; cases this) rfl hB4

set_option maxHeartbeats 4000000 in
theorem ask_2 (t n s b x y z : Int) (w : World) : Calls Try.prog 5 #[.agg #[.int .i64 t, .int .i64 n, .int .i64 s, .int .i64 2, .int .i64 b, .int .i64 x, .int .i64 y, .int .i64 z]] w (AskPost t n s 2 b x y z w) := by
  go_enter Try.func5, Try.ntmps5
  go_wp2_with fail
  refine calls_anew ?_
  intro w2 hb2
  have hX2 := (((Blk.fresh w #[.int .i64 t, .int .i64 n, .int .i64 s, .int .i64 2, .int .i64 b, .int .i64 x, .int .i64 y, .int .i64 z] 25).alloc (.cells #[.slice none 0 0, .int .i64 0] 46)).alloc (.cells #[.int .i64 t, .int .i64 n, .int .i64 s] 3)).below hb2
  have hY2 := (Blk.at ((w.alloc (.cells #[.int .i64 t, .int .i64 n, .int .i64 s, .int .i64 2, .int .i64 b, .int .i64 x, .int .i64 y, .int .i64 z] 25)).alloc (.cells #[.slice none 0 0, .int .i64 0] 46)) (w.heap.size + 1 + 1) #[.int .i64 t, .int .i64 n, .int .i64 s] 3 (by simp)).below hb2
  have hW2 := wr_new (base := w.heap.size + 1) (w := w.alloc (.cells #[.int .i64 t, .int .i64 n, .int .i64 s, .int .i64 2, .int .i64 b, .int .i64 x, .int .i64 y, .int .i64 z] 25)) (p := w.heap.size + 1) (T := 46) (by simp) ((balloc _ (.cells #[.int .i64 t, .int .i64 n, .int .i64 s] 3)).trans (hb2.mono (by simp)))
  have hB2 : Below w.heap.size w w2 := (((balloc w (.cells #[.int .i64 t, .int .i64 n, .int .i64 s, .int .i64 2, .int .i64 b, .int .i64 x, .int .i64 y, .int .i64 z] 25)).trans ((balloc _ (.cells #[.slice none 0 0, .int .i64 0] 46)).mono (by simp))).trans ((balloc _ (.cells #[.int .i64 t, .int .i64 n, .int .i64 s] 3)).mono (by simp; omega))).trans (hb2.mono (by simp; omega))
  obtain ⟨x0, hx0⟩ : ∃ x0, x0 = w.heap.size := ⟨_, rfl⟩
  rw [← hx0] at hX2 hY2 hW2
  rw [← hx0]
  have HX0 : Hid (x0 = w.heap.size) := Lib.hid hx0
  obtain ⟨p, hp⟩ : ∃ p, p = x0 + 1 := ⟨_, rfl⟩
  rw [← hp] at hW2 hY2
  rw [← hp]
  obtain ⟨b1, hb1⟩ : ∃ b1, b1 = p + 1 := ⟨_, rfl⟩
  rw [← hb1] at hY2
  rw [← hb1]
  have hxp : x0 < p := by omega
  have hpb1 : p ≠ b1 := by omega
  clear hp hb1 hb2 hx0
  have hY2' : Blk w2 b1 (i64s [t, n, s]).toArray := hY2
  with_reducible refine (vars_c p b1 3 [t, n, s] [] (.slice none 0 0) _ hW2 hY2' (by simp [Value.ownBlock]) hpb1 rfl (by decide) (by simp)).mono ?_
  rintro e w3 ⟨ok1, L1, rfl, hW3, hq3, hl3, hok1, hL1⟩
  have hX3 := Blk.low hX2 hq3 hxp
  have hB3 := hB2.trans (hq3.mono (by have := HX0.out; omega))
  clear hX2 hY2 hY2' hW2 hq3 hpb1 hB2
  obtain ⟨z3, c3, f3⟩ := id hX3
  have hl3' : L1.length ≤ 234 := by simpa using hl3
  clear hl3
  have HOK := Lib.hid hok1
  have HL1 := Lib.hid hL1
  clear hok1 hL1
  go_wp2_with fail
  with_reducible refine (put_o p 2 2 2 2 L1 _ hW3 rfl rfl (by omega) (by omega) (by omega)).mono ?_
  rintro e w4 ⟨rfl, hW4, hq4⟩
  have hX4 := Blk.low hX3 hq4 hxp
  have hB4 := hB3.trans (hq4.mono (by have := HX0.out; omega))
  clear hX3 z3 c3 f3 hW3 hq4 hB3
  obtain ⟨z4, c4, f4⟩ := id hX4
  obtain ⟨L4, hL4⟩ : ∃ L', L' = L1 ++ bitsOf 2 2 := ⟨_, rfl⟩
  rw [← hL4] at hW4
  have hl4 : L4.length ≤ 236 := by rw [hL4, List.length_append, bitsOf_length]; omega
  have HL4 := Lib.hid hL4
  clear hL4 hl3'
  go_wp2_with fail
  refine calls_anew ?_
  intro w5 hb5
  obtain ⟨v4, hv4⟩ := hW4
  have hY5 := (Blk.fresh w4 #[.int .i64 b] 3).below hb5
  have hq45 : Below w4.heap.size w4 w5 := (balloc w4 (.cells #[.int .i64 b] 3)).trans (hb5.mono (by simp))
  have hv5 := wr_of_below hv4 hq45
  have hX5 := hX4.below hq45
  have hB5 := hB4.trans (hq45.mono hB4.size)
  have hown : v4.ownBlock ≠ some w4.heap.size := fun e => by have := (row_lt hv4.row e).1; omega
  have hpb : p ≠ w4.heap.size := by have := hv4.blk.lt; omega
  obtain ⟨b2, hb2⟩ : ∃ b2, b2 = w4.heap.size := ⟨_, rfl⟩
  rw [← hb2] at hY5 hown hpb
  rw [← hb2]
  clear hb2 hb5 hq45 hv4 hX4 hB4 z4 c4 f4
  have hY5' : Blk w5 b2 (i64s [b]).toArray := hY5
  with_reducible refine (vars_c p b2 1 [b] L4 v4 _ hv5 hY5' hown hpb rfl (by decide) (by omega)).mono ?_
  rintro e w6 ⟨ok2, L6, rfl, hW6, hq6, hl6, hok2, hL6⟩
  have hX6 := Blk.low hX5 hq6 hxp
  have hB6 := hB5.trans (hq6.mono (by have := HX0.out; omega))
  clear hY5 hY5' hv5 hX5 hB5 hown hpb hq6
  have hl6' : L6.length ≤ 314 := by simp at hl6; omega
  have HOK2 := Lib.hid hok2
  have HL6 := Lib.hid hL6
  clear hok2 hL6 hl6 hl4
  obtain ⟨z6, c6, f6⟩ := id hX6
  cases ok2 with
  | false =>
    go_wp2
    go_ret2
    exact askPost_no (fun h => by have := HOK2.out.2 (by simpa using h.2.1 (by decide)); cases this) rfl hB6
  | true =>
    cases ok1 with
    | true =>
      go_wp2_with fail
      refine (wbytes_o p _ _ hW6).mono ?_
      rintro e w9 ⟨A', c', rfl, hBs, _, hb9⟩
      go_wp2
      go_ret2
      exact askPost_yes ⟨HOK.out.1 (by trivial), fun _ => by simpa using HOK2.out.1 (by trivial), fun h => absurd h (by decide)⟩ (by rw [HL6.out (by trivial), HL4.out, HL1.out (by trivial)]; simp [askL]) rfl hBs hB6.size (hB6.trans (hb9.mono hB6.size))
    | false =>
      go_wp2
      go_ret2
      exact askPost_no (fun h => by have := HOK.out.2 h.1; cases this) rfl hB6

set_option maxHeartbeats 4000000 in
theorem ask_1 (t n s b x y z : Int) (w : World) : Calls Try.prog 5 #[.agg #[.int .i64 t, .int .i64 n, .int .i64 s, .int .i64 1, .int .i64 b, .int .i64 x, .int .i64 y, .int .i64 z]] w (AskPost t n s 1 b x y z w) := by
  go_enter Try.func5, Try.ntmps5
  go_wp2_with fail
  refine calls_anew ?_
  intro w2 hb2
  have hX2 := (((Blk.fresh w #[.int .i64 t, .int .i64 n, .int .i64 s, .int .i64 1, .int .i64 b, .int .i64 x, .int .i64 y, .int .i64 z] 25).alloc (.cells #[.slice none 0 0, .int .i64 0] 46)).alloc (.cells #[.int .i64 t, .int .i64 n, .int .i64 s] 3)).below hb2
  have hY2 := (Blk.at ((w.alloc (.cells #[.int .i64 t, .int .i64 n, .int .i64 s, .int .i64 1, .int .i64 b, .int .i64 x, .int .i64 y, .int .i64 z] 25)).alloc (.cells #[.slice none 0 0, .int .i64 0] 46)) (w.heap.size + 1 + 1) #[.int .i64 t, .int .i64 n, .int .i64 s] 3 (by simp)).below hb2
  have hW2 := wr_new (base := w.heap.size + 1) (w := w.alloc (.cells #[.int .i64 t, .int .i64 n, .int .i64 s, .int .i64 1, .int .i64 b, .int .i64 x, .int .i64 y, .int .i64 z] 25)) (p := w.heap.size + 1) (T := 46) (by simp) ((balloc _ (.cells #[.int .i64 t, .int .i64 n, .int .i64 s] 3)).trans (hb2.mono (by simp)))
  have hB2 : Below w.heap.size w w2 := (((balloc w (.cells #[.int .i64 t, .int .i64 n, .int .i64 s, .int .i64 1, .int .i64 b, .int .i64 x, .int .i64 y, .int .i64 z] 25)).trans ((balloc _ (.cells #[.slice none 0 0, .int .i64 0] 46)).mono (by simp))).trans ((balloc _ (.cells #[.int .i64 t, .int .i64 n, .int .i64 s] 3)).mono (by simp; omega))).trans (hb2.mono (by simp; omega))
  obtain ⟨x0, hx0⟩ : ∃ x0, x0 = w.heap.size := ⟨_, rfl⟩
  rw [← hx0] at hX2 hY2 hW2
  rw [← hx0]
  have HX0 : Hid (x0 = w.heap.size) := Lib.hid hx0
  obtain ⟨p, hp⟩ : ∃ p, p = x0 + 1 := ⟨_, rfl⟩
  rw [← hp] at hW2 hY2
  rw [← hp]
  obtain ⟨b1, hb1⟩ : ∃ b1, b1 = p + 1 := ⟨_, rfl⟩
  rw [← hb1] at hY2
  rw [← hb1]
  have hxp : x0 < p := by omega
  have hpb1 : p ≠ b1 := by omega
  clear hp hb1 hb2 hx0
  have hY2' : Blk w2 b1 (i64s [t, n, s]).toArray := hY2
  with_reducible refine (vars_c p b1 3 [t, n, s] [] (.slice none 0 0) _ hW2 hY2' (by simp [Value.ownBlock]) hpb1 rfl (by decide) (by simp)).mono ?_
  rintro e w3 ⟨ok1, L1, rfl, hW3, hq3, hl3, hok1, hL1⟩
  have hX3 := Blk.low hX2 hq3 hxp
  have hB3 := hB2.trans (hq3.mono (by have := HX0.out; omega))
  clear hX2 hY2 hY2' hW2 hq3 hpb1 hB2
  obtain ⟨z3, c3, f3⟩ := id hX3
  have hl3' : L1.length ≤ 234 := by simpa using hl3
  clear hl3
  have HOK := Lib.hid hok1
  have HL1 := Lib.hid hL1
  clear hok1 hL1
  go_wp2_with fail
  with_reducible refine (put_o p 1 2 1 2 L1 _ hW3 rfl rfl (by omega) (by omega) (by omega)).mono ?_
  rintro e w4 ⟨rfl, hW4, hq4⟩
  have hX4 := Blk.low hX3 hq4 hxp
  have hB4 := hB3.trans (hq4.mono (by have := HX0.out; omega))
  clear hX3 z3 c3 f3 hW3 hq4 hB3
  obtain ⟨z4, c4, f4⟩ := id hX4
  obtain ⟨L4, hL4⟩ : ∃ L', L' = L1 ++ bitsOf 2 1 := ⟨_, rfl⟩
  rw [← hL4] at hW4
  have hl4 : L4.length ≤ 236 := by rw [hL4, List.length_append, bitsOf_length]; omega
  have HL4 := Lib.hid hL4
  clear hL4 hl3'
  go_wp2_with fail
  refine calls_anew ?_
  intro w5 hb5
  obtain ⟨v4, hv4⟩ := hW4
  have hY5 := (Blk.fresh w4 #[.int .i64 b] 3).below hb5
  have hq45 : Below w4.heap.size w4 w5 := (balloc w4 (.cells #[.int .i64 b] 3)).trans (hb5.mono (by simp))
  have hv5 := wr_of_below hv4 hq45
  have hX5 := hX4.below hq45
  have hB5 := hB4.trans (hq45.mono hB4.size)
  have hown : v4.ownBlock ≠ some w4.heap.size := fun e => by have := (row_lt hv4.row e).1; omega
  have hpb : p ≠ w4.heap.size := by have := hv4.blk.lt; omega
  obtain ⟨b2, hb2⟩ : ∃ b2, b2 = w4.heap.size := ⟨_, rfl⟩
  rw [← hb2] at hY5 hown hpb
  rw [← hb2]
  clear hb2 hb5 hq45 hv4 hX4 hB4 z4 c4 f4
  have hY5' : Blk w5 b2 (i64s [b]).toArray := hY5
  with_reducible refine (vars_c p b2 1 [b] L4 v4 _ hv5 hY5' hown hpb rfl (by decide) (by omega)).mono ?_
  rintro e w6 ⟨ok2, L6, rfl, hW6, hq6, hl6, hok2, hL6⟩
  have hX6 := Blk.low hX5 hq6 hxp
  have hB6 := hB5.trans (hq6.mono (by have := HX0.out; omega))
  clear hY5 hY5' hv5 hX5 hB5 hown hpb hq6
  have hl6' : L6.length ≤ 314 := by simp at hl6; omega
  have HOK2 := Lib.hid hok2
  have HL6 := Lib.hid hL6
  clear hok2 hL6 hl6 hl4
  obtain ⟨z6, c6, f6⟩ := id hX6
  cases ok2 with
  | false =>
    go_wp2
    refine wp_fresh ?_
    intro w7 hb7
    obtain ⟨v6, hv6⟩ := hW6
    have hY7 := (Blk.fresh w6 #[.int .i64 x, .int .i64 y, .int .i64 z] 3).below hb7
    have hq67 : Below w6.heap.size w6 w7 := (balloc w6 (.cells #[.int .i64 x, .int .i64 y, .int .i64 z] 3)).trans (hb7.mono (by simp))
    have hv7 := wr_of_below hv6 hq67
    have hB7 := hB6.trans (hq67.mono hB6.size)
    have hown : v6.ownBlock ≠ some w6.heap.size := fun e => by have := (row_lt hv6.row e).1; omega
    have hpb : p ≠ w6.heap.size := by have := hv6.blk.lt; omega
    obtain ⟨b3, hb3⟩ : ∃ b3, b3 = w6.heap.size := ⟨_, rfl⟩
    rw [← hb3] at hY7 hown hpb
    rw [← hb3]
    clear hb3 hb7 hq67 hv6 hX6 hB6 z6 c6 f6
    obtain ⟨xs, hxs⟩ : ∃ xs : List Int, xs = [x, y, z] := ⟨_, rfl⟩
    have hY7' : Blk w7 b3 (i64s xs).toArray := by rw [hxs]; exact hY7
    have hxl : xs.length = 3 := by rw [hxs]; rfl
    have HXS := Lib.hid hxs
    have HXL := Lib.hid hxl
    clear hY7 hxs hxl
    go_loopw [5, 57] (fun tv i wr => ∃ (j : Nat) (ok : Bool) (v : Value) (Lj : List Nat), j ≤ 3 ∧ i = .int .i64 j ∧ tv = .bool ok ∧ Wr wr p p v Lj ∧ v.ownBlock ≠ some b3 ∧ Blk wr b3 (i64s xs).toArray ∧ Below w.heap.size w wr ∧ Lj.length ≤ 314 + 78 * j ∧ (ok = true ↔ (false = true ∧ ∀ i ∈ xs.take j, InSp i)) ∧ (ok = true → Lj = L6 ++ intsL (xs.take j))) (fun _ i _ => 3 - (intOf i).toNat)
    case atStart => exact ⟨0, false, v6, L6, by omega, rfl, rfl, hv7, hown, hY7', hB7, by omega, by simp, fun _ => by simp [intsL]⟩
    case round =>
      clear hv7 hown hY7' hB7
      obtain ⟨j, ok, v, Lj, hj, rfl, rfl, hv, hown, hY, hB, hlj, hok, hLj⟩ := hrel
      have HOKJ := Lib.hid hok
      have HLJ := Lib.hid hLj
      clear hok hLj
      by_cases hlt : j < 3
      · obtain ⟨c, hc⟩ : ∃ c, xs[j]? = some c := ⟨_, List.getElem?_eq_getElem (by have := HXL.out; omega)⟩
        obtain ⟨zy, cy, fy⟩ := id hY
        have hcc : wr.cell? ⟨b3, j, none⟩ = some (.int .i64 c) := by rw [cy]; simpa using i64s_get hc
        have HC := Lib.hid hc
        clear cy hc
        have fin : ∀ (ok' : Bool) (v' : Value) (L' : List Nat) (w' : World), Wr w' p p v' L' → Turn (· = p) wr v w' v' → L'.length ≤ Lj.length + 78 → (InSp c → L' = Lj ++ intL c) → (ok' = true ↔ ok = true ∧ InSp c) →
            (∃ (j' : Nat) (ok2 : Bool) (v2 : Value) (L2 : List Nat), j' ≤ 3 ∧ (Value.int .i64 ((j : Int) + 1)) = .int .i64 j' ∧ Value.bool ok' = .bool ok2 ∧ Wr w' p p v2 L2 ∧ v2.ownBlock ≠ some b3 ∧ Blk w' b3 (i64s xs).toArray ∧ Below w.heap.size w w' ∧ L2.length ≤ 314 + 78 * j' ∧ (ok2 = true ↔ (false = true ∧ ∀ i ∈ xs.take j', InSp i)) ∧ (ok2 = true → L2 = L6 ++ intsL (xs.take j'))) := by
          intro ok' v' L' w' hW hT hl hL he
          refine ⟨j + 1, ok', v', L', by omega, by go_num, rfl, hW, ?_, ?_, ?_, by omega, ?_, ?_⟩
          · rcases hT.own with e | e
            · rw [e]; exact hown
            · intro e2; have := e _ e2; omega
          · exact hY.mod hT.mod (by
              rintro (e | e)
              · exact hpb e.symm
              · exact hown e)
          · exact hB.trans ((wr_below hv (Nat.le_refl _) (Nat.le_of_lt hv.blk.lt) hT).mono (by have := HX0.out; omega))
          · rw [he, HOKJ.out, take_snoc HC.out]
            simp only [List.mem_append, List.mem_singleton]
            constructor
            · rintro ⟨⟨a1, a2⟩, a3⟩
              refine ⟨a1, fun i hi => ?_⟩
              rcases hi with hi | hi
              · exact a2 i hi
              · subst hi; exact a3
            · rintro ⟨a1, a2⟩
              exact ⟨⟨a1, fun i hi => a2 i (.inl hi)⟩, a2 c (.inr rfl)⟩
          · intro h
            obtain ⟨h1, h2⟩ := he.1 h
            rw [hL h2, HLJ.out h1, take_snoc HC.out, intsL_snoc, List.append_assoc]
        have FIN := Lib.hid fin
        clear fin
        have hl30 : Lj.length ≤ 30000 := by omega
        have hsp : ok = false ∨ (ok = true ∧ c < -6553600) ∨ (ok = true ∧ -6553600 ≤ c ∧ 6553600 < c) ∨ (ok = true ∧ -6553600 ≤ c ∧ c ≤ 6553600) := by
          cases ok
          · exact .inl rfl
          · right; simp; omega
        rcases hsp with rfl | ⟨rfl, s1⟩ | ⟨rfl, s1, s2⟩ | ⟨rfl, s1, s2⟩
        case' inr.inr.inr => have hspc : InSp c := ⟨s1, s2⟩
        all_goals
          go_wp2_with fail
          with_reducible refine (int_any p c v Lj _ hv hl30).mono ?_
          rintro e w8 ⟨ev, v8, L8, rfl, hW8, hT8, hl8, hL8⟩
          have HFR := Lib.hid (fun ok' => FIN.out ok' v8 L8 w8 hW8 hT8 hl8 hL8)
          clear hW8 hT8 hl8 hL8 hv hown hY hB
          go_wp2
          go_roundw
          case rel => exact HFR.out _ (by simp; try (unfold InSp; omega))
          case measure => first | (simp [intOf]; done) | (simp [intOf]; omega)
      · obtain rfl : j = 3 := by omega
        have ht : xs.take 3 = [x, y, z] := by rw [HXS.out]; rfl
        have hok := HOKJ.out
        have hLj := HLJ.out
        rw [ht] at hok hLj
        have HOKJ := Lib.hid hok
        have HLJ := Lib.hid hLj
        clear ht hok hLj
        cases ok with
        | true =>
          go_wp2_with fail
          refine (wbytes_o p _ _ ⟨v, hv⟩).mono ?_
          rintro e w9 ⟨A', c', rfl, hBs, _, hb9⟩
          go_wp2
          go_ret2
          exact askPost_yes ⟨HOK.out.1 (by first | trivial | (have := (HOKJ.out.1 (by trivial)).1; cases this)), fun _ => by have := HOK2.out.1 (by first | trivial | (have := (HOKJ.out.1 (by trivial)).1; cases this)); simpa using this, fun _ => (HOKJ.out.1 (by trivial)).2⟩ (by rw [HLJ.out (by trivial), HL6.out (by first | trivial | (have := (HOKJ.out.1 (by trivial)).1; cases this)), HL4.out, HL1.out (by first | trivial | (have := (HOKJ.out.1 (by trivial)).1; cases this))]; simp [askL]) rfl hBs hB.size (hB.trans (hb9.mono hB.size))
        | false =>
          go_wp2
          go_ret2
          exact askPost_no (fun h => by
            have h1 := HOK.out.2 h.1
            have h2 := HOK2.out.2 (by simpa using h.2.1 (by decide))
            first
              | (cases h1; done)
              | (cases h2; done)
              | (have := HOKJ.out.2 ⟨by trivial, h.2.2 rfl⟩; cases this)) rfl hB
  | true =>
    cases ok1 with
    | true =>
      go_wp2
      refine wp_fresh ?_
      intro w7 hb7
      obtain ⟨v6, hv6⟩ := hW6
      have hY7 := (Blk.fresh w6 #[.int .i64 x, .int .i64 y, .int .i64 z] 3).below hb7
      have hq67 : Below w6.heap.size w6 w7 := (balloc w6 (.cells #[.int .i64 x, .int .i64 y, .int .i64 z] 3)).trans (hb7.mono (by simp))
      have hv7 := wr_of_below hv6 hq67
      have hB7 := hB6.trans (hq67.mono hB6.size)
      have hown : v6.ownBlock ≠ some w6.heap.size := fun e => by have := (row_lt hv6.row e).1; omega
      have hpb : p ≠ w6.heap.size := by have := hv6.blk.lt; omega
      obtain ⟨b3, hb3⟩ : ∃ b3, b3 = w6.heap.size := ⟨_, rfl⟩
      rw [← hb3] at hY7 hown hpb
      rw [← hb3]
      clear hb3 hb7 hq67 hv6 hX6 hB6 z6 c6 f6
      obtain ⟨xs, hxs⟩ : ∃ xs : List Int, xs = [x, y, z] := ⟨_, rfl⟩
      have hY7' : Blk w7 b3 (i64s xs).toArray := by rw [hxs]; exact hY7
      have hxl : xs.length = 3 := by rw [hxs]; rfl
      have HXS := Lib.hid hxs
      have HXL := Lib.hid hxl
      clear hY7 hxs hxl
      go_loopw [5, 57] (fun tv i wr => ∃ (j : Nat) (ok : Bool) (v : Value) (Lj : List Nat), j ≤ 3 ∧ i = .int .i64 j ∧ tv = .bool ok ∧ Wr wr p p v Lj ∧ v.ownBlock ≠ some b3 ∧ Blk wr b3 (i64s xs).toArray ∧ Below w.heap.size w wr ∧ Lj.length ≤ 314 + 78 * j ∧ (ok = true ↔ (true = true ∧ ∀ i ∈ xs.take j, InSp i)) ∧ (ok = true → Lj = L6 ++ intsL (xs.take j))) (fun _ i _ => 3 - (intOf i).toNat)
      case atStart => exact ⟨0, true, v6, L6, by omega, rfl, rfl, hv7, hown, hY7', hB7, by omega, by simp, fun _ => by simp [intsL]⟩
      case round =>
        clear hv7 hown hY7' hB7
        obtain ⟨j, ok, v, Lj, hj, rfl, rfl, hv, hown, hY, hB, hlj, hok, hLj⟩ := hrel
        have HOKJ := Lib.hid hok
        have HLJ := Lib.hid hLj
        clear hok hLj
        by_cases hlt : j < 3
        · obtain ⟨c, hc⟩ : ∃ c, xs[j]? = some c := ⟨_, List.getElem?_eq_getElem (by have := HXL.out; omega)⟩
          obtain ⟨zy, cy, fy⟩ := id hY
          have hcc : wr.cell? ⟨b3, j, none⟩ = some (.int .i64 c) := by rw [cy]; simpa using i64s_get hc
          have HC := Lib.hid hc
          clear cy hc
          have fin : ∀ (ok' : Bool) (v' : Value) (L' : List Nat) (w' : World), Wr w' p p v' L' → Turn (· = p) wr v w' v' → L'.length ≤ Lj.length + 78 → (InSp c → L' = Lj ++ intL c) → (ok' = true ↔ ok = true ∧ InSp c) →
              (∃ (j' : Nat) (ok2 : Bool) (v2 : Value) (L2 : List Nat), j' ≤ 3 ∧ (Value.int .i64 ((j : Int) + 1)) = .int .i64 j' ∧ Value.bool ok' = .bool ok2 ∧ Wr w' p p v2 L2 ∧ v2.ownBlock ≠ some b3 ∧ Blk w' b3 (i64s xs).toArray ∧ Below w.heap.size w w' ∧ L2.length ≤ 314 + 78 * j' ∧ (ok2 = true ↔ (true = true ∧ ∀ i ∈ xs.take j', InSp i)) ∧ (ok2 = true → L2 = L6 ++ intsL (xs.take j'))) := by
            intro ok' v' L' w' hW hT hl hL he
            refine ⟨j + 1, ok', v', L', by omega, by go_num, rfl, hW, ?_, ?_, ?_, by omega, ?_, ?_⟩
            · rcases hT.own with e | e
              · rw [e]; exact hown
              · intro e2; have := e _ e2; omega
            · exact hY.mod hT.mod (by
                rintro (e | e)
                · exact hpb e.symm
                · exact hown e)
            · exact hB.trans ((wr_below hv (Nat.le_refl _) (Nat.le_of_lt hv.blk.lt) hT).mono (by have := HX0.out; omega))
            · rw [he, HOKJ.out, take_snoc HC.out]
              simp only [List.mem_append, List.mem_singleton]
              constructor
              · rintro ⟨⟨a1, a2⟩, a3⟩
                refine ⟨a1, fun i hi => ?_⟩
                rcases hi with hi | hi
                · exact a2 i hi
                · subst hi; exact a3
              · rintro ⟨a1, a2⟩
                exact ⟨⟨a1, fun i hi => a2 i (.inl hi)⟩, a2 c (.inr rfl)⟩
            · intro h
              obtain ⟨h1, h2⟩ := he.1 h
              rw [hL h2, HLJ.out h1, take_snoc HC.out, intsL_snoc, List.append_assoc]
          have FIN := Lib.hid fin
          clear fin
          have hl30 : Lj.length ≤ 30000 := by omega
          have hsp : ok = false ∨ (ok = true ∧ c < -6553600) ∨ (ok = true ∧ -6553600 ≤ c ∧ 6553600 < c) ∨ (ok = true ∧ -6553600 ≤ c ∧ c ≤ 6553600) := by
            cases ok
            · exact .inl rfl
            · right; simp; omega
          rcases hsp with rfl | ⟨rfl, s1⟩ | ⟨rfl, s1, s2⟩ | ⟨rfl, s1, s2⟩
          case' inr.inr.inr => have hspc : InSp c := ⟨s1, s2⟩
          all_goals
            go_wp2_with fail
            with_reducible refine (int_any p c v Lj _ hv hl30).mono ?_
            rintro e w8 ⟨ev, v8, L8, rfl, hW8, hT8, hl8, hL8⟩
            have HFR := Lib.hid (fun ok' => FIN.out ok' v8 L8 w8 hW8 hT8 hl8 hL8)
            clear hW8 hT8 hl8 hL8 hv hown hY hB
            go_wp2
            go_roundw
            case rel => exact HFR.out _ (by simp; try (unfold InSp; omega))
            case measure => first | (simp [intOf]; done) | (simp [intOf]; omega)
        · obtain rfl : j = 3 := by omega
          have ht : xs.take 3 = [x, y, z] := by rw [HXS.out]; rfl
          have hok := HOKJ.out
          have hLj := HLJ.out
          rw [ht] at hok hLj
          have HOKJ := Lib.hid hok
          have HLJ := Lib.hid hLj
          clear ht hok hLj
          cases ok with
          | true =>
            go_wp2_with fail
            refine (wbytes_o p _ _ ⟨v, hv⟩).mono ?_
            rintro e w9 ⟨A', c', rfl, hBs, _, hb9⟩
            go_wp2
            go_ret2
            exact askPost_yes ⟨HOK.out.1 (by first | trivial | (have := (HOKJ.out.1 (by trivial)).1; cases this)), fun _ => by have := HOK2.out.1 (by first | trivial | (have := (HOKJ.out.1 (by trivial)).1; cases this)); simpa using this, fun _ => (HOKJ.out.1 (by trivial)).2⟩ (by rw [HLJ.out (by trivial), HL6.out (by first | trivial | (have := (HOKJ.out.1 (by trivial)).1; cases this)), HL4.out, HL1.out (by first | trivial | (have := (HOKJ.out.1 (by trivial)).1; cases this))]; simp [askL]) rfl hBs hB.size (hB.trans (hb9.mono hB.size))
          | false =>
            go_wp2
            go_ret2
            exact askPost_no (fun h => by
              have h1 := HOK.out.2 h.1
              have h2 := HOK2.out.2 (by simpa using h.2.1 (by decide))
              first
                | (cases h1; done)
                | (cases h2; done)
                | (have := HOKJ.out.2 ⟨by trivial, h.2.2 rfl⟩; cases this)) rfl hB
    | false =>
      go_wp2
      refine wp_fresh ?_
      intro w7 hb7
      obtain ⟨v6, hv6⟩ := hW6
      have hY7 := (Blk.fresh w6 #[.int .i64 x, .int .i64 y, .int .i64 z] 3).below hb7
      have hq67 : Below w6.heap.size w6 w7 := (balloc w6 (.cells #[.int .i64 x, .int .i64 y, .int .i64 z] 3)).trans (hb7.mono (by simp))
      have hv7 := wr_of_below hv6 hq67
      have hB7 := hB6.trans (hq67.mono hB6.size)
      have hown : v6.ownBlock ≠ some w6.heap.size := fun e => by have := (row_lt hv6.row e).1; omega
      have hpb : p ≠ w6.heap.size := by have := hv6.blk.lt; omega
      obtain ⟨b3, hb3⟩ : ∃ b3, b3 = w6.heap.size := ⟨_, rfl⟩
      rw [← hb3] at hY7 hown hpb
      rw [← hb3]
      clear hb3 hb7 hq67 hv6 hX6 hB6 z6 c6 f6
      obtain ⟨xs, hxs⟩ : ∃ xs : List Int, xs = [x, y, z] := ⟨_, rfl⟩
      have hY7' : Blk w7 b3 (i64s xs).toArray := by rw [hxs]; exact hY7
      have hxl : xs.length = 3 := by rw [hxs]; rfl
      have HXS := Lib.hid hxs
      have HXL := Lib.hid hxl
      clear hY7 hxs hxl
      go_loopw [5, 57] (fun tv i wr => ∃ (j : Nat) (ok : Bool) (v : Value) (Lj : List Nat), j ≤ 3 ∧ i = .int .i64 j ∧ tv = .bool ok ∧ Wr wr p p v Lj ∧ v.ownBlock ≠ some b3 ∧ Blk wr b3 (i64s xs).toArray ∧ Below w.heap.size w wr ∧ Lj.length ≤ 314 + 78 * j ∧ (ok = true ↔ (false = true ∧ ∀ i ∈ xs.take j, InSp i)) ∧ (ok = true → Lj = L6 ++ intsL (xs.take j))) (fun _ i _ => 3 - (intOf i).toNat)
      case atStart => exact ⟨0, false, v6, L6, by omega, rfl, rfl, hv7, hown, hY7', hB7, by omega, by simp, fun _ => by simp [intsL]⟩
      case round =>
        clear hv7 hown hY7' hB7
        obtain ⟨j, ok, v, Lj, hj, rfl, rfl, hv, hown, hY, hB, hlj, hok, hLj⟩ := hrel
        have HOKJ := Lib.hid hok
        have HLJ := Lib.hid hLj
        clear hok hLj
        by_cases hlt : j < 3
        · obtain ⟨c, hc⟩ : ∃ c, xs[j]? = some c := ⟨_, List.getElem?_eq_getElem (by have := HXL.out; omega)⟩
          obtain ⟨zy, cy, fy⟩ := id hY
          have hcc : wr.cell? ⟨b3, j, none⟩ = some (.int .i64 c) := by rw [cy]; simpa using i64s_get hc
          have HC := Lib.hid hc
          clear cy hc
          have fin : ∀ (ok' : Bool) (v' : Value) (L' : List Nat) (w' : World), Wr w' p p v' L' → Turn (· = p) wr v w' v' → L'.length ≤ Lj.length + 78 → (InSp c → L' = Lj ++ intL c) → (ok' = true ↔ ok = true ∧ InSp c) →
              (∃ (j' : Nat) (ok2 : Bool) (v2 : Value) (L2 : List Nat), j' ≤ 3 ∧ (Value.int .i64 ((j : Int) + 1)) = .int .i64 j' ∧ Value.bool ok' = .bool ok2 ∧ Wr w' p p v2 L2 ∧ v2.ownBlock ≠ some b3 ∧ Blk w' b3 (i64s xs).toArray ∧ Below w.heap.size w w' ∧ L2.length ≤ 314 + 78 * j' ∧ (ok2 = true ↔ (false = true ∧ ∀ i ∈ xs.take j', InSp i)) ∧ (ok2 = true → L2 = L6 ++ intsL (xs.take j'))) := by
            intro ok' v' L' w' hW hT hl hL he
            refine ⟨j + 1, ok', v', L', by omega, by go_num, rfl, hW, ?_, ?_, ?_, by omega, ?_, ?_⟩
            · rcases hT.own with e | e
              · rw [e]; exact hown
              · intro e2; have := e _ e2; omega
            · exact hY.mod hT.mod (by
                rintro (e | e)
                · exact hpb e.symm
                · exact hown e)
            · exact hB.trans ((wr_below hv (Nat.le_refl _) (Nat.le_of_lt hv.blk.lt) hT).mono (by have := HX0.out; omega))
            · rw [he, HOKJ.out, take_snoc HC.out]
              simp only [List.mem_append, List.mem_singleton]
              constructor
              · rintro ⟨⟨a1, a2⟩, a3⟩
                refine ⟨a1, fun i hi => ?_⟩
                rcases hi with hi | hi
                · exact a2 i hi
                · subst hi; exact a3
              · rintro ⟨a1, a2⟩
                exact ⟨⟨a1, fun i hi => a2 i (.inl hi)⟩, a2 c (.inr rfl)⟩
            · intro h
              obtain ⟨h1, h2⟩ := he.1 h
              rw [hL h2, HLJ.out h1, take_snoc HC.out, intsL_snoc, List.append_assoc]
          have FIN := Lib.hid fin
          clear fin
          have hl30 : Lj.length ≤ 30000 := by omega
          have hsp : ok = false ∨ (ok = true ∧ c < -6553600) ∨ (ok = true ∧ -6553600 ≤ c ∧ 6553600 < c) ∨ (ok = true ∧ -6553600 ≤ c ∧ c ≤ 6553600) := by
            cases ok
            · exact .inl rfl
            · right; simp; omega
          rcases hsp with rfl | ⟨rfl, s1⟩ | ⟨rfl, s1, s2⟩ | ⟨rfl, s1, s2⟩
          case' inr.inr.inr => have hspc : InSp c := ⟨s1, s2⟩
          all_goals
            go_wp2_with fail
            with_reducible refine (int_any p c v Lj _ hv hl30).mono ?_
            rintro e w8 ⟨ev, v8, L8, rfl, hW8, hT8, hl8, hL8⟩
            have HFR := Lib.hid (fun ok' => FIN.out ok' v8 L8 w8 hW8 hT8 hl8 hL8)
            clear hW8 hT8 hl8 hL8 hv hown hY hB
            go_wp2
            go_roundw
            case rel => exact HFR.out _ (by simp; try (unfold InSp; omega))
            case measure => first | (simp [intOf]; done) | (simp [intOf]; omega)
        · obtain rfl : j = 3 := by omega
          have ht : xs.take 3 = [x, y, z] := by rw [HXS.out]; rfl
          have hok := HOKJ.out
          have hLj := HLJ.out
          rw [ht] at hok hLj
          have HOKJ := Lib.hid hok
          have HLJ := Lib.hid hLj
          clear ht hok hLj
          cases ok with
          | true =>
            go_wp2_with fail
            refine (wbytes_o p _ _ ⟨v, hv⟩).mono ?_
            rintro e w9 ⟨A', c', rfl, hBs, _, hb9⟩
            go_wp2
            go_ret2
            exact askPost_yes ⟨HOK.out.1 (by first | trivial | (have := (HOKJ.out.1 (by trivial)).1; cases this)), fun _ => by have := HOK2.out.1 (by first | trivial | (have := (HOKJ.out.1 (by trivial)).1; cases this)); simpa using this, fun _ => (HOKJ.out.1 (by trivial)).2⟩ (by rw [HLJ.out (by trivial), HL6.out (by first | trivial | (have := (HOKJ.out.1 (by trivial)).1; cases this)), HL4.out, HL1.out (by first | trivial | (have := (HOKJ.out.1 (by trivial)).1; cases this))]; simp [askL]) rfl hBs hB.size (hB.trans (hb9.mono hB.size))
          | false =>
            go_wp2
            go_ret2
            exact askPost_no (fun h => by
              have h1 := HOK.out.2 h.1
              have h2 := HOK2.out.2 (by simpa using h.2.1 (by decide))
              first
                | (cases h1; done)
                | (cases h2; done)
                | (have := HOKJ.out.2 ⟨by trivial, h.2.2 rfl⟩; cases this)) rfl hB

end Go.Proofs.Ytnkinnfpebploaa
