/- The contract of gyreref.Ask. Conditions: none. -/
import Derived.Test.YtnkinnfpebploaaDoorAsk
import Derived.Test.YtnkinnfpebploaaDoorApp
namespace Go.Proofs.YtnkinnfpebploaaDoor
open Go.ChangeShapes Go.WideShapes Go.ChangeAt Go.RowKit Go.BigFrame
open B
theorem rparts_c (a1 a2 a3 : Int) (w : World) : Calls Tryd.prog 69 #[.agg #[.int .i64 a1, .int .i64 a2, .int .i64 a3]] w fun e w' => e = .returned (.slice (some ⟨w.heap.size + 1, 0, none⟩) 3 3) ∧ Blk w' (w.heap.size + 1) #[.int .i64 a1, .int .i64 a2, .int .i64 a3] ∧ Below w.heap.size w w' := by
  go_enter Tryd.func69, Tryd.ntmps69
  go_wp2
  go_ret
  exact ⟨rfl, Blk.at _ _ _ _ (by simp), (balloc _ _).trans ((balloc _ _).mono (by simp))⟩
def RAskPost (t n s k b x y z : Int) (w : World) (e : Ending) (w' : World) : Prop :=
  (AskOk t n s k b x y z ∧ ∃ A c, e = .returned (.tuple #[.slice A (pack (askL t n s k b x y z)).length c, .int .i64 0]) ∧ BsOf w' w.heap.size (.slice A (pack (askL t n s k b x y z)).length c) (pack (askL t n s k b x y z)) ∧ Below w.heap.size w w') ∨
  (¬ AskOk t n s k b x y z ∧ e = .returned (.tuple #[.slice none 0 0, .int .i64 2]) ∧ Below w.heap.size w w')
theorem raskPost_no {t n s k b x y z : Int} {w : World} {e : Ending} {w' : World} (h : ¬ AskOk t n s k b x y z) (he : e = .returned (.tuple #[.slice none 0 0, .int .i64 2])) (hb : Below w.heap.size w w') : RAskPost t n s k b x y z w e w' := .inr ⟨h, he, hb⟩
theorem raskPost_yes {t n s k b x y z : Int} {w : World} {e : Ending} {w' : World} {L : List Nat} {A : Option Addr} {c B : Nat} (h : AskOk t n s k b x y z) (hL : L = askL t n s k b x y z) (he : e = .returned (.tuple #[.slice A (pack L).length c, .int .i64 0]))
    (hs : BsOf w' B (.slice A (pack L).length c) (pack L)) (hB : w.heap.size ≤ B) (hb : Below w.heap.size w w') : RAskPost t n s k b x y z w e w' := by
  subst hL
  exact .inl ⟨h, A, c, he, bsOf_mono hs hB, hb⟩
theorem rask_kind (t n s k b x y z : Int) (w : World) (h : k < 0 ∨ 2 < k) : Calls Tryd.prog 47 #[.agg #[.int .i64 t, .int .i64 n, .int .i64 s, .int .i64 k, .int .i64 b, .int .i64 x, .int .i64 y, .int .i64 z]] w fun e w' => e = .returned (.tuple #[.slice none 0 0, .int .i64 1]) ∧ Below w.heap.size w w' := by
  have hp : k < 0 ∨ (¬ k < 0 ∧ 2 < k) := by omega
  clear h
  rcases hp with h | ⟨h, h2⟩
  all_goals
    go_enter Tryd.func47, Tryd.ntmps47
    go_wp2
    go_ret2
    exact ⟨rfl, balloc _ _⟩
theorem row_low {w w' : World} {base size n p : Nat} {e : TypeId} {v : Value} {xs : List Value} (h : w.ownsRow base e size v n xs) (k : Below p w w') (hv : ∀ b, v.ownBlock = some b → b < p) : w'.ownsRow base e size v n xs := by
  obtain ⟨h1, h2 | ⟨g, cap, cur, a, b, c, d⟩⟩ := h
  · exact ⟨h1, .inl h2⟩
  · subst a
    exact ⟨h1, .inr ⟨g, cap, cur, rfl, b, (k.block g (hv g rfl)).trans c, d⟩⟩

set_option maxHeartbeats 4000000 in
theorem rask_0 (t n s b x y z : Int) (w : World) : Calls Tryd.prog 47 #[.agg #[.int .i64 t, .int .i64 n, .int .i64 s, .int .i64 0, .int .i64 b, .int .i64 x, .int .i64 y, .int .i64 z]] w (RAskPost t n s 0 b x y z w) := by
  have hown0 := own_built (w := w.alloc (.cells #[.int .i64 t, .int .i64 n, .int .i64 s, .int .i64 0, .int .i64 b, .int .i64 x, .int .i64 y, .int .i64 z] 96)) (base := w.heap.size + 1) (e := 3) (size := 1) (n := 3) (p := w.heap.size + 1) #[.int .i64 t, .int .i64 n, .int .i64 s] (by simp) (Nat.le_refl _) rfl (by decide) (Below.refl _ _)
  have hX0 := (Blk.fresh w #[.int .i64 t, .int .i64 n, .int .i64 s, .int .i64 0, .int .i64 b, .int .i64 x, .int .i64 y, .int .i64 z] 96).alloc (.cells #[.int .i64 t, .int .i64 n, .int .i64 s] 3)
  have hB0 : Below w.heap.size w ((w.alloc (.cells #[.int .i64 t, .int .i64 n, .int .i64 s, .int .i64 0, .int .i64 b, .int .i64 x, .int .i64 y, .int .i64 z] 96)).alloc (.cells #[.int .i64 t, .int .i64 n, .int .i64 s] 3)) := (balloc w (.cells #[.int .i64 t, .int .i64 n, .int .i64 s, .int .i64 0, .int .i64 b, .int .i64 x, .int .i64 y, .int .i64 z] 96)).trans ((balloc _ (.cells #[.int .i64 t, .int .i64 n, .int .i64 s] 3)).mono (by simp))
  have HOW := Lib.hid hown0
  have HXX := Lib.hid hX0
  have HBB := Lib.hid hB0
  clear hown0 hX0 hB0
  go_enter Tryd.func47, Tryd.ntmps47
  go_wp2_with fail
  refine wp_fresh ?_
  intro w1 hb1
  have hX1 := HXX.out.below hb1
  have hB1 := HBB.out.trans (hb1.mono HBB.out.size)
  have hR1 := row_below HOW.out hb1
  obtain ⟨x0, hx0⟩ : ∃ x0, x0 = w.heap.size := ⟨_, rfl⟩
  rw [← hx0] at hX1 hR1
  rw [← hx0]
  have HX0 : Hid (x0 = w.heap.size) := Lib.hid hx0
  obtain ⟨g, hg⟩ : ∃ g, g = x0 + 1 := ⟨_, rfl⟩
  rw [← hg] at hR1
  rw [← hg]
  have hxg : x0 < g := by omega
  have hRow : w1.ownsRow g 3 1 (.slice (some ⟨g, 0, none⟩) 3 3) 3 (i64s [t, n, s]) := hR1
  have hgg : g ≤ g := Nat.le_refl _
  clear hb1 hx0 hg hR1
  clear HOW HXX HBB
  obtain ⟨xs, hxs⟩ : ∃ xs : List Int, xs = [t, n, s] := ⟨_, rfl⟩
  rw [← hxs] at hRow
  have hxl : xs.length = 3 := by rw [hxs]; rfl
  have HXS := Lib.hid hxs
  have HXL := Lib.hid hxl
  have HRW := Lib.hid hRow
  obtain ⟨z1, c1, f1⟩ := id hX1
  clear hxs hxl hRow
  go_wp2
  go_loop [37] (fun i => ∃ j : Nat, j ≤ 3 ∧ i = .int .i64 j ∧ ∀ q ∈ xs.take j, InTop q) (fun i => 3 - (intOf i).toNat)
  case atStart => exact ⟨0, by omega, rfl, by simp⟩
  case round =>
    obtain ⟨j, hj, rfl, hin⟩ := hrel
    have HIN := Lib.hid hin
    clear hin
    by_cases hlt : j < 3
    · obtain ⟨q, hq⟩ : ∃ q, xs[j]? = some q := ⟨_, List.getElem?_eq_getElem (by have := HXL.out; omega)⟩
      obtain ⟨g', cap', hge, g1, g2, g3, g4, g5, g6, _⟩ := row_at HRW.out (by decide)
      cases hge
      have hc := g6 j _ (i64s_get hq)
      have HQ := Lib.hid hq
      clear g5 g6 hq
      have hno : ¬ InTop q → ¬ AskOk t n s 0 b x y z := fun hn h => hn (by
        have hm := List.mem_of_getElem? HQ.out
        rw [HXS.out] at hm
        simp only [List.mem_cons, List.mem_nil_iff, or_false] at hm
        rcases hm with e | e | e
        · exact h.1 q (by simp [e])
        · exact h.1 q (by simp [e])
        · exact h.1 q (by simp [e]))
      have HNO := Lib.hid hno
      clear hno
      by_cases h1 : q < 0
      · go_wp2
        go_ret2
        exact raskPost_no (HNO.out (by unfold InTop; omega)) rfl hB1
      by_cases h2 : 70368744177664 < q
      · go_wp2
        go_ret2
        exact raskPost_no (HNO.out (by unfold InTop; omega)) rfl hB1
      · go_wp2
        go_round
        case rel =>
          refine ⟨j + 1, by omega, by go_num, fun y hy => ?_⟩
          rw [take_snoc HQ.out] at hy
          rcases List.mem_append.1 hy with hy | hy
          · exact HIN.out y hy
          · simp at hy; subst hy; unfold InTop; omega
        case measure => first | (simp [intOf]; done) | (simp [intOf]; omega)
    · obtain rfl : j = 3 := by omega
      have hall : ∀ q ∈ xs, InTop q := by
        have := HIN.out
        rwa [List.take_of_length_le (by have := HXL.out; omega)] at this
      have HALL := Lib.hid hall
      clear hall HIN
      go_wp2
      refine wp_fresh ?_
      intro w3 hb3
      have hX3 := (hX1.alloc (.cells #[.slice none 0 0] 65)).below hb3
      have hW3 := ro_new (w := w1) (p := w1.heap.size) (T := 65) rfl hb3
      have hq3 : Below w1.heap.size w1 w3 := (balloc w1 (.cells #[.slice none 0 0] 65)).trans (hb3.mono (by simp))
      have hB3 := hB1.trans (hq3.mono hB1.size)
      have hR3 := row_below HRW.out hq3
      have hgp : g < w1.heap.size := (row_lt HRW.out rfl).1
      obtain ⟨p, hp⟩ : ∃ p, p = w1.heap.size := ⟨_, rfl⟩
      rw [← hp] at hW3 hgp
      rw [← hp]
      have hxp : x0 < p := by omega
      clear hb3 hq3 hX1 hp z1 c1 f1 hB1 HRW
      go_loopw [51] (fun i wr => ∃ j : Nat, j ≤ 3 ∧ i = .int .i64 j ∧ Ro wr p (varsL (xs.take j)) ∧ Blk wr x0 #[.int .i64 t, .int .i64 n, .int .i64 s, .int .i64 0, .int .i64 b, .int .i64 x, .int .i64 y, .int .i64 z] ∧ wr.ownsRow g 3 1 (.slice (some ⟨g, 0, none⟩) 3 3) 3 (i64s xs) ∧ Below w.heap.size w wr) (fun i _ => 3 - (intOf i).toNat)
      case atStart => exact ⟨0, by omega, rfl, by simpa [varsL] using hW3, hX3, hR3, hB3⟩
      case round =>
        clear hW3 hX3 hR3 hB3
        obtain ⟨j, hj, rfl, hW, hX, hR, hB⟩ := hrel
        by_cases hlt : j < 3
        · obtain ⟨q, hq⟩ : ∃ q, xs[j]? = some q := ⟨_, List.getElem?_eq_getElem (by have := HXL.out; omega)⟩
          obtain ⟨g', cap', hge, g1, g2, g3, g4, g5, g6, _⟩ := row_at hR (by decide)
          cases hge
          have hc := g6 j _ (i64s_get hq)
          obtain ⟨q1, q2⟩ := HALL.out q (List.mem_of_getElem? hq)
          have HQ := Lib.hid hq
          have hpl := pieces6 q.toNat
          have hle := varsL_le (xs.take j)
          have hln := List.length_take_le j xs
          have HLE : Hid ((varsL (xs.take j)).length ≤ 312) := Lib.hid (by omega)
          have HPL := Lib.hid hpl
          clear g5 g6 hq hpl hle hln
          go_wp2_with fail
          with_reducible refine (rvar_o p q.toNat q _ _ hW (by omega) (by unfold Lt62; omega) (by have := HLE.out; have := HPL.out; omega)).mono ?_
          rintro e w4 ⟨rfl, hW4, hq4⟩
          have hX4 := Blk.low hX hq4 hxp
          have hR4 := row_low hR hq4 (by intro b hb; simp [Value.ownBlock] at hb; omega)
          have hB4 := hB.trans (hq4.mono (by have := HX0.out; omega))
          clear hW hX hR hB hq4
          go_wp2
          go_roundw
          case rel => exact ⟨j + 1, by omega, by go_num, by rw [take_snoc HQ.out, varsL_snoc]; exact hW4, hX4, hR4, hB4⟩
          case measure => first | (simp [intOf]; done) | (simp [intOf]; omega)
        · obtain rfl : j = 3 := by omega
          have ht : xs.take 3 = [t, n, s] := by rw [HXS.out]; rfl
          rw [ht] at hW
          have h234 : (varsL [t, n, s]).length ≤ 234 := varsL_le [t, n, s]
          obtain ⟨L1, hL1⟩ : ∃ L, L = varsL [t, n, s] := ⟨_, rfl⟩
          rw [← hL1] at hW h234
          have HL1 := Lib.hid hL1
          clear ht hL1
          obtain ⟨z5, c5, f5⟩ := id hX
          go_wp2_with fail
          with_reducible refine (rput_o p 0 2 0 2 L1 _ hW rfl rfl (by omega) (by unfold Lt63; omega) (by omega)).mono ?_
          rintro e w5 ⟨rfl, hW5, hq5⟩
          have hX5 := Blk.low hX hq5 hxp
          have hB5 := hB.trans (hq5.mono (by have := HX0.out; omega))
          clear hW hX hR hB hq5 z5 c5 f5
          obtain ⟨L5, hL5⟩ : ∃ L, L = L1 ++ bitsOf 2 0 := ⟨_, rfl⟩
          rw [← hL5] at hW5
          have h236 : L5.length ≤ 236 := by rw [hL5, List.length_append, bitsOf_length]; omega
          have HL5 := Lib.hid hL5
          clear hL5 h234
          obtain ⟨z6, c6, f6⟩ := id hX5
          obtain ⟨rA, rc, kq, hrd, _⟩ := ro_cell hW5
          obtain ⟨NL, hNL⟩ : ∃ n, n = L5.length := ⟨_, rfl⟩
          rw [← hNL] at kq hrd
          have HRD := Lib.hid hrd
          have HBI := Lib.hid hW5.bin
          have HLI := Lib.hid hW5.lim
          clear hNL hrd
          go_wp2_with fail
          refine (rbytes_o _ L5 _ HRD.out HBI.out HLI.out).mono ?_
          rintro e w9 ⟨A', c', rfl, hBs, hb9⟩
          go_wp2
          go_ret2
          exact raskPost_yes ⟨fun i hi => HALL.out i (by rw [HXS.out]; simp only [List.mem_cons, List.mem_nil_iff, or_false] at hi ⊢; rcases hi with h | h | h <;> simp [h]), fun h => absurd rfl h, fun h => absurd h (by decide)⟩ (by rw [HL5.out, HL1.out]; simp [askL]) rfl hBs hB5.size (hB5.trans (hb9.mono hB5.size))

set_option maxHeartbeats 4000000 in
theorem rask_2 (t n s b x y z : Int) (w : World) : Calls Tryd.prog 47 #[.agg #[.int .i64 t, .int .i64 n, .int .i64 s, .int .i64 2, .int .i64 b, .int .i64 x, .int .i64 y, .int .i64 z]] w (RAskPost t n s 2 b x y z w) := by
  have hown0 := own_built (w := w.alloc (.cells #[.int .i64 t, .int .i64 n, .int .i64 s, .int .i64 2, .int .i64 b, .int .i64 x, .int .i64 y, .int .i64 z] 96)) (base := w.heap.size + 1) (e := 3) (size := 1) (n := 3) (p := w.heap.size + 1) #[.int .i64 t, .int .i64 n, .int .i64 s] (by simp) (Nat.le_refl _) rfl (by decide) (Below.refl _ _)
  have hX0 := (Blk.fresh w #[.int .i64 t, .int .i64 n, .int .i64 s, .int .i64 2, .int .i64 b, .int .i64 x, .int .i64 y, .int .i64 z] 96).alloc (.cells #[.int .i64 t, .int .i64 n, .int .i64 s] 3)
  have hB0 : Below w.heap.size w ((w.alloc (.cells #[.int .i64 t, .int .i64 n, .int .i64 s, .int .i64 2, .int .i64 b, .int .i64 x, .int .i64 y, .int .i64 z] 96)).alloc (.cells #[.int .i64 t, .int .i64 n, .int .i64 s] 3)) := (balloc w (.cells #[.int .i64 t, .int .i64 n, .int .i64 s, .int .i64 2, .int .i64 b, .int .i64 x, .int .i64 y, .int .i64 z] 96)).trans ((balloc _ (.cells #[.int .i64 t, .int .i64 n, .int .i64 s] 3)).mono (by simp))
  have HOW := Lib.hid hown0
  have HXX := Lib.hid hX0
  have HBB := Lib.hid hB0
  clear hown0 hX0 hB0
  go_enter Tryd.func47, Tryd.ntmps47
  go_wp2_with (at_builtin; refine app_one rfl (.tmp 30) (.tmp 33) 55 rfl Tryd.underlying55 intInfo rfl (by decide) (by decide) (w.heap.size + 1) (.slice (some ⟨w.heap.size + 1, 0, none⟩) 3 3) 3 (i64s [t, n, s]) rfl HOW.out #[.int .i64 b] rfl (by simp) rfl (one_int _ _) (by decide) (by simp) ?_; intro g c w1 hown2 hmod2 hwh hbg; have HO2 := Lib.hid hown2; have HM2 := Lib.hid hmod2; have HW2 := Lib.hid hwh; clear hown2 hmod2 hwh)
  refine wp_fresh ?_
  intro w2 hb2
  have hX1 := (HXX.out.mod HM2.out (by simp [Value.ownBlock])).below hb2
  have hBm : Below w.heap.size _ w1 := HM2.out.toBelow (by simp; omega) (fun b hb e => by simp [Value.ownBlock] at e; omega)
  have hB1 := (HBB.out.trans hBm).trans (hb2.mono (by have := hBm.size; simp at this; omega))
  have hR1 := row_below HO2.out hb2
  obtain ⟨x0, hx0⟩ : ∃ x0, x0 = w.heap.size := ⟨_, rfl⟩
  rw [← hx0] at hX1 hR1 hbg
  rw [← hx0]
  have HX0 : Hid (x0 = w.heap.size) := Lib.hid hx0
  have hxg : x0 < g := by omega
  have hRow : w2.ownsRow (x0 + 1) 3 1 (.slice (some ⟨g, 0, none⟩) 4 c) 4 (i64s [t, n, s, b]) := hR1
  clear hb2 hx0 hR1 hBm HO2 HM2 HW2
  clear HOW HXX HBB
  obtain ⟨xs, hxs⟩ : ∃ xs : List Int, xs = [t, n, s, b] := ⟨_, rfl⟩
  rw [← hxs] at hRow
  have hxl : xs.length = 4 := by rw [hxs]; rfl
  have HXS := Lib.hid hxs
  have HXL := Lib.hid hxl
  have HRW := Lib.hid hRow
  obtain ⟨z1, c1, f1⟩ := id hX1
  clear hxs hxl hRow
  go_wp2
  go_loop [37] (fun i => ∃ j : Nat, j ≤ 4 ∧ i = .int .i64 j ∧ ∀ q ∈ xs.take j, InTop q) (fun i => 4 - (intOf i).toNat)
  case atStart => exact ⟨0, by omega, rfl, by simp⟩
  case round =>
    obtain ⟨j, hj, rfl, hin⟩ := hrel
    have HIN := Lib.hid hin
    clear hin
    by_cases hlt : j < 4
    · obtain ⟨q, hq⟩ : ∃ q, xs[j]? = some q := ⟨_, List.getElem?_eq_getElem (by have := HXL.out; omega)⟩
      obtain ⟨g', cap', hge, g1, g2, g3, g4, g5, g6, _⟩ := row_at HRW.out (by decide)
      cases hge
      have hc := g6 j _ (i64s_get hq)
      have HQ := Lib.hid hq
      clear g5 g6 hq
      have hno : ¬ InTop q → ¬ AskOk t n s 2 b x y z := fun hn h => hn (by
        have hm := List.mem_of_getElem? HQ.out
        rw [HXS.out] at hm
        simp only [List.mem_cons, List.mem_nil_iff, or_false] at hm
        rcases hm with e | e | e | e
        · exact h.1 q (by simp [e])
        · exact h.1 q (by simp [e])
        · exact h.1 q (by simp [e])
        · have := h.2.1 (by decide); rwa [← e] at this)
      have HNO := Lib.hid hno
      clear hno
      by_cases h1 : q < 0
      · go_wp2
        go_ret2
        exact raskPost_no (HNO.out (by unfold InTop; omega)) rfl hB1
      by_cases h2 : 70368744177664 < q
      · go_wp2
        go_ret2
        exact raskPost_no (HNO.out (by unfold InTop; omega)) rfl hB1
      · go_wp2
        go_round
        case rel =>
          refine ⟨j + 1, by omega, by go_num, fun y hy => ?_⟩
          rw [take_snoc HQ.out] at hy
          rcases List.mem_append.1 hy with hy | hy
          · exact HIN.out y hy
          · simp at hy; subst hy; unfold InTop; omega
        case measure => first | (simp [intOf]; done) | (simp [intOf]; omega)
    · obtain rfl : j = 4 := by omega
      have hall : ∀ q ∈ xs, InTop q := by
        have := HIN.out
        rwa [List.take_of_length_le (by have := HXL.out; omega)] at this
      have HALL := Lib.hid hall
      clear hall HIN
      obtain ⟨_, _, hge0, _, _, hcap, hcap2, _⟩ := row_at HRW.out (by decide)
      cases hge0
      unfold maxLen at hcap2
      go_wp2
      refine wp_fresh ?_
      intro w3 hb3
      have hX3 := (hX1.alloc (.cells #[.slice none 0 0] 65)).below hb3
      have hW3 := ro_new (w := w2) (p := w2.heap.size) (T := 65) rfl hb3
      have hq3 : Below w2.heap.size w2 w3 := (balloc w2 (.cells #[.slice none 0 0] 65)).trans (hb3.mono (by simp))
      have hB3 := hB1.trans (hq3.mono hB1.size)
      have hR3 := row_below HRW.out hq3
      have hgp : g < w2.heap.size := (row_lt HRW.out rfl).1
      obtain ⟨p, hp⟩ : ∃ p, p = w2.heap.size := ⟨_, rfl⟩
      rw [← hp] at hW3 hgp
      rw [← hp]
      have hxp : x0 < p := by omega
      clear hb3 hq3 hX1 hp z1 c1 f1 hB1 HRW
      go_loopw [51] (fun i wr => ∃ j : Nat, j ≤ 3 ∧ i = .int .i64 j ∧ Ro wr p (varsL (xs.take j)) ∧ Blk wr x0 #[.int .i64 t, .int .i64 n, .int .i64 s, .int .i64 2, .int .i64 b, .int .i64 x, .int .i64 y, .int .i64 z] ∧ wr.ownsRow (x0 + 1) 3 1 (.slice (some ⟨g, 0, none⟩) 4 c) 4 (i64s xs) ∧ Below w.heap.size w wr) (fun i _ => 3 - (intOf i).toNat)
      case atStart => exact ⟨0, by omega, rfl, by simpa [varsL] using hW3, hX3, hR3, hB3⟩
      case round =>
        clear hW3 hX3 hR3 hB3
        obtain ⟨j, hj, rfl, hW, hX, hR, hB⟩ := hrel
        by_cases hlt : j < 3
        · obtain ⟨q, hq⟩ : ∃ q, xs[j]? = some q := ⟨_, List.getElem?_eq_getElem (by have := HXL.out; omega)⟩
          obtain ⟨g', cap', hge, g1, g2, g3, g4, g5, g6, _⟩ := row_at hR (by decide)
          cases hge
          have hc := g6 j _ (i64s_get hq)
          obtain ⟨q1, q2⟩ := HALL.out q (List.mem_of_getElem? hq)
          have HQ := Lib.hid hq
          have hpl := pieces6 q.toNat
          have hle := varsL_le (xs.take j)
          have hln := List.length_take_le j xs
          have HLE : Hid ((varsL (xs.take j)).length ≤ 312) := Lib.hid (by omega)
          have HPL := Lib.hid hpl
          clear g5 g6 hq hpl hle hln
          go_wp2_with fail
          with_reducible refine (rvar_o p q.toNat q _ _ hW (by omega) (by unfold Lt62; omega) (by have := HLE.out; have := HPL.out; omega)).mono ?_
          rintro e w4 ⟨rfl, hW4, hq4⟩
          have hX4 := Blk.low hX hq4 hxp
          have hR4 := row_low hR hq4 (by intro b hb; simp [Value.ownBlock] at hb; omega)
          have hB4 := hB.trans (hq4.mono (by have := HX0.out; omega))
          clear hW hX hR hB hq4
          go_wp2
          go_roundw
          case rel => exact ⟨j + 1, by omega, by go_num, by rw [take_snoc HQ.out, varsL_snoc]; exact hW4, hX4, hR4, hB4⟩
          case measure => first | (simp [intOf]; done) | (simp [intOf]; omega)
        · obtain rfl : j = 3 := by omega
          have ht : xs.take 3 = [t, n, s] := by rw [HXS.out]; rfl
          rw [ht] at hW
          have h234 : (varsL [t, n, s]).length ≤ 234 := varsL_le [t, n, s]
          obtain ⟨L1, hL1⟩ : ∃ L, L = varsL [t, n, s] := ⟨_, rfl⟩
          rw [← hL1] at hW h234
          have HL1 := Lib.hid hL1
          clear ht hL1
          obtain ⟨z5, c5, f5⟩ := id hX
          go_wp2_with fail
          with_reducible refine (rput_o p 2 2 2 2 L1 _ hW rfl rfl (by omega) (by unfold Lt63; omega) (by omega)).mono ?_
          rintro e w5 ⟨rfl, hW5, hq5⟩
          have hX5 := Blk.low hX hq5 hxp
          have hB5 := hB.trans (hq5.mono (by have := HX0.out; omega))
          clear hW hX hR hB hq5 z5 c5 f5
          obtain ⟨L5, hL5⟩ : ∃ L, L = L1 ++ bitsOf 2 2 := ⟨_, rfl⟩
          rw [← hL5] at hW5
          have h236 : L5.length ≤ 236 := by rw [hL5, List.length_append, bitsOf_length]; omega
          have HL5 := Lib.hid hL5
          clear hL5 h234
          obtain ⟨z6, c6, f6⟩ := id hX5
          obtain ⟨b0, b1⟩ := HALL.out b (by rw [HXS.out]; simp)
          have hpl := pieces6 b.toNat
          have HPL := Lib.hid hpl
          clear hpl
          go_wp2_with fail
          with_reducible refine (rvar_o p b.toNat b L5 _ hW5 (by omega) (by unfold Lt62; omega) (by have := HPL.out; omega)).mono ?_
          rintro e w6 ⟨rfl, hW6, hq6⟩
          have hX6 := Blk.low hX5 hq6 hxp
          have hB6 := hB5.trans (hq6.mono (by have := HX0.out; omega))
          clear hW5 hX5 hB5 hq6 z6 c6 f6
          obtain ⟨L6, hL6⟩ : ∃ L, L = L5 ++ varL b.toNat := ⟨_, rfl⟩
          rw [← hL6] at hW6
          have h314 : L6.length ≤ 314 := by rw [hL6, List.length_append]; have := varL_le b.toNat; omega
          have HL6 := Lib.hid hL6
          clear hL6 h236
          obtain ⟨z7, c7, f7⟩ := id hX6
          obtain ⟨rA, rc, kq, hrd, _⟩ := ro_cell hW6
          obtain ⟨NL, hNL⟩ : ∃ n, n = L6.length := ⟨_, rfl⟩
          rw [← hNL] at kq hrd
          have HRD := Lib.hid hrd
          have HBI := Lib.hid hW6.bin
          have HLI := Lib.hid hW6.lim
          clear hNL hrd
          go_wp2_with fail
          refine (rbytes_o _ L6 _ HRD.out HBI.out HLI.out).mono ?_
          rintro e w9 ⟨A', c', rfl, hBs, hb9⟩
          go_wp2
          go_ret2
          exact raskPost_yes ⟨fun i hi => HALL.out i (by rw [HXS.out]; simp only [List.mem_cons, List.mem_nil_iff, or_false] at hi ⊢; rcases hi with h | h | h <;> simp [h]), fun _ => HALL.out b (by rw [HXS.out]; simp), fun h => absurd h (by decide)⟩ (by rw [HL6.out, HL5.out, HL1.out]; simp [askL, varsL]) rfl hBs hB6.size (hB6.trans (hb9.mono hB6.size))

set_option maxHeartbeats 4000000 in
theorem rask_1 (t n s b x y z : Int) (w : World) : Calls Tryd.prog 47 #[.agg #[.int .i64 t, .int .i64 n, .int .i64 s, .int .i64 1, .int .i64 b, .int .i64 x, .int .i64 y, .int .i64 z]] w (RAskPost t n s 1 b x y z w) := by
  have hown0 := own_built (w := w.alloc (.cells #[.int .i64 t, .int .i64 n, .int .i64 s, .int .i64 1, .int .i64 b, .int .i64 x, .int .i64 y, .int .i64 z] 96)) (base := w.heap.size + 1) (e := 3) (size := 1) (n := 3) (p := w.heap.size + 1) #[.int .i64 t, .int .i64 n, .int .i64 s] (by simp) (Nat.le_refl _) rfl (by decide) (Below.refl _ _)
  have hX0 := (Blk.fresh w #[.int .i64 t, .int .i64 n, .int .i64 s, .int .i64 1, .int .i64 b, .int .i64 x, .int .i64 y, .int .i64 z] 96).alloc (.cells #[.int .i64 t, .int .i64 n, .int .i64 s] 3)
  have hB0 : Below w.heap.size w ((w.alloc (.cells #[.int .i64 t, .int .i64 n, .int .i64 s, .int .i64 1, .int .i64 b, .int .i64 x, .int .i64 y, .int .i64 z] 96)).alloc (.cells #[.int .i64 t, .int .i64 n, .int .i64 s] 3)) := (balloc w (.cells #[.int .i64 t, .int .i64 n, .int .i64 s, .int .i64 1, .int .i64 b, .int .i64 x, .int .i64 y, .int .i64 z] 96)).trans ((balloc _ (.cells #[.int .i64 t, .int .i64 n, .int .i64 s] 3)).mono (by simp))
  have HOW := Lib.hid hown0
  have HXX := Lib.hid hX0
  have HBB := Lib.hid hB0
  clear hown0 hX0 hB0
  go_enter Tryd.func47, Tryd.ntmps47
  go_wp2_with (at_builtin; refine app_one rfl (.tmp 30) (.tmp 33) 55 rfl Tryd.underlying55 intInfo rfl (by decide) (by decide) (w.heap.size + 1) (.slice (some ⟨w.heap.size + 1, 0, none⟩) 3 3) 3 (i64s [t, n, s]) rfl HOW.out #[.int .i64 b] rfl (by simp) rfl (one_int _ _) (by decide) (by simp) ?_; intro g c w1 hown2 hmod2 hwh hbg; have HO2 := Lib.hid hown2; have HM2 := Lib.hid hmod2; have HW2 := Lib.hid hwh; clear hown2 hmod2 hwh)
  refine wp_fresh ?_
  intro w2 hb2
  have hX1 := (HXX.out.mod HM2.out (by simp [Value.ownBlock])).below hb2
  have hBm : Below w.heap.size _ w1 := HM2.out.toBelow (by simp; omega) (fun b hb e => by simp [Value.ownBlock] at e; omega)
  have hB1 := (HBB.out.trans hBm).trans (hb2.mono (by have := hBm.size; simp at this; omega))
  have hR1 := row_below HO2.out hb2
  obtain ⟨x0, hx0⟩ : ∃ x0, x0 = w.heap.size := ⟨_, rfl⟩
  rw [← hx0] at hX1 hR1 hbg
  rw [← hx0]
  have HX0 : Hid (x0 = w.heap.size) := Lib.hid hx0
  have hxg : x0 < g := by omega
  have hRow : w2.ownsRow (x0 + 1) 3 1 (.slice (some ⟨g, 0, none⟩) 4 c) 4 (i64s [t, n, s, b]) := hR1
  clear hb2 hx0 hR1 hBm HO2 HM2 HW2
  clear HOW HXX HBB
  obtain ⟨xs, hxs⟩ : ∃ xs : List Int, xs = [t, n, s, b] := ⟨_, rfl⟩
  rw [← hxs] at hRow
  have hxl : xs.length = 4 := by rw [hxs]; rfl
  have HXS := Lib.hid hxs
  have HXL := Lib.hid hxl
  have HRW := Lib.hid hRow
  obtain ⟨z1, c1, f1⟩ := id hX1
  clear hxs hxl hRow
  go_wp2
  go_loop [37] (fun i => ∃ j : Nat, j ≤ 4 ∧ i = .int .i64 j ∧ ∀ q ∈ xs.take j, InTop q) (fun i => 4 - (intOf i).toNat)
  case atStart => exact ⟨0, by omega, rfl, by simp⟩
  case round =>
    obtain ⟨j, hj, rfl, hin⟩ := hrel
    have HIN := Lib.hid hin
    clear hin
    by_cases hlt : j < 4
    · obtain ⟨q, hq⟩ : ∃ q, xs[j]? = some q := ⟨_, List.getElem?_eq_getElem (by have := HXL.out; omega)⟩
      obtain ⟨g', cap', hge, g1, g2, g3, g4, g5, g6, _⟩ := row_at HRW.out (by decide)
      cases hge
      have hc := g6 j _ (i64s_get hq)
      have HQ := Lib.hid hq
      clear g5 g6 hq
      have hno : ¬ InTop q → ¬ AskOk t n s 1 b x y z := fun hn h => hn (by
        have hm := List.mem_of_getElem? HQ.out
        rw [HXS.out] at hm
        simp only [List.mem_cons, List.mem_nil_iff, or_false] at hm
        rcases hm with e | e | e | e
        · exact h.1 q (by simp [e])
        · exact h.1 q (by simp [e])
        · exact h.1 q (by simp [e])
        · have := h.2.1 (by decide); rwa [← e] at this)
      have HNO := Lib.hid hno
      clear hno
      by_cases h1 : q < 0
      · go_wp2
        go_ret2
        exact raskPost_no (HNO.out (by unfold InTop; omega)) rfl hB1
      by_cases h2 : 70368744177664 < q
      · go_wp2
        go_ret2
        exact raskPost_no (HNO.out (by unfold InTop; omega)) rfl hB1
      · go_wp2
        go_round
        case rel =>
          refine ⟨j + 1, by omega, by go_num, fun y hy => ?_⟩
          rw [take_snoc HQ.out] at hy
          rcases List.mem_append.1 hy with hy | hy
          · exact HIN.out y hy
          · simp at hy; subst hy; unfold InTop; omega
        case measure => first | (simp [intOf]; done) | (simp [intOf]; omega)
    · obtain rfl : j = 4 := by omega
      have hall : ∀ q ∈ xs, InTop q := by
        have := HIN.out
        rwa [List.take_of_length_le (by have := HXL.out; omega)] at this
      have HALL := Lib.hid hall
      clear hall HIN
      obtain ⟨_, _, hge0, _, _, hcap, hcap2, _⟩ := row_at HRW.out (by decide)
      cases hge0
      unfold maxLen at hcap2
      go_wp2
      refine wp_fresh ?_
      intro w3 hb3
      have hX3 := (hX1.alloc (.cells #[.slice none 0 0] 65)).below hb3
      have hW3 := ro_new (w := w2) (p := w2.heap.size) (T := 65) rfl hb3
      have hq3 : Below w2.heap.size w2 w3 := (balloc w2 (.cells #[.slice none 0 0] 65)).trans (hb3.mono (by simp))
      have hB3 := hB1.trans (hq3.mono hB1.size)
      have hR3 := row_below HRW.out hq3
      have hgp : g < w2.heap.size := (row_lt HRW.out rfl).1
      obtain ⟨p, hp⟩ : ∃ p, p = w2.heap.size := ⟨_, rfl⟩
      rw [← hp] at hW3 hgp
      rw [← hp]
      have hxp : x0 < p := by omega
      clear hb3 hq3 hX1 hp z1 c1 f1 hB1 HRW
      go_loopw [51] (fun i wr => ∃ j : Nat, j ≤ 3 ∧ i = .int .i64 j ∧ Ro wr p (varsL (xs.take j)) ∧ Blk wr x0 #[.int .i64 t, .int .i64 n, .int .i64 s, .int .i64 1, .int .i64 b, .int .i64 x, .int .i64 y, .int .i64 z] ∧ wr.ownsRow (x0 + 1) 3 1 (.slice (some ⟨g, 0, none⟩) 4 c) 4 (i64s xs) ∧ Below w.heap.size w wr) (fun i _ => 3 - (intOf i).toNat)
      case atStart => exact ⟨0, by omega, rfl, by simpa [varsL] using hW3, hX3, hR3, hB3⟩
      case round =>
        clear hW3 hX3 hR3 hB3
        obtain ⟨j, hj, rfl, hW, hX, hR, hB⟩ := hrel
        by_cases hlt : j < 3
        · obtain ⟨q, hq⟩ : ∃ q, xs[j]? = some q := ⟨_, List.getElem?_eq_getElem (by have := HXL.out; omega)⟩
          obtain ⟨g', cap', hge, g1, g2, g3, g4, g5, g6, _⟩ := row_at hR (by decide)
          cases hge
          have hc := g6 j _ (i64s_get hq)
          obtain ⟨q1, q2⟩ := HALL.out q (List.mem_of_getElem? hq)
          have HQ := Lib.hid hq
          have hpl := pieces6 q.toNat
          have hle := varsL_le (xs.take j)
          have hln := List.length_take_le j xs
          have HLE : Hid ((varsL (xs.take j)).length ≤ 312) := Lib.hid (by omega)
          have HPL := Lib.hid hpl
          clear g5 g6 hq hpl hle hln
          go_wp2_with fail
          with_reducible refine (rvar_o p q.toNat q _ _ hW (by omega) (by unfold Lt62; omega) (by have := HLE.out; have := HPL.out; omega)).mono ?_
          rintro e w4 ⟨rfl, hW4, hq4⟩
          have hX4 := Blk.low hX hq4 hxp
          have hR4 := row_low hR hq4 (by intro b hb; simp [Value.ownBlock] at hb; omega)
          have hB4 := hB.trans (hq4.mono (by have := HX0.out; omega))
          clear hW hX hR hB hq4
          go_wp2
          go_roundw
          case rel => exact ⟨j + 1, by omega, by go_num, by rw [take_snoc HQ.out, varsL_snoc]; exact hW4, hX4, hR4, hB4⟩
          case measure => first | (simp [intOf]; done) | (simp [intOf]; omega)
        · obtain rfl : j = 3 := by omega
          have ht : xs.take 3 = [t, n, s] := by rw [HXS.out]; rfl
          rw [ht] at hW
          have h234 : (varsL [t, n, s]).length ≤ 234 := varsL_le [t, n, s]
          obtain ⟨L1, hL1⟩ : ∃ L, L = varsL [t, n, s] := ⟨_, rfl⟩
          rw [← hL1] at hW h234
          have HL1 := Lib.hid hL1
          clear ht hL1
          obtain ⟨z5, c5, f5⟩ := id hX
          go_wp2_with fail
          with_reducible refine (rput_o p 1 2 1 2 L1 _ hW rfl rfl (by omega) (by unfold Lt63; omega) (by omega)).mono ?_
          rintro e w5 ⟨rfl, hW5, hq5⟩
          have hX5 := Blk.low hX hq5 hxp
          have hB5 := hB.trans (hq5.mono (by have := HX0.out; omega))
          clear hW hX hR hB hq5 z5 c5 f5
          obtain ⟨L5, hL5⟩ : ∃ L, L = L1 ++ bitsOf 2 1 := ⟨_, rfl⟩
          rw [← hL5] at hW5
          have h236 : L5.length ≤ 236 := by rw [hL5, List.length_append, bitsOf_length]; omega
          have HL5 := Lib.hid hL5
          clear hL5 h234
          obtain ⟨z6, c6, f6⟩ := id hX5
          obtain ⟨b0, b1⟩ := HALL.out b (by rw [HXS.out]; simp)
          have hpl := pieces6 b.toNat
          have HPL := Lib.hid hpl
          clear hpl
          go_wp2_with fail
          with_reducible refine (rvar_o p b.toNat b L5 _ hW5 (by omega) (by unfold Lt62; omega) (by have := HPL.out; omega)).mono ?_
          rintro e w6 ⟨rfl, hW6, hq6⟩
          have hX6 := Blk.low hX5 hq6 hxp
          have hB6 := hB5.trans (hq6.mono (by have := HX0.out; omega))
          clear hW5 hX5 hB5 hq6 z6 c6 f6
          obtain ⟨L6, hL6⟩ : ∃ L, L = L5 ++ varL b.toNat := ⟨_, rfl⟩
          rw [← hL6] at hW6
          have h314 : L6.length ≤ 314 := by rw [hL6, List.length_append]; have := varL_le b.toNat; omega
          have HL6 := Lib.hid hL6
          clear hL6 h236
          obtain ⟨z7, c7, f7⟩ := id hX6
          go_wp2_with fail
          with_reducible refine (rparts_c x y z _).mono ?_
          rintro e w7 ⟨rfl, hY7, hb7⟩
          obtain ⟨v6, hv6⟩ := hW6
          have hv7 := rb_of_below hv6 hb7
          have hB7 := hB6.trans (hb7.mono hB6.size)
          have hown : v6.ownBlock ≠ some (w6.heap.size + 1) := fun e => by have := (row_lt hv6.row e).1; omega
          have hpb : p ≠ w6.heap.size + 1 := by have := hv6.blk.lt; omega
          obtain ⟨b3, hb3⟩ : ∃ b3, b3 = w6.heap.size + 1 := ⟨_, rfl⟩
          rw [← hb3] at hY7 hown hpb
          rw [← hb3]
          clear hb3 hb7 hv6 hX6 hB6 z7 c7 f7
          obtain ⟨ys, hys⟩ : ∃ ys : List Int, ys = [x, y, z] := ⟨_, rfl⟩
          have hY7' : Blk w7 b3 (i64s ys).toArray := by rw [hys]; exact hY7
          have hyl : ys.length = 3 := by rw [hys]; rfl
          have HYS := Lib.hid hys
          have HYL := Lib.hid hyl
          clear hY7 hys hyl
          go_wp2
          go_loopw [74] (fun i wr => ∃ (j : Nat) (v : Value), j ≤ 3 ∧ i = .int .i64 j ∧ Rb wr p p v (L6 ++ intsL (ys.take j)) ∧ v.ownBlock ≠ some b3 ∧ Blk wr b3 (i64s ys).toArray ∧ Below w.heap.size w wr ∧ (∀ i ∈ ys.take j, InSp i) ∧ (intsL (ys.take j)).length ≤ 78 * j) (fun i _ => 3 - (intOf i).toNat)
          case atStart => exact ⟨0, v6, by omega, rfl, by simpa [intsL] using hv7, hown, hY7', hB7, by simp, by simp [intsL]⟩
          case round =>
            clear hv7 hown hY7' hB7
            obtain ⟨j, v, hj, rfl, hv, hown, hY, hB, hin, hln⟩ := hrel
            have HIN := Lib.hid hin
            have HLN := Lib.hid hln
            clear hin hln
            by_cases hlt : j < 3
            · obtain ⟨q, hq⟩ : ∃ q, ys[j]? = some q := ⟨_, List.getElem?_eq_getElem (by have := HYL.out; omega)⟩
              obtain ⟨zy, cy, fy⟩ := id hY
              have hcc : wr.cell? ⟨b3, j, none⟩ = some (.int .i64 q) := by rw [cy]; simpa using i64s_get hq
              have HQ := Lib.hid hq
              clear cy hq
              have hno : ¬ InSp q → ¬ AskOk t n s 1 b x y z := fun hn h => hn (h.2.2 rfl q (by have := List.mem_of_getElem? HQ.out; rwa [HYS.out] at this))
              have HNO := Lib.hid hno
              clear hno
              by_cases h1 : 6553600 < q
              · go_wp2
                go_ret2
                exact raskPost_no (HNO.out (by unfold InSp; omega)) rfl hB
              by_cases h2 : q < -6553600
              · go_wp2
                go_ret2
                exact raskPost_no (HNO.out (by unfold InSp; omega)) rfl hB
              · have hpl := pieces6 (zig q)
                have HPL := Lib.hid hpl
                clear hpl
                go_wp2_with fail
                with_reducible refine (rintw_ok p p q v _ _ hv (Nat.le_of_lt hv.blk.lt) (by omega) (by omega) (by rw [List.length_append]; have := HPL.out; have := HLN.out; omega)).mono ?_
                rintro e w8 ⟨rfl, v8, hW8, hT8⟩
                have hown8 : v8.ownBlock ≠ some b3 := by
                  rcases hT8.own with e | e
                  · rw [e]; exact hown
                  · intro e2; have := e _ e2; omega
                have hY8 := hY.mod hT8.mod (by
                  rintro (e | e)
                  · exact hpb e.symm
                  · exact hown e)
                have hB8 := hB.trans ((rb_below hv (Nat.le_refl _) (Nat.le_of_lt hv.blk.lt) hT8).mono (by have := HX0.out; omega))
                clear hv hown hY hB hT8
                go_wp2
                go_roundw
                case rel =>
                  refine ⟨j + 1, v8, by omega, by go_num, ?_, hown8, hY8, hB8, ?_, ?_⟩
                  · rw [take_snoc HQ.out, intsL_snoc, ← List.append_assoc]; exact hW8
                  · intro i hi
                    rw [take_snoc HQ.out] at hi
                    rcases List.mem_append.1 hi with hi | hi
                    · exact HIN.out i hi
                    · simp at hi; subst hi; unfold InSp; omega
                  · rw [take_snoc HQ.out, intsL_snoc, List.length_append]
                    have := intL_le q; have := HLN.out; omega
                case measure => first | (simp [intOf]; done) | (simp [intOf]; omega)
            · obtain rfl : j = 3 := by omega
              have ht : ys.take 3 = [x, y, z] := by rw [HYS.out]; rfl
              have hin := HIN.out
              rw [ht] at hin hv
              have HIN := Lib.hid hin
              obtain ⟨L7, hL7⟩ : ∃ L, L = L6 ++ intsL [x, y, z] := ⟨_, rfl⟩
              rw [← hL7] at hv
              have HL7 := Lib.hid hL7
              have hWf : Ro wr p L7 := ⟨v, hv⟩
              clear ht hin hL7 hv
              obtain ⟨rA, rc, kq, hrd, _⟩ := ro_cell hWf
              obtain ⟨NL, hNL⟩ : ∃ n, n = L7.length := ⟨_, rfl⟩
              rw [← hNL] at kq hrd
              have HRD := Lib.hid hrd
              have HBI := Lib.hid hWf.bin
              have HLI := Lib.hid hWf.lim
              clear hNL hrd
              go_wp2_with fail
              refine (rbytes_o _ L7 _ HRD.out HBI.out HLI.out).mono ?_
              rintro e w9 ⟨A', c', rfl, hBs, hb9⟩
              go_wp2
              go_ret2
              exact raskPost_yes ⟨fun i hi => HALL.out i (by rw [HXS.out]; simp only [List.mem_cons, List.mem_nil_iff, or_false] at hi ⊢; rcases hi with h | h | h <;> simp [h]), fun _ => HALL.out b (by rw [HXS.out]; simp), fun _ => HIN.out⟩ (by rw [HL7.out, HL6.out, HL5.out, HL1.out]; simp [askL, varsL]) rfl hBs hB.size (hB.trans (hb9.mono hB.size))

end Go.Proofs.YtnkinnfpebploaaDoor
