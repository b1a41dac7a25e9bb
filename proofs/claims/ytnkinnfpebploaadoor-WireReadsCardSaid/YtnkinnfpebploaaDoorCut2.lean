/- The contract of gyreref.Cuts. Conditions: none. -/
import Derived.Test.YtnkinnfpebploaaDoorCut1
namespace Go.Proofs.YtnkinnfpebploaaDoor
open Go.ChangeShapes Go.WideShapes Go.ChangeAt Go.RowKit Go.BigFrame
open B
theorem src_slice_l {w : World} {A : Option Addr} {N cap : Nat} {l : List Nat} (h : Src w (.slice A N cap) l) (hN : N = l.length) (hcap : N ≤ cap) (i : Nat) (x : Int) (hx : x = i) (hi : i ≤ N) :
    ∃ A' c', Src w (.slice A' (N - i) c') (l.drop i) ∧ N - i ≤ c' ∧ ∀ w', (Instr.slice 22 (.slice A N cap) (some (.int .i64 x)) none none).run Tryd.prog w' = .ok (.slice A' (N - i) c') w' := by
  subst hx
  have hu : Tryd.prog.underlying 22 = some (.slice (Tryd.prog.elem 22)) := by kernel_rfl
  have hsz : ∀ w', (sizeOf (Tryd.prog.elem 22)).run Tryd.prog w' = .ok 1 w' := fun w' => by kernel_rfl
  obtain ⟨A', c', h1, h2, h3⟩ := src_slice h hN hcap i N i N rfl rfl hi (Nat.le_refl _)
  rw [List.take_of_length_le (by simp; omega)] at h1
  refine ⟨A', c', h1, h2, fun w' => ?_⟩
  rw [← h3 w', run_slice_lh w' 22 A N cap hu .i64 .i64 (i : Int) (N : Int) (by omega) (by omega) (by omega), run_slice_l w' 22 A N cap hu .i64 (i : Int) (by omega) (by omega)]
  simp
/-- pieces, each with a number of its own -/
def piecesF (st ba : Int) (ma : Nat → Int) (vs : List Value) : List Value := (vs.zipIdx).flatMap fun p => pieceC st ba p.2 (ma p.2) p.1
theorem piecesF_snoc (st ba : Int) (ma : Nat → Int) (vs : List Value) (v : Value) : piecesF st ba ma (vs ++ [v]) = piecesF st ba ma vs ++ pieceC st ba vs.length (ma vs.length) v := by
  unfold piecesF
  rw [List.zipIdx_append, List.flatMap_append]
  simp
theorem piecesF_length (st ba : Int) (ma : Nat → Int) (vs : List Value) : (piecesF st ba ma vs).length = vs.length * 5 := by
  have : ∀ (n : Nat) (vs : List Value), vs.length = n → (piecesF st ba ma vs).length = n * 5 := by
    intro n
    induction n with
    | zero => intro vs h; have : vs = [] := by simpa using h
              subst this; rfl
    | succ n ih =>
      intro vs h
      obtain ⟨us, u, rfl⟩ : ∃ us u, vs = us ++ [u] := ⟨vs.dropLast, vs.getLast (by intro e; subst e; simp at h), (List.dropLast_concat_getLast _).symm⟩
      rw [piecesF_snoc, List.length_append, ih us (by simpa using h)]
      simp [pieceC]
      omega
  exact this _ _ rfl
theorem piecesF_get (st ba : Int) (ma : Nat → Int) (vs : List Value) (k : Nat) (v : Value) (h : vs[k]? = some v) (j : Nat) (hj : j < 5) : (piecesF st ba ma vs)[k * 5 + j]? = (pieceC st ba k (ma k) v)[j]? := by
  have hk : k < vs.length := (List.getElem?_eq_some_iff.1 h).1
  have e1 : vs = (vs.take k ++ [v]) ++ vs.drop (k + 1) := by
    have : vs.take (k + 1) = vs.take k ++ [v] := by rw [List.take_add_one, h]; rfl
    rw [← this, List.take_append_drop]
  have e2 : ∀ us ws : List Value, ∃ rest, piecesF st ba ma (us ++ ws) = piecesF st ba ma us ++ rest := by
    intro us ws
    refine ⟨(ws.zipIdx us.length).flatMap fun p => pieceC st ba p.2 (ma p.2) p.1, ?_⟩
    unfold piecesF
    rw [List.zipIdx_append, List.flatMap_append]
    simp
  obtain ⟨rest, hr⟩ := e2 (vs.take k ++ [v]) (vs.drop (k + 1))
  rw [e1, hr, piecesF_snoc]
  have hl : (piecesF st ba ma (vs.take k)).length = k * 5 := by rw [piecesF_length]; simp; omega
  have hkk : (vs.take k).length = k := by simp; omega
  rw [hkk, List.append_assoc, List.getElem?_append_right (by omega), hl, List.getElem?_append_left (by simp [pieceC]; omega)]
  congr 1
  omega
theorem piecesF_set (st ba : Int) (ma : Nat → Int) (vs : List Value) (i : Nat) (x : Int) (_hi : i < vs.length) : (piecesF st ba ma vs).set (i * 5 + 3) (.int .i64 x) = piecesF st ba (fun k => if k = i then x else ma k) vs := by
  apply List.ext_getElem?
  intro q
  by_cases hq : q < vs.length * 5
  · have hk : q / 5 < vs.length := by omega
    have hv : vs[q / 5]? = some (vs[q / 5]'hk) := List.getElem?_eq_getElem hk
    have hqq : q = q / 5 * 5 + q % 5 := by omega
    have h1 := piecesF_get st ba ma vs (q / 5) _ hv (q % 5) (by omega)
    have h2 := piecesF_get st ba (fun k => if k = i then x else ma k) vs (q / 5) _ hv (q % 5) (by omega)
    rw [← hqq] at h1 h2
    rw [h2]
    by_cases e : i * 5 + 3 = q
    · subst e
      rw [List.getElem?_set_self (by rw [piecesF_length]; omega)]
      have e1 : (i * 5 + 3) / 5 = i := by omega
      have e2 : (i * 5 + 3) % 5 = 3 := by omega
      simp [pieceC, e1, e2]
    · rw [List.getElem?_set_ne e, h1]
      by_cases e1 : q / 5 = i
      · have e3 : q % 5 ≠ 3 := by omega
        have : q % 5 < 5 := by omega
        have : q % 5 = 0 ∨ q % 5 = 1 ∨ q % 5 = 2 ∨ q % 5 = 4 := by omega
        rcases this with h | h | h | h <;> simp [pieceC, h]
      · simp only [if_neg e1]
  · rw [List.getElem?_eq_none (by rw [List.length_set, piecesF_length]; omega), List.getElem?_eq_none (by rw [piecesF_length]; omega)]
theorem piecesF_congr (st ba : Int) (ma mb : Nat → Int) (vs : List Value) (h : ∀ k, k < vs.length → ma k = mb k) : piecesF st ba ma vs = piecesF st ba mb vs := by
  unfold piecesF
  have : ∀ p ∈ vs.zipIdx, pieceC st ba p.2 (ma p.2) p.1 = pieceC st ba p.2 (mb p.2) p.1 := by
    intro p hp
    have := List.mem_zipIdx hp
    rw [h p.2 (by omega)]
  simp only [List.flatMap_def]
  rw [List.map_congr_left this]
theorem rpieceInfo : (Tryd.prog.info? 37).map (fun i => (i.zero, i.size, i.bytes)) = some (some (.agg #[.int .i64 0, .int .i64 0, .int .i64 0, .int .i64 0, .slice none 0 0]), 5, 56) := by kernel_rfl
/-- each part's bytes, in whatever comes -/
def Parts (w : World) (l : List Nat) (vs : List Value) : Prop := ∀ k u, vs[k]? = some u → (∃ A c, u = .slice A (chunk l k).length c) ∧ ∀ w', Below w.heap.size w w' → Src w' u (chunk l k)
theorem rcuts_bad (st ba : Int) (v : Value) (w : World) (h : CutBad st ba) : Calls Tryd.prog 14 #[.int .i64 st, .int .i64 ba, v] w fun e w' => e = .returned (.tuple #[.slice none 0 0, .int .i64 2]) ∧ w = w' := by
  have hp : (st < 1) ∨ (¬ st < 1 ∧ st > 70368744177664) ∨ (¬ st < 1 ∧ ¬ st > 70368744177664 ∧ ba < 0) ∨ (¬ st < 1 ∧ ¬ st > 70368744177664 ∧ ¬ ba < 0 ∧ ba ≥ st) := by unfold CutBad at h; omega
  clear h
  rcases hp with h1 | ⟨h1, h2⟩ | ⟨h1, h2, h3⟩ | ⟨h1, h2, h3, h4⟩
  all_goals
    go_enter Tryd.func14, Tryd.ntmps14
    go_wp2
    go_ret2
    exact ⟨rfl, rfl⟩
def RCutPost (st ba : Int) (l : List Nat) (w : World) (e : Ending) (w' : World) : Prop :=
  (40 < manyP l.length ∧ e = .returned (.tuple #[.slice none 0 0, .int .i64 4]) ∧ Below w.heap.size w w') ∨
  (manyP l.length ≤ 40 ∧ ∃ A c vs, e = .returned (.tuple #[.slice A (manyP l.length) c, .int .i64 0]) ∧ vs.length = manyP l.length ∧ w'.ownsRow w.heap.size 37 5 (.slice A (manyP l.length) c) (manyP l.length) (piecesF st ba (fun _ => (manyP l.length : Nat)) vs) ∧ Parts w l vs ∧ Below w.heap.size w w')

set_option maxRecDepth 100000 in
set_option maxHeartbeats 4000000 in
theorem rcuts_c (st ba : Int) (A : Option Addr) (N cap : Nat) (l : List Nat) (w : World) (h : ¬ CutBad st ba) (hS : Src w (.slice A N cap) l) (hcap : N ≤ cap) (hm : N ≤ 100000) : Calls Tryd.prog 14 #[.int .i64 st, .int .i64 ba, .slice A N cap] w (RCutPost st ba l w) := by
  have hN := src_cap hS
  have HN := Lib.hid hN
  have hp : ¬ st < 1 ∧ ¬ st > 70368744177664 ∧ ¬ ba < 0 ∧ ¬ ba ≥ st := by unfold CutBad at h; omega
  obtain ⟨h1, h2, h3, h4⟩ := hp
  have HSR : Hid (∀ w', Below w.heap.size w w' → Src w' (.slice A N cap) l) := Lib.hid (fun w' k => hS.below k)
  clear h hN hS
  go_enter Tryd.func14, Tryd.ntmps14
  go_wp2
  go_loopw [2, 8, 9] (fun tb tv tf wr => ∃ (j : Nat) (BA : Option Addr) (BN BC : Nat) (PA : Option Addr) (PC : Nat) (vs : List Value) (fs : Bool), tb = .slice BA BN BC ∧ tv = .slice PA j PC ∧ tf = .bool fs ∧ (fs = true ↔ j = 0) ∧ BN = N - 100 * j ∧ BN ≤ BC ∧ (∀ w', Below w.heap.size w w' → Src w' (.slice BA BN BC) (l.drop (100 * j))) ∧ j = vs.length ∧
    wr.ownsRow w.heap.size 37 5 (.slice PA j PC) j (piecesF st ba (fun _ => 0) vs) ∧ Parts w l vs ∧ Below w.heap.size w wr ∧ 100 * j ≤ N + 100 ∧ (1 < j → 100 * (j - 1) < N)) (fun tb _ tf _ => match tb, tf with | .slice _ n _, .bool true => n + 1 | .slice _ n _, _ => n | _, _ => 0)
  case atStart => exact ⟨0, A, N, cap, none, 0, [], true, rfl, rfl, rfl, by simp, by omega, hcap, by simpa using HSR.out, rfl, ⟨by simp [piecesF], .inl ⟨rfl, rfl⟩⟩, fun k u hu => by simp at hu, Below.refl _ _, by omega, by omega⟩
  case round =>
    obtain ⟨j, BA, BN, BC, PA, PC, vs, fs, rfl, rfl, rfl, hfs, hbn, hbc, hbs, hvl, hrow, hpt, hB, hj1, hj2⟩ := hrel
    have HFS := Lib.hid hfs
    have HBJ := Lib.hid hbn
    have HBC := Lib.hid hbc
    have HBS := Lib.hid hbs
    have HVL := Lib.hid hvl
    have HPT := Lib.hid hpt
    have HBN : Hid (BN = (l.drop (100 * j)).length) := Lib.hid (src_cap (hbs w (Below.refl _ _)))
    have HJ2 := Lib.hid hj2
    have hBNb : BN ≤ 100000 := by omega
    have hjb : j ≤ 1001 := by omega
    clear hfs hbn hbs hvl hpt hbc hj2
    by_cases hgo : fs = true ∨ 0 < BN
    · have hj3 : 100 * j ≤ N ∨ j = 0 := by
        rcases hgo with e | e
        · exact .inr (HFS.out.1 e)
        · left; have := HBJ.out; omega
      have hjn : 1 < j + 1 → 100 * j < N := by
        intro h1
        rcases hgo with e | e
        · have := HFS.out.1 e; omega
        · have := HBJ.out; omega
      have HJN := Lib.hid hjn
      clear hjn hj1
      cases fs with
      | true =>
        have j0 := HFS.out.1 rfl
        have J0 := Lib.hid j0
        clear j0 hgo HFS
        by_cases hsm : BN < 100
        · have hn : ((BN : Int) < 100) := by omega
          obtain ⟨sc, hs1, _, hrun1⟩ := src_slice_h (HBS.out wr hB) HBN.out HBC.out BN (BN : Int) (by omega) (by omega)
          obtain ⟨TA, tc, hs2, htc, hrun2⟩ := src_slice_l (HBS.out wr hB) HBN.out HBC.out BN (BN : Int) (by omega) (by omega)
          have hch : (l.drop (100 * j)).take BN = chunk l j := by
            unfold chunk
            rw [List.take_of_length_le (by have := HBN.out; omega), List.take_of_length_le (by have := HBN.out; omega)]
          have hlen : BN = (chunk l j).length := by rw [← hch]; have := HBN.out; simp at this; simp; omega
          have hdr : (l.drop (100 * j)).drop BN = l.drop (100 * (j + 1)) := by
            rw [List.drop_drop]
            rw [List.drop_eq_nil_of_le (by have := HBN.out; simp at this; omega), List.drop_eq_nil_of_le (by have := HBN.out; simp at this; omega)]
          have HS1 : Hid (∀ w', Below w.heap.size w w' → Src w' (.slice BA BN sc) (chunk l j)) := Lib.hid (fun w' k => by
            obtain ⟨sc', h1, _, h2⟩ := src_slice_h (HBS.out w' k) HBN.out HBC.out BN (BN : Int) (by omega) (by omega)
            have := hrun1 w'
            rw [h2 w'] at this
            cases this
            rw [← hch]; exact h1)
          have HS2 : Hid (∀ w', Below w.heap.size w w' → Src w' (.slice TA (BN - BN) tc) (l.drop (100 * (j + 1)))) := Lib.hid (fun w' k => by
            obtain ⟨TA', tc', h1, _, h2⟩ := src_slice_l (HBS.out w' k) HBN.out HBC.out BN (BN : Int) (by omega) (by omega)
            have := hrun2 w'
            rw [h2 w'] at this
            cases this
            rw [← hdr]; exact h1)
          have HLEN := Lib.hid hlen
          have HR4 := Lib.hid hrow
          have HTC := Lib.hid htc
          have HBZ : Hid (w.heap.size ≤ wr.heap.size) := Lib.hid hB.size
          clear hs1 hs2 hch hlen hdr htc hrow
          go_wp2_with (at_builtin; refine app_one rfl (.tmp 36) (.tmp 45) 24 rfl Tryd.underlying24 rpieceInfo rfl (by decide) (by decide) w.heap.size (.slice PA j PC) j (piecesF st ba (fun _ => 0) vs) rfl HR4.out #[.int .i64 st, .int .i64 ba, .int .i64 (j : Int), .int .i64 0, .slice BA BN sc] rfl (by simp) rfl (pieceC_one _ _ _ _ _ _ _) (by omega) HBZ.out ?_; intro g c w5 hown hmod hwh hbg; have HO5 := Lib.hid hown; have HM5 := Lib.hid hmod; clear hown hmod hwh)
          have hB5 := hB.trans (HM5.out.toBelow HBZ.out (fun b hb e => by have := (row_lt HR4.out e).2; omega))
          go_roundw
          case rel =>
            refine ⟨j + 1, TA, BN - BN, tc, some ⟨g, 0, none⟩, c, vs ++ [.slice BA BN sc], false, by first | rfl | (congr 1; omega), rfl, rfl, by simp, by have := HBJ.out; omega, HTC.out, HS2.out, by rw [List.length_append, ← HVL.out]; rfl, ?_, ?_, hB5, by omega, ?_⟩
            · have := HO5.out
              rw [piecesF_snoc, ← HVL.out]
              exact this
            · intro k u hu
              by_cases hk : k < vs.length
              · rw [List.getElem?_append_left hk] at hu
                exact HPT.out k u hu
              · have hlt := (List.getElem?_eq_some_iff.1 hu).1
                obtain rfl : k = vs.length := by simp at hlt; omega
                rw [List.getElem?_append_right (Nat.le_refl _)] at hu
                simp at hu
                subst hu
                rw [← HVL.out]
                exact ⟨⟨BA, sc, by rw [← HLEN.out]⟩, HS1.out⟩
            · intro hq; have := HJN.out (by omega); simpa using this
          case measure => first | (simp; done) | (simp; omega)

        · have hn : ¬ ((BN : Int) < 100) := by omega
          obtain ⟨sc, hs1, _, hrun1⟩ := src_slice_h (HBS.out wr hB) HBN.out HBC.out 100 100 (by omega) (by omega)
          obtain ⟨TA, tc, hs2, htc, hrun2⟩ := src_slice_l (HBS.out wr hB) HBN.out HBC.out 100 100 (by omega) (by omega)
          have hch : (l.drop (100 * j)).take 100 = chunk l j := by
            unfold chunk
            rfl
          have hlen : 100 = (chunk l j).length := by rw [← hch]; have := HBN.out; simp at this; simp; omega
          have hdr : (l.drop (100 * j)).drop 100 = l.drop (100 * (j + 1)) := by
            rw [List.drop_drop]
            congr 1
          have HS1 : Hid (∀ w', Below w.heap.size w w' → Src w' (.slice BA 100 sc) (chunk l j)) := Lib.hid (fun w' k => by
            obtain ⟨sc', h1, _, h2⟩ := src_slice_h (HBS.out w' k) HBN.out HBC.out 100 100 (by omega) (by omega)
            have := hrun1 w'
            rw [h2 w'] at this
            cases this
            rw [← hch]; exact h1)
          have HS2 : Hid (∀ w', Below w.heap.size w w' → Src w' (.slice TA (BN - 100) tc) (l.drop (100 * (j + 1)))) := Lib.hid (fun w' k => by
            obtain ⟨TA', tc', h1, _, h2⟩ := src_slice_l (HBS.out w' k) HBN.out HBC.out 100 100 (by omega) (by omega)
            have := hrun2 w'
            rw [h2 w'] at this
            cases this
            rw [← hdr]; exact h1)
          have HLEN := Lib.hid hlen
          have HR4 := Lib.hid hrow
          have HTC := Lib.hid htc
          have HBZ : Hid (w.heap.size ≤ wr.heap.size) := Lib.hid hB.size
          clear hs1 hs2 hch hlen hdr htc hrow
          go_wp2_with (at_builtin; refine app_one rfl (.tmp 36) (.tmp 45) 24 rfl Tryd.underlying24 rpieceInfo rfl (by decide) (by decide) w.heap.size (.slice PA j PC) j (piecesF st ba (fun _ => 0) vs) rfl HR4.out #[.int .i64 st, .int .i64 ba, .int .i64 (j : Int), .int .i64 0, .slice BA 100 sc] rfl (by simp) rfl (pieceC_one _ _ _ _ _ _ _) (by omega) HBZ.out ?_; intro g c w5 hown hmod hwh hbg; have HO5 := Lib.hid hown; have HM5 := Lib.hid hmod; clear hown hmod hwh)
          have hB5 := hB.trans (HM5.out.toBelow HBZ.out (fun b hb e => by have := (row_lt HR4.out e).2; omega))
          go_roundw
          case rel =>
            refine ⟨j + 1, TA, BN - 100, tc, some ⟨g, 0, none⟩, c, vs ++ [.slice BA 100 sc], false, by first | rfl | (congr 1; omega), rfl, rfl, by simp, by have := HBJ.out; omega, HTC.out, HS2.out, by rw [List.length_append, ← HVL.out]; rfl, ?_, ?_, hB5, by omega, ?_⟩
            · have := HO5.out
              rw [piecesF_snoc, ← HVL.out]
              exact this
            · intro k u hu
              by_cases hk : k < vs.length
              · rw [List.getElem?_append_left hk] at hu
                exact HPT.out k u hu
              · have hlt := (List.getElem?_eq_some_iff.1 hu).1
                obtain rfl : k = vs.length := by simp at hlt; omega
                rw [List.getElem?_append_right (Nat.le_refl _)] at hu
                simp at hu
                subst hu
                rw [← HVL.out]
                exact ⟨⟨BA, sc, by rw [← HLEN.out]⟩, HS1.out⟩
            · intro hq; have := HJN.out (by omega); simpa using this
          case measure => first | (simp; done) | (simp; omega)

      | false =>
        have hbp : (BN : Int) > 0 := by rcases hgo with e | e; cases e; omega
        clear hgo HFS
        by_cases hsm : BN < 100
        · have hn : ((BN : Int) < 100) := by omega
          obtain ⟨sc, hs1, _, hrun1⟩ := src_slice_h (HBS.out wr hB) HBN.out HBC.out BN (BN : Int) (by omega) (by omega)
          obtain ⟨TA, tc, hs2, htc, hrun2⟩ := src_slice_l (HBS.out wr hB) HBN.out HBC.out BN (BN : Int) (by omega) (by omega)
          have hch : (l.drop (100 * j)).take BN = chunk l j := by
            unfold chunk
            rw [List.take_of_length_le (by have := HBN.out; omega), List.take_of_length_le (by have := HBN.out; omega)]
          have hlen : BN = (chunk l j).length := by rw [← hch]; have := HBN.out; simp at this; simp; omega
          have hdr : (l.drop (100 * j)).drop BN = l.drop (100 * (j + 1)) := by
            rw [List.drop_drop]
            rw [List.drop_eq_nil_of_le (by have := HBN.out; simp at this; omega), List.drop_eq_nil_of_le (by have := HBN.out; simp at this; omega)]
          have HS1 : Hid (∀ w', Below w.heap.size w w' → Src w' (.slice BA BN sc) (chunk l j)) := Lib.hid (fun w' k => by
            obtain ⟨sc', h1, _, h2⟩ := src_slice_h (HBS.out w' k) HBN.out HBC.out BN (BN : Int) (by omega) (by omega)
            have := hrun1 w'
            rw [h2 w'] at this
            cases this
            rw [← hch]; exact h1)
          have HS2 : Hid (∀ w', Below w.heap.size w w' → Src w' (.slice TA (BN - BN) tc) (l.drop (100 * (j + 1)))) := Lib.hid (fun w' k => by
            obtain ⟨TA', tc', h1, _, h2⟩ := src_slice_l (HBS.out w' k) HBN.out HBC.out BN (BN : Int) (by omega) (by omega)
            have := hrun2 w'
            rw [h2 w'] at this
            cases this
            rw [← hdr]; exact h1)
          have HLEN := Lib.hid hlen
          have HR4 := Lib.hid hrow
          have HTC := Lib.hid htc
          have HBZ : Hid (w.heap.size ≤ wr.heap.size) := Lib.hid hB.size
          clear hs1 hs2 hch hlen hdr htc hrow
          go_wp2_with (at_builtin; refine app_one rfl (.tmp 36) (.tmp 45) 24 rfl Tryd.underlying24 rpieceInfo rfl (by decide) (by decide) w.heap.size (.slice PA j PC) j (piecesF st ba (fun _ => 0) vs) rfl HR4.out #[.int .i64 st, .int .i64 ba, .int .i64 (j : Int), .int .i64 0, .slice BA BN sc] rfl (by simp) rfl (pieceC_one _ _ _ _ _ _ _) (by omega) HBZ.out ?_; intro g c w5 hown hmod hwh hbg; have HO5 := Lib.hid hown; have HM5 := Lib.hid hmod; clear hown hmod hwh)
          have hB5 := hB.trans (HM5.out.toBelow HBZ.out (fun b hb e => by have := (row_lt HR4.out e).2; omega))
          go_roundw
          case rel =>
            refine ⟨j + 1, TA, BN - BN, tc, some ⟨g, 0, none⟩, c, vs ++ [.slice BA BN sc], false, by first | rfl | (congr 1; omega), rfl, rfl, by simp, by have := HBJ.out; omega, HTC.out, HS2.out, by rw [List.length_append, ← HVL.out]; rfl, ?_, ?_, hB5, by omega, ?_⟩
            · have := HO5.out
              rw [piecesF_snoc, ← HVL.out]
              exact this
            · intro k u hu
              by_cases hk : k < vs.length
              · rw [List.getElem?_append_left hk] at hu
                exact HPT.out k u hu
              · have hlt := (List.getElem?_eq_some_iff.1 hu).1
                obtain rfl : k = vs.length := by simp at hlt; omega
                rw [List.getElem?_append_right (Nat.le_refl _)] at hu
                simp at hu
                subst hu
                rw [← HVL.out]
                exact ⟨⟨BA, sc, by rw [← HLEN.out]⟩, HS1.out⟩
            · intro hq; have := HJN.out (by omega); simpa using this
          case measure => first | (simp; done) | (simp; omega)

        · have hn : ¬ ((BN : Int) < 100) := by omega
          obtain ⟨sc, hs1, _, hrun1⟩ := src_slice_h (HBS.out wr hB) HBN.out HBC.out 100 100 (by omega) (by omega)
          obtain ⟨TA, tc, hs2, htc, hrun2⟩ := src_slice_l (HBS.out wr hB) HBN.out HBC.out 100 100 (by omega) (by omega)
          have hch : (l.drop (100 * j)).take 100 = chunk l j := by
            unfold chunk
            rfl
          have hlen : 100 = (chunk l j).length := by rw [← hch]; have := HBN.out; simp at this; simp; omega
          have hdr : (l.drop (100 * j)).drop 100 = l.drop (100 * (j + 1)) := by
            rw [List.drop_drop]
            congr 1
          have HS1 : Hid (∀ w', Below w.heap.size w w' → Src w' (.slice BA 100 sc) (chunk l j)) := Lib.hid (fun w' k => by
            obtain ⟨sc', h1, _, h2⟩ := src_slice_h (HBS.out w' k) HBN.out HBC.out 100 100 (by omega) (by omega)
            have := hrun1 w'
            rw [h2 w'] at this
            cases this
            rw [← hch]; exact h1)
          have HS2 : Hid (∀ w', Below w.heap.size w w' → Src w' (.slice TA (BN - 100) tc) (l.drop (100 * (j + 1)))) := Lib.hid (fun w' k => by
            obtain ⟨TA', tc', h1, _, h2⟩ := src_slice_l (HBS.out w' k) HBN.out HBC.out 100 100 (by omega) (by omega)
            have := hrun2 w'
            rw [h2 w'] at this
            cases this
            rw [← hdr]; exact h1)
          have HLEN := Lib.hid hlen
          have HR4 := Lib.hid hrow
          have HTC := Lib.hid htc
          have HBZ : Hid (w.heap.size ≤ wr.heap.size) := Lib.hid hB.size
          clear hs1 hs2 hch hlen hdr htc hrow
          go_wp2_with (at_builtin; refine app_one rfl (.tmp 36) (.tmp 45) 24 rfl Tryd.underlying24 rpieceInfo rfl (by decide) (by decide) w.heap.size (.slice PA j PC) j (piecesF st ba (fun _ => 0) vs) rfl HR4.out #[.int .i64 st, .int .i64 ba, .int .i64 (j : Int), .int .i64 0, .slice BA 100 sc] rfl (by simp) rfl (pieceC_one _ _ _ _ _ _ _) (by omega) HBZ.out ?_; intro g c w5 hown hmod hwh hbg; have HO5 := Lib.hid hown; have HM5 := Lib.hid hmod; clear hown hmod hwh)
          have hB5 := hB.trans (HM5.out.toBelow HBZ.out (fun b hb e => by have := (row_lt HR4.out e).2; omega))
          go_roundw
          case rel =>
            refine ⟨j + 1, TA, BN - 100, tc, some ⟨g, 0, none⟩, c, vs ++ [.slice BA 100 sc], false, by first | rfl | (congr 1; omega), rfl, rfl, by simp, by have := HBJ.out; omega, HTC.out, HS2.out, by rw [List.length_append, ← HVL.out]; rfl, ?_, ?_, hB5, by omega, ?_⟩
            · have := HO5.out
              rw [piecesF_snoc, ← HVL.out]
              exact this
            · intro k u hu
              by_cases hk : k < vs.length
              · rw [List.getElem?_append_left hk] at hu
                exact HPT.out k u hu
              · have hlt := (List.getElem?_eq_some_iff.1 hu).1
                obtain rfl : k = vs.length := by simp at hlt; omega
                rw [List.getElem?_append_right (Nat.le_refl _)] at hu
                simp at hu
                subst hu
                rw [← HVL.out]
                exact ⟨⟨BA, sc, by rw [← HLEN.out]⟩, HS1.out⟩
            · intro hq; have := HJN.out (by omega); simpa using this
          case measure => first | (simp; done) | (simp; omega)

    · have hfs : fs = false := by cases fs; rfl; exact absurd (.inl rfl) hgo
      have hb0 : BN = 0 := by omega
      have hj0 : j ≠ 0 := fun e => by have := HFS.out.2 e; rw [hfs] at this; cases this
      have hmany : manyP l.length = j := by
        have h5 := HBJ.out; have h6 := HN.out; have h7 := HJ2.out
        unfold manyP
        rw [← h6]
        split
        · by_cases e : 1 < j
          · have := h7 e; omega
          · omega
        · by_cases e : 1 < j
          · have := h7 e; omega
          · omega
      have HMY := Lib.hid hmany
      subst hfs hb0
      have HROW := Lib.hid hrow
      clear hmany hgo HFS HJ2 hj1 hrow
      by_cases h40 : 40 < j
      · have h40' : (j : Int) > 40 := by omega
        go_wp2
        go_ret2
        exact .inl ⟨by rw [HMY.out]; exact h40, rfl, hB⟩
      · have h40' : ¬ (j : Int) > 40 := by omega
        go_wp2
        clear h40'
        obtain ⟨g, cap', hge, g1, g2, g3, g4, g5, g6, _⟩ := row_at HROW.out (by omega)
        cases hge
        clear g2 g3 g4 g5 g6
        go_loopw [55] (fun i wx => ∃ k : Nat, k ≤ j ∧ i = .int .i64 k ∧ wx.ownsRow w.heap.size 37 5 (.slice (some ⟨g, 0, none⟩) j PC) j (piecesF st ba (fun q => if q < k then (j : Int) else 0) vs) ∧ Below w.heap.size w wx) (fun i _ => j - (intOf i).toNat)
        case atStart => exact ⟨0, by omega, rfl, by simpa using HROW.out, hB⟩
        case round =>
          obtain ⟨k, hk, rfl, hrow, hB⟩ := hrel
          by_cases hlt : k < j
          · obtain ⟨g', cap', hge, k1, k2, k3, k4, k5, k6, _⟩ := row_at hrow (by omega)
            cases hge
            obtain ⟨u, hu⟩ : ∃ u, vs[k]? = some u := ⟨_, List.getElem?_eq_getElem (by have := HVL.out; omega)⟩
            have hc := k6 (k * 5 + 3) (.int .i64 (if k < k then (j : Int) else 0)) (by rw [piecesF_get st ba _ vs k u hu 3 (by omega)]; rfl)
            have hf := k5 (k * 5 + 3)
            have hset := row_set (i := k * 5 + 3) (x := .int .i64 (j : Int)) hrow (by rw [piecesF_length]; have := HVL.out; omega)
            rw [piecesF_set st ba _ vs k (j : Int) (by have := HVL.out; omega)] at hset
            have hset2 : (wr.setCell ⟨g, k * 5 + 3, none⟩ (.int .i64 (j : Int))).ownsRow w.heap.size 37 5 (.slice (some ⟨g, 0, none⟩) j PC) j (piecesF st ba (fun q => if q < k + 1 then (j : Int) else 0) vs) := by
              rw [piecesF_congr st ba (fun q => if q < k + 1 then (j : Int) else 0) (fun q => if q = k then (j : Int) else if q < k then (j : Int) else 0) vs (fun q _ => by by_cases e : q = k; subst e; simp; by_cases e2 : q < k; rw [if_pos (by omega), if_neg e, if_pos e2]; rw [if_neg (by omega), if_neg e, if_neg e2])]
              exact hset
            have HSE := Lib.hid hset2
            clear k5 k6 hu hset hset2 hrow
            go_wp2
            go_roundw
            case rel => exact ⟨k + 1, by omega, by go_num, HSE.out, hB.setCell k1 _⟩
            case measure => first | (simp [intOf]; done) | (simp [intOf]; omega)
          · obtain rfl : k = j := by omega
            have HR := Lib.hid hrow
            clear hrow
            go_wp2
            go_ret2
            refine .inr ⟨by rw [HMY.out]; omega, _, PC, vs, by rw [HMY.out]; rfl, by rw [HMY.out]; exact HVL.out.symm, ?_, HPT.out, hB⟩
            rw [HMY.out, piecesF_congr st ba (fun _ => (k : Int)) (fun q => if q < k then (k : Int) else 0) vs (fun q hq => by rw [if_pos (by have := HVL.out; omega)])]
            exact HR.out

end Go.Proofs.YtnkinnfpebploaaDoor
