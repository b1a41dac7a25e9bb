/- The contract of wire.Cut. Conditions: none. -/
import Derived.Test.YtnkinnfpebploaaCut0
namespace Go.Proofs.Ytnkinnfpebploaa
open Go.ChangeShapes Go.WideShapes Go.ChangeAt Go.RowKit Go.BigFrame
open B
/-- the j-th piece's bytes -/
def chunk (l : List Nat) (j : Nat) : List Nat := (l.drop (100 * j)).take 100
/-- how many pieces -/
def manyP (n : Nat) : Nat := if n = 0 then 1 else (n + 99) / 100
/-- the cells of a piece -/
def pieceC (st ba : Int) (ix : Nat) (ma : Int) (v : Value) : List Value := [.int .i64 st, .int .i64 ba, .int .i64 (ix : Int), .int .i64 ma, v]
/-- k pieces, with such slices -/
def piecesC (st ba ma : Int) (vs : List Value) : List Value := (vs.zipIdx).flatMap fun p => pieceC st ba p.2 ma p.1
theorem piecesC_snoc (st ba ma : Int) (vs : List Value) (v : Value) : piecesC st ba ma (vs ++ [v]) = piecesC st ba ma vs ++ pieceC st ba vs.length ma v := by
  unfold piecesC
  rw [List.zipIdx_append, List.flatMap_append]
  simp
theorem piecesC_length (st ba ma : Int) (vs : List Value) : (piecesC st ba ma vs).length = vs.length * 5 := by
  have : ∀ (l : List Value), ∀ vs' : List Value, l = vs' → True := fun _ _ _ => trivial
  clear this
  have : ∀ (n : Nat) (vs : List Value), vs.length = n → (piecesC st ba ma vs).length = n * 5 := by
    intro n
    induction n with
    | zero => intro vs h; have : vs = [] := by simpa using h
              subst this; rfl
    | succ n ih =>
      intro vs h
      obtain ⟨us, u, rfl⟩ : ∃ us u, vs = us ++ [u] := ⟨vs.dropLast, vs.getLast (by intro e; subst e; simp at h), (List.dropLast_concat_getLast _).symm⟩
      rw [piecesC_snoc, List.length_append, ih us (by simpa using h)]
      simp [pieceC]
      omega
  exact this _ _ rfl
theorem piecesC_get (st ba ma : Int) (vs : List Value) (k : Nat) (v : Value) (h : vs[k]? = some v) (j : Nat) (hj : j < 5) : (piecesC st ba ma vs)[k * 5 + j]? = (pieceC st ba k ma v)[j]? := by
  have hk : k < vs.length := (List.getElem?_eq_some_iff.1 h).1
  have e1 : vs = (vs.take k ++ [v]) ++ vs.drop (k + 1) := by
    have : vs.take (k + 1) = vs.take k ++ [v] := by rw [List.take_add_one, h]; rfl
    rw [← this, List.take_append_drop]
  have e2 : ∀ us ws : List Value, ∃ rest, piecesC st ba ma (us ++ ws) = piecesC st ba ma us ++ rest := by
    intro us ws
    refine ⟨(ws.zipIdx us.length).flatMap fun p => pieceC st ba p.2 ma p.1, ?_⟩
    unfold piecesC
    rw [List.zipIdx_append, List.flatMap_append]
    simp
  obtain ⟨rest, hr⟩ := e2 (vs.take k ++ [v]) (vs.drop (k + 1))
  rw [e1, hr, piecesC_snoc]
  have hl : (piecesC st ba ma (vs.take k)).length = k * 5 := by rw [piecesC_length]; simp; omega
  have hkk : (vs.take k).length = k := by simp; omega
  rw [hkk, List.append_assoc, List.getElem?_append_right (by omega), hl, List.getElem?_append_left (by simp [pieceC]; omega)]
  congr 1
  omega
theorem pieceInfo : (Try.prog.info? 39).map (fun i => (i.zero, i.size, i.bytes)) = some (some (.agg #[.int .i64 0, .int .i64 0, .int .i64 0, .int .i64 0, .slice none 0 0]), 5, 56) := by kernel_rfl
theorem pieceC_one (st ba : Int) (ix : Int) (ma : Int) (A : Option Addr) (n c : Nat) : ∀ u ∈ (#[Value.int .i64 st, .int .i64 ba, .int .i64 ix, .int .i64 ma, .slice A n c]).toList, u.oneCell' = true := by
  intro u hu
  simp at hu
  rcases hu with h | h | h | h | h <;> subst h <;> rfl
/-- the pieces that were made: a row of the call's own, and each piece's bytes in rows of their own -/
structure Pcs (w : World) (B : Nat) (v : Value) (st ba ma : Int) (l : List Nat) (vs : List Value) : Prop where
  row : w.ownsRow B 39 5 v vs.length (piecesC st ba ma vs)
  part : ∀ k u, vs[k]? = some u → (∃ A c, u = .slice A (chunk l k).length c) ∧ w.ownsRow B 5 1 u (chunk l k).length (u8s (chunk l k)) ∧ ∀ b, u.ownBlock = some b → v.ownBlock ≠ some b
theorem Pcs.below {w w' : World} {B : Nat} {v : Value} {st ba ma : Int} {l : List Nat} {vs : List Value} (h : Pcs w B v st ba ma l vs) (k : Below w.heap.size w w') : Pcs w' B v st ba ma l vs :=
  ⟨row_below h.row k, fun j u hu => ⟨(h.part j u hu).1, row_below (h.part j u hu).2.1 k, (h.part j u hu).2.2⟩⟩
theorem chunk_le (l : List Nat) (k : Nat) : (chunk l k).length ≤ 100 := by unfold chunk; simp; omega
/-- one more -/
theorem Pcs.snoc {w w1 w2 : World} {B g c : Nat} {v : Value} {st ba ma : Int} {l : List Nat} {vs : List Value} {A : Option Addr} {cc : Nat} (h : Pcs w B v st ba ma l vs) (hb1 : Below w.heap.size w w1)
    (hc : w1.ownsRow w.heap.size 5 1 (.slice A (chunk l vs.length).length cc) (chunk l vs.length).length (u8s (chunk l vs.length))) (hB : B ≤ w.heap.size)
    (hown : w2.ownsRow B 39 5 (.slice (some ⟨g, 0, none⟩) (vs.length + 1) c) (vs.length + 1) (piecesC st ba ma vs ++ [.int .i64 st, .int .i64 ba, .int .i64 (vs.length : Int), .int .i64 ma, .slice A (chunk l vs.length).length cc]))
    (hmod : Mod (fun b => v.ownBlock = some b) w1 w2) (hwh : v.ownBlock = some g ∨ w1.heap.size < g) : Pcs w2 B (.slice (some ⟨g, 0, none⟩) (vs.length + 1) c) st ba ma l (vs ++ [.slice A (chunk l vs.length).length cc]) := by
  refine ⟨?_, fun k u hu => ?_⟩
  · rw [List.length_append, piecesC_snoc]
    exact hown
  · by_cases hk : k < vs.length
    · rw [List.getElem?_append_left hk] at hu
      obtain ⟨p1, p2, p3⟩ := h.part k u hu
      have p2' := row_below p2 hb1
      refine ⟨p1, row_mod p2' hmod (fun b hb e => p3 b hb e), fun b hb e => ?_⟩
      simp only [Value.ownBlock, Option.some.injEq] at e
      rcases hwh with e2 | e2
      · exact p3 b hb (by rw [e2, e])
      · have := (row_lt p2' hb).1; omega
    · have hlt := (List.getElem?_eq_some_iff.1 hu).1
      obtain rfl : k = vs.length := by simp at hlt; omega
      rw [List.getElem?_append_right (Nat.le_refl _)] at hu
      simp at hu
      subst hu
      have hne : ∀ b, (Value.slice A (chunk l vs.length).length cc).ownBlock = some b → v.ownBlock ≠ some b := fun b hb e => by
        have h1 := (row_lt hc hb).2
        have h2 := (row_lt h.row e).1
        omega
      refine ⟨⟨_, _, rfl⟩, ?_, fun b hb e => ?_⟩
      · have h1 := row_mod hc hmod (fun b hb e => hne b hb e)
        obtain ⟨a1, a2 | ⟨g', cap, cur, x1, x2, x3⟩⟩ := h1
        · exact ⟨a1, .inl a2⟩
        · exact ⟨a1, .inr ⟨g', cap, cur, x1, by omega, x3⟩⟩
      · simp only [Value.ownBlock, Option.some.injEq] at e
        rcases hwh with e2 | e2
        · exact hne b hb (by rw [e2, e])
        · have := (row_lt hc hb).1; omega
theorem snocJ {w w1 w2 : World} {B g c j CL : Nat} {v : Value} {st ba ma : Int} {l : List Nat} {vs : List Value} {A : Option Addr} {cc : Nat} (hj : j = vs.length) (h : Pcs w B v st ba ma l vs) (hb1 : Below w.heap.size w w1)
    (hc : w1.ownsRow w.heap.size 5 1 (.slice A (chunk l j).length cc) (chunk l j).length (u8s (chunk l j))) (hB : B ≤ w.heap.size) (hCL : CL = (chunk l j).length)
    (hown : w2.ownsRow B 39 5 (.slice (some ⟨g, 0, none⟩) (j + 1) c) (j + 1) (piecesC st ba ma vs ++ [.int .i64 st, .int .i64 ba, .int .i64 (j : Int), .int .i64 ma, .slice A CL cc]))
    (hmod : Mod (fun b => v.ownBlock = some b) w1 w2) (hwh : v.ownBlock = some g ∨ w1.heap.size < g) : Pcs w2 B (.slice (some ⟨g, 0, none⟩) (j + 1) c) st ba ma l (vs ++ [.slice A CL cc]) := by
  subst hj hCL
  exact h.snoc hb1 hc hB hown hmod hwh
theorem row_len {w : World} {B : Nat} {v : Value} {st ba ma : Int} {l : List Nat} {vs : List Value} {j : Nat} (hj : j = vs.length) (h : Pcs w B v st ba ma l vs) : w.ownsRow B 39 5 v j (piecesC st ba ma vs) := by
  subst hj; exact h.row
def CutBad (st ba : Int) : Prop := st < 1 ∨ 70368744177664 < st ∨ ba < 0 ∨ st ≤ ba
theorem cut_bad (st ba : Int) (v : Value) (w : World) (h : CutBad st ba) : Calls Try.prog 7 #[.int .i64 st, .int .i64 ba, v] w fun e w' => e = .returned (.tuple #[.slice none 0 0, .iface 43 (.int .i64 2)]) ∧ w = w' := by
  have hp : (st < 1) ∨ (¬ st < 1 ∧ st > 70368744177664) ∨ (¬ st < 1 ∧ ¬ st > 70368744177664 ∧ ba < 0) ∨ (¬ st < 1 ∧ ¬ st > 70368744177664 ∧ ¬ ba < 0 ∧ ba ≥ st) := by unfold CutBad at h; omega
  clear h
  rcases hp with h1 | ⟨h1, h2⟩ | ⟨h1, h2, h3⟩ | ⟨h1, h2, h3, h4⟩
  all_goals
    go_enter Try.func7, Try.ntmps7
    go_wp2
    go_ret2
    exact ⟨rfl, rfl⟩

set_option maxHeartbeats 2000000 in
theorem cut_many (st ba : Int) (A : Option Addr) (N cap : Nat) (w : World) (h : ¬ CutBad st ba) (hN : N ≤ 1000000) (hm : 4000 < N) : Calls Try.prog 7 #[.int .i64 st, .int .i64 ba, .slice A N cap] w fun e w' => e = .returned (.tuple #[.slice none 0 0, .iface 43 (.int .i64 4)]) ∧ w = w' := by
  have hp : ¬ st < 1 ∧ ¬ st > 70368744177664 ∧ ¬ ba < 0 ∧ ¬ ba ≥ st := by unfold CutBad at h; omega
  obtain ⟨h1, h2, h3, h4⟩ := hp
  clear h
  have hmm : ((N : Int) + 100 - 1) / 100 = (((N + 99) / 100 : Nat) : Int) := by omega
  obtain ⟨q, hq⟩ : ∃ q, q = (N + 99) / 100 := ⟨_, rfl⟩
  rw [← hq] at hmm
  have hq1 : ((1 : Int) < (q : Int)) := by omega
  have hq2 : ((q : Int) > 40) := by omega
  clear hq
  go_enter Try.func7, Try.ntmps7
  go_wp2
  go_ret2
  exact ⟨rfl, rfl⟩
def CutPost (st ba : Int) (l : List Nat) (w : World) (e : Ending) (w' : World) : Prop :=
  ∃ A c vs, e = .returned (.tuple #[.slice A (manyP l.length) c, .nilIface]) ∧ vs.length = manyP l.length ∧ Pcs w' w.heap.size (.slice A (manyP l.length) c) st ba (manyP l.length : Nat) l vs ∧ Below w.heap.size w w'

set_option maxRecDepth 100000 in
set_option maxHeartbeats 4000000 in
theorem cut_ok (st ba : Int) (A : Option Addr) (N cap : Nat) (l : List Nat) (w : World) (h : ¬ CutBad st ba) (hS : Src w (.slice A N cap) l) (hcap : N ≤ cap) (hm : N ≤ 4000) (h0 : 0 < N) : Calls Try.prog 7 #[.int .i64 st, .int .i64 ba, .slice A N cap] w (CutPost st ba l w) := by
  have hN := src_cap hS
  have HCAP := Lib.hid hcap
  have HN := Lib.hid hN
  have HSR : Hid (∀ w', Below w.heap.size w w' → Src w' (.slice A N cap) l) := Lib.hid (fun w' k => hS.below k)
  have hmany : manyP l.length = if N = 0 then 1 else (N + 99) / 100 := by unfold manyP; rw [← hN]
  have HMY := Lib.hid hmany
  have hp : ¬ st < 1 ∧ ¬ st > 70368744177664 ∧ ¬ ba < 0 ∧ ¬ ba ≥ st := by unfold CutBad at h; omega
  obtain ⟨h1, h2, h3, h4⟩ := hp
  clear h hN hmany hS hcap
  obtain ⟨q, hq⟩ : ∃ q, q = (N + 99) / 100 := ⟨_, rfl⟩
  have hmm : ((N : Int) + 100 - 1) / 100 = (q : Int) := by omega
  have hmx : (if (1 : Int) < (q : Int) then (q : Int) else 1) = (q : Int) := by split <;> omega
  have hmx2 : (if 1 < q then (q : Int) else 1) = (q : Int) := by split <;> omega
  have HQ : Hid (manyP l.length = q) := Lib.hid (by rw [HMY.out, hq, if_neg (by omega)])
  have hq40 : q ≤ 40 := by omega
  have hq1 : 1 ≤ q := by omega
  have hqb : N ≤ 100 * q := by omega
  have hqc : 100 * q < N + 100 := by omega
  have hPc : ∀ w0, Pcs w0 w.heap.size (.slice none 0 0) st ba (q : Nat) l [] := fun w0 => ⟨⟨by simp [piecesC], .inl ⟨rfl, rfl⟩⟩, fun k u hu => by simp at hu⟩
  have HPC := Lib.hid hPc
  clear hq HMY hPc
  go_enter Try.func7, Try.ntmps7
  go_wp2
  clear hmm hmx hmx2
  go_loopw [9, 37] (fun v i wr => ∃ (j : Nat) (PA : Option Addr) (PC : Nat) (vs : List Value), j ≤ q ∧ i = .int .i64 j ∧ v = .slice PA j PC ∧ j = vs.length ∧ Pcs wr w.heap.size (.slice PA j PC) st ba (q : Nat) l vs ∧ Below w.heap.size w wr) (fun _ i _ => q - (intOf i).toNat)
  case atStart => exact ⟨0, none, 0, [], by omega, rfl, rfl, rfl, HPC.out _, Below.refl _ _⟩
  case round =>
    obtain ⟨j, PA, PC, vs, hj, rfl, rfl, hvl, hP, hB⟩ := hrel
    by_cases hlt : j < q
    · have c1 : 100 * j < N := by omega
      have HVL := Lib.hid hvl
      by_cases c2 : 100 * (j + 1) < N
      · clear hvl
        have s1 : ((j : Int) * 100 < N) := by omega
        have s2 : (((j : Int) + 1) * 100 < N) := by omega
        obtain ⟨SA, SC, hSrc, _, hrun⟩ := src_slice (HSR.out wr hB) HN.out HCAP.out (100 * j) (100 * (j + 1)) ((j : Int) * 100) (((j : Int) + 1) * 100) (by omega) (by omega) (by omega) (by omega)
        have hch : ((l.drop (100 * j)).take ((100 * (j + 1)) - (100 * j))) = chunk l j := by
          unfold chunk
          have := HN.out
          rw [show 100 * (j + 1) - 100 * j = 100 by omega]
        rw [hch] at hSrc
        have hlen : (100 * (j + 1)) - (100 * j) = (chunk l j).length := by rw [← hch]; simp; have := HN.out; omega
        rw [hlen] at hSrc hrun
        have HCH := Lib.hid hlen
        have HSC := Lib.hid hSrc
        clear hSrc hch hlen
        go_wp2_with fail
        refine (clone_c _ _ _ HSC.out (by have := chunk_le l j; omega)).mono ?_
        rintro e w4 ⟨CA, CC, rfl, hcl, hb4⟩
        have hP4 := hP.below hb4
        have HC4 := Lib.hid hcl
        have HB4 := Lib.hid hb4
        have HR4 := Lib.hid (row_len HVL.out hP4)
        obtain ⟨CL, hCL⟩ : ∃ n, n = (chunk l j).length := ⟨_, rfl⟩
        rw [← hCL]
        have HCL := Lib.hid hCL
        have HBS : Hid (w.heap.size ≤ w4.heap.size) := Lib.hid (Nat.le_trans hB.size hb4.size)
        clear hcl hb4 hP4 hCL hrun s1 s2
        go_wp2_with (at_builtin; refine app_one rfl (.tmp 40) (.tmp 60) 34 rfl Try.underlying34 pieceInfo rfl (by decide) (by decide) w.heap.size (.slice PA j PC) j (piecesC st ba q vs) rfl HR4.out #[.int .i64 st, .int .i64 ba, .int .i64 (j : Int), .int .i64 (q : Int), .slice CA CL CC] rfl (by simp) rfl (pieceC_one _ _ _ _ _ _ _) (by omega) HBS.out ?_; intro g c w5 hown hmod hwh hbg; have HO5 := Lib.hid hown; have HM5 := Lib.hid hmod; have HW5 := Lib.hid hwh; clear hown hmod hwh)
        have hB4 := hB.trans (HB4.out.mono hB.size)
        have hB5 := hB4.trans (HM5.out.toBelow HBS.out (fun b hb e => by have := (row_lt HR4.out e).2; omega))
        have hP5 := snocJ HVL.out hP HB4.out HC4.out hB.size HCL.out HO5.out HM5.out HW5.out
        clear hP HB4 HC4 HR4 HO5 HM5 HW5
        go_roundw
        case rel => exact ⟨j + 1, some ⟨g, 0, none⟩, c, vs ++ [.slice CA CL CC], by omega, by go_num, rfl, by rw [List.length_append, ← HVL.out]; rfl, hP5, hB5⟩
        case measure => first | (simp [intOf]; done) | (simp [intOf]; omega)
      · clear hvl
        have s1 : ((j : Int) * 100 < N) := by omega
        have s2 : ¬ (((j : Int) + 1) * 100 < N) := by omega
        obtain ⟨SA, SC, hSrc, _, hrun⟩ := src_slice (HSR.out wr hB) HN.out HCAP.out (100 * j) N ((j : Int) * 100) ((N : Int)) (by omega) (by omega) (by omega) (by omega)
        have hch : ((l.drop (100 * j)).take (N - (100 * j))) = chunk l j := by
          unfold chunk
          have := HN.out
          rw [List.take_of_length_le (by simp; omega), List.take_of_length_le (by simp; omega)]
        rw [hch] at hSrc
        have hlen : N - (100 * j) = (chunk l j).length := by rw [← hch]; simp; have := HN.out; omega
        rw [hlen] at hSrc hrun
        have HCH := Lib.hid hlen
        have HSC := Lib.hid hSrc
        clear hSrc hch hlen
        go_wp2_with fail
        refine (clone_c _ _ _ HSC.out (by have := chunk_le l j; omega)).mono ?_
        rintro e w4 ⟨CA, CC, rfl, hcl, hb4⟩
        have hP4 := hP.below hb4
        have HC4 := Lib.hid hcl
        have HB4 := Lib.hid hb4
        have HR4 := Lib.hid (row_len HVL.out hP4)
        obtain ⟨CL, hCL⟩ : ∃ n, n = (chunk l j).length := ⟨_, rfl⟩
        rw [← hCL]
        have HCL := Lib.hid hCL
        have HBS : Hid (w.heap.size ≤ w4.heap.size) := Lib.hid (Nat.le_trans hB.size hb4.size)
        clear hcl hb4 hP4 hCL hrun s1 s2
        go_wp2_with (at_builtin; refine app_one rfl (.tmp 40) (.tmp 60) 34 rfl Try.underlying34 pieceInfo rfl (by decide) (by decide) w.heap.size (.slice PA j PC) j (piecesC st ba q vs) rfl HR4.out #[.int .i64 st, .int .i64 ba, .int .i64 (j : Int), .int .i64 (q : Int), .slice CA CL CC] rfl (by simp) rfl (pieceC_one _ _ _ _ _ _ _) (by omega) HBS.out ?_; intro g c w5 hown hmod hwh hbg; have HO5 := Lib.hid hown; have HM5 := Lib.hid hmod; have HW5 := Lib.hid hwh; clear hown hmod hwh)
        have hB4 := hB.trans (HB4.out.mono hB.size)
        have hB5 := hB4.trans (HM5.out.toBelow HBS.out (fun b hb e => by have := (row_lt HR4.out e).2; omega))
        have hP5 := snocJ HVL.out hP HB4.out HC4.out hB.size HCL.out HO5.out HM5.out HW5.out
        clear hP HB4 HC4 HR4 HO5 HM5 HW5
        go_roundw
        case rel => exact ⟨j + 1, some ⟨g, 0, none⟩, c, vs ++ [.slice CA CL CC], by omega, by go_num, rfl, by rw [List.length_append, ← HVL.out]; rfl, hP5, hB5⟩
        case measure => first | (simp [intOf]; done) | (simp [intOf]; omega)
    · obtain rfl : j = q := by omega
      have HVL := Lib.hid hvl
      clear hvl
      go_wp2
      go_ret2
      exact ⟨PA, PC, vs, by rw [HQ.out]; rfl, by rw [HQ.out]; exact HVL.out.symm, by rw [HQ.out]; exact hP, hB⟩

set_option maxRecDepth 100000 in
set_option maxHeartbeats 4000000 in
theorem cut_zero (st ba : Int) (A : Option Addr) (cap : Nat) (w : World) (h : ¬ CutBad st ba) (hS : Src w (.slice A 0 cap) []) : Calls Try.prog 7 #[.int .i64 st, .int .i64 ba, .slice A 0 cap] w (CutPost st ba [] w) := by
  have HSR : Hid (∀ w', Below w.heap.size w w' → Src w' (.slice A 0 cap) []) := Lib.hid (fun w' k => hS.below k)
  have hp : ¬ st < 1 ∧ ¬ st > 70368744177664 ∧ ¬ ba < 0 ∧ ¬ ba ≥ st := by unfold CutBad at h; omega
  obtain ⟨h1, h2, h3, h4⟩ := hp
  have hPc : ∀ w0, Pcs w0 w.heap.size (.slice none 0 0) st ba (1 : Nat) [] [] := fun w0 => ⟨⟨by simp [piecesC], .inl ⟨rfl, rfl⟩⟩, fun k u hu => by simp at hu⟩
  have HPC := Lib.hid hPc
  have HCH : Hid (∀ j, chunk [] j = []) := Lib.hid (fun j => by simp [chunk])
  clear h hS hPc
  go_enter Try.func7, Try.ntmps7
  go_wp2
  go_loopw [9, 37] (fun v i wr => ∃ (j : Nat) (PA : Option Addr) (PC : Nat) (vs : List Value), j ≤ 1 ∧ i = .int .i64 j ∧ v = .slice PA j PC ∧ j = vs.length ∧ Pcs wr w.heap.size (.slice PA j PC) st ba (1 : Nat) [] vs ∧ Below w.heap.size w wr) (fun _ i _ => 1 - (intOf i).toNat)
  case atStart => exact ⟨0, none, 0, [], by omega, rfl, rfl, rfl, HPC.out _, Below.refl _ _⟩
  case round =>
    obtain ⟨j, PA, PC, vs, hj, rfl, rfl, hvl, hP, hB⟩ := hrel
    have HVL := Lib.hid hvl
    clear hvl
    by_cases hlt : j < 1
    · obtain rfl : j = 0 := by omega
      go_wp2_with fail
      refine (clone_c _ [] _ (HSR.out _ hB) (by simp)).mono ?_
      rintro e w4 ⟨CA, CC, rfl, hcl, hb4⟩
      have hP4 := hP.below hb4
      have hcl' : w4.ownsRow wr.heap.size 5 1 (.slice CA (chunk [] 0).length CC) (chunk [] 0).length (u8s (chunk [] 0)) := by rw [HCH.out]; exact hcl
      have HC4 := Lib.hid hcl'
      have HB4 := Lib.hid hb4
      have HR4 := Lib.hid (row_len HVL.out hP4)
      have HCL : Hid (0 = (chunk [] 0).length) := Lib.hid (by rw [HCH.out]; rfl)
      have HBS : Hid (w.heap.size ≤ w4.heap.size) := Lib.hid (Nat.le_trans hB.size hb4.size)
      clear hcl hcl' hb4 hP4
      go_wp2_with (at_builtin; refine app_one rfl (.tmp 40) (.tmp 60) 34 rfl Try.underlying34 pieceInfo rfl (by decide) (by decide) w.heap.size (.slice PA 0 PC) 0 (piecesC st ba (1 : Nat) vs) rfl HR4.out #[.int .i64 st, .int .i64 ba, .int .i64 0, .int .i64 1, .slice CA 0 CC] rfl (by simp) rfl (pieceC_one _ _ _ _ _ _ _) (by omega) HBS.out ?_; intro g c w5 hown hmod hwh hbg; have HO5 := Lib.hid hown; have HM5 := Lib.hid hmod; have HW5 := Lib.hid hwh; clear hown hmod hwh)
      have hB4 := hB.trans (HB4.out.mono hB.size)
      have hB5 := hB4.trans (HM5.out.toBelow HBS.out (fun b hb e => by have := (row_lt HR4.out e).2; omega))
      have hP5 := snocJ HVL.out hP HB4.out HC4.out hB.size HCL.out HO5.out HM5.out HW5.out
      clear hP HB4 HC4 HR4 HO5 HM5 HW5
      go_roundw
      case rel => exact ⟨0 + 1, some ⟨g, 0, none⟩, c, vs ++ [.slice CA 0 CC], by omega, by go_num, rfl, by rw [List.length_append, ← HVL.out]; rfl, hP5, hB5⟩
      case measure => first | (simp [intOf]; done) | (simp [intOf]; omega)
    · obtain rfl : j = 1 := by omega
      go_wp2
      go_ret2
      exact ⟨PA, PC, vs, rfl, HVL.out.symm, hP, hB⟩
theorem cut_c (st ba : Int) (A : Option Addr) (N cap : Nat) (l : List Nat) (w : World) (h : ¬ CutBad st ba) (hS : Src w (.slice A N cap) l) (hcap : N ≤ cap) (hm : N ≤ 4000) : Calls Try.prog 7 #[.int .i64 st, .int .i64 ba, .slice A N cap] w (CutPost st ba l w) := by
  have hN := src_cap hS
  by_cases h0 : 0 < N
  · exact cut_ok st ba A N cap l w h hS hcap hm h0
  · obtain rfl : N = 0 := by omega
    obtain rfl : l = [] := by simpa using hN.symm
    exact cut_zero st ba A cap w h hS

end Go.Proofs.Ytnkinnfpebploaa
