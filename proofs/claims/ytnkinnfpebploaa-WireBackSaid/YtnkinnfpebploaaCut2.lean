/- The contract of gyreref.Cuts. Conditions: none. -/
import Derived.Test.YtnkinnfpebploaaCut1
namespace Go.Proofs.Ytnkinnfpebploaa
open Go.ChangeShapes Go.WideShapes Go.ChangeAt Go.RowKit Go.BigFrame
open B
theorem src_slice_l {w : World} {A : Option Addr} {N cap : Nat} {l : List Nat} (h : Src w (.slice A N cap) l) (hN : N = l.length) (hcap : N ≤ cap) (i : Nat) (x : Int) (hx : x = i) (hi : i ≤ N) :
    ∃ A' c', Src w (.slice A' (N - i) c') (l.drop i) ∧ N - i ≤ c' ∧ ∀ w', (Instr.slice 26 (.slice A N cap) (some (.int .i64 x)) none none).run Try.prog w' = .ok (.slice A' (N - i) c') w' := by
  subst hx
  have hu : Try.prog.underlying 26 = some (.slice (Try.prog.elem 26)) := by kernel_rfl
  have hsz : ∀ w', (sizeOf (Try.prog.elem 26)).run Try.prog w' = .ok 1 w' := fun w' => by kernel_rfl
  obtain ⟨A', c', h1, h2, h3⟩ := src_slice h hN hcap i N i N rfl rfl hi (Nat.le_refl _)
  rw [List.take_of_length_le (by simp; omega)] at h1
  refine ⟨A', c', h1, h2, fun w' => ?_⟩
  rw [← h3 w', run_slice_lh w' 26 A N cap hu .i64 .i64 (i : Int) (N : Int) (by omega) (by omega) (by omega), run_slice_l w' 26 A N cap hu .i64 (i : Int) (by omega) (by omega)]
  simp
/-- pieces, each with a number of its own -/
def piecesF (st ba : Int) (ma : Nat → Int) (vs : List Value) : List Value := (vs.zipIdx).flatMap fun p => pieceC st ba p.2 (ma p.2) p.1
theorem piecesF_snoc (st ba : Int) (ma : Nat → Int) (vs : List Value) (v : Value) : piecesF st ba ma (vs ++ [v]) = piecesF st ba ma vs ++ pieceC st ba vs.length (ma vs.length) v := by
  unfold piecesF
  rw [List.zipIdx_append, List.flatMap_append]
  simp
theorem piecesF_length (st ba : Int) (ma : Nat → Int) (vs : List Value) : (piecesF st ba ma vs).length = vs.length * 5 := by
  have : ∀ (n : Nat) (vs : List Value), vs.length = n → (piecesF st ba ma vs).length = n * 5 := by
    intro n
    induction n with
    | zero => intro vs h; have : vs = [] := by simpa using h
              subst this; rfl
    | succ n ih =>
      intro vs h
      obtain ⟨us, u, rfl⟩ : ∃ us u, vs = us ++ [u] := ⟨vs.dropLast, vs.getLast (by intro e; subst e; simp at h), (List.dropLast_concat_getLast _).symm⟩
      rw [piecesF_snoc, List.length_append, ih us (by simpa using h)]
      simp [pieceC]
      omega
  exact this _ _ rfl
theorem piecesF_get (st ba : Int) (ma : Nat → Int) (vs : List Value) (k : Nat) (v : Value) (h : vs[k]? = some v) (j : Nat) (hj : j < 5) : (piecesF st ba ma vs)[k * 5 + j]? = (pieceC st ba k (ma k) v)[j]? := by
  have hk : k < vs.length := (List.getElem?_eq_some_iff.1 h).1
  have e1 : vs = (vs.take k ++ [v]) ++ vs.drop (k + 1) := by
    have : vs.take (k + 1) = vs.take k ++ [v] := by rw [List.take_add_one, h]; rfl
    rw [← this, List.take_append_drop]
  have e2 : ∀ us ws : List Value, ∃ rest, piecesF st ba ma (us ++ ws) = piecesF st ba ma us ++ rest := by
    intro us ws
    refine ⟨(ws.zipIdx us.length).flatMap fun p => pieceC st ba p.2 (ma p.2) p.1, ?_⟩
    unfold piecesF
    rw [List.zipIdx_append, List.flatMap_append]
    simp
  obtain ⟨rest, hr⟩ := e2 (vs.take k ++ [v]) (vs.drop (k + 1))
  rw [e1, hr, piecesF_snoc]
  have hl : (piecesF st ba ma (vs.take k)).length = k * 5 := by rw [piecesF_length]; simp; omega
  have hkk : (vs.take k).length = k := by simp; omega
  rw [hkk, List.append_assoc, List.getElem?_append_right (by omega), hl, List.getElem?_append_left (by simp [pieceC]; omega)]
  congr 1
  omega
theorem piecesF_set (st ba : Int) (ma : Nat → Int) (vs : List Value) (i : Nat) (x : Int) (_hi : i < vs.length) : (piecesF st ba ma vs).set (i * 5 + 3) (.int .i64 x) = piecesF st ba (fun k => if k = i then x else ma k) vs := by
  apply List.ext_getElem?
  intro q
  by_cases hq : q < vs.length * 5
  · have hk : q / 5 < vs.length := by omega
    have hv : vs[q / 5]? = some (vs[q / 5]'hk) := List.getElem?_eq_getElem hk
    have hqq : q = q / 5 * 5 + q % 5 := by omega
    have h1 := piecesF_get st ba ma vs (q / 5) _ hv (q % 5) (by omega)
    have h2 := piecesF_get st ba (fun k => if k = i then x else ma k) vs (q / 5) _ hv (q % 5) (by omega)
    rw [← hqq] at h1 h2
    rw [h2]
    by_cases e : i * 5 + 3 = q
    · subst e
      rw [List.getElem?_set_self (by rw [piecesF_length]; omega)]
      have e1 : (i * 5 + 3) / 5 = i := by omega
      have e2 : (i * 5 + 3) % 5 = 3 := by omega
      simp [pieceC, e1, e2]
    · rw [List.getElem?_set_ne e, h1]
      by_cases e1 : q / 5 = i
      · have e3 : q % 5 ≠ 3 := by omega
        have : q % 5 < 5 := by omega
        have : q % 5 = 0 ∨ q % 5 = 1 ∨ q % 5 = 2 ∨ q % 5 = 4 := by omega
        rcases this with h | h | h | h <;> simp [pieceC, h]
      · simp only [if_neg e1]
  · rw [List.getElem?_eq_none (by rw [List.length_set, piecesF_length]; omega), List.getElem?_eq_none (by rw [piecesF_length]; omega)]
theorem piecesF_congr (st ba : Int) (ma mb : Nat → Int) (vs : List Value) (h : ∀ k, k < vs.length → ma k = mb k) : piecesF st ba ma vs = piecesF st ba mb vs := by
  unfold piecesF
  have : ∀ p ∈ vs.zipIdx, pieceC st ba p.2 (ma p.2) p.1 = pieceC st ba p.2 (mb p.2) p.1 := by
    intro p hp
    have := List.mem_zipIdx hp
    rw [h p.2 (by omega)]
  simp only [List.flatMap_def]
  rw [List.map_congr_left this]
/-- each part's bytes, in whatever comes -/
def Parts (w : World) (l : List Nat) (vs : List Value) : Prop := ∀ k u, vs[k]? = some u → (∃ A c, u = .slice A (chunk l k).length c) ∧ ∀ w', Below w.heap.size w w' → Src w' u (chunk l k)
end Go.Proofs.Ytnkinnfpebploaa
