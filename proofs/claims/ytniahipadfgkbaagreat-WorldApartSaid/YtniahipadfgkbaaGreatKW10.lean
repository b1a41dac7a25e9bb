/- Laws for WorldApart: appending bodies, bodies that are the same. Conditions: none. -/
import Derived.Test.YtniahipadfgkbaaGreatKV4
import Derived.Test.YtniahipadfgkbaaGreatKWa
import Derived.Laws.OwnMore
namespace Go.Proofs.YtniahipadfgkbaaGreat
open Go Go.Maps Go.RowKit Go.BigFrame Go.ChangeShapes Go.WideShapes Go.ChangeAt
/-- n rows, and others behind them -/
def joinR (M : Nat → Nat → Int) (n : Nat) (X : Nat → Nat → Int) : Nat → Nat → Int := fun a j => if a < n then M a j else X (a - n) j
theorem rowsL_join (M X : Nat → Nat → Int) (n : Nat) : ∀ m, rowsL (joinR M n X) 17 (n + m) = rowsL M 17 n ++ rowsL X 17 m
  | 0 => by
    rw [Nat.add_zero, rowsL_congr (M := joinR M n X) (M' := M) (by decide) fun k hk j _ => if_pos hk]
    simp [rowsL]
  | m + 1 => by
    rw [← Nat.add_assoc, rowsL_succ _ (by decide), rowsL_join M X n m, rowsL_succ _ (by decide), List.append_assoc]
    congr 1
    congr 1
    refine List.map_congr_left fun j _ => ?_
    have : joinR M n X (n + m) j = X m j := by
      unfold joinR
      rw [if_neg (by omega), Nat.add_sub_cancel_left]
    rw [this]
/-- append(s, x...) of bodies -/
theorem step_rows {ops : Array Oper} {o : Oper} {a : Act} {w : World} {K : Act → World → Prop} {Q : Exit → Act → World → Prop} {E : Prop} (hg : o.guard = none) (s y : Operand) (ho : o.op = .call { callee := .builtin .append, args := #[s, y], argTypes := #[22, 22] })
    (A : Option Addr) (n cap : Nat) (M : Nat → Nat → Int) (hs : a.eval s = .slice A n cap) (hown : RowQ 0 w A n cap M) (B : Option Addr) (m capm : Nat) (X : Nat → Nat → Int) (hy : a.eval y = .slice B m capm) (hR : Reads w B m 17 X) (hB : B = none → m = 0 ∧ capm = 0) (hn : n + m < 1000000)
    (hK : ∀ A' cap' w', RowQ 0 w' A' (n + m) cap' (joinR M n X) → Mod (fun z => (Value.slice A n cap).ownBlock = some z) w w' → (∀ g, A' = some ⟨g, 0, none⟩ → (Value.slice A n cap).ownBlock = some g ∨ w.heap.size ≤ g) → K (a.put o.dst (.slice A' (n + m) cap')) w') :
    if Region.wanted o (yielded ops a.tmps) = true then Oper.wp Tryz.prog o a w K Q else E := by
  have hw : Region.wanted o (yielded ops a.tmps) = true := by simp [Region.wanted, hg]
  rw [if_pos hw]
  obtain ⟨i, hi, hz, hsize, hbytes⟩ := info_three bodyInfo2
  cases B with
  | none =>
    obtain ⟨rfl, rfl⟩ := hB rfl
    have hrun := run_append_owned_none (P := Tryz.prog) (w := w) 0 22 o.type 37 i 17 Tryz.underlying22 hi (.slice A n cap) n (rowsL M 17 n) hown
    unfold Oper.wp execOp
    simp only [ho, resolve, invoke, builtin, Sem.run_bind, Sem.run_pure, Result.andThen_ok, List.map_toArray, List.map_cons, List.map_nil, hs, hy, hrun]
    refine hK A cap w ?_ (Mod.refl _ _) (fun g e => .inl (by rw [e]; rfl))
    exact RowQ.eq hown fun k hk j _ => (if_pos hk).symm
  | some ad =>
    obtain ⟨v', w', hr, h2, h3, h4, h5⟩ := run_append_own_at (P := Tryz.prog) w 0 22 o.type 37 i _ 17 136 Tryz.underlying22 hi hz hsize hbytes rfl (by decide) (.slice A n cap) n (rowsL M 17 n) hown ad m capm (rowsL X 17 m) (rowsL_length X 17 m) (fun j u hu => by
      have hn0 : 0 < m := by
        have := (List.getElem?_eq_some_iff.1 hu).1
        rw [rowsL_length] at this
        omega
      obtain ⟨b, ao, e, hb, hc⟩ := hR hn0
      cases e
      exact rowsL_cells (by decide) hc j u hu) (rowsL_one X 17 m) (by unfold maxLen; omega) (by omega) (Nat.zero_le _)
    rw [← rowsL_join] at h2
    obtain ⟨A', cap', rfl, _⟩ := row_any h2
    unfold Oper.wp execOp
    simp only [ho, resolve, invoke, builtin, Sem.run_bind, Sem.run_pure, Result.andThen_ok, List.map_toArray, List.map_cons, List.map_nil, hs, hy, hr]
    refine hK A' cap' w' h2 ((mod_grown h3).mono fun _ _ h => h) fun g e => ?_
    subst e
    rcases h5 with h5 | h5
    · exact .inl h5.symm
    · right
      have : g = w.heap.size := by simpa [Value.ownBlock] using h5
      omega
/-- a body loaded in a region that only reads -/
theorem qload_mid {P : Program} {C : World → Prop} {o : Oper} {a : Act} {k : Act → Prop} (ty : TypeId) (x : Operand) (hop : o.op = .load ty x) (b off : Nat) (hx : a.eval x = .pointer (some ⟨b, off, none⟩)) (cs : List Value) (d : TypeDesc) (hr : ∀ w, C w → w.rangeAt b off cs) (hu : P.underlying ty = some d) (hd : d.isRow = true) (hi : (P.info? ty).map (·.size) = some cs.length)
    (h : k (a.put o.dst (.agg cs.toArray))) : o.quiet P a C k :=
  ⟨_, fun w hw => by
    unfold Oper.quietAt
    simp only [execOp, hop, hx, Instr.loadAt, Instr.sureAddr, Sem.run_bind, Sem.run_pure, Result.andThen_ok, run_loadVar_mid w b off ty cs d (hr w hw) hu hd hi]
    exact ⟨rfl, rfl⟩, h⟩
theorem run_neq_body (N : Nat → Nat → Int) (k : Nat) (w : World) : (binOp .neq 37 (.agg (rowL17 N k).toArray) (.agg (rowL17 N k).toArray)).run Tryz.prog w = .ok (.bool false) w := by
  have h : (Op.equalIn 10000 37 (.agg #[.int .i64 (N k 0), .int .i64 (N k 1), .int .i64 (N k 2), .int .i64 (N k 3), .int .i64 (N k 4), .int .i64 (N k 5), .int .i64 (N k 6), .int .i64 (N k 7), .int .i64 (N k 8), .int .i64 (N k 9), .int .i64 (N k 10), .int .i64 (N k 11), .int .i64 (N k 12), .int .i64 (N k 13), .int .i64 (N k 14), .int .i64 (N k 15), .int .i64 (N k 16)]) (.agg #[.int .i64 (N k 0), .int .i64 (N k 1), .int .i64 (N k 2), .int .i64 (N k 3), .int .i64 (N k 4), .int .i64 (N k 5), .int .i64 (N k 6), .int .i64 (N k 7), .int .i64 (N k 8), .int .i64 (N k 9), .int .i64 (N k 10), .int .i64 (N k 11), .int .i64 (N k 12), .int .i64 (N k 13), .int .i64 (N k 14), .int .i64 (N k 15), .int .i64 (N k 16)])).run Tryz.prog w = .ok true w := by
    rw [run_equalIn_struct w 9999 _ _ _ (by kernel_rfl) (by kernel_rfl)]
    simp only [Program.fieldsOf, Tryz.underlying37]
    simp only [Op.eqFields]
    simp [go_sem, Tryz.underlying3]
  rw [run_neq_struct]
  rw [show (Op.equalIn 10000 37 (.agg (rowL17 N k).toArray) (.agg (rowL17 N k).toArray)).run Tryz.prog w = .ok true w from h]
  rfl
theorem range_row {w : World} {base n cap g : Nat} {M : Nat → Nat → Int} (h : RowQ base w (some ⟨g, 0, none⟩) n cap M) {i : Nat} (hi : i < n) : w.rangeAt g (i * 17) (rowL17 M i) := by
  obtain ⟨g', e, _, hT⟩ := h.own (by omega)
  cases e
  have h := reads_range (oo := 0) (Below.refl w.heap.size w) hT.lt (fun k hk q hq => by rw [Nat.zero_add]; exact hT.cell hk hq) hi
  rwa [Nat.zero_add] at h
theorem row17_agr {X Y : Nat → Nat → Int} {n1 i : Nat} (h : Agr n1 X Y) (hi : i < n1) : rowL17 Y i = rowL17 X i := List.map_congr_left fun j _ => by rw [h i hi j]
/-- an empty row of its own -/
theorem row_empty (w : World) (M : Nat → Nat → Int) : RowQ 0 (w.alloc (.cells #[] 37)) (some ⟨w.heap.size, 0, none⟩) 0 0 M := row_mono (own_empty (w := w) 37 17) (Nat.zero_le _)
theorem fill_agr (Z L R : Nat → Nat → Int) (m1 m2 : Nat) : Agr m1 (fillM L m1) (fillM (joinR (joinR Z 0 L) m1 R) (m1 + m2)) := fun a ha q => by
  unfold fillM
  rw [if_pos ha, if_pos (show a < m1 + m2 by omega)]
  by_cases hq : q = 0
  · rw [if_pos hq, if_pos hq]
  · rw [if_neg hq, if_neg hq]
    unfold joinR
    rw [if_pos ha, if_neg (Nat.not_lt_zero a), Nat.sub_zero]
theorem join_ok {Z L R : Nat → Nat → Int} {m1 m2 : Nat} (h1 : ∀ a, a < m1 → BodyOk (L a)) (h2 : ∀ a, a < m2 → BodyOk (R a)) : ∀ a, a < m1 + m2 → BodyOk (joinR (joinR Z 0 L) m1 R a) := fun a ha => by
  by_cases h : a < m1
  · have e : joinR (joinR Z 0 L) m1 R a = L a := funext fun q => by
      unfold joinR
      rw [if_pos h, if_neg (Nat.not_lt_zero a), Nat.sub_zero]
    rw [e]
    exact h1 a h
  · have e : joinR (joinR Z 0 L) m1 R a = R (a - m1) := funext fun q => if_neg h
    rw [e]
    exact h2 _ (by omega)
/-- both worlds between two steps -/
def ApartI (w4 wr : World) (bx by_ : Nat) (c : Cf) (m1 n j : Nat) : Prop := Below w4.heap.size w4 wr ∧ ∃ X Y px Sx py Sy, WM wr bx c m1 X ((m1 : Int) + 1) (j : Int) px Sx ∧ WM wr by_ c n Y ((n : Int) + 1) (j : Int) py Sy ∧ (∀ x, Sx x → ¬ Sy x) ∧ (∀ x, Sx x → w4.heap.size ≤ x) ∧ (∀ x, Sy x → w4.heap.size ≤ x) ∧ px ≤ 60 + 60 * j ∧ py ≤ 60 + 60 * j ∧ Agr m1 X Y ∧ ∀ a, a < n → Y a 0 = (a : Int) + 1
theorem WM.lt {w : World} {b n p : Nat} {c : Cf} {M : Nat → Nat → Int} {nx st : Int} {S : Nat → Prop} (h : WM w b c n M nx st p S) : ∀ x, S x → x < w.heap.size := by
  obtain ⟨_, _, _, _, _, h⟩ := h
  exact h.lt
theorem WM.rise {w : World} {b n p : Nat} {c : Cf} {M : Nat → Nat → Int} {nx st : Int} {S : Nat → Prop} (h : WM w b c n M nx st p S) : Rise M n := by
  obtain ⟨_, _, _, _, _, h⟩ := h
  exact h.rise
theorem WM.few {w : World} {b n p : Nat} {c : Cf} {M : Nat → Nat → Int} {nx st : Int} {S : Nat → Prop} (h : WM w b c n M nx st p S) : n ≤ 60 := by
  obtain ⟨_, _, _, _, _, h⟩ := h
  exact h.few
theorem touchesWM_c (w : World) (b : Nat) (c : Cf) (n : Nat) (M : Nat → Nat → Int) (nx st : Int) (p : Nat) (S : Nat → Prop) (hW : WM w b c n M nx st p S) (hp : p < 300000) :
    Calls Tryz.prog 14 #[.pointer (some ⟨b, 0, none⟩)] w fun e w' => ∃ A cap, e = .returned (.slice A (touchL M n).length cap) ∧ Below w.heap.size w w' ∧ w'.ownsRow w.heap.size 44 6 (.slice A (touchL M n).length cap) (touchL M n).length (rowsL (touchS M n) 6 (touchL M n).length) := by
  obtain ⟨A, cap, t, D, R, h⟩ := hW
  refine (touchesW_c w b c A cap t n M nx st p D R S h hp).mono ?_
  rintro e w' ⟨v, rfl, hb, hr⟩
  obtain ⟨A', C', rfl, _⟩ := row_any hr
  exact ⟨A', C', rfl, hb, hr⟩
end Go.Proofs.YtniahipadfgkbaaGreat
