/- Rows of numbers: a part of a slice; append of a slice to a row of the call's own. Conditions: none but that there are not too many. -/
import Derived.Test.YtnkinnfpebploaaDoorApp
import Derived.Test.YtnkinnfpebploaaDoorOwnTab
import Derived.Laws.Slices
import Derived.Laws.AppendOwnNone
namespace Go.Proofs.YtnkinnfpebploaaDoor
open Go Go.RowKit Go.WideShapes
section
variable {P : Program} {w : World} {A : Option Addr} {n cap c : Nat} {M : Nat → Nat → Int}
/-- the rows from i on -/
theorem rows_from {t e : TypeId} (ht : P.underlying t = some (.slice (P.elem t))) (hsz : ∀ w, (sizeOf (P.elem t)).run P w = .ok c w) (h : Reads w A n c M) (hA : A = none → n = 0 ∧ cap = 0) (hcap : n ≤ cap) (i : Nat) (hi : i ≤ n) (_he : e = e) :
    ∃ A', Reads w A' (n - i) c (fun k j => M (i + k) j) ∧ (A' = none → n - i = 0 ∧ cap - i = 0) ∧ ∀ w', (Instr.slice t (.slice A n cap) (some (.int .i64 (i : Int))) none none).run P w' = .ok (.slice A' (n - i) (cap - i)) w' := by
  refine ⟨if cap = i then A else A.map (·.add (i * c)), fun hn => ?_, fun hA' => ?_, fun w' => ?_⟩
  · obtain ⟨b, o, rfl, hb, hc⟩ := h (by omega)
    rw [if_neg (by omega)]
    refine ⟨b, o + i * c, ?_, hb, fun k hk j hj => ?_⟩
    · simp only [Option.map_some, Option.some.injEq]
      unfold Addr.add
      split
      · simp
      · rfl
    · have := hc (i + k) (by omega) j hj
      rw [Nat.add_mul, Nat.add_assoc, ← Nat.add_assoc o] at this
      exact this
  · split at hA'
    · have := hA hA'; omega
    · cases A with
      | none => have := hA rfl; omega
      | some ad => cases hA'
  · rw [run_slice_l w' t A n cap ht .i64 (i : Int) (by omega) (by omega), hsz]
    simp [Result.andThen, sliced]
/-- the first i rows -/
theorem rows_till {t : TypeId} (ht : P.underlying t = some (.slice (P.elem t))) (hsz : ∀ w, (sizeOf (P.elem t)).run P w = .ok c w) (h : Reads w A n c M) (hA : A = none → n = 0 ∧ cap = 0) (hcap : n ≤ cap) (i : Nat) (hi : i ≤ n) :
    Reads w A i c M ∧ (A = none → i = 0 ∧ cap = 0) ∧ ∀ w', (Instr.slice t (.slice A n cap) none (some (.int .i64 (i : Int))) none).run P w' = .ok (.slice A i cap) w' := by
  refine ⟨fun hn => ?_, fun hA' => ?_, fun w' => ?_⟩
  · obtain ⟨b, o, rfl, hb, hc⟩ := h (by omega)
    exact ⟨b, o, rfl, hb, fun k hk j hj => hc k (by omega) j hj⟩
  · have := hA hA'; omega
  · rw [run_slice_h w' t A n cap ht .i64 (i : Int) (by omega) (by omega), hsz]
    have e : (if cap = 0 then A else A.map fun x => x.add 0) = A := by
      split
      · rfl
      · cases A with
        | none => rfl
        | some ad => simp [Addr.add]
    simp [Result.andThen, sliced, e]
end
section
variable {P : Program} {ops : Array Oper} {rest : List Oper} {o : Oper} {a : Act} {Q : Exit → Act → World → Prop} {w : World}
/-- append(s, x...): the row s has x's rows, too -/
theorem app_rows (hg : o.guard = none) (s x : Operand) (t : TypeId) (ho : o.op = .call { callee := .builtin .append, args := #[s, x], argTypes := #[t, t] }) {e : TypeId} (ht : P.underlying t = some (.slice e))
    {z : Value} {size bytes : Nat} (hinfo : (P.info? e).map (fun i => (i.zero, i.size, i.bytes)) = some (some z, size, bytes)) (hzs : z.cells.size = size) (hsz : 0 < size) (hby : bytes ≤ 1000000)
    (base : Nat) (v : Value) (n : Nat) (xs : List Value) (hs : a.eval s = v) (hown : w.ownsRow base e size v n xs) {A : Option Addr} {m cap : Nat} {M : Nat → Nat → Int} (hx : a.eval x = .slice A m cap) (hR : Reads w A m size M) (hA : A = none → m = 0 ∧ cap = 0)
    (hn : n + m < 1000000) (hbase : base ≤ w.heap.size)
    (h : ∀ v' w', w'.ownsRow base e size v' (n + m) (xs ++ rowsL M size m) → Mod (fun b => v.ownBlock = some b) w w' → (v'.ownBlock = v.ownBlock ∨ v'.ownBlock = some w.heap.size) → wpList P ops Q rest (a.put o.dst v') w') : wpList P ops Q (o :: rest) a w := by
  obtain ⟨i, hi, hz, hsize, hbytes⟩ := info_three hinfo
  cases A with
  | none =>
    obtain ⟨rfl, rfl⟩ := hA rfl
    refine wpList_append_own_none hg s x t ho base e i size ht hi v n xs hs hown hx ?_
    exact h v w (by simpa [rowsL] using hown) (Mod.refl _ _) (.inl rfl)
  | some ad =>
    refine wpList_append_own_at (P := P) (w := w) hg s x t ho base e i z size bytes ht hi hz hsize hbytes hzs hsz v n xs hs hown ad m cap (rowsL M size m) hx (by rw [rowsL_length]) ?_ (rowsL_one _ _ _) (by unfold maxLen; omega) ?_ hbase ?_
    · intro j u hu
      have hn0 : 0 < m := by
        have := (List.getElem?_eq_some_iff.1 hu).1
        rw [rowsL_length] at this
        rcases Nat.eq_zero_or_pos m with h0 | h0
        · subst h0; simp at this
        · exact h0
      obtain ⟨b, ao, e', hb, hc⟩ := hR hn0
      cases e'
      exact rowsL_cells hsz hc j u hu
    · exact Nat.le_trans (Nat.mul_le_mul (by omega) hby) (show 1000000 * 1000000 ≤ 140737488355328 by decide)
    · intro v' w' hrow hgr _ hwh
      exact h v' w' hrow ((mod_grown hgr).mono fun _ _ h => h) hwh
end
end Go.Proofs.YtnkinnfpebploaaDoor
