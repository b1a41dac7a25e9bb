/- Arguments that are slices of structs of numbers alone, or of bytes, opened. Conditions: none. -/
import Derived.Test.YtniahipadfgkbaaGreatKLift
import Derived.Test.YtniahipadfgkbaaGreatKA
import Derived.Deep.Slices
import Derived.ChangeArms
namespace Go.Proofs.YtniahipadfgkbaaGreat
open Go.ChangeShapes Go.WideShapes Go.ChangeAt Go.RowKit Go.Deep
section
variable {H : Type} {enc : TypeId × Value → H} {P : Program} {w : World} {base : Nat} {spare : Nat → Bool} {held : Bool}
/-- a type that is a number, or a struct of such types -/
def numsB (P : Program) : Nat → TypeId → Bool
  | 0, _ => false
  | k + 1, t => match P.underlying t with
    | some (.int .i64) => P.cellsOf t == 1
    | some (.struct fs) => (List.range (P.cellsOf t)).all fun i => fs.toList.any fun f => decide (f.offset ≤ i) && (decide (i < f.offset + P.cellsOf f.type) && numsB P k f.type)
    | _ => false
def isNum (c : Option Value) : Prop := ∃ n : Int, c = some (.int .i64 n) ∧ -9223372036854775808 ≤ n ∧ n ≤ 9223372036854775807
theorem num_wf {n : Int} (h : (Lit.int .i64 n).wf = true) : -9223372036854775808 ≤ n ∧ n ≤ 9223372036854775807 := by
  simp [Lit.wf, IntKind.min, IntKind.max, IntKind.signed, IntKind.bits] at h
  exact h
theorem nums_cells : ∀ (k : Nat) (t : TypeId) (fuel : Nat) (cs : List Value) (x : DataW H × List MemPlace), numsB P k t = true → DataW.trod enc P w base spare held fuel t cs = some x → ∀ i, i < P.cellsOf t → isNum cs[i]? := by
  intro k
  induction k with
  | zero => intro t fuel cs x h; simp [numsB] at h
  | succ k ih =>
    intro t fuel cs x h ht i hi
    unfold numsB at h
    split at h
    · rename_i hu
      obtain ⟨n, rfl, _, hw⟩ := DataW.trod_int hu ht
      have h1 : P.cellsOf t = 1 := by simpa using h
      obtain rfl : i = 0 := by omega
      exact ⟨n, rfl, num_wf hw⟩
    · rename_i fs hu
      obtain ⟨xs, n, _, _, hcl, hxl, hf⟩ := DataW.trod_struct hu ht
      rw [List.all_eq_true] at h
      have h2 := h i (List.mem_range.2 hi)
      rw [List.any_eq_true] at h2
      obtain ⟨f, hmem, hcond⟩ := h2
      simp only [Bool.and_eq_true, decide_eq_true_eq] at hcond
      obtain ⟨h3, h4, h5⟩ := hcond
      obtain ⟨j, hj, hfj⟩ := List.mem_iff_getElem.1 hmem
      have hj2 : fs[j]? = some f := by rw [← hfj]; simp at hj ⊢
      have h6 := hf j f hj2
      have hjx : j < xs.length := by rw [hxl]; exact (Array.getElem?_eq_some_iff.1 hj2).1
      rw [List.getElem?_eq_getElem hjx] at h6
      have h7 := ih f.type n _ _ h5 h6 (i - f.offset) (by omega)
      rw [List.getElem?_take, if_pos (by omega), List.getElem?_drop, show f.offset + (i - f.offset) = i by omega] at h7
      exact h7
    · cases h
theorem trodAll_at : ∀ (ts : List TypeId) (vs : List Value) (ds : List (DataW H)) (ps : List MemPlace), DataW.TrodAll enc P w base spare held ts vs ds ps → ∀ (j : Nat) (t : TypeId) (v : Value), ts[j]? = some t → vs[j]? = some v →
    ∃ d p, DataW.Trod enc P w base spare held t v d p := by
  intro ts
  induction ts with
  | nil => intro vs ds ps h j t v ht; simp at ht
  | cons t0 ts ih =>
    intro vs ds ps h j t v ht hv
    obtain ⟨v0, vs', d, ds', p, q, rfl, rfl, rfl, h1, h2⟩ := trodAll_cons h
    cases j with
    | zero =>
      simp at ht hv
      subst ht hv
      exact ⟨d, p, h1⟩
    | succ j => exact ih _ _ _ h2 j t v (by simpa using ht) (by simpa using hv)
theorem spot_none {a : Addr} {v : Value} (h : w.cell? a = some v) : a = ⟨a.block, a.off, none⟩ := by
  obtain ⟨b, o, s⟩ := a
  unfold World.cell? at h
  simp only at h
  split at h
  · cases s with
    | none => rfl
    | some s => simp at h
  · cases h
theorem lt_of_cell {a : Addr} {v : Value} (h : w.cell? a = some v) : a.block < w.heap.size := by
  rcases Nat.lt_or_ge a.block w.heap.size with hl | hl
  · exact hl
  · unfold World.cell? at h
    rw [Array.getElem?_eq_none hl] at h
    cases h
theorem add_plain (b o n : Nat) : (⟨b, o, none⟩ : Addr).add n = ⟨b, o + n, none⟩ := by
  unfold Addr.add
  split
  · rename_i h; subst h; rfl
  · rfl
theorem slice_of_okv {r : Reach} {b : Nat} {t e : TypeId} {v : Value} (ht : P.underlying t = some (.slice e)) (h : Value.okWide P w r b t v) : ∃ A n cap, v = .slice A n cap := by
  unfold Value.okWide at h
  rw [ht] at h
  unfold Cell.okWide at h
  rw [ht] at h
  cases v <;> simp [Cell.ok, ht] at h
  exact ⟨_, _, _, rfl⟩
/-- a slice of structs of numbers -/
theorem open_rows {t e : TypeId} {v : Value} {d : DataW H} {p : List MemPlace} (k c : Nat) (ht : P.underlying t = some (.slice e)) (hn : numsB P k e = true) (hc : P.cellsOf e = c) (hc0 : 0 < c) (hv : ∃ A n cap, v = .slice A n cap) (h : DataW.Trod enc P w base spare held t v d p) :
    ∃ (A : Option Addr) (n cap : Nat) (M : Nat → Nat → Int), v = .slice A n cap ∧ n ≤ maxLen ∧ Reads w A n c M ∧ ∀ i j, -9223372036854775808 ≤ M i j ∧ M i j ≤ 9223372036854775807 := by
  obtain ⟨fuel, hf⟩ := h
  obtain ⟨A0, n0, c0, rfl⟩ := hv
  rcases open_slice ht hf with ⟨h0, _⟩ | ⟨a, len, cap, m, n, D, Pl, hcs, _, hl, hm, hmm, _, hi⟩
  · simp [Value.cells] at h0
    obtain ⟨rfl, rfl, rfl⟩ := h0
    exact ⟨none, 0, 0, fun _ _ => 0, rfl, by unfold maxLen; omega, fun h => absurd h (by omega), fun _ _ => by dsimp only; omega⟩
  · simp [Value.cells] at hcs
    obtain ⟨e1, e2, e3⟩ := hcs
    subst e1 e2 e3
    have key : ∀ i j, i < n0 → j < c → isNum (w.cell? (a.add (i * c + j))) := by
      intro i j hil hjc
      have him : i < m := by rw [hmm]; split <;> omega
      obtain ⟨cs', hcs', htr⟩ := hi i him
      obtain ⟨_, hcl, hat⟩ := World.cells?_some hcs'
      have h1 := nums_cells k e n cs' _ hn htr j (by omega)
      rw [hc] at hat
      have h2 := hat j hjc
      rw [← h2, Go.Deep.add_add] at h1
      exact h1
    rcases Nat.eq_zero_or_pos n0 with h0 | h0
    · subst h0
      exact ⟨_, 0, c0, fun _ _ => 0, rfl, by omega, fun h => absurd h (by omega), fun _ _ => by dsimp only; omega⟩
    · have ha : a = ⟨a.block, a.off, none⟩ := by
        obtain ⟨x, hx, _⟩ := key 0 0 h0 hc0
        simp only [Nat.zero_mul, Nat.add_zero] at hx
        exact spot_none hx
      have hlt : a.block < w.heap.size := by
        obtain ⟨x, hx, _⟩ := key 0 0 h0 hc0
        simp only [Nat.zero_mul, Nat.add_zero] at hx
        exact lt_of_cell hx
      refine ⟨_, n0, c0, fun i j => match w.cell? (a.add (i * c + j)) with | some (.int .i64 n) => if -9223372036854775808 ≤ n ∧ n ≤ 9223372036854775807 then n else 0 | _ => 0, rfl, by omega, fun _ => ⟨a.block, a.off, by rw [← ha], hlt, ?_⟩, ?_⟩
      · intro i hil j hjc
        obtain ⟨x, hx, hb⟩ := key i j hil hjc
        simp only [hx]
        rw [if_pos hb, ← add_plain, ← ha]
        exact hx
      · intro i j
        dsimp only
        split
        · split <;> omega
        · omega
end
end Go.Proofs.YtniahipadfgkbaaGreat
