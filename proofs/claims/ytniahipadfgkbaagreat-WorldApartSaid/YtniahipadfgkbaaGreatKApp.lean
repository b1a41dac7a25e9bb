/- append of one element that is built on the spot, to a row of the call's own. Conditions: none. -/
import Derived.Test.YtniahipadfgkbaaGreatKA
import Derived.Maps.AppendAt
import Derived.OwnWalk
namespace Go.Proofs.YtniahipadfgkbaaGreat
open Go Go.RowKit
section
variable {P : Program} {ops : Array Oper} {rest : List Oper} {o : Oper} {a : Act} {Q : Exit → Act → World → Prop} {w0 : World}
theorem info_three {e : TypeId} {z : Value} {size bytes : Nat} (h : (P.info? e).map (fun i => (i.zero, i.size, i.bytes)) = some (some z, size, bytes)) : ∃ i, P.info? e = some i ∧ i.zero = some z ∧ i.size = size ∧ i.bytes = bytes := by
  cases hi : P.info? e with
  | none => rw [hi] at h; cases h
  | some i =>
    rw [hi] at h
    simp only [Option.map_some, Option.some.injEq, Prod.mk.injEq] at h
    exact ⟨i, rfl, h.1, h.2.1, h.2.2⟩
theorem one_int (k : IntKind) (n : Int) : ∀ u ∈ (#[Value.int k n]).toList, u.oneCell' = true := by intro u hu; simp at hu; subst hu; rfl
/-- append(s, x): the row s has one element more -/
theorem app_one (hg : o.guard = none) (s x : Operand) (t : TypeId) (ho : o.op = .call { callee := .builtin .append, args := #[s, x], argTypes := #[t, t] }) {e : TypeId} (ht : P.underlying t = some (.slice e))
    {z : Value} {size bytes : Nat} (hinfo : (P.info? e).map (fun i => (i.zero, i.size, i.bytes)) = some (some z, size, bytes)) (hzs : z.cells.size = size) (hsz : 0 < size) (hby : bytes ≤ 1000000)
    (base : Nat) (v : Value) (n : Nat) (xs : List Value) (hs : a.eval s = v) (hown : w0.ownsRow base e size v n xs) (cs : Array Value) {T : TypeId} {p : Nat} (hx : a.eval x = .slice (some ⟨p, 0, none⟩) 1 1) (hp : p = w0.heap.size) (hcs : cs.size = size)
    (h1 : ∀ u ∈ cs.toList, u.oneCell' = true) (hn : n < 1000000) (hbase : base ≤ p)
    (h : ∀ g c w', w'.ownsRow base e size (.slice (some ⟨g, 0, none⟩) (n + 1) c) (n + 1) (xs ++ cs.toList) → Mod (fun b => v.ownBlock = some b) w0 w' → (v.ownBlock = some g ∨ p < g) → base ≤ g →
      wpList P ops Q rest (a.put o.dst (.slice (some ⟨g, 0, none⟩) (n + 1) c)) w') : wpList P ops Q (o :: rest) a (w0.alloc (.cells cs T)) := by
  obtain ⟨i, hi, hz, hsize, hbytes⟩ := info_three hinfo
  subst hp
  have hb : Below w0.heap.size w0 (w0.alloc (.cells cs T)) := (Below.refl _ _).alloc (Nat.le_refl _) _
  refine wpList_append_own_at (P := P) (w := w0.alloc (.cells cs T)) hg s x t ho base e i z size bytes ht hi hz hsize hbytes hzs hsz v n xs hs (row_below hown hb) ⟨w0.heap.size, 0, none⟩ 1 1 cs.toList hx (by simp [hcs]) ?_ h1 (by unfold maxLen; omega) ?_ (by simp; omega) ?_
  · intro j u hu
    have e1 : (⟨w0.heap.size, 0, none⟩ : Addr).add j = ⟨w0.heap.size, j, none⟩ := by
      unfold Addr.add
      split
      · rename_i h; subst h; rfl
      · simp
    rw [e1, World.cell?_alloc_new]
    simpa using hu
  · exact Nat.le_trans (Nat.mul_le_mul (by omega) hby) (show 1000000 * 1000000 ≤ 140737488355328 by decide)
  · intro v' w' hrow hgr _ hwh
    obtain ⟨g, c, rfl, hbg, _⟩ := row_at hrow (by omega)
    refine h g c w' hrow ?_ ?_ hbg
    · exact (Mod.of_below hb).trans ((mod_grown hgr).mono fun _ _ h => h)
    · rcases hwh with hw | hw
      · left; rw [← hw]; rfl
      · right
        have : g = (w0.alloc (.cells cs T)).heap.size := by simpa [Value.ownBlock] using hw
        rw [this]; simp
end
end Go.Proofs.YtniahipadfgkbaaGreat
