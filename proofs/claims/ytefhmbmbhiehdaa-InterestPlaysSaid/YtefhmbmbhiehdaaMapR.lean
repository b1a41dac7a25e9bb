/- for k, v := range m: maps as functions, keys of ints; two maps with the same keys have as many. Conditions: none. -/
import Derived.Maps.RangeWalk
import Derived.Test.YtefhmbmbhiehdaaMapV
namespace Go.Proofs.Ytefhmbmbhiehdaa
open Go Go.Maps Go.WideShapes Go.RowKit
theorem same_int (x y : Int) : (Lit.int .i64 x).sameKey (.int .i64 y) = decide (x = y) := by
  by_cases h : x = y
  · subst h; simp [Lit.sameKey]
  · rw [decide_eq_false h]
    exact sameKey_ne (fun e => h (by cases e; rfl))
/-- range over the map at b under way, its iterator at r: what stands at a key is F's, n keys; L: which keys are still to come, cnt of them -/
def RangeV (P : Program) (K : TypeId) (w : World) (b r m : Nat) (F : Lit → Option Value) (n : Nat) (L : Int → Bool) (cnt : Nat) : Prop :=
  ∃ D left, w.ranges P K holdV b r m D left cnt ∧ Tidy D ∧ IsFn D F n ∧ ∀ x : Int, left (.int .i64 x) = L x
section
variable {P : Program} {K E T : TypeId} {w w' : World} {b r m n cnt : Nat} {F : Lit → Option Value} {L : Int → Bool}
theorem RangeV.map (h : RangeV P K w b r m F n L cnt) : MapV P K w b m F n := by
  obtain ⟨D, left, h1, h2, h3, _⟩ := h
  exact ⟨D, h1.owns, h2, h3⟩
theorem RangeV.left (h : RangeV P K w b r m F n L cnt) : w.rangeLeft b r = cnt := by
  obtain ⟨D, left, h1, _⟩ := h
  exact h1.left_eq
theorem RangeV.lt (h : RangeV P K w b r m F n L cnt) : r < w.heap.size := by
  obtain ⟨D, left, h1, _⟩ := h
  exact h1.lt
theorem RangeV.ne (h : RangeV P K w b r m F n L cnt) : r ≠ b := by
  obtain ⟨D, left, h1, _⟩ := h
  exact h1.ne
theorem RangeV.mod {S : Nat → Prop} (h : RangeV P K w b r m F n L cnt) (k : Mod S w w') (hb : ¬ S b) (hr : ¬ S r) : RangeV P K w' b r m F n L cnt := by
  have hlt := h.map.lt
  have hrl := h.lt
  obtain ⟨D, left, ⟨es, clock, since, seen, c0, e1, e2, e3, e4, e5, e6⟩, h2⟩ := h
  exact ⟨D, left, ⟨es, clock, since, seen, c0, (k.block b hlt hb).trans e1, e2, e3, e4, (k.block r hrl hr).trans e5, e6⟩, h2⟩
theorem RangeV.below (h : RangeV P K w b r m F n L cnt) (k : Below w.heap.size w w') : RangeV P K w' b r m F n L cnt := h.mod (S := fun _ => False) (Mod.of_below k) id id
variable {ops : Array Oper} {rest : List Oper} {o : Oper} {a : Act} {Q : Exit → Act → World → Prop}
theorem int_wf_key {x : Int} (hK : P.underlying K = some (.int .i64)) (h : (Lit.int .i64 x).wf = true) : keyOf P K (.int .i64 x) = some (.int .i64 x) := by
  simp [keyOf, hK, mapKey, h]
/-- range m -/
theorem at_rangeV (hg : o.guard = none) (mm : Operand) (hop : o.op = Op.range T mm) (LK : Keyed P K) (ht : P.underlying T = some (.map K E)) (hm : a.eval mm = .map (some b)) (hown : MapV P K w b m F n)
    (hK : ∀ w', RangeV P K w' b w.heap.size m F n (fun x => (F (.int .i64 x)).isSome) n → Mod (fun _ => False) w w' → w'.heap.size = w.heap.size + 1 → wpList P ops Q rest (a.put o.dst (.pointer (some ⟨w.heap.size, 0, none⟩))) w') :
    wpList P ops Q (o :: rest) a w := by
  obtain ⟨D, h1, h2, h3⟩ := hown
  refine wpList_range_own w hg mm T hop K E LK ht holdV b m D hm h1 fun w' r1 r2 r3 => ?_
  rw [h3.size] at r1
  exact hK w' ⟨D, _, r1, h2, h3, fun x => h3.has _ trivial⟩ ((mod_grownBy r2).mono fun _ _ h => by cases h) r3
/-- the step -/
theorem at_nextV (hg : o.guard = none) (it : Operand) (hop : o.op = Op.next it false) (LK : Keyed P K) (hKi : P.underlying K = some (.int .i64)) (hit : a.eval it = .pointer (some ⟨r, 0, none⟩)) (h : RangeV P K w b r m F n L cnt)
    (hDone : (∀ x, L x = false) → wpList P ops Q rest (a.put o.dst (.tuple #[.bool false])) w)
    (hMore : ∀ (x : Int) (c : Value) (w' : World) (cnt' : Nat), (Lit.int .i64 x).wf = true → L x = true → F (.int .i64 x) = some c → RangeV P K w' b r m F n (fun z => L z && !decide (z = x)) cnt' → cnt' < cnt → Mod (· = r) w w' → w'.heap.size = w.heap.size →
      (Instr.entry (.pointer (some ⟨r, 0, none⟩))).run P w' = .ok (.tuple #[.int .i64 x, c]) w' → wpList P ops Q rest (a.put o.dst (.tuple #[.bool true, .int .i64 x, c])) w') :
    wpList P ops Q (o :: rest) a w := by
  obtain ⟨D, left, h1, h2, h3, h4⟩ := h
  refine wpList_next_ranges w hg it hop K LK holdV (Value.int .i64) (fun v : Value => v) (fun key kl hkey => by obtain ⟨x, rfl, _⟩ := Maps.keyOf_int_inv hKi hkey; exact ⟨x, rfl⟩) (fun v y _ => ⟨v, rfl⟩) b r m D left cnt hit h1 (fun h0 hl => hDone fun x => by rw [← h4]; exact hl _) ?_
  intro x c kl y w' cnt' hkey hl hR hat hrg hlt hgr hsz hen
  obtain ⟨x', e, rfl, hwf⟩ := Maps.keyOf_int_inv hKi hkey
  cases e
  have hF : F (.int .i64 x) = some c := by
    unfold holdV at hR
    cases hR
    have q1 := hat (.held (.int .i64 0))
    have q2 := hat (.held (.int .i64 1))
    rw [h3.at_ (.int .i64 x) _ trivial] at q1 q2
    cases hFx : F (.int .i64 x) with
    | some v => rw [hFx] at q1; simp at q1; rw [q1]
    | none =>
      rw [hFx] at q1 q2
      simp at q1 q2
      rw [← q1] at q2
      cases q2
  refine hMore x c w' cnt' hwf (by rw [← h4]; exact hl) hF ⟨D, _, hrg, h2, h3, fun z => ?_⟩ hlt ((mod_grownBy hgr).mono fun _ _ e => (Option.some.inj e).symm) hsz hen
  rw [h4, same_int]
/-- delete(m, k) in the round -/
theorem at_deleteV (hg : o.guard = none) (mm x : Operand) (hop : o.op = Op.call { callee := Callee.builtin Builtin.delete, args := #[mm, x], argTypes := #[T, K] }) (LK : Keyed P K) (hKi : P.underlying K = some (.int .i64)) (ht : P.underlying T = some (.map K E))
    (hm : a.eval mm = .map (some b)) (h : RangeV P K w b r m F n L cnt) (y : Int) (hwf : (Lit.int .i64 y).wf = true) (hx : a.eval x = .int .i64 y)
    (hK : ∀ w' cnt', RangeV P K w' b r m (delF F (.int .i64 y)) (if (F (.int .i64 y)).isSome then n - 1 else n) (fun z => L z && !decide (z = y)) cnt' → cnt' ≤ cnt → Mod (· = b) w w' → wpList P ops Q rest (a.put o.dst (.tuple #[])) w') : wpList P ops Q (o :: rest) a w := by
  obtain ⟨D, left, h1, h2, h3, h4⟩ := h
  refine wpList_delete_ranges w hg mm x T K hop E LK ht holdV b r m D left cnt hm h1 (.int .i64 y) (.int .i64 y) hx (int_wf_key hKi hwf) fun w' cnt' r1 r2 r3 => ?_
  exact hK w' cnt' ⟨_, _, r1, h2.del _, h3.del h2 trivial, fun z => by rw [h4, same_int]⟩ r2 ((mod_grownBy r3.grown).mono fun _ _ e => (Option.some.inj e).symm)
end
/-- two lists without repeats that hold the same -/
theorem len_same {α : Type} : ∀ {a b : List α}, a.Nodup → b.Nodup → (∀ x, x ∈ a ↔ x ∈ b) → a.length = b.length := by
  intro a b ha hb h
  exact ((List.perm_ext_iff_of_nodup ha hb).2 h).length_eq
/-- as many keys -/
theorem MapV.count {P : Program} {K : TypeId} {w w' : World} {b b' m m' n n' : Nat} {F F' : Lit → Option Value} (LK : Keyed P K) (h : MapV P K w b m F n) (h' : MapV P K w' b' m' F' n') (e : ∀ k, WideAt.IsKeyLit k → (F k).isSome = (F' k).isSome) : n = n' := by
  obtain ⟨D, h1, h2, h3⟩ := h
  obtain ⟨D', h1', h2', h3'⟩ := h'
  obtain ⟨es, rfl, hp, hk⟩ := h1.entries LK
  obtain ⟨es', rfl, hp', hk'⟩ := h1'.entries LK
  rw [← h3.size, ← h3'.size]
  have key : ∀ (es : List (Lit × DataW Value)) (x : Lit), WideAt.IsKeyLit x → (x ∈ es.map (·.1) ↔ Maps.has (.map es) x = true) := by
    intro es x hkl
    rw [has_eq, List.any_eq_true]
    simp only [List.mem_map]
    constructor
    · rintro ⟨p, hp, rfl⟩
      exact ⟨p, hp, by revert hkl; cases p.1 <;> simp [Lit.sameKey, WideAt.IsKeyLit]⟩
    · rintro ⟨p, hp, hs⟩
      refine ⟨p, hp, ?_⟩
      apply Classical.byContradiction
      intro hne
      rw [sameKey_ne hne] at hs
      cases hs
  have hn : ∀ (es : List (Lit × DataW Value)), es.Pairwise (fun p q => p.1 ≠ q.1) → (es.map (·.1)).Nodup := by
    intro es h
    unfold List.Nodup
    rw [List.pairwise_map]
    exact h
  have := len_same (hn es hp) (hn es' hp') (fun x => by
    constructor
    · intro hx
      have hkl : WideAt.IsKeyLit x := by
        obtain ⟨p, hp, rfl⟩ := List.mem_map.1 hx
        exact hk p hp
      rw [key _ _ hkl] at hx ⊢
      rw [h3'.has x hkl, ← e x hkl, ← h3.has x hkl]
      exact hx
    · intro hx
      have hkl : WideAt.IsKeyLit x := by
        obtain ⟨p, hp, rfl⟩ := List.mem_map.1 hx
        exact hk' p hp
      rw [key _ _ hkl] at hx ⊢
      rw [h3.has x hkl, e x hkl, ← h3'.has x hkl]
      exact hx)
  simpa [Maps.size] using this
end Go.Proofs.Ytefhmbmbhiehdaa
