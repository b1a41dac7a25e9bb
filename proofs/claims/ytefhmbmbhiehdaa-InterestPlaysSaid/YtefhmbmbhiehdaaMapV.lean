/- Maps of the call's own: what stands at a key, as a plain function from keys to values. Conditions: none. -/
import Derived.Maps.OwnOps
import Derived.Maps.OwnSet
import Derived.Maps.Views
import Derived.Test.YtefhmbmbhiehdaaMod
namespace Go.Proofs.Ytefhmbmbhiehdaa
open Go Go.Maps Go.WideShapes Go.RowKit
/-- each value reads as itself -/
def holdV (v : Value) : Option (DataW Value × List MemPlace) := some (.held v, [])
/-- the reading D is the function F, with n keys -/
structure IsFn (D : DataW Value) (F : Lit → Option Value) (n : Nat) : Prop where
  has : ∀ k, WideAt.IsKeyLit k → Maps.has D k = (F k).isSome
  at_ : ∀ k z, WideAt.IsKeyLit k → D.atKey k (.held z) = .held ((F k).getD z)
  size : Maps.size D = n
open Classical in
noncomputable def putF (F : Lit → Option Value) (k : Lit) (v : Value) : Lit → Option Value := fun x => if x = k then some v else F x
open Classical in
noncomputable def delF (F : Lit → Option Value) (k : Lit) : Lit → Option Value := fun x => if x = k then none else F x
theorem isFn_nil : IsFn (.map []) (fun _ => none) 0 := ⟨fun _ _ => rfl, fun _ _ _ => rfl, rfl⟩
theorem IsFn.put {D : DataW Value} {F : Lit → Option Value} {n : Nat} (h : IsFn D F n) (hT : Tidy D) {k : Lit} (hk : WideAt.IsKeyLit k) (v : Value) : IsFn (D.put k (.held v)) (putF F k v) (if (F k).isSome then n else n + 1) := by
  refine ⟨fun x hx => ?_, fun x z hx => ?_, ?_⟩
  · unfold putF
    by_cases e : x = k
    · subst e; rw [has_put_same hT.isMap hk, if_pos rfl]; rfl
    · rw [has_put_other e, if_neg e, h.has x hx]
  · unfold putF
    by_cases e : x = k
    · subst e; rw [atKey_put_same hT.isMap hk, if_pos rfl]; rfl
    · rw [atKey_put_other e, if_neg e, h.at_ x z hx]
  · rw [size_put hT, h.has k hk, h.size]
theorem IsFn.del {D : DataW Value} {F : Lit → Option Value} {n : Nat} (h : IsFn D F n) (hT : Tidy D) {k : Lit} (hk : WideAt.IsKeyLit k) : IsFn (D.del k) (delF F k) (if (F k).isSome then n - 1 else n) := by
  refine ⟨fun x hx => ?_, fun x z hx => ?_, ?_⟩
  · unfold delF
    by_cases e : x = k
    · subst e; rw [has_del_same, if_pos rfl]; rfl
    · rw [has_del_other e, if_neg e, h.has x hx]
  · unfold delF
    by_cases e : x = k
    · subst e; rw [atKey_del_same, if_pos rfl]; rfl
    · rw [atKey_del_other e, if_neg e, h.at_ x z hx]
  · have := size_del (k := k) hT
    rw [h.has k hk, h.size] at this
    by_cases e : (F k).isSome = true
    · rw [if_pos e] at this ⊢; omega
    · rw [if_neg e] at this ⊢; omega
/-- block b is a map from keys of type K: what stands at a key is F's; n keys, of at most m that were put -/
def MapV (P : Program) (K : TypeId) (w : World) (b m : Nat) (F : Lit → Option Value) (n : Nat) : Prop := ∃ D, w.ownsMap P K holdV b m D ∧ Tidy D ∧ IsFn D F n
section
variable {P : Program} {K E T : TypeId} {w w' : World} {b m n : Nat} {F : Lit → Option Value}
theorem mapV_made (w : World) (P : Program) (K : TypeId) : MapV P K (w.alloc (.map #[] 0)) w.heap.size 0 (fun _ => none) 0 := ⟨_, World.ownsMap_made w P K holdV, tidy_empty, isFn_nil⟩
theorem MapV.lt (h : MapV P K w b m F n) : b < w.heap.size := by obtain ⟨D, h, _⟩ := h; exact h.lt
theorem MapV.le (h : MapV P K w b m F n) : n ≤ m := by obtain ⟨D, h, _, hf⟩ := h; rw [← hf.size]; exact h.size_le
theorem MapV.mod {S : Nat → Prop} (h : MapV P K w b m F n) (k : Mod S w w') (hs : ¬ S b) : MapV P K w' b m F n := by
  obtain ⟨D, h, ht, hf⟩ := h
  have hlt := h.lt
  obtain ⟨es, clock, hb, hF, hsz, hD⟩ := h
  exact ⟨D, ⟨es, clock, (k.block b hlt hs).trans hb, hF, hsz, hD⟩, ht, hf⟩
theorem MapV.below (h : MapV P K w b m F n) (k : Below w.heap.size w w') : MapV P K w' b m F n := h.mod (S := fun _ => False) (Mod.of_below k) id
/-- a map's block is no cells -/
theorem MapV.ne (h : MapV P K w b m F n) {g : Nat} {cs : Array Value} {t : TypeId} {f : Nat × Nat} (hg : w.heap[g]? = some (.cells cs t f)) : g ≠ b := by
  intro e
  subst e
  obtain ⟨D, ⟨es, clock, hb, _⟩, _⟩ := h
  rw [hb] at hg
  cases hg
theorem MapV.mono (h : MapV P K w b m F n) {m' : Nat} (hm : m ≤ m') : MapV P K w b m' F n := by obtain ⟨D, h, ht, hf⟩ := h; exact ⟨D, h.mono hm, ht, hf⟩
theorem mod_grownBy {row : Option Nat} (h : w.grownBy w' row) : Mod (fun b => row = some b) w w' := ⟨h.os, h.tape, h.output, h.size, fun b hb hs => h.block b hb (fun e => hs e.symm)⟩
section
variable {ops : Array Oper} {rest : List Oper} {o : Oper} {a : Act} {Q : Exit → Act → World → Prop}
/-- m[k] -/
theorem at_lookup1 (hg : o.guard = none) (mm x : Operand) (hop : o.op = Op.lookup T mm x false) (LK : Keyed P K) (ht : P.underlying T = some (.map K E)) {z : Value} (hz : (zeroValue E).run P w = .ok z w)
    (hm : a.eval mm = .map (some b)) (hown : MapV P K w b m F n) (key : Value) (kl : Lit) (hx : a.eval x = key) (hkey : keyOf P K key = some kl) (hkl : WideAt.IsKeyLit kl)
    (hK : wpList P ops Q rest (a.put o.dst ((F kl).getD z)) w) : wpList P ops Q (o :: rest) a w := by
  obtain ⟨D, hown, hT, hf⟩ := hown
  refine wpList_plain hg fun K' hK' => ?_
  obtain ⟨v, ps, hrun, hv⟩ := hown.lookup LK ht hz (zd := .held z) (zp := []) rfl hkey
  unfold Oper.wp
  simp [execOp, hop, hm, hx, hrun, Result.andThen]
  rw [hf.at_ kl z hkl] at hv
  have e : v = (F kl).getD z := by
    unfold holdV at hv
    simp at hv
    exact hv.1
  subst e
  exact hK' _ _ hK
/-- v, ok := m[k] -/
theorem at_lookup2 (hg : o.guard = none) (mm x : Operand) (hop : o.op = Op.lookup T mm x true) (LK : Keyed P K) (ht : P.underlying T = some (.map K E)) {z : Value} (hz : (zeroValue E).run P w = .ok z w)
    (hm : a.eval mm = .map (some b)) (hown : MapV P K w b m F n) (key : Value) (kl : Lit) (hx : a.eval x = key) (hkey : keyOf P K key = some kl) (hkl : WideAt.IsKeyLit kl)
    (hK : wpList P ops Q rest (a.put o.dst (.tuple #[(F kl).getD z, .bool (F kl).isSome])) w) : wpList P ops Q (o :: rest) a w := by
  obtain ⟨D, hown, hT, hf⟩ := hown
  refine wpList_plain hg fun K' hK' => ?_
  obtain ⟨v, ps, hrun, hv⟩ := hown.look_ok LK ht hz (zd := .held z) (zp := []) rfl hkey
  unfold Oper.wp
  simp [execOp, hop, hm, hx, hrun, Result.andThen]
  rw [hf.at_ kl z hkl] at hv
  rw [hf.has kl hkl]
  have e : v = (F kl).getD z := by
    unfold holdV at hv
    simp at hv
    exact hv.1
  subst e
  exact hK' _ _ hK
/-- m[k] = v -/
theorem at_update (hg : o.guard = none) (mm x v : Operand) (hop : o.op = Op.mapUpdate T mm x v) (LK : Keyed P K) (ht : P.underlying T = some (.map K E))
    (hm : a.eval mm = .map (some b)) (hown : MapV P K w b m F n) (hmx : m < maxLen) (key val : Value) (kl : Lit) (hx : a.eval x = key) (hv : a.eval v = val) (hkey : keyOf P K key = some kl) (hkl : WideAt.IsKeyLit kl)
    (hK : ∀ w', MapV P K w' b (m + 1) (putF F kl val) (if (F kl).isSome then n else n + 1) → Mod (· = b) w w' → wpList P ops Q rest (a.put o.dst undef) w') : wpList P ops Q (o :: rest) a w := by
  obtain ⟨D, hown, hT, hf⟩ := hown
  refine wpList_plain hg fun K' hK' => ?_
  obtain ⟨w', hrun, r1, r2⟩ := hown.update LK ht hmx hkey (val := val) (d := .held val) (ps := []) rfl
  unfold Oper.wp
  simp [execOp, hop, hm, hx, hv, hrun, Result.andThen]
  exact hK' _ _ (hK w' ⟨_, r1, hT.put hkl _, hf.put hT hkl val⟩ ((mod_grownBy r2).mono fun b' _ e => (Option.some.inj e).symm))
/-- delete(m, k) -/
theorem at_delete1 (hg : o.guard = none) (mm x : Operand) (hop : o.op = Op.call { callee := Callee.builtin Builtin.delete, args := #[mm, x], argTypes := #[T, K] }) (LK : Keyed P K) (ht : P.underlying T = some (.map K E))
    (hm : a.eval mm = .map (some b)) (hown : MapV P K w b m F n) (key : Value) (kl : Lit) (hx : a.eval x = key) (hkey : keyOf P K key = some kl) (hkl : WideAt.IsKeyLit kl)
    (hK : ∀ w', MapV P K w' b m (delF F kl) (if (F kl).isSome then n - 1 else n) → Mod (· = b) w w' → wpList P ops Q rest (a.put o.dst (.tuple #[])) w') : wpList P ops Q (o :: rest) a w := by
  obtain ⟨D, hown, hT, hf⟩ := hown
  refine wpList_plain hg fun K' hK' => ?_
  obtain ⟨w', hrun, r1, r2⟩ := hown.drop LK ht hkey o.type
  unfold Oper.wp
  simp [execOp, hop, resolve, invoke, builtin, hm, hx, hrun, Result.andThen]
  exact hK' _ _ (hK w' ⟨_, r1, hT.del kl, hf.del hT hkl⟩ ((mod_grownBy r2.grown).mono fun b' _ e => (Option.some.inj e).symm))
/-- len(m) -/
theorem at_len1 (hg : o.guard = none) (mm : Operand) (hop : o.op = Op.call { callee := Callee.builtin Builtin.len, args := #[mm], argTypes := #[T] }) (ht : P.underlying T = some (.map K E))
    (hm : a.eval mm = .map (some b)) (hown : MapV P K w b m F n) (hK : wpList P ops Q rest (a.put o.dst (.int .i64 n)) w) : wpList P ops Q (o :: rest) a w := by
  obtain ⟨D, hown, hT, hf⟩ := hown
  refine wpList_plain hg fun K' hK' => ?_
  unfold Oper.wp
  simp [execOp, hop, resolve, invoke, builtin, hm, hown.len ht o.type, Result.andThen]
  rw [hf.size]
  exact hK' _ _ hK
end
end
theorem intKey_wf {n : Int} (h1 : -9223372036854775808 ≤ n) (h2 : n ≤ 9223372036854775807) : (Lit.int .i64 n).wf = true := by
  simp [Lit.wf, IntKind.min, IntKind.max, IntKind.signed, IntKind.bits]
  exact ⟨h1, h2⟩
end Go.Proofs.Ytefhmbmbhiehdaa
