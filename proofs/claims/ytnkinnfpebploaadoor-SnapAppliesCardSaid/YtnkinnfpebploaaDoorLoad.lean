/- A struct is loaded out of a row of numbers, whole: by a law, as the cells one by one cost the kernel too much. Conditions: none. -/
import Derived.Test.YtnkinnfpebploaaDoorTab
import Derived.BigQuiet
import Derived.Laws.Rows
namespace Go.Proofs.YtnkinnfpebploaaDoor
open Go Go.RowKit
section
variable {P : Program}
theorem run_loadVar_off (w : World) (g o : Nat) (ty : TypeId) (vs : List Value) (d : TypeDesc) (hc : ∀ j v, vs[j]? = some v → w.cell? ⟨g, o + j, none⟩ = some v)
    (hu : P.underlying ty = some d) (hd : (match d with | .struct _ | .array _ _ => true | _ => false) = true) (hi : (P.info? ty).map (·.size) = some vs.length) :
    (loadVar ty ⟨g, o, none⟩).run P w = .ok (.agg vs.toArray) w := by
  have hl : (loadCells ⟨g, o, none⟩ vs.length).run P w = .ok vs.toArray w :=
    run_loadCells_list (P := P) w ⟨g, o, none⟩ vs (fun j v hv => by
      have hadd : (⟨g, o, none⟩ : Addr).add j = ⟨g, o + j, none⟩ := by unfold Addr.add; split <;> simp_all
      rw [hadd]
      exact hc j v hv)
  cases hq : P.info? ty with
  | none => simp [hq] at hi
  | some i =>
    have hs : i.size = vs.length := by simpa [hq] using hi
    have hagg : (isAgg ty).run P w = .ok true w := by
      unfold isAgg
      rw [Sem.run_bind, run_underlying hu w]
      cases d <;> simp_all
    simp [loadVar, Sem.run_bind, hagg, sizeOf, typeInfo, hq, hs, hl]
theorem exec_load_off {o : Oper} {a : Act} (w : World) (g of : Nat) (ty : TypeId) (x : Operand) (ho : o.op = .load ty x) (hx : a.eval x = .pointer (some ⟨g, of, none⟩)) (vs : List Value) (d : TypeDesc) (hc : ∀ j v, vs[j]? = some v → w.cell? ⟨g, of + j, none⟩ = some v)
    (hu : P.underlying ty = some d) (hd : (match d with | .struct _ | .array _ _ => true | _ => false) = true) (hi : (P.info? ty).map (·.size) = some vs.length) :
    (execOp a.eval o).run P w = (.ok (.value (.agg vs.toArray)) w : Result Next) := by
  unfold execOp
  simp only [ho, hx, Instr.loadAt, Instr.sureAddr, Sem.run_bind, Sem.run_pure, Result.andThen_ok, run_loadVar_off w g of ty vs d hc hu hd hi]
theorem quiet_load_off {C : World → Prop} {o : Oper} {a : Act} {K : Act → Prop} (g of : Nat) (ty : TypeId) (x : Operand) (ho : o.op = .load ty x) (hx : a.eval x = .pointer (some ⟨g, of, none⟩)) (vs : List Value) (d : TypeDesc) (hc : ∀ w, C w → ∀ j v, vs[j]? = some v → w.cell? ⟨g, of + j, none⟩ = some v)
    (hu : P.underlying ty = some d) (hd : (match d with | .struct _ | .array _ _ => true | _ => false) = true) (hi : (P.info? ty).map (·.size) = some vs.length)
    (h : K (a.put o.dst (.agg vs.toArray))) : o.quiet P a C K :=
  ⟨_, fun w hw => by unfold Oper.quietAt; rw [exec_load_off w g of ty x ho hx vs d (hc w hw) hu hd hi]; exact ⟨rfl, rfl⟩, h⟩
theorem wpList_load_off {ops : Array Oper} {rest : List Oper} {o : Oper} {a : Act} {w : World} {Q : Exit → Act → World → Prop} (hgd : o.guard = none) (g of : Nat) (ty : TypeId) (x : Operand) (ho : o.op = .load ty x)
    (hx : a.eval x = .pointer (some ⟨g, of, none⟩)) (vs : List Value) (d : TypeDesc) (hc : ∀ j v, vs[j]? = some v → w.cell? ⟨g, of + j, none⟩ = some v)
    (hu : P.underlying ty = some d) (hd : (match d with | .struct _ | .array _ _ => true | _ => false) = true) (hi : (P.info? ty).map (·.size) = some vs.length)
    (h : wpList P ops Q rest (a.put o.dst (.agg vs.toArray)) w) : wpList P ops Q (o :: rest) a w :=
  wpList_plain hgd fun _ hK => by
    unfold Oper.wp
    rw [exec_load_off w g of ty x ho hx vs d hc hu hd hi]
    exact hK _ _ h
end
/-- the values of a list literal, one by one -/
theorem lits (vs : List Value) (c : Nat) (f : Nat → Value) (hv : vs = (List.range c).map f) {Pr : Nat → Value → Prop} (h : ∀ j, j < c → Pr j (f j)) : ∀ j v, vs[j]? = some v → Pr j v := by
  subst hv
  intro j v hj
  rw [List.getElem?_map] at hj
  by_cases hc : j < c
  · rw [List.getElem?_range hc] at hj
    cases hj
    exact h j hc
  · rw [List.getElem?_eq_none (by simpa using hc)] at hj
    cases hj
end Go.Proofs.YtnkinnfpebploaaDoor
