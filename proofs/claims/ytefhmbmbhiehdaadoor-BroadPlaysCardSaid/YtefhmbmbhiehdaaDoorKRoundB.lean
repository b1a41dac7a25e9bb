/- A loop body within a range over a function, walked by the plain words: what an operation, a list of them, a region does in a round's frame is what it does anywhere. Conditions: none is a 'defer'. -/
import Derived.RangeFuncNested
import Derived.RangeFuncWrites
import Derived.RangeFuncCalls
import Derived.RangeFuncBound
import Derived.TacticsIn
import Derived.OrdersIn
import Derived.Test.YtefhmbmbhiehdaaDoorKHeldT
namespace Go.Proofs.YtefhmbmbhiehdaaDoor
open Go Go.RowKit
section
variable {P : Program} {a : Act} {w : World} {K : Act → World → Prop} {Q : Exit → Act → World → Prop} {l n : Nat}
theorem rowsIn_wide {row : String} {args : Array Value} {R : Value → World → Prop} (h : Rows P row args w R) : RowsIn Fence.wide n P row args w R :=
  fun c cs _ => let ⟨v, w', r, s⟩ := h c cs; ⟨v, w', r, stepsIn_wide.2 s⟩
/-- no operation of the list is a 'defer' -/
def noDefer (o : Oper) : Bool := match o.op with | .defer _ => false | _ => true
theorem noDefer_spec {o : Oper} (h : noDefer o = true) : ∀ c, o.op ≠ .defer c := fun c e => by
  unfold noDefer at h
  rw [e] at h
  cases h
theorem op_inRound {o : Oper} (hd : noDefer o = true) (h : o.wp P a w K Q) : o.wpIn (Fence.wide.inRound l) n P a w K Q := by
  refine ⟨fun _ _ => trivial, ?_⟩
  rw [Oper.semAt_eq _ _ _ (noDefer_spec hd)]
  unfold Oper.wp at h
  generalize (execOp a.eval o).run P w = r at h
  cases r with
  | ok x w' =>
    cases x with
    | value v => exact h
    | skip => exact h
    | defer d => exact h
    | enter f args => exact ⟨fun h => by simp [Fence.wide] at h, CallsIn.inRound l (callsIn_wide.2 h)⟩
    | row r args => exact ⟨fun h => by simp [Fence.wide] at h, rowsIn_wide (n := n - 1) h⟩
    | _ => exact h.elim
  | halt x w' =>
    cases x <;> exact h
/-- a list of operations -/
theorem list_inRound {ops : Array Oper} : ∀ {l' : List Oper} {a : Act} {w : World}, l'.all noDefer = true → ¬ LetsOut Q → wpList P ops Q l' a w → wpListIn (Fence.wide.inRound l) n P ops Q l' a w
  | [], _, _ => fun _ _ h => h
  | o :: rest, a, w => fun hd hQ h => by
    rw [List.all_cons, Bool.and_eq_true] at hd
    unfold wpList at h
    unfold wpListIn
    by_cases hw : Region.wanted o (yielded ops a.tmps) = true
    · rw [if_pos hw] at h ⊢
      rcases h with h | h
      · exact op_inRound hd.1 (Oper.wp_mono (fun a w h => list_inRound hd.2 hQ h) h)
      · exact absurd h.2 hQ
    · rw [if_neg hw] at h ⊢
      exact ⟨fun _ _ => trivial, list_inRound hd.2 hQ h⟩
/-- the orders of a region that draws -/
theorem any_inRound {md : Region.Mode} {ops : Array Oper} (hd : ops.toList.all noDefer = true) (hQ : ¬ LetsOut Q) : ∀ (f : Nat) (li : Array Bool) (a : Act) (w : World), wpAny P md ops Q f li a w → wpAnyIn (Fence.wide.inRound l) n P md ops Q f li a w := by
  intro f
  induction f with
  | zero => exact fun li a w h => h
  | succ f ih =>
    intro li a w h
    refine ⟨h.1, fun i hi => ?_⟩
    have hi' := h.2 i hi
    unfold wpOp at hi'
    unfold wpOpIn
    cases ho : ops[i]? with
    | none => rw [ho] at hi'; exact ih _ _ _ hi'
    | some o =>
      rw [ho] at hi'
      have hdo : noDefer o = true := List.all_eq_true.1 hd o (by obtain ⟨h1, h2⟩ := Array.getElem?_eq_some_iff.1 ho; rw [← h2]; exact Array.getElem_mem_toList h1)
      simp only at hi' ⊢
      by_cases hw : Region.wanted o (yielded ops a.tmps) = true
      · rw [if_pos hw] at hi' ⊢
        rcases hi' with hi' | hi'
        · exact op_inRound hdo (Oper.wp_mono (fun a w h => ih _ a w h) hi')
        · exact absurd hi'.2 hQ
      · rw [if_neg hw] at hi' ⊢
        exact ⟨fun _ _ => trivial, ih _ _ _ hi'⟩
/-- a region, walked in a round's frame -/
theorem region_inRound {id : Nat} {ops : List Oper} (hd : ops.all noDefer = true) (hQ : ¬ LetsOut Q) (h : wpList P ops.toArray Q ops a w) : (Code.region id ops.toArray false).wpIn (Fence.wide.inRound l) n P Q a w :=
  wpIn_region_lit (list_inRound hd hQ h)
theorem region_inRound_any {id : Nat} {ops : List Oper} (hm : P.follows .mixedOrders = true) (hd : ops.all noDefer = true) (hQ : ¬ LetsOut Q) (h : wpAny P .any ops.toArray Q ops.toArray.size (Array.replicate ops.toArray.size false) a w.drew) : (Code.region id ops.toArray true).wpIn (Fence.wide.inRound l) n P Q a w :=
  wpIn_region_any hm (any_inRound (by simpa using hd) hQ _ _ _ _ h)
end
end Go.Proofs.YtefhmbmbhiehdaaDoor
