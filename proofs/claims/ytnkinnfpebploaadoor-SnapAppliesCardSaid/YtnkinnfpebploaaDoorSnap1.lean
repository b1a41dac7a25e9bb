/- The contract of snap.Right. Conditions: none. -/
import Derived.Test.YtnkinnfpebploaaDoorLoad
import Derived.Test.YtnkinnfpebploaaDoorTab
import Derived.Test.YtnkinnfpebploaaDoorSnapP
import Derived.Test.YtnkinnfpebploaaDoorLift
import Derived.Test.YtnkinnfpebploaaDoorGrow
import Derived.LoopTactic
import Derived.WalkSpells
import Derived.Lib.Hide
import Derived.BigQuiet
import Derived.Deep.CutBlock
namespace Go.Proofs.YtnkinnfpebploaaDoor
open Go.ChangeShapes Go.WideShapes Go.ChangeAt Go.RowKit Go.BigFrame

theorem calls_fresh {P : Program} {f : FuncId} {args : Array Value} {w : World} {Q : Ending → World → Prop} (h : ∀ w', Below w.heap.size w w' → Calls P f args w' Q) : Calls P f args w Q := h w (Below.refl _ _)
theorem sizeS : (Tryd.prog.info? 145).map (·.size) = some 11 := by kernel_rfl
theorem wp_seenS {w : World} {b of k : Nat} {M : Nat → Nat → Int} (hc : ∀ j, j < 11 → w.cell? ⟨b, of + j, none⟩ = some (.int .i64 (M k j))) {ops : Array Oper} {rest : List Oper} {o : Oper} {a : Act} {Q : Exit → Act → World → Prop} (hgd : o.guard = none) (x : Operand) (ho : o.op = .load 145 x) (hx : a.eval x = .pointer (some ⟨b, of, none⟩))
    (h : wpList Tryd.prog ops Q rest (a.put o.dst (.agg #[.int .i64 (M k 0), .int .i64 (M k 1), .int .i64 (M k 2), .int .i64 (M k 3), .int .i64 (M k 4), .int .i64 (M k 5), .int .i64 (M k 6), .int .i64 (M k 7), .int .i64 (M k 8), .int .i64 (M k 9), .int .i64 (M k 10)])) w) : wpList Tryd.prog ops Q (o :: rest) a w :=
  wpList_load_off hgd b of _ x ho hx [.int .i64 (M k 0), .int .i64 (M k 1), .int .i64 (M k 2), .int .i64 (M k 3), .int .i64 (M k 4), .int .i64 (M k 5), .int .i64 (M k 6), .int .i64 (M k 7), .int .i64 (M k 8), .int .i64 (M k 9), .int .i64 (M k 10)] _ (lits _ 11 (fun j => .int .i64 (M k j)) rfl (fun _ hj => hc _ hj)) Tryd.underlying145 rfl sizeS h
theorem quiet_seenS {w : World} {b of k : Nat} {M : Nat → Nat → Int} (hb : b < w.heap.size) (hc : ∀ j, j < 11 → w.cell? ⟨b, of + j, none⟩ = some (.int .i64 (M k j))) {o : Oper} {a : Act} {K : Act → Prop} (x : Operand) (ho : o.op = .load 145 x) (hx : a.eval x = .pointer (some ⟨b, of, none⟩))
    (h : K (a.put o.dst (.agg #[.int .i64 (M k 0), .int .i64 (M k 1), .int .i64 (M k 2), .int .i64 (M k 3), .int .i64 (M k 4), .int .i64 (M k 5), .int .i64 (M k 6), .int .i64 (M k 7), .int .i64 (M k 8), .int .i64 (M k 9), .int .i64 (M k 10)]))) : o.quiet Tryd.prog a (fun w' => ∃ m, w' = more w m) K :=
  quiet_load_off b of _ x ho hx [.int .i64 (M k 0), .int .i64 (M k 1), .int .i64 (M k 2), .int .i64 (M k 3), .int .i64 (M k 4), .int .i64 (M k 5), .int .i64 (M k 6), .int .i64 (M k 7), .int .i64 (M k 8), .int .i64 (M k 9), .int .i64 (M k 10)] _ (by rintro _ ⟨m, rfl⟩; exact lits _ 11 (fun j => .int .i64 (M k j)) rfl (fun _ hj => (more_cell _ _ _ _ hb).trans (hc _ hj))) Tryd.underlying145 rfl sizeS h

theorem sizeR : (Tryd.prog.info? 142).map (·.size) = some 11 := by kernel_rfl
theorem wp_seenR {w : World} {b of k : Nat} {M : Nat → Nat → Int} (hc : ∀ j, j < 11 → w.cell? ⟨b, of + j, none⟩ = some (.int .i64 (M k j))) {ops : Array Oper} {rest : List Oper} {o : Oper} {a : Act} {Q : Exit → Act → World → Prop} (hgd : o.guard = none) (x : Operand) (ho : o.op = .load 142 x) (hx : a.eval x = .pointer (some ⟨b, of, none⟩))
    (h : wpList Tryd.prog ops Q rest (a.put o.dst (.agg #[.int .i64 (M k 0), .int .i64 (M k 1), .int .i64 (M k 2), .int .i64 (M k 3), .int .i64 (M k 4), .int .i64 (M k 5), .int .i64 (M k 6), .int .i64 (M k 7), .int .i64 (M k 8), .int .i64 (M k 9), .int .i64 (M k 10)])) w) : wpList Tryd.prog ops Q (o :: rest) a w :=
  wpList_load_off hgd b of _ x ho hx [.int .i64 (M k 0), .int .i64 (M k 1), .int .i64 (M k 2), .int .i64 (M k 3), .int .i64 (M k 4), .int .i64 (M k 5), .int .i64 (M k 6), .int .i64 (M k 7), .int .i64 (M k 8), .int .i64 (M k 9), .int .i64 (M k 10)] _ (lits _ 11 (fun j => .int .i64 (M k j)) rfl (fun _ hj => hc _ hj)) Tryd.underlying142 rfl sizeR h
theorem quiet_seenR {w : World} {b of k : Nat} {M : Nat → Nat → Int} (hb : b < w.heap.size) (hc : ∀ j, j < 11 → w.cell? ⟨b, of + j, none⟩ = some (.int .i64 (M k j))) {o : Oper} {a : Act} {K : Act → Prop} (x : Operand) (ho : o.op = .load 142 x) (hx : a.eval x = .pointer (some ⟨b, of, none⟩))
    (h : K (a.put o.dst (.agg #[.int .i64 (M k 0), .int .i64 (M k 1), .int .i64 (M k 2), .int .i64 (M k 3), .int .i64 (M k 4), .int .i64 (M k 5), .int .i64 (M k 6), .int .i64 (M k 7), .int .i64 (M k 8), .int .i64 (M k 9), .int .i64 (M k 10)]))) : o.quiet Tryd.prog a (fun w' => ∃ m, w' = more w m) K :=
  quiet_load_off b of _ x ho hx [.int .i64 (M k 0), .int .i64 (M k 1), .int .i64 (M k 2), .int .i64 (M k 3), .int .i64 (M k 4), .int .i64 (M k 5), .int .i64 (M k 6), .int .i64 (M k 7), .int .i64 (M k 8), .int .i64 (M k 9), .int .i64 (M k 10)] _ (by rintro _ ⟨m, rfl⟩; exact lits _ 11 (fun j => .int .i64 (M k j)) rfl (fun _ hj => (more_cell _ _ _ _ hb).trans (hc _ hj))) Tryd.underlying142 rfl sizeR h

theorem far40_c (n : Int) (w : World) : Calls Tryd.prog 79 #[.int .i64 n] w fun e w' => e = .returned (.bool (!decide (In40 n))) ∧ w = w' := by
  by_cases h1 : n < -1099511627776
  · rw [decide_eq_false (show ¬ In40 n from fun h => by have := h.1; omega)]
    go_enter Tryd.func79, Tryd.ntmps79
    go_wp2
    go_ret
    exact ⟨rfl, rfl⟩
  by_cases h2 : 1099511627776 < n
  · rw [decide_eq_false (show ¬ In40 n from fun h => by have := h.2; omega)]
    have h1' : decide (n < -1099511627776) = false := decide_eq_false h1
    have h2' : decide (1099511627776 < n) = true := decide_eq_true h2
    clear h1 h2
    go_enter Tryd.func79, Tryd.ntmps79
    go_wp2
    go_ret
    exact ⟨rfl, rfl⟩
  rw [decide_eq_true (show In40 n from ⟨by omega, by omega⟩)]
  have h1' : decide (n < -1099511627776) = false := decide_eq_false h1
  have h2' : decide (1099511627776 < n) = false := decide_eq_false h2
  clear h1 h2
  go_enter Tryd.func79, Tryd.ntmps79
  go_wp2
  go_ret
  exact ⟨rfl, rfl⟩
theorem idx40_c (F : Nat → Int) (b : Nat) (w : World) (hc : ∀ j, j < 9 → w.cell? ⟨b, j, none⟩ = some (.int .i64 (F j))) : Calls Tryd.prog 94 #[.slice (some ⟨b, 0, none⟩) 9 9, .func (.func 79) #[] #[]] w fun e w' => ∃ v, e = .returned (.int .i64 v) ∧ (0 ≤ v ↔ ¬ ∀ j, j < 9 → In40 (F j)) ∧ w = w' := by
  have HC := Lib.hid hc
  clear hc
  go_enter Tryd.func94, Tryd.ntmps94
  go_wp2
  go_loopw [8] (fun i wr => ∃ k : Nat, k ≤ 9 ∧ i = .int .i64 k ∧ (∀ j, j < k → In40 (F j)) ∧ wr = w) (fun i _ => 9 - (intOf i).toNat)
  case atStart => exact ⟨0, by omega, rfl, fun j hj => absurd hj (Nat.not_lt_zero j), rfl⟩
  case round =>
    obtain ⟨k, hk, rfl, hin, rfl⟩ := hrel
    have HIN := Lib.hid hin
    clear hin
    by_cases hlt : k < 9
    · have q0 := HC.out k hlt
      go_wp2_with fail
      refine (far40_c _ _).mono ?_
      rintro e w' ⟨rfl, rfl⟩
      by_cases hq : In40 (F k)
      · rw [decide_eq_true hq]
        have HQ := Lib.hid hq
        clear hq
        go_wp2
        go_roundw
        case rel => exact ⟨k + 1, by omega, by go_num, fun j hj => by
          by_cases e : j < k
          · exact HIN.out j e
          · have e' : j = k := by omega
            rw [e']; exact HQ.out, by trivial⟩
        case measure => simp [intOf]; omega
      · rw [decide_eq_false hq]
        have HQ := Lib.hid hq
        clear hq
        go_wp2
        go_ret
        exact ⟨k, rfl, ⟨fun _ h => HQ.out (h k hlt), fun _ => by omega⟩, rfl⟩
    · have hk9 : k = 9 := by omega
      subst hk9
      go_wp2
      go_ret
      exact ⟨-1, rfl, ⟨fun h => by omega, fun h => absurd HIN.out h⟩, rfl⟩
theorem any40_c (F : Nat → Int) (d : Bool) (hd : d = true ↔ ∀ j, j < 9 → In40 (F j)) (b : Nat) (w : World) (hc : ∀ j, j < 9 → w.cell? ⟨b, j, none⟩ = some (.int .i64 (F j))) : Calls Tryd.prog 78 #[.slice (some ⟨b, 0, none⟩) 9 9, .func (.func 79) #[] #[]] w fun e w' => e = .returned (.bool (!d)) ∧ w = w' := by
  have HC := Lib.hid hc
  have HD := Lib.hid hd
  clear hc hd
  go_enter Tryd.func78, Tryd.ntmps78
  go_wp2_with fail
  refine (idx40_c F b _ HC.out).mono ?_
  rintro e w' ⟨v, rfl, hv, rfl⟩
  cases d with
  | true =>
    have hv0 : decide (0 ≤ v) = false := decide_eq_false (fun h' => hv.1 h' (HD.out.1 rfl))
    clear hv
    go_wp2
    go_ret
    exact ⟨rfl, rfl⟩
  | false =>
    have hv0 : decide (0 ≤ v) = true := decide_eq_true (hv.2 (fun h => by have := HD.out.2 h; cases this))
    clear hv
    go_wp2
    go_ret
    exact ⟨rfl, rfl⟩
theorem all40_c (F : Nat → Int) (d : Bool) (hd : d = true ↔ ∀ j, j < 9 → In40 (F j)) (b : Nat) (w : World) (hc : ∀ j, j < 9 → w.cell? ⟨b, j, none⟩ = some (.int .i64 (F j))) : Calls Tryd.prog 77 #[.slice (some ⟨b, 0, none⟩) 9 9] w fun e w' => e = .returned (.bool d) ∧ w = w' := by
  have HC := Lib.hid hc
  have HD := Lib.hid hd
  clear hc hd
  go_enter Tryd.func77, Tryd.ntmps77
  go_wp2_with fail
  refine (any40_c F d HD.out b _ HC.out).mono ?_
  rintro e w' ⟨rfl, rfl⟩
  cases d <;>
    (go_wp2
     go_ret
     exact ⟨rfl, rfl⟩)

end Go.Proofs.YtnkinnfpebploaaDoor
