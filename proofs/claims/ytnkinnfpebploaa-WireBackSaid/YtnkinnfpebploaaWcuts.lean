/- The walk of gyrelaw.WireCuts. Conditions: what the variable errors.errorType holds. -/
import Derived.Test.YtnkinnfpebploaaCut2
import Derived.Test.YtnkinnfpebploaaBoth
namespace Go.Proofs.Ytnkinnfpebploaa
open Go.ChangeShapes Go.WideShapes Go.ChangeAt Go.RowKit Go.BigFrame
open B
theorem Src.of_row {w : World} {base : Nat} {v : Value} {l : List Nat} (h : w.ownsRow base 5 1 v l.length (u8s l)) : Src w v l := by
  rcases id h.2 with ⟨rfl, h0⟩ | ⟨g, cap, cur, rfl, _⟩
  · exact .inl ⟨rfl, by simpa using h0⟩
  · exact .inr ⟨_, cap, rfl, fun j u hu => row_cells h j u hu⟩
theorem row_cap {w : World} {base : Nat} {A : Option Addr} {n cap m : Nat} {e : TypeId} {s : Nat} {xs : List Value} (h : w.ownsRow base e s (.slice A n cap) m xs) : n ≤ cap := by
  rcases h.2 with ⟨e, h0⟩ | ⟨g, c, cur, e, _, _, h1, _⟩
  · cases e; omega
  · cases e; exact h1
theorem u8s_app (l m : List Nat) : u8s (l ++ m) = u8s l ++ u8s m := u8s_append l m
/-- times, turned into how often -/
theorem often (a : Int) : wrap64 ((IntKind.u64.wrap a).tmod 4) = (((a % 18446744073709551616).toNat % 4 : Nat) : Int) := by
  rw [IntKind.wrap_u64, Int.tmod_eq_emod_of_nonneg (by omega)]
  rw [IntWalk.wrap64_in _ (by omega)]
  omega

theorem own_lower {w : World} {B B' : Nat} {e : TypeId} {s n : Nat} {v : Value} {xs : List Value} (h : w.ownsRow B e s v n xs) (hb : B' ≤ B) : w.ownsRow B' e s v n xs := by
  obtain ⟨h1, h2 | ⟨g, cap, cur, a, b, c⟩⟩ := h
  · exact ⟨h1, .inl h2⟩
  · exact ⟨h1, .inr ⟨g, cap, cur, a, by omega, c⟩⟩
theorem grow_cell {wr w1 : World} {T : TypeId} {cs : Array Value} {a : Addr} (h : (wr.alloc (.cells cs T)).grownBy w1 (Value.slice (some ⟨wr.heap.size, 0, none⟩) 0 0).ownBlock) (ha : a.block < wr.heap.size) : w1.cell? a = wr.cell? a := by
  have hb : Below wr.heap.size wr w1 := (balloc _ _).trans ((mod_grown h).toBelow (by simp) (fun b hb e => by simp only [Value.ownBlock, Option.some.injEq] at e; omega))
  exact hb.cell (p := a) ha

end Go.Proofs.Ytnkinnfpebploaa
