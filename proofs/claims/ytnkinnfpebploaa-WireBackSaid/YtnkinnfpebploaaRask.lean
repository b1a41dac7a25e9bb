/- The contract of gyreref.Ask. Conditions: none. -/
import Derived.Test.YtnkinnfpebploaaAsk
import Derived.Test.YtnkinnfpebploaaApp
namespace Go.Proofs.Ytnkinnfpebploaa
open Go.ChangeShapes Go.WideShapes Go.ChangeAt Go.RowKit Go.BigFrame
open B
def RAskPost (t n s k b x y z : Int) (w : World) (e : Ending) (w' : World) : Prop :=
  (AskOk t n s k b x y z ∧ ∃ A c, e = .returned (.tuple #[.slice A (pack (askL t n s k b x y z)).length c, .int .i64 0]) ∧ BsOf w' w.heap.size (.slice A (pack (askL t n s k b x y z)).length c) (pack (askL t n s k b x y z)) ∧ Below w.heap.size w w') ∨
  (¬ AskOk t n s k b x y z ∧ e = .returned (.tuple #[.slice none 0 0, .int .i64 2]) ∧ Below w.heap.size w w')
theorem raskPost_no {t n s k b x y z : Int} {w : World} {e : Ending} {w' : World} (h : ¬ AskOk t n s k b x y z) (he : e = .returned (.tuple #[.slice none 0 0, .int .i64 2])) (hb : Below w.heap.size w w') : RAskPost t n s k b x y z w e w' := .inr ⟨h, he, hb⟩
theorem raskPost_yes {t n s k b x y z : Int} {w : World} {e : Ending} {w' : World} {L : List Nat} {A : Option Addr} {c B : Nat} (h : AskOk t n s k b x y z) (hL : L = askL t n s k b x y z) (he : e = .returned (.tuple #[.slice A (pack L).length c, .int .i64 0]))
    (hs : BsOf w' B (.slice A (pack L).length c) (pack L)) (hB : w.heap.size ≤ B) (hb : Below w.heap.size w w') : RAskPost t n s k b x y z w e w' := by
  subst hL
  exact .inl ⟨h, A, c, he, bsOf_mono hs hB, hb⟩
theorem row_low {w w' : World} {base size n p : Nat} {e : TypeId} {v : Value} {xs : List Value} (h : w.ownsRow base e size v n xs) (k : Below p w w') (hv : ∀ b, v.ownBlock = some b → b < p) : w'.ownsRow base e size v n xs := by
  obtain ⟨h1, h2 | ⟨g, cap, cur, a, b, c, d⟩⟩ := h
  · exact ⟨h1, .inl h2⟩
  · subst a
    exact ⟨h1, .inr ⟨g, cap, cur, rfl, b, (k.block g (hv g rfl)).trans c, d⟩⟩

end Go.Proofs.Ytnkinnfpebploaa
