/- Steps of regions that draw their order: m[k] taken and stored to, append of a number. A cell compared. Conditions: none. -/
import Derived.Deep.CutRange
import Derived.Deep.CutBlock
import Derived.Test.YtniahipadfgkbaaGreatKX2
import Derived.Test.YtniahipadfgkbaaGreatKY2
import Derived.Shelf.Abstract
import Derived.RangeFuncWrites
import Derived.RangeFuncNested
import Derived.Test.YtniahipadfgkbaaGreatKY1
import Derived.Test.YtniahipadfgkbaaGreatKApp
namespace Go.Proofs.YtniahipadfgkbaaGreat
open Go Go.Maps Go.RowKit Go.BigFrame Go.ChangeShapes Go.WideShapes Go.Shelf
theorem any_quiet_butI {P : Program} {Q : Exit → Act → World → Prop} {a : Act} {w : World} {l : List Oper} (n : Nat) (hB : Region.lexTailB .any l.toArray n = true)
    (h : wpQuiet P l.toArray (fun w' => ∃ m, w' = more w m) (fun a' => ∀ w', (∃ m, w' = more w m) → wpList P l.toArray Q (l.drop n) a' w') (l.take n) a) : wpAny P .any l.toArray Q l.toArray.size (Array.replicate l.toArray.size false) a { w with drawn := w.drawn + 1 } := by
  simp only [Region.lexTailB, Bool.and_eq_true, decide_eq_true_eq] at hB
  obtain ⟨⟨⟨⟨hsel, hn⟩, hs⟩, hc⟩, hlex⟩ := hB
  have hn' : n < l.length := by simpa using hn
  have htl : (l.take n).length = n := by simp; omega
  have hdl : (l.drop n).length = l.toArray.size - n := by simp
  have inv0 : HeadInv .any l.toArray n (Array.replicate l.toArray.size false) :=
    ⟨by simp, fun j oj _ hl => (by rw [getD_replicate_false] at hl; cases hl), fun t _ ht => getD_in (by simpa using ht) (getD_replicate_false _ _)⟩
  have H := head_lex (md := .any) (g := l.toArray.size - n) hsel hs hc hn (l.take n) 0 _ a (fun j hj => by
    rw [htl] at hj; simp [hj]) (by simpa using htl) inv0 (by rw [htl]; exact hlex) h
  have := any_of_head (Q := Q) (g := l.toArray.size - n) (fun listed a' w' hw' hL => by
    have := wpAny_of_seq (md := .any) (Q' := Q) (l.drop n) n listed a' w' (fun j => by simp [List.getElem?_drop]) (by rw [hdl]; exact hL.1) (hL.2 w' hw')
    rwa [hdl] at this) _ _ _ _ (more_drew w) H
  rw [htl, show n + (l.toArray.size - n) = l.toArray.size from by omega] at this
  exact this
end Go.Proofs.YtniahipadfgkbaaGreat
namespace Go.Proofs.YtniahipadfgkbaaGreat
open Go Go.Maps Go.RowKit Go.BigFrame Go.ChangeShapes Go.WideShapes
end Go.Proofs.YtniahipadfgkbaaGreat
namespace Go.Proofs.YtniahipadfgkbaaGreat
open Go Go.Maps Go.WideShapes Go.RowKit Go.BigFrame Go.ChangeShapes
section
variable {P : Program} {K E T : TypeId} {w w' : World} {b m n : Nat} {F : Lit → Option Value}
end
theorem blk_as {w : World} {b : Nat} {cs cs' : Array Value} (h : Blk w b cs) (e : cs = cs') : Blk w b cs' := e ▸ h
/-- the blocks of the rows -/
def RowB (F : Lit → Option Value) (x : Nat) : Prop := ∃ c v, clOk c ∧ F (ck c) = some v ∧ v.ownBlock = some x
theorem RowB.put {F : Lit → Option Value} {c : Cl} {v : Value} {x : Nat} (h : RowB (putF F (ck c) v) x) : RowB F x ∨ v.ownBlock = some x := by
  obtain ⟨c', v', h1, h2, h3⟩ := h
  unfold putF at h2
  split at h2
  · cases h2; exact .inr h3
  · exact .inl ⟨c', v', h1, h2, h3⟩
/-- what Put reads at its end -/
def PutS (p2 p3 p4 p5 g : Nat) (f : Nat → Int) (b : Bx) (q : GP) (w : World) : Prop :=
  Blk w p2 #[.pointer (some ⟨g, 0, none⟩)] ∧ Blk w p3 #[.int .i64 (f 0), .int .i64 (f 1), .int .i64 (f 2), .int .i64 (f 3), .int .i64 (f 4), .int .i64 (f 5), .int .i64 (f 6), .int .i64 (f 7), .int .i64 (f 8), .int .i64 (f 9), .int .i64 (f 10), .int .i64 (f 11), .int .i64 (f 12), .int .i64 (f 13), .int .i64 (f 14), .int .i64 (f 15), .int .i64 (f 16)] ∧ Blk w p4 #[.int .i64 b.a1, .int .i64 b.a2, .int .i64 b.a3, .int .i64 b.b1, .int .i64 b.b2, .int .i64 b.b3] ∧ Blk w p5 #[.int .i64 (kc b.a1), .int .i64 (kc b.a2), .int .i64 (kc b.a3)] ∧ Blk w (p5 + 1) #[.int .i64 (kc b.b1), .int .i64 (kc b.b2), .int .i64 (kc b.b3)] ∧ Blk w g #[.map (some q.mc), .map (some q.ml), .map (some q.mh), .map (some q.mb), .map (some q.mt)]
theorem PutS.mod {p2 p3 p4 p5 g : Nat} {f : Nat → Int} {b : Bx} {q : GP} {w w' : World} {T : Nat → Prop} (h : PutS p2 p3 p4 p5 g f b q w) (k : Mod T w w') (h2 : ¬ T p2) (h3 : ¬ T p3) (h4 : ¬ T p4) (h5 : ¬ T p5) (h6 : ¬ T (p5 + 1)) (hg : ¬ T g) : PutS p2 p3 p4 p5 g f b q w' :=
  ⟨h.1.mod k h2, h.2.1.mod k h3, h.2.2.1.mod k h4, h.2.2.2.1.mod k h5, h.2.2.2.2.1.mod k h6, h.2.2.2.2.2.mod k hg⟩
end Go.Proofs.YtniahipadfgkbaaGreat
