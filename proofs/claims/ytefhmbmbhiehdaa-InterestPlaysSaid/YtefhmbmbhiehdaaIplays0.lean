/- What the walk of gyrelaw.InterestPlays needs. Conditions: none. -/
import Derived.Deep.CutRange
import Derived.Deep.CutBlock
import Derived.Test.YtefhmbmbhiehdaaIput
import Derived.Test.YtefhmbmbhiehdaaIsees
import Derived.Test.YtefhmbmbhiehdaaIrsees
import Derived.Test.YtefhmbmbhiehdaaVec3
import Derived.Test.YtefhmbmbhiehdaaGeom2
import Derived.Test.YtefhmbmbhiehdaaOwnTab
import Derived.Test.YtefhmbmbhiehdaaOpen
namespace Go.Proofs.Ytefhmbmbhiehdaa
open Go Go.Maps Go.RowKit Go.BigFrame Go.ChangeShapes Go.WideShapes
theorem rs_same {y : Ey} {bs : List Bo} {D : Int → Option En} {zs : List Int} (h : GridOf bs D) (hn : zs.Nodup) (hz : ∀ id, id ∈ zs ↔ 0 ≤ y.far ∧ eyeD y D id = true) : srt zs = srt (rsL y bs) := by
  obtain ⟨h1, h2⟩ := h.seen y
  have e : rsL y bs = if 0 ≤ y.far then seenL y bs else [] := by
    unfold rsL seenL
    by_cases hf : 0 ≤ y.far
    · rw [if_pos hf]
      simp [hf]
    · rw [if_neg hf]
      simp [hf]
  rw [e]
  refine sort_same hn ?_ fun id => ?_
  · split
    · exact h1
    · exact List.nodup_nil
  · rw [hz id]
    split
    · rename_i hf
      rw [h2 id]
      exact ⟨fun h => h.2, fun h => ⟨hf, h⟩⟩
    · rename_i hf
      exact ⟨fun h => absurd h.1 hf, fun h => by cases h⟩
/-- between two rounds of the law -/
structure PlI (w wr : World) (g k : Nat) (v : Value) (bs : List Bo) (D : Int → Option En) (S : Nat → Prop) (q : GP) : Prop where
  row : wr.ownsRow 0 61 17 v bs.length (bodies bs)
  go : GridOf bs D
  gr : GR wr g (10000000 * k) D S (fun _ => False) q
  cnt : q.n = bs.length
  bd : ∀ f ∈ bs, -9223372036854775808 ≤ f 0 ∧ f 0 ≤ 9223372036854775807
  le : bs.length ≤ k
  ap : ∀ x, v.ownBlock = some x → ¬ S x ∧ w.heap.size ≤ x
  lo : ∀ x, S x → w.heap.size ≤ x
  bel : Below w.heap.size w wr
section
variable {w wr wr' : World} {g k : Nat} {v : Value} {bs : List Bo} {D : Int → Option En} {S : Nat → Prop} {q : GP}
theorem PlI.below (h : PlI w wr g k v bs D S q) (b : Below wr.heap.size wr wr') : PlI w wr' g k v bs D S q :=
  ⟨row_below h.row b, h.go, ⟨h.gr.raw.below b, h.gr.lists⟩, h.cnt, h.bd, h.le, h.ap, h.lo, h.bel.trans (b.mono h.bel.size)⟩
theorem PlI.mod {T : Nat → Prop} (h : PlI w wr g k v bs D S q) (b : Mod T wr wr') (hT : ∀ x, T x → ¬ S x ∧ v.ownBlock ≠ some x ∧ w.heap.size ≤ x) : PlI w wr' g k v bs D S q :=
  ⟨row_mod h.row b (fun x e e' => (hT x e').2.1 e), h.go, ⟨h.gr.raw.modT b (fun x e => (hT x e).1), h.gr.lists⟩, h.cnt, h.bd, h.le, h.ap, h.lo, h.bel.trans (b.toBelow h.bel.size (fun x hx e => by have := (hT x e).2.2; omega))⟩
theorem PlI.up (h : PlI w wr g k v bs D S q) : PlI w wr g (k + 1) v bs D S q :=
  ⟨h.row, h.go, ⟨h.gr.raw.more (by omega), h.gr.lists⟩, h.cnt, h.bd, Nat.le_succ_of_le h.le, h.ap, h.lo, h.bel⟩
theorem PlI.ids (h : PlI w wr g k v bs D S q) : ∀ id, D id ≠ none → id ∈ bs.map (· 0) := fun id hd => by
  cases hD : D id with
  | none => exact absurd hD hd
  | some e =>
    obtain ⟨f, hf, h1, _⟩ := (h.go.is id e).1 hD
    exact List.mem_map.2 ⟨f, hf, h1⟩
theorem PlI.idb (h : PlI w wr g k v bs D S q) : ∀ id ∈ bs.map (· 0), -9223372036854775808 ≤ id ∧ id ≤ 9223372036854775807 := fun id hd => by
  obtain ⟨f, hf, rfl⟩ := List.mem_map.1 hd
  exact h.bd f hf
theorem PlI.ok (h : PlI w wr g k v bs D S q) : ∀ id e, D id = some e → e.bx.ok := fun id e hd => by
  obtain ⟨f, hf, _, rfl⟩ := (h.go.is id e).1 hd
  exact h.go.ok f hf
end
theorem gridOf_nil : GridOf [] (fun _ => none) := ⟨List.nodup_nil, fun id e => ⟨fun h => (by cases h), fun ⟨f, h, _⟩ => (by cases h)⟩, fun f h => (by cases h)⟩
theorem leftL_snoc (nn : Int) (bs : List Bo) (f : Bo) : leftL nn (bs ++ [f]) = leftL nn bs ++ (if (f 0 != nn) = true then [f] else []) := by
  unfold leftL
  rw [List.filter_append]
  cases h : (f 0 != nn) with
  | true => simp [h]
  | false => simp [h]
theorem leftL_le (nn : Int) (bs : List Bo) : (leftL nn bs).length ≤ bs.length := List.length_filter_le _ _
theorem bodyInfoI : (Try.prog.info? 61).map (fun i => (i.zero, i.size, i.bytes)) = some (some (.agg #[.int .i64 0, .int .i64 0, .int .i64 0, .int .i64 0, .int .i64 0, .int .i64 0, .int .i64 0, .int .i64 0, .int .i64 0, .int .i64 0, .int .i64 0, .int .i64 0, .int .i64 0, .int .i64 0, .int .i64 0, .int .i64 0, .int .i64 0]), 17, 136) := by kernel_rfl
theorem one_body (f : Bo) : ∀ u ∈ (#[.int .i64 (f 0), .int .i64 (f 1), .int .i64 (f 2), .int .i64 (f 3), .int .i64 (f 4), .int .i64 (f 5), .int .i64 (f 6), .int .i64 (f 7), .int .i64 (f 8), .int .i64 (f 9), .int .i64 (f 10), .int .i64 (f 11), .int .i64 (f 12), .int .i64 (f 13), .int .i64 (f 14), .int .i64 (f 15), .int .i64 (f 16)] : Array Value).toList, u.oneCell' = true := by
  intro u hu
  rw [← bodyV_is] at hu
  unfold bodyV at hu
  obtain ⟨j, _, rfl⟩ := List.mem_map.1 hu
  rfl
theorem rright_f (f : Bo) (w : World) : Calls Try.prog 18 #[.agg #[.int .i64 (f 2), .int .i64 (f 3), .int .i64 (f 4), .int .i64 (f 5)]] w fun e w' => e = .returned (.bool (shapeB (f 2) (f 3) (f 4) (f 5))) ∧ Below w.heap.size w w' := rright_c _ _ _ _ w
theorem any_freshP {P : Program} {md : Region.Mode} {ops : Array Oper} {Q : Exit → Act → World → Prop} {S : World → Prop} {f : Nat} {li : Array Bool} {a : Act} {w : World} (h : ∀ w', w' = w → S w' → wpAnyH P md ops Q S f li a w') (hS : S w) : wpAnyH P md ops Q S f li a w := h w rfl hS
set_option maxRecDepth 100000 in
set_option maxHeartbeats 4000000 in
theorem inew0_c (w : World) (X : Nat → Prop) (hX : ∀ x, X x → x < w.heap.size) : Calls Try.prog 16 #[] w fun e w' => ∃ g q S, e = .returned (.pointer (some ⟨g, 0, none⟩)) ∧ q.n = 0 ∧ GR w' g 0 (fun _ => none) S X q ∧ (∀ x, S x → w.heap.size ≤ x) ∧ Below w.heap.size w w' := by
  have HX := Lib.hid hX
  clear hX
  have hmk := @run_makeMap Try.prog
  go_enter Try.func16, Try.ntmps16
  go_wp2
  go_ret
  have a1 : ∀ (w : World) (o : Obj), (w.alloc o).heap.size = w.heap.size + 1 := fun w o => by simp
  refine ⟨w.heap.size + 1 + 1 + 1 + 1 + 1, ⟨w.heap.size, w.heap.size + 1, w.heap.size + 1 + 1, w.heap.size + 1 + 1 + 1, w.heap.size + 1 + 1 + 1 + 1, 0, 0, fun _ => none, fun _ => []⟩, fun x => w.heap.size ≤ x ∧ x < w.heap.size + 6, rfl, rfl, ?_, fun x hx => hx.1, ?_⟩
  · refine ⟨⟨by apply Blk.at; simp, ⟨_, ((((map_at _ (by simp)).below (ialloc _ _)).below (ialloc _ _)).below (ialloc _ _)).below (ialloc _ _), fun _ => rfl⟩, ⟨_, (((map_at _ (by simp)).below (ialloc _ _)).below (ialloc _ _)).below (ialloc _ _), fun _ => rfl⟩, ⟨_, ((map_at _ (by simp)).below (ialloc _ _)).below (ialloc _ _), fun _ => rfl⟩, ⟨_, (map_at _ (by simp)).below (ialloc _ _), fun _ => rfl⟩,
      (((((map_at _ rfl).below (ialloc _ _)).below (ialloc _ _)).below (ialloc _ _)).below (ialloc _ _)).below (ialloc _ _), ⟨fun c _ => .inl ⟨rfl, rfl⟩, fun c c' v v' _ _ _ h => (by cases h)⟩, ?_, fun c v x _ h => (by cases h), ?_, ?_, fun c v x _ h => (by cases h), fun x hx => ⟨?_, fun hX => ?_⟩, fun x hX => ?_⟩, ⟨fun c _ id => ⟨fun h => (by cases h), fun ⟨e, h, _⟩ => (by cases h)⟩, fun c _ => List.nodup_nil, fun c _ => Nat.zero_le _⟩⟩
    · simp only
      omega
    · simp only
      omega
    · simp only
      omega
    · simp only [a1]
      omega
    · have := HX.out x hX
      omega
    · have := HX.out x hX
      simp only [a1]
      omega
  · exact (by repeat (with_reducible (first | exact Below.refl _ _ | assumption | apply ext_alloc)))
/-- the block n in a function's code -/
def findBlk (n : Nat) : Code → Option Code
  | .seq a b => match findBlk n a with | some c => some c | none => findBlk n b
  | .cond _ t e => match findBlk n t with | some c => some c | none => findBlk n e
  | .block m b => if m == n then some (.block m b) else findBlk n b
  | .loop b => findBlk n b
  | _ => none
def blockC (f : Func) (n : Nat) : Code := match f.body with | some c => (findBlk n c).getD .skip | none => .skip
def findReg (n : Nat) : Code → Option Code
  | .seq a b => match findReg n a with | some c => some c | none => findReg n b
  | .cond _ t e => match findReg n t with | some c => some c | none => findReg n e
  | .block _ b => findReg n b
  | .loop b => findReg n b
  | .region m ops d => if m == n then some (.region m ops d) else none
  | _ => none
def regionC (f : Func) (n : Nat) : Code := match f.body with | some c => (findReg n c).getD .skip | none => .skip
end Go.Proofs.Ytefhmbmbhiehdaa
