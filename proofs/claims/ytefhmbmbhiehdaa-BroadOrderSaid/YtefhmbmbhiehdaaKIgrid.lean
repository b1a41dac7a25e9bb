/- interest.Grid in memory. Conditions: none. -/
import Derived.Test.YtefhmbmbhiehdaaKIkey
import Derived.Test.YtefhmbmbhiehdaaKIdel
import Derived.Test.YtefhmbmbhiehdaaKIcell
import Derived.WalkSpells
import Derived.Test.YtefhmbmbhiehdaaKMapO
namespace Go.Proofs.Ytefhmbmbhiehdaa
open Go Go.Maps Go.RowKit Go.BigFrame Go.ChangeShapes Go.WideShapes
/-- a box: low, high -/
structure Bx where
  a1 : Int
  a2 : Int
  a3 : Int
  b1 : Int
  b2 : Int
  b3 : Int
/-- what a grid has of a body -/
structure En where
  bx : Bx
  tm : Int
def Bx.v (b : Bx) : Value := .agg #[.int .i64 b.a1, .int .i64 b.a2, .int .i64 b.a3, .int .i64 b.b1, .int .i64 b.b2, .int .i64 b.b3]
/-- its first cell, its last one, all -/
def Bx.lo (b : Bx) : Cl := (kc b.a1, kc b.a2, kc b.a3)
def Bx.hi (b : Bx) : Cl := (kc b.b1, kc b.b2, kc b.b3)
def Bx.cells (b : Bx) : List Cl := cellsOf b.lo.1 b.lo.2.1 b.lo.2.2 b.hi.1 b.hi.2.1 b.hi.2.2
theorem lo_ok (b : Bx) : clOk b.lo := by have := kc_bd b.a1; have := kc_bd b.a2; have := kc_bd b.a3; unfold clOk Bx.lo; simp only; omega
theorem hi_ok (b : Bx) : clOk b.hi := by have := kc_bd b.b1; have := kc_bd b.b2; have := kc_bd b.b3; unfold clOk Bx.hi; simp only; omega
theorem cells_ok {b : Bx} {c : Cl} (h : c ∈ b.cells) : clOk c := by
  unfold Bx.cells at h
  rw [cellsOf_mem] at h
  have h1 := lo_ok b
  have h2 := hi_ok b
  unfold clOk at *
  omega
/-- the map at b has what f says -/
def VI (w : World) (b m n : Nat) (f : Int → Option Value) : Prop := ∃ F, MapV Try.prog 3 w b m F n ∧ ∀ k : Int, F (.int .i64 k) = f k
section
variable {w w' : World} {b m n : Nat} {f : Int → Option Value}
theorem VI.mod {S : Nat → Prop} (h : VI w b m n f) (k : Mod S w w') (hb : ¬ S b) : VI w' b m n f := by
  obtain ⟨F, h1, h2⟩ := h
  exact ⟨F, h1.mod k hb, h2⟩
theorem VI.more (h : VI w b m n f) {m' : Nat} (hm : m ≤ m') : VI w b m' n f := by
  obtain ⟨F, h1, h2⟩ := h
  exact ⟨F, h1.mono hm, h2⟩
theorem VI.lt (h : VI w b m n f) : b < w.heap.size := by
  obtain ⟨F, h1, _⟩ := h
  exact h1.lt
end
/-- the rows of the cells: what stands at a cell is the list L's; each in a block of its own -/
structure Rows (w : World) (Fc : Lit → Option Value) (L : Cl → List Int) : Prop where
  row : ∀ c, clOk c → (Fc (ck c) = none ∧ L c = []) ∨ ∃ v, Fc (ck c) = some v ∧ w.ownsRow 0 3 1 v (L c).length (ints (L c))
  apart : ∀ c c' v v', clOk c → clOk c' → c ≠ c' → Fc (ck c) = some v → Fc (ck c') = some v' → ∀ g, v.ownBlock = some g → v'.ownBlock ≠ some g
/-- where a grid's parts lie -/
structure GP where
  mc : Nat
  ml : Nat
  mh : Nat
  mb : Nat
  mt : Nat
  nc : Nat
  n : Nat
  Fc : Lit → Option Value
  L : Cl → List Int
/-- the lists of the cells are D's: id is in a cell's list where the cell is one of its box -/
structure Lists (D : Int → Option En) (L : Cl → List Int) : Prop where
  mem : ∀ c, clOk c → ∀ id, id ∈ L c ↔ ∃ e, D id = some e ∧ c ∈ e.bx.cells
  nodup : ∀ c, clOk c → (L c).Nodup
  len : ∀ c, clOk c → (L c).length ≤ 1000
/-- the grid at block g, whatever its cells' lists are; S: what it may write; X: what it may not; m: how often its maps were written -/
structure GW (w : World) (g m : Nat) (D : Int → Option En) (S X : Nat → Prop) (q : GP) : Prop where
  blk : Blk w g #[.map (some q.mc), .map (some q.ml), .map (some q.mh), .map (some q.mb), .map (some q.mt)]
  low : VI w q.ml m q.n fun k => (D k).map fun e => cv e.bx.lo
  high : VI w q.mh m q.n fun k => (D k).map fun e => cv e.bx.hi
  box : VI w q.mb m q.n fun k => (D k).map fun e => e.bx.v
  team : VI w q.mt m q.n fun k => (D k).map fun e => .int .i64 e.tm
  cells : MapV Try.prog 124 w q.mc m q.Fc q.nc
  rows : Rows w q.Fc q.L
  sg : S g ∧ S q.mc ∧ S q.ml ∧ S q.mh ∧ S q.mb ∧ S q.mt
  srow : ∀ c v x, clOk c → q.Fc (ck c) = some v → v.ownBlock = some x → S x
  ne : q.mc ≠ q.ml ∧ q.mc ≠ q.mh ∧ q.mc ≠ q.mb ∧ q.mc ≠ q.mt ∧ q.ml ≠ q.mh ∧ q.ml ≠ q.mb ∧ q.ml ≠ q.mt ∧ q.mh ≠ q.mb ∧ q.mh ≠ q.mt ∧ q.mb ≠ q.mt
  gne : g ≠ q.mc ∧ g ≠ q.ml ∧ g ≠ q.mh ∧ g ≠ q.mb ∧ g ≠ q.mt
  rne : ∀ c v x, clOk c → q.Fc (ck c) = some v → v.ownBlock = some x → x ≠ g ∧ x ≠ q.mc ∧ x ≠ q.ml ∧ x ≠ q.mh ∧ x ≠ q.mb ∧ x ≠ q.mt
  sl : ∀ x, S x → x < w.heap.size ∧ ¬ X x
  xl : ∀ x, X x → x < w.heap.size
/-- the grid -/
structure GR (w : World) (g m : Nat) (D : Int → Option En) (S X : Nat → Prop) (q : GP) : Prop where
  raw : GW w g m D S X q
  lists : Lists D q.L
section
variable {w w' : World} {g m : Nat} {D : Int → Option En} {S X X' : Nat → Prop} {q : GP}
theorem Rows.mod {T : Nat → Prop} {Fc : Lit → Option Value} {L : Cl → List Int} (h : Rows w Fc L) (k : Mod T w w') (hs : ∀ c v x, clOk c → Fc (ck c) = some v → v.ownBlock = some x → ¬ T x) : Rows w' Fc L :=
  ⟨fun c hc => (h.row c hc).imp id fun ⟨v, h1, h2⟩ => ⟨v, h1, row_mod h2 k fun x hx => hs c v x hc h1 hx⟩, h.apart⟩
/-- less that it may not write -/
theorem GW.lessX (h : GW w g m D S X q) (hx : ∀ x, X' x → X x) : GW w g m D S X' q := ⟨h.blk, h.low, h.high, h.box, h.team, h.cells, h.rows, h.sg, h.srow, h.ne, h.gne, h.rne, fun x e => ⟨(h.sl x e).1, fun e' => (h.sl x e).2 (hx x e')⟩, fun x e => h.xl x (hx x e)⟩
/-- others write what is theirs -/
theorem GW.frame (h : GW w g m D S X q) (k : Mod X w w') (hx : ∀ x, X' x → X x ∨ w.heap.size ≤ x) (hl : ∀ x, X' x → x < w'.heap.size) : GW w' g m D S X' q :=
  have n : ∀ {x}, S x → ¬ X x := fun e => (h.sl _ e).2
  ⟨h.blk.mod k (n h.sg.1), h.low.mod k (n h.sg.2.2.1), h.high.mod k (n h.sg.2.2.2.1), h.box.mod k (n h.sg.2.2.2.2.1), h.team.mod k (n h.sg.2.2.2.2.2), h.cells.mod k (n h.sg.2.1), h.rows.mod k (fun c v x h1 h2 h3 => n (h.srow c v x h1 h2 h3)), h.sg, h.srow, h.ne, h.gne, h.rne,
    fun x e => ⟨Nat.lt_of_lt_of_le (h.sl x e).1 k.size, fun e' => (hx x e').elim (h.sl x e).2 (fun e'' => by have := (h.sl x e).1; omega)⟩, hl⟩
theorem GW.modT {T : Nat → Prop} (h : GW w g m D S X q) (k : Mod T w w') (hT : ∀ x, T x → ¬ S x) : GW w' g m D S X q :=
  have n : ∀ {x}, S x → ¬ T x := fun e e' => hT _ e' e
  ⟨h.blk.mod k (n h.sg.1), h.low.mod k (n h.sg.2.2.1), h.high.mod k (n h.sg.2.2.2.1), h.box.mod k (n h.sg.2.2.2.2.1), h.team.mod k (n h.sg.2.2.2.2.2), h.cells.mod k (n h.sg.2.1), h.rows.mod k (fun c v x h1 h2 h3 => n (h.srow c v x h1 h2 h3)), h.sg, h.srow, h.ne, h.gne, h.rne,
    fun x e => ⟨Nat.lt_of_lt_of_le (h.sl x e).1 k.size, (h.sl x e).2⟩, fun x e => Nat.lt_of_lt_of_le (h.xl x e) k.size⟩
theorem GW.below (h : GW w g m D S X q) (k : Below w.heap.size w w') : GW w' g m D S X q := h.frame (Mod.of_below k) (fun _ e => .inl e) (fun x e => Nat.lt_of_lt_of_le (h.xl x e) k.size)
theorem GW.more (h : GW w g m D S X q) {m' : Nat} (hm : m ≤ m') : GW w g m' D S X q := ⟨h.blk, h.low.more hm, h.high.more hm, h.box.more hm, h.team.more hm, h.cells.mono hm, h.rows, h.sg, h.srow, h.ne, h.gne, h.rne, h.sl, h.xl⟩
end
theorem ialloc (w : World) (o : Obj) : Below w.heap.size w (w.alloc o) := by apply ext_alloc; exact Below.refl _ _
theorem map_at {K : TypeId} (w : World) {b : Nat} (hb : b = w.heap.size) : MapV Try.prog K (w.alloc (.map #[] 0)) b 0 (fun _ => none) 0 := hb ▸ mapV_made w _ _
theorem vi_made (w : World) : VI (w.alloc (.map #[] 0)) w.heap.size 0 0 fun _ => none := ⟨_, mapV_made w _ _, fun _ => rfl⟩
set_option maxRecDepth 100000 in
set_option maxHeartbeats 4000000 in
theorem inew_c (w : World) (X : Nat → Prop) (hX : ∀ x, X x → x < w.heap.size) : Calls Try.prog 16 #[] w fun e w' => ∃ g q S, e = .returned (.pointer (some ⟨g, 0, none⟩)) ∧ GR w' g 0 (fun _ => none) S X q ∧ (∀ x, S x → w.heap.size ≤ x) ∧ Below w.heap.size w w' := by
  have HX := Lib.hid hX
  clear hX
  have hmk := @run_makeMap Try.prog
  go_enter Try.func16, Try.ntmps16
  go_wp2
  go_ret
  have a1 : ∀ (w : World) (o : Obj), (w.alloc o).heap.size = w.heap.size + 1 := fun w o => by simp
  refine ⟨w.heap.size + 1 + 1 + 1 + 1 + 1, ⟨w.heap.size, w.heap.size + 1, w.heap.size + 1 + 1, w.heap.size + 1 + 1 + 1, w.heap.size + 1 + 1 + 1 + 1, 0, 0, fun _ => none, fun _ => []⟩, fun x => w.heap.size ≤ x ∧ x < w.heap.size + 6, rfl, ?_, fun x hx => hx.1, ?_⟩
  · refine ⟨⟨by apply Blk.at; simp, ⟨_, ((((map_at _ (by simp)).below (ialloc _ _)).below (ialloc _ _)).below (ialloc _ _)).below (ialloc _ _), fun _ => rfl⟩, ⟨_, (((map_at _ (by simp)).below (ialloc _ _)).below (ialloc _ _)).below (ialloc _ _), fun _ => rfl⟩, ⟨_, ((map_at _ (by simp)).below (ialloc _ _)).below (ialloc _ _), fun _ => rfl⟩, ⟨_, (map_at _ (by simp)).below (ialloc _ _), fun _ => rfl⟩,
      (((((map_at _ rfl).below (ialloc _ _)).below (ialloc _ _)).below (ialloc _ _)).below (ialloc _ _)).below (ialloc _ _), ⟨fun c _ => .inl ⟨rfl, rfl⟩, fun c c' v v' _ _ _ h => (by cases h)⟩, ?_, fun c v x _ h => (by cases h), ?_, ?_, fun c v x _ h => (by cases h), fun x hx => ⟨?_, fun hX => ?_⟩, fun x hX => ?_⟩, ⟨fun c _ id => ⟨fun h => (by cases h), fun ⟨e, h, _⟩ => (by cases h)⟩, fun c _ => List.nodup_nil, fun c _ => Nat.zero_le _⟩⟩
    · simp only
      omega
    · simp only
      omega
    · simp only
      omega
    · simp only [a1]
      omega
    · have := HX.out x hX
      omega
    · have := HX.out x hX
      simp only [a1]
      omega
  · exact (by repeat (with_reducible (first | exact Below.refl _ _ | assumption | apply ext_alloc)))
set_option maxRecDepth 100000 in
set_option maxHeartbeats 4000000 in
theorem imany_c (w : World) (g m : Nat) (D : Int → Option En) (S X : Nat → Prop) (q : GP) (h : GR w g m D S X q) : Calls Try.prog 21 #[.pointer (some ⟨g, 0, none⟩)] w fun e w' => e = .returned (.int .i64 q.n) ∧ w = w' := by
  obtain ⟨F, hF, _⟩ := h.raw.box
  have HF := Lib.hid hF
  have hb := h.raw.blk
  obtain ⟨z, c, f⟩ := id hb
  clear hF h hb
  go_enter Try.func21, Try.ntmps21
  go_wp2_with (at_len; refine at_len1 rfl _ rfl Try.underlying117 rfl HF.out ?_)
  go_ret
  exact ⟨rfl, rfl⟩
end Go.Proofs.Ytefhmbmbhiehdaa
