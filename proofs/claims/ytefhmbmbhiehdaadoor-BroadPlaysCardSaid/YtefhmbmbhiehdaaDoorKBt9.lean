/- broad.wrong, broad.beyond, broad.New; the tree as a whole, with the map of boxes. Conditions: none. -/
import Derived.Test.YtefhmbmbhiehdaaDoorKBt8
import Derived.Test.YtefhmbmbhiehdaaDoorKH
import Derived.Test.YtefhmbmbhiehdaaDoorKErr
namespace Go.Proofs.YtefhmbmbhiehdaaDoor
open Go Go.Maps Go.RowKit Go.BigFrame Go.ChangeShapes Go.WideShapes
/-- a box as a value -/
def bxV (b : Bx) : Value := .agg #[.int .i64 b.a1, .int .i64 b.a2, .int .i64 b.a3, .int .i64 b.b1, .int .i64 b.b2, .int .i64 b.b3]
def wrongX (b : Bx) : Bool := decide (b.b1 < b.a1) || decide (b.b2 < b.a2) || decide (b.b3 < b.a3)
def beyondX (b : Bx) : Bool := decide (min (min b.a1 b.a2) b.a3 < -70368744177664) || decide (70368744177664 < max (max b.b1 b.b2) b.b3)
theorem wrong_c (b : Bx) {v : Bool} (hv : wrongX b = v) (w : World) : Calls Tryd.prog 17 #[bxV b] w fun e w' => e = .returned (.bool v) ∧ Below w.heap.size w w' := by
  obtain ⟨a1, a2, a3, a4, a5, a6⟩ := b
  subst hv
  unfold bxV wrongX
  go_enter Tryd.func17, Tryd.ntmps17
  go_wp2
  all_goals
    go_ret
    refine ⟨?_, (by repeat (with_reducible (first | exact Below.refl _ _ | assumption | apply ext_drew | apply ext_drewN | apply ext_alloc | apply ext_more | (refine ext_setCell ?_ (by first | assumption | (simp <;> omega)) _) | (refine ext_below ?_ (by assumption)))))⟩
    refine congrArg (fun b => Ending.returned (Value.bool b)) ?_
    first
    | rfl
    | (rw [Bool.eq_iff_iff]; simp only [Bool.or_eq_true, decide_eq_true_eq, true_iff]; omega)
theorem beyond_c (b : Bx) {v : Bool} (hv : beyondX b = v) (w : World) : Calls Tryd.prog 18 #[bxV b] w fun e w' => e = .returned (.bool v) ∧ Below w.heap.size w w' := by
  obtain ⟨a1, a2, a3, a4, a5, a6⟩ := b
  subst hv
  unfold bxV beyondX
  go_enter Tryd.func18, Tryd.ntmps18
  go_wp2
  all_goals
    go_ret
    refine ⟨?_, (by repeat (with_reducible (first | exact Below.refl _ _ | assumption | apply ext_drew | apply ext_drewN | apply ext_alloc | apply ext_more | (refine ext_setCell ?_ (by first | assumption | (simp <;> omega)) _) | (refine ext_below ?_ (by assumption)))))⟩
    refine congrArg (fun b => Ending.returned (Value.bool b)) ?_
    rw [Bool.eq_iff_iff]
    simp only [Bool.or_eq_true, decide_eq_true_eq, true_iff]
    omega
/-- all of a tree's own blocks -/
def BB (t : Nat) (s : BT) (x : Nat) : Prop := TB t s x ∨ x = s.bx
/-- the tree in memory: D the bodies' boxes, n how many -/
structure BWx (w : World) (t : Nat) (s : BT) (M : Nat → Nat → Int) (F : List Nat) (m mb n : Nat) (f : Int → Option Nat) (o : Option Tr) (D : Int → Option Bx) : Prop where
  tw : TW w t s M F m n f
  tre : Tre s.som s.root s.nn M F n f o
  bxm : VI w s.bx mb n (fun id => (D id).map bxV)
  bxs : Bxs M f D
  bt : s.bx ≠ t
  bn : s.bx ≠ s.nb
  bl : s.bx ≠ s.lf
  bf : s.fv.ownBlock ≠ some s.bx
theorem BWx.below {w w' : World} {t : Nat} {s : BT} {M : Nat → Nat → Int} {F : List Nat} {m mb n : Nat} {f : Int → Option Nat} {o : Option Tr} {D : Int → Option Bx} (h : BWx w t s M F m mb n f o D) (k : Below w.heap.size w w') : BWx w' t s M F m mb n f o D :=
  ⟨h.tw.below k, h.tre, h.bxm.below k, h.bxs, h.bt, h.bn, h.bl, h.bf⟩
theorem BWx.mod {w w' : World} {S : Nat → Prop} {t : Nat} {s : BT} {M : Nat → Nat → Int} {F : List Nat} {m mb n : Nat} {f : Int → Option Nat} {o : Option Tr} {D : Int → Option Bx} (h : BWx w t s M F m mb n f o D) (k : Mod S w w') (hs : ∀ x, BB t s x → ¬ S x) : BWx w' t s M F m mb n f o D :=
  ⟨h.tw.mod k (fun x hx => hs x (.inl hx)), h.tre, h.bxm.mod k (hs _ (.inr rfl)), h.bxs, h.bt, h.bn, h.bl, h.bf⟩
theorem BWx.lt {w : World} {t : Nat} {s : BT} {M : Nat → Nat → Int} {F : List Nat} {m mb n : Nat} {f : Int → Option Nat} {o : Option Tr} {D : Int → Option Bx} (h : BWx w t s M F m mb n f o D) : ∀ x, BB t s x → x < w.heap.size := by
  rintro x ((e | e | e | e) | e)
  · exact e ▸ h.tw.blk.lt
  · exact e ▸ h.tw.nt.lt
  · exact (row_lt h.tw.free e).1
  · exact e ▸ h.tw.lfm.lt
  · exact e ▸ h.bxm.lt
/-- what Put, or Remove, leaves -/
structure PutP (w w' : World) (t : Nat) (s : BT) (m mb n' : Nat) (D' : Int → Option Bx) (s' : BT) (M' : Nat → Nat → Int) (F' : List Nat) (m' mb' : Nat) (f' : Int → Option Nat) (o' : Option Tr) : Prop where
  bw : BWx w' t s' M' F' m' mb' n' f' o' D'
  fat : s'.fat = s.fat
  m : m' ≤ m + 1
  mb : mb' ≤ mb + 1
  nn : s'.nn ≤ s.nn + 2
  mod : Mod (BB t s) w w'
  own : ∀ x, BB t s' x → BB t s x ∨ w.heap.size ≤ x
/-- the boxes with this one -/
def updD (D : Int → Option Bx) (id : Int) (b : Bx) : Int → Option Bx := fun y => if y = id then some b else D y
def delD (D : Int → Option Bx) (id : Int) : Int → Option Bx := fun y => if y = id then none else D y
theorem bx_more (D : Int → Option Bx) (id : Int) (b : Bx) : (fun y => if y = id then some (bxV b) else (D y).map bxV) = fun y => (updD D id b y).map bxV := by
  funext y
  by_cases e : y = id <;> simp [e, updD]
theorem bx_less (D : Int → Option Bx) (id : Int) : (fun y => if y = id then none else (D y).map bxV) = fun y => (delD D id y).map bxV := by
  funext y
  by_cases e : y = id <;> simp [e, delD]
/-- a new tree -/
structure BF (w : World) (t lf bx : Nat) (fat : Int) : Prop where
  blk : Blk w t #[.slice none 0 0, .slice none 0 0, .int .i64 0, .bool false, .map (some lf), .map (some bx), .int .i64 fat]
  lfm : VI w lf 0 0 (fun _ => none)
  bxm : VI w bx 0 0 (fun _ => none)
  lt : lf ≠ t
  bt : bx ≠ t
  bl : bx ≠ lf
def BFB (t lf bx x : Nat) : Prop := x = t ∨ x = lf ∨ x = bx
theorem BF.mod {S : Nat → Prop} {w w' : World} {t lf bx : Nat} {fat : Int} (h : BF w t lf bx fat) (k : Mod S w w') (hs : ∀ x, BFB t lf bx x → ¬ S x) : BF w' t lf bx fat :=
  ⟨h.blk.mod k (hs _ (.inl rfl)), h.lfm.mod k (hs _ (.inr (.inl rfl))), h.bxm.mod k (hs _ (.inr (.inr rfl))), h.lt, h.bt, h.bl⟩
theorem BF.below {w w' : World} {t lf bx : Nat} {fat : Int} (h : BF w t lf bx fat) (k : Below w.heap.size w w') : BF w' t lf bx fat := h.mod (S := fun _ => False) (Mod.of_below k) (fun _ _ h => h)
theorem BF.blt {w : World} {t lf bx : Nat} {fat : Int} (h : BF w t lf bx fat) : ∀ x, BFB t lf bx x → x < w.heap.size := by
  rintro x (e | e | e)
  · exact e ▸ h.blk.lt
  · exact e ▸ h.lfm.lt
  · exact e ▸ h.bxm.lt
/-- the tree in memory, p how many Puts there were at most, S its blocks -/
def BW (w : World) (t : Nat) (fat : Int) (p : Nat) (D : Int → Option Bx) (n : Nat) (S : Nat → Prop) : Prop :=
  ((∃ lf bx, BF w t lf bx fat ∧ D = (fun _ => none) ∧ n = 0 ∧ ∀ x, BFB t lf bx x → S x) ∨
  ∃ (s : BT) (M : Nat → Nat → Int) (F : List Nat) (m mb : Nat) (f : Int → Option Nat) (o : Option Tr), BWx w t s M F m mb n f o D ∧ s.fat = fat ∧ m ≤ p ∧ mb ≤ p ∧ s.nn ≤ 2 * p ∧ n ≤ 60 ∧ (∀ x, BB t s x → S x)) ∧ ∀ x, S x → x < w.heap.size
theorem BW.mod {w w' : World} {t p n : Nat} {fat : Int} {D : Int → Option Bx} {S R : Nat → Prop} (h : BW w t fat p D n S) (k : Mod R w w') (hs : ∀ x, S x → ¬ R x) : BW w' t fat p D n S := by
  obtain ⟨h, h7⟩ := h
  refine ⟨?_, fun x hx => Nat.lt_of_lt_of_le (h7 x hx) k.size⟩
  rcases h with ⟨lf, bx, hF, hD, hn, hS⟩ | ⟨s, M, F, m, mb, f, o, hX, h1, h2, h3, h4, h5, h6⟩
  · exact .inl ⟨lf, bx, hF.mod k (fun x hx => hs x (hS x hx)), hD, hn, hS⟩
  · exact .inr ⟨s, M, F, m, mb, f, o, hX.mod k (fun x hx => hs x (h6 x hx)), h1, h2, h3, h4, h5, h6⟩
theorem BW.below {w w' : World} {t p n : Nat} {fat : Int} {D : Int → Option Bx} {S : Nat → Prop} (h : BW w t fat p D n S) (k : Below w.heap.size w w') : BW w' t fat p D n S := h.mod (R := fun _ => False) (Mod.of_below k) (fun _ _ h => h)
theorem BW.le {w : World} {t p p' n : Nat} {fat : Int} {D : Int → Option Bx} {S : Nat → Prop} (h : BW w t fat p D n S) (hp : p ≤ p') : BW w t fat p' D n S := by
  obtain ⟨h, h7⟩ := h
  refine ⟨h.imp id ?_, h7⟩
  rintro ⟨s, M, F, m, mb, f, o, hX, h1, h2, h3, h4, h5, h6⟩
  exact ⟨s, M, F, m, mb, f, o, hX, h1, by omega, by omega, by omega, h5, h6⟩
theorem BW.of {w w' : World} {t p : Nat} {fat : Int} {s : BT} {m mb n' : Nat} {D' : Int → Option Bx} {S : Nat → Prop} {s' : BT} {M' : Nat → Nat → Int} {F' : List Nat} {m' mb' : Nat} {f' : Int → Option Nat} {o' : Option Tr}
    (hS : ∀ x, BB t s x → S x) (hL : ∀ x, S x → x < w.heap.size) (h1 : s.fat = fat) (h2 : m ≤ p) (h3 : mb ≤ p) (h4 : s.nn ≤ 2 * p) (hn : n' ≤ 60) (h : PutP w w' t s m mb n' D' s' M' F' m' mb' f' o') :
    Mod S w w' ∧ ∃ S', BW w' t fat (p + 1) D' n' S' ∧ ∀ x, S' x → S x ∨ w.heap.size ≤ x :=
  ⟨h.mod.mono (fun x _ hx => hS x hx), fun x => S x ∨ BB t s' x, ⟨.inr ⟨s', M', F', m', mb', f', o', h.bw, h.fat.trans h1, by have := h.m; omega, by have := h.mb; omega, by have := h.nn; omega, hn, fun x hx => .inr hx⟩, fun x hx => hx.elim (fun e => Nat.lt_of_lt_of_le (hL x e) h.mod.size) (fun e => h.bw.lt x e)⟩, fun x hx => hx.elim .inl (fun e => (h.own x e).imp (hS x) id)⟩
/-- New -/
theorem bnew_c (fat : Int) (hf : 0 ≤ fat ∧ fat ≤ 3276800) (w : World) : Calls Tryd.prog 4 #[.int .i64 fat] w fun e w' => ∃ t S, e = .returned (.tuple #[.pointer (some ⟨t, 0, none⟩), .nilIface]) ∧ Below w.heap.size w w' ∧ BW w' t fat 0 (fun _ => none) 0 S ∧ ∀ x, S x → w.heap.size ≤ x := by
  have h0 : 0 ≤ fat := hf.1
  have h1 : fat ≤ 3276800 := hf.2
  clear hf
  have hmk := @run_makeMap Tryd.prog
  go_enter Tryd.func4, Tryd.ntmps4
  go_wp2
  exact bodyPost_ret (v := .tuple #[.pointer (some ⟨w.heap.size + 1 + 1, 0, none⟩), .nilIface]) (by simp [results, Tryd.results4, go_sem, *]) rfl (by
    refine ⟨w.heap.size + 1 + 1, fun x => w.heap.size ≤ x ∧ x < w.heap.size + 3, rfl, (by repeat (with_reducible (first | exact Below.refl _ _ | assumption | apply ext_drew | apply ext_drewN | apply ext_alloc | apply ext_more | (refine ext_setCell ?_ (by first | assumption | (simp <;> omega)) _) | (refine ext_below ?_ (by assumption))))), ⟨.inl ⟨w.heap.size, w.heap.size + 1, ⟨by apply Blk.at; simp, ((vi_made _).below (ballocT _ _)).below (ballocT _ _), ?_, by omega, by omega, by omega⟩, rfl, rfl, ?_⟩, ?_⟩, fun x hx => hx.1⟩
    · have h := (vi_made (w.alloc (.map #[] 0))).below (ballocT _ (.cells #[.slice none 0 0, .slice none 0 0, .int .i64 0, .bool false, .map (some w.heap.size), .map (some (w.heap.size + 1)), .int .i64 fat] 56))
      simpa using h
    · rintro x (e | e | e) <;> omega
    · intro x hx
      have a1 : ∀ (w : World) (o : Obj), (w.alloc o).heap.size = w.heap.size + 1 := fun w o => by simp
      simp only [a1]
      omega)
end Go.Proofs.YtefhmbmbhiehdaaDoor
