/- Blocks keep their size: a slice of bodies stays a row of its own. Conditions: none. -/
import Derived.Test.YtniahipadfgkbaaGreatKS1
import Derived.Test.YtniahipadfgkbaaGreatKOpen
import Derived.Laws.AppendOwnNone
namespace Go.Proofs.YtniahipadfgkbaaGreat
open Go.ChangeShapes Go.WideShapes Go.ChangeAt Go.RowKit Go.BigFrame
section
variable {H : Type} {enc : TypeId × Value → H} {P : Program} {w : World} {base : Nat} {spare : Nat → Bool} {held : Bool}
end
/-- the slice (A, n, _) is n bodies, all in one block from base on -/
def OwnB (base : Nat) (w : World) (A : Option Addr) (n : Nat) (M : Nat → Nat → Int) : Prop := 0 < n → ∃ b, A = some ⟨b, 0, none⟩ ∧ base ≤ b ∧ Tab w b n 17 M
section
variable {base : Nat} {w w' : World} {A : Option Addr} {n : Nat} {M : Nat → Nat → Int}
theorem OwnB.below (h : OwnB base w A n M) (k : Below w.heap.size w w') : OwnB base w' A n M := fun hn => by
  obtain ⟨b, e, hb, h⟩ := h hn
  exact ⟨b, e, hb, h.below k⟩
theorem OwnB.own (h : OwnB base w A n M) : Own w A n M := fun hn => by
  obtain ⟨b, e, _, h⟩ := h hn
  exact ⟨b, e, h⟩
theorem OwnB.mono {base' : Nat} (h : OwnB base w A n M) (k : base' ≤ base) : OwnB base' w A n M := fun hn => by
  obtain ⟨b, e, hb, h⟩ := h hn
  exact ⟨b, e, Nat.le_trans k hb, h⟩
end
theorem ownB_of_row {w : World} {base : Nat} {e : TypeId} {n : Nat} {v : Value} {M : Nat → Nat → Int} (h : w.ownsRow base e 17 v n (rowsL M 17 n)) : ∃ A cap, v = .slice A n cap ∧ OwnB base w A n M := by
  rcases Nat.eq_zero_or_pos n with rfl | hn
  · obtain ⟨_, ⟨hv, _⟩ | ⟨g, cap, cur, hv, _, _, hnc, _⟩⟩ := h
    · exact ⟨none, 0, hv, fun h => absurd h (by omega)⟩
    · exact ⟨_, cap, hv, fun h => absurd h (by omega)⟩
  · obtain ⟨g, cap, hv, hb, hnc, _, hT⟩ := tab_of_own h hn
    exact ⟨_, cap, hv, fun _ => ⟨g, rfl, hb, hT⟩⟩
theorem clone_0 (w : World) : Calls Tryz.prog 19 #[.slice none 0 0] w fun e w' => e = .returned (.slice none 0 0) ∧ w = w' := by
  have hnil := @Lib.run_eql_slice_nil Tryz.prog
  go_enter Tryz.func19, Tryz.ntmps19
  go_wp2
  go_ret
  exact ⟨rfl, rfl⟩
/-! ### plain: one touch -/
/-- two bodies that touch, moved apart -/
def placeGo (M : Nat → Nat → Int) (i k : Nat) (g1 g2 g3 dp : Int) : Nat → Nat → Int :=
  if 0 < add (light (M i 15)) (light (M k 15)) then
    put3 (put3 M i 6 (clamp 65536000 (sub (M i 6) (mul g1 (mul (div (sub dp 655 / 5) (add (light (M i 15)) (light (M k 15)))) (light (M i 15)))))) (clamp 65536000 (sub (M i 7) (mul g2 (mul (div (sub dp 655 / 5) (add (light (M i 15)) (light (M k 15)))) (light (M i 15)))))) (clamp 65536000 (sub (M i 8) (mul g3 (mul (div (sub dp 655 / 5) (add (light (M i 15)) (light (M k 15)))) (light (M i 15)))))))
      k 6 (clamp 65536000 (add (M k 6) (mul g1 (mul (div (sub dp 655 / 5) (add (light (M i 15)) (light (M k 15)))) (light (M k 15)))))) (clamp 65536000 (add (M k 7) (mul g2 (mul (div (sub dp 655 / 5) (add (light (M i 15)) (light (M k 15)))) (light (M k 15)))))) (clamp 65536000 (add (M k 8) (mul g3 (mul (div (sub dp 655 / 5) (add (light (M i 15)) (light (M k 15)))) (light (M k 15))))))
  else M
/-- both bodies of a touch are there, and are two -/
def Both (M : Nat → Nat → Int) (n : Nat) (tA tB : Int) : Prop := 0 ≤ idx M n tA ∧ 0 ≤ idx M n tB ∧ idx M n tA ≠ idx M n tB
instance (M : Nat → Nat → Int) (n : Nat) (tA tB : Int) : Decidable (Both M n tA tB) := inferInstanceAs (Decidable (_ ∧ _))
def placeStep (M : Nat → Nat → Int) (n : Nat) (tA tB g1 g2 g3 dp : Int) : Nat → Nat → Int :=
  if Both M n tA tB ∧ 655 < dp then placeGo M (idx M n tA).toNat (idx M n tB).toNat g1 g2 g3 dp else M
/-- k touches, one behind the other -/
def placesF (M T : Nat → Nat → Int) (n : Nat) : Nat → Nat → Nat → Int
  | 0 => M
  | k + 1 => placeStep (placesF M T n k) n (T k 0) (T k 1) (T k 2) (T k 3) (T k 4) (T k 5)
theorem idx_not {M : Nat → Nat → Int} {n : Nat} {x : Int} (h : ¬ 0 ≤ idx M n x) : idx M n x = -1 := by
  have := idx_bd M n x
  omega
theorem idx_lt {M : Nat → Nat → Int} {n : Nat} {x : Int} (h : 0 ≤ idx M n x) : idx M n x = ((idx M n x).toNat : Int) ∧ (idx M n x).toNat < n := by
  have := idx_bd M n x
  omega

end Go.Proofs.YtniahipadfgkbaaGreat
namespace Go.Proofs.YtniahipadfgkbaaGreat
open Go Go.ChangeShapes Go.WideShapes Go.ChangeAt Go.RowKit Go.BigFrame
/-- the blocks of cells that were there have the same size, and type -/
def Shp (w w' : World) : Prop := w.heap.size ≤ w'.heap.size ∧ ∀ (b : Nat) (cs : Array Value) (T : TypeId), w.heap[b]? = some (.cells cs T (0, 0)) → ∃ cs', w'.heap[b]? = some (.cells cs' T (0, 0)) ∧ cs'.size = cs.size
theorem Shp.refl (w : World) : Shp w w := ⟨Nat.le_refl _, fun _ cs _ h => ⟨cs, h, rfl⟩⟩
theorem Shp.trans {w w' w'' : World} (h : Shp w w') (k : Shp w' w'') : Shp w w'' := ⟨Nat.le_trans h.1 k.1, fun b cs T e => by
  obtain ⟨c1, e1, s1⟩ := h.2 b cs T e
  obtain ⟨c2, e2, s2⟩ := k.2 b c1 T e1
  exact ⟨c2, e2, s2.trans s1⟩⟩
theorem lt_of_block {w : World} {b : Nat} {o : Obj} (h : w.heap[b]? = some o) : b < w.heap.size := (Array.getElem?_eq_some_iff.1 h).1
theorem shp_below {w' w'' : World} (k : Below w'.heap.size w' w'') : Shp w' w'' := ⟨k.size, fun b cs _ e => ⟨cs, (k.block b (lt_of_block e)).trans e, rfl⟩⟩
theorem Shp.below {w w' w'' : World} (h : Shp w w') (k : Below w'.heap.size w' w'') : Shp w w'' := h.trans (shp_below k)
theorem Shp.alloc {w w' : World} (h : Shp w w') (o : Obj) : Shp w (w'.alloc o) := h.below (below_alloc _ _)
theorem Shp.drew {w w' : World} (h : Shp w w') : Shp w w'.drew := h.below (Below.refl _ _).drew
theorem Shp.drewN {w w' : World} (h : Shp w w') (n : Nat) : Shp w (w'.drewN n) := h.below (ext_drewN (Below.refl _ _) n)
theorem Shp.more {w w' : World} (h : Shp w w') (m : More) : Shp w (more w' m) := h.below (more_below w' m)
theorem shp_set (w' : World) (a : Addr) (v : Value) : Shp w' (w'.setCell a v) := by
  refine ⟨by simp, fun b cs T e => ?_⟩
  by_cases hb : a.block = b
  · subst hb
    by_cases hs : a.spot.isSome
    · exact ⟨cs, by simp [World.setCell, Array.getElem?_modify, e, hs], rfl⟩
    · exact ⟨cs.setIfInBounds a.off v, by simp [World.setCell, Array.getElem?_modify, e, hs], by simp⟩
  · exact ⟨cs, by simp [World.setCell, Array.getElem?_modify, e, hb], rfl⟩
theorem Shp.set {w w' : World} (h : Shp w w') {a : Addr} {v : Value} : Shp w (w'.setCell a v) := h.trans (shp_set _ _ _)
theorem shp_setCells (b : Nat) : ∀ (vs : List Value) (o : Nat) (w : World), Shp w (w.setCells b o vs)
  | [], _, w => Shp.refl w
  | v :: vs, o, w => (shp_set w ⟨b, o, none⟩ v).trans (shp_setCells b vs (o + 1) _)
theorem Shp.setCells {w w' : World} (h : Shp w w') (b o : Nat) (vs : List Value) : Shp w (w'.setCells b o vs) := h.trans (shp_setCells b vs o w')
/-- as Mod, and the blocks keep their size -/
structure Mds (S : Nat → Prop) (w w' : World) : Prop extends Mod S w w' where
  shp : Shp w w'
section
variable {S : Nat → Prop} {w w' w'' : World}
theorem Mds.refl (S : Nat → Prop) (w : World) : Mds S w w := ⟨Mod.refl S w, Shp.refl w⟩
theorem Mds.trans (h : Mds S w w') (k : Mds S w' w'') : Mds S w w'' := ⟨h.toMod.trans k.toMod, h.shp.trans k.shp⟩
theorem Mds.below (h : Mds S w w') (k : Below w'.heap.size w' w'') : Mds S w w'' := ⟨h.toMod.below k, h.shp.below k⟩
theorem Mds.alloc (h : Mds S w w') (o : Obj) : Mds S w (w'.alloc o) := ⟨h.toMod.alloc o, h.shp.alloc o⟩
theorem Mds.drew (h : Mds S w w') : Mds S w w'.drew := ⟨h.toMod.drew, h.shp.drew⟩
theorem Mds.drewN (h : Mds S w w') (n : Nat) : Mds S w (w'.drewN n) := ⟨h.toMod.drewN n, h.shp.drewN n⟩
theorem Mds.more (h : Mds S w w') (m : More) : Mds S w (more w' m) := ⟨h.toMod.more m, h.shp.more m⟩
theorem Mds.set (h : Mds S w w') {g i : Nat} {v : Value} (hg : S g ∨ w.heap.size ≤ g) : Mds S w (w'.setCell ⟨g, i, none⟩ v) := ⟨h.toMod.set hg, h.shp.set⟩
theorem Shp.mds (h : Shp w w') (k : Mds S w' w'') : Shp w w'' := h.trans k.shp
end
/-- the slice (A, n, cap) is n bodies, in one block of its own from base on -/
def RowQ (base : Nat) (w : World) (A : Option Addr) (n cap : Nat) (M : Nat → Nat → Int) : Prop := w.ownsRow base 37 17 (.slice A n cap) n (rowsL M 17 n)
section
variable {base n cap : Nat} {w w' : World} {A : Option Addr} {M : Nat → Nat → Int}
theorem RowQ.own (h : RowQ base w A n cap M) : OwnB base w A n M := by
  obtain ⟨A', cap', hv, hO⟩ := ownB_of_row h
  cases hv
  exact hO
theorem RowQ.nil (h : RowQ base w A n cap M) : A = none → n = 0 ∧ cap = 0 := by
  obtain ⟨_, ⟨hv, h0⟩ | ⟨g, c, cur, hv, _⟩⟩ := h
  · cases hv; exact fun _ => ⟨rfl, rfl⟩
  · cases hv; exact fun e => by cases e
theorem RowQ.mono {base' : Nat} (h : RowQ base w A n cap M) (k : base' ≤ base) : RowQ base' w A n cap M := by
  obtain ⟨hl, hv | ⟨g, c, cur, hv, hg, hr⟩⟩ := h
  · exact ⟨hl, .inl hv⟩
  · exact ⟨hl, .inr ⟨g, _, cur, hv, Nat.le_trans k hg, hr⟩⟩
theorem RowQ.eq {M' : Nat → Nat → Int} (h : RowQ base w A n cap M) (e : ∀ k, k < n → ∀ j, j < 17 → M k j = M' k j) : RowQ base w A n cap M' := by
  have : rowsL M 17 n = rowsL M' 17 n := by
    unfold rowsL
    refine List.map_congr_left fun q hq => ?_
    have hq' : q < n * 17 := by simpa using hq
    rw [e (q / 17) (by omega) (q % 17) (by omega)]
  unfold RowQ
  rw [← this]
  exact h
/-- its rows are written anew, its size is as it was -/
theorem RowQ.shp {w1 : World} {base' : Nat} {M' : Nat → Nat → Int} (h : RowQ base w1 A n cap M) (k : Shp w1 w') (hO : OwnB base' w' A n M') : RowQ base w' A n cap M' := by
  obtain ⟨hl, ⟨hv, h0⟩ | ⟨g, c, cur, hv, hg, hb, hnc, hcm, hs, ht⟩⟩ := h
  · exact ⟨by rw [rowsL_length], .inl ⟨hv, h0⟩⟩
  · cases hv
    obtain ⟨cur', hb', hs'⟩ := k.2 g cur _ hb
    refine ⟨by rw [rowsL_length], .inr ⟨g, _, cur', rfl, hg, hb', hnc, hcm, hs'.trans hs, ?_⟩⟩
    have hle : n * 17 ≤ cur'.size := by
      rw [hs', hs]
      exact Nat.mul_le_mul_right 17 hnc
    rcases Nat.eq_zero_or_pos n with rfl | hn
    · simp [rowsL]
    obtain ⟨b, e, _, cs, T, hcb, hcs⟩ := hO hn
    cases e
    rw [hb'] at hcb
    cases hcb
    refine List.ext_getElem? fun q => ?_
    rcases Nat.lt_or_ge q (n * 17) with hq | hq
    · have h1 := hcs (q / 17) (by omega) (q % 17) (by omega)
      have h2 := rowsL_get M' (c := 17) (n := n) (k := q / 17) (j := q % 17) (by omega) (by omega)
      have e1 : q / 17 * 17 + q % 17 = q := by omega
      rw [e1] at h1 h2
      rw [h2, List.getElem?_take_of_lt hq, Array.getElem?_toList, h1]
    · rw [List.getElem?_eq_none (by simp; omega), List.getElem?_eq_none (by rw [rowsL_length]; omega)]
theorem RowQ.below (h : RowQ base w A n cap M) (k : Below w.heap.size w w') : RowQ base w' A n cap M := h.shp (shp_below k) (h.own.below k)
theorem RowQ.mod {S : Nat → Prop} (h : RowQ base w A n cap M) (k : Mod S w w') (hs : ∀ g, A = some ⟨g, 0, none⟩ → ¬ S g) : RowQ base w' A n cap M := by
  obtain ⟨hl, hv | ⟨g, c, cur, hv, hg, hb, hr⟩⟩ := h
  · exact ⟨hl, .inl hv⟩
  · cases hv
    exact ⟨hl, .inr ⟨g, _, cur, rfl, hg, (k.block g (lt_of_block hb) (hs g rfl)).trans hb, hr⟩⟩
end
/-- append([]api.Body{}, bodies...) -/
theorem append_row {ops : Array Oper} {rest : List Oper} {o : Oper} {a : Act} {Q : Exit → Act → World → Prop} (hgd : o.guard = none) (s x : Operand)
    (ho : o.op = .call { callee := .builtin .append, args := #[s, x], argTypes := #[22, 22] }) (w : World) (hs : a.eval s = .slice (some ⟨w.heap.size, 0, none⟩) 0 0) (M : Nat → Nat → Int) (A : Option Addr) (n cap : Nat) (hx : a.eval x = .slice A n cap)
    (hR : Reads w A n 17 M) (hA : A = none → n = 0 ∧ cap = 0) (hn : n ≤ 1000000)
    (h : ∀ A' cap' w', RowQ w.heap.size w' A' n cap' M → Below w.heap.size w w' → wpList Tryz.prog ops Q rest (a.put o.dst (.slice A' n cap')) w') : wpList Tryz.prog ops Q (o :: rest) a (w.alloc (.cells #[] 37)) := by
  obtain ⟨i0, hi, hz0, hz1, hz2⟩ := info_parts bodyInfo2
  cases A with
  | none =>
    obtain ⟨rfl, rfl⟩ := hA rfl
    refine wpList_append_own_none hgd s x 22 ho w.heap.size 37 i0 17 Tryz.underlying22 hi _ 0 [] hs (own_empty 37 17) hx ?_
    exact h _ _ _ (own_empty 37 17) (below_alloc _ _)
  | some ad =>
    refine wpList_append_own _ hgd s x 22 ho w.heap.size 37 i0 (.agg #[.int .i64 0, .int .i64 0, .int .i64 0, .int .i64 0, .int .i64 0, .int .i64 0, .int .i64 0, .int .i64 0, .int .i64 0, .int .i64 0, .int .i64 0, .int .i64 0, .int .i64 0, .int .i64 0, .int .i64 0, .int .i64 0, .int .i64 0]) 17 136 Tryz.underlying22 hi hz0 hz1 hz2 rfl (by decide) _ 0 [] hs (own_empty 37 17) ad n cap (rowsL M 17 n) hx (rowsL_length M 17 n) ?c1 (rowsL_one M 17 n) (by unfold maxLen; omega) (by omega) (by simp) ?_
    case c1 =>
      intro j u hu
      have hn0 : 0 < n := by
        have := (List.getElem?_eq_some_iff.1 hu).1
        rw [rowsL_length] at this
        omega
      obtain ⟨b, ao, e, hb, hc⟩ := hR hn0
      cases e
      rw [World.cell?_alloc_lt _ _ _ (by unfold Addr.add; split <;> exact hb)]
      exact rowsL_cells (by decide) hc j u hu
    intro v' w' hown hgrow _
    simp only [Nat.zero_add, List.nil_append] at hown
    obtain ⟨A', cap', hv, hO⟩ := ownB_of_row hown
    subst hv
    exact h _ _ _ hown ⟨hgrow.os, hgrow.tape, hgrow.output, Nat.le_trans (by simp) hgrow.size, fun k hk => (hgrow.block k (by simp; omega) (by simp only [Value.ownBlock, ne_eq, Option.some.injEq]; omega)).trans (Below.heap_alloc w _ k hk)⟩
set_option maxRecDepth 100000 in
set_option maxHeartbeats 2000000 in
theorem clone_r1 (M : Nat → Nat → Int) (ad : Addr) (n cap : Nat) (w : World) (hR : Reads w (some ad) n 17 M) (hn : n ≤ 1000000) :
    Calls Tryz.prog 19 #[.slice (some ad) n cap] w fun e w' => ∃ A' cap', e = .returned (.slice A' n cap') ∧ RowQ w.heap.size w' A' n cap' M ∧ Below w.heap.size w w' := by
  have hnil := @Lib.run_eql_slice_nil Tryz.prog
  go_enter Tryz.func19, Tryz.ntmps19
  go_wp2_with (at_builtin; refine append_row rfl (.tmp 5) (.tmp 6) rfl w rfl M (some ad) n cap rfl hR (fun h => by cases h) hn ?_)
  rintro A' cap' w' hO hb
  go_wp2
  go_ret
  exact ⟨A', cap', rfl, hO, hb⟩
theorem clone_r (M : Nat → Nat → Int) (A : Option Addr) (n cap : Nat) (w : World) (hR : Reads w A n 17 M) (hA : A = none → n = 0 ∧ cap = 0) (hn : n ≤ 1000000) :
    Calls Tryz.prog 19 #[.slice A n cap] w fun e w' => ∃ A' cap', e = .returned (.slice A' n cap') ∧ RowQ w.heap.size w' A' n cap' M ∧ Below w.heap.size w w' := by
  cases A with
  | none =>
    obtain ⟨rfl, rfl⟩ := hA rfl
    exact (clone_0 w).mono fun e w' ⟨he, hw⟩ => ⟨none, 0, he, ⟨by rw [rowsL_length], .inl ⟨rfl, rfl⟩⟩, by subst hw; exact Below.refl _ _⟩
  | some ad => exact clone_r1 M ad n cap w hR hn
end Go.Proofs.YtniahipadfgkbaaGreat
