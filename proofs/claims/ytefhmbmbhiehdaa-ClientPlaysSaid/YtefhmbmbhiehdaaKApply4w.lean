/- The ways 'new' and 'changed' of gyreref.Apply. Conditions: none but that there are not too many. -/
import Derived.Test.YtefhmbmbhiehdaaKApply2
import Derived.Test.YtefhmbmbhiehdaaKApply3
import Derived.Laws.EntriesVeiled
import Derived.Laws.OwnMore
import Derived.Deep.CutRange
namespace Go.Proofs.Ytefhmbmbhiehdaa
open Go.ChangeShapes Go.WideShapes Go.ChangeAt Go.RowKit Go.BigFrame
open B
section
variable {T : List Nat} {f a ga da : Nat} {all D pre t : List Sn} {last gn ge dn de : Int} {n : Sn × (Nat × Bool)} {r : Sn}
theorem R_bad (hg : getD T a 2 = (gn, ge, ga)) (h : ge ≠ 0) : applyR T (f + 1) a all last = none := by unfold applyR; simp only [hg]; rw [if_pos h]
theorem R_end (hg : getD T a 2 = (3, 0, ga)) : applyR T (f + 1) a all last = some all := by unfold applyR; simp only [hg]; rfl
theorem R_var (hg : getD T a 2 = (gn, 0, ga)) (h3 : gn ≠ 3) (hd : varD T ga = (dn, de, da)) (h : de ≠ 0 ∨ 1099511627776 < dn ∨ 120 < all.length) : applyR T (f + 1) a all last = none := by
  unfold applyR; simp only [hg, hd]; rw [if_neg (by simp), if_neg h3, if_pos h]
theorem R_go (hg : getD T a 2 = (gn, 0, ga)) (h3 : gn ≠ 3) (hd : varD T ga = (dn, 0, da)) (h : dn ≤ 1099511627776) (hl : all.length ≤ 120) : applyR T (f + 1) a all last =
    match highR (last + (dn + 1)) all with
    | [] => if gn = 1 then (if (newR T (last + (dn + 1)) (da, false)).2.2 = true then none else applyR T f (newR T (last + (dn + 1)) (da, false)).2.1 (lowR (last + (dn + 1)) all ++ [(newR T (last + (dn + 1)) (da, false)).1]) (last + (dn + 1))) else none
    | r :: rest2 => if r.id = last + (dn + 1) then (if gn = 1 then none else if gn = 0 then applyR T f da (lowR (last + (dn + 1)) all ++ rest2) (last + (dn + 1)) else
          (if (changeR T r (da, false)).2.2 = true then none else applyR T f (changeR T r (da, false)).2.1 (lowR (last + (dn + 1)) all ++ (changeR T r (da, false)).1 :: rest2) (last + (dn + 1))))
        else (if gn = 1 then (if (newR T (last + (dn + 1)) (da, false)).2.2 = true then none else applyR T f (newR T (last + (dn + 1)) (da, false)).2.1 (lowR (last + (dn + 1)) all ++ (newR T (last + (dn + 1)) (da, false)).1 :: r :: rest2) (last + (dn + 1))) else none) := by
  conv => lhs; unfold applyR
  simp only [hg, hd]
  rw [if_neg (by simp), if_neg h3, if_neg (by rintro (h' | h' | h'); exact h' rfl; omega; omega)]
  rfl
theorem R_no (hg : getD T a 2 = (gn, 0, ga)) (h3 : gn ≠ 3) (hd : varD T ga = (dn, 0, da)) (h : dn ≤ 1099511627776) (hl : all.length ≤ 120) (hD : highR (last + (dn + 1)) all = D) (hN : NoRow (last + (dn + 1)) D) (h1 : gn ≠ 1) : applyR T (f + 1) a all last = none := by
  rw [R_go hg h3 hd h hl, hD]
  cases D with
  | nil => simp only []; rw [if_neg h1]
  | cons r t => simp only []; rw [if_neg (hN r t rfl), if_neg h1]
theorem R_new (hg : getD T a 2 = (1, 0, ga)) (hd : varD T ga = (dn, 0, da)) (h : dn ≤ 1099511627776) (hl : all.length ≤ 120) (hO : lowR (last + (dn + 1)) all = pre) (hD : highR (last + (dn + 1)) all = D) (hN : NoRow (last + (dn + 1)) D) (hn : newR T (last + (dn + 1)) (da, false) = n) :
    applyR T (f + 1) a all last = if n.2.2 = true then none else applyR T f n.2.1 (pre ++ n.1 :: D) (last + (dn + 1)) := by
  rw [R_go hg (by decide) hd h hl, hD, hn, hO]
  cases D with
  | nil => rfl
  | cons r t => simp only []; rw [if_neg (hN r t rfl), if_pos trivial]
theorem R_dup (hg : getD T a 2 = (1, 0, ga)) (hd : varD T ga = (dn, 0, da)) (h : dn ≤ 1099511627776) (hl : all.length ≤ 120) (hD : highR (last + (dn + 1)) all = r :: t) (hr : r.id = last + (dn + 1)) : applyR T (f + 1) a all last = none := by
  rw [R_go hg (by decide) hd h hl, hD]
  simp only []
  rw [if_pos hr, if_pos trivial]
theorem R_gone (hg : getD T a 2 = (0, 0, ga)) (hd : varD T ga = (dn, 0, da)) (h : dn ≤ 1099511627776) (hl : all.length ≤ 120) (hO : lowR (last + (dn + 1)) all = pre) (hD : highR (last + (dn + 1)) all = r :: t) (hr : r.id = last + (dn + 1)) : applyR T (f + 1) a all last = applyR T f da (pre ++ t) (last + (dn + 1)) := by
  rw [R_go hg (by decide) hd h hl, hD, hO]
  simp only []
  rw [if_pos hr, if_neg (by decide), if_pos trivial]
theorem R_chg (hg : getD T a 2 = (gn, 0, ga)) (h3 : gn ≠ 3) (h1 : gn ≠ 1) (h0 : gn ≠ 0) (hd : varD T ga = (dn, 0, da)) (h : dn ≤ 1099511627776) (hl : all.length ≤ 120) (hO : lowR (last + (dn + 1)) all = pre) (hD : highR (last + (dn + 1)) all = r :: t) (hr : r.id = last + (dn + 1)) (hn : changeR T r (da, false) = n) :
    applyR T (f + 1) a all last = if n.2.2 = true then none else applyR T f n.2.1 (pre ++ n.1 :: t) (last + (dn + 1)) := by
  rw [R_go hg h3 hd h hl, hD, hO]
  simp only []
  rw [if_pos hr, if_neg h1, if_neg h0, hn]
end
theorem seenInfoR : (Try.prog.info? 102).map (fun i => (i.zero, i.size, i.bytes)) = some (some (.agg #[.int .i64 0, .int .i64 0, .int .i64 0, .int .i64 0, .int .i64 0, .int .i64 0, .int .i64 0, .int .i64 0, .int .i64 0, .int .i64 0, .int .i64 0]), 11, 88) := by kernel_rfl
/-- the reader's blocks -/
structure Cd (w3 : World) (p q c8 c6 : Nat) (tv : Value) : Prop where
  lp : p < w3.heap.size
  lq : q < w3.heap.size
  l8 : c8 < w3.heap.size
  l6 : c6 < w3.heap.size
  d : ∀ b, tv.ownBlock = some b → b < w3.heap.size
  n8 : c8 ≠ p ∧ c8 ≠ q
  n6 : c6 ≠ p ∧ c6 ≠ q
/-- the rows that there are, in a block of the call's own -/
structure Rw (w3 w : World) (A : Option Addr) (n SC : Nat) (all : List Sn) : Prop where
  tab : 0 < n → ∃ b, A = some ⟨b, 0, none⟩ ∧ w3.heap.size ≤ b ∧ Tab w b n 11 (mx all)
  nil : A = none → n = 0 ∧ SC = 0
  cap : n ≤ SC
structure Sd (w3 w : World) (B0 p q c8 c6 : Nat) (tv : Value) (L : List Nat) (a : Nat) (bad : Bool) (A : Option Addr) (n SC : Nat) (all : List Sn) : Prop where
  dr : DR w B0 p q tv L a bad
  rw : Rw w3 w A n SC all
  e8 : Blk w c8 #[.func (.func 83) #[] #[.pointer (some ⟨q, 0, none⟩)]]
  e6 : Blk w c6 #[.pointer (some ⟨p, 0, none⟩)]
  md : Mod (fun b => b = p ∨ b = q) w3 w
section
variable {w3 w w' : World} {B0 p q c8 c6 a a' n SC : Nat} {tv : Value} {L : List Nat} {bad bad' : Bool} {A : Option Addr} {all : List Sn}
theorem Rw.mod {S : Nat → Prop} (h : Rw w3 w A n SC all) (k : Mod S w w') (hs : 0 < n → ∀ b, w3.heap.size ≤ b → A = some ⟨b, 0, none⟩ → ¬ S b) : Rw w3 w' A n SC all :=
  ⟨fun hn => by obtain ⟨b, e, hb, hT⟩ := h.tab hn; exact ⟨b, e, hb, hT.mod k (hs hn b hb e)⟩, h.nil, h.cap⟩
theorem Sd.read (h : Sd w3 w B0 p q c8 c6 tv L a bad A n SC all) (c : Cd w3 p q c8 c6 tv) (hR : DR w' B0 p q tv L a' bad') (k : Mod (fun b => b = p ∨ b = q) w w') : Sd w3 w' B0 p q c8 c6 tv L a' bad' A n SC all :=
  ⟨hR, h.rw.mod k (fun _ b hb _ => by have := c.lp; have := c.lq; omega), h.e8.mod k (by have := c.n8; omega), h.e6.mod k (by have := c.n6; omega), h.md.trans k⟩
theorem Sd.tape (h : Sd w3 w B0 p q c8 c6 tv L a bad A n SC all) (c : Cd w3 p q c8 c6 tv) (hT : Tp w' B0 p tv L a') (k : Mod (· = p) w w') : Sd w3 w' B0 p q c8 c6 tv L a' bad A n SC all :=
  h.read c (h.dr.next hT k) (k.mono fun _ _ h => .inl h)
theorem Sd.flag (h : Sd w3 w B0 p q c8 c6 tv L a bad A n SC all) (c : Cd w3 p q c8 c6 tv) (hQ : Blk w' q #[.bool bad']) (k : Mod (· = q) w w') : Sd w3 w' B0 p q c8 c6 tv L a bad' A n SC all :=
  h.read c (h.dr.flag hQ k) (k.mono fun _ _ h => .inr h)
theorem Sd.below (h : Sd w3 w B0 p q c8 c6 tv L a bad A n SC all) (k : Below w.heap.size w w') : Sd w3 w' B0 p q c8 c6 tv L a bad A n SC all :=
  ⟨h.dr.below k, h.rw.mod (S := fun _ => False) (Mod.of_below k) (fun _ _ _ _ => id), h.e8.below k, h.e6.below k, h.md.below k⟩
/-- a block of its own is written -/
theorem Sd.write {s : Nat} (h : Sd w3 w B0 p q c8 c6 tv L a bad A n SC all) (c : Cd w3 p q c8 c6 tv) (hs : w3.heap.size ≤ s) (ho : 0 < n → A ≠ some ⟨s, 0, none⟩) (k : Mod (· = s) w w') : Sd w3 w' B0 p q c8 c6 tv L a bad A n SC all :=
  ⟨h.dr.mod k (by have := c.lp; omega) (by have := c.lq; omega) (fun b hb e => by have := c.d b hb; omega), h.rw.mod k (fun hn b _ e hb => ho hn (hb ▸ e)), h.e8.mod k (by have := c.l8; omega), h.e6.mod k (by have := c.l6; omega), h.md.trans2 k fun b hb e => by omega⟩
/-- other rows -/
theorem Sd.now {A' : Option Addr} {n' SC' : Nat} {all' : List Sn} (h : Sd w3 w B0 p q c8 c6 tv L a bad A n SC all) (h' : Rw w3 w A' n' SC' all') : Sd w3 w B0 p q c8 c6 tv L a bad A' n' SC' all' := ⟨h.dr, h', h.e8, h.e6, h.md⟩
theorem Rw.reads (h : Rw w3 w A n SC all) : Reads w A n 11 (mx all) := fun hn => by
  obtain ⟨b, rfl, _, hT⟩ := h.tab hn
  exact Reads.of_tab hT hn
theorem Rw.of_own {base : Nat} {e : TypeId} (h : w.ownsRow base e 11 (.slice A all.length SC) all.length (rowsS all)) (hb : w3.heap.size ≤ base) : Rw w3 w A all.length SC all := by
  refine ⟨fun hn => ?_, (nil_rowS h).1, (nil_rowS h).2⟩
  rw [rowsS_eq] at h
  obtain ⟨g, c, hv, hg, _, _, hT⟩ := tab_of_own h hn
  cases hv
  exact ⟨g, rfl, Nat.le_trans hb hg, hT⟩
theorem Rw.of_rows {n1 : Nat} {base : Nat} {e : TypeId} {M : Nat → Nat → Int} (h : w.ownsRow base e 11 (.slice A n1 SC) n1 (rowsL M 11 n1)) (hb : w3.heap.size ≤ base) : Rw w3 w A (rowsOf M n1).length SC (rowsOf M n1) := by
  rw [rowsOf_length]
  have e1 : rowsS (rowsOf M n1) = rowsL M 11 n1 := by
    have := rowsS_from M n1 0 (by omega)
    simpa using this
  have h2 : w.ownsRow base e 11 (.slice A n1 SC) n1 (rowsS (rowsOf M n1)) := by rw [e1]; exact h
  have h3 := Rw.of_own (w3 := w3) (all := rowsOf M n1) (A := A) (SC := SC) (by rw [rowsOf_length]; exact h2) hb
  rw [rowsOf_length] at h3
  exact h3
theorem Rw.lt (h : Rw w3 w A n SC all) {s : Nat} (hs : w.heap.size ≤ s) (hn : 0 < n) : A ≠ some ⟨s, 0, none⟩ := fun e => by
  obtain ⟨b, e', _, hT⟩ := h.tab hn
  rw [e] at e'
  cases e'
  have := hT.lt
  omega
theorem ne_fresh (h : Sd w3 w B0 p q c8 c6 tv L a bad A n SC all) : 0 < n → A ≠ some ⟨w.heap.size, 0, none⟩ := fun hn => h.rw.lt (Nat.le_refl _) hn
theorem Sd.le (h : Sd w3 w B0 p q c8 c6 tv L a bad A n SC all) : w3.heap.size ≤ w.heap.size := h.md.size
end
theorem any_fresh {P : Program} {md : Region.Mode} {ops : Array Oper} {Q : Exit → Act → World → Prop} {S : World → Prop} {f : Nat} {li : Array Bool} {a : Act} {w : World} (h : ∀ w', Below w.heap.size w w' → S w' → wpAnyH P md ops Q S f li a w') (hS : S w) : wpAnyH P md ops Q S f li a w := h w (Below.refl _ _) hS
theorem below_row {w0 w w' : World} {base c n : Nat} {e : TypeId} {v : Value} {xs : List Value} (hb : Below w0.heap.size w0 w) (hown : w.ownsRow base e c v n xs) (hbase : w0.heap.size ≤ base) (hm : Mod (fun b => v.ownBlock = some b) w w') : Below w0.heap.size w0 w' :=
  hb.trans (hm.toBelow hb.size (fun b hlt e => by have := (row_lt hown e).2; omega))
/-- append(s, x...), in a region that draws -/
theorem step_rows {P : Program} {ops : Array Oper} {o : Oper} {a : Act} {w : World} {K : Act → World → Prop} {Q : Exit → Act → World → Prop} {E : Prop} (hg : o.guard = none) (s x : Operand) (t : TypeId) (ho : o.op = .call { callee := .builtin .append, args := #[s, x], argTypes := #[t, t] }) {e : TypeId} (ht : P.underlying t = some (.slice e))
    {z : Value} {size bytes : Nat} (hinfo : (P.info? e).map (fun i => (i.zero, i.size, i.bytes)) = some (some z, size, bytes)) (hzs : z.cells.size = size) (hsz : 0 < size) (hby : bytes ≤ 1000000)
    (base : Nat) (v : Value) (n : Nat) (xs : List Value) (hs : a.eval s = v) (hown : w.ownsRow base e size v n xs) {A : Option Addr} {m cap : Nat} {M : Nat → Nat → Int} (hx : a.eval x = .slice A m cap) (hR : Reads w A m size M) (hA : A = none → m = 0 ∧ cap = 0)
    (hn : n + m < 1000000) (hbase : base ≤ w.heap.size)
    (hK : ∀ v' w', w'.ownsRow base e size v' (n + m) (xs ++ rowsL M size m) → Mod (fun b => v.ownBlock = some b) w w' → K (a.put o.dst v') w') :
    if Region.wanted o (yielded ops a.tmps) = true then Oper.wp P o a w K Q else E := by
  have hw : Region.wanted o (yielded ops a.tmps) = true := by simp [Region.wanted, hg]
  rw [if_pos hw]
  obtain ⟨i, hi, hz, hsize, hbytes⟩ := info_three hinfo
  cases A with
  | none =>
    obtain ⟨rfl, rfl⟩ := hA rfl
    have hrun := run_append_owned_none (P := P) (w := w) base t o.type e i size ht hi v n xs hown
    unfold Oper.wp
    simp [execOp, ho, resolve, invoke, builtin, hs, hx, hrun, Result.andThen]
    exact hK v w (by simpa [rowsL] using hown) (Mod.refl _ _)
  | some ad =>
    obtain ⟨v', w', hr, h2, h3, h4, h5⟩ := run_append_own_at (P := P) w base t o.type e i z size bytes ht hi hz hsize hbytes hzs hsz v n xs hown ad m cap (rowsL M size m) (by rw [rowsL_length]) (fun j u hu => by
      have hn0 : 0 < m := by
        have := (List.getElem?_eq_some_iff.1 hu).1
        rw [rowsL_length] at this
        rcases Nat.eq_zero_or_pos m with h0 | h0
        · subst h0; simp at this
        · exact h0
      obtain ⟨b, ao, e', hb, hc⟩ := hR hn0
      cases e'
      exact rowsL_cells hsz hc j u hu) (rowsL_one _ _ _) (by unfold maxLen; omega) (Nat.le_trans (Nat.mul_le_mul (by omega) hby) (show 1000000 * 1000000 ≤ 140737488355328 by decide)) hbase
    unfold Oper.wp execOp
    simp only [ho, resolve, invoke, builtin, Sem.run_bind, Sem.run_pure, Result.andThen_ok, List.map_toArray, List.map_cons, List.map_nil, hs, hx, hr]
    exact hK v' w' h2 ((mod_grown h3).mono fun _ _ h => h)
theorem rowsS_take (all : List Sn) {k : Nat} (hk : k ≤ all.length) : rowsS (all.take k) = rowsL (mx all) 11 k := by
  rw [rowsS_eq]
  have hl : (all.take k).length = k := by simp; omega
  rw [hl]
  refine rowsL_congr (by decide) fun i hi j _ => ?_
  unfold mx
  rw [List.getElem?_take, if_pos hi]
theorem rowsS_drop (all : List Sn) (i : Nat) : rowsS (all.drop i) = rowsL (fun k j => mx all (i + k) j) 11 (all.length - i) := by
  rw [rowsS_eq]
  have hl : (all.drop i).length = all.length - i := by simp
  rw [hl]
  refine rowsL_congr (by decide) fun k hk j _ => ?_
  unfold mx
  rw [List.getElem?_drop]
/-- where the tape is -/
theorem posOf_tp {w : World} {base p a : Nat} {v : Value} {l : List Nat} (h : Tp w base p v l a) : posOf w p = a := by
  unfold posOf
  rw [h.blk.cell 1]
  rfl
/-- the same, and the view is of new memory -/
def RApplyPostF (M1 : Nat → Nat → Int) (n1 : Nat) (l : List Nat) (w : World) (e : Ending) (w' : World) : Prop :=
  ((¬ RightV n1 M1 ∧ e = .returned (.tuple #[.slice none 0 0, .int .i64 1])) ∨
   (RightV n1 M1 ∧ ansR M1 n1 l = none ∧ e = .returned (.tuple #[.slice none 0 0, .int .i64 3])) ∨
   (RightV n1 M1 ∧ ∃ (o : List Sn) (A : Option Addr) (c : Nat), ansR M1 n1 l = some o ∧ e = .returned (.tuple #[.slice A o.length c, .int .i64 0]) ∧ (A = none → o.length = 0 ∧ c = 0) ∧ o.length ≤ c ∧ Reads w' A o.length 11 (mx o) ∧ (0 < o.length → ∀ x, A = some x → w.heap.size ≤ x.block))) ∧ Below w.heap.size w w'
/-- a row to whose numbers others may be added -/
def InR (r : Sn) : Prop := In62 r.s1 ∧ In62 r.s2 ∧ In62 r.s3 ∧ In62 r.a1 ∧ In62 r.a2 ∧ In62 r.a3 ∧ In62 r.v1 ∧ In62 r.v2 ∧ In62 r.v3
theorem inr_rows {M : Nat → Nat → Int} {n : Nat} (h : RightV n M) : ∀ r ∈ rowsOf M n, (0 : Int) < r.id → InR r := by
  intro r hr _
  unfold rowsOf at hr
  obtain ⟨i, hi, rfl⟩ := List.mem_map.1 hr
  exact in62_row (h.row (List.mem_range.1 hi)).2
theorem reads_snL {w : World} {b : Nat} {r : Sn} (h : Blk w b (snL r)) : Reads w (some ⟨b, 0, none⟩) 1 11 (mx [r]) := fun _ => by
  refine ⟨b, 0, rfl, h.lt, fun k hk j hj => ?_⟩
  obtain rfl : k = 0 := by omega
  have hc := h.cell j
  rw [show 0 + (0 * 11 + j) = j by omega, hc, mx_zero]
  match j, hj with
  | 0, _ => rfl
  | 1, _ => rfl
  | 2, _ => rfl
  | 3, _ => rfl
  | 4, _ => rfl
  | 5, _ => rfl
  | 6, _ => rfl
  | 7, _ => rfl
  | 8, _ => rfl
  | 9, _ => rfl
  | 10, _ => rfl
theorem mx_set (all : List Sn) {k : Nat} (hk : k < all.length) (r : Sn) (i j : Nat) : mx (all.take k ++ r :: all.drop (k + 1)) i j = if i = k then r.get j else mx all i j := by
  unfold mx
  have hl : (all.take k).length = k := by simp; omega
  by_cases h : i = k
  · subst h
    rw [if_pos rfl, List.getElem?_append_right (by omega), hl, Nat.sub_self]
    rfl
  · rw [if_neg h]
    rcases Nat.lt_or_ge i k with h1 | h1
    · rw [List.getElem?_append_left (by omega), List.getElem?_take, if_pos h1]
    · rw [List.getElem?_append_right (by omega), hl, show i - k = (i - (k + 1)) + 1 by omega, List.getElem?_cons_succ, List.getElem?_drop, show k + 1 + (i - (k + 1)) = i by omega]
theorem put11 (M : Nat → Nat → Int) (k : Nat) (r : Sn) (i j : Nat) (hj : j < 11) : (put1 (put1 (put1 (put1 (put1 (put1 (put1 (put1 (put1 (put1 (put1 M k 0 r.id) k 1 r.kd) k 2 r.s1) k 3 r.s2) k 4 r.s3) k 5 r.a1) k 6 r.a2) k 7 r.a3) k 8 r.v1) k 9 r.v2) k 10 r.v3) i j = if i = k then r.get j else M i j := by
  by_cases h : i = k
  · subst h
    rw [if_pos rfl]
    match j, hj with
    | 0, _ => simp [put1, Sn.get]
    | 1, _ => simp [put1, Sn.get]
    | 2, _ => simp [put1, Sn.get]
    | 3, _ => simp [put1, Sn.get]
    | 4, _ => simp [put1, Sn.get]
    | 5, _ => simp [put1, Sn.get]
    | 6, _ => simp [put1, Sn.get]
    | 7, _ => simp [put1, Sn.get]
    | 8, _ => simp [put1, Sn.get]
    | 9, _ => simp [put1, Sn.get]
    | 10, _ => simp [put1, Sn.get]
  · rw [if_neg h]
    simp only [put1_row _ _ _ _ h]
theorem Sd.setrows {w3 w w' : World} {B0 p q c8 c6 a n SC bT : Nat} {tv : Value} {L : List Nat} {bad : Bool} {all al2 : List Sn} (h : Sd w3 w B0 p q c8 c6 tv L a bad (some ⟨bT, 0, none⟩) n SC all) (c : Cd w3 p q c8 c6 tv) (t : Tab w' bT n 11 (mx al2)) (m : Mod (· = bT) w w') (hb : w3.heap.size ≤ bT) (hl : n = al2.length) :
    Sd w3 w' B0 p q c8 c6 tv L a bad (some ⟨bT, 0, none⟩) al2.length SC al2 := by
  subst hl
  exact ⟨h.dr.mod m (by have := c.lp; omega) (by have := c.lq; omega) (fun b hb' e => by have := c.d b hb'; omega), ⟨fun _ => ⟨bT, rfl, hb, t⟩, (fun h => by cases h), h.rw.cap⟩, h.e8.mod m (by have := c.l8; omega), h.e6.mod m (by have := c.l6; omega), h.md.trans2 m fun b hb' e => by omega⟩
theorem exec_seenR {w : World} {s : Nat} {r : Sn} (h : Blk w s #[.int .i64 r.id, .int .i64 r.kd, .int .i64 r.s1, .int .i64 r.s2, .int .i64 r.s3, .int .i64 r.a1, .int .i64 r.a2, .int .i64 r.a3, .int .i64 r.v1, .int .i64 r.v2, .int .i64 r.v3]) {o : Oper} {a : Act} (x : Operand) (ho : o.op = .load 102 x) (hx : a.eval x = .pointer (some ⟨s, 0, none⟩)) : (execOp a.eval o).run Try.prog w = (.ok (.value (.agg #[.int .i64 r.id, .int .i64 r.kd, .int .i64 r.s1, .int .i64 r.s2, .int .i64 r.s3, .int .i64 r.a1, .int .i64 r.a2, .int .i64 r.a3, .int .i64 r.v1, .int .i64 r.v2, .int .i64 r.v3])) w : Result Next) :=
  exec_load_off w s 0 _ x ho hx [.int .i64 r.id, .int .i64 r.kd, .int .i64 r.s1, .int .i64 r.s2, .int .i64 r.s3, .int .i64 r.a1, .int .i64 r.a2, .int .i64 r.a3, .int .i64 r.v1, .int .i64 r.v2, .int .i64 r.v3] _ (lits _ 11 (fun j => .int .i64 (r.get j)) rfl (fun j hj => by
    rw [Nat.zero_add, h.cell j]
    match j, hj with
    | 0, _ => rfl
    | 1, _ => rfl
    | 2, _ => rfl
    | 3, _ => rfl
    | 4, _ => rfl
    | 5, _ => rfl
    | 6, _ => rfl
    | 7, _ => rfl
    | 8, _ => rfl
    | 9, _ => rfl
    | 10, _ => rfl)) Try.underlying102 rfl sizeR
theorem Blk.as {w : World} {b : Nat} {cs cs' : Array Value} (h : Blk w b cs) (e : cs = cs') : Blk w b cs' := e ▸ h
theorem strB_injS {l m : List Nat} (hl : ∀ b ∈ l, b < 256) (hm : ∀ b ∈ m, b < 256) (h : strB l = strB m) : l = m := by
  have h1 : (strB l).data.toList = (strB m).data.toList := by rw [h]
  unfold strB at h1
  rw [strOfNums_data, strOfNums_data] at h1
  have h2 := congrArg (fun a => a.map UInt8.toNat) h1
  simp only [List.map_map] at h2
  have e : ∀ q : List Nat, (∀ b ∈ q, b < 256) → q.map (UInt8.toNat ∘ (fun n : Int => UInt8.ofNat n.toNat) ∘ fun (b : Nat) => (b : Int)) = q := by
    intro q hq
    conv => rhs; rw [← List.map_id q]
    apply List.map_congr_left
    intro b hb
    have := hq b hb
    simp [UInt8.toNat_ofNat']
    omega
  rw [e l hl, e m hm] at h2
  exact h2
theorem bne_strS {a b : ByteArray} (h : a ≠ b) : (a.toList == b.toList) = false := by
  rw [beq_eq_false_iff_ne, ByteArray.toList_eq, ByteArray.toList_eq]
  intro e
  apply h
  cases a; cases b
  simpa using e
/-- slot n -/
def isTmp (n : Nat) : Operand → Bool
  | .tmp m => m == n
  | _ => false
/-- the branch of an if on slot n, in a function's code -/
def findC (n : Nat) : Code → Option Code
  | .seq a b => match findC n a with | some c => some c | none => findC n b
  | .cond c t e => if isTmp n c then some t else match findC n t with | some c => some c | none => findC n e
  | .block _ b => findC n b
  | .loop b => findC n b
  | _ => none
def branchC (f : Func) (n : Nat) : Code := match f.body with | some c => (findC n c).getD .skip | none => .skip
set_option maxRecDepth 100000 in
set_option maxHeartbeats 16000000 in
theorem new_way {Q : Exit → Act → World → Prop} {w3 w9 : World} {B0 p q c8 c6 da k SC : Nat} {tv : Value} {l : List Nat} {all al2 : List Sn} {SA : Option Addr} {now : Int} {nr : Sn} {σ : Nat × Bool} {u0 u1 u2 u3 u4 u5 u7 u12 u13 u15 u16 u17 u18 u19 u20 u21 u22 u23 u24 u25 u26 u27 u28 u29 u30 u31 u32 u33 u34 u35 u36 u37 u38 u39 u40 u41 u42 u43 u44 u45 u46 u47 u48 u49 u50 u51 u52 u53 u54 u55 u56 u57 u58 u59 u60 u61 u62 u63 u64 u65 u66 u67 u68 u69 u70 u71 u72 u73 u74 u75 u76 u77 u78 u79 u80 u81 u82 u83 u84 u85 u86 u87 u88 u89 u90 u91 u92 u93 u94 u95 u96 u97 u98 u99 u100 u101 u102 u103 u104 u105 u106 u107 u108 u109 u110 u111 u112 u113 u114 u115 u116 u117 u118 u119 u120 u121 u122 u123 u124 u125 u126 u127 u128 u129 u130 u131 u132 u133 u134 u135 u136 u137 u138 u139 u140 u141 u142 u143 u144 u145 u146 u147 u148 u149 u150 u151 u152 u153 u154 u155 u156 u157 u158 u159 u160 u161 u162 u163 u164 u165 u166 u167 u168 u169 u170 u171 u172 u173 u174 u175 u176 u177 u178 u179 u180 u181 u182 u183 u184 u185 u186 u187 u188 u189 u190 u191 u192 u193 u194 u195 u196 u197 u198 u199 u200 u201 u202 u203 u204 u205 u206 u207 u208 u209 u210 u211 u212 u213 u214 u215 u216 u217 u218 u219 u220 u221 u222 u223 u224 u225 u226 u227 u228 u229 u230 u231 u232 : Value} (HPQ : Hid (∀ c (a : Act) d v (w : World), Q (.panic c) (a.put d v) w → Q (.panic c) a w)) (HC : Hid (Cd w3 p q c8 c6 tv)) (H9 : Hid (Sd w3 w9 B0 p q c8 c6 tv (openL l) da false SA all.length SC all)) (hk : k ≤ all.length) (hal : all.length ≤ 121) (HNEW : Hid (newR (openL l) now (da, false) = (nr, σ))) (HAL : Hid (al2 = all.take k ++ nr :: all.drop k))
    (HQ : Hid (∀ (v16 v103 v104 v105 v106 v107 v108 v109 v110 v111 v112 v113 v114 v115 v116 v117 v118 v119 v120 v121 v122 v123 v124 v125 v126 v127 v128 v129 v130 v131 v132 v133 v134 v135 v136 v137 : Value) (w' : World) (SA2 : Option Addr) (SC2 : Nat), Sd w3 w' B0 p q c8 c6 tv (openL l) σ.1 σ.2 SA2 al2.length SC2 al2 → Q .normal { tmps := #[u0, u1, u2, u3, u4, u5, .pointer (some ⟨c6, 0, none⟩), u7, .pointer (some ⟨c8, 0, none⟩), .func (.func 84) #[] #[.pointer (some ⟨c8, 0, none⟩), .pointer (some ⟨c6, 0, none⟩)], .slice SA2 al2.length SC2, .int .i64 now, u12, u13, .int .i64 (k : Int), u15, v16, u17, u18, u19, u20, u21, u22, u23, u24, u25, u26, u27, u28, u29, u30, u31, u32, u33, u34, u35, u36, u37, u38, u39, u40, u41, u42, u43, u44, u45, u46, u47, u48, u49, u50, u51, u52, u53, u54, u55, u56, u57, u58, u59, u60, u61, u62, u63, u64, u65, u66, u67, u68, u69, u70, u71, u72, u73, u74, u75, u76, u77, u78, u79, u80, u81, u82, u83, u84, u85, u86, u87, u88, u89, u90, u91, u92, u93, u94, u95, u96, u97, u98, u99, u100, u101, u102, v103, v104, v105, v106, v107, v108, v109, v110, v111, v112, v113, v114, v115, v116, v117, v118, v119, v120, v121, v122, v123, v124, v125, v126, v127, v128, v129, v130, v131, v132, v133, v134, v135, v136, v137, u138, u139, u140, u141, u142, u143, u144, u145, u146, u147, u148, u149, u150, u151, u152, u153, u154, u155, u156, u157, u158, u159, u160, u161, u162, u163, u164, u165, u166, u167, u168, u169, u170, u171, u172, u173, u174, u175, u176, u177, u178, u179, u180, u181, u182, u183, u184, u185, u186, u187, u188, u189, u190, u191, u192, u193, u194, u195, u196, u197, u198, u199, u200, u201, u202, u203, u204, u205, u206, u207, u208, u209, u210, u211, u212, u213, u214, u215, u216, u217, u218, u219, u220, u221, u222, u223, u224, u225, u226, u227, u228, u229, u230, u231, u232], defers := [] } w')) :
    Code.wp Try.prog (branchC Try.f43 96) Q { tmps := #[u0, u1, u2, u3, u4, u5, .pointer (some ⟨c6, 0, none⟩), u7, .pointer (some ⟨c8, 0, none⟩), .func (.func 84) #[] #[.pointer (some ⟨c8, 0, none⟩), .pointer (some ⟨c6, 0, none⟩)], .slice SA all.length SC, .int .i64 now, u12, u13, .int .i64 (k : Int), u15, u16, u17, u18, u19, u20, u21, u22, u23, u24, u25, u26, u27, u28, u29, u30, u31, u32, u33, u34, u35, u36, u37, u38, u39, u40, u41, u42, u43, u44, u45, u46, u47, u48, u49, u50, u51, u52, u53, u54, u55, u56, u57, u58, u59, u60, u61, u62, u63, u64, u65, u66, u67, u68, u69, u70, u71, u72, u73, u74, u75, u76, u77, u78, u79, u80, u81, u82, u83, u84, u85, u86, u87, u88, u89, u90, u91, u92, u93, u94, u95, u96, u97, u98, u99, u100, u101, u102, u103, u104, u105, u106, u107, u108, u109, u110, u111, u112, u113, u114, u115, u116, u117, u118, u119, u120, u121, u122, u123, u124, u125, u126, u127, u128, u129, u130, u131, u132, u133, u134, u135, u136, u137, u138, u139, u140, u141, u142, u143, u144, u145, u146, u147, u148, u149, u150, u151, u152, u153, u154, u155, u156, u157, u158, u159, u160, u161, u162, u163, u164, u165, u166, u167, u168, u169, u170, u171, u172, u173, u174, u175, u176, u177, u178, u179, u180, u181, u182, u183, u184, u185, u186, u187, u188, u189, u190, u191, u192, u193, u194, u195, u196, u197, u198, u199, u200, u201, u202, u203, u204, u205, u206, u207, u208, u209, u210, u211, u212, u213, u214, u215, u216, u217, u218, u219, u220, u221, u222, u223, u224, u225, u226, u227, u228, u229, u230, u231, u232], defers := [] } w9 := by
  conv => arg 2; whnf
  dsimp only
  obtain ⟨kn, ke, ka, hg3r⟩ : ∃ n e a', getD (openL l) da 3 = (n, e, a') := ⟨_, _, _, rfl⟩
  have HGK := Lib.hid hg3r
  obtain ⟨r1, hr1⟩ : ∃ r, rG (openL l) 3 (da, false) = r := ⟨_, rfl⟩
  have hr1v : r1 = (kn, (ka, false || decide (ke ≠ 0))) := by rw [← hr1]; unfold rG; rw [hg3r]
  have HR1v := Lib.hid hr1v
  have HR1' := Lib.hid hr1
  clear hg3r hr1 hr1v
  go_upto_region 22 with fail
  go_cut [16] from 103 to 137 (fun tx wx => ∃ s, tx = .pointer (some ⟨s, 0, none⟩) ∧ Blk wx s #[.int .i64 now, .int .i64 r1.1, .int .i64 0, .int .i64 0, .int .i64 0, .int .i64 0, .int .i64 0, .int .i64 0, .int .i64 0, .int .i64 0, .int .i64 0] ∧ w3.heap.size ≤ s ∧ (0 < all.length → SA ≠ some ⟨s, 0, none⟩) ∧ Sd w3 wx B0 p q c8 c6 tv (openL l) r1.2.1 r1.2.2 SA all.length SC all)
  case first =>
    obtain ⟨wz, hwz⟩ : ∃ wz, wz = w9 := ⟨_, rfl⟩
    rw [← hwz]
    have hdz := H9.out
    rw [← hwz] at hdz
    clear hwz
    have hd0 := hdz.below (w' := wz.drew) (ext_drew (Below.refl _ _))
    have hmm0 : Mod (fun b => b = p ∨ b = q) wz wz.drew := (Mod.refl _ _).drew
    have QQ : Hid (∀ wx, Mod (fun b => b = p ∨ b = q) wz wx → wx.cell? ⟨c8, 0, none⟩ = some (.func (.func 83) #[] #[.pointer (some ⟨q, 0, none⟩)]) ∧ wx.cell? ⟨c6, 0, none⟩ = some (.pointer (some ⟨p, 0, none⟩))) := Lib.hid (fun wx hm => ⟨(hm.cell hdz.e8.lt (by have := HC.out.n8; omega)).trans (hdz.e8.cell 0), (hm.cell hdz.e6.lt (by have := HC.out.n6; omega)).trans (hdz.e6.cell 0)⟩)
    have HDZ := Lib.hid hdz
    clear hdz
    refine region_held_tail (fun w' => w'.cell? ⟨c8, 0, none⟩ = some (.func (.func 83) #[] #[.pointer (some ⟨q, 0, none⟩)]) ∧ w'.cell? ⟨c6, 0, none⟩ = some (.pointer (some ⟨p, 0, none⟩))) 9 (by as_aux_lemma => kernel_rfl) (by as_aux_lemma => kernel_rfl) (QQ.out _ hmm0) (fun hHeld => ?_)
    simp only [List.take_succ_cons, List.take_zero]
    refine wpAnyH_take (i := 0) (v := ?vnw2_0) rfl (by as_aux_lemma => kernel_rfl) (by as_aux_lemma => kernel_rfl) (by as_aux_lemma => kernel_rfl) (fun c a w h => HPQ.out c a _ _ w h) (Or.inl ⟨by kernel_rfl, ?ynw2_0⟩) hHeld ?rnw2_0
    case ynw2_0 =>
      intro w hSw
      try dsimp only at hSw
      obtain ⟨e0, e1⟩ := hSw
      go_simp
      try with_reducible rfl
    try simp only [Act.put, List.setIfInBounds_toArray]
    refine wpAnyH_take (i := 1) (v := ?vnw2_1) rfl (by as_aux_lemma => kernel_rfl) (by as_aux_lemma => kernel_rfl) (by as_aux_lemma => kernel_rfl) (fun c a w h => HPQ.out c a _ _ w h) (Or.inl ⟨by kernel_rfl, ?ynw2_1⟩) hHeld ?rnw2_1
    case ynw2_1 =>
      intro w hSw
      try dsimp only at hSw
      obtain ⟨e0, e1⟩ := hSw
      go_simp
      try with_reducible rfl
    try simp only [Act.put]
    refine wpAnyH_take (i := 2) (v := ?vnw2_2) rfl (by as_aux_lemma => kernel_rfl) (by as_aux_lemma => kernel_rfl) (by as_aux_lemma => kernel_rfl) (fun c a w h => HPQ.out c a _ _ w h) (Or.inl ⟨by kernel_rfl, ?ynw2_2⟩) hHeld ?rnw2_2
    case ynw2_2 =>
      intro w hSw
      try dsimp only at hSw
      obtain ⟨e0, e1⟩ := hSw
      go_simp
      try with_reducible rfl
    try simp only [Act.put]
    refine wpAnyH_ready (rs := [3, 8]) (by as_aux_lemma => kernel_rfl) (by simp) ?_
    refine AllReadyH.cons (o := _) rfl (fun K hK => ?_) ?_
    · go_simp
      refine (tdet_eq (tget_c B0 p da 3 tv (openL l) _ hd0.dr.tp) HGK.out).mono ?_
      rintro e wa ⟨rfl, hTwa, hmwa⟩
      have hdwa := hd0.tape HC.out hTwa hmwa
      have hmmwa := hmm0.trans (hmwa.mono (T := fun b => b = p ∨ b = q) fun _ _ h => .inl h)
      try dsimp only
      refine hK.out _ _ ?_ (fun hHeld => ?_)
      · exact QQ.out _ hmmwa
      clear hK K
      try simp only [Act.put, List.setIfInBounds_toArray, List.set_cons_zero, List.set_cons_succ]
      refine wpAnyH_take (i := 4) (v := ?vnw2a_4) rfl (by as_aux_lemma => kernel_rfl) (by as_aux_lemma => kernel_rfl) (by as_aux_lemma => kernel_rfl) (fun c a w h => HPQ.out c a _ _ w h) (Or.inl ⟨by kernel_rfl, ?ynw2a_4⟩) hHeld ?rnw2a_4
      case ynw2a_4 =>
        intro w hSw
        try dsimp only at hSw
        obtain ⟨e0, e1⟩ := hSw
        go_simp
        try with_reducible rfl
      try simp only [Act.put, List.setIfInBounds_toArray]
      refine wpAnyH_take (i := 5) (v := ?vnw2a_5) rfl (by as_aux_lemma => kernel_rfl) (by as_aux_lemma => kernel_rfl) (by as_aux_lemma => kernel_rfl) (fun c a w h => HPQ.out c a _ _ w h) (Or.inl ⟨by kernel_rfl, ?ynw2a_5⟩) hHeld ?rnw2a_5
      case ynw2a_5 =>
        intro w hSw
        try dsimp only at hSw
        obtain ⟨e0, e1⟩ := hSw
        go_simp
        try with_reducible rfl
      try simp only [Act.put]
      refine wpAnyH_ready (rs := [6, 8]) (by as_aux_lemma => kernel_rfl) (by simp) ?_
      refine AllReadyH.cons (o := _) rfl (fun K hK => ?_) ?_
      · go_simp
        refine (rnumP_c q _ kn ke _ hdwa.dr.blk).mono ?_
        rintro e wb ⟨rfl, hQwb, hmwb⟩
        have hdwb := hdwa.flag HC.out hQwb hmwb
        have hmmwb := hmmwa.trans (hmwb.mono (T := fun b => b = p ∨ b = q) fun _ _ h => .inr h)
        try dsimp only
        refine hK.out _ _ ?_ (fun hHeld => ?_)
        · exact QQ.out _ hmmwb
        clear hK K
        try simp only [Act.put, List.setIfInBounds_toArray, List.set_cons_zero, List.set_cons_succ]
        refine wpAnyH_take (i := 7) (v := ?vnw2b_7) rfl (by as_aux_lemma => kernel_rfl) (by as_aux_lemma => kernel_rfl) (by as_aux_lemma => kernel_rfl) (fun c a w h => HPQ.out c a _ _ w h) (Or.inl ⟨by kernel_rfl, ?ynw2b_7⟩) hHeld ?rnw2b_7
        case ynw2b_7 =>
          intro w hSw
          try dsimp only at hSw
          obtain ⟨e0, e1⟩ := hSw
          go_simp
          try with_reducible rfl
        try simp only [Act.put, List.setIfInBounds_toArray]
        refine wpAnyH_ready (rs := [8]) (by as_aux_lemma => kernel_rfl) (by simp) ?_
        refine AllReadyH.cons (o := _) rfl (fun K hK => ?_) AllReadyH.nil
        go_simp
        try dsimp only
        refine hK.out _ _ ?_ (fun hHeld => ?_)
        · exact QQ.out _ (hmmwb.alloc _)
        clear hK K
        refine any_fresh ?_ hHeld
        clear hHeld
        rintro wc hbwc hHeld
        have hvwc : Below wb.heap.size wb wc := (by repeat (with_reducible (first | exact Below.refl _ _ | assumption | apply ext_drew | apply ext_drewN | apply ext_alloc | apply ext_more | (refine ext_setCell ?_ (by first | assumption | (simp <;> omega)) _) | (refine ext_below ?_ (by assumption)))))
        have hdwc := hdwb.below hvwc
        have hmmwc := hmmwb.below hvwc
        have swc : Blk wc wb.heap.size #[.int .i64 0, .int .i64 0, .int .i64 0, .int .i64 0, .int .i64 0, .int .i64 0, .int .i64 0, .int .i64 0, .int .i64 0, .int .i64 0, .int .i64 0] := Blk.below (by repeat (with_reducible (first | assumption | (apply Blk.at; simp; done) | apply Blk.alloc | apply Blk.drew | apply Blk.drewN | apply Blk.more | apply Blk.put | (apply Blk.far; focus (first | assumption | (apply Ne.symm; assumption) | (simp; done) | (simp <;> omega)))))) hbwc
        have hs0 : w3.heap.size ≤ wb.heap.size := hdwb.le
        have hsA : 0 < all.length → SA ≠ some ⟨wb.heap.size, 0, none⟩ := ne_fresh hdwb
        obtain ⟨s, hs⟩ : ∃ s, s = wb.heap.size := ⟨_, rfl⟩
        rw [← hs] at swc hs0 hsA
        rw [← hs]
        have hsp : s ≠ p := by have := HC.out.lp; omega
        have hsq : s ≠ q := by have := HC.out.lq; omega
        clear hs hbwc hvwc
        try simp only [Act.put, List.setIfInBounds_toArray, List.set_cons_zero, List.set_cons_succ]
        refine wpAnyH_done (by as_aux_lemma => kernel_rfl) ?_ _
        clear hHeld
        simp only [TailQ, List.drop_succ_cons, List.drop_zero]
        have hfz := hdwc
        have sfz := swc
        obtain ⟨zs, cs, fs⟩ := id sfz
        clear QQ HDZ
        go_wp2
        go_meet
        refine ⟨s, rfl, ?_, hs0, hsA, ?_⟩
        · rw [HR1v.out]
          refine Blk.as (cs := _) (by repeat (with_reducible (first | exact sfz | (apply Blk.at; simp; done) | apply Blk.alloc | apply Blk.drew | apply Blk.drewN | apply Blk.more | apply Blk.put | (apply Blk.far; focus (first | assumption | (apply Ne.symm; assumption) | (simp; done) | (simp <;> omega)))))) ?_
          simp only [List.setIfInBounds_toArray, List.set_cons_zero, List.set_cons_succ]
        · rw [HR1v.out]
          exact hfz.write HC.out hs0 hsA ((((((((((((Mod.refl (· = s) wc).set (.inl rfl)).set (.inl rfl)).set (.inl rfl)).set (.inl rfl)).set (.inl rfl)).set (.inl rfl)).set (.inl rfl)).set (.inl rfl)).set (.inl rfl)).set (.inl rfl)).set (.inl rfl))
      refine AllReadyH.cons (o := _) rfl (fun K hK => ?_) AllReadyH.nil
      go_simp
      try dsimp only
      refine hK.out _ _ ?_ (fun hHeld => ?_)
      · exact QQ.out _ (hmmwa.alloc _)
      clear hK K
      refine any_fresh ?_ hHeld
      clear hHeld
      rintro wb hbwb hHeld
      have hvwb : Below wa.heap.size wa wb := (by repeat (with_reducible (first | exact Below.refl _ _ | assumption | apply ext_drew | apply ext_drewN | apply ext_alloc | apply ext_more | (refine ext_setCell ?_ (by first | assumption | (simp <;> omega)) _) | (refine ext_below ?_ (by assumption)))))
      have hdwb := hdwa.below hvwb
      have hmmwb := hmmwa.below hvwb
      have swb : Blk wb wa.heap.size #[.int .i64 0, .int .i64 0, .int .i64 0, .int .i64 0, .int .i64 0, .int .i64 0, .int .i64 0, .int .i64 0, .int .i64 0, .int .i64 0, .int .i64 0] := Blk.below (by repeat (with_reducible (first | assumption | (apply Blk.at; simp; done) | apply Blk.alloc | apply Blk.drew | apply Blk.drewN | apply Blk.more | apply Blk.put | (apply Blk.far; focus (first | assumption | (apply Ne.symm; assumption) | (simp; done) | (simp <;> omega)))))) hbwb
      have hs0 : w3.heap.size ≤ wa.heap.size := hdwa.le
      have hsA : 0 < all.length → SA ≠ some ⟨wa.heap.size, 0, none⟩ := ne_fresh hdwa
      obtain ⟨s, hs⟩ : ∃ s, s = wa.heap.size := ⟨_, rfl⟩
      rw [← hs] at swb hs0 hsA
      rw [← hs]
      have hsp : s ≠ p := by have := HC.out.lp; omega
      have hsq : s ≠ q := by have := HC.out.lq; omega
      clear hs hbwb hvwb
      try simp only [Act.put, List.setIfInBounds_toArray, List.set_cons_zero, List.set_cons_succ]
      refine wpAnyH_ready (rs := [6]) (by as_aux_lemma => kernel_rfl) (by simp) ?_
      refine AllReadyH.cons (o := _) rfl (fun K hK => ?_) AllReadyH.nil
      go_simp
      refine (rnumP_c q _ kn ke _ hdwb.dr.blk).mono ?_
      rintro e wc ⟨rfl, hQwc, hmwc⟩
      have hdwc := hdwb.flag HC.out hQwc hmwc
      have hmmwc := hmmwb.trans (hmwc.mono (T := fun b => b = p ∨ b = q) fun _ _ h => .inr h)
      try dsimp only
      refine hK.out _ _ ?_ (fun hHeld => ?_)
      · exact QQ.out _ hmmwc
      clear hK K
      try simp only [Act.put, List.setIfInBounds_toArray, List.set_cons_zero, List.set_cons_succ]
      refine wpAnyH_take (i := 7) (v := ?vnw2c_7) rfl (by as_aux_lemma => kernel_rfl) (by as_aux_lemma => kernel_rfl) (by as_aux_lemma => kernel_rfl) (fun c a w h => HPQ.out c a _ _ w h) (Or.inl ⟨by kernel_rfl, ?ynw2c_7⟩) hHeld ?rnw2c_7
      case ynw2c_7 =>
        intro w hSw
        try dsimp only at hSw
        obtain ⟨e0, e1⟩ := hSw
        go_simp
        try with_reducible rfl
      try simp only [Act.put, List.setIfInBounds_toArray]
      refine wpAnyH_done (by as_aux_lemma => kernel_rfl) ?_ _
      clear hHeld
      simp only [TailQ, List.drop_succ_cons, List.drop_zero]
      have hfz := hdwc
      have sfz := (swb.mod hmwc hsq)
      obtain ⟨zs, cs, fs⟩ := id sfz
      clear QQ HDZ
      go_wp2
      go_meet
      refine ⟨s, rfl, ?_, hs0, hsA, ?_⟩
      · rw [HR1v.out]
        refine Blk.as (cs := _) (by repeat (with_reducible (first | exact sfz | (apply Blk.at; simp; done) | apply Blk.alloc | apply Blk.drew | apply Blk.drewN | apply Blk.more | apply Blk.put | (apply Blk.far; focus (first | assumption | (apply Ne.symm; assumption) | (simp; done) | (simp <;> omega)))))) ?_
        simp only [List.setIfInBounds_toArray, List.set_cons_zero, List.set_cons_succ]
      · rw [HR1v.out]
        exact hfz.write HC.out hs0 hsA ((((((((((((Mod.refl (· = s) wc).set (.inl rfl)).set (.inl rfl)).set (.inl rfl)).set (.inl rfl)).set (.inl rfl)).set (.inl rfl)).set (.inl rfl)).set (.inl rfl)).set (.inl rfl)).set (.inl rfl)).set (.inl rfl))
    refine AllReadyH.cons (o := _) rfl (fun K hK => ?_) AllReadyH.nil
    go_simp
    try dsimp only
    refine hK.out _ _ ?_ (fun hHeld => ?_)
    · exact QQ.out _ (hmm0.alloc _)
    clear hK K
    refine any_fresh ?_ hHeld
    clear hHeld
    rintro wa hbwa hHeld
    have hvwa : Below wz.heap.size wz wa := (by repeat (with_reducible (first | exact Below.refl _ _ | assumption | apply ext_drew | apply ext_drewN | apply ext_alloc | apply ext_more | (refine ext_setCell ?_ (by first | assumption | (simp <;> omega)) _) | (refine ext_below ?_ (by assumption)))))
    have hdwa := HDZ.out.below hvwa
    have hmmwa := (Mod.refl (fun b => b = p ∨ b = q) wz).below hvwa
    have swa : Blk wa wz.heap.size #[.int .i64 0, .int .i64 0, .int .i64 0, .int .i64 0, .int .i64 0, .int .i64 0, .int .i64 0, .int .i64 0, .int .i64 0, .int .i64 0, .int .i64 0] := Blk.below (by repeat (with_reducible (first | assumption | (apply Blk.at; simp; done) | apply Blk.alloc | apply Blk.drew | apply Blk.drewN | apply Blk.more | apply Blk.put | (apply Blk.far; focus (first | assumption | (apply Ne.symm; assumption) | (simp; done) | (simp <;> omega)))))) hbwa
    have hs0 : w3.heap.size ≤ wz.heap.size := HDZ.out.le
    have hsA : 0 < all.length → SA ≠ some ⟨wz.heap.size, 0, none⟩ := ne_fresh HDZ.out
    obtain ⟨s, hs⟩ : ∃ s, s = wz.heap.size := ⟨_, rfl⟩
    rw [← hs] at swa hs0 hsA
    rw [← hs]
    have hsp : s ≠ p := by have := HC.out.lp; omega
    have hsq : s ≠ q := by have := HC.out.lq; omega
    clear hs hbwa hvwa
    try simp only [Act.put, List.setIfInBounds_toArray, List.set_cons_zero, List.set_cons_succ]
    refine wpAnyH_ready (rs := [3]) (by as_aux_lemma => kernel_rfl) (by simp) ?_
    refine AllReadyH.cons (o := _) rfl (fun K hK => ?_) AllReadyH.nil
    go_simp
    refine (tdet_eq (tget_c B0 p da 3 tv (openL l) _ hdwa.dr.tp) HGK.out).mono ?_
    rintro e wb ⟨rfl, hTwb, hmwb⟩
    have hdwb := hdwa.tape HC.out hTwb hmwb
    have hmmwb := hmmwa.trans (hmwb.mono (T := fun b => b = p ∨ b = q) fun _ _ h => .inl h)
    try dsimp only
    refine hK.out _ _ ?_ (fun hHeld => ?_)
    · exact QQ.out _ hmmwb
    clear hK K
    try simp only [Act.put, List.setIfInBounds_toArray, List.set_cons_zero, List.set_cons_succ]
    refine wpAnyH_take (i := 4) (v := ?vnw2d_4) rfl (by as_aux_lemma => kernel_rfl) (by as_aux_lemma => kernel_rfl) (by as_aux_lemma => kernel_rfl) (fun c a w h => HPQ.out c a _ _ w h) (Or.inl ⟨by kernel_rfl, ?ynw2d_4⟩) hHeld ?rnw2d_4
    case ynw2d_4 =>
      intro w hSw
      try dsimp only at hSw
      obtain ⟨e0, e1⟩ := hSw
      go_simp
      try with_reducible rfl
    try simp only [Act.put, List.setIfInBounds_toArray]
    refine wpAnyH_take (i := 5) (v := ?vnw2d_5) rfl (by as_aux_lemma => kernel_rfl) (by as_aux_lemma => kernel_rfl) (by as_aux_lemma => kernel_rfl) (fun c a w h => HPQ.out c a _ _ w h) (Or.inl ⟨by kernel_rfl, ?ynw2d_5⟩) hHeld ?rnw2d_5
    case ynw2d_5 =>
      intro w hSw
      try dsimp only at hSw
      obtain ⟨e0, e1⟩ := hSw
      go_simp
      try with_reducible rfl
    try simp only [Act.put]
    refine wpAnyH_ready (rs := [6]) (by as_aux_lemma => kernel_rfl) (by simp) ?_
    refine AllReadyH.cons (o := _) rfl (fun K hK => ?_) AllReadyH.nil
    go_simp
    refine (rnumP_c q _ kn ke _ hdwb.dr.blk).mono ?_
    rintro e wc ⟨rfl, hQwc, hmwc⟩
    have hdwc := hdwb.flag HC.out hQwc hmwc
    have hmmwc := hmmwb.trans (hmwc.mono (T := fun b => b = p ∨ b = q) fun _ _ h => .inr h)
    try dsimp only
    refine hK.out _ _ ?_ (fun hHeld => ?_)
    · exact QQ.out _ hmmwc
    clear hK K
    try simp only [Act.put, List.setIfInBounds_toArray, List.set_cons_zero, List.set_cons_succ]
    refine wpAnyH_take (i := 7) (v := ?vnw2d_7) rfl (by as_aux_lemma => kernel_rfl) (by as_aux_lemma => kernel_rfl) (by as_aux_lemma => kernel_rfl) (fun c a w h => HPQ.out c a _ _ w h) (Or.inl ⟨by kernel_rfl, ?ynw2d_7⟩) hHeld ?rnw2d_7
    case ynw2d_7 =>
      intro w hSw
      try dsimp only at hSw
      obtain ⟨e0, e1⟩ := hSw
      go_simp
      try with_reducible rfl
    try simp only [Act.put, List.setIfInBounds_toArray]
    refine wpAnyH_done (by as_aux_lemma => kernel_rfl) ?_ _
    clear hHeld
    simp only [TailQ, List.drop_succ_cons, List.drop_zero]
    have hfz := hdwc
    have sfz := ((swa.mod hmwb hsp).mod hmwc hsq)
    obtain ⟨zs, cs, fs⟩ := id sfz
    clear QQ HDZ
    go_wp2
    go_meet
    refine ⟨s, rfl, ?_, hs0, hsA, ?_⟩
    · rw [HR1v.out]
      refine Blk.as (cs := _) (by repeat (with_reducible (first | exact sfz | (apply Blk.at; simp; done) | apply Blk.alloc | apply Blk.drew | apply Blk.drewN | apply Blk.more | apply Blk.put | (apply Blk.far; focus (first | assumption | (apply Ne.symm; assumption) | (simp; done) | (simp <;> omega)))))) ?_
      simp only [List.setIfInBounds_toArray, List.set_cons_zero, List.set_cons_succ]
    · rw [HR1v.out]
      exact hfz.write HC.out hs0 hsA ((((((((((((Mod.refl (· = s) wc).set (.inl rfl)).set (.inl rfl)).set (.inl rfl)).set (.inl rfl)).set (.inl rfl)).set (.inl rfl)).set (.inl rfl)).set (.inl rfl)).set (.inl rfl)).set (.inl rfl)).set (.inl rfl))
  obtain ⟨s, rfl, s12, hs0, hsA, h12⟩ := hcut
  obtain ⟨w12, hw12⟩ : ∃ w12, w12 = wc := ⟨_, rfl⟩
  rw [← hw12] at s12 h12
  rw [← hw12]
  have H12 := Lib.hid h12
  have HSA := Lib.hid hsA
  have hsp : s ≠ p ∧ s ≠ q := by have := HC.out.lp; have := HC.out.lq; omega
  clear hw12 h12 hsA HR1v HGK
  obtain ⟨p2, hp2⟩ : ∃ r, v3R (openL l) 0 0 0 r1.2 = r := ⟨_, rfl⟩
  have P2 := Lib.hid hp2
  obtain ⟨p3, hp3⟩ : ∃ r, v3R (openL l) 0 0 0 p2.2 = r := ⟨_, rfl⟩
  have P3 := Lib.hid hp3
  obtain ⟨p4, hp4⟩ : ∃ r, v3R (openL l) 0 0 0 p3.2 = r := ⟨_, rfl⟩
  have P4 := Lib.hid hp4
  clear hp2 hp3 hp4
  obtain ⟨zs, cs, fs⟩ := id s12
  go_wp2_with fail
  refine (rvecP_c B0 p q c8 c6 r1.2 tv (openL l) 0 0 0 p2 _ P2.out H12.out.dr H12.out.e8 H12.out.e6 HC.out.n8 HC.out.n6 in62_0 in62_0 in62_0).mono ?_
  rintro e w13 ⟨rfl, hD13, hm13⟩
  have H13 := Lib.hid (H12.out.read HC.out hD13 hm13)
  have s13 := s12.mod hm13 (by omega)
  clear zs cs fs s12 hD13 hm13 H12
  obtain ⟨zs, cs, fs⟩ := id s13

  go_upto_region 24 with fail
  refine wp_fresh ?_
  rintro w14 hb14
  have k14 : Mod (· = s) w13 w14 := Mod.below ((((Mod.refl (· = s) w13).set (.inl rfl)).set (.inl rfl)).set (.inl rfl)) hb14
  have s14 : Blk w14 s _ := Blk.below (by repeat (with_reducible (first | assumption | (apply Blk.at; simp; done) | apply Blk.alloc | apply Blk.drew | apply Blk.drewN | apply Blk.more | apply Blk.put | (apply Blk.far; focus (first | assumption | (apply Ne.symm; assumption) | (simp; done) | (simp <;> omega)))))) hb14
  try simp only [List.setIfInBounds_toArray, List.set_cons_zero, List.set_cons_succ] at s14
  have H14 := Lib.hid (H13.out.write HC.out hs0 HSA.out k14)
  clear zs cs fs s13 hb14 k14 H13
  obtain ⟨zs, cs, fs⟩ := id s14
  go_wp2_with fail
  refine (rvecP_c B0 p q c8 c6 p2.2 tv (openL l) 0 0 0 p3 _ P3.out H14.out.dr H14.out.e8 H14.out.e6 HC.out.n8 HC.out.n6 in62_0 in62_0 in62_0).mono ?_
  rintro e w15 ⟨rfl, hD15, hm15⟩
  have H15 := Lib.hid (H14.out.read HC.out hD15 hm15)
  have s15 := s14.mod hm15 (by omega)
  clear zs cs fs s14 hD15 hm15 H14
  obtain ⟨zs, cs, fs⟩ := id s15

  go_upto_region 25 with fail
  refine wp_fresh ?_
  rintro w16 hb16
  have k16 : Mod (· = s) w15 w16 := Mod.below ((((Mod.refl (· = s) w15).set (.inl rfl)).set (.inl rfl)).set (.inl rfl)) hb16
  have s16 : Blk w16 s _ := Blk.below (by repeat (with_reducible (first | assumption | (apply Blk.at; simp; done) | apply Blk.alloc | apply Blk.drew | apply Blk.drewN | apply Blk.more | apply Blk.put | (apply Blk.far; focus (first | assumption | (apply Ne.symm; assumption) | (simp; done) | (simp <;> omega)))))) hb16
  try simp only [List.setIfInBounds_toArray, List.set_cons_zero, List.set_cons_succ] at s16
  have H16 := Lib.hid (H15.out.write HC.out hs0 HSA.out k16)
  clear zs cs fs s15 hb16 k16 H15
  obtain ⟨zs, cs, fs⟩ := id s16
  go_wp2_with fail
  refine (rvecP_c B0 p q c8 c6 p3.2 tv (openL l) 0 0 0 p4 _ P4.out H16.out.dr H16.out.e8 H16.out.e6 HC.out.n8 HC.out.n6 in62_0 in62_0 in62_0).mono ?_
  rintro e w17 ⟨rfl, hD17, hm17⟩
  have H17 := Lib.hid (H16.out.read HC.out hD17 hm17)
  have s17 := s16.mod hm17 (by omega)
  clear zs cs fs s16 hD17 hm17 H16
  obtain ⟨zs, cs, fs⟩ := id s17

  go_upto_region 26 with fail
  refine wp_fresh ?_
  rintro w18 hb18
  have k18 : Mod (· = s) w17 w18 := Mod.below ((((Mod.refl (· = s) w17).set (.inl rfl)).set (.inl rfl)).set (.inl rfl)) hb18
  have s18 : Blk w18 s _ := Blk.below (by repeat (with_reducible (first | assumption | (apply Blk.at; simp; done) | apply Blk.alloc | apply Blk.drew | apply Blk.drewN | apply Blk.more | apply Blk.put | (apply Blk.far; focus (first | assumption | (apply Ne.symm; assumption) | (simp; done) | (simp <;> omega)))))) hb18
  try simp only [List.setIfInBounds_toArray, List.set_cons_zero, List.set_cons_succ] at s18
  have H18 := Lib.hid (H17.out.write HC.out hs0 HSA.out k18)
  clear zs cs fs s17 hb18 k18 H17
  have hE : newR (openL l) now (da, false) = (⟨now, r1.1, p2.1.1, p2.1.2.1, p2.1.2.2, p3.1.1, p3.1.2.1, p3.1.2.2, p4.1.1, p4.1.2.1, p4.1.2.2⟩, p4.2) := by unfold newR; simp only [HR1'.out, P2.out, P3.out, P4.out]
  rw [HNEW.out] at hE
  obtain ⟨hnr, hsg⟩ := Prod.mk.inj hE
  have HSG := Lib.hid hsg
  clear hE hsg
  have HNR : Hid ((#[.int .i64 now, .int .i64 (r1.1), .int .i64 (p2.1.1), .int .i64 (p2.1.2.1), .int .i64 (p2.1.2.2), .int .i64 (p3.1.1), .int .i64 (p3.1.2.1), .int .i64 (p3.1.2.2), .int .i64 (p4.1.1), .int .i64 (p4.1.2.1), .int .i64 (p4.1.2.2)] : Array Value) = #[.int .i64 (nr.id), .int .i64 (nr.kd), .int .i64 (nr.s1), .int .i64 (nr.s2), .int .i64 (nr.s3), .int .i64 (nr.a1), .int .i64 (nr.a2), .int .i64 (nr.a3), .int .i64 (nr.v1), .int .i64 (nr.v2), .int .i64 (nr.v3)]) := Lib.hid (by subst hnr; rfl)
  rw [HNR.out] at s18
  have hrd1 : ∀ wx b, Blk wx b (#[.int .i64 (nr.id), .int .i64 (nr.kd), .int .i64 (nr.s1), .int .i64 (nr.s2), .int .i64 (nr.s3), .int .i64 (nr.a1), .int .i64 (nr.a2), .int .i64 (nr.a3), .int .i64 (nr.v1), .int .i64 (nr.v2), .int .i64 (nr.v3)]) → Reads wx (some ⟨b, 0, none⟩) 1 11 (mx [nr]) := fun wx b hB => reads_snL (r := nr) hB
  have HRD1 := Lib.hid hrd1
  have HLEN : Hid (al2.length = all.length + 1) := Lib.hid (by rw [HAL.out]; simp only [List.length_append, List.length_cons, List.length_take, List.length_drop]; omega)
  clear hnr hrd1
  obtain ⟨hRt, hAt, hslT⟩ := rows_till (P := Try.prog) (t := 32) (by kernel_rfl) (fun w' => by kernel_rfl) H18.out.rw.reads H18.out.rw.nil H18.out.rw.cap k (by omega)
  obtain ⟨A9, hRf, hAf, hslF⟩ := rows_from (P := Try.prog) (t := 32) (e := 102) (by kernel_rfl) (fun w' => by kernel_rfl) H18.out.rw.reads H18.out.rw.nil H18.out.rw.cap k (by omega) rfl
  have HRT := Lib.hid hRt
  have HAT := Lib.hid hAt
  have HRF := Lib.hid hRf
  have HAF := Lib.hid hAf
  have HS18 := Lib.hid s18
  have s18d : Blk w18.drew s (#[.int .i64 (nr.id), .int .i64 (nr.kd), .int .i64 (nr.s1), .int .i64 (nr.s2), .int .i64 (nr.s3), .int .i64 (nr.a1), .int .i64 (nr.a2), .int .i64 (nr.a3), .int .i64 (nr.v1), .int .i64 (nr.v2), .int .i64 (nr.v3)]) := s18.below (ext_drew (Below.refl _ _))
  have hs18 := s18.lt
  clear hRt hAt hRf hAf s18
  refine region_held_tail (fun w' => Blk w' s (#[.int .i64 (nr.id), .int .i64 (nr.kd), .int .i64 (nr.s1), .int .i64 (nr.s2), .int .i64 (nr.s3), .int .i64 (nr.a1), .int .i64 (nr.a2), .int .i64 (nr.a3), .int .i64 (nr.v1), .int .i64 (nr.v2), .int .i64 (nr.v3)])) 12 (by as_aux_lemma => kernel_rfl) (by as_aux_lemma => kernel_rfl) s18d (fun hHeld => ?_)
  simp only [List.take_succ_cons, List.take_zero]
  refine wpAnyH_take (i := 1) (v := ?vrn2_1) rfl (by as_aux_lemma => kernel_rfl) (by as_aux_lemma => kernel_rfl) (by as_aux_lemma => kernel_rfl) (fun c a w h => HPQ.out c a _ _ w h) (Or.inl ⟨by kernel_rfl, ?yrn2_1⟩) hHeld ?rrn2_1
  case yrn2_1 =>
    intro w hSw
    try dsimp only at hSw
    obtain ⟨zz, cc, ff⟩ := hSw
    go_simp
    try with_reducible rfl
  try simp only [Act.put, List.setIfInBounds_toArray]
  refine wpAnyH_take (i := 2) (v := ?vrn2_2) rfl (by as_aux_lemma => kernel_rfl) (by as_aux_lemma => kernel_rfl) (by as_aux_lemma => kernel_rfl) (fun c a w h => HPQ.out c a _ _ w h) (Or.inl ⟨by kernel_rfl, ?yrn2_2⟩) hHeld ?rrn2_2
  case yrn2_2 =>
    intro w hSw
    try dsimp only at hSw
    obtain ⟨zz, cc, ff⟩ := hSw
    go_simp
    try with_reducible rfl
  try simp only [Act.put]
  refine wpAnyH_take (i := 3) (v := ?vrn2_3) rfl (by as_aux_lemma => kernel_rfl) (by as_aux_lemma => kernel_rfl) (by as_aux_lemma => kernel_rfl) (fun c a w h => HPQ.out c a _ _ w h) (Or.inl ⟨by kernel_rfl, ?yrn2_3⟩) hHeld ?rrn2_3
  case yrn2_3 =>
    intro w hSw
    try dsimp only at hSw
    obtain ⟨zz, cc, ff⟩ := hSw
    go_simp
    try with_reducible rfl
  try simp only [Act.put]
  refine wpAnyH_take (i := 5) (v := ?vrn2_5) rfl (by as_aux_lemma => kernel_rfl) (by as_aux_lemma => kernel_rfl) (by as_aux_lemma => kernel_rfl) (fun c a w h => HPQ.out c a _ _ w h) (Or.inl ⟨by kernel_rfl, ?yrn2_5⟩) hHeld ?rrn2_5
  case yrn2_5 =>
    intro w hSw
    refine Eq.trans (exec_seenR (r := nr) hSw (.tmp 16) ?_ ?_) ?_
    · rfl
    · rfl
    · with_reducible rfl
  try simp only [Act.put]
  refine wpAnyH_take (i := 8) (v := ?vrn2_8) rfl (by as_aux_lemma => kernel_rfl) (by as_aux_lemma => kernel_rfl) (by as_aux_lemma => kernel_rfl) (fun c a w h => HPQ.out c a _ _ w h) (Or.inl ⟨by kernel_rfl, ?yrn2_8⟩) hHeld ?rrn2_8
  case yrn2_8 =>
    intro w hSw
    try dsimp only at hSw
    obtain ⟨zz, cc, ff⟩ := hSw
    go_simp
    try with_reducible rfl
  try simp only [Act.put]
  refine wpAnyH_take (i := 9) (v := ?vrn2_9) rfl (by as_aux_lemma => kernel_rfl) (by as_aux_lemma => kernel_rfl) (by as_aux_lemma => kernel_rfl) (fun c a w h => HPQ.out c a _ _ w h) (Or.inl ⟨by kernel_rfl, ?yrn2_9⟩) hHeld ?rrn2_9
  case yrn2_9 =>
    intro w hSw
    try dsimp only at hSw
    obtain ⟨zz, cc, ff⟩ := hSw
    go_simp
    try with_reducible rfl
  try simp only [Act.put]
  refine wpAnyH_take (i := 10) (v := ?vrn2_10) rfl (by as_aux_lemma => kernel_rfl) (by as_aux_lemma => kernel_rfl) (by as_aux_lemma => kernel_rfl) (fun c a w h => HPQ.out c a _ _ w h) (Or.inl ⟨by kernel_rfl, ?yrn2_10⟩) hHeld ?rrn2_10
  case yrn2_10 =>
    intro w hSw
    try dsimp only at hSw
    obtain ⟨zz, cc, ff⟩ := hSw
    go_simp
    try with_reducible rfl
  try simp only [Act.put]
  refine wpAnyH_ready (rs := [0, 6]) (by as_aux_lemma => kernel_rfl) (by simp) ?_
  refine AllReadyH.cons (o := _) rfl (fun K hK => ?_) ?_
  · go_simp
    try dsimp only
    refine hK.out _ _ ?_ (fun hHeld => ?_)
    · exact (s18d).below (balloc _ _)
    clear hK K
    refine any_fresh ?_ hHeld
    clear hHeld
    rintro wa hbwa hHeld
    have hvwa : Below w18.heap.size w18 wa := (by repeat (with_reducible (first | exact Below.refl _ _ | assumption | apply ext_drew | apply ext_drewN | apply ext_alloc | apply ext_more | (refine ext_setCell ?_ (by first | assumption | (simp <;> omega)) _) | (refine ext_below ?_ (by assumption)))))
    have hawa : wa.ownsRow w18.heap.size 102 11 (.slice (some ⟨w18.heap.size, 0, none⟩) 0 0) 0 [] := row_below (own_empty (w := w18.drew) 102 11) hbwa
    have swa : Blk wa s (#[.int .i64 (nr.id), .int .i64 (nr.kd), .int .i64 (nr.s1), .int .i64 (nr.s2), .int .i64 (nr.s3), .int .i64 (nr.a1), .int .i64 (nr.a2), .int .i64 (nr.a3), .int .i64 (nr.v1), .int .i64 (nr.v2), .int .i64 (nr.v3)]) := hHeld
    have hszwa := hvwa.size
    obtain ⟨g0, hg0⟩ : ∃ g, g = w18.heap.size := ⟨_, rfl⟩
    rw [← hg0] at hawa
    rw [← hg0]
    have hg18 : w18.heap.size ≤ g0 := by rw [hg0]; exact Nat.le_refl _
    have hg0n : g0 < wa.heap.size := by have := (row_lt hawa (b := g0) rfl).1; exact this
    have hg0x : w18.heap.size ≤ g0 := Nat.le_of_eq hg0.symm
    clear hg0 hbwa
    try simp only [Act.put, List.setIfInBounds_toArray, List.set_cons_zero, List.set_cons_succ]
    refine wpAnyH_ready (rs := [4, 6]) (by as_aux_lemma => kernel_rfl) (by simp) ?_
    refine AllReadyH.cons (o := _) rfl (fun K hK => ?_) ?_
    · refine step_rows rfl (.tmp 126) (.tmp 129) 32 rfl (e := 102) Try.underlying32 seenInfoR rfl (by decide) (by decide) g0 (.slice (some ⟨g0, 0, none⟩) 0 0) 0 ([]) rfl (hawa) rfl (HRT.out.below hvwa) (HAT.out) (by omega) (by omega) ?_
      intro v4 wb hownwb hmodwb
      have hvwb := below_row hvwa hawa hg18 hmodwb
      have hsmwb := hmodwb.size
      have hszwb := hvwb.size
      rw [Nat.zero_add, List.nil_append] at hownwb
      have hfwb : ∀ b, b ≠ g0 → ¬ (Value.ownBlock (.slice (some ⟨g0, 0, none⟩) 0 0) = some b) := fun b hb e => by simp [Value.ownBlock] at e; omega
      have swb := (swa).mod hmodwb (hfwb s (by omega))
      refine hK.out _ _ ?_ (fun hHeld => ?_)
      · exact swb
      clear hK K
      try simp only [Act.put, List.setIfInBounds_toArray]
      refine wpAnyH_ready (rs := [6]) (by as_aux_lemma => kernel_rfl) (by simp) ?_
      refine AllReadyH.cons (o := _) rfl (fun K hK => ?_) AllReadyH.nil
      go_simp
      try dsimp only
      refine hK.out _ _ ?_ (fun hHeld => ?_)
      · exact (swb).below (balloc _ _)
      clear hK K
      refine any_fresh ?_ hHeld
      clear hHeld
      rintro wc hbwc hHeld
      have hkwc : Below (World.heap wb).size wb wc := (balloc wb _).trans (hbwc.mono (balloc wb _).size)
      have hsmwc := hkwc.size
      have hvwc : Below w18.heap.size w18 wc := (by repeat (with_reducible (first | exact Below.refl _ _ | assumption | apply ext_drew | apply ext_drewN | apply ext_alloc | apply ext_more | (refine ext_setCell ?_ (by first | assumption | (simp <;> omega)) _) | (refine ext_below ?_ (by assumption)))))
      have bwc : Blk wc wb.heap.size (#[.int .i64 (nr.id), .int .i64 (nr.kd), .int .i64 (nr.s1), .int .i64 (nr.s2), .int .i64 (nr.s3), .int .i64 (nr.a1), .int .i64 (nr.a2), .int .i64 (nr.a3), .int .i64 (nr.v1), .int .i64 (nr.v2), .int .i64 (nr.v3)]) := Blk.below (by repeat (with_reducible (first | assumption | (apply Blk.at; simp; done) | apply Blk.alloc | apply Blk.drew | apply Blk.drewN | apply Blk.more | apply Blk.put | (apply Blk.far; focus (first | assumption | (apply Ne.symm; assumption) | (simp; done) | (simp <;> omega)))))) hbwc
      have swc : Blk wc s (#[.int .i64 (nr.id), .int .i64 (nr.kd), .int .i64 (nr.s1), .int .i64 (nr.s2), .int .i64 (nr.s3), .int .i64 (nr.a1), .int .i64 (nr.a2), .int .i64 (nr.a3), .int .i64 (nr.v1), .int .i64 (nr.v2), .int .i64 (nr.v3)]) := hHeld
      have hszwc := hvwc.size
      obtain ⟨g6, hg6⟩ : ∃ g, g = wb.heap.size := ⟨_, rfl⟩
      rw [← hg6] at bwc
      rw [← hg6]
      have hg6' : w18.heap.size ≤ g6 := by rw [hg6]; first | exact Nat.le_refl _ | exact hszwb
      have hg6n := bwc.lt
      have hg6x : wb.heap.size ≤ g6 := Nat.le_of_eq hg6.symm
      clear hg6 hbwc
      try simp only [Act.put, List.setIfInBounds_toArray, List.set_cons_zero, List.set_cons_succ]
      have hownwc := row_below hownwb hkwc
      refine wpAnyH_ready (rs := [7]) (by as_aux_lemma => kernel_rfl) (by simp) ?_
      refine AllReadyH.cons (o := _) rfl (fun K hK => ?_) AllReadyH.nil
      refine step_rows rfl (.tmp 130) (.tmp 132) 32 rfl (e := 102) Try.underlying32 seenInfoR rfl (by decide) (by decide) g0 (v4) k (rowsL (mx all) 11 k) rfl (hownwc) rfl (HRD1.out _ _ bwc) ((fun h => by cases h)) (by omega) (by omega) ?_
      intro v7 wd hownwd hmodwd
      have hvwd := below_row hvwc hownwc hg18 hmodwd
      have hsmwd := hmodwd.size
      have hszwd := hvwd.size
      have swd : Blk wd s (#[.int .i64 (nr.id), .int .i64 (nr.kd), .int .i64 (nr.s1), .int .i64 (nr.s2), .int .i64 (nr.s3), .int .i64 (nr.a1), .int .i64 (nr.a2), .int .i64 (nr.a3), .int .i64 (nr.v1), .int .i64 (nr.v2), .int .i64 (nr.v3)]) := HS18.out.below hvwd
      refine hK.out _ _ ?_ (fun hHeld => ?_)
      · exact swd
      clear hK K
      try simp only [Act.put, List.setIfInBounds_toArray]
      refine wpAnyH_ready (rs := [11]) (by as_aux_lemma => kernel_rfl) (by simp) ?_
      refine AllReadyH.cons (o := _) rfl (fun K hK => ?_) AllReadyH.nil
      refine step_rows rfl (.tmp 133) (.tmp 136) 32 rfl (e := 102) Try.underlying32 seenInfoR rfl (by decide) (by decide) g0 (v7) (k + 1) ((rowsL (mx all) 11 k ++ rowsL (mx [nr]) 11 1)) rfl (hownwd) rfl (HRF.out.below hvwd) (HAF.out) (by omega) (by omega) ?_
      intro v11 we hownwe hmodwe
      have hvwe := below_row hvwd hownwd hg18 hmodwe
      have swe : Blk we s (#[.int .i64 (nr.id), .int .i64 (nr.kd), .int .i64 (nr.s1), .int .i64 (nr.s2), .int .i64 (nr.s3), .int .i64 (nr.a1), .int .i64 (nr.a2), .int .i64 (nr.a3), .int .i64 (nr.v1), .int .i64 (nr.v2), .int .i64 (nr.v3)]) := HS18.out.below hvwe
      refine hK.out _ _ ?_ (fun hHeld => ?_)
      · exact swe
      clear hK K
      try simp only [Act.put]
      refine wpAnyH_done (by as_aux_lemma => kernel_rfl) ?_ _
      clear hHeld
      simp only [TailQ, List.drop_succ_cons, List.drop_zero]
      have hrs : rowsL (mx all) 11 k ++ rowsL (mx [nr]) 11 1 ++ rowsL (fun i j => mx all (k + i) j) 11 (all.length - k) = rowsS al2 := by
        rw [HAL.out, rowsS_append, rowsS_take all (by omega), show nr :: all.drop k = [nr] ++ all.drop k from rfl, rowsS_append, rowsS_eq [nr], rowsS_drop all k, List.append_assoc]
        rfl
      have hrl : k + 1 + (all.length - k) = al2.length := by rw [HLEN.out]; omega
      rw [hrs, hrl] at hownwe
      obtain ⟨SA2, SC2, rfl⟩ := rowz_form hownwe
      have H19 := Lib.hid ((H18.out.below hvwe).now (Rw.of_own hownwe (Nat.le_trans H18.out.le hg18)))
      have H20 := H19.out
      rw [← HSG.out] at H20
      clear hrs hrl hslT hslF
      go_wp2
      exact HQ.out _ _ _ _ _ _ _ _ _ _ _ _ _ _ _ _ _ _ _ _ _ _ _ _ _ _ _ _ _ _ _ _ _ _ _ _ _ SA2 SC2 H20
    refine AllReadyH.cons (o := _) rfl (fun K hK => ?_) AllReadyH.nil
    go_simp
    try dsimp only
    refine hK.out _ _ ?_ (fun hHeld => ?_)
    · exact (swa).below (balloc _ _)
    clear hK K
    refine any_fresh ?_ hHeld
    clear hHeld
    rintro wb hbwb hHeld
    have hkwb : Below (World.heap wa).size wa wb := (balloc wa _).trans (hbwb.mono (balloc wa _).size)
    have hsmwb := hkwb.size
    have hvwb : Below w18.heap.size w18 wb := (by repeat (with_reducible (first | exact Below.refl _ _ | assumption | apply ext_drew | apply ext_drewN | apply ext_alloc | apply ext_more | (refine ext_setCell ?_ (by first | assumption | (simp <;> omega)) _) | (refine ext_below ?_ (by assumption)))))
    have bwb : Blk wb wa.heap.size (#[.int .i64 (nr.id), .int .i64 (nr.kd), .int .i64 (nr.s1), .int .i64 (nr.s2), .int .i64 (nr.s3), .int .i64 (nr.a1), .int .i64 (nr.a2), .int .i64 (nr.a3), .int .i64 (nr.v1), .int .i64 (nr.v2), .int .i64 (nr.v3)]) := Blk.below (by repeat (with_reducible (first | assumption | (apply Blk.at; simp; done) | apply Blk.alloc | apply Blk.drew | apply Blk.drewN | apply Blk.more | apply Blk.put | (apply Blk.far; focus (first | assumption | (apply Ne.symm; assumption) | (simp; done) | (simp <;> omega)))))) hbwb
    have swb : Blk wb s (#[.int .i64 (nr.id), .int .i64 (nr.kd), .int .i64 (nr.s1), .int .i64 (nr.s2), .int .i64 (nr.s3), .int .i64 (nr.a1), .int .i64 (nr.a2), .int .i64 (nr.a3), .int .i64 (nr.v1), .int .i64 (nr.v2), .int .i64 (nr.v3)]) := hHeld
    have hszwb := hvwb.size
    obtain ⟨g6, hg6⟩ : ∃ g, g = wa.heap.size := ⟨_, rfl⟩
    rw [← hg6] at bwb
    rw [← hg6]
    have hg6' : w18.heap.size ≤ g6 := by rw [hg6]; first | exact Nat.le_refl _ | exact hszwa
    have hg6n := bwb.lt
    have hg6x : wa.heap.size ≤ g6 := Nat.le_of_eq hg6.symm
    clear hg6 hbwb
    try simp only [Act.put, List.setIfInBounds_toArray, List.set_cons_zero, List.set_cons_succ]
    have hawb := row_below hawa hkwb
    refine wpAnyH_ready (rs := [4]) (by as_aux_lemma => kernel_rfl) (by simp) ?_
    refine AllReadyH.cons (o := _) rfl (fun K hK => ?_) AllReadyH.nil
    refine step_rows rfl (.tmp 126) (.tmp 129) 32 rfl (e := 102) Try.underlying32 seenInfoR rfl (by decide) (by decide) g0 (.slice (some ⟨g0, 0, none⟩) 0 0) 0 ([]) rfl (hawb) rfl (HRT.out.below hvwb) (HAT.out) (by omega) (by omega) ?_
    intro v4 wc hownwc hmodwc
    have hvwc := below_row hvwb hawb hg18 hmodwc
    have hsmwc := hmodwc.size
    have hszwc := hvwc.size
    rw [Nat.zero_add, List.nil_append] at hownwc
    have hfwc : ∀ b, b ≠ g0 → ¬ (Value.ownBlock (.slice (some ⟨g0, 0, none⟩) 0 0) = some b) := fun b hb e => by simp [Value.ownBlock] at e; omega
    have swc := (swb).mod hmodwc (hfwc s (by omega))
    have bwc := bwb.mod hmodwc (hfwc g6 (by omega))
    refine hK.out _ _ ?_ (fun hHeld => ?_)
    · exact swc
    clear hK K
    try simp only [Act.put, List.setIfInBounds_toArray]
    refine wpAnyH_ready (rs := [7]) (by as_aux_lemma => kernel_rfl) (by simp) ?_
    refine AllReadyH.cons (o := _) rfl (fun K hK => ?_) AllReadyH.nil
    refine step_rows rfl (.tmp 130) (.tmp 132) 32 rfl (e := 102) Try.underlying32 seenInfoR rfl (by decide) (by decide) g0 (v4) k (rowsL (mx all) 11 k) rfl (hownwc) rfl (HRD1.out _ _ bwc) ((fun h => by cases h)) (by omega) (by omega) ?_
    intro v7 wd hownwd hmodwd
    have hvwd := below_row hvwc hownwc hg18 hmodwd
    have hsmwd := hmodwd.size
    have hszwd := hvwd.size
    have swd : Blk wd s (#[.int .i64 (nr.id), .int .i64 (nr.kd), .int .i64 (nr.s1), .int .i64 (nr.s2), .int .i64 (nr.s3), .int .i64 (nr.a1), .int .i64 (nr.a2), .int .i64 (nr.a3), .int .i64 (nr.v1), .int .i64 (nr.v2), .int .i64 (nr.v3)]) := HS18.out.below hvwd
    refine hK.out _ _ ?_ (fun hHeld => ?_)
    · exact swd
    clear hK K
    try simp only [Act.put]
    refine wpAnyH_ready (rs := [11]) (by as_aux_lemma => kernel_rfl) (by simp) ?_
    refine AllReadyH.cons (o := _) rfl (fun K hK => ?_) AllReadyH.nil
    refine step_rows rfl (.tmp 133) (.tmp 136) 32 rfl (e := 102) Try.underlying32 seenInfoR rfl (by decide) (by decide) g0 (v7) (k + 1) ((rowsL (mx all) 11 k ++ rowsL (mx [nr]) 11 1)) rfl (hownwd) rfl (HRF.out.below hvwd) (HAF.out) (by omega) (by omega) ?_
    intro v11 we hownwe hmodwe
    have hvwe := below_row hvwd hownwd hg18 hmodwe
    have swe : Blk we s (#[.int .i64 (nr.id), .int .i64 (nr.kd), .int .i64 (nr.s1), .int .i64 (nr.s2), .int .i64 (nr.s3), .int .i64 (nr.a1), .int .i64 (nr.a2), .int .i64 (nr.a3), .int .i64 (nr.v1), .int .i64 (nr.v2), .int .i64 (nr.v3)]) := HS18.out.below hvwe
    refine hK.out _ _ ?_ (fun hHeld => ?_)
    · exact swe
    clear hK K
    try simp only [Act.put]
    refine wpAnyH_done (by as_aux_lemma => kernel_rfl) ?_ _
    clear hHeld
    simp only [TailQ, List.drop_succ_cons, List.drop_zero]
    have hrs : rowsL (mx all) 11 k ++ rowsL (mx [nr]) 11 1 ++ rowsL (fun i j => mx all (k + i) j) 11 (all.length - k) = rowsS al2 := by
      rw [HAL.out, rowsS_append, rowsS_take all (by omega), show nr :: all.drop k = [nr] ++ all.drop k from rfl, rowsS_append, rowsS_eq [nr], rowsS_drop all k, List.append_assoc]
      rfl
    have hrl : k + 1 + (all.length - k) = al2.length := by rw [HLEN.out]; omega
    rw [hrs, hrl] at hownwe
    obtain ⟨SA2, SC2, rfl⟩ := rowz_form hownwe
    have H19 := Lib.hid ((H18.out.below hvwe).now (Rw.of_own hownwe (Nat.le_trans H18.out.le hg18)))
    have H20 := H19.out
    rw [← HSG.out] at H20
    clear hrs hrl hslT hslF
    go_wp2
    exact HQ.out _ _ _ _ _ _ _ _ _ _ _ _ _ _ _ _ _ _ _ _ _ _ _ _ _ _ _ _ _ _ _ _ _ _ _ _ _ SA2 SC2 H20
  refine AllReadyH.cons (o := _) rfl (fun K hK => ?_) AllReadyH.nil
  go_simp
  try dsimp only
  refine hK.out _ _ ?_ (fun hHeld => ?_)
  · exact (s18d).below (balloc _ _)
  clear hK K
  refine any_fresh ?_ hHeld
  clear hHeld
  rintro wa hbwa hHeld
  have hvwa : Below w18.heap.size w18 wa := (by repeat (with_reducible (first | exact Below.refl _ _ | assumption | apply ext_drew | apply ext_drewN | apply ext_alloc | apply ext_more | (refine ext_setCell ?_ (by first | assumption | (simp <;> omega)) _) | (refine ext_below ?_ (by assumption)))))
  have bwa : Blk wa w18.heap.size (#[.int .i64 (nr.id), .int .i64 (nr.kd), .int .i64 (nr.s1), .int .i64 (nr.s2), .int .i64 (nr.s3), .int .i64 (nr.a1), .int .i64 (nr.a2), .int .i64 (nr.a3), .int .i64 (nr.v1), .int .i64 (nr.v2), .int .i64 (nr.v3)]) := Blk.below (by repeat (with_reducible (first | assumption | (apply Blk.at; simp; done) | apply Blk.alloc | apply Blk.drew | apply Blk.drewN | apply Blk.more | apply Blk.put | (apply Blk.far; focus (first | assumption | (apply Ne.symm; assumption) | (simp; done) | (simp <;> omega)))))) hbwa
  have swa : Blk wa s (#[.int .i64 (nr.id), .int .i64 (nr.kd), .int .i64 (nr.s1), .int .i64 (nr.s2), .int .i64 (nr.s3), .int .i64 (nr.a1), .int .i64 (nr.a2), .int .i64 (nr.a3), .int .i64 (nr.v1), .int .i64 (nr.v2), .int .i64 (nr.v3)]) := hHeld
  have hszwa := hvwa.size
  obtain ⟨g6, hg6⟩ : ∃ g, g = w18.heap.size := ⟨_, rfl⟩
  rw [← hg6] at bwa
  rw [← hg6]
  have hg6' : w18.heap.size ≤ g6 := by rw [hg6]; first | exact Nat.le_refl _ | exact hszw18
  have hg6n := bwa.lt
  have hg6x : w18.heap.size ≤ g6 := Nat.le_of_eq hg6.symm
  clear hg6 hbwa
  try simp only [Act.put, List.setIfInBounds_toArray, List.set_cons_zero, List.set_cons_succ]
  refine wpAnyH_ready (rs := [0]) (by as_aux_lemma => kernel_rfl) (by simp) ?_
  refine AllReadyH.cons (o := _) rfl (fun K hK => ?_) AllReadyH.nil
  go_simp
  try dsimp only
  refine hK.out _ _ ?_ (fun hHeld => ?_)
  · exact (swa).below (balloc _ _)
  clear hK K
  refine any_fresh ?_ hHeld
  clear hHeld
  rintro wb hbwb hHeld
  have hkwb : Below (World.heap wa).size wa wb := (balloc wa _).trans (hbwb.mono (balloc wa _).size)
  have hsmwb := hkwb.size
  have hvwb : Below w18.heap.size w18 wb := (by repeat (with_reducible (first | exact Below.refl _ _ | assumption | apply ext_drew | apply ext_drewN | apply ext_alloc | apply ext_more | (refine ext_setCell ?_ (by first | assumption | (simp <;> omega)) _) | (refine ext_below ?_ (by assumption)))))
  have hawb : wb.ownsRow wa.heap.size 102 11 (.slice (some ⟨wa.heap.size, 0, none⟩) 0 0) 0 [] := row_below (own_empty (w := wa) 102 11) hbwb
  have swb : Blk wb s (#[.int .i64 (nr.id), .int .i64 (nr.kd), .int .i64 (nr.s1), .int .i64 (nr.s2), .int .i64 (nr.s3), .int .i64 (nr.a1), .int .i64 (nr.a2), .int .i64 (nr.a3), .int .i64 (nr.v1), .int .i64 (nr.v2), .int .i64 (nr.v3)]) := hHeld
  have hszwb := hvwb.size
  obtain ⟨g0, hg0⟩ : ∃ g, g = wa.heap.size := ⟨_, rfl⟩
  rw [← hg0] at hawb
  rw [← hg0]
  have hg18 : w18.heap.size ≤ g0 := by rw [hg0]; first | exact Nat.le_refl _ | exact hszwa
  have hg0n : g0 < wb.heap.size := by have := (row_lt hawb (b := g0) rfl).1; exact this
  have hg0x : wa.heap.size ≤ g0 := Nat.le_of_eq hg0.symm
  clear hg0 hbwb
  try simp only [Act.put, List.setIfInBounds_toArray, List.set_cons_zero, List.set_cons_succ]
  have bwb := bwa.below hkwb
  refine wpAnyH_ready (rs := [4]) (by as_aux_lemma => kernel_rfl) (by simp) ?_
  refine AllReadyH.cons (o := _) rfl (fun K hK => ?_) AllReadyH.nil
  refine step_rows rfl (.tmp 126) (.tmp 129) 32 rfl (e := 102) Try.underlying32 seenInfoR rfl (by decide) (by decide) g0 (.slice (some ⟨g0, 0, none⟩) 0 0) 0 ([]) rfl (hawb) rfl (HRT.out.below hvwb) (HAT.out) (by omega) (by omega) ?_
  intro v4 wc hownwc hmodwc
  have hvwc := below_row hvwb hawb hg18 hmodwc
  have hsmwc := hmodwc.size
  have hszwc := hvwc.size
  rw [Nat.zero_add, List.nil_append] at hownwc
  have hfwc : ∀ b, b ≠ g0 → ¬ (Value.ownBlock (.slice (some ⟨g0, 0, none⟩) 0 0) = some b) := fun b hb e => by simp [Value.ownBlock] at e; omega
  have swc := (swb).mod hmodwc (hfwc s (by omega))
  have bwc := bwb.mod hmodwc (hfwc g6 (by omega))
  refine hK.out _ _ ?_ (fun hHeld => ?_)
  · exact swc
  clear hK K
  try simp only [Act.put, List.setIfInBounds_toArray]
  refine wpAnyH_ready (rs := [7]) (by as_aux_lemma => kernel_rfl) (by simp) ?_
  refine AllReadyH.cons (o := _) rfl (fun K hK => ?_) AllReadyH.nil
  refine step_rows rfl (.tmp 130) (.tmp 132) 32 rfl (e := 102) Try.underlying32 seenInfoR rfl (by decide) (by decide) g0 (v4) k (rowsL (mx all) 11 k) rfl (hownwc) rfl (HRD1.out _ _ bwc) ((fun h => by cases h)) (by omega) (by omega) ?_
  intro v7 wd hownwd hmodwd
  have hvwd := below_row hvwc hownwc hg18 hmodwd
  have hsmwd := hmodwd.size
  have hszwd := hvwd.size
  have swd : Blk wd s (#[.int .i64 (nr.id), .int .i64 (nr.kd), .int .i64 (nr.s1), .int .i64 (nr.s2), .int .i64 (nr.s3), .int .i64 (nr.a1), .int .i64 (nr.a2), .int .i64 (nr.a3), .int .i64 (nr.v1), .int .i64 (nr.v2), .int .i64 (nr.v3)]) := HS18.out.below hvwd
  refine hK.out _ _ ?_ (fun hHeld => ?_)
  · exact swd
  clear hK K
  try simp only [Act.put]
  refine wpAnyH_ready (rs := [11]) (by as_aux_lemma => kernel_rfl) (by simp) ?_
  refine AllReadyH.cons (o := _) rfl (fun K hK => ?_) AllReadyH.nil
  refine step_rows rfl (.tmp 133) (.tmp 136) 32 rfl (e := 102) Try.underlying32 seenInfoR rfl (by decide) (by decide) g0 (v7) (k + 1) ((rowsL (mx all) 11 k ++ rowsL (mx [nr]) 11 1)) rfl (hownwd) rfl (HRF.out.below hvwd) (HAF.out) (by omega) (by omega) ?_
  intro v11 we hownwe hmodwe
  have hvwe := below_row hvwd hownwd hg18 hmodwe
  have swe : Blk we s (#[.int .i64 (nr.id), .int .i64 (nr.kd), .int .i64 (nr.s1), .int .i64 (nr.s2), .int .i64 (nr.s3), .int .i64 (nr.a1), .int .i64 (nr.a2), .int .i64 (nr.a3), .int .i64 (nr.v1), .int .i64 (nr.v2), .int .i64 (nr.v3)]) := HS18.out.below hvwe
  refine hK.out _ _ ?_ (fun hHeld => ?_)
  · exact swe
  clear hK K
  try simp only [Act.put]
  refine wpAnyH_done (by as_aux_lemma => kernel_rfl) ?_ _
  clear hHeld
  simp only [TailQ, List.drop_succ_cons, List.drop_zero]
  have hrs : rowsL (mx all) 11 k ++ rowsL (mx [nr]) 11 1 ++ rowsL (fun i j => mx all (k + i) j) 11 (all.length - k) = rowsS al2 := by
    rw [HAL.out, rowsS_append, rowsS_take all (by omega), show nr :: all.drop k = [nr] ++ all.drop k from rfl, rowsS_append, rowsS_eq [nr], rowsS_drop all k, List.append_assoc]
    rfl
  have hrl : k + 1 + (all.length - k) = al2.length := by rw [HLEN.out]; omega
  rw [hrs, hrl] at hownwe
  obtain ⟨SA2, SC2, rfl⟩ := rowz_form hownwe
  have H19 := Lib.hid ((H18.out.below hvwe).now (Rw.of_own hownwe (Nat.le_trans H18.out.le hg18)))
  have H20 := H19.out
  rw [← HSG.out] at H20
  clear hrs hrl hslT hslF
  go_wp2
  exact HQ.out _ _ _ _ _ _ _ _ _ _ _ _ _ _ _ _ _ _ _ _ _ _ _ _ _ _ _ _ _ _ _ _ _ _ _ _ _ SA2 SC2 H20
set_option maxRecDepth 100000 in
set_option maxHeartbeats 16000000 in
theorem chg_way {Q : Exit → Act → World → Prop} {w3 w9 : World} {B0 p q c8 c6 da k SC : Nat} {tv : Value} {l : List Nat} {all al2 : List Sn} {bT : Nat} {r : Sn} {nr : Sn} {σ : Nat × Bool} {u0 u1 u2 u3 u4 u5 u7 u11 u12 u13 u15 u16 u17 u18 u19 u20 u21 u22 u23 u24 u25 u26 u27 u28 u29 u30 u31 u32 u33 u34 u35 u36 u37 u38 u39 u40 u41 u42 u43 u44 u45 u46 u47 u48 u49 u50 u51 u52 u53 u54 u55 u56 u57 u58 u59 u60 u61 u62 u63 u64 u65 u66 u67 u68 u69 u70 u71 u72 u73 u74 u75 u76 u77 u78 u79 u80 u81 u82 u83 u84 u85 u86 u87 u88 u89 u90 u91 u92 u93 u94 u95 u96 u97 u98 u99 u100 u101 u102 u103 u104 u105 u106 u107 u108 u109 u110 u111 u112 u113 u114 u115 u116 u117 u118 u119 u120 u121 u122 u123 u124 u125 u126 u127 u128 u129 u130 u131 u132 u133 u134 u135 u136 u137 u138 u139 u140 u141 u142 u143 u144 u145 u146 u147 u148 u149 u150 u151 u152 u153 u154 u155 u156 u157 u158 u159 u160 u161 u162 u163 u164 u165 u166 u167 u168 u169 u170 u171 u172 u173 u174 u175 u176 u177 u178 u179 u180 u181 u182 u183 u184 u185 u186 u187 u188 u189 u190 u191 u192 u193 u194 u195 u196 u197 u198 u199 u200 u201 u202 u203 u204 u205 u206 u207 u208 u209 u210 u211 u212 u213 u214 u215 u216 u217 u218 u219 u220 u221 u222 u223 u224 u225 u226 u227 u228 u229 u230 u231 u232 : Value} (HPQ : Hid (∀ c (a : Act) d v (w : World), Q (.panic c) (a.put d v) w → Q (.panic c) a w)) (HC : Hid (Cd w3 p q c8 c6 tv)) (H9 : Hid (Sd w3 w9 B0 p q c8 c6 tv (openL l) da false (some ⟨bT, 0, none⟩) all.length SC all)) (hin : k < all.length) (hbB : w3.heap.size ≤ bT) (HT : Hid (Tab w9 bT all.length 11 (mx all))) (HMX : Hid (∀ j, mx all k j = r.get j)) (HRI : Hid (InR r)) (HNEW : Hid (changeR (openL l) r (da, false) = (nr, σ))) (HAL : Hid (al2 = all.take k ++ nr :: all.drop (k + 1)))
    (HQ : Hid (∀ (v17 v18 v19 v20 v160 v161 v162 v163 v164 v165 v166 v167 v168 v169 v170 v171 v172 v173 v174 v175 v176 v177 v178 v179 v180 v181 v182 v183 v184 v185 v186 v187 v188 v189 v190 v191 v192 v193 v194 v195 v196 v197 v198 v199 v200 v201 v202 v203 v204 v205 v206 v207 v208 v209 v210 v211 v212 v213 : Value) (w' : World), Sd w3 w' B0 p q c8 c6 tv (openL l) σ.1 σ.2 (some ⟨bT, 0, none⟩) al2.length SC al2 → Q .normal { tmps := #[u0, u1, u2, u3, u4, u5, .pointer (some ⟨c6, 0, none⟩), u7, .pointer (some ⟨c8, 0, none⟩), .func (.func 84) #[] #[.pointer (some ⟨c8, 0, none⟩), .pointer (some ⟨c6, 0, none⟩)], .slice (some ⟨bT, 0, none⟩) all.length SC, u11, u12, u13, .int .i64 (k : Int), u15, u16, v17, v18, v19, v20, u21, u22, u23, u24, u25, u26, u27, u28, u29, u30, u31, u32, u33, u34, u35, u36, u37, u38, u39, u40, u41, u42, u43, u44, u45, u46, u47, u48, u49, u50, u51, u52, u53, u54, u55, u56, u57, u58, u59, u60, u61, u62, u63, u64, u65, u66, u67, u68, u69, u70, u71, u72, u73, u74, u75, u76, u77, u78, u79, u80, u81, u82, u83, u84, u85, u86, u87, u88, u89, u90, u91, u92, u93, u94, u95, u96, u97, u98, u99, u100, u101, u102, u103, u104, u105, u106, u107, u108, u109, u110, u111, u112, u113, u114, u115, u116, u117, u118, u119, u120, u121, u122, u123, u124, u125, u126, u127, u128, u129, u130, u131, u132, u133, u134, u135, u136, u137, u138, u139, u140, u141, u142, u143, u144, u145, u146, u147, u148, u149, u150, u151, u152, u153, u154, u155, u156, u157, u158, u159, v160, v161, v162, v163, v164, v165, v166, v167, v168, v169, v170, v171, v172, v173, v174, v175, v176, v177, v178, v179, v180, v181, v182, v183, v184, v185, v186, v187, v188, v189, v190, v191, v192, v193, v194, v195, v196, v197, v198, v199, v200, v201, v202, v203, v204, v205, v206, v207, v208, v209, v210, v211, v212, v213, u214, u215, u216, u217, u218, u219, u220, u221, u222, u223, u224, u225, u226, u227, u228, u229, u230, u231, u232], defers := [] } w')) :
    Code.wp Try.prog (branchC Try.f43 154) Q { tmps := #[u0, u1, u2, u3, u4, u5, .pointer (some ⟨c6, 0, none⟩), u7, .pointer (some ⟨c8, 0, none⟩), .func (.func 84) #[] #[.pointer (some ⟨c8, 0, none⟩), .pointer (some ⟨c6, 0, none⟩)], .slice (some ⟨bT, 0, none⟩) all.length SC, u11, u12, u13, .int .i64 (k : Int), u15, u16, u17, u18, u19, u20, u21, u22, u23, u24, u25, u26, u27, u28, u29, u30, u31, u32, u33, u34, u35, u36, u37, u38, u39, u40, u41, u42, u43, u44, u45, u46, u47, u48, u49, u50, u51, u52, u53, u54, u55, u56, u57, u58, u59, u60, u61, u62, u63, u64, u65, u66, u67, u68, u69, u70, u71, u72, u73, u74, u75, u76, u77, u78, u79, u80, u81, u82, u83, u84, u85, u86, u87, u88, u89, u90, u91, u92, u93, u94, u95, u96, u97, u98, u99, u100, u101, u102, u103, u104, u105, u106, u107, u108, u109, u110, u111, u112, u113, u114, u115, u116, u117, u118, u119, u120, u121, u122, u123, u124, u125, u126, u127, u128, u129, u130, u131, u132, u133, u134, u135, u136, u137, u138, u139, u140, u141, u142, u143, u144, u145, u146, u147, u148, u149, u150, u151, u152, u153, u154, u155, u156, u157, u158, u159, u160, u161, u162, u163, u164, u165, u166, u167, u168, u169, u170, u171, u172, u173, u174, u175, u176, u177, u178, u179, u180, u181, u182, u183, u184, u185, u186, u187, u188, u189, u190, u191, u192, u193, u194, u195, u196, u197, u198, u199, u200, u201, u202, u203, u204, u205, u206, u207, u208, u209, u210, u211, u212, u213, u214, u215, u216, u217, u218, u219, u220, u221, u222, u223, u224, u225, u226, u227, u228, u229, u230, u231, u232], defers := [] } w9 := by
  conv => arg 2; whnf
  dsimp only
  obtain ⟨n1', e1', a1', hq1⟩ : ∃ n e a', getD (openL l) da 1 = (n, e, a') := ⟨_, _, _, rfl⟩
  obtain ⟨b1', hb1'⟩ : ∃ b, b = (false || decide (e1' ≠ 0)) := ⟨_, rfl⟩
  obtain ⟨n2', e2', a2', hq2⟩ : ∃ n e a', getD (openL l) a1' 1 = (n, e, a') := ⟨_, _, _, rfl⟩
  obtain ⟨b2', hb2'⟩ : ∃ b, b = (b1' || decide (e2' ≠ 0)) := ⟨_, rfl⟩
  obtain ⟨n3', e3', a3', hq3⟩ : ∃ n e a', getD (openL l) a2' 1 = (n, e, a') := ⟨_, _, _, rfl⟩
  obtain ⟨b3', hb3'⟩ : ∃ b, b = (b2' || decide (e3' ≠ 0)) := ⟨_, rfl⟩
  have HG1 : Hid (rG (openL l) 1 (da, false) = (n1', (a1', b1'))) := Lib.hid (by unfold rG; simp only [hq1, hb1'])
  have HG2 : Hid (rG (openL l) 1 (a1', b1') = (n2', (a2', b2'))) := Lib.hid (by unfold rG; simp only [hq2, hb2'])
  have HG3 : Hid (rG (openL l) 1 (a2', b2') = (n3', (a3', b3'))) := Lib.hid (by unfold rG; simp only [hq3, hb3'])
  have HQ1 := Lib.hid hq1
  have HQ2 := Lib.hid hq2
  have HQ3 := Lib.hid hq3
  have HB1 := Lib.hid hb1'
  have HB2 := Lib.hid hb2'
  have HB3 := Lib.hid hb3'
  clear hq1 hq2 hq3 hb1' hb2' hb3'
  obtain ⟨kk, hkk⟩ : ∃ x, maybeK (openL l) n1' r.kd (a3', b3') = x := ⟨_, rfl⟩
  obtain ⟨pp, hpp⟩ : ∃ x, maybe3 (openL l) n1' r.s1 r.s2 r.s3 kk.2 = x := ⟨_, rfl⟩
  obtain ⟨qq, hqq⟩ : ∃ x, maybe3 (openL l) n2' r.a1 r.a2 r.a3 pp.2 = x := ⟨_, rfl⟩
  obtain ⟨uu, huu⟩ : ∃ x, maybe3 (openL l) n3' r.v1 r.v2 r.v3 qq.2 = x := ⟨_, rfl⟩
  have HKK := Lib.hid hkk
  have HPP := Lib.hid hpp
  have HQQ := Lib.hid hqq
  have HUU := Lib.hid huu
  clear hkk hpp hqq huu
  have HLR : Hid (∀ j, j < 11 → w9.cell? ⟨bT, k * 11 + j, none⟩ = some (.int .i64 (r.get j))) := Lib.hid (fun j hj => by have := HT.out.cell hin hj; rw [HMX.out] at this; exact this)
  go_upto_region 31 with ((with_reducible show wpList _ _ _ _ _ _); refine wp_seenR (M := fun _ j => r.get j) (k := 0) HLR.out rfl (.tmp 162) rfl rfl ?_; try dsimp only [Sn.get])
  refine wp_fresh ?_
  rintro w10 hb10
  have s10 : Blk w10 w9.heap.size #[.int .i64 (r.id), .int .i64 (r.kd), .int .i64 (r.s1), .int .i64 (r.s2), .int .i64 (r.s3), .int .i64 (r.a1), .int .i64 (r.a2), .int .i64 (r.a3), .int .i64 (r.v1), .int .i64 (r.v2), .int .i64 (r.v3)] := Blk.below (by repeat (with_reducible (first | assumption | (apply Blk.at; simp; done) | apply Blk.alloc | apply Blk.drew | apply Blk.drewN | apply Blk.more | apply Blk.put | (apply Blk.far; focus (first | assumption | (apply Ne.symm; assumption) | (simp; done) | (simp <;> omega)))))) hb10
  have hv10 : Below w9.heap.size w9 w10 := (by repeat (with_reducible (first | exact Below.refl _ _ | assumption | apply ext_drew | apply ext_drewN | apply ext_alloc | apply ext_more | (refine ext_setCell ?_ (by first | assumption | (simp <;> omega)) _) | (refine ext_below ?_ (by assumption)))))
  have h10 := H9.out.below hv10
  have hs0 : w3.heap.size ≤ w9.heap.size := H9.out.le
  have hsA : 0 < all.length → (some ⟨bT, 0, none⟩ : Option Addr) ≠ some ⟨w9.heap.size, 0, none⟩ := ne_fresh H9.out
  have HT10 := Lib.hid (HT.out.below hv10)
  have hbs : bT ≠ w9.heap.size := by have := HT.out.lt; omega
  obtain ⟨s, hs⟩ : ∃ s, s = w9.heap.size := ⟨_, rfl⟩
  rw [← hs] at s10 hs0 hsA hbs
  rw [← hs]
  have HSA := Lib.hid hsA
  have hsp : s ≠ p ∧ s ≠ q := by have := HC.out.lp; have := HC.out.lq; omega
  have hTp : bT ≠ p ∧ bT ≠ q := by have := HC.out.lp; have := HC.out.lq; omega
  clear hs hsA hb10 hv10 HLR HT
  have hd10 := h10.below (w' := w10.drew) (ext_drew (Below.refl _ _))
  have hmm0 : Mod (fun b => b = p ∨ b = q) w10 w10.drew := (Mod.refl _ _).drew
  have QQ : Hid (∀ wx, Mod (fun b => b = p ∨ b = q) w10 wx → wx.cell? ⟨c8, 0, none⟩ = some (.func (.func 83) #[] #[.pointer (some ⟨q, 0, none⟩)]) ∧ wx.cell? ⟨c6, 0, none⟩ = some (.pointer (some ⟨p, 0, none⟩))) := Lib.hid (fun wx hm => ⟨(hm.cell h10.e8.lt (by have := HC.out.n8; omega)).trans (h10.e8.cell 0), (hm.cell h10.e6.lt (by have := HC.out.n6; omega)).trans (h10.e6.cell 0)⟩)
  have HH10 := Lib.hid h10
  clear h10
  refine region_held_tail (fun w' => w'.cell? ⟨c8, 0, none⟩ = some (.func (.func 83) #[] #[.pointer (some ⟨q, 0, none⟩)]) ∧ w'.cell? ⟨c6, 0, none⟩ = some (.pointer (some ⟨p, 0, none⟩))) 18 (by as_aux_lemma => kernel_rfl) (by as_aux_lemma => kernel_rfl) (QQ.out _ hmm0) (fun hHeld => ?_)
  simp only [List.take_succ_cons, List.take_zero]
  refine wpAnyH_take (i := 0) (v := ?vcg_0) rfl (by as_aux_lemma => kernel_rfl) (by as_aux_lemma => kernel_rfl) (by as_aux_lemma => kernel_rfl) (fun c a w h => HPQ.out c a _ _ w h) (Or.inl ⟨by kernel_rfl, ?ycg_0⟩) hHeld ?rcg_0
  case ycg_0 =>
    intro w hSw
    try dsimp only at hSw
    obtain ⟨e0, e1⟩ := hSw
    go_simp
    try with_reducible rfl
  try simp only [Act.put, List.setIfInBounds_toArray]
  refine wpAnyH_take (i := 1) (v := ?vcg_1) rfl (by as_aux_lemma => kernel_rfl) (by as_aux_lemma => kernel_rfl) (by as_aux_lemma => kernel_rfl) (fun c a w h => HPQ.out c a _ _ w h) (Or.inl ⟨by kernel_rfl, ?ycg_1⟩) hHeld ?rcg_1
  case ycg_1 =>
    intro w hSw
    try dsimp only at hSw
    obtain ⟨e0, e1⟩ := hSw
    go_simp
    try with_reducible rfl
  try simp only [Act.put]
  refine wpAnyH_take (i := 6) (v := ?vcg_6) rfl (by as_aux_lemma => kernel_rfl) (by as_aux_lemma => kernel_rfl) (by as_aux_lemma => kernel_rfl) (fun c a w h => HPQ.out c a _ _ w h) (Or.inl ⟨by kernel_rfl, ?ycg_6⟩) hHeld ?rcg_6
  case ycg_6 =>
    intro w hSw
    try dsimp only at hSw
    obtain ⟨e0, e1⟩ := hSw
    go_simp
    try with_reducible rfl
  try simp only [Act.put]
  refine wpAnyH_take (i := 7) (v := ?vcg_7) rfl (by as_aux_lemma => kernel_rfl) (by as_aux_lemma => kernel_rfl) (by as_aux_lemma => kernel_rfl) (fun c a w h => HPQ.out c a _ _ w h) (Or.inl ⟨by kernel_rfl, ?ycg_7⟩) hHeld ?rcg_7
  case ycg_7 =>
    intro w hSw
    try dsimp only at hSw
    obtain ⟨e0, e1⟩ := hSw
    go_simp
    try with_reducible rfl
  try simp only [Act.put]
  refine wpAnyH_take (i := 12) (v := ?vcg_12) rfl (by as_aux_lemma => kernel_rfl) (by as_aux_lemma => kernel_rfl) (by as_aux_lemma => kernel_rfl) (fun c a w h => HPQ.out c a _ _ w h) (Or.inl ⟨by kernel_rfl, ?ycg_12⟩) hHeld ?rcg_12
  case ycg_12 =>
    intro w hSw
    try dsimp only at hSw
    obtain ⟨e0, e1⟩ := hSw
    go_simp
    try with_reducible rfl
  try simp only [Act.put]
  refine wpAnyH_take (i := 13) (v := ?vcg_13) rfl (by as_aux_lemma => kernel_rfl) (by as_aux_lemma => kernel_rfl) (by as_aux_lemma => kernel_rfl) (fun c a w h => HPQ.out c a _ _ w h) (Or.inl ⟨by kernel_rfl, ?ycg_13⟩) hHeld ?rcg_13
  case ycg_13 =>
    intro w hSw
    try dsimp only at hSw
    obtain ⟨e0, e1⟩ := hSw
    go_simp
    try with_reducible rfl
  try simp only [Act.put]
  refine wpAnyH_ready (rs := [2]) (by as_aux_lemma => kernel_rfl) (by simp) ?_
  refine AllReadyH.cons (o := _) rfl (fun K hK => ?_) AllReadyH.nil
  go_simp
  refine (tdet_eq (tget_c B0 p da 1 tv (openL l) _ hd10.dr.tp) HQ1.out).mono ?_
  rintro e w11 ⟨rfl, hT11, hm11⟩
  have hd11 := hd10.tape HC.out hT11 hm11
  have hmm1 := hmm0.trans (hm11.mono (T := fun b => b = p ∨ b = q) fun _ _ h => .inl h)
  try dsimp only
  refine hK.out _ _ ?_ (fun hHeld => ?_)
  · exact QQ.out _ hmm1
  clear hK K
  try simp only [Act.put, List.setIfInBounds_toArray, List.set_cons_zero, List.set_cons_succ]
  refine wpAnyH_take (i := 3) (v := ?vcg_3) rfl (by as_aux_lemma => kernel_rfl) (by as_aux_lemma => kernel_rfl) (by as_aux_lemma => kernel_rfl) (fun c a w h => HPQ.out c a _ _ w h) (Or.inl ⟨by kernel_rfl, ?ycg_3⟩) hHeld ?rcg_3
  case ycg_3 =>
    intro w hSw
    try dsimp only at hSw
    obtain ⟨e0, e1⟩ := hSw
    go_simp
    try with_reducible rfl
  try simp only [Act.put, List.setIfInBounds_toArray]
  refine wpAnyH_take (i := 4) (v := ?vcg_4) rfl (by as_aux_lemma => kernel_rfl) (by as_aux_lemma => kernel_rfl) (by as_aux_lemma => kernel_rfl) (fun c a w h => HPQ.out c a _ _ w h) (Or.inl ⟨by kernel_rfl, ?ycg_4⟩) hHeld ?rcg_4
  case ycg_4 =>
    intro w hSw
    try dsimp only at hSw
    obtain ⟨e0, e1⟩ := hSw
    go_simp
    try with_reducible rfl
  try simp only [Act.put]
  refine wpAnyH_ready (rs := [5]) (by as_aux_lemma => kernel_rfl) (by simp) ?_
  refine AllReadyH.cons (o := _) rfl (fun K hK => ?_) AllReadyH.nil
  go_simp
  refine (rnumP_c q _ n1' e1' _ hd11.dr.blk).mono ?_
  rintro e w12 ⟨rfl, hQ12, hm12⟩
  rw [← HB1.out] at hQ12
  have hd12 := hd11.flag HC.out hQ12 hm12
  have hmm2 := hmm1.trans (hm12.mono (T := fun b => b = p ∨ b = q) fun _ _ h => .inr h)
  try dsimp only
  refine hK.out _ _ ?_ (fun hHeld => ?_)
  · exact QQ.out _ hmm2
  clear hK K
  try simp only [Act.put, List.setIfInBounds_toArray, List.set_cons_zero, List.set_cons_succ]
  refine wpAnyH_ready (rs := [8]) (by as_aux_lemma => kernel_rfl) (by simp) ?_
  refine AllReadyH.cons (o := _) rfl (fun K hK => ?_) AllReadyH.nil
  go_simp
  refine (tdet_eq (tget_c B0 p a1' 1 tv (openL l) _ hd12.dr.tp) HQ2.out).mono ?_
  rintro e w13 ⟨rfl, hT13, hm13⟩
  have hd13 := hd12.tape HC.out hT13 hm13
  have hmm3 := hmm2.trans (hm13.mono (T := fun b => b = p ∨ b = q) fun _ _ h => .inl h)
  try dsimp only
  refine hK.out _ _ ?_ (fun hHeld => ?_)
  · exact QQ.out _ hmm3
  clear hK K
  try simp only [Act.put, List.setIfInBounds_toArray, List.set_cons_zero, List.set_cons_succ]
  refine wpAnyH_take (i := 9) (v := ?vcg_9) rfl (by as_aux_lemma => kernel_rfl) (by as_aux_lemma => kernel_rfl) (by as_aux_lemma => kernel_rfl) (fun c a w h => HPQ.out c a _ _ w h) (Or.inl ⟨by kernel_rfl, ?ycg_9⟩) hHeld ?rcg_9
  case ycg_9 =>
    intro w hSw
    try dsimp only at hSw
    obtain ⟨e0, e1⟩ := hSw
    go_simp
    try with_reducible rfl
  try simp only [Act.put, List.setIfInBounds_toArray]
  refine wpAnyH_take (i := 10) (v := ?vcg_10) rfl (by as_aux_lemma => kernel_rfl) (by as_aux_lemma => kernel_rfl) (by as_aux_lemma => kernel_rfl) (fun c a w h => HPQ.out c a _ _ w h) (Or.inl ⟨by kernel_rfl, ?ycg_10⟩) hHeld ?rcg_10
  case ycg_10 =>
    intro w hSw
    try dsimp only at hSw
    obtain ⟨e0, e1⟩ := hSw
    go_simp
    try with_reducible rfl
  try simp only [Act.put]
  refine wpAnyH_ready (rs := [11]) (by as_aux_lemma => kernel_rfl) (by simp) ?_
  refine AllReadyH.cons (o := _) rfl (fun K hK => ?_) AllReadyH.nil
  go_simp
  refine (rnumP_c q _ n2' e2' _ hd13.dr.blk).mono ?_
  rintro e w14 ⟨rfl, hQ14, hm14⟩
  rw [← HB2.out] at hQ14
  have hd14 := hd13.flag HC.out hQ14 hm14
  have hmm4 := hmm3.trans (hm14.mono (T := fun b => b = p ∨ b = q) fun _ _ h => .inr h)
  try dsimp only
  refine hK.out _ _ ?_ (fun hHeld => ?_)
  · exact QQ.out _ hmm4
  clear hK K
  try simp only [Act.put, List.setIfInBounds_toArray, List.set_cons_zero, List.set_cons_succ]
  refine wpAnyH_ready (rs := [14]) (by as_aux_lemma => kernel_rfl) (by simp) ?_
  refine AllReadyH.cons (o := _) rfl (fun K hK => ?_) AllReadyH.nil
  go_simp
  refine (tdet_eq (tget_c B0 p a2' 1 tv (openL l) _ hd14.dr.tp) HQ3.out).mono ?_
  rintro e w15 ⟨rfl, hT15, hm15⟩
  have hd15 := hd14.tape HC.out hT15 hm15
  have hmm5 := hmm4.trans (hm15.mono (T := fun b => b = p ∨ b = q) fun _ _ h => .inl h)
  try dsimp only
  refine hK.out _ _ ?_ (fun hHeld => ?_)
  · exact QQ.out _ hmm5
  clear hK K
  try simp only [Act.put, List.setIfInBounds_toArray, List.set_cons_zero, List.set_cons_succ]
  refine wpAnyH_take (i := 15) (v := ?vcg_15) rfl (by as_aux_lemma => kernel_rfl) (by as_aux_lemma => kernel_rfl) (by as_aux_lemma => kernel_rfl) (fun c a w h => HPQ.out c a _ _ w h) (Or.inl ⟨by kernel_rfl, ?ycg_15⟩) hHeld ?rcg_15
  case ycg_15 =>
    intro w hSw
    try dsimp only at hSw
    obtain ⟨e0, e1⟩ := hSw
    go_simp
    try with_reducible rfl
  try simp only [Act.put, List.setIfInBounds_toArray]
  refine wpAnyH_take (i := 16) (v := ?vcg_16) rfl (by as_aux_lemma => kernel_rfl) (by as_aux_lemma => kernel_rfl) (by as_aux_lemma => kernel_rfl) (fun c a w h => HPQ.out c a _ _ w h) (Or.inl ⟨by kernel_rfl, ?ycg_16⟩) hHeld ?rcg_16
  case ycg_16 =>
    intro w hSw
    try dsimp only at hSw
    obtain ⟨e0, e1⟩ := hSw
    go_simp
    try with_reducible rfl
  try simp only [Act.put]
  refine wpAnyH_ready (rs := [17]) (by as_aux_lemma => kernel_rfl) (by simp) ?_
  refine AllReadyH.cons (o := _) rfl (fun K hK => ?_) AllReadyH.nil
  go_simp
  refine (rnumP_c q _ n3' e3' _ hd15.dr.blk).mono ?_
  rintro e w16 ⟨rfl, hQ16, hm16⟩
  rw [← HB3.out] at hQ16
  have hd16 := hd15.flag HC.out hQ16 hm16
  have hmm6 := hmm5.trans (hm16.mono (T := fun b => b = p ∨ b = q) fun _ _ h => .inr h)
  try dsimp only
  refine hK.out _ _ ?_ (fun hHeld => ?_)
  · exact QQ.out _ hmm6
  clear hK K
  try simp only [Act.put, List.setIfInBounds_toArray, List.set_cons_zero, List.set_cons_succ]
  refine wpAnyH_done (by as_aux_lemma => kernel_rfl) ?_ _
  clear hHeld
  simp only [TailQ, List.drop_succ_cons, List.drop_zero]
  have H16 := Lib.hid hd16
  have s16 := s10.mod hmm6 (by omega)
  have HT16 := Lib.hid (HT10.out.mod hmm6 (by omega))
  clear hd10 hd11 hd12 hd13 hd14 hd15 hd16 hT11 hT13 hT15 hQ12 hQ14 hQ16 hm11 hm12 hm13 hm14 hm15 hm16 hmm0 hmm1 hmm2 hmm3 hmm4 hmm5 hmm6 QQ HH10 s10 HT10
  go_upto_if 183 with fail
  go_cut [] from 160 to 213 (fun wx => Blk wx s #[.int .i64 (r.id), .int .i64 (kk.1), .int .i64 (pp.1.1), .int .i64 (pp.1.2.1), .int .i64 (pp.1.2.2), .int .i64 (r.a1), .int .i64 (r.a2), .int .i64 (r.a3), .int .i64 (r.v1), .int .i64 (r.v2), .int .i64 (r.v3)] ∧ Tab wx bT all.length 11 (mx all) ∧ Sd w3 wx B0 p q c8 c6 tv (openL l) pp.2.1 pp.2.2 (some ⟨bT, 0, none⟩ : Option Addr) all.length SC all)
  case first =>
    by_cases hy : n1' = 1
    · have dy : (n1' == 1) = true := by simpa using hy
      obtain ⟨kn, ke, ka, hg3r⟩ : ∃ n e a', getD (openL l) a3' 3 = (n, e, a') := ⟨_, _, _, rfl⟩
      have HGK := Lib.hid hg3r
      obtain ⟨bk, hbk⟩ : ∃ b, b = (b3' || decide (ke ≠ 0)) := ⟨_, rfl⟩
      have HBK := Lib.hid hbk
      have hkk : kk = (kn, (ka, bk)) := by rw [← HKK.out, hy]; unfold maybeK rG; simp only [if_true, hg3r, hbk]
      have P5 : Hid (v3R (openL l) r.s1 r.s2 r.s3 (ka, bk) = pp) := Lib.hid (by have h := HPP.out; rw [hkk, hy] at h; unfold maybe3 at h; rw [if_pos rfl] at h; exact h)
      subst hkk
      clear hy hg3r hbk
      go_upto_region 33 with fail
      have hd16 := H16.out.below (w' := w16.drew) (ext_drew (Below.refl _ _))
      have hmm0 : Mod (fun b => b = p ∨ b = q) w16 w16.drew := (Mod.refl _ _).drew
      have QQ : Hid (∀ wx, Mod (fun b => b = p ∨ b = q) w16 wx → wx.cell? ⟨c8, 0, none⟩ = some (.func (.func 83) #[] #[.pointer (some ⟨q, 0, none⟩)]) ∧ wx.cell? ⟨c6, 0, none⟩ = some (.pointer (some ⟨p, 0, none⟩))) := Lib.hid (fun wx hm => ⟨(hm.cell H16.out.e8.lt (by have := HC.out.n8; omega)).trans (H16.out.e8.cell 0), (hm.cell H16.out.e6.lt (by have := HC.out.n6; omega)).trans (H16.out.e6.cell 0)⟩)
      refine region_held_tail (fun w' => w'.cell? ⟨c8, 0, none⟩ = some (.func (.func 83) #[] #[.pointer (some ⟨q, 0, none⟩)]) ∧ w'.cell? ⟨c6, 0, none⟩ = some (.pointer (some ⟨p, 0, none⟩))) 7 (by as_aux_lemma => kernel_rfl) (by as_aux_lemma => kernel_rfl) (QQ.out _ hmm0) (fun hHeld => ?_)
      simp only [List.take_succ_cons, List.take_zero]
      refine wpAnyH_take (i := 0) (v := ?vch_0) rfl (by as_aux_lemma => kernel_rfl) (by as_aux_lemma => kernel_rfl) (by as_aux_lemma => kernel_rfl) (fun c a w h => HPQ.out c a _ _ w h) (Or.inl ⟨by kernel_rfl, ?ych_0⟩) hHeld ?rch_0
      case ych_0 =>
        intro w hSw
        try dsimp only at hSw
        obtain ⟨e0, e1⟩ := hSw
        go_simp
        try with_reducible rfl
      try simp only [Act.put, List.setIfInBounds_toArray]
      refine wpAnyH_take (i := 1) (v := ?vch_1) rfl (by as_aux_lemma => kernel_rfl) (by as_aux_lemma => kernel_rfl) (by as_aux_lemma => kernel_rfl) (fun c a w h => HPQ.out c a _ _ w h) (Or.inl ⟨by kernel_rfl, ?ych_1⟩) hHeld ?rch_1
      case ych_1 =>
        intro w hSw
        try dsimp only at hSw
        obtain ⟨e0, e1⟩ := hSw
        go_simp
        try with_reducible rfl
      try simp only [Act.put]
      refine wpAnyH_ready (rs := [2]) (by as_aux_lemma => kernel_rfl) (by simp) ?_
      refine AllReadyH.cons (o := _) rfl (fun K hK => ?_) AllReadyH.nil
      go_simp
      refine (tdet_eq (tget_c B0 p a3' 3 tv (openL l) _ hd16.dr.tp) HGK.out).mono ?_
      rintro e w17 ⟨rfl, hT17, hm17⟩
      have hd17 := hd16.tape HC.out hT17 hm17
      have hmm1 := hmm0.trans (hm17.mono (T := fun b => b = p ∨ b = q) fun _ _ h => .inl h)
      try dsimp only
      refine hK.out _ _ ?_ (fun hHeld => ?_)
      · exact QQ.out _ hmm1
      clear hK K
      try simp only [Act.put, List.setIfInBounds_toArray, List.set_cons_zero, List.set_cons_succ]
      refine wpAnyH_take (i := 3) (v := ?vch_3) rfl (by as_aux_lemma => kernel_rfl) (by as_aux_lemma => kernel_rfl) (by as_aux_lemma => kernel_rfl) (fun c a w h => HPQ.out c a _ _ w h) (Or.inl ⟨by kernel_rfl, ?ych_3⟩) hHeld ?rch_3
      case ych_3 =>
        intro w hSw
        try dsimp only at hSw
        obtain ⟨e0, e1⟩ := hSw
        go_simp
        try with_reducible rfl
      try simp only [Act.put, List.setIfInBounds_toArray]
      refine wpAnyH_take (i := 4) (v := ?vch_4) rfl (by as_aux_lemma => kernel_rfl) (by as_aux_lemma => kernel_rfl) (by as_aux_lemma => kernel_rfl) (fun c a w h => HPQ.out c a _ _ w h) (Or.inl ⟨by kernel_rfl, ?ych_4⟩) hHeld ?rch_4
      case ych_4 =>
        intro w hSw
        try dsimp only at hSw
        obtain ⟨e0, e1⟩ := hSw
        go_simp
        try with_reducible rfl
      try simp only [Act.put]
      refine wpAnyH_ready (rs := [5]) (by as_aux_lemma => kernel_rfl) (by simp) ?_
      refine AllReadyH.cons (o := _) rfl (fun K hK => ?_) AllReadyH.nil
      go_simp
      refine (rnumP_c q _ kn ke _ hd17.dr.blk).mono ?_
      rintro e w18 ⟨rfl, hQ18, hm18⟩
      rw [← HBK.out] at hQ18
      have hd18 := hd17.flag HC.out hQ18 hm18
      have hmm2 := hmm1.trans (hm18.mono (T := fun b => b = p ∨ b = q) fun _ _ h => .inr h)
      try dsimp only
      refine hK.out _ _ ?_ (fun hHeld => ?_)
      · exact QQ.out _ hmm2
      clear hK K
      try simp only [Act.put, List.setIfInBounds_toArray, List.set_cons_zero, List.set_cons_succ]
      refine wpAnyH_take (i := 6) (v := ?vch_6) rfl (by as_aux_lemma => kernel_rfl) (by as_aux_lemma => kernel_rfl) (by as_aux_lemma => kernel_rfl) (fun c a w h => HPQ.out c a _ _ w h) (Or.inl ⟨by kernel_rfl, ?ych_6⟩) hHeld ?rch_6
      case ych_6 =>
        intro w hSw
        try dsimp only at hSw
        obtain ⟨e0, e1⟩ := hSw
        go_simp
        try with_reducible rfl
      try simp only [Act.put, List.setIfInBounds_toArray]
      refine wpAnyH_done (by as_aux_lemma => kernel_rfl) ?_ _
      clear hHeld
      simp only [TailQ, List.drop_succ_cons, List.drop_zero]
      have H18 := Lib.hid hd18
      have s18 := s16.mod hmm2 (by omega)
      have HT18 := Lib.hid (HT16.out.mod hmm2 (by omega))
      clear hd16 hd17 hd18 hT17 hm17 hQ18 hm18 hmm0 hmm1 hmm2 QQ s16
      obtain ⟨zs, cs, fs⟩ := id s18
      go_upto_region 34 with fail
      refine wp_fresh ?_
      rintro w19 hb19
      have k19 : Mod (· = s) w18 w19 := Mod.below ((Mod.refl (· = s) w18).set (.inl rfl)) hb19
      have s19 : Blk w19 s _ := Blk.below (by repeat (with_reducible (first | assumption | (apply Blk.at; simp; done) | apply Blk.alloc | apply Blk.drew | apply Blk.drewN | apply Blk.more | apply Blk.put | (apply Blk.far; focus (first | assumption | (apply Ne.symm; assumption) | (simp; done) | (simp <;> omega)))))) hb19
      try simp only [List.setIfInBounds_toArray, List.set_cons_zero, List.set_cons_succ] at s19
      have H19 := Lib.hid (H18.out.write HC.out hs0 HSA.out k19)
      have HT19 := Lib.hid (HT18.out.mod k19 hbs)
      clear zs cs fs s18 hb19 k19 H18 HT18
      obtain ⟨zs, cs, fs⟩ := id s19
      go_wp2_with fail
      refine (rvecP_c B0 p q c8 c6 (ka, bk) tv (openL l) r.s1 r.s2 r.s3 pp _ P5.out H19.out.dr H19.out.e8 H19.out.e6 HC.out.n8 HC.out.n6 HRI.out.1 HRI.out.2.1 HRI.out.2.2.1).mono ?_
      rintro e w20 ⟨rfl, hD20, hm20⟩
      have h20 := H19.out.read HC.out hD20 hm20
      have s20 := s19.mod hm20 (by omega)
      have t20 := HT19.out.mod hm20 (by omega)
      clear zs cs fs hD20
      obtain ⟨zs, cs, fs⟩ := id s20
      go_wp2
      go_meet
      refine ⟨?_, t20.mod (S := (· = s)) ((((Mod.refl (· = s) w20).set (.inl rfl)).set (.inl rfl)).set (.inl rfl)) hbs, h20.write HC.out hs0 HSA.out ((((Mod.refl (· = s) w20).set (.inl rfl)).set (.inl rfl)).set (.inl rfl))⟩
      refine Blk.as (cs := _) (by repeat (with_reducible (first | exact s20 | (apply Blk.at; simp; done) | apply Blk.alloc | apply Blk.drew | apply Blk.drewN | apply Blk.more | apply Blk.put | (apply Blk.far; focus (first | assumption | (apply Ne.symm; assumption) | (simp; done) | (simp <;> omega)))))) ?_
      simp only [List.setIfInBounds_toArray, List.set_cons_zero, List.set_cons_succ]
    · have dy : (n1' == 1) = false := by simpa using hy
      have hkk : kk = (r.kd, (a3', b3')) := by rw [← HKK.out]; unfold maybeK; rw [if_neg hy]
      have hpp : pp = ((r.s1, r.s2, r.s3), (a3', b3')) := by rw [← HPP.out, hkk]; unfold maybe3; rw [if_neg hy]
      subst hkk hpp
      clear hy
      go_wp2
      go_meet
      exact ⟨s16, HT16.out, H16.out⟩
  case rest =>
    obtain ⟨s20, t20, h20⟩ := hcut
    obtain ⟨w20, hw20⟩ : ∃ w20, w20 = wc := ⟨_, rfl⟩
    rw [← hw20] at s20 t20 h20
    rw [← hw20]
    have H20 := Lib.hid h20
    have HT20 := Lib.hid t20
    clear hw20 h20 t20 s16 HT16 H16
    go_upto_if 197 with fail
    go_cut [] from 160 to 213 (fun wx => Blk wx s #[.int .i64 (r.id), .int .i64 (kk.1), .int .i64 (pp.1.1), .int .i64 (pp.1.2.1), .int .i64 (pp.1.2.2), .int .i64 (qq.1.1), .int .i64 (qq.1.2.1), .int .i64 (qq.1.2.2), .int .i64 (r.v1), .int .i64 (r.v2), .int .i64 (r.v3)] ∧ Tab wx bT all.length 11 (mx all) ∧ Sd w3 wx B0 p q c8 c6 tv (openL l) qq.2.1 qq.2.2 (some ⟨bT, 0, none⟩ : Option Addr) all.length SC all)
    case first =>
      by_cases hy : n2' = 1
      · have dy : (n2' == 1) = true := by simpa using hy
        have P5 : Hid (v3R (openL l) r.a1 r.a2 r.a3 pp.2 = qq) := Lib.hid (by rw [← HQQ.out, hy]; unfold maybe3; rw [if_pos rfl])
        clear hy
        obtain ⟨zs, cs, fs⟩ := id s20
        go_wp2_with fail
        refine (rvecP_c B0 p q c8 c6 pp.2 tv (openL l) r.a1 r.a2 r.a3 qq _ P5.out H20.out.dr H20.out.e8 H20.out.e6 HC.out.n8 HC.out.n6 HRI.out.2.2.2.1 HRI.out.2.2.2.2.1 HRI.out.2.2.2.2.2.1).mono ?_
        rintro e w21 ⟨rfl, hD21, hm21⟩
        have h21 := H20.out.read HC.out hD21 hm21
        have s21 := s20.mod hm21 (by omega)
        have t21 := HT20.out.mod hm21 (by omega)
        clear zs cs fs hD21
        obtain ⟨zs, cs, fs⟩ := id s21
        go_wp2
        go_meet
        refine ⟨?_, t21.mod (S := (· = s)) ((((Mod.refl (· = s) w21).set (.inl rfl)).set (.inl rfl)).set (.inl rfl)) hbs, h21.write HC.out hs0 HSA.out ((((Mod.refl (· = s) w21).set (.inl rfl)).set (.inl rfl)).set (.inl rfl))⟩
        refine Blk.as (cs := _) (by repeat (with_reducible (first | exact s21 | (apply Blk.at; simp; done) | apply Blk.alloc | apply Blk.drew | apply Blk.drewN | apply Blk.more | apply Blk.put | (apply Blk.far; focus (first | assumption | (apply Ne.symm; assumption) | (simp; done) | (simp <;> omega)))))) ?_
        simp only [List.setIfInBounds_toArray, List.set_cons_zero, List.set_cons_succ]
      · have dy : (n2' == 1) = false := by simpa using hy
        have hqq : qq = ((r.a1, r.a2, r.a3), pp.2) := by rw [← HQQ.out]; unfold maybe3; rw [if_neg hy]
        subst hqq
        clear hy
        go_wp2
        go_meet
        exact ⟨s20, HT20.out, H20.out⟩
    case rest =>
      obtain ⟨s30, t30, h30⟩ := hcut
      obtain ⟨w30, hw30⟩ : ∃ w', w' = wc := ⟨_, rfl⟩
      rw [← hw30] at s30 t30 h30
      rw [← hw30]
      have H30 := Lib.hid h30
      have HT30 := Lib.hid t30
      clear hw30 h30 t30 s20 HT20 H20
      go_upto_if 204 with fail
      go_cut [] from 160 to 213 (fun wx => Blk wx s #[.int .i64 (r.id), .int .i64 (kk.1), .int .i64 (pp.1.1), .int .i64 (pp.1.2.1), .int .i64 (pp.1.2.2), .int .i64 (qq.1.1), .int .i64 (qq.1.2.1), .int .i64 (qq.1.2.2), .int .i64 (uu.1.1), .int .i64 (uu.1.2.1), .int .i64 (uu.1.2.2)] ∧ Tab wx bT all.length 11 (mx all) ∧ Sd w3 wx B0 p q c8 c6 tv (openL l) uu.2.1 uu.2.2 (some ⟨bT, 0, none⟩ : Option Addr) all.length SC all)
      case first =>
        by_cases hy : n3' = 1
        · have dy : (n3' == 1) = true := by simpa using hy
          have P5 : Hid (v3R (openL l) r.v1 r.v2 r.v3 qq.2 = uu) := Lib.hid (by rw [← HUU.out, hy]; unfold maybe3; rw [if_pos rfl])
          clear hy
          obtain ⟨zs, cs, fs⟩ := id s30
          go_wp2_with fail
          refine (rvecP_c B0 p q c8 c6 qq.2 tv (openL l) r.v1 r.v2 r.v3 uu _ P5.out H30.out.dr H30.out.e8 H30.out.e6 HC.out.n8 HC.out.n6 HRI.out.2.2.2.2.2.2.1 HRI.out.2.2.2.2.2.2.2.1 HRI.out.2.2.2.2.2.2.2.2).mono ?_
          rintro e w31 ⟨rfl, hD31, hm31⟩
          have h31 := H30.out.read HC.out hD31 hm31
          have s31 := s30.mod hm31 (by omega)
          have t31 := HT30.out.mod hm31 (by omega)
          clear zs cs fs hD31
          obtain ⟨zs, cs, fs⟩ := id s31
          go_wp2
          go_meet
          refine ⟨?_, t31.mod (S := (· = s)) ((((Mod.refl (· = s) w31).set (.inl rfl)).set (.inl rfl)).set (.inl rfl)) hbs, h31.write HC.out hs0 HSA.out ((((Mod.refl (· = s) w31).set (.inl rfl)).set (.inl rfl)).set (.inl rfl))⟩
          refine Blk.as (cs := _) (by repeat (with_reducible (first | exact s31 | (apply Blk.at; simp; done) | apply Blk.alloc | apply Blk.drew | apply Blk.drewN | apply Blk.more | apply Blk.put | (apply Blk.far; focus (first | assumption | (apply Ne.symm; assumption) | (simp; done) | (simp <;> omega)))))) ?_
          simp only [List.setIfInBounds_toArray, List.set_cons_zero, List.set_cons_succ]
        · have dy : (n3' == 1) = false := by simpa using hy
          have hqq : uu = ((r.v1, r.v2, r.v3), qq.2) := by rw [← HUU.out]; unfold maybe3; rw [if_neg hy]
          subst hqq
          clear hy
          go_wp2
          go_meet
          exact ⟨s30, HT30.out, H30.out⟩
      case rest =>
        obtain ⟨s40, t40, h40⟩ := hcut
        obtain ⟨w40, hw40⟩ : ∃ w', w' = wc := ⟨_, rfl⟩
        rw [← hw40] at s40 t40 h40
        rw [← hw40]
        have H40 := Lib.hid h40
        have HT40 := Lib.hid t40
        clear hw40 h40 t40 s30 HT30 H30
        have hE : changeR (openL l) r (da, false) = (⟨r.id, kk.1, pp.1.1, pp.1.2.1, pp.1.2.2, qq.1.1, qq.1.2.1, qq.1.2.2, uu.1.1, uu.1.2.1, uu.1.2.2⟩, uu.2) := by unfold changeR; simp only [HG1.out, HG2.out, HG3.out, HKK.out, HPP.out, HQQ.out, HUU.out]
        rw [HNEW.out] at hE
        obtain ⟨hnr, hsg⟩ := Prod.mk.inj hE
        have HSG := Lib.hid hsg
        clear hE hsg
        have HNR : Hid (#[.int .i64 (r.id), .int .i64 (kk.1), .int .i64 (pp.1.1), .int .i64 (pp.1.2.1), .int .i64 (pp.1.2.2), .int .i64 (qq.1.1), .int .i64 (qq.1.2.1), .int .i64 (qq.1.2.2), .int .i64 (uu.1.1), .int .i64 (uu.1.2.1), .int .i64 (uu.1.2.2)] = snL nr) := Lib.hid (by rw [hnr]; rfl)
        have HLEN : Hid (all.length = al2.length) := Lib.hid (by rw [HAL.out]; simp only [List.length_append, List.length_cons, List.length_take, List.length_drop]; omega)
        have HMX2 : Hid (∀ i j, mx al2 i j = if i = k then nr.get j else mx all i j) := Lib.hid (fun i j => by rw [HAL.out]; exact mx_set all hin nr i j)
        rw [HNR.out] at s40
        clear hnr
        have HLS : Hid (∀ j, j < 11 → w40.cell? ⟨s, 0 + j, none⟩ = some (.int .i64 (nr.get j))) := Lib.hid (fun j hj => by
          rw [Nat.zero_add, s40.cell j]
          match j, hj with
          | 0, _ => rfl
          | 1, _ => rfl
          | 2, _ => rfl
          | 3, _ => rfl
          | 4, _ => rfl
          | 5, _ => rfl
          | 6, _ => rfl
          | 7, _ => rfl
          | 8, _ => rfl
          | 9, _ => rfl
          | 10, _ => rfl)
        have z40 := HT40.out.lt
        have f40 := HT40.out.free
        have q0 : w40.cell? ⟨bT, k * 11, none⟩ = some (.int .i64 (mx all k 0)) := HT40.out.cell hin (j := 0) (by decide)
        have q1 : w40.cell? ⟨bT, k * 11 + 1, none⟩ = some (.int .i64 (mx all k 1)) := HT40.out.cell hin (j := 1) (by decide)
        have q2 : w40.cell? ⟨bT, k * 11 + 2, none⟩ = some (.int .i64 (mx all k 2)) := HT40.out.cell hin (j := 2) (by decide)
        have q3 : w40.cell? ⟨bT, k * 11 + 3, none⟩ = some (.int .i64 (mx all k 3)) := HT40.out.cell hin (j := 3) (by decide)
        have q4 : w40.cell? ⟨bT, k * 11 + 4, none⟩ = some (.int .i64 (mx all k 4)) := HT40.out.cell hin (j := 4) (by decide)
        have q5 : w40.cell? ⟨bT, k * 11 + 5, none⟩ = some (.int .i64 (mx all k 5)) := HT40.out.cell hin (j := 5) (by decide)
        have q6 : w40.cell? ⟨bT, k * 11 + 6, none⟩ = some (.int .i64 (mx all k 6)) := HT40.out.cell hin (j := 6) (by decide)
        have q7 : w40.cell? ⟨bT, k * 11 + 7, none⟩ = some (.int .i64 (mx all k 7)) := HT40.out.cell hin (j := 7) (by decide)
        have q8 : w40.cell? ⟨bT, k * 11 + 8, none⟩ = some (.int .i64 (mx all k 8)) := HT40.out.cell hin (j := 8) (by decide)
        have q9 : w40.cell? ⟨bT, k * 11 + 9, none⟩ = some (.int .i64 (mx all k 9)) := HT40.out.cell hin (j := 9) (by decide)
        have q10 : w40.cell? ⟨bT, k * 11 + 10, none⟩ = some (.int .i64 (mx all k 10)) := HT40.out.cell hin (j := 10) (by decide)
        have tb := HT40.out
        have H41 := Lib.hid (H40.out.setrows HC.out (((((((((((((tb.set hin (j := 0) (by decide) nr.id).set hin (j := 1) (by decide) nr.kd).set hin (j := 2) (by decide) nr.s1).set hin (j := 3) (by decide) nr.s2).set hin (j := 4) (by decide) nr.s3).set hin (j := 5) (by decide) nr.a1).set hin (j := 6) (by decide) nr.a2).set hin (j := 7) (by decide) nr.a3).set hin (j := 8) (by decide) nr.v1).set hin (j := 9) (by decide) nr.v2).set hin (j := 10) (by decide) nr.v3)).eq (M' := mx al2) (fun i hi j hj => by rw [HMX2.out]; exact put11 (mx all) k nr i j hj)) (((((((((((((Mod.refl (· = bT) w40).set (.inl rfl)).set (.inl rfl)).set (.inl rfl)).set (.inl rfl)).set (.inl rfl)).set (.inl rfl)).set (.inl rfl)).set (.inl rfl)).set (.inl rfl)).set (.inl rfl)).set (.inl rfl))) hbB HLEN.out)
        clear tb
        clear s40
        go_wp2_with ((with_reducible show wpList _ _ _ _ _ _); refine wp_seenR (M := fun _ j => nr.get j) (k := 0) HLS.out rfl (.tmp 17) rfl rfl ?_; try dsimp only [Sn.get])
        have H42 := H41.out
        rw [← HSG.out] at H42
        exact HQ.out _ _ _ _ _ _ _ _ _ _ _ _ _ _ _ _ _ _ _ _ _ _ _ _ _ _ _ _ _ _ _ _ _ _ _ _ _ _ _ _ _ _ _ _ _ _ _ _ _ _ _ _ _ _ _ _ _ _ _ H42
end Go.Proofs.Ytefhmbmbhiehdaa
