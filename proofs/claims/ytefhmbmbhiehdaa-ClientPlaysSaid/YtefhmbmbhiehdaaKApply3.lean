/- The contract of snap.Apply. Conditions: none but that there are not too many. -/
import Derived.Test.YtefhmbmbhiehdaaKApply1
import Derived.Test.YtefhmbmbhiehdaaKClF
import Derived.Test.YtefhmbmbhiehdaaKClA
import Derived.Test.YtefhmbmbhiehdaaKClE
namespace Go.Proofs.Ytefhmbmbhiehdaa
open Go.ChangeShapes Go.WideShapes Go.ChangeAt Go.RowKit Go.BigFrame
open B
section
variable {T : List Nat} {f a ga da : Nat} {out rest D : List Sn} {last gn ge dn de : Int}
theorem F_bad (hg : getD T a 2 = (gn, ge, ga)) (h : ge ≠ 0) : applyF T (f + 1) a out rest last = none := by unfold applyF; simp only [hg]; rw [if_pos h]
theorem F_end (hg : getD T a 2 = (3, 0, ga)) : applyF T (f + 1) a out rest last = some (out ++ rest) := by unfold applyF; simp only [hg]; rfl
theorem F_var (hg : getD T a 2 = (gn, 0, ga)) (h3 : gn ≠ 3) (hd : varD T ga = (dn, de, da)) (h : de ≠ 0 ∨ 1099511627776 < dn) : applyF T (f + 1) a out rest last = none := by
  unfold applyF; simp only [hg, hd]; rw [if_neg (by simp), if_neg h3, if_pos h]
/-- the rows below a number, and the others -/
def lowR (now : Int) (rest : List Sn) : List Sn := rest.takeWhile fun r => decide (r.id < now)
def highR (now : Int) (rest : List Sn) : List Sn := rest.dropWhile fun r => decide (r.id < now)
theorem F_go (hg : getD T a 2 = (gn, 0, ga)) (h3 : gn ≠ 3) (hd : varD T ga = (dn, 0, da)) (h : dn ≤ 1099511627776) : applyF T (f + 1) a out rest last =
    match highR (last + (dn + 1)) rest with
    | [] => if gn = 1 then (if (newR T (last + (dn + 1)) (da, false)).2.2 = true ∨ 60 < (out ++ lowR (last + (dn + 1)) rest).length + 1 then none else applyF T f (newR T (last + (dn + 1)) (da, false)).2.1 (out ++ lowR (last + (dn + 1)) rest ++ [(newR T (last + (dn + 1)) (da, false)).1]) [] (last + (dn + 1))) else none
    | r :: rest2 => if r.id = last + (dn + 1) then (if gn = 1 then none else if gn = 0 then applyF T f da (out ++ lowR (last + (dn + 1)) rest) rest2 (last + (dn + 1)) else
          (if (changeR T r (da, false)).2.2 = true ∨ 60 < (out ++ lowR (last + (dn + 1)) rest).length + 1 then none else applyF T f (changeR T r (da, false)).2.1 (out ++ lowR (last + (dn + 1)) rest ++ [(changeR T r (da, false)).1]) rest2 (last + (dn + 1))))
        else (if gn = 1 then (if (newR T (last + (dn + 1)) (da, false)).2.2 = true ∨ 60 < (out ++ lowR (last + (dn + 1)) rest).length + 1 then none else applyF T f (newR T (last + (dn + 1)) (da, false)).2.1 (out ++ lowR (last + (dn + 1)) rest ++ [(newR T (last + (dn + 1)) (da, false)).1]) (r :: rest2) (last + (dn + 1))) else none) := by
  conv => lhs; unfold applyF
  simp only [hg, hd]
  rw [if_neg (by simp), if_neg h3, if_neg (by rintro (h' | h'); exact h' rfl; omega)]
  rfl
/-- no row of that number -/
def NoRow (now : Int) (D : List Sn) : Prop := ∀ r t, D = r :: t → r.id ≠ now
theorem F_no (hg : getD T a 2 = (gn, 0, ga)) (h3 : gn ≠ 3) (hd : varD T ga = (dn, 0, da)) (h : dn ≤ 1099511627776) (hD : highR (last + (dn + 1)) rest = D) (hN : NoRow (last + (dn + 1)) D) (h1 : gn ≠ 1) : applyF T (f + 1) a out rest last = none := by
  rw [F_go hg h3 hd h, hD]
  cases D with
  | nil => simp only []; rw [if_neg h1]
  | cons r t => simp only []; rw [if_neg (hN r t rfl), if_neg h1]
theorem F_new {O : List Sn} {n : Sn × (Nat × Bool)} (hg : getD T a 2 = (1, 0, ga)) (hd : varD T ga = (dn, 0, da)) (h : dn ≤ 1099511627776) (hO : out ++ lowR (last + (dn + 1)) rest = O) (hD : highR (last + (dn + 1)) rest = D) (hN : NoRow (last + (dn + 1)) D) (hn : newR T (last + (dn + 1)) (da, false) = n) :
    applyF T (f + 1) a out rest last = if n.2.2 = true ∨ 60 < O.length + 1 then none else applyF T f n.2.1 (O ++ [n.1]) D (last + (dn + 1)) := by
  rw [F_go hg (by decide) hd h, hD, hn, hO]
  cases D with
  | nil => rfl
  | cons r t => simp only []; rw [if_neg (hN r t rfl), if_pos trivial]
theorem F_dup {r : Sn} {t : List Sn} (hg : getD T a 2 = (1, 0, ga)) (hd : varD T ga = (dn, 0, da)) (h : dn ≤ 1099511627776) (hD : highR (last + (dn + 1)) rest = r :: t) (hr : r.id = last + (dn + 1)) : applyF T (f + 1) a out rest last = none := by
  rw [F_go hg (by decide) hd h, hD]
  simp only []
  rw [if_pos hr, if_pos trivial]
theorem F_gone {O t : List Sn} {r : Sn} (hg : getD T a 2 = (0, 0, ga)) (hd : varD T ga = (dn, 0, da)) (h : dn ≤ 1099511627776) (hO : out ++ lowR (last + (dn + 1)) rest = O) (hD : highR (last + (dn + 1)) rest = r :: t) (hr : r.id = last + (dn + 1)) : applyF T (f + 1) a out rest last = applyF T f da O t (last + (dn + 1)) := by
  rw [F_go hg (by decide) hd h, hD, hO]
  simp only []
  rw [if_pos hr, if_neg (by decide), if_pos trivial]
theorem F_chg {O t : List Sn} {r : Sn} {n : Sn × (Nat × Bool)} (hg : getD T a 2 = (gn, 0, ga)) (h3 : gn ≠ 3) (h1 : gn ≠ 1) (h0 : gn ≠ 0) (hd : varD T ga = (dn, 0, da)) (h : dn ≤ 1099511627776) (hO : out ++ lowR (last + (dn + 1)) rest = O) (hD : highR (last + (dn + 1)) rest = r :: t) (hr : r.id = last + (dn + 1)) (hn : changeR T r (da, false) = n) :
    applyF T (f + 1) a out rest last = if n.2.2 = true ∨ 60 < O.length + 1 then none else applyF T f n.2.1 (O ++ [n.1]) t (last + (dn + 1)) := by
  rw [F_go hg h3 hd h, hD, hO]
  simp only []
  rw [if_pos hr, if_neg h1, if_neg h0, hn]
theorem low_cons {now : Int} {r : Sn} {t : List Sn} (h : r.id < now) : lowR now (r :: t) = r :: lowR now t ∧ highR now (r :: t) = highR now t := by
  unfold lowR highR
  simp [h]
theorem low_stop {now : Int} {r : Sn} {t : List Sn} (h : ¬ r.id < now) : lowR now (r :: t) = [] ∧ highR now (r :: t) = r :: t := by
  unfold lowR highR
  simp [h]
theorem getD_ok {k : Nat} (hk : k ≤ 62) (h : getD T a k = (gn, 0, ga)) : ga = a + k ∧ a + k ≤ T.length := by
  unfold getD at h
  rw [if_neg (by omega)] at h
  by_cases hl : T.length < a + (k : Int).toNat
  · rw [if_pos hl] at h; simp at h
  · rw [if_neg hl] at h
    simp at h hl
    exact ⟨h.2.symm, by omega⟩
theorem varD_ge (h : varD T ga = (dn, 0, da)) : ga ≤ da ∧ 0 ≤ dn := by
  have h0 := varD_nonneg T ga
  rw [h] at h0
  refine ⟨?_, h0⟩
  unfold varD at h
  cases hv : varG T ga with
  | error x =>
    rw [hv] at h
    simp at h
    omega
  | ok q =>
    rw [hv] at h
    simp at h
    have := varR_nat _ _ _ _ q.1 q.2 hv
    omega
end
theorem getD_adv (T : List Nat) (a : Nat) (k : Int) : a ≤ (getD T a k).2.2 := by
  unfold getD
  split
  · exact Nat.le_refl _
  · split
    · exact Nat.le_refl _
    · exact Nat.le_add_right _ _
theorem intD_adv (T : List Nat) (a : Nat) : a ≤ (intD T a).2.2 := by
  unfold intD intG
  cases hv : varG T a with
  | error x => exact Nat.le_refl _
  | ok q =>
    simp only []
    have := varR_nat _ _ _ _ q.1 q.2 hv
    by_cases h : 2305843009213693952 < q.1
    · rw [if_pos h]; exact Nat.le_refl _
    · rw [if_neg h]; exact this.1
theorem rG_adv (T : List Nat) (k : Int) (s : Nat × Bool) : s.1 ≤ (rG T k s).2.1 := getD_adv _ _ _
theorem rI_adv (T : List Nat) (s : Nat × Bool) : s.1 ≤ (rI T s).2.1 := intD_adv _ _
theorem v3R_adv (T : List Nat) (x y z : Int) (s : Nat × Bool) : s.1 ≤ (v3R T x y z s).2.1 := Nat.le_trans (rI_adv T s) (Nat.le_trans (rI_adv T _) (rI_adv T _))
theorem maybe3_adv (T : List Nat) (g x y z : Int) (s : Nat × Bool) : s.1 ≤ (maybe3 T g x y z s).2.1 := by
  unfold maybe3
  split
  · exact v3R_adv _ _ _ _ _
  · exact Nat.le_refl _
theorem maybeK_adv (T : List Nat) (g k : Int) (s : Nat × Bool) : s.1 ≤ (maybeK T g k s).2.1 := by
  unfold maybeK
  split
  · exact rG_adv _ _ _
  · exact Nat.le_refl _
theorem newR_adv (T : List Nat) (id : Int) (s : Nat × Bool) : s.1 ≤ (newR T id s).2.1 :=
  Nat.le_trans (rG_adv T 3 s) (Nat.le_trans (v3R_adv T 0 0 0 _) (Nat.le_trans (v3R_adv T 0 0 0 _) (v3R_adv T 0 0 0 _)))
theorem changeR_adv (T : List Nat) (r : Sn) (s : Nat × Bool) : s.1 ≤ (changeR T r s).2.1 :=
  Nat.le_trans (rG_adv T 1 s) (Nat.le_trans (rG_adv T 1 _) (Nat.le_trans (rG_adv T 1 _) (Nat.le_trans (maybeK_adv T _ _ _) (Nat.le_trans (maybe3_adv T _ _ _ _ _) (Nat.le_trans (maybe3_adv T _ _ _ _ _) (maybe3_adv T _ _ _ _ _))))))
theorem in62_0 : In62 0 := by unfold In62; decide
theorem in62_40 {n : Int} (h : In40 n) : In62 n := by unfold In40 at h; unfold In62; omega
theorem in62_row {M : Nat → Nat → Int} {i : Nat} (h : ∀ j, 2 ≤ j → j < 11 → In40 (M i j)) : In62 (snOf M i).s1 ∧ In62 (snOf M i).s2 ∧ In62 (snOf M i).s3 ∧ In62 (snOf M i).a1 ∧ In62 (snOf M i).a2 ∧ In62 (snOf M i).a3 ∧ In62 (snOf M i).v1 ∧ In62 (snOf M i).v2 ∧ In62 (snOf M i).v3 :=
  ⟨in62_40 (h 2 (by decide) (by decide)), in62_40 (h 3 (by decide) (by decide)), in62_40 (h 4 (by decide) (by decide)), in62_40 (h 5 (by decide) (by decide)), in62_40 (h 6 (by decide) (by decide)), in62_40 (h 7 (by decide) (by decide)), in62_40 (h 8 (by decide) (by decide)), in62_40 (h 9 (by decide) (by decide)), in62_40 (h 10 (by decide) (by decide))⟩
/-- where the reader is -/
def posOf (w : World) (p : Nat) : Nat := match w.cell? ⟨p, 1, none⟩ with | some (.int _ n) => n.toNat | _ => 0
theorem posOf_rd {w : World} {base p a : Nat} {v : Value} {l : List Nat} (h : Rd w base p v l a) : posOf w p = a := by
  unfold posOf
  rw [h.blk.cell 1]
  rfl
theorem len_snoc (R : List Sn) (r : Sn) : (R ++ [r]).length = R.length + 1 := by simp
theorem rowz_form {w : World} {base size n : Nat} {e : TypeId} {v : Value} {xs : List Value} (h : w.ownsRow base e size v n xs) : ∃ A c, v = .slice A n c := by
  obtain ⟨_, ⟨hv, hx⟩ | ⟨g, c, cur, hv, _⟩⟩ := h
  · exact ⟨none, 0, by rw [hv, hx]⟩
  · exact ⟨_, c, hv⟩
theorem seenInfoS : (Try.prog.info? 106).map (fun i => (i.zero, i.size, i.bytes)) = some (some (.agg #[.int .i64 0, .int .i64 0, .int .i64 0, .int .i64 0, .int .i64 0, .int .i64 0, .int .i64 0, .int .i64 0, .int .i64 0, .int .i64 0, .int .i64 0]), 11, 88) := by kernel_rfl
/-- the reader's blocks are older than the rows -/
structure Cs (w3 : World) (P Q : Nat) (rv : Value) : Prop where
  p : P < w3.heap.size
  q : Q < w3.heap.size
  d : ∀ b, rv.ownBlock = some b → b < w3.heap.size
/-- the reader, and the rows that are done -/
structure St (w3 w : World) (B0 P Q : Nat) (rv : Value) (l : List Nat) (a : Nat) (bad : Bool) (SA : Option Addr) (n SC : Nat) (xs : List Value) : Prop where
  rr : RR w B0 P Q rv l a bad
  row : w.ownsRow w3.heap.size 106 11 (.slice SA n SC) n xs
  md : Mod (fun b => b = P ∨ b = Q) w3 w
section
variable {w3 w w' : World} {B0 P Q a a' n SC : Nat} {rv : Value} {l : List Nat} {bad bad' : Bool} {SA : Option Addr} {xs : List Value}
theorem St.read (h : St w3 w B0 P Q rv l a bad SA n SC xs) (c : Cs w3 P Q rv) (hR : RR w' B0 P Q rv l a' bad') (k : Mod (fun b => b = P ∨ b = Q) w w') : St w3 w' B0 P Q rv l a' bad' SA n SC xs :=
  ⟨hR, row_mod h.row k (fun b hb e => by have := (row_lt h.row hb).2; have := c.p; have := c.q; omega), h.md.trans k⟩
theorem St.var (h : St w3 w B0 P Q rv l a bad SA n SC xs) (c : Cs w3 P Q rv) (hR : Rd w' B0 P rv l a') (k : Mod (· = P) w w') : St w3 w' B0 P Q rv l a' bad SA n SC xs :=
  h.read c (h.rr.next hR k) (k.mono fun _ _ h => .inl h)
theorem St.below (h : St w3 w B0 P Q rv l a bad SA n SC xs) (k : Below w.heap.size w w') : St w3 w' B0 P Q rv l a bad SA n SC xs := ⟨h.rr.below k, row_below h.row k, h.md.below k⟩
theorem St.app {SA' : Option Addr} {n' SC' : Nat} {xs' : List Value} (h : St w3 w B0 P Q rv l a bad SA n SC xs) (c : Cs w3 P Q rv) (hown : w'.ownsRow w3.heap.size 106 11 (.slice SA' n' SC') n' xs') (k : Mod (fun b => (Value.slice SA n SC).ownBlock = some b) w w') : St w3 w' B0 P Q rv l a bad SA' n' SC' xs' := by
  have hb : ∀ b, (Value.slice SA n SC).ownBlock = some b → w3.heap.size ≤ b := fun b hb => (row_lt h.row hb).2
  refine ⟨h.rr.mod k (fun e => ?_) (fun e => ?_) (fun b hb' e => ?_), hown, h.md.trans2 k fun b hb' e => ?_⟩
  · have := hb _ e; have := c.p; omega
  · have := hb _ e; have := c.q; omega
  · have := hb _ e; have := c.d b hb'; omega
  · have := hb _ e; omega
/-- a block of its own is written -/
theorem St.write {s : Nat} (h : St w3 w B0 P Q rv l a bad SA n SC xs) (c : Cs w3 P Q rv) (hs : w3.heap.size ≤ s) (ho : (Value.slice SA n SC).ownBlock ≠ some s) (k : Mod (· = s) w w') : St w3 w' B0 P Q rv l a bad SA n SC xs := by
  refine ⟨h.rr.mod k (fun e => ?_) (fun e => ?_) (fun b hb' e => ?_), row_mod h.row k (fun b hb e => ho (e ▸ hb)), h.md.trans2 k fun b hb' e => ?_⟩
  · have := c.p; omega
  · have := c.q; omega
  · have := c.d b hb'; omega
  · omega
theorem St.change {s : Nat} (h : St w3 w B0 P Q rv l a bad SA n SC xs) (c : Cs w3 P Q rv) (hs : w3.heap.size ≤ s) (ho : (Value.slice SA n SC).ownBlock ≠ some s) (hR : RR w' B0 P Q rv l a' bad') (k : Mod (fun b => b = P ∨ b = Q ∨ b = s) w w') : St w3 w' B0 P Q rv l a' bad' SA n SC xs := by
  refine ⟨hR, row_mod h.row k (fun b hb e => ?_), h.md.trans2 k fun b hb' e => ?_⟩
  · have := (row_lt h.row hb).2
    have := c.p; have := c.q
    rcases e with e | e | e
    · omega
    · omega
    · exact ho (e ▸ hb)
  · rcases e with e | e | e
    · exact .inl e
    · exact .inr e
    · omega
theorem St.le (h : St w3 w B0 P Q rv l a bad SA n SC xs) : w3.heap.size ≤ w.heap.size := h.md.size
theorem St.q (h : St w3 w B0 P Q rv l a bad SA n SC xs) : Blk w Q #[.pointer (some ⟨P, 0, none⟩), .bool bad] := h.rr.blk
theorem St.own (h : St w3 w B0 P Q rv l a bad SA n SC xs) {s : Nat} (hs : w.heap.size ≤ s) : (Value.slice SA n SC).ownBlock ≠ some s := fun e => by have := (row_lt h.row e).1; omega
end
theorem ansV_no {M1 : Nat → Nat → Int} {n1 : Nat} {l : List Nat} {O : List Sn} (h : ¬ (dN M1 n1 (mx O) O.length = 0 ∧ dL M1 n1 (mx O) O.length = l)) : ansV M1 n1 l (some O) = none := by
  show (if _ then _ else _) = _
  rw [if_neg h]
theorem ansV_yes {M1 : Nat → Nat → Int} {n1 : Nat} {l : List Nat} {O : List Sn} (h : dN M1 n1 (mx O) O.length = 0 ∧ dL M1 n1 (mx O) O.length = l) : ansV M1 n1 l (some O) = some O := by
  show (if _ then _ else _) = _
  rw [if_pos h]
theorem headL_bin (k : Nat) (i j : Int) : Bin (headL k i j) := by unfold headL; exact (bitsOf_bin _ _).append (varL_bin _)
theorem vec3L_bin (x y z : Int) : Bin (vec3L x y z) := by unfold vec3L; exact ((intL_bin _).append (intL_bin _)).append (intL_bin _)
theorem newL_bin (M : Nat → Nat → Int) (k : Nat) : Bin (newL M k) := by unfold newL; exact (((bitsOf_bin _ _).append (vec3L_bin _ _ _)).append (vec3L_bin _ _ _)).append (vec3L_bin _ _ _)
theorem changeL_bin (M1 : Nat → Nat → Int) (i : Nat) (M2 : Nat → Nat → Int) (k : Nat) : Bin (changeL M1 i M2 k) := by
  unfold changeL bit vecD
  refine (((((bitsOf_bin _ _).append (bitsOf_bin _ _)).append (bitsOf_bin _ _)).append ?_).append ?_).append ?_
  · split
    · exact (bitsOf_bin _ _).append (vec3L_bin _ _ _)
    · exact Bin.nil
  · split
    · exact vec3L_bin _ _ _
    · exact Bin.nil
  · split
    · exact vec3L_bin _ _ _
    · exact Bin.nil
theorem restF_bin (M1 : Nat → Nat → Int) (n1 : Nat) (M2 : Nat → Nat → Int) (n2 : Nat) : ∀ (f i k : Nat) (last : Int), Bin (restF M1 n1 M2 n2 f i k last) := by
  intro f
  induction f with
  | zero => intro i k last; exact bitsOf_bin _ _
  | succ f ih =>
    intro i k last
    unfold restF
    split
    · split
      · exact (headL_bin _ _ _).append (ih _ _ _)
      · split
        · exact ((headL_bin _ _ _).append (newL_bin _ _)).append (ih _ _ _)
        · split
          · exact ih _ _ _
          · exact ((headL_bin _ _ _).append (changeL_bin _ _ _ _)).append (ih _ _ _)
    · exact bitsOf_bin _ _
theorem dL_lt (M1 : Nat → Nat → Int) (n1 : Nat) (M2 : Nat → Nat → Int) (n2 : Nat) : ∀ b ∈ dL M1 n1 M2 n2, b < 256 := by
  unfold dL
  split
  · exact pack_lt (restF_bin _ _ _ _ _ _ _ _)
  · intro b hb; cases hb
theorem dL_len (M1 : Nat → Nat → Int) (n1 : Nat) (M2 : Nat → Nat → Int) (n2 : Nat) : (dL M1 n1 M2 n2).length ≤ 1000000 := by
  unfold dL
  split
  · rename_i h
    have := (d_zero.1 h).2.2
    rw [pack_length]
    unfold bytesOf
    omega
  · simp
/-- the same, and the view is of new memory -/
def ApplyPostF (M1 : Nat → Nat → Int) (n1 : Nat) (l : List Nat) (w : World) (e : Ending) (w' : World) : Prop :=
  ((¬ RightV n1 M1 ∧ e = .returned (.tuple #[.slice none 0 0, .iface 38 (.int .i64 1)])) ∨
   (RightV n1 M1 ∧ ansF M1 n1 l = none ∧ e = .returned (.tuple #[.slice none 0 0, .iface 38 (.int .i64 3)])) ∨
   (RightV n1 M1 ∧ ∃ (o : List Sn) (A : Option Addr) (c : Nat), ansF M1 n1 l = some o ∧ e = .returned (.tuple #[.slice A o.length c, .nilIface]) ∧ (A = none → o.length = 0 ∧ c = 0) ∧ o.length ≤ c ∧ Reads w' A o.length 11 (mx o) ∧ ∀ x, A = some x → w.heap.size ≤ x.block)) ∧ Below w.heap.size w w'
set_option maxRecDepth 100000 in
set_option maxHeartbeats 16000000 in
theorem apply_f (n1 : Nat) (A1 : Option Addr) (cap1 : Nat) (M1 : Nat → Nat → Int) (v : Value) (l : List Nat) (w : World) (hn1 : n1 ≤ 100000) (hcap : n1 ≤ cap1) (hZ : A1 = none → n1 = 0 ∧ cap1 = 0) (hR1 : Reads w A1 n1 11 M1) (hS : Src w v l) (h8 : ∀ b ∈ l, b < 256) (hl : l.length ≤ 100000) :
    Calls Try.prog 78 #[.slice A1 n1 cap1, v] w (ApplyPostF M1 n1 l w) := by
  have HR1 := Lib.hid hR1
  have HSR := Lib.hid hS
  have H8 := Lib.hid h8
  have HZ := Lib.hid hZ
  have HCAP := Lib.hid hcap
  obtain ⟨AL, cL, rfl⟩ := src_form hS
  clear hR1 hS h8 hZ hcap
  go_enter Try.func78, Try.ntmps78
  go_wp2_with fail
  refine (right_c n1 A1 cap1 M1 _ (by omega) HR1.out).mono ?_
  rintro e w1 ⟨d1, rfl, hd1, hb1⟩
  cases d1 with
  | false =>
    have HNO : Hid (¬ RightV n1 M1) := Lib.hid (fun h => by have := hd1.2 h; cases this)
    clear hd1
    go_wp2
    exact bodyPost_ret (v := .tuple #[.slice none 0 0, .iface 38 (.int .i64 1)]) (by simp [results, Try.results78, go_sem, *]) rfl ⟨.inl ⟨HNO.out, rfl⟩, hb1⟩
  | true =>
    have HY1 : Hid (RightV n1 M1) := Lib.hid (hd1.1 rfl)
    have h60 : n1 ≤ 60 := HY1.out.2
    clear hd1 hn1
    go_wp2_with fail
    refine (read_c _ l _ (HSR.out.below hb1) H8.out (by omega)).mono ?_
    rintro e w2 ⟨P, rv, rfl, hP, hRd, hb2⟩
    have hB2 : Below w.heap.size w w2 := hb1.trans (hb2.mono hb1.size)
    have hPl := hRd.blk.lt
    go_wp2
    refine wp_fresh ?_
    rintro w3 hb3
    have q3 : Blk w3 w2.heap.size #[.pointer (some ⟨P, 0, none⟩), .bool false] := Blk.below (by repeat (with_reducible (first | assumption | (apply Blk.at; simp; done) | apply Blk.alloc | apply Blk.drew | apply Blk.drewN | apply Blk.more | apply Blk.put | (apply Blk.far; focus (first | assumption | (apply Ne.symm; assumption) | (simp; done) | (simp <;> omega)))))) hb3
    have hv3 : Below w2.heap.size w2 w3 := (by repeat (with_reducible (first | exact Below.refl _ _ | assumption | apply ext_drew | apply ext_drewN | apply ext_alloc | apply ext_more | (refine ext_setCell ?_ (by first | assumption | (simp <;> omega)) _) | (refine ext_below ?_ (by assumption)))))
    obtain ⟨B0, hB0⟩ : ∃ B0, B0 = w1.heap.size := ⟨_, rfl⟩
    rw [← hB0] at hRd
    have hRR : RR w3 B0 P w2.heap.size rv l 0 false := ⟨hRd.below hv3, q3, by omega, fun e => by have := (row_lt hRd.row e).1; omega⟩
    have HC : Hid (Cs w3 P w2.heap.size rv) := Lib.hid ⟨(hRd.below hv3).blk.lt, q3.lt, fun b hb => Nat.lt_of_lt_of_le (row_lt hRd.row hb).1 hv3.size⟩
    have hB3 : Below w.heap.size w w3 := hB2.trans (hv3.mono hB2.size)
    have HWS : Hid (w.heap.size ≤ w3.heap.size) := Lib.hid hB3.size
    have HPW : Hid (w.heap.size ≤ P ∧ w.heap.size ≤ w2.heap.size) := Lib.hid ⟨Nat.le_trans hb1.size hP, hB2.size⟩
    have HBE : Hid (∀ wx, Mod (fun b => b = P ∨ b = w2.heap.size) w3 wx → Below w.heap.size w wx) := Lib.hid (fun wx hm => hB3.trans (hm.toBelow hB3.size (fun b hb e => by have := HPW.out; rcases e with e | e <;> omega)))
    obtain ⟨Q, hQ⟩ : ∃ Q, Q = w2.heap.size := ⟨_, rfl⟩
    rw [← hQ] at hRR HC HBE
    rw [← hQ]
    obtain ⟨X, hX⟩ : ∃ X, X = applyF (openL l) ((openL l).length + 1) 0 [] (rowsOf M1 n1) 0 := ⟨_, rfl⟩
    have HXA : Hid (ansF M1 n1 l = ansV M1 n1 l X) := Lib.hid (by rw [hX]; rfl)
    have HX0 := Lib.hid hX
    have hTl := openL_length l
    clear hX hQ hB0 HPW hB3 hv3 q3 hb3 hb1 hb2 hP hRd hB2 hPl
    have H0 := Lib.hid hRR
    clear hRR
    go_loopw [7, 8, 9] (fun tv tl ti wr => ∃ (i a f : Nat) (last : Int) (R : List Sn) (SA : Option Addr) (SC : Nat), i ≤ n1 ∧ ti = .int .i64 i ∧ tl = .int .i64 last ∧ tv = .slice SA R.length SC ∧ 8 * l.length < a + f ∧ applyF (openL l) f a R ((rowsOf M1 n1).drop i) last = X ∧ 0 ≤ last ∧ last ≤ a * 1099511627777 ∧ a ≤ 8 * l.length ∧ R.length ≤ 60 + i ∧ RR wr B0 P Q rv l a false ∧ wr.ownsRow w3.heap.size 106 11 (.slice SA R.length SC) R.length (rowsS R) ∧ Mod (fun b => b = P ∨ b = Q) w3 wr) (fun _ _ _ wr => 8 * l.length - posOf wr P)
    case atStart => exact ⟨0, 0, (openL l).length + 1, 0, [], none, 0, by omega, rfl, rfl, rfl, by omega, HX0.out.symm, by omega, by omega, by omega, by simp, H0.out, ⟨by simp [rowsS], .inl ⟨rfl, rfl⟩⟩, Mod.refl _ _⟩
    case round =>
      obtain ⟨i, a, f, last, R, SA, SC, hi, rfl, rfl, rfl, hfa, hXX, hl0, hl1, ha8, hR60, hRR, hO, hM⟩ := hrel
      obtain ⟨g, rfl⟩ : ∃ g, f = g + 1 := ⟨f - 1, by omega⟩
      have HX := Lib.hid hXX
      have HRR := Lib.hid hRR
      have HS0 : Hid (St w3 wr B0 P Q rv l a false SA R.length SC (rowsS R)) := Lib.hid ⟨hRR, hO, hM⟩
      clear hXX hRR hO hM H0 HX0
      obtain ⟨gn, ge, ga, hg⟩ : ∃ n e a', getD (openL l) a 2 = (n, e, a') := ⟨_, _, _, rfl⟩
      have hg4 := getD_lt (openL_bin l) a (k := 2) (by decide)
      have hg4' : 0 ≤ gn ∧ gn < 4 := by rw [show ((2 : Nat) : Int) = 2 from rfl, hg] at hg4; simpa using hg4
      clear hg4
      go_wp2_with fail
      refine (sput_c B0 P Q (a, false) rv l 2 (gn, (ga, decide (ge ≠ 0))) _ (by unfold rG; rw [hg]; simp) HRR.out).mono ?_
      rintro e w4 ⟨rfl, hR4, hM4⟩
      have H4 := Lib.hid (HS0.out.read HC.out hR4 hM4)
      have HG := Lib.hid hg
      clear hR4 hM4 HS0 hg
      by_cases hge : ge = 0
      · subst hge
        have e1 : decide ((0 : Int) ≠ 0) = false := by decide
        rw [e1] at H4
        have hgx := getD_ok (k := 2) (by decide) HG.out
        have q4 := H4.out.q
        obtain ⟨zq, cq, fq⟩ := id q4
        clear e1 q4
        by_cases hg3 : gn = 3
        · have HXN : Hid (X = some (R ++ (rowsOf M1 n1).drop i)) := Lib.hid (by rw [← HX.out]; have h1 := HG.out; rw [hg3] at h1; exact F_end h1)
          subst hg3
          clear HX HG hl0 hl1
          as_aux_lemma =>
            have hRdw4 := HR1.out.below (HBE.out _ H4.out.md)
            obtain ⟨A9, hR9, hA9, hsl⟩ := rows_from (P := Try.prog) (t := 28) (e := 106) (by kernel_rfl) (fun w' => by kernel_rfl) hRdw4 HZ.out HCAP.out i (by omega) rfl
            have HR9 := Lib.hid hR9
            have HA9 := Lib.hid hA9
            have HSZ := Lib.hid H4.out.le
            clear hR9 hA9 hRdw4
            obtain ⟨O, hOO⟩ : ∃ O, O = R ++ (rowsOf M1 n1).drop i := ⟨_, rfl⟩
            have hOl : R.length + (n1 - i) = O.length := by rw [hOO, List.length_append, List.length_drop, rowsOf_length]
            have hOr : rowsS R ++ rowsL (fun k j => M1 (i + k) j) 11 (n1 - i) = rowsS O := by rw [hOO, rowsS_append, rowsS_from M1 n1 i hi]
            have HOO : Hid (X = some O) := Lib.hid (by rw [hOO]; exact HXN.out)
            have HOR := Lib.hid hOr
            have HOL := Lib.hid hOl
            have hO121 : O.length ≤ 121 := by omega
            clear hOO hOr hOl
            go_wp2_with (at_builtin; go_must (refine app_rows rfl (.tmp 145) (.tmp 148) 28 rfl (e := 106) Try.underlying28 seenInfoS rfl (by decide) (by decide) w3.heap.size (.slice SA R.length SC) R.length (rowsS R) rfl H4.out.row rfl HR9.out HA9.out (by omega) HSZ.out ?_; intro v5 w5 hown hmod hwh; rw [HOR.out, HOL.out] at hown; obtain ⟨SA5, SC5, rfl⟩ := rowz_form hown; have H5 := Lib.hid (H4.out.app HC.out hown hmod); have q5 := H5.out.q; obtain ⟨zq, cq, fq⟩ := id q5; clear hown hmod hwh hsl q5))
            refine (right_c O.length SA5 SC5 (mx O) w5 (by omega) (reads_rowS H5.out.row)).mono ?_
            rintro e w6 ⟨d, rfl, hd, hb6⟩
            have hB5 := HBE.out _ H5.out.md
            have hB6 : Below w.heap.size w w6 := hB5.trans (hb6.mono hB5.size)
            have HO6 := Lib.hid ((reads_rowS H5.out.row).below hb6)
            have HNO := Lib.hid (nil_rowS H5.out.row)
            have HFR : Hid (∀ x, SA5 = some x → w.heap.size ≤ x.block) := Lib.hid (fun x e => Nat.le_trans HWS.out (row_lt H5.out.row (show (Value.slice SA5 O.length SC5).ownBlock = some x.block by rw [e]; rfl)).2)
            clear hB5 hb6 zq cq fq
            cases d with
            | false =>
              have HNA : Hid (ansF M1 n1 l = none) := Lib.hid (by rw [HXA.out, HOO.out]; exact ansV_no (fun h => by have := hd.2 (d_zero.1 h.1).2.1; cases this))
              clear hd
              go_wp2
              exact bodyPost_ret (v := .tuple #[.slice none 0 0, .iface 38 (.int .i64 3)]) (by simp [results, Try.results78, go_sem, *]) rfl ⟨.inr (.inl ⟨HY1.out, HNA.out, rfl⟩), hB6⟩
            | true =>
              clear hd
              go_wp2_with fail
              refine (delta_d n1 O.length A1 SA5 cap1 SC5 M1 (mx O) w6 (by omega) (by omega) (HR1.out.below hB6) HO6.out).mono ?_
              rintro e w7 ⟨v7, A7, c7, rfl, hv7, hr7, hb7⟩
              subst hv7
              have hB7 : Below w.heap.size w w7 := hB6.trans (hb7.mono hB6.size)
              have HO7 := Lib.hid (HO6.out.below hb7)
              obtain ⟨N, hN⟩ : ∃ N, N = dN M1 n1 (mx O) O.length := ⟨_, rfl⟩
              obtain ⟨L, hL⟩ : ∃ L, L = dL M1 n1 (mx O) O.length := ⟨_, rfl⟩
              have HL8 : Hid ((∀ b ∈ L, b < 256) ∧ L.length ≤ 1000000) := Lib.hid (by rw [hL]; exact ⟨dL_lt _ _ _ _, dL_len _ _ _ _⟩)
              rw [← hL] at hr7
              rw [← hL, ← hN]
              have HL := Lib.hid hL
              have HN := Lib.hid hN
              clear hL hN hb7 hB6 HO6
              by_cases hN0 : N = 0
              · have HN0 := Lib.hid hN0
                subst hN0
                rw [errV_0]
                go_wp2_with fail
                refine (equal_c _ _ L l _ hr7 (Rdb.of_src (HSR.out.below hB7)) HL8.out.2 (by omega) HL8.out.1 H8.out).mono ?_
                rintro e w8 ⟨⟨b, rfl, hb⟩, hb8⟩
                have hB8 : Below w.heap.size w w8 := hB7.trans (hb8.mono hB7.size)
                have HO8 := Lib.hid (HO7.out.below hb8)
                clear hb8 hB7 hr7 HO7
                cases b with
                | false =>
                  have HNA : Hid (ansF M1 n1 l = none) := Lib.hid (by rw [HXA.out, HOO.out]; exact ansV_no (fun h => by have := hb.2 (by rw [HL.out]; exact h.2); cases this))
                  clear hb
                  go_wp2
                  exact bodyPost_ret (v := .tuple #[.slice none 0 0, .iface 38 (.int .i64 3)]) (by simp [results, Try.results78, go_sem, *]) rfl ⟨.inr (.inl ⟨HY1.out, HNA.out, rfl⟩), hB8⟩
                | true =>
                  have HYA : Hid (ansF M1 n1 l = some O) := Lib.hid (by rw [HXA.out, HOO.out]; exact ansV_yes ⟨HN.out.symm, by rw [← HL.out]; exact hb.1 rfl⟩)
                  clear hb
                  go_wp2
                  exact bodyPost_ret (v := .tuple #[.slice SA5 O.length SC5, .nilIface]) (by simp [results, Try.results78, go_sem, *]) rfl ⟨.inr (.inr ⟨HY1.out, O, SA5, SC5, HYA.out, rfl, HNO.out.1, HNO.out.2, HO8.out, HFR.out⟩), hB8⟩
              · have HNA : Hid (ansF M1 n1 l = none) := Lib.hid (by rw [HXA.out, HOO.out]; exact ansV_no (fun h => hN0 (by rw [HN.out]; exact h.1)))
                rw [errV_n hN0]
                clear hN0 hr7
                go_wp2
                exact bodyPost_ret (v := .tuple #[.slice none 0 0, .iface 38 (.int .i64 3)]) (by simp [results, Try.results78, go_sem, *]) rfl ⟨.inr (.inl ⟨HY1.out, HNA.out, rfl⟩), hB7⟩
        · have dg3 : (gn == 3) = false := by simpa using hg3
          obtain ⟨dn, de, da, hd⟩ : ∃ n e a', varD (openL l) ga = (n, e, a') := ⟨_, _, _, rfl⟩
          go_wp2_with fail
          by_cases hde : de = 0
          · subst hde
            refine (rdet_of (varD_c B0 P ga rv l _ H4.out.rr.rd) hd (ev := .nilIface) rfl).mono ?_
            rintro e w5 ⟨rfl, hRd5, hM5⟩
            have H5 := Lib.hid (H4.out.var HC.out hRd5 hM5)
            have hdv := varD_ge hd
            have hda8 : da ≤ 8 * l.length := hRd5.le
            have HDV := Lib.hid hd
            clear hRd5 hM5 H4 hd zq cq fq
            by_cases hdn : 1099511627776 < dn
            · have HXN : Hid (X = none) := Lib.hid (by rw [← HX.out]; exact F_var HG.out hg3 HDV.out (.inr hdn))
              have d40 : decide (1099511627776 < dn) = true := decide_eq_true hdn
              clear hdn
              as_aux_lemma =>
                go_wp2
                exact bodyPost_ret (v := .tuple #[.slice none 0 0, .iface 38 (.int .i64 3)]) (by simp [results, Try.results78, go_sem, *]) rfl ⟨.inr (.inl ⟨HY1.out, (by rw [HXA.out, HXN.out]; rfl), rfl⟩), HBE.out _ H5.out.md⟩
            · have d40 : decide (1099511627776 < dn) = false := decide_eq_false hdn
              obtain ⟨now, hnow⟩ : ∃ now, now = last + (dn + 1) := ⟨_, rfl⟩
              have HNOW := Lib.hid hnow
              have hn0 : 0 ≤ now ∧ now ≤ da * 1099511627777 := by omega
              obtain ⟨w5', hw5⟩ : ∃ w5', w5' = w5 := ⟨_, rfl⟩
              have H5' : Hid (St w3 w5' B0 P Q rv l da false SA R.length SC (rowsS R)) := Lib.hid (by rw [hw5]; exact H5.out)
              rw [← hw5]
              clear hw5 H5
              go_wp2
              rw [show last + (dn + 1) = now from hnow.symm]
              clear hnow
              go_loopw [7, 9] (fun tv ti wx => ∃ (i2 : Nat) (R2 : List Sn) (SA2 : Option Addr) (SC2 : Nat), i ≤ i2 ∧ i2 ≤ n1 ∧ ti = .int .i64 i2 ∧ tv = .slice SA2 R2.length SC2 ∧ R2 ++ lowR now ((rowsOf M1 n1).drop i2) = R ++ lowR now ((rowsOf M1 n1).drop i) ∧ highR now ((rowsOf M1 n1).drop i2) = highR now ((rowsOf M1 n1).drop i) ∧ R2.length ≤ 60 + i2 ∧ St w3 wx B0 P Q rv l da false SA2 R2.length SC2 (rowsS R2)) (fun _ ti _ => n1 - (intOf ti).toNat)
              case atStart => exact ⟨i, R, SA, SC, by omega, hi, rfl, rfl, rfl, rfl, by omega, H5'.out⟩
              case round =>
                obtain ⟨i2, R2, SA2, SC2, hi2, hi2n, rfl, rfl, hlow, hhigh, hR2l, hSt⟩ := hrel
                have HLO := Lib.hid hlow
                have HHI := Lib.hid hhigh
                have H5 := Lib.hid hSt
                clear hlow hhigh hSt H5'
                by_cases hin : i2 < n1
                · have hrd := HR1.out.below (HBE.out _ H5.out.md)
                  obtain ⟨bA, oA, rfl, hbA, hcA⟩ := hrd (by omega)
                  have hcell : ∀ j, j < 11 → wr.cell? ⟨bA, oA + i2 * 11 + j, none⟩ = some (.int .i64 (M1 i2 j)) := fun j hj => by rw [Nat.add_assoc]; exact hcA i2 hin j hj
                  have a0 : wr.cell? ⟨bA, oA + i2 * 11, none⟩ = some (.int .i64 (M1 i2 0)) := hcell 0 (by decide)
                  have HCE := Lib.hid hcell
                  have hdr := drop_rows M1 hin
                  clear hcell hcA hrd
                  by_cases hlt : M1 i2 0 < now
                  · have dlt : decide (M1 i2 0 < now) = true := decide_eq_true hlt
                    have hlc := low_cons (now := now) (r := snOf M1 i2) (t := (rowsOf M1 n1).drop (i2 + 1)) hlt
                    have HLO2 : Hid (R2 ++ [snOf M1 i2] ++ lowR now ((rowsOf M1 n1).drop (i2 + 1)) = R ++ lowR now ((rowsOf M1 n1).drop i)) := Lib.hid (by rw [← HLO.out, hdr, hlc.1]; simp)
                    have HHI2 : Hid (highR now ((rowsOf M1 n1).drop (i2 + 1)) = highR now ((rowsOf M1 n1).drop i)) := Lib.hid (by rw [← HHI.out, hdr, hlc.2])
                    clear hlt hlc hdr HLO HHI
                    go_wp2_with (first | (refine wp_seenS HCE.out rfl (.tmp 72) rfl rfl ?_) | (at_builtin; go_must (refine app_one rfl (.tmp 69) (.tmp 74) 28 rfl Try.underlying28 seenInfoS rfl (by decide) (by decide) w3.heap.size (.slice SA2 R2.length SC2) R2.length (rowsS R2) rfl H5.out.row (snL (snOf M1 i2)) rfl (by simp) rfl (snL_one (snOf M1 i2)) (by omega) H5.out.le ?_; intro g' c' w6 hown hmod hwh hbg;  have H6 := Lib.hid (St.app (SA' := some ⟨g', 0, none⟩) (n' := (R2 ++ [snOf M1 i2]).length) (SC' := c') (xs' := rowsS (R2 ++ [snOf M1 i2])) H5.out HC.out (by rw [rowsS_snoc, len_snoc]; exact hown) hmod); clear hown hmod hwh hbg a0)))
                    go_roundw
                    case rel => exact ⟨i2 + 1, R2 ++ [snOf M1 i2], some ⟨g', 0, none⟩, c', by omega, by omega, by go_num, by simp, HLO2.out, HHI2.out, by simp; omega, H6.out⟩
                    case measure => simp [intOf]; omega
                  · have dlt : decide (M1 i2 0 < now) = false := decide_eq_false hlt
                    have hls := low_stop (now := now) (r := snOf M1 i2) (t := (rowsOf M1 n1).drop (i2 + 1)) hlt
                    have HLOW : Hid (R ++ lowR now ((rowsOf M1 n1).drop i) = R2) := Lib.hid (by rw [← HLO.out, hdr, hls.1, List.append_nil])
                    have HHIR : Hid (highR now ((rowsOf M1 n1).drop i) = snOf M1 i2 :: (rowsOf M1 n1).drop (i2 + 1)) := Lib.hid (by rw [← HHI.out, hdr, hls.2])
                    have HHIGH : Hid (highR now ((rowsOf M1 n1).drop i) = (rowsOf M1 n1).drop i2) := Lib.hid (by rw [HHIR.out, hdr])
                    clear hls hdr HLO HHI hlt
                    by_cases heq : M1 i2 0 = now
                    · have deq : (M1 i2 0 == now) = true := by simpa using heq
                      have HEQ : Hid ((snOf M1 i2).id = now) := Lib.hid heq
                      clear heq
                      by_cases hg1 : gn = 1
                      · have dg1 : (gn != 1) = false := by simpa using hg1
                        have HXN : Hid (X = none) := Lib.hid (by rw [← HX.out]; have h1 := HG.out; rw [hg1] at h1; exact F_dup (r := snOf M1 i2) (t := (rowsOf M1 n1).drop (i2 + 1)) h1 HDV.out (by omega) (by rw [← HNOW.out]; exact HHIR.out) (by rw [← HNOW.out]; exact HEQ.out))
                        as_aux_lemma =>
                          go_wp2
                          exact bodyPost_ret (v := .tuple #[.slice none 0 0, .iface 38 (.int .i64 3)]) (by simp [results, Try.results78, go_sem, *]) rfl ⟨.inr (.inl ⟨HY1.out, (by rw [HXA.out, HXN.out]; rfl), rfl⟩), HBE.out _ H5.out.md⟩
                      · have dg1 : (gn != 1) = true := by simpa using hg1
                        by_cases hg0 : gn = 0
                        · have dg0 : (gn == 0) = true := by simpa using hg0
                          have HXS : Hid (applyF (openL l) g da R2 ((rowsOf M1 n1).drop (i2 + 1)) now = X) := Lib.hid (by
                            rw [← HX.out, HNOW.out]
                            have h1 := HG.out
                            rw [hg0] at h1
                            exact (F_gone (O := R2) (r := snOf M1 i2) (t := (rowsOf M1 n1).drop (i2 + 1)) h1 HDV.out (by omega) (by rw [← HNOW.out]; exact HLOW.out) (by rw [← HNOW.out]; exact HHIR.out) (by rw [← HNOW.out]; exact HEQ.out)).symm)
                          as_aux_lemma =>
                            go_wp2
                            go_roundw
                            case rel =>
                              have H6 := H5.out.below (balloc _ (.cells #[.int .i64 now, .int .i64 0, .int .i64 0, .int .i64 0, .int .i64 0, .int .i64 0, .int .i64 0, .int .i64 0, .int .i64 0, .int .i64 0, .int .i64 0] 106))
                              exact ⟨i2 + 1, da, g, now, R2, SA2, SC2, by omega, by go_num, by go_num, rfl, by omega, HXS.out, by omega, by omega, hda8, by omega, H6.rr, H6.row, H6.md⟩
                            case measure => rw [posOf_rd (H5.out.below (balloc _ _)).rr.rd, posOf_rd HRR.out.rd]; omega
                        · have dg0 : (gn == 0) = false := by simpa using hg0
                          have dg2 : (gn == 2) = true := by simp; omega
                          have dg1' : (gn == 1) = false := by simpa using hg1
                          obtain ⟨w5, hw5⟩ : ∃ w5, w5 = wr := ⟨_, rfl⟩
                          rw [← hw5] at H5 HCE hbA a0
                          rw [← hw5]
                          clear hw5
                          have HCEa : Hid (∀ o j, j < 11 → (w5.alloc o).cell? ⟨bA, oA + i2 * 11 + j, none⟩ = some (.int .i64 (M1 i2 j))) := Lib.hid (fun o j hj => ((balloc w5 o).cell (p := ⟨bA, oA + i2 * 11 + j, none⟩) hbA).trans (HCE.out j hj))
                          go_upto_region 26 with fail
                          go_upto_region 27 with (refine wp_seenS (HCEa.out _) rfl (.tmp 125) rfl rfl ?_)
                          go_wp2_with fail
                          clear a0 HCEa
                          obtain ⟨n, hn⟩ : ∃ n, changeR (openL l) (snOf M1 i2) (da, false) = n := ⟨_, rfl⟩
                          refine calls_fresh ?_
                          rintro w7 hb7
                          have s7 : Blk w7 w5.heap.size #[.int .i64 (M1 i2 0), .int .i64 (M1 i2 1), .int .i64 (M1 i2 2), .int .i64 (M1 i2 3), .int .i64 (M1 i2 4), .int .i64 (M1 i2 5), .int .i64 (M1 i2 6), .int .i64 (M1 i2 7), .int .i64 (M1 i2 8), .int .i64 (M1 i2 9), .int .i64 (M1 i2 10)] := Blk.below (by repeat (with_reducible (first | assumption | (apply Blk.at; simp; done) | apply Blk.alloc | apply Blk.drew | apply Blk.drewN | apply Blk.more | apply Blk.put | (apply Blk.far; focus (first | assumption | (apply Ne.symm; assumption) | (simp; done) | (simp <;> omega)))))) hb7
                          have hv7 : Below w5.heap.size w5 w7 := (by repeat (with_reducible (first | exact Below.refl _ _ | assumption | apply ext_drew | apply ext_drewN | apply ext_alloc | apply ext_more | (refine ext_setCell ?_ (by first | assumption | (simp <;> omega)) _) | (refine ext_below ?_ (by assumption)))))
                          have H7 := Lib.hid (H5.out.below hv7)
                          have HSW : Hid (w3.heap.size ≤ w5.heap.size ∧ (Value.slice SA2 R2.length SC2).ownBlock ≠ some w5.heap.size) := Lib.hid ⟨H5.out.le, H5.out.own (Nat.le_refl _)⟩
                          obtain ⟨s, hs⟩ : ∃ s, s = w5.heap.size := ⟨_, rfl⟩
                          rw [← hs] at s7 HSW
                          rw [← hs]
                          have hsne : s ≠ P ∧ s ≠ Q := by have := HC.out.p; have := HC.out.q; have := HSW.out.1; omega
                          have HSO : Hid (rv.ownBlock ≠ some s) := Lib.hid (fun e => by have := HC.out.d _ e; have := HSW.out.1; omega)
                          obtain ⟨hsp, hsq⟩ := hsne
                          clear hs hb7 hv7 H5
                          refine (schanged_c B0 P Q s (da, false) rv l (snOf M1 i2) n w7 hn H7.out.rr s7 hsp hsq HSO.out (in62_row (HY1.out.row hin).2)).mono ?_
                          rintro e w10 ⟨rfl, s11', hR10, hM10⟩
                          have H10 := Lib.hid (H7.out.change HC.out HSW.out.1 HSW.out.2 hR10 hM10)
                          have s11 : Blk w10 s (snL n.1) := s11'
                          have HFX : Hid (X = if n.2.2 = true ∨ 60 < R2.length + 1 then none else applyF (openL l) g n.2.1 (R2 ++ [n.1]) ((rowsOf M1 n1).drop (i2 + 1)) now) := Lib.hid (by
                            rw [← HX.out, HNOW.out]
                            exact F_chg (O := R2) (r := snOf M1 i2) (t := (rowsOf M1 n1).drop (i2 + 1)) HG.out hg3 hg1 hg0 HDV.out (by omega) (by rw [← HNOW.out]; exact HLOW.out) (by rw [← HNOW.out]; exact HHIR.out) (by rw [← HNOW.out]; exact HEQ.out) hn)
                          have HADV : Hid (da ≤ n.2.1 ∧ n.2.1 ≤ 8 * l.length) := Lib.hid ⟨by have := changeR_adv (openL l) (snOf M1 i2) (da, false); rw [hn] at this; exact this, H10.out.rr.rd.le⟩
                          clear hn hR10 hM10 H7 s7 s11'
                          go_upto_region 29 with fail
                          have s12 := s11
                          unfold snL at s12
                          obtain ⟨zs, cs, fs⟩ := id s12
                          have HSN : Hid ((#[.int .i64 n.1.id, .int .i64 n.1.kd, .int .i64 n.1.s1, .int .i64 n.1.s2, .int .i64 n.1.s3, .int .i64 n.1.a1, .int .i64 n.1.a2, .int .i64 n.1.a3, .int .i64 n.1.v1, .int .i64 n.1.v2, .int .i64 n.1.v3] : Array Value) = snL n.1) := Lib.hid rfl
                          obtain ⟨fl, hfl⟩ : ∃ fl, fl = n.2.2 := ⟨_, rfl⟩
                          rw [← hfl] at H10
                          have HFL := Lib.hid hfl
                          clear hfl s11 s12
                          have qA := H10.out.q
                          cases fl with
                          | true =>
                            have HXN : Hid (X = none) := Lib.hid (by rw [HFX.out, if_pos (.inl HFL.out.symm)])
                            go_wp2_with (at_builtin; go_must (refine app_one rfl (.tmp 131) (.tmp 133) 28 rfl Try.underlying28 seenInfoS rfl (by decide) (by decide) w3.heap.size (.slice SA2 R2.length SC2) R2.length (rowsS R2) rfl H10.out.row (snL n.1) rfl (by simp) rfl (snL_one n.1) (by omega) H10.out.le ?_; intro g' c' w11 hown hmod hwh hbg;  have H11 := Lib.hid (St.app (SA' := some ⟨g', 0, none⟩) (n' := (R2 ++ [n.1]).length) (SC' := c') (xs' := rowsS (R2 ++ [n.1])) H10.out HC.out (by rw [rowsS_snoc, len_snoc]; exact hown) hmod); have q11 := H11.out.q; obtain ⟨zq, cq, fq⟩ := id q11; clear hown hmod hwh hbg q11 qA zs cs fs))
                            exact bodyPost_ret (v := .tuple #[.slice none 0 0, .iface 38 (.int .i64 3)]) (by simp [results, Try.results78, go_sem, *]) rfl ⟨.inr (.inl ⟨HY1.out, (by rw [HXA.out, HXN.out]; rfl), rfl⟩), HBE.out _ H11.out.md⟩
                          | false =>
                            go_cut [7] (fun tv wx => ∃ SA4 SC4, tv = .slice SA4 (R2 ++ [n.1]).length SC4 ∧ St w3 wx B0 P Q rv l n.2.1 false SA4 (R2 ++ [n.1]).length SC4 (rowsS (R2 ++ [n.1])))
                            case first =>
                              go_wp2_with (at_builtin; go_must (refine app_one rfl (.tmp 131) (.tmp 133) 28 rfl Try.underlying28 seenInfoS rfl (by decide) (by decide) w3.heap.size (.slice SA2 R2.length SC2) R2.length (rowsS R2) rfl H10.out.row (snL n.1) rfl (by simp) rfl (snL_one n.1) (by omega) H10.out.le ?_; intro g' c' w11 hown hmod hwh hbg;  have H11 := Lib.hid (St.app (SA' := some ⟨g', 0, none⟩) (n' := (R2 ++ [n.1]).length) (SC' := c') (xs' := rowsS (R2 ++ [n.1])) H10.out HC.out (by rw [rowsS_snoc, len_snoc]; exact hown) hmod); clear hown hmod hwh hbg qA zs cs fs))
                              go_meet
                              exact ⟨_, c', by simp, H11.out⟩
                            case rest =>
                              obtain ⟨SA4, SC4, rfl, h11⟩ := hcut
                              have H11 := Lib.hid h11
                              have q11 := h11.q
                              obtain ⟨zq, cq, fq⟩ := id q11
                              have hRl : (R2 ++ [n.1]).length = R2.length + 1 := by simp
                              rw [hRl]
                              rw [hRl] at H11
                              clear h11 q11 zs cs fs qA
                              by_cases h60' : 60 < R2.length + 1
                              · have HXN : Hid (X = none) := Lib.hid (by rw [HFX.out, if_pos (.inr h60')])
                                have d60 : decide (60 < ((R2.length + 1 : Nat) : Int)) = true := decide_eq_true (by omega)
                                have d60' : decide (60 < ((R2.length : Nat) : Int) + 1) = true := decide_eq_true (by omega)
                                go_wp2
                                exact bodyPost_ret (v := .tuple #[.slice none 0 0, .iface 38 (.int .i64 3)]) (by simp [results, Try.results78, go_sem, *]) rfl ⟨.inr (.inl ⟨HY1.out, (by rw [HXA.out, HXN.out]; rfl), rfl⟩), HBE.out _ H11.out.md⟩
                              · have HXS : Hid (applyF (openL l) g n.2.1 (R2 ++ [n.1]) ((rowsOf M1 n1).drop (i2 + 1)) now = X) := Lib.hid (by rw [HFX.out, if_neg (by rintro (h | h); rw [← HFL.out] at h; cases h; exact h60' h)])
                                have d60 : decide (60 < ((R2.length + 1 : Nat) : Int)) = false := decide_eq_false (by omega)
                                have d60' : decide (60 < ((R2.length : Nat) : Int) + 1) = false := decide_eq_false (by omega)
                                go_wp2
                                go_roundw
                                case rel => exact ⟨(i2 + 1), n.2.1, g, now, R2 ++ [n.1], SA4, SC4, by omega, by go_num, by go_num, by rw [hRl], by have := HADV.out; omega, HXS.out, by omega, by have := HADV.out; omega, HADV.out.2, by rw [hRl]; omega, H11.out.rr, by rw [hRl]; exact H11.out.row, H11.out.md⟩
                                case measure => rw [posOf_rd H11.out.rr.rd, posOf_rd HRR.out.rd]; have := HADV.out; omega
                    · have deq : (M1 i2 0 == now) = false := by simpa using heq
                      have HNROW : Hid (NoRow now ((rowsOf M1 n1).drop i2)) := Lib.hid (fun r t h => by rw [drop_rows M1 hin] at h; cases h; exact heq)
                      clear heq HHIR
                      by_cases hg1 : gn = 1
                      · have dg1 : (gn != 1) = false := by simpa using hg1
                        obtain ⟨w5, hw5⟩ : ∃ w5, w5 = wr := ⟨_, rfl⟩
                        rw [← hw5] at H5 a0
                        rw [← hw5]
                        clear hw5
                        go_wp2_with fail
                        refine calls_fresh ?_
                        rintro w6 hb6
                        have s6 : Blk w6 w5.heap.size #[.int .i64 now, .int .i64 0, .int .i64 0, .int .i64 0, .int .i64 0, .int .i64 0, .int .i64 0, .int .i64 0, .int .i64 0, .int .i64 0, .int .i64 0] := Blk.below (by repeat (with_reducible (first | assumption | (apply Blk.at; simp; done) | apply Blk.alloc | apply Blk.drew | apply Blk.drewN | apply Blk.more | apply Blk.put | (apply Blk.far; focus (first | assumption | (apply Ne.symm; assumption) | (simp; done) | (simp <;> omega)))))) hb6
                        have hv6 : Below w5.heap.size w5 w6 := (by repeat (with_reducible (first | exact Below.refl _ _ | assumption | apply ext_drew | apply ext_drewN | apply ext_alloc | apply ext_more | (refine ext_setCell ?_ (by first | assumption | (simp <;> omega)) _) | (refine ext_below ?_ (by assumption)))))
                        have H6 := Lib.hid (H5.out.below hv6)
                        have HSW : Hid (w3.heap.size ≤ w5.heap.size ∧ (Value.slice SA2 R2.length SC2).ownBlock ≠ some w5.heap.size) := Lib.hid ⟨H5.out.le, H5.out.own (Nat.le_refl _)⟩
                        obtain ⟨s, hs⟩ : ∃ s, s = w5.heap.size := ⟨_, rfl⟩
                        rw [← hs] at s6 HSW
                        rw [← hs]
                        have hsne : s ≠ P ∧ s ≠ Q := by have := HC.out.p; have := HC.out.q; have := HSW.out.1; omega
                        have HSO : Hid (rv.ownBlock ≠ some s) := Lib.hid (fun e => by have := HC.out.d _ e; have := HSW.out.1; omega)
                        obtain ⟨hsp, hsq⟩ := hsne
                        clear hs hb6 hv6 H5
                        obtain ⟨zs, cs, fs⟩ := id s6
                        obtain ⟨r1, hr1⟩ : ∃ r, rG (openL l) 3 (da, false) = r := ⟨_, rfl⟩
                        refine (sput_c B0 P Q (da, false) rv l 3 r1 w6 hr1 H6.out.rr).mono ?_
                        rintro e w7 ⟨rfl, hR7, hM7⟩
                        have H7 := Lib.hid (H6.out.read HC.out hR7 hM7)
                        have s7 := s6.mod hM7 (by omega)
                        have HR1' := Lib.hid hr1
                        clear hR7 hM7 H6 s6 zs cs fs hr1
                        obtain ⟨zs, cs, fs⟩ := id s7
                        go_wp2
                        refine wp_fresh ?_
                        rintro w8 hb8
                        have s8 : Blk w8 s _ := Blk.below (by repeat (with_reducible (first | assumption | (apply Blk.at; simp; done) | apply Blk.alloc | apply Blk.drew | apply Blk.drewN | apply Blk.more | apply Blk.put | (apply Blk.far; focus (first | assumption | (apply Ne.symm; assumption) | (simp; done) | (simp <;> omega)))))) hb8
                        try simp only [List.setIfInBounds_toArray, List.set_cons_zero, List.set_cons_succ] at s8
                        have hS8 : Mod (· = s) w7 w8 := Mod.below ((Mod.refl (· = s) w7).set (.inl rfl)) hb8
                        have H8' := Lib.hid (H7.out.write HC.out HSW.out.1 HSW.out.2 hS8)
                        clear hb8 hS8 H7 s7 zs cs fs
                        obtain ⟨r2, hr2⟩ : ∃ r, v3R (openL l) 0 0 0 r1.2 = r := ⟨_, rfl⟩
                        obtain ⟨r3, hr3⟩ : ∃ r, v3R (openL l) 0 0 0 r2.2 = r := ⟨_, rfl⟩
                        obtain ⟨r4, hr4⟩ : ∃ r, v3R (openL l) 0 0 0 r3.2 = r := ⟨_, rfl⟩
                        have HR2' := Lib.hid hr2
                        have HR3' := Lib.hid hr3
                        have HR4' := Lib.hid hr4
                        have h8d : St w3 w8.drew B0 P Q rv l r1.2.1 r1.2.2 SA2 R2.length SC2 (rowsS R2) := H8'.out.below (ext_drew (Below.refl _ _))
                        have hmm0 : Mod (fun b => b = P ∨ b = Q) w8 w8.drew := (Mod.refl _ _).drew
                        have QQ : Hid (∀ wx, Mod (fun b => b = P ∨ b = Q) w8 wx → ∀ o, wx.cell? ⟨s, o, none⟩ = (#[.int .i64 now, .int .i64 r1.1, .int .i64 0, .int .i64 0, .int .i64 0, .int .i64 0, .int .i64 0, .int .i64 0, .int .i64 0, .int .i64 0, .int .i64 0] : Array Value)[o]?) := Lib.hid (fun wx hm o => (hm.cell s8.lt (by omega)).trans (s8.cell o))
                        clear H8' hr2 hr3 hr4
                        refine region_held_tail (fun w' => ∀ o, w'.cell? ⟨s, o, none⟩ = (#[.int .i64 now, .int .i64 r1.1, .int .i64 0, .int .i64 0, .int .i64 0, .int .i64 0, .int .i64 0, .int .i64 0, .int .i64 0, .int .i64 0, .int .i64 0] : Array Value)[o]?) 12 (by kernel_rfl) (by kernel_rfl) (QQ.out _ hmm0) (fun hHeld => ?_)
                        simp only [List.take_succ_cons, List.take_zero]
                        refine wpAnyH_take (i := 0) (v := ?vnw1_0) rfl (by kernel_rfl) (by kernel_rfl) (by kernel_rfl) (fun _ _ _ h => h) (Or.inl ⟨by kernel_rfl, ?ynw1_0⟩) hHeld ?rnw1_0
                        case ynw1_0 =>
                          intro w hSw
                          try dsimp only at hSw
                          obtain e0 := hSw
                          go_simp
                          try with_reducible rfl
                        try simp only [Act.put, List.setIfInBounds_toArray]
                        refine wpAnyH_take (i := 1) (v := ?vnw1_1) rfl (by kernel_rfl) (by kernel_rfl) (by kernel_rfl) (fun _ _ _ h => h) (Or.inl ⟨by kernel_rfl, ?ynw1_1⟩) hHeld ?rnw1_1
                        case ynw1_1 =>
                          intro w hSw
                          try dsimp only at hSw
                          obtain e0 := hSw
                          go_simp
                          try with_reducible rfl
                        try simp only [Act.put]
                        refine wpAnyH_take (i := 2) (v := ?vnw1_2) rfl (by kernel_rfl) (by kernel_rfl) (by kernel_rfl) (fun _ _ _ h => h) (Or.inl ⟨by kernel_rfl, ?ynw1_2⟩) hHeld ?rnw1_2
                        case ynw1_2 =>
                          intro w hSw
                          try dsimp only at hSw
                          obtain e0 := hSw
                          go_simp
                          try with_reducible rfl
                        try simp only [Act.put]
                        refine wpAnyH_take (i := 4) (v := ?vnw1_4) rfl (by kernel_rfl) (by kernel_rfl) (by kernel_rfl) (fun _ _ _ h => h) (Or.inl ⟨by kernel_rfl, ?ynw1_4⟩) hHeld ?rnw1_4
                        case ynw1_4 =>
                          intro w hSw
                          try dsimp only at hSw
                          obtain e0 := hSw
                          go_simp
                          try with_reducible rfl
                        try simp only [Act.put]
                        refine wpAnyH_take (i := 5) (v := ?vnw1_5) rfl (by kernel_rfl) (by kernel_rfl) (by kernel_rfl) (fun _ _ _ h => h) (Or.inl ⟨by kernel_rfl, ?ynw1_5⟩) hHeld ?rnw1_5
                        case ynw1_5 =>
                          intro w hSw
                          try dsimp only at hSw
                          obtain e0 := hSw
                          go_simp
                          try with_reducible rfl
                        try simp only [Act.put]
                        refine wpAnyH_take (i := 6) (v := ?vnw1_6) rfl (by kernel_rfl) (by kernel_rfl) (by kernel_rfl) (fun _ _ _ h => h) (Or.inl ⟨by kernel_rfl, ?ynw1_6⟩) hHeld ?rnw1_6
                        case ynw1_6 =>
                          intro w hSw
                          try dsimp only at hSw
                          obtain e0 := hSw
                          go_simp
                          try with_reducible rfl
                        try simp only [Act.put]
                        refine wpAnyH_take (i := 8) (v := ?vnw1_8) rfl (by kernel_rfl) (by kernel_rfl) (by kernel_rfl) (fun _ _ _ h => h) (Or.inl ⟨by kernel_rfl, ?ynw1_8⟩) hHeld ?rnw1_8
                        case ynw1_8 =>
                          intro w hSw
                          try dsimp only at hSw
                          obtain e0 := hSw
                          go_simp
                          try with_reducible rfl
                        try simp only [Act.put]
                        refine wpAnyH_take (i := 9) (v := ?vnw1_9) rfl (by kernel_rfl) (by kernel_rfl) (by kernel_rfl) (fun _ _ _ h => h) (Or.inl ⟨by kernel_rfl, ?ynw1_9⟩) hHeld ?rnw1_9
                        case ynw1_9 =>
                          intro w hSw
                          try dsimp only at hSw
                          obtain e0 := hSw
                          go_simp
                          try with_reducible rfl
                        try simp only [Act.put]
                        refine wpAnyH_take (i := 10) (v := ?vnw1_10) rfl (by kernel_rfl) (by kernel_rfl) (by kernel_rfl) (fun _ _ _ h => h) (Or.inl ⟨by kernel_rfl, ?ynw1_10⟩) hHeld ?rnw1_10
                        case ynw1_10 =>
                          intro w hSw
                          try dsimp only at hSw
                          obtain e0 := hSw
                          go_simp
                          try with_reducible rfl
                        try simp only [Act.put]
                        refine wpAnyH_ready (rs := [3]) (by kernel_rfl) (by simp) ?_
                        refine AllReadyH.cons (o := _) rfl (fun K hK => ?_) AllReadyH.nil
                        go_simp
                        refine (svec_c B0 P Q r1.2 rv l 0 0 0 r2 _ HR2'.out h8d.rr in62_0 in62_0 in62_0).mono ?_
                        rintro e wv2 ⟨rfl, hRv2, hMv2⟩
                        have hv2 := h8d.read HC.out hRv2 hMv2
                        have hmm2 := hmm0.trans hMv2
                        try dsimp only
                        refine hK.out _ _ ?_ (fun hHeld => ?_)
                        · exact QQ.out _ hmm2
                        clear hK K
                        try simp only [Act.put, List.setIfInBounds_toArray, List.set_cons_zero, List.set_cons_succ]
                        refine wpAnyH_ready (rs := [7]) (by kernel_rfl) (by simp) ?_
                        refine AllReadyH.cons (o := _) rfl (fun K hK => ?_) AllReadyH.nil
                        go_simp
                        refine (svec_c B0 P Q r2.2 rv l 0 0 0 r3 _ HR3'.out hv2.rr in62_0 in62_0 in62_0).mono ?_
                        rintro e wv3 ⟨rfl, hRv3, hMv3⟩
                        have hv3 := hv2.read HC.out hRv3 hMv3
                        have hmm3 := hmm2.trans hMv3
                        try dsimp only
                        refine hK.out _ _ ?_ (fun hHeld => ?_)
                        · exact QQ.out _ hmm3
                        clear hK K
                        try simp only [Act.put, List.setIfInBounds_toArray, List.set_cons_zero, List.set_cons_succ]
                        refine wpAnyH_ready (rs := [11]) (by kernel_rfl) (by simp) ?_
                        refine AllReadyH.cons (o := _) rfl (fun K hK => ?_) AllReadyH.nil
                        go_simp
                        refine (svec_c B0 P Q r3.2 rv l 0 0 0 r4 _ HR4'.out hv3.rr in62_0 in62_0 in62_0).mono ?_
                        rintro e wv4 ⟨rfl, hRv4, hMv4⟩
                        have hv4 := hv3.read HC.out hRv4 hMv4
                        have hmm4 := hmm3.trans hMv4
                        try dsimp only
                        refine hK.out _ _ ?_ (fun hHeld => ?_)
                        · exact QQ.out _ hmm4
                        clear hK K
                        try simp only [Act.put, List.setIfInBounds_toArray, List.set_cons_zero, List.set_cons_succ]
                        refine wpAnyH_done (by kernel_rfl) ?_ _
                        clear hHeld
                        simp only [TailQ, List.drop_succ_cons, List.drop_zero]
                        have s9 := s8.mod hmm4 (by omega)
                        have H9 := Lib.hid hv4
                        clear hv2 hv3 hv4 hmm0 hmm2 hmm3 hmm4 h8d s8 QQ hRv2 hRv3 hRv4 hMv2 hMv3 hMv4
                        obtain ⟨zs, cs, fs⟩ := id s9
                        obtain ⟨w9, hw9⟩ : ∃ w9, w9 = wv4 := ⟨_, rfl⟩
                        rw [← hw9] at s9 H9 zs cs fs
                        rw [← hw9]
                        clear hw9
                        go_upto_region 29 with fail
                        refine wp_fresh ?_
                        rintro w10 hb10
                        have s10 : Blk w10 s _ := Blk.below (by repeat (with_reducible (first | assumption | (apply Blk.at; simp; done) | apply Blk.alloc | apply Blk.drew | apply Blk.drewN | apply Blk.more | apply Blk.put | (apply Blk.far; focus (first | assumption | (apply Ne.symm; assumption) | (simp; done) | (simp <;> omega)))))) hb10
                        try simp only [List.setIfInBounds_toArray, List.set_cons_zero, List.set_cons_succ] at s10
                        have hS10 : Mod (· = s) w9 w10 := Mod.below ((((((((((Mod.refl (· = s) w9).set (.inl rfl)).set (.inl rfl)).set (.inl rfl)).set (.inl rfl)).set (.inl rfl)).set (.inl rfl)).set (.inl rfl)).set (.inl rfl)).set (.inl rfl)) hb10
                        have H10 := Lib.hid (H9.out.write HC.out HSW.out.1 HSW.out.2 hS10)
                        obtain ⟨n, hn⟩ : ∃ n : Sn × (Nat × Bool), n = (⟨now, r1.1, r2.1.1, r2.1.2.1, r2.1.2.2, r3.1.1, r3.1.2.1, r3.1.2.2, r4.1.1, r4.1.2.1, r4.1.2.2⟩, r4.2) := ⟨_, rfl⟩
                        have HNN : Hid (newR (openL l) now (da, false) = n) := Lib.hid (by rw [hn]; unfold newR; simp only [HR1'.out, HR2'.out, HR3'.out, HR4'.out])
                        have HN1 : Hid (n.2 = r4.2) := Lib.hid (by rw [hn])
                        have s11 : Blk w10 s (snL n.1) := by rw [hn]; exact s10
                        have HFX : Hid (X = if n.2.2 = true ∨ 60 < R2.length + 1 then none else applyF (openL l) g n.2.1 (R2 ++ [n.1]) ((rowsOf M1 n1).drop i2) now) := Lib.hid (by
                          rw [← HX.out, HNOW.out]
                          have h1 := HG.out
                          rw [hg1] at h1
                          have h2 := HNN.out
                          rw [HNOW.out] at h2
                          exact F_new (O := R2) (D := (rowsOf M1 n1).drop i2) h1 HDV.out (by omega) (by rw [← HNOW.out]; exact HLOW.out) (by rw [← HNOW.out]; exact HHIGH.out) (by rw [← HNOW.out]; exact HNROW.out) h2)
                        rw [← HN1.out] at H10
                        have HADV : Hid (da ≤ n.2.1 ∧ n.2.1 ≤ 8 * l.length) := Lib.hid ⟨by have := newR_adv (openL l) now (da, false); rw [HNN.out] at this; exact this, H10.out.rr.rd.le⟩
                        clear hn hb10 hS10 H9 s9 s10 zs cs fs HR1' HR2' HR3' HR4' HN1 HNN
                        have s12 := s11
                        unfold snL at s12
                        obtain ⟨zs, cs, fs⟩ := id s12
                        have HSN : Hid ((#[.int .i64 n.1.id, .int .i64 n.1.kd, .int .i64 n.1.s1, .int .i64 n.1.s2, .int .i64 n.1.s3, .int .i64 n.1.a1, .int .i64 n.1.a2, .int .i64 n.1.a3, .int .i64 n.1.v1, .int .i64 n.1.v2, .int .i64 n.1.v3] : Array Value) = snL n.1) := Lib.hid rfl
                        obtain ⟨fl, hfl⟩ : ∃ fl, fl = n.2.2 := ⟨_, rfl⟩
                        rw [← hfl] at H10
                        have HFL := Lib.hid hfl
                        clear hfl s11 s12
                        have qA := H10.out.q
                        cases fl with
                        | true =>
                          have HXN : Hid (X = none) := Lib.hid (by rw [HFX.out, if_pos (.inl HFL.out.symm)])
                          go_wp2_with (at_builtin; go_must (refine app_one rfl (.tmp 131) (.tmp 133) 28 rfl Try.underlying28 seenInfoS rfl (by decide) (by decide) w3.heap.size (.slice SA2 R2.length SC2) R2.length (rowsS R2) rfl H10.out.row (snL n.1) rfl (by simp) rfl (snL_one n.1) (by omega) H10.out.le ?_; intro g' c' w11 hown hmod hwh hbg;  have H11 := Lib.hid (St.app (SA' := some ⟨g', 0, none⟩) (n' := (R2 ++ [n.1]).length) (SC' := c') (xs' := rowsS (R2 ++ [n.1])) H10.out HC.out (by rw [rowsS_snoc, len_snoc]; exact hown) hmod); have q11 := H11.out.q; obtain ⟨zq, cq, fq⟩ := id q11; clear hown hmod hwh hbg q11 qA zs cs fs))
                          exact bodyPost_ret (v := .tuple #[.slice none 0 0, .iface 38 (.int .i64 3)]) (by simp [results, Try.results78, go_sem, *]) rfl ⟨.inr (.inl ⟨HY1.out, (by rw [HXA.out, HXN.out]; rfl), rfl⟩), HBE.out _ H11.out.md⟩
                        | false =>
                          go_cut [7] (fun tv wx => ∃ SA4 SC4, tv = .slice SA4 (R2 ++ [n.1]).length SC4 ∧ St w3 wx B0 P Q rv l n.2.1 false SA4 (R2 ++ [n.1]).length SC4 (rowsS (R2 ++ [n.1])))
                          case first =>
                            go_wp2_with (at_builtin; go_must (refine app_one rfl (.tmp 131) (.tmp 133) 28 rfl Try.underlying28 seenInfoS rfl (by decide) (by decide) w3.heap.size (.slice SA2 R2.length SC2) R2.length (rowsS R2) rfl H10.out.row (snL n.1) rfl (by simp) rfl (snL_one n.1) (by omega) H10.out.le ?_; intro g' c' w11 hown hmod hwh hbg;  have H11 := Lib.hid (St.app (SA' := some ⟨g', 0, none⟩) (n' := (R2 ++ [n.1]).length) (SC' := c') (xs' := rowsS (R2 ++ [n.1])) H10.out HC.out (by rw [rowsS_snoc, len_snoc]; exact hown) hmod); clear hown hmod hwh hbg qA zs cs fs))
                            go_meet
                            exact ⟨_, c', by simp, H11.out⟩
                          case rest =>
                            obtain ⟨SA4, SC4, rfl, h11⟩ := hcut
                            have H11 := Lib.hid h11
                            have q11 := h11.q
                            obtain ⟨zq, cq, fq⟩ := id q11
                            have hRl : (R2 ++ [n.1]).length = R2.length + 1 := by simp
                            rw [hRl]
                            rw [hRl] at H11
                            clear h11 q11 zs cs fs qA
                            by_cases h60' : 60 < R2.length + 1
                            · have HXN : Hid (X = none) := Lib.hid (by rw [HFX.out, if_pos (.inr h60')])
                              have d60 : decide (60 < ((R2.length + 1 : Nat) : Int)) = true := decide_eq_true (by omega)
                              have d60' : decide (60 < ((R2.length : Nat) : Int) + 1) = true := decide_eq_true (by omega)
                              go_wp2
                              exact bodyPost_ret (v := .tuple #[.slice none 0 0, .iface 38 (.int .i64 3)]) (by simp [results, Try.results78, go_sem, *]) rfl ⟨.inr (.inl ⟨HY1.out, (by rw [HXA.out, HXN.out]; rfl), rfl⟩), HBE.out _ H11.out.md⟩
                            · have HXS : Hid (applyF (openL l) g n.2.1 (R2 ++ [n.1]) ((rowsOf M1 n1).drop i2) now = X) := Lib.hid (by rw [HFX.out, if_neg (by rintro (h | h); rw [← HFL.out] at h; cases h; exact h60' h)])
                              have d60 : decide (60 < ((R2.length + 1 : Nat) : Int)) = false := decide_eq_false (by omega)
                              have d60' : decide (60 < ((R2.length : Nat) : Int) + 1) = false := decide_eq_false (by omega)
                              go_wp2
                              go_roundw
                              case rel => exact ⟨i2, n.2.1, g, now, R2 ++ [n.1], SA4, SC4, by omega, by go_num, by go_num, by rw [hRl], by have := HADV.out; omega, HXS.out, by omega, by have := HADV.out; omega, HADV.out.2, by rw [hRl]; omega, H11.out.rr, by rw [hRl]; exact H11.out.row, H11.out.md⟩
                              case measure => rw [posOf_rd H11.out.rr.rd, posOf_rd HRR.out.rd]; have := HADV.out; omega
                      · have dg1 : (gn != 1) = true := by simpa using hg1
                        have HXN : Hid (X = none) := Lib.hid (by rw [← HX.out]; exact F_no (D := (rowsOf M1 n1).drop i2) HG.out hg3 HDV.out (by omega) (by rw [← HNOW.out]; exact HHIGH.out) (by rw [← HNOW.out]; exact HNROW.out) hg1)
                        as_aux_lemma =>
                          go_wp2
                          exact bodyPost_ret (v := .tuple #[.slice none 0 0, .iface 38 (.int .i64 3)]) (by simp [results, Try.results78, go_sem, *]) rfl ⟨.inr (.inl ⟨HY1.out, (by rw [HXA.out, HXN.out]; rfl), rfl⟩), HBE.out _ H5.out.md⟩
                · have hie : i2 = n1 := by omega
                  have dlt : decide ((i2 : Int) < (n1 : Int)) = false := decide_eq_false (by omega)
                  have hde := drop_end M1 n1
                  rw [← hie] at hde
                  have HLOW : Hid (R ++ lowR now ((rowsOf M1 n1).drop i) = R2) := Lib.hid (by rw [← HLO.out, ← hie, hde]; simp [lowR])
                  have HHIGH : Hid (highR now ((rowsOf M1 n1).drop i) = (rowsOf M1 n1).drop i2) := Lib.hid (by rw [← HHI.out, ← hie, hde]; simp [highR])
                  have HNROW : Hid (NoRow now ((rowsOf M1 n1).drop i2)) := Lib.hid (fun r t h => by rw [← hie, hde] at h; cases h)
                  clear hde HLO HHI
                  by_cases hg1 : gn = 1
                  · have dg1 : (gn != 1) = false := by simpa using hg1
                    obtain ⟨w5, hw5⟩ : ∃ w5, w5 = wr := ⟨_, rfl⟩
                    rw [← hw5] at H5
                    rw [← hw5]
                    clear hw5
                    go_wp2_with fail
                    refine calls_fresh ?_
                    rintro w6 hb6
                    have s6 : Blk w6 w5.heap.size #[.int .i64 now, .int .i64 0, .int .i64 0, .int .i64 0, .int .i64 0, .int .i64 0, .int .i64 0, .int .i64 0, .int .i64 0, .int .i64 0, .int .i64 0] := Blk.below (by repeat (with_reducible (first | assumption | (apply Blk.at; simp; done) | apply Blk.alloc | apply Blk.drew | apply Blk.drewN | apply Blk.more | apply Blk.put | (apply Blk.far; focus (first | assumption | (apply Ne.symm; assumption) | (simp; done) | (simp <;> omega)))))) hb6
                    have hv6 : Below w5.heap.size w5 w6 := (by repeat (with_reducible (first | exact Below.refl _ _ | assumption | apply ext_drew | apply ext_drewN | apply ext_alloc | apply ext_more | (refine ext_setCell ?_ (by first | assumption | (simp <;> omega)) _) | (refine ext_below ?_ (by assumption)))))
                    have H6 := Lib.hid (H5.out.below hv6)
                    have HSW : Hid (w3.heap.size ≤ w5.heap.size ∧ (Value.slice SA2 R2.length SC2).ownBlock ≠ some w5.heap.size) := Lib.hid ⟨H5.out.le, H5.out.own (Nat.le_refl _)⟩
                    obtain ⟨s, hs⟩ : ∃ s, s = w5.heap.size := ⟨_, rfl⟩
                    rw [← hs] at s6 HSW
                    rw [← hs]
                    have hsne : s ≠ P ∧ s ≠ Q := by have := HC.out.p; have := HC.out.q; have := HSW.out.1; omega
                    have HSO : Hid (rv.ownBlock ≠ some s) := Lib.hid (fun e => by have := HC.out.d _ e; have := HSW.out.1; omega)
                    obtain ⟨hsp, hsq⟩ := hsne
                    clear hs hb6 hv6 H5
                    obtain ⟨zs, cs, fs⟩ := id s6
                    obtain ⟨r1, hr1⟩ : ∃ r, rG (openL l) 3 (da, false) = r := ⟨_, rfl⟩
                    refine (sput_c B0 P Q (da, false) rv l 3 r1 w6 hr1 H6.out.rr).mono ?_
                    rintro e w7 ⟨rfl, hR7, hM7⟩
                    have H7 := Lib.hid (H6.out.read HC.out hR7 hM7)
                    have s7 := s6.mod hM7 (by omega)
                    have HR1' := Lib.hid hr1
                    clear hR7 hM7 H6 s6 zs cs fs hr1
                    obtain ⟨zs, cs, fs⟩ := id s7
                    go_wp2
                    refine wp_fresh ?_
                    rintro w8 hb8
                    have s8 : Blk w8 s _ := Blk.below (by repeat (with_reducible (first | assumption | (apply Blk.at; simp; done) | apply Blk.alloc | apply Blk.drew | apply Blk.drewN | apply Blk.more | apply Blk.put | (apply Blk.far; focus (first | assumption | (apply Ne.symm; assumption) | (simp; done) | (simp <;> omega)))))) hb8
                    try simp only [List.setIfInBounds_toArray, List.set_cons_zero, List.set_cons_succ] at s8
                    have hS8 : Mod (· = s) w7 w8 := Mod.below ((Mod.refl (· = s) w7).set (.inl rfl)) hb8
                    have H8' := Lib.hid (H7.out.write HC.out HSW.out.1 HSW.out.2 hS8)
                    clear hb8 hS8 H7 s7 zs cs fs
                    obtain ⟨r2, hr2⟩ : ∃ r, v3R (openL l) 0 0 0 r1.2 = r := ⟨_, rfl⟩
                    obtain ⟨r3, hr3⟩ : ∃ r, v3R (openL l) 0 0 0 r2.2 = r := ⟨_, rfl⟩
                    obtain ⟨r4, hr4⟩ : ∃ r, v3R (openL l) 0 0 0 r3.2 = r := ⟨_, rfl⟩
                    have HR2' := Lib.hid hr2
                    have HR3' := Lib.hid hr3
                    have HR4' := Lib.hid hr4
                    have h8d : St w3 w8.drew B0 P Q rv l r1.2.1 r1.2.2 SA2 R2.length SC2 (rowsS R2) := H8'.out.below (ext_drew (Below.refl _ _))
                    have hmm0 : Mod (fun b => b = P ∨ b = Q) w8 w8.drew := (Mod.refl _ _).drew
                    have QQ : Hid (∀ wx, Mod (fun b => b = P ∨ b = Q) w8 wx → ∀ o, wx.cell? ⟨s, o, none⟩ = (#[.int .i64 now, .int .i64 r1.1, .int .i64 0, .int .i64 0, .int .i64 0, .int .i64 0, .int .i64 0, .int .i64 0, .int .i64 0, .int .i64 0, .int .i64 0] : Array Value)[o]?) := Lib.hid (fun wx hm o => (hm.cell s8.lt (by omega)).trans (s8.cell o))
                    clear H8' hr2 hr3 hr4
                    refine region_held_tail (fun w' => ∀ o, w'.cell? ⟨s, o, none⟩ = (#[.int .i64 now, .int .i64 r1.1, .int .i64 0, .int .i64 0, .int .i64 0, .int .i64 0, .int .i64 0, .int .i64 0, .int .i64 0, .int .i64 0, .int .i64 0] : Array Value)[o]?) 12 (by kernel_rfl) (by kernel_rfl) (QQ.out _ hmm0) (fun hHeld => ?_)
                    simp only [List.take_succ_cons, List.take_zero]
                    refine wpAnyH_take (i := 0) (v := ?vnw2_0) rfl (by kernel_rfl) (by kernel_rfl) (by kernel_rfl) (fun _ _ _ h => h) (Or.inl ⟨by kernel_rfl, ?ynw2_0⟩) hHeld ?rnw2_0
                    case ynw2_0 =>
                      intro w hSw
                      try dsimp only at hSw
                      obtain e0 := hSw
                      go_simp
                      try with_reducible rfl
                    try simp only [Act.put, List.setIfInBounds_toArray]
                    refine wpAnyH_take (i := 1) (v := ?vnw2_1) rfl (by kernel_rfl) (by kernel_rfl) (by kernel_rfl) (fun _ _ _ h => h) (Or.inl ⟨by kernel_rfl, ?ynw2_1⟩) hHeld ?rnw2_1
                    case ynw2_1 =>
                      intro w hSw
                      try dsimp only at hSw
                      obtain e0 := hSw
                      go_simp
                      try with_reducible rfl
                    try simp only [Act.put]
                    refine wpAnyH_take (i := 2) (v := ?vnw2_2) rfl (by kernel_rfl) (by kernel_rfl) (by kernel_rfl) (fun _ _ _ h => h) (Or.inl ⟨by kernel_rfl, ?ynw2_2⟩) hHeld ?rnw2_2
                    case ynw2_2 =>
                      intro w hSw
                      try dsimp only at hSw
                      obtain e0 := hSw
                      go_simp
                      try with_reducible rfl
                    try simp only [Act.put]
                    refine wpAnyH_take (i := 4) (v := ?vnw2_4) rfl (by kernel_rfl) (by kernel_rfl) (by kernel_rfl) (fun _ _ _ h => h) (Or.inl ⟨by kernel_rfl, ?ynw2_4⟩) hHeld ?rnw2_4
                    case ynw2_4 =>
                      intro w hSw
                      try dsimp only at hSw
                      obtain e0 := hSw
                      go_simp
                      try with_reducible rfl
                    try simp only [Act.put]
                    refine wpAnyH_take (i := 5) (v := ?vnw2_5) rfl (by kernel_rfl) (by kernel_rfl) (by kernel_rfl) (fun _ _ _ h => h) (Or.inl ⟨by kernel_rfl, ?ynw2_5⟩) hHeld ?rnw2_5
                    case ynw2_5 =>
                      intro w hSw
                      try dsimp only at hSw
                      obtain e0 := hSw
                      go_simp
                      try with_reducible rfl
                    try simp only [Act.put]
                    refine wpAnyH_take (i := 6) (v := ?vnw2_6) rfl (by kernel_rfl) (by kernel_rfl) (by kernel_rfl) (fun _ _ _ h => h) (Or.inl ⟨by kernel_rfl, ?ynw2_6⟩) hHeld ?rnw2_6
                    case ynw2_6 =>
                      intro w hSw
                      try dsimp only at hSw
                      obtain e0 := hSw
                      go_simp
                      try with_reducible rfl
                    try simp only [Act.put]
                    refine wpAnyH_take (i := 8) (v := ?vnw2_8) rfl (by kernel_rfl) (by kernel_rfl) (by kernel_rfl) (fun _ _ _ h => h) (Or.inl ⟨by kernel_rfl, ?ynw2_8⟩) hHeld ?rnw2_8
                    case ynw2_8 =>
                      intro w hSw
                      try dsimp only at hSw
                      obtain e0 := hSw
                      go_simp
                      try with_reducible rfl
                    try simp only [Act.put]
                    refine wpAnyH_take (i := 9) (v := ?vnw2_9) rfl (by kernel_rfl) (by kernel_rfl) (by kernel_rfl) (fun _ _ _ h => h) (Or.inl ⟨by kernel_rfl, ?ynw2_9⟩) hHeld ?rnw2_9
                    case ynw2_9 =>
                      intro w hSw
                      try dsimp only at hSw
                      obtain e0 := hSw
                      go_simp
                      try with_reducible rfl
                    try simp only [Act.put]
                    refine wpAnyH_take (i := 10) (v := ?vnw2_10) rfl (by kernel_rfl) (by kernel_rfl) (by kernel_rfl) (fun _ _ _ h => h) (Or.inl ⟨by kernel_rfl, ?ynw2_10⟩) hHeld ?rnw2_10
                    case ynw2_10 =>
                      intro w hSw
                      try dsimp only at hSw
                      obtain e0 := hSw
                      go_simp
                      try with_reducible rfl
                    try simp only [Act.put]
                    refine wpAnyH_ready (rs := [3]) (by kernel_rfl) (by simp) ?_
                    refine AllReadyH.cons (o := _) rfl (fun K hK => ?_) AllReadyH.nil
                    go_simp
                    refine (svec_c B0 P Q r1.2 rv l 0 0 0 r2 _ HR2'.out h8d.rr in62_0 in62_0 in62_0).mono ?_
                    rintro e wv2 ⟨rfl, hRv2, hMv2⟩
                    have hv2 := h8d.read HC.out hRv2 hMv2
                    have hmm2 := hmm0.trans hMv2
                    try dsimp only
                    refine hK.out _ _ ?_ (fun hHeld => ?_)
                    · exact QQ.out _ hmm2
                    clear hK K
                    try simp only [Act.put, List.setIfInBounds_toArray, List.set_cons_zero, List.set_cons_succ]
                    refine wpAnyH_ready (rs := [7]) (by kernel_rfl) (by simp) ?_
                    refine AllReadyH.cons (o := _) rfl (fun K hK => ?_) AllReadyH.nil
                    go_simp
                    refine (svec_c B0 P Q r2.2 rv l 0 0 0 r3 _ HR3'.out hv2.rr in62_0 in62_0 in62_0).mono ?_
                    rintro e wv3 ⟨rfl, hRv3, hMv3⟩
                    have hv3 := hv2.read HC.out hRv3 hMv3
                    have hmm3 := hmm2.trans hMv3
                    try dsimp only
                    refine hK.out _ _ ?_ (fun hHeld => ?_)
                    · exact QQ.out _ hmm3
                    clear hK K
                    try simp only [Act.put, List.setIfInBounds_toArray, List.set_cons_zero, List.set_cons_succ]
                    refine wpAnyH_ready (rs := [11]) (by kernel_rfl) (by simp) ?_
                    refine AllReadyH.cons (o := _) rfl (fun K hK => ?_) AllReadyH.nil
                    go_simp
                    refine (svec_c B0 P Q r3.2 rv l 0 0 0 r4 _ HR4'.out hv3.rr in62_0 in62_0 in62_0).mono ?_
                    rintro e wv4 ⟨rfl, hRv4, hMv4⟩
                    have hv4 := hv3.read HC.out hRv4 hMv4
                    have hmm4 := hmm3.trans hMv4
                    try dsimp only
                    refine hK.out _ _ ?_ (fun hHeld => ?_)
                    · exact QQ.out _ hmm4
                    clear hK K
                    try simp only [Act.put, List.setIfInBounds_toArray, List.set_cons_zero, List.set_cons_succ]
                    refine wpAnyH_done (by kernel_rfl) ?_ _
                    clear hHeld
                    simp only [TailQ, List.drop_succ_cons, List.drop_zero]
                    have s9 := s8.mod hmm4 (by omega)
                    have H9 := Lib.hid hv4
                    clear hv2 hv3 hv4 hmm0 hmm2 hmm3 hmm4 h8d s8 QQ hRv2 hRv3 hRv4 hMv2 hMv3 hMv4
                    obtain ⟨zs, cs, fs⟩ := id s9
                    obtain ⟨w9, hw9⟩ : ∃ w9, w9 = wv4 := ⟨_, rfl⟩
                    rw [← hw9] at s9 H9 zs cs fs
                    rw [← hw9]
                    clear hw9
                    go_upto_region 29 with fail
                    refine wp_fresh ?_
                    rintro w10 hb10
                    have s10 : Blk w10 s _ := Blk.below (by repeat (with_reducible (first | assumption | (apply Blk.at; simp; done) | apply Blk.alloc | apply Blk.drew | apply Blk.drewN | apply Blk.more | apply Blk.put | (apply Blk.far; focus (first | assumption | (apply Ne.symm; assumption) | (simp; done) | (simp <;> omega)))))) hb10
                    try simp only [List.setIfInBounds_toArray, List.set_cons_zero, List.set_cons_succ] at s10
                    have hS10 : Mod (· = s) w9 w10 := Mod.below ((((((((((Mod.refl (· = s) w9).set (.inl rfl)).set (.inl rfl)).set (.inl rfl)).set (.inl rfl)).set (.inl rfl)).set (.inl rfl)).set (.inl rfl)).set (.inl rfl)).set (.inl rfl)) hb10
                    have H10 := Lib.hid (H9.out.write HC.out HSW.out.1 HSW.out.2 hS10)
                    obtain ⟨n, hn⟩ : ∃ n : Sn × (Nat × Bool), n = (⟨now, r1.1, r2.1.1, r2.1.2.1, r2.1.2.2, r3.1.1, r3.1.2.1, r3.1.2.2, r4.1.1, r4.1.2.1, r4.1.2.2⟩, r4.2) := ⟨_, rfl⟩
                    have HNN : Hid (newR (openL l) now (da, false) = n) := Lib.hid (by rw [hn]; unfold newR; simp only [HR1'.out, HR2'.out, HR3'.out, HR4'.out])
                    have HN1 : Hid (n.2 = r4.2) := Lib.hid (by rw [hn])
                    have s11 : Blk w10 s (snL n.1) := by rw [hn]; exact s10
                    have HFX : Hid (X = if n.2.2 = true ∨ 60 < R2.length + 1 then none else applyF (openL l) g n.2.1 (R2 ++ [n.1]) ((rowsOf M1 n1).drop i2) now) := Lib.hid (by
                      rw [← HX.out, HNOW.out]
                      have h1 := HG.out
                      rw [hg1] at h1
                      have h2 := HNN.out
                      rw [HNOW.out] at h2
                      exact F_new (O := R2) (D := (rowsOf M1 n1).drop i2) h1 HDV.out (by omega) (by rw [← HNOW.out]; exact HLOW.out) (by rw [← HNOW.out]; exact HHIGH.out) (by rw [← HNOW.out]; exact HNROW.out) h2)
                    rw [← HN1.out] at H10
                    have HADV : Hid (da ≤ n.2.1 ∧ n.2.1 ≤ 8 * l.length) := Lib.hid ⟨by have := newR_adv (openL l) now (da, false); rw [HNN.out] at this; exact this, H10.out.rr.rd.le⟩
                    clear hn hb10 hS10 H9 s9 s10 zs cs fs HR1' HR2' HR3' HR4' HN1 HNN
                    have s12 := s11
                    unfold snL at s12
                    obtain ⟨zs, cs, fs⟩ := id s12
                    have HSN : Hid ((#[.int .i64 n.1.id, .int .i64 n.1.kd, .int .i64 n.1.s1, .int .i64 n.1.s2, .int .i64 n.1.s3, .int .i64 n.1.a1, .int .i64 n.1.a2, .int .i64 n.1.a3, .int .i64 n.1.v1, .int .i64 n.1.v2, .int .i64 n.1.v3] : Array Value) = snL n.1) := Lib.hid rfl
                    obtain ⟨fl, hfl⟩ : ∃ fl, fl = n.2.2 := ⟨_, rfl⟩
                    rw [← hfl] at H10
                    have HFL := Lib.hid hfl
                    clear hfl s11 s12
                    have qA := H10.out.q
                    cases fl with
                    | true =>
                      have HXN : Hid (X = none) := Lib.hid (by rw [HFX.out, if_pos (.inl HFL.out.symm)])
                      go_wp2_with (at_builtin; go_must (refine app_one rfl (.tmp 131) (.tmp 133) 28 rfl Try.underlying28 seenInfoS rfl (by decide) (by decide) w3.heap.size (.slice SA2 R2.length SC2) R2.length (rowsS R2) rfl H10.out.row (snL n.1) rfl (by simp) rfl (snL_one n.1) (by omega) H10.out.le ?_; intro g' c' w11 hown hmod hwh hbg;  have H11 := Lib.hid (St.app (SA' := some ⟨g', 0, none⟩) (n' := (R2 ++ [n.1]).length) (SC' := c') (xs' := rowsS (R2 ++ [n.1])) H10.out HC.out (by rw [rowsS_snoc, len_snoc]; exact hown) hmod); have q11 := H11.out.q; obtain ⟨zq, cq, fq⟩ := id q11; clear hown hmod hwh hbg q11 qA zs cs fs))
                      exact bodyPost_ret (v := .tuple #[.slice none 0 0, .iface 38 (.int .i64 3)]) (by simp [results, Try.results78, go_sem, *]) rfl ⟨.inr (.inl ⟨HY1.out, (by rw [HXA.out, HXN.out]; rfl), rfl⟩), HBE.out _ H11.out.md⟩
                    | false =>
                      go_cut [7] (fun tv wx => ∃ SA4 SC4, tv = .slice SA4 (R2 ++ [n.1]).length SC4 ∧ St w3 wx B0 P Q rv l n.2.1 false SA4 (R2 ++ [n.1]).length SC4 (rowsS (R2 ++ [n.1])))
                      case first =>
                        go_wp2_with (at_builtin; go_must (refine app_one rfl (.tmp 131) (.tmp 133) 28 rfl Try.underlying28 seenInfoS rfl (by decide) (by decide) w3.heap.size (.slice SA2 R2.length SC2) R2.length (rowsS R2) rfl H10.out.row (snL n.1) rfl (by simp) rfl (snL_one n.1) (by omega) H10.out.le ?_; intro g' c' w11 hown hmod hwh hbg;  have H11 := Lib.hid (St.app (SA' := some ⟨g', 0, none⟩) (n' := (R2 ++ [n.1]).length) (SC' := c') (xs' := rowsS (R2 ++ [n.1])) H10.out HC.out (by rw [rowsS_snoc, len_snoc]; exact hown) hmod); clear hown hmod hwh hbg qA zs cs fs))
                        go_meet
                        exact ⟨_, c', by simp, H11.out⟩
                      case rest =>
                        obtain ⟨SA4, SC4, rfl, h11⟩ := hcut
                        have H11 := Lib.hid h11
                        have q11 := h11.q
                        obtain ⟨zq, cq, fq⟩ := id q11
                        have hRl : (R2 ++ [n.1]).length = R2.length + 1 := by simp
                        rw [hRl]
                        rw [hRl] at H11
                        clear h11 q11 zs cs fs qA
                        by_cases h60' : 60 < R2.length + 1
                        · have HXN : Hid (X = none) := Lib.hid (by rw [HFX.out, if_pos (.inr h60')])
                          have d60 : decide (60 < ((R2.length + 1 : Nat) : Int)) = true := decide_eq_true (by omega)
                          have d60' : decide (60 < ((R2.length : Nat) : Int) + 1) = true := decide_eq_true (by omega)
                          go_wp2
                          exact bodyPost_ret (v := .tuple #[.slice none 0 0, .iface 38 (.int .i64 3)]) (by simp [results, Try.results78, go_sem, *]) rfl ⟨.inr (.inl ⟨HY1.out, (by rw [HXA.out, HXN.out]; rfl), rfl⟩), HBE.out _ H11.out.md⟩
                        · have HXS : Hid (applyF (openL l) g n.2.1 (R2 ++ [n.1]) ((rowsOf M1 n1).drop i2) now = X) := Lib.hid (by rw [HFX.out, if_neg (by rintro (h | h); rw [← HFL.out] at h; cases h; exact h60' h)])
                          have d60 : decide (60 < ((R2.length + 1 : Nat) : Int)) = false := decide_eq_false (by omega)
                          have d60' : decide (60 < ((R2.length : Nat) : Int) + 1) = false := decide_eq_false (by omega)
                          go_wp2
                          go_roundw
                          case rel => exact ⟨i2, n.2.1, g, now, R2 ++ [n.1], SA4, SC4, by omega, by go_num, by go_num, by rw [hRl], by have := HADV.out; omega, HXS.out, by omega, by have := HADV.out; omega, HADV.out.2, by rw [hRl]; omega, H11.out.rr, by rw [hRl]; exact H11.out.row, H11.out.md⟩
                          case measure => rw [posOf_rd H11.out.rr.rd, posOf_rd HRR.out.rd]; have := HADV.out; omega
                  · have dg1 : (gn != 1) = true := by simpa using hg1
                    have HXN : Hid (X = none) := Lib.hid (by rw [← HX.out]; exact F_no (D := (rowsOf M1 n1).drop i2) HG.out hg3 HDV.out (by omega) (by rw [← HNOW.out]; exact HHIGH.out) (by rw [← HNOW.out]; exact HNROW.out) hg1)
                    as_aux_lemma =>
                      go_wp2
                      exact bodyPost_ret (v := .tuple #[.slice none 0 0, .iface 38 (.int .i64 3)]) (by simp [results, Try.results78, go_sem, *]) rfl ⟨.inr (.inl ⟨HY1.out, (by rw [HXA.out, HXN.out]; rfl), rfl⟩), HBE.out _ H5.out.md⟩
          · refine (rdet_of (varD_c B0 P ga rv l _ H4.out.rr.rd) hd (ev := .iface 38 (.int .i64 de)) (errV_n hde)).mono ?_
            rintro e w5 ⟨rfl, hRd5, hM5⟩
            have H5 := Lib.hid (H4.out.var HC.out hRd5 hM5)
            have HXN : Hid (X = none) := Lib.hid (by rw [← HX.out]; exact F_var HG.out hg3 hd (.inl hde))
            clear hRd5 hM5 H4 hd zq cq fq hde
            as_aux_lemma =>
              go_wp2
              exact bodyPost_ret (v := .tuple #[.slice none 0 0, .iface 38 (.int .i64 3)]) (by simp [results, Try.results78, go_sem, *]) rfl ⟨.inr (.inl ⟨HY1.out, (by rw [HXA.out, HXN.out]; rfl), rfl⟩), HBE.out _ H5.out.md⟩
      · have HXN : Hid (X = none) := Lib.hid (by rw [← HX.out]; exact F_bad HG.out hge)
        have e1 : decide (ge ≠ 0) = true := by simpa using hge
        rw [e1] at H4
        have q4 := H4.out.q
        obtain ⟨zq, cq, fq⟩ := id q4
        clear e1 q4 hge
        as_aux_lemma =>
          have hRdw4 := HR1.out.below (HBE.out _ H4.out.md)
          obtain ⟨A9, hR9, hA9, hsl⟩ := rows_from (P := Try.prog) (t := 28) (e := 106) (by kernel_rfl) (fun w' => by kernel_rfl) hRdw4 HZ.out HCAP.out i (by omega) rfl
          have HR9 := Lib.hid hR9
          have HA9 := Lib.hid hA9
          have HSZ := Lib.hid H4.out.le
          clear hR9 hA9 hRdw4
          go_wp2_with (at_builtin; go_must (refine app_rows rfl (.tmp 145) (.tmp 148) 28 rfl (e := 106) Try.underlying28 seenInfoS rfl (by decide) (by decide) w3.heap.size (.slice SA R.length SC) R.length (rowsS R) rfl H4.out.row rfl HR9.out HA9.out (by omega) HSZ.out ?_; intro v5 w5 hown hmod hwh; obtain ⟨SA5, SC5, rfl⟩ := rowz_form hown; have H5 := Lib.hid (H4.out.app HC.out hown hmod); have q5 := H5.out.q; obtain ⟨zq, cq, fq⟩ := id q5; clear hown hmod hwh hsl q5))
          exact bodyPost_ret (v := .tuple #[.slice none 0 0, .iface 38 (.int .i64 3)]) (by simp [results, Try.results78, go_sem, *]) rfl ⟨.inr (.inl ⟨HY1.out, (by rw [HXA.out, HXN.out]; rfl), rfl⟩), HBE.out _ H5.out.md⟩

end Go.Proofs.Ytefhmbmbhiehdaa
