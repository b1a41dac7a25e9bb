/- turn of broad.Tree. Conditions: none. -/
import Derived.Test.YtniahipadfgkbaaGreatKA
import Derived.Test.YtniahipadfgkbaaGreatKX1
import Derived.Test.YtniahipadfgkbaaGreatKIseeP
import Derived.Test.YtniahipadfgkbaaGreatKY1
import Derived.Test.YtniahipadfgkbaaGreatKY2
import Derived.Test.YtniahipadfgkbaaGreatKApp
import Derived.Test.YtniahipadfgkbaaGreatKH
import Derived.Deep.CutRange
import Derived.Deep.CutBlock
namespace Go.Proofs.YtniahipadfgkbaaGreat
open Go Go.Maps Go.RowKit Go.BigFrame Go.ChangeShapes Go.WideShapes
theorem rowsL_set (M : Nat → Nat → Int) {c n k j : Nat} (hk : k < n) (hj : j < c) (v : Int) : (rowsL M c n).set (k * c + j) (.int .i64 v) = rowsL (put1 M k j v) c n := by
  apply List.ext_getElem?
  intro i
  have hlt : k * c + j < n * c := by
    have h1 : (k + 1) * c ≤ n * c := Nat.mul_le_mul_right c hk
    rw [Nat.add_mul, Nat.one_mul] at h1
    omega
  rw [List.getElem?_set]
  by_cases e : k * c + j = i
  · subst e
    rw [if_pos rfl, rowsL_length, if_pos hlt, rowsL_get _ hk hj, put1_same]
  · rw [if_neg e]
    rcases Nat.lt_or_ge i (n * c) with hi | hi
    · have hc : 0 < c := by omega
      have h1 : i / c < n := (Nat.div_lt_iff_lt_mul hc).2 hi
      have h2 : i % c < c := Nat.mod_lt _ hc
      have h3 : i = i / c * c + i % c := by have := Nat.div_add_mod i c; rw [Nat.mul_comm] at this; omega
      rw [h3, rowsL_get _ h1 h2, rowsL_get _ h1 h2]
      congr 2
      unfold put1
      rw [if_neg]
      rintro ⟨e1, e2⟩
      exact e (by rw [← e1, ← e2]; omega)
    · rw [List.getElem?_eq_none (by rw [rowsL_length]; omega), List.getElem?_eq_none (by rw [rowsL_length]; omega)]
/-- the table of nodes: block b holds nn rows of eleven numbers -/
def NT (w : World) (b cap nn : Nat) (M : Nat → Nat → Int) : Prop := w.ownsRow 0 93 11 (.slice (some ⟨b, 0, none⟩) nn cap) nn (rowsL M 11 nn)
section
variable {w w' : World} {b cap nn : Nat} {M : Nat → Nat → Int}
theorem NT.cell (h : NT w b cap nn M) {k j : Nat} (hk : k < nn) (hj : j < 11) : w.cell? ⟨b, k * 11 + j, none⟩ = some (.int .i64 (M k j)) := by
  rcases h.2 with ⟨e1, _⟩ | ⟨g', cap', cur, e1, _, e3, _, _, _, e7⟩
  · cases e1
  · cases e1
    unfold World.cell?
    rw [e3]
    have h1 : (cur.toList.take (nn * 11))[k * 11 + j]? = (rowsL M 11 nn)[k * 11 + j]? := by rw [e7]
    rw [List.getElem?_take_of_lt (by omega), rowsL_get _ hk hj] at h1
    simpa using h1
theorem NT.free (h : NT w b cap nn M) (o : Nat) : w.frozen? ⟨b, o, none⟩ = false := by
  rcases h.2 with ⟨e1, _⟩ | ⟨g', cap', cur, e1, _, e3, _⟩
  · cases e1
  · cases e1
    simp [World.frozen?, e3]
theorem NT.lt (h : NT w b cap nn M) : b < w.heap.size := (row_lt h rfl).1
theorem NT.mod {S : Nat → Prop} (h : NT w b cap nn M) (k : Mod S w w') (hs : ¬ S b) : NT w' b cap nn M := row_mod h k (fun x e => by cases e; exact hs)
theorem NT.below (h : NT w b cap nn M) (k : Below w.heap.size w w') : NT w' b cap nn M := row_below h k
theorem NT.set (h : NT w b cap nn M) {k j : Nat} (hk : k < nn) (hj : j < 11) (v : Int) : NT (w.setCell ⟨b, k * 11 + j, none⟩ (.int .i64 v)) b cap nn (put1 M k j v) := by
  have hlt : k * 11 + j < (rowsL M 11 nn).length := by rw [rowsL_length]; omega
  have := row_set (x := .int .i64 v) h hlt
  rw [rowsL_set M hk hj v] at this
  exact this
theorem NT.as {M' : Nat → Nat → Int} (h : NT w b cap nn M) (e : M = M') : NT w b cap nn M' := e ▸ h
end
/-- the tree's own cells -/
structure BT where
  nb : Nat
  cap : Nat
  nn : Nat
  fv : Value
  root : Int
  som : Bool
  lf : Nat
  bx : Nat
  fat : Int
def BT.cs (s : BT) : Array Value := #[.slice (some ⟨s.nb, 0, none⟩) s.nn s.cap, s.fv, .int .i64 s.root, .bool s.som, .map (some s.lf), .map (some s.bx), .int .i64 s.fat]
/-- hang: another one in a node's place, below a third one -/
def hangM (M : Nat → Nat → Int) (up was is : Int) : Nat → Nat → Int := if up < 0 then M else if M up.toNat 7 = was then put1 M up.toNat 7 is else put1 M up.toNat 8 is
def hangR (root up is : Int) : Int := if up < 0 then is else root
end Go.Proofs.YtniahipadfgkbaaGreat
namespace Go.Proofs.YtniahipadfgkbaaGreat
open Go Go.Maps Go.RowKit Go.BigFrame Go.ChangeShapes Go.WideShapes
theorem wrap_in {n : Int} (h1 : -9223372036854775808 ≤ n) (h2 : n ≤ 9223372036854775807) : IntKind.i64.wrap n = n := by
  have e : (2 : Int) ^ 64 = 18446744073709551616 := by decide
  have e2 : (2 : Int) ^ (64 - 1) = 9223372036854775808 := by decide
  simp only [IntKind.wrap, IntKind.signed, IntKind.bits, e, e2, Bool.true_and, decide_eq_true_eq]
  split <;> omega
theorem blk_asB {w : World} {b : Nat} {cs cs' : Array Value} (h : Blk w b cs) (e : cs = cs') : Blk w b cs' := e ▸ h
def HangPost (w : World) (t : Nat) (s : BT) (M : Nat → Nat → Int) (up was is : Int) (e : Ending) (w' : World) : Prop :=
  e = .returned (.tuple #[]) ∧ Blk w' t { s with root := hangR s.root up is }.cs ∧ NT w' s.nb s.cap s.nn (hangM M up was is) ∧ Mod (fun x => x = t ∨ x = s.nb) w w'
set_option maxRecDepth 100000 in
set_option maxHeartbeats 4000000 in
theorem hang_c (w : World) (t : Nat) (s : BT) (M : Nat → Nat → Int) (up was is : Int) (hB : Blk w t s.cs) (hN : NT w s.nb s.cap s.nn M) (hne : t ≠ s.nb) (hup : up < (s.nn : Int)) :
    Calls Tryz.prog 74 #[.pointer (some ⟨t, 0, none⟩), .int .i64 up, .int .i64 was, .int .i64 is] w (HangPost w t s M up was is) := by
  have HB : Hid (Blk w t #[.slice (some ⟨s.nb, 0, none⟩) s.nn s.cap, s.fv, .int .i64 s.root, .bool s.som, .map (some s.lf), .map (some s.bx), .int .i64 s.fat]) := Lib.hid hB
  have HN := Lib.hid hN
  clear hB hN
  obtain ⟨zt, ct, ft⟩ := id HB.out
  by_cases h0 : up < 0
  · have d0 : decide (up < 0) = true := decide_eq_true h0
    have HR : Hid (hangR s.root up is = is ∧ hangM M up was is = M) := Lib.hid ⟨by unfold hangR; rw [if_pos h0], by unfold hangM; rw [if_pos h0]⟩
    clear h0
    go_enter Tryz.func74, Tryz.ntmps74
    go_wp2
    go_end0
    refine ⟨rfl, ?_, ?_, Mod.set (Mod.refl _ _) (.inl (.inl rfl))⟩
    · rw [HR.out.1]
      exact Blk.put (i := 2) HB.out
    · rw [HR.out.2]
      exact HN.out.mod (Mod.set (S := (· = t)) (Mod.refl _ _) (.inl rfl)) (fun e => hne e.symm)
  · obtain ⟨u, hu⟩ : ∃ u : Nat, up = (u : Int) := ⟨up.toNat, by omega⟩
    subst hu
    have d0 : decide ((u : Int) < 0) = false := decide_eq_false h0
    have hul : u < s.nn := by omega
    have q7 := HN.out.cell hul (j := 7) (by decide)
    have q8 := HN.out.cell hul (j := 8) (by decide)
    have fq := HN.out.free
    cases hq : (M u 7 == was) with
    | true =>
      have HR : Hid (hangR s.root u is = s.root ∧ hangM M u was is = put1 M u 7 is) := Lib.hid ⟨by unfold hangR; rw [if_neg h0], by unfold hangM; rw [if_neg h0, Int.toNat_natCast, if_pos (by simpa using hq)]⟩
      clear h0
      go_enter Tryz.func74, Tryz.ntmps74
      go_wp2
      go_end0
      refine ⟨rfl, ?_, ?_, Mod.set (Mod.refl _ _) (.inl (.inr rfl))⟩
      · rw [HR.out.1]
        exact Blk.far (fun e => hne e.symm) HB.out
      · rw [HR.out.2]
        exact HN.out.set hul (j := 7) (by decide) is
    | false =>
      have HR : Hid (hangR s.root u is = s.root ∧ hangM M u was is = put1 M u 8 is) := Lib.hid ⟨by unfold hangR; rw [if_neg h0], by unfold hangM; rw [if_neg h0, Int.toNat_natCast, if_neg (by simpa using hq)]⟩
      clear h0
      go_enter Tryz.func74, Tryz.ntmps74
      go_wp2
      go_end0
      refine ⟨rfl, ?_, ?_, Mod.set (Mod.refl _ _) (.inl (.inr rfl))⟩
      · rw [HR.out.1]
        exact Blk.far (fun e => hne e.symm) HB.out
      · rw [HR.out.2]
        exact HN.out.set hul (j := 8) (by decide) is
/-- the rows of all others than n -/
def SF (b nn n : Nat) (M : Nat → Nat → Int) (w : World) : Prop := ∀ k, k ≠ n → k < nn → ∀ j, j < 11 → w.cell? ⟨b, k * 11 + j, none⟩ = some (.int .i64 (M k j))
theorem SF.below {b nn n : Nat} {M : Nat → Nat → Int} {w w' : World} (h : SF b nn n M w) (k : Below w.heap.size w w') : SF b nn n M w' := fun i hi hin j hj => by
  have h1 := h i hi hin j hj
  exact (k.cell (p := ⟨b, i * 11 + j, none⟩) (World.block_lt_of_cell? w _ h1)).trans h1
theorem SF.set {b nn n : Nat} {M : Nat → Nat → Int} {w : World} (h : SF b nn n M w) (_hn : n < nn) {j : Nat} (hj : j < 11) (v : Value) : SF b nn n M (w.setCell ⟨b, n * 11 + j, none⟩ v) := fun i hi hin j' hj' => by
  rw [World.cell?_setCell_other w _ _ _ (fun e => hi (by
    have e1 := congrArg Addr.off e
    simp only at e1
    first | exact (place_inj hj' hj e1).1 | exact (place_inj hj' hj e1.symm).1))]
  exact h i hi hin j' hj'
/-- fit: a node's box, and height, out of its two kids' -/
def fitM (M : Nat → Nat → Int) (n : Nat) : Nat → Nat → Int :=
  let l := (M n 7).toNat
  let r := (M n 8).toNat
  put1 (put1 (put1 (put1 (put1 (put1 (put1 M n 0 (min (M l 0) (M r 0))) n 1 (min (M l 1) (M r 1))) n 2 (min (M l 2) (M r 2))) n 3 (max (M l 3) (M r 3))) n 4 (max (M l 4) (M r 4))) n 5 (max (M l 5) (M r 5))) n 10 (1 + max (M l 10) (M r 10))
def FitPost (w : World) (t : Nat) (s : BT) (M : Nat → Nat → Int) (n : Nat) (e : Ending) (w' : World) : Prop :=
  e = .returned (.tuple #[]) ∧ Blk w' t s.cs ∧ NT w' s.nb s.cap s.nn (fitM M n) ∧ Mod (fun x => x = s.nb) w w'
set_option maxRecDepth 100000 in
set_option maxHeartbeats 8000000 in
theorem fit_c (w : World) (t : Nat) (s : BT) (M : Nat → Nat → Int) (n l r : Nat) (hB : Blk w t s.cs) (hN : NT w s.nb s.cap s.nn M) (hne : t ≠ s.nb) (hn : n < s.nn) (hl : M n 7 = (l : Int)) (hr : M n 8 = (r : Int)) (hll : l < s.nn) (hrl : r < s.nn) (hnl : n ≠ l) (hnr : n ≠ r) (hh : 0 ≤ M l 10 ∧ M l 10 ≤ 1000000 ∧ 0 ≤ M r 10 ∧ M r 10 ≤ 1000000) :
    Calls Tryz.prog 87 #[.pointer (some ⟨t, 0, none⟩), .int .i64 (n : Int)] w (FitPost w t s M n) := by
  have HB : Hid (Blk w t #[.slice (some ⟨s.nb, 0, none⟩) s.nn s.cap, s.fv, .int .i64 s.root, .bool s.som, .map (some s.lf), .map (some s.bx), .int .i64 s.fat]) := Lib.hid hB
  have HN := Lib.hid hN
  have HF : Hid (fitM M n = put1 (put1 (put1 (put1 (put1 (put1 (put1 M n 0 (min (M l 0) (M r 0))) n 1 (min (M l 1) (M r 1))) n 2 (min (M l 2) (M r 2))) n 3 (max (M l 3) (M r 3))) n 4 (max (M l 4) (M r 4))) n 5 (max (M l 5) (M r 5))) n 10 (1 + max (M l 10) (M r 10))) := Lib.hid (by unfold fitM; simp only [hl, hr, Int.toNat_natCast])
  have HLR := Lib.hid (And.intro hl hr)
  clear hB hN hl hr
  obtain ⟨zt, ct, ft⟩ := id HB.out
  go_enter Tryz.func87, Tryz.ntmps87
  go_upto_region 1 with fail
  have hd0 : Below w.heap.size w w.drew := ext_drew (Below.refl _ _)
  have q7 : ∀ w', Below w.heap.size w w' → w'.cell? ⟨s.nb, n * 11 + 7, none⟩ = some (.int .i64 (l : Int)) := fun w' h => by
    rw [← HLR.out.1]
    exact (HN.out.below h).cell hn (j := 7) (by decide)
  have q8 : ∀ w', Below w.heap.size w w' → w'.cell? ⟨s.nb, n * 11 + 8, none⟩ = some (.int .i64 (r : Int)) := fun w' h => by
    rw [← HLR.out.2]
    exact (HN.out.below h).cell hn (j := 8) (by decide)
  refine Code.wp_mono (Q := NQ _) (fun e a w h => by obtain ⟨rfl, h⟩ := h; exact h) (wp_region_held_drew (S := fun w' => Below w.heap.size w w') (by kernel_rfl) hd0 (fun hHeld => ?_))
  refine wpAnyH_take (i := 0) (v := .pointer (some ⟨t, 0, none⟩)) rfl (by kernel_rfl) (by kernel_rfl) (by kernel_rfl) (fun _ _ _ h => nomatch h.1) (Or.inl ⟨by kernel_rfl, ?yfa_0⟩) hHeld ?rfa_0
  case yfa_0 =>
    intro w hSw
    go_simp
    try with_reducible rfl
  try simp only [Act.put, List.getElem_toArray, List.getElem_cons_zero, List.setIfInBounds_toArray, List.set_cons_zero, List.set_cons_succ]
  refine wpAnyH_take (i := 1) (v := .pointer (some ⟨t, 0, none⟩)) rfl (by kernel_rfl) (by kernel_rfl) (by kernel_rfl) (fun _ _ _ h => nomatch h.1) (Or.inl ⟨by kernel_rfl, ?yfa_1⟩) hHeld ?rfa_1
  case yfa_1 =>
    intro w hSw
    go_simp
    try with_reducible rfl
  try simp only [Act.put, List.getElem_toArray, List.getElem_cons_zero, List.getElem_cons_succ, List.setIfInBounds_toArray, List.set_cons_zero, List.set_cons_succ]
  refine wpAnyH_take (i := 2) (v := .pointer (some ⟨t, 0, none⟩)) rfl (by kernel_rfl) (by kernel_rfl) (by kernel_rfl) (fun _ _ _ h => nomatch h.1) (Or.inl ⟨by kernel_rfl, ?yfa_2⟩) hHeld ?rfa_2
  case yfa_2 =>
    intro w hSw
    go_simp
    try with_reducible rfl
  try simp only [Act.put, List.getElem_toArray, List.getElem_cons_zero, List.getElem_cons_succ, List.setIfInBounds_toArray, List.set_cons_zero, List.set_cons_succ]
  refine wpAnyH_take (i := 3) (v := .slice (some ⟨s.nb, 0, none⟩) s.nn s.cap) rfl (by kernel_rfl) (by kernel_rfl) (by kernel_rfl) (fun _ _ _ h => nomatch h.1) (Or.inl ⟨by kernel_rfl, ?yfa_3⟩) hHeld ?rfa_3
  case yfa_3 =>
    intro w hSw
    obtain ⟨zt, ct, ft⟩ := HB.out.below hSw
    go_simp
    try with_reducible rfl
  try simp only [Act.put, List.getElem_toArray, List.getElem_cons_zero, List.getElem_cons_succ, List.setIfInBounds_toArray, List.set_cons_zero, List.set_cons_succ]
  refine wpAnyH_take (i := 4) (v := .pointer (some ⟨s.nb, n * 11, none⟩)) rfl (by kernel_rfl) (by kernel_rfl) (by kernel_rfl) (fun _ _ _ h => nomatch h.1) (Or.inl ⟨by kernel_rfl, ?yfa_4⟩) hHeld ?rfa_4
  case yfa_4 =>
    intro w hSw
    go_simp
    try with_reducible rfl
  try simp only [Act.put, List.getElem_toArray, List.getElem_cons_zero, List.getElem_cons_succ, List.setIfInBounds_toArray, List.set_cons_zero, List.set_cons_succ]
  refine wpAnyH_take (i := 5) (v := .pointer (some ⟨s.nb, n * 11, none⟩)) rfl (by kernel_rfl) (by kernel_rfl) (by kernel_rfl) (fun _ _ _ h => nomatch h.1) (Or.inl ⟨by kernel_rfl, ?yfa_5⟩) hHeld ?rfa_5
  case yfa_5 =>
    intro w hSw
    go_simp
    try with_reducible rfl
  try simp only [Act.put, List.getElem_toArray, List.getElem_cons_zero, List.getElem_cons_succ, List.setIfInBounds_toArray, List.set_cons_zero, List.set_cons_succ]
  refine wpAnyH_take (i := 6) (v := .pointer (some ⟨s.nb, n * 11 + 7, none⟩)) rfl (by kernel_rfl) (by kernel_rfl) (by kernel_rfl) (fun _ _ _ h => nomatch h.1) (Or.inl ⟨by kernel_rfl, ?yfa_6⟩) hHeld ?rfa_6
  case yfa_6 =>
    intro w hSw
    go_simp
    try with_reducible rfl
  try simp only [Act.put, List.getElem_toArray, List.getElem_cons_zero, List.getElem_cons_succ, List.setIfInBounds_toArray, List.set_cons_zero, List.set_cons_succ]
  refine wpAnyH_take (i := 7) (v := .int .i64 (l : Int)) rfl (by kernel_rfl) (by kernel_rfl) (by kernel_rfl) (fun _ _ _ h => nomatch h.1) (Or.inl ⟨by kernel_rfl, ?yfa_7⟩) hHeld ?rfa_7
  case yfa_7 =>
    intro w hSw
    have q := q7 _ hSw
    go_simp
    try with_reducible rfl
  try simp only [Act.put, List.getElem_toArray, List.getElem_cons_zero, List.getElem_cons_succ, List.setIfInBounds_toArray, List.set_cons_zero, List.set_cons_succ]
  refine wpAnyH_take (i := 8) (v := .pointer (some ⟨s.nb, l * 11, none⟩)) rfl (by kernel_rfl) (by kernel_rfl) (by kernel_rfl) (fun _ _ _ h => nomatch h.1) (Or.inl ⟨by kernel_rfl, ?yfa_8⟩) hHeld ?rfa_8
  case yfa_8 =>
    intro w hSw
    go_simp
    try with_reducible rfl
  try simp only [Act.put, List.getElem_toArray, List.getElem_cons_zero, List.getElem_cons_succ, List.setIfInBounds_toArray, List.set_cons_zero, List.set_cons_succ]
  refine wpAnyH_take (i := 9) (v := .pointer (some ⟨t, 0, none⟩)) rfl (by kernel_rfl) (by kernel_rfl) (by kernel_rfl) (fun _ _ _ h => nomatch h.1) (Or.inl ⟨by kernel_rfl, ?yfa_9⟩) hHeld ?rfa_9
  case yfa_9 =>
    intro w hSw
    go_simp
    try with_reducible rfl
  try simp only [Act.put, List.getElem_toArray, List.getElem_cons_zero, List.getElem_cons_succ, List.setIfInBounds_toArray, List.set_cons_zero, List.set_cons_succ]
  refine wpAnyH_take (i := 10) (v := .pointer (some ⟨t, 0, none⟩)) rfl (by kernel_rfl) (by kernel_rfl) (by kernel_rfl) (fun _ _ _ h => nomatch h.1) (Or.inl ⟨by kernel_rfl, ?yfa_10⟩) hHeld ?rfa_10
  case yfa_10 =>
    intro w hSw
    go_simp
    try with_reducible rfl
  try simp only [Act.put, List.getElem_toArray, List.getElem_cons_zero, List.getElem_cons_succ, List.setIfInBounds_toArray, List.set_cons_zero, List.set_cons_succ]
  refine wpAnyH_take (i := 11) (v := .pointer (some ⟨t, 0, none⟩)) rfl (by kernel_rfl) (by kernel_rfl) (by kernel_rfl) (fun _ _ _ h => nomatch h.1) (Or.inl ⟨by kernel_rfl, ?yfa_11⟩) hHeld ?rfa_11
  case yfa_11 =>
    intro w hSw
    go_simp
    try with_reducible rfl
  try simp only [Act.put, List.getElem_toArray, List.getElem_cons_zero, List.getElem_cons_succ, List.setIfInBounds_toArray, List.set_cons_zero, List.set_cons_succ]
  refine wpAnyH_take (i := 12) (v := .slice (some ⟨s.nb, 0, none⟩) s.nn s.cap) rfl (by kernel_rfl) (by kernel_rfl) (by kernel_rfl) (fun _ _ _ h => nomatch h.1) (Or.inl ⟨by kernel_rfl, ?yfa_12⟩) hHeld ?rfa_12
  case yfa_12 =>
    intro w hSw
    obtain ⟨zt, ct, ft⟩ := HB.out.below hSw
    go_simp
    try with_reducible rfl
  try simp only [Act.put, List.getElem_toArray, List.getElem_cons_zero, List.getElem_cons_succ, List.setIfInBounds_toArray, List.set_cons_zero, List.set_cons_succ]
  refine wpAnyH_take (i := 13) (v := .pointer (some ⟨s.nb, n * 11, none⟩)) rfl (by kernel_rfl) (by kernel_rfl) (by kernel_rfl) (fun _ _ _ h => nomatch h.1) (Or.inl ⟨by kernel_rfl, ?yfa_13⟩) hHeld ?rfa_13
  case yfa_13 =>
    intro w hSw
    go_simp
    try with_reducible rfl
  try simp only [Act.put, List.getElem_toArray, List.getElem_cons_zero, List.getElem_cons_succ, List.setIfInBounds_toArray, List.set_cons_zero, List.set_cons_succ]
  refine wpAnyH_take (i := 14) (v := .pointer (some ⟨s.nb, n * 11, none⟩)) rfl (by kernel_rfl) (by kernel_rfl) (by kernel_rfl) (fun _ _ _ h => nomatch h.1) (Or.inl ⟨by kernel_rfl, ?yfa_14⟩) hHeld ?rfa_14
  case yfa_14 =>
    intro w hSw
    go_simp
    try with_reducible rfl
  try simp only [Act.put, List.getElem_toArray, List.getElem_cons_zero, List.getElem_cons_succ, List.setIfInBounds_toArray, List.set_cons_zero, List.set_cons_succ]
  refine wpAnyH_take (i := 15) (v := .pointer (some ⟨s.nb, n * 11 + 8, none⟩)) rfl (by kernel_rfl) (by kernel_rfl) (by kernel_rfl) (fun _ _ _ h => nomatch h.1) (Or.inl ⟨by kernel_rfl, ?yfa_15⟩) hHeld ?rfa_15
  case yfa_15 =>
    intro w hSw
    go_simp
    try with_reducible rfl
  try simp only [Act.put, List.getElem_toArray, List.getElem_cons_zero, List.getElem_cons_succ, List.setIfInBounds_toArray, List.set_cons_zero, List.set_cons_succ]
  refine wpAnyH_take (i := 16) (v := .int .i64 (r : Int)) rfl (by kernel_rfl) (by kernel_rfl) (by kernel_rfl) (fun _ _ _ h => nomatch h.1) (Or.inl ⟨by kernel_rfl, ?yfa_16⟩) hHeld ?rfa_16
  case yfa_16 =>
    intro w hSw
    have q := q8 _ hSw
    go_simp
    try with_reducible rfl
  try simp only [Act.put, List.getElem_toArray, List.getElem_cons_zero, List.getElem_cons_succ, List.setIfInBounds_toArray, List.set_cons_zero, List.set_cons_succ]
  refine wpAnyH_take (i := 17) (v := .pointer (some ⟨s.nb, r * 11, none⟩)) rfl (by kernel_rfl) (by kernel_rfl) (by kernel_rfl) (fun _ _ _ h => nomatch h.1) (Or.inl ⟨by kernel_rfl, ?yfa_17⟩) hHeld ?rfa_17
  case yfa_17 =>
    intro w hSw
    go_simp
    try with_reducible rfl
  try simp only [Act.put, List.getElem_toArray, List.getElem_cons_zero, List.getElem_cons_succ, List.setIfInBounds_toArray, List.set_cons_zero, List.set_cons_succ]
  refine wpAnyH_take (i := 18) (v := .pointer (some ⟨s.nb, l * 11, none⟩)) rfl (by kernel_rfl) (by kernel_rfl) (by kernel_rfl) (fun _ _ _ h => nomatch h.1) (Or.inl ⟨by kernel_rfl, ?yfa_18⟩) hHeld ?rfa_18
  case yfa_18 =>
    intro w hSw
    go_simp
    try with_reducible rfl
  try simp only [Act.put, List.getElem_toArray, List.getElem_cons_zero, List.getElem_cons_succ, List.setIfInBounds_toArray, List.set_cons_zero, List.set_cons_succ]
  refine wpAnyH_take (i := 19) (v := .pointer (some ⟨s.nb, r * 11, none⟩)) rfl (by kernel_rfl) (by kernel_rfl) (by kernel_rfl) (fun _ _ _ h => nomatch h.1) (Or.inl ⟨by kernel_rfl, ?yfa_19⟩) hHeld ?rfa_19
  case yfa_19 =>
    intro w hSw
    go_simp
    try with_reducible rfl
  try simp only [Act.put, List.getElem_toArray, List.getElem_cons_zero, List.getElem_cons_succ, List.setIfInBounds_toArray, List.set_cons_zero, List.set_cons_succ]
  refine wpAnyH_done (by kernel_rfl) ?_ _
  refine ⟨rfl, ?_⟩
  try skip
  go_upto_region 2 with fail
  refine wp_fresh ?_
  rintro w2 hb2
  have hv2 : Below w.heap.size w w2 := hHeld.trans (hb2.mono hHeld.size)
  have HV2 := Lib.hid hv2
  have HN2 := Lib.hid (HN.out.below hv2)
  have hsf : SF s.nb s.nn n M w2 := fun k hk hkn j hj => HN2.out.cell hkn hj
  have hsf0 := hsf.below (ext_drew (Below.refl _ _))
  have hlb : s.nb < w2.heap.size := HN2.out.lt
  clear hHeld hb2 hv2 q7 q8 hd0 zt ct ft
  refine Code.wp_mono (Q := NQ _) (fun e a w h => by obtain ⟨rfl, h⟩ := h; exact h) (wp_region_held_drew (S := SF s.nb s.nn n M) (by kernel_rfl) hsf0 (fun hHeld => ?_))
  refine wpAnyH_take (i := 0) (v := .pointer (some ⟨s.nb, n * 11, none⟩)) rfl (by kernel_rfl) (by kernel_rfl) (by kernel_rfl) (fun _ _ _ h => nomatch h.1) (Or.inl ⟨by kernel_rfl, ?yfb_0⟩) hHeld ?rfb_0
  case yfb_0 =>
    intro w hSw
    go_simp
    try with_reducible rfl
  try simp only [Act.put, List.getElem_toArray, List.getElem_cons_zero, List.setIfInBounds_toArray, List.set_cons_zero, List.set_cons_succ]
  refine wpAnyH_take (i := 1) (v := .pointer (some ⟨s.nb, n * 11, none⟩)) rfl (by kernel_rfl) (by kernel_rfl) (by kernel_rfl) (fun _ _ _ h => nomatch h.1) (Or.inl ⟨by kernel_rfl, ?yfb_1⟩) hHeld ?rfb_1
  case yfb_1 =>
    intro w hSw
    go_simp
    try with_reducible rfl
  try simp only [Act.put, List.getElem_toArray, List.getElem_cons_zero, List.getElem_cons_succ, List.setIfInBounds_toArray, List.set_cons_zero, List.set_cons_succ]
  refine wpAnyH_take (i := 2) (v := .pointer (some ⟨s.nb, l * 11, none⟩)) rfl (by kernel_rfl) (by kernel_rfl) (by kernel_rfl) (fun _ _ _ h => nomatch h.1) (Or.inl ⟨by kernel_rfl, ?yfb_2⟩) hHeld ?rfb_2
  case yfb_2 =>
    intro w hSw
    go_simp
    try with_reducible rfl
  try simp only [Act.put, List.getElem_toArray, List.getElem_cons_zero, List.getElem_cons_succ, List.setIfInBounds_toArray, List.set_cons_zero, List.set_cons_succ]
  refine wpAnyH_take (i := 3) (v := .pointer (some ⟨s.nb, l * 11, none⟩)) rfl (by kernel_rfl) (by kernel_rfl) (by kernel_rfl) (fun _ _ _ h => nomatch h.1) (Or.inl ⟨by kernel_rfl, ?yfb_3⟩) hHeld ?rfb_3
  case yfb_3 =>
    intro w hSw
    go_simp
    try with_reducible rfl
  try simp only [Act.put, List.getElem_toArray, List.getElem_cons_zero, List.getElem_cons_succ, List.setIfInBounds_toArray, List.set_cons_zero, List.set_cons_succ]
  refine wpAnyH_take (i := 4) (v := .pointer (some ⟨s.nb, l * 11, none⟩)) rfl (by kernel_rfl) (by kernel_rfl) (by kernel_rfl) (fun _ _ _ h => nomatch h.1) (Or.inl ⟨by kernel_rfl, ?yfb_4⟩) hHeld ?rfb_4
  case yfb_4 =>
    intro w hSw
    go_simp
    try with_reducible rfl
  try simp only [Act.put, List.getElem_toArray, List.getElem_cons_zero, List.getElem_cons_succ, List.setIfInBounds_toArray, List.set_cons_zero, List.set_cons_succ]
  refine wpAnyH_take (i := 5) (v := .agg #[.int .i64 (M l 0), .int .i64 (M l 1), .int .i64 (M l 2), .int .i64 (M l 3), .int .i64 (M l 4), .int .i64 (M l 5)]) rfl (by kernel_rfl) (by kernel_rfl) (by kernel_rfl) (fun _ _ _ h => nomatch h.1) (Or.inl ⟨by kernel_rfl, ?yfb_5⟩) hHeld ?rfb_5
  case yfb_5 =>
    intro w hSw
    have p0 := hSw l (Ne.symm hnl) hll 0 (by decide)
    have p1 := hSw l (Ne.symm hnl) hll 1 (by decide)
    have p2 := hSw l (Ne.symm hnl) hll 2 (by decide)
    have p3 := hSw l (Ne.symm hnl) hll 3 (by decide)
    have p4 := hSw l (Ne.symm hnl) hll 4 (by decide)
    have p5 := hSw l (Ne.symm hnl) hll 5 (by decide)
    simp only [Nat.add_zero] at p0
    go_simp
    try with_reducible rfl
  try simp only [Act.put, List.getElem_toArray, List.getElem_cons_zero, List.getElem_cons_succ, List.setIfInBounds_toArray, List.set_cons_zero, List.set_cons_succ]
  refine wpAnyH_take (i := 6) (v := .pointer (some ⟨s.nb, r * 11, none⟩)) rfl (by kernel_rfl) (by kernel_rfl) (by kernel_rfl) (fun _ _ _ h => nomatch h.1) (Or.inl ⟨by kernel_rfl, ?yfb_6⟩) hHeld ?rfb_6
  case yfb_6 =>
    intro w hSw
    go_simp
    try with_reducible rfl
  try simp only [Act.put, List.getElem_toArray, List.getElem_cons_zero, List.getElem_cons_succ, List.setIfInBounds_toArray, List.set_cons_zero, List.set_cons_succ]
  refine wpAnyH_take (i := 7) (v := .pointer (some ⟨s.nb, r * 11, none⟩)) rfl (by kernel_rfl) (by kernel_rfl) (by kernel_rfl) (fun _ _ _ h => nomatch h.1) (Or.inl ⟨by kernel_rfl, ?yfb_7⟩) hHeld ?rfb_7
  case yfb_7 =>
    intro w hSw
    go_simp
    try with_reducible rfl
  try simp only [Act.put, List.getElem_toArray, List.getElem_cons_zero, List.getElem_cons_succ, List.setIfInBounds_toArray, List.set_cons_zero, List.set_cons_succ]
  refine wpAnyH_take (i := 8) (v := .pointer (some ⟨s.nb, r * 11, none⟩)) rfl (by kernel_rfl) (by kernel_rfl) (by kernel_rfl) (fun _ _ _ h => nomatch h.1) (Or.inl ⟨by kernel_rfl, ?yfb_8⟩) hHeld ?rfb_8
  case yfb_8 =>
    intro w hSw
    go_simp
    try with_reducible rfl
  try simp only [Act.put, List.getElem_toArray, List.getElem_cons_zero, List.getElem_cons_succ, List.setIfInBounds_toArray, List.set_cons_zero, List.set_cons_succ]
  refine wpAnyH_take (i := 9) (v := .agg #[.int .i64 (M r 0), .int .i64 (M r 1), .int .i64 (M r 2), .int .i64 (M r 3), .int .i64 (M r 4), .int .i64 (M r 5)]) rfl (by kernel_rfl) (by kernel_rfl) (by kernel_rfl) (fun _ _ _ h => nomatch h.1) (Or.inl ⟨by kernel_rfl, ?yfb_9⟩) hHeld ?rfb_9
  case yfb_9 =>
    intro w hSw
    have p0 := hSw r (Ne.symm hnr) hrl 0 (by decide)
    have p1 := hSw r (Ne.symm hnr) hrl 1 (by decide)
    have p2 := hSw r (Ne.symm hnr) hrl 2 (by decide)
    have p3 := hSw r (Ne.symm hnr) hrl 3 (by decide)
    have p4 := hSw r (Ne.symm hnr) hrl 4 (by decide)
    have p5 := hSw r (Ne.symm hnr) hrl 5 (by decide)
    simp only [Nat.add_zero] at p0
    go_simp
    try with_reducible rfl
  try simp only [Act.put, List.getElem_toArray, List.getElem_cons_zero, List.getElem_cons_succ, List.setIfInBounds_toArray, List.set_cons_zero, List.set_cons_succ]
  refine wpAnyH_take (i := 11) (v := .pointer (some ⟨s.nb, l * 11, none⟩)) rfl (by kernel_rfl) (by kernel_rfl) (by kernel_rfl) (fun _ _ _ h => nomatch h.1) (Or.inl ⟨by kernel_rfl, ?yfb_11⟩) hHeld ?rfb_11
  case yfb_11 =>
    intro w hSw
    go_simp
    try with_reducible rfl
  try simp only [Act.put, List.getElem_toArray, List.getElem_cons_zero, List.getElem_cons_succ, List.setIfInBounds_toArray, List.set_cons_zero, List.set_cons_succ]
  refine wpAnyH_take (i := 12) (v := .pointer (some ⟨s.nb, l * 11, none⟩)) rfl (by kernel_rfl) (by kernel_rfl) (by kernel_rfl) (fun _ _ _ h => nomatch h.1) (Or.inl ⟨by kernel_rfl, ?yfb_12⟩) hHeld ?rfb_12
  case yfb_12 =>
    intro w hSw
    go_simp
    try with_reducible rfl
  try simp only [Act.put, List.getElem_toArray, List.getElem_cons_zero, List.getElem_cons_succ, List.setIfInBounds_toArray, List.set_cons_zero, List.set_cons_succ]
  refine wpAnyH_take (i := 13) (v := .pointer (some ⟨s.nb, l * 11 + 10, none⟩)) rfl (by kernel_rfl) (by kernel_rfl) (by kernel_rfl) (fun _ _ _ h => nomatch h.1) (Or.inl ⟨by kernel_rfl, ?yfb_13⟩) hHeld ?rfb_13
  case yfb_13 =>
    intro w hSw
    go_simp
    try with_reducible rfl
  try simp only [Act.put, List.getElem_toArray, List.getElem_cons_zero, List.getElem_cons_succ, List.setIfInBounds_toArray, List.set_cons_zero, List.set_cons_succ]
  refine wpAnyH_take (i := 14) (v := .int .i64 (M l 10)) rfl (by kernel_rfl) (by kernel_rfl) (by kernel_rfl) (fun _ _ _ h => nomatch h.1) (Or.inl ⟨by kernel_rfl, ?yfb_14⟩) hHeld ?rfb_14
  case yfb_14 =>
    intro w hSw
    have p10 := hSw l (Ne.symm hnl) hll 10 (by decide)
    go_simp
    try with_reducible rfl
  try simp only [Act.put, List.getElem_toArray, List.getElem_cons_zero, List.getElem_cons_succ, List.setIfInBounds_toArray, List.set_cons_zero, List.set_cons_succ]
  refine wpAnyH_take (i := 15) (v := .pointer (some ⟨s.nb, r * 11, none⟩)) rfl (by kernel_rfl) (by kernel_rfl) (by kernel_rfl) (fun _ _ _ h => nomatch h.1) (Or.inl ⟨by kernel_rfl, ?yfb_15⟩) hHeld ?rfb_15
  case yfb_15 =>
    intro w hSw
    go_simp
    try with_reducible rfl
  try simp only [Act.put, List.getElem_toArray, List.getElem_cons_zero, List.getElem_cons_succ, List.setIfInBounds_toArray, List.set_cons_zero, List.set_cons_succ]
  refine wpAnyH_take (i := 16) (v := .pointer (some ⟨s.nb, r * 11, none⟩)) rfl (by kernel_rfl) (by kernel_rfl) (by kernel_rfl) (fun _ _ _ h => nomatch h.1) (Or.inl ⟨by kernel_rfl, ?yfb_16⟩) hHeld ?rfb_16
  case yfb_16 =>
    intro w hSw
    go_simp
    try with_reducible rfl
  try simp only [Act.put, List.getElem_toArray, List.getElem_cons_zero, List.getElem_cons_succ, List.setIfInBounds_toArray, List.set_cons_zero, List.set_cons_succ]
  refine wpAnyH_take (i := 17) (v := .pointer (some ⟨s.nb, r * 11 + 10, none⟩)) rfl (by kernel_rfl) (by kernel_rfl) (by kernel_rfl) (fun _ _ _ h => nomatch h.1) (Or.inl ⟨by kernel_rfl, ?yfb_17⟩) hHeld ?rfb_17
  case yfb_17 =>
    intro w hSw
    go_simp
    try with_reducible rfl
  try simp only [Act.put, List.getElem_toArray, List.getElem_cons_zero, List.getElem_cons_succ, List.setIfInBounds_toArray, List.set_cons_zero, List.set_cons_succ]
  refine wpAnyH_take (i := 18) (v := .int .i64 (M r 10)) rfl (by kernel_rfl) (by kernel_rfl) (by kernel_rfl) (fun _ _ _ h => nomatch h.1) (Or.inl ⟨by kernel_rfl, ?yfb_18⟩) hHeld ?rfb_18
  case yfb_18 =>
    intro w hSw
    have p10 := hSw r (Ne.symm hnr) hrl 10 (by decide)
    go_simp
    try with_reducible rfl
  try simp only [Act.put, List.getElem_toArray, List.getElem_cons_zero, List.getElem_cons_succ, List.setIfInBounds_toArray, List.set_cons_zero, List.set_cons_succ]
  refine wpAnyH_take (i := 19) (v := .int .i64 (max (M l 10) (M r 10))) rfl (by kernel_rfl) (by kernel_rfl) (by kernel_rfl) (fun _ _ _ h => nomatch h.1) (Or.inl ⟨by kernel_rfl, ?yfb_19⟩) hHeld ?rfb_19
  case yfb_19 =>
    intro w hSw
    go_simp
    try with_reducible rfl
  try simp only [Act.put, List.getElem_toArray, List.getElem_cons_zero, List.getElem_cons_succ, List.setIfInBounds_toArray, List.set_cons_zero, List.set_cons_succ]
  refine wpAnyH_take (i := 20) (v := .int .i64 (1 + max (M l 10) (M r 10))) rfl (by kernel_rfl) (by kernel_rfl) (by kernel_rfl) (fun _ _ _ h => nomatch h.1) (Or.inl ⟨by kernel_rfl, ?yfb_20⟩) hHeld ?rfb_20
  case yfb_20 =>
    intro w hSw
    have hmx : IntKind.i64.wrap (1 + max (M l 10) (M r 10)) = 1 + max (M l 10) (M r 10) := wrap_in (by omega) (by omega)
    go_simp
    try with_reducible rfl
  try simp only [Act.put, List.getElem_toArray, List.getElem_cons_zero, List.getElem_cons_succ, List.setIfInBounds_toArray, List.set_cons_zero, List.set_cons_succ]
  refine wpAnyH_ready (rs := [10]) (by kernel_rfl) (by simp) ?_
  refine AllReadyH.cons (o := _) rfl (fun K hK => ?_) AllReadyH.nil
  go_simp
  refine (both_c _ _ _ _ _ _ _ _ _ _ _ _ _).mono ?_
  rintro e3 w3 ⟨rfl, hb3⟩
  try dsimp only
  refine hK.out _ _ (hHeld.below hb3) (fun hHeld => ?_)
  clear hK K
  try simp only [Act.put, List.getElem_toArray, List.getElem_cons_zero, List.getElem_cons_succ, List.setIfInBounds_toArray, List.set_cons_zero, List.set_cons_succ]
  have hv3 : Below w2.heap.size w2 w3 := (ext_drew (Below.refl _ _)).trans (hb3.mono (Nat.le_refl _))
  have HN3 := Lib.hid (HN2.out.below hv3)
  have HV3 : Hid (Below w.heap.size w w3) := Lib.hid (HV2.out.trans (hv3.mono HV2.out.size))
  clear hb3 hv3
  refine wpAnyH_take (i := 21) (v := .pointer (some ⟨s.nb, n * 11, none⟩)) rfl (by kernel_rfl) (by kernel_rfl) (by kernel_rfl) (fun _ _ _ h => nomatch h.1) (Or.inl ⟨by kernel_rfl, ?yfc_21⟩) hHeld ?rfc_21
  case yfc_21 =>
    intro w hSw
    go_simp
    try with_reducible rfl
  try simp only [Act.put, List.getElem_toArray, List.getElem_cons_zero, List.getElem_cons_succ, List.setIfInBounds_toArray, List.set_cons_zero, List.set_cons_succ]
  refine wpAnyH_take (i := 22) (v := .pointer (some ⟨s.nb, n * 11, none⟩)) rfl (by kernel_rfl) (by kernel_rfl) (by kernel_rfl) (fun _ _ _ h => nomatch h.1) (Or.inl ⟨by kernel_rfl, ?yfc_22⟩) hHeld ?rfc_22
  case yfc_22 =>
    intro w hSw
    go_simp
    try with_reducible rfl
  try simp only [Act.put, List.getElem_toArray, List.getElem_cons_zero, List.getElem_cons_succ, List.setIfInBounds_toArray, List.set_cons_zero, List.set_cons_succ]
  have fq := HN3.out.free
  have c0 := HN3.out.cell hn (j := 0) (by decide)
  have c1 := HN3.out.cell hn (j := 1) (by decide)
  have c2 := HN3.out.cell hn (j := 2) (by decide)
  have c3 := HN3.out.cell hn (j := 3) (by decide)
  have c4 := HN3.out.cell hn (j := 4) (by decide)
  have c5 := HN3.out.cell hn (j := 5) (by decide)
  have c10 := HN3.out.cell hn (j := 10) (by decide)
  simp only [Nat.add_zero] at c0
  refine wpAnyH_ready (rs := [23]) (by kernel_rfl) (by simp) ?_
  refine AllReadyH.cons (o := _) rfl (fun K hK => ?_) AllReadyH.nil
  go_simp
  try dsimp only
  refine hK.out _ _ ((((((hHeld.set hn (j := 0) (by decide) _).set hn (j := 1) (by decide) _).set hn (j := 2) (by decide) _).set hn (j := 3) (by decide) _).set hn (j := 4) (by decide) _).set hn (j := 5) (by decide) _) (fun hHeld => ?_)
  clear hK K
  try simp only [Act.put, List.getElem_toArray, List.getElem_cons_zero, List.getElem_cons_succ, List.setIfInBounds_toArray, List.set_cons_zero, List.set_cons_succ]
  refine wpAnyH_take (i := 24) (v := .pointer (some ⟨s.nb, n * 11, none⟩)) rfl (by kernel_rfl) (by kernel_rfl) (by kernel_rfl) (fun _ _ _ h => nomatch h.1) (Or.inl ⟨by kernel_rfl, ?yfd_24⟩) hHeld ?rfd_24
  case yfd_24 =>
    intro w hSw
    go_simp
    try with_reducible rfl
  try simp only [Act.put, List.getElem_toArray, List.getElem_cons_zero, List.getElem_cons_succ, List.setIfInBounds_toArray, List.set_cons_zero, List.set_cons_succ]
  refine wpAnyH_take (i := 25) (v := .pointer (some ⟨s.nb, n * 11 + 10, none⟩)) rfl (by kernel_rfl) (by kernel_rfl) (by kernel_rfl) (fun _ _ _ h => nomatch h.1) (Or.inl ⟨by kernel_rfl, ?yfd_25⟩) hHeld ?rfd_25
  case yfd_25 =>
    intro w hSw
    go_simp
    try with_reducible rfl
  try simp only [Act.put, List.getElem_toArray, List.getElem_cons_zero, List.getElem_cons_succ, List.setIfInBounds_toArray, List.set_cons_zero, List.set_cons_succ]
  refine wpAnyH_ready (rs := [26]) (by kernel_rfl) (by simp) ?_
  refine AllReadyH.cons (o := _) rfl (fun K hK => ?_) AllReadyH.nil
  go_simp
  try dsimp only
  refine hK.out _ _ (hHeld.set hn (j := 10) (by decide) _) (fun hHeld => ?_)
  clear hK K
  try simp only [Act.put, List.getElem_toArray, List.getElem_cons_zero, List.getElem_cons_succ, List.setIfInBounds_toArray, List.set_cons_zero, List.set_cons_succ]
  refine wpAnyH_done (by kernel_rfl) ?_ _
  refine ⟨rfl, ?_⟩
  clear hHeld
  try skip
  go_end0
  have hm : Mod (fun x => x = s.nb) w3 _ := ((((((((Mod.refl (fun x => x = s.nb) w3).set (g := s.nb) (i := n * 11) (v := .int .i64 (min (M l 0) (M r 0))) (.inl rfl)).set (g := s.nb) (i := n * 11 + 1) (v := .int .i64 (min (M l 1) (M r 1))) (.inl rfl)).set (g := s.nb) (i := n * 11 + 2) (v := .int .i64 (min (M l 2) (M r 2))) (.inl rfl)).set (g := s.nb) (i := n * 11 + 3) (v := .int .i64 (max (M l 3) (M r 3))) (.inl rfl)).set (g := s.nb) (i := n * 11 + 4) (v := .int .i64 (max (M l 4) (M r 4))) (.inl rfl)).set (g := s.nb) (i := n * 11 + 5) (v := .int .i64 (max (M l 5) (M r 5))) (.inl rfl)).set (g := s.nb) (i := n * 11 + 10) (v := .int .i64 (1 + max (M l 10) (M r 10))) (.inl rfl))
  refine ⟨rfl, (HB.out.below HV3.out).mod hm hne, ?_, (Mod.of_below HV3.out).trans hm⟩
  rw [HF.out]
  exact ((((((HN3.out.set hn (j := 0) (by decide) _).set hn (j := 1) (by decide) _).set hn (j := 2) (by decide) _).set hn (j := 3) (by decide) _).set hn (j := 4) (by decide) _).set hn (j := 5) (by decide) _).set hn (j := 10) (by decide) _
end Go.Proofs.YtniahipadfgkbaaGreat
namespace Go.Proofs.YtniahipadfgkbaaGreat
open Go Go.Maps Go.RowKit Go.BigFrame Go.ChangeShapes Go.WideShapes
theorem any_named {P : Program} {md : Region.Mode} {ops : Array Oper} {Q : Exit → Act → World → Prop} {S : World → Prop} {f : Nat} {li : Array Bool} {a : Act} {w : World} (h : ∀ w', w' = w → S w' → wpAnyH P md ops Q S f li a w') (hS : S w) : wpAnyH P md ops Q S f li a w := h w rfl hS
theorem wp_named {P : Program} {c : Code} {Q : Exit → Act → World → Prop} {a : Act} {w : World} (h : ∀ w', w' = w → Code.wp P c Q a w') : Code.wp P c Q a w := h w rfl
/-- the higher kid of a node, the other one -/
def kidM (M : Nat → Nat → Int) (l r : Nat) : Nat := if M l 10 < M r 10 then r else l
def othM (M : Nat → Nat → Int) (l r : Nat) : Nat := if M l 10 < M r 10 then l else r
/-- what a turn writes -/
def turnM (M : Nat → Nat → Int) (n kid oth a b : Nat) : Nat → Nat → Int :=
  fitM (put1 (put1 (put1 (put1 (put1 (put1 (put1 (hangM M (M n 6) n kid) kid 6 (M n 6)) n 7 oth) n 8 b) b 6 n) n 6 kid) kid 7 a) kid 8 n) n
/-- what turn reads -/
def TS (t p5 n : Nat) (s : BT) (M : Nat → Nat → Int) (w : World) : Prop := Blk w t #[.slice (some ⟨s.nb, 0, none⟩) s.nn s.cap, s.fv, .int .i64 s.root, .bool s.som, .map (some s.lf), .map (some s.bx), .int .i64 s.fat] ∧ Blk w p5 #[.int .i64 (M n 0), .int .i64 (M n 1), .int .i64 (M n 2), .int .i64 (M n 3), .int .i64 (M n 4), .int .i64 (M n 5), .int .i64 (M n 6), .int .i64 (M n 7), .int .i64 (M n 8), .int .i64 (M n 9), .int .i64 (M n 10)]
theorem TS.below {t p5 n : Nat} {s : BT} {M : Nat → Nat → Int} {w w' : World} (h : TS t p5 n s M w) (k : Below w.heap.size w w') : TS t p5 n s M w' := ⟨h.1.below k, h.2.below k⟩
set_option maxRecDepth 100000 in
set_option maxHeartbeats 8000000 in
theorem turn_no (w : World) (t : Nat) (s : BT) (M : Nat → Nat → Int) (n l r : Nat) (hB : Blk w t s.cs) (hN : NT w s.nb s.cap s.nn M) (_hne : t ≠ s.nb) (hn : n < s.nn) (hl : M n 7 = (l : Int)) (hr : M n 8 = (r : Int)) (hll : l < s.nn) (hrl : r < s.nn) (hh : ∀ k, k < s.nn → 0 ≤ M k 10 ∧ M k 10 ≤ 1000000)
    (hrot : M (kidM M l r) 10 ≤ M (othM M l r) 10 + 1) :
    Calls Tryz.prog 86 #[.pointer (some ⟨t, 0, none⟩), .int .i64 (n : Int)] w fun e w' => e = .returned (.int .i64 (n : Int)) ∧ Below w.heap.size w w' := by
  have HB : Hid (Blk w t #[.slice (some ⟨s.nb, 0, none⟩) s.nn s.cap, s.fv, .int .i64 s.root, .bool s.som, .map (some s.lf), .map (some s.bx), .int .i64 s.fat]) := Lib.hid hB
  have HN := Lib.hid hN
  have hhl := hh l hll
  have hhr := hh r hrl
  obtain ⟨kid, hkid⟩ : ∃ kid, kid = kidM M l r := ⟨_, rfl⟩
  obtain ⟨oth, hoth⟩ : ∃ oth, oth = othM M l r := ⟨_, rfl⟩
  have hkl : kid < s.nn := by rw [hkid]; unfold kidM; split <;> assumption
  have hol : oth < s.nn := by rw [hoth]; unfold othM; split <;> assumption
  have HK := Lib.hid (And.intro hkid hoth)
  have HLR := Lib.hid (And.intro hl hr)
  rw [← hkid, ← hoth] at hrot
  clear hB hN hl hr hkid hoth
  obtain ⟨zt, ct, ft⟩ := id HB.out
  have q0 := HN.out.cell hn (j := 0) (by decide)
  have q1 := HN.out.cell hn (j := 1) (by decide)
  have q2 := HN.out.cell hn (j := 2) (by decide)
  have q3 := HN.out.cell hn (j := 3) (by decide)
  have q4 := HN.out.cell hn (j := 4) (by decide)
  have q5 := HN.out.cell hn (j := 5) (by decide)
  have q6 := HN.out.cell hn (j := 6) (by decide)
  have q7 := HN.out.cell hn (j := 7) (by decide)
  have q8 := HN.out.cell hn (j := 8) (by decide)
  have q9 := HN.out.cell hn (j := 9) (by decide)
  have q10 := HN.out.cell hn (j := 10) (by decide)
  simp only [Nat.add_zero] at q0
  go_enter Tryz.func86, Tryz.ntmps86
  go_upto_region 2 with fail
  refine wp_fresh ?_
  rintro w2 hb2
  have hp5 : Blk w2 w.heap.size #[.int .i64 (M n 0), .int .i64 (M n 1), .int .i64 (M n 2), .int .i64 (M n 3), .int .i64 (M n 4), .int .i64 (M n 5), .int .i64 (M n 6), .int .i64 (M n 7), .int .i64 (M n 8), .int .i64 (M n 9), .int .i64 (M n 10)] := Blk.below (by
    refine blk_asB (cs := _) (by repeat (with_reducible (first | assumption | (apply Blk.at; simp; done) | apply Blk.alloc | apply Blk.drew | apply Blk.drewN | apply Blk.more | apply Blk.put | (apply Blk.far; focus (first | assumption | (apply Ne.symm; assumption) | (simp; done) | (simp <;> omega)))))) ?_
    simp only []) hb2
  have hv2 : Below w.heap.size w w2 := (by repeat (with_reducible (first | exact Below.refl _ _ | assumption | apply ext_drew | apply ext_drewN | apply ext_alloc | apply ext_more | (refine ext_setCell ?_ (by first | assumption | (simp <;> omega)) _) | (refine ext_below ?_ (by assumption)))))
  obtain ⟨p5, hpp⟩ : ∃ p5, p5 = w.heap.size := ⟨_, rfl⟩
  rw [← hpp] at hp5
  rw [← hpp]
  have HTS : Hid (TS t p5 n s M w2) := Lib.hid ⟨HB.out.below hv2, hp5⟩
  have HN2 := Lib.hid (HN.out.below hv2)
  have HV2 := Lib.hid hv2
  have HP5 : Hid (s.nb < p5 ∧ t < p5) := Lib.hid (by rw [hpp]; exact ⟨HN.out.lt, HB.out.lt⟩)
  clear hb2 hv2 hp5 q0 q1 q2 q3 q4 q5 q6 q7 q8 q9 q10 zt ct ft hpp HN HB
  have hS2 := HTS.out.below (ext_drew (Below.refl _ _))
  refine Code.wp_mono (Q := NQ _) (fun e a w h => by obtain ⟨rfl, h⟩ := h; exact h) (wp_region_held_drew (S := TS t p5 n s M) (by kernel_rfl) hS2 (fun hHeld => ?_))
  refine wpAnyH_take (i := 0) (v := .pointer (some ⟨p5, 7, none⟩)) rfl (by kernel_rfl) (by kernel_rfl) (by kernel_rfl) (fun _ _ _ h => nomatch h.1) (Or.inl ⟨by kernel_rfl, ?yga_0⟩) hHeld ?rga_0
  case yga_0 =>
    intro w hSw
    go_simp
    try with_reducible rfl
  try simp only [Act.put, List.getElem_toArray, List.getElem_cons_zero, List.setIfInBounds_toArray, List.set_cons_zero, List.set_cons_succ]
  refine wpAnyH_take (i := 1) (v := .int .i64 (l : Int)) rfl (by kernel_rfl) (by kernel_rfl) (by kernel_rfl) (fun _ _ _ h => nomatch h.1) (Or.inl ⟨by kernel_rfl, ?yga_1⟩) hHeld ?rga_1
  case yga_1 =>
    intro w hSw
    obtain ⟨⟨zt, ct, ft⟩, z5, c5, f5⟩ := hSw
    rw [HLR.out.1] at c5
    go_simp
    try with_reducible rfl
  try simp only [Act.put, List.getElem_toArray, List.getElem_cons_zero, List.getElem_cons_succ, List.setIfInBounds_toArray, List.set_cons_zero, List.set_cons_succ]
  refine wpAnyH_take (i := 2) (v := .pointer (some ⟨p5, 8, none⟩)) rfl (by kernel_rfl) (by kernel_rfl) (by kernel_rfl) (fun _ _ _ h => nomatch h.1) (Or.inl ⟨by kernel_rfl, ?yga_2⟩) hHeld ?rga_2
  case yga_2 =>
    intro w hSw
    go_simp
    try with_reducible rfl
  try simp only [Act.put, List.getElem_toArray, List.getElem_cons_zero, List.getElem_cons_succ, List.setIfInBounds_toArray, List.set_cons_zero, List.set_cons_succ]
  refine wpAnyH_take (i := 3) (v := .int .i64 (r : Int)) rfl (by kernel_rfl) (by kernel_rfl) (by kernel_rfl) (fun _ _ _ h => nomatch h.1) (Or.inl ⟨by kernel_rfl, ?yga_3⟩) hHeld ?rga_3
  case yga_3 =>
    intro w hSw
    obtain ⟨⟨zt, ct, ft⟩, z5, c5, f5⟩ := hSw
    rw [HLR.out.2] at c5
    go_simp
    try with_reducible rfl
  try simp only [Act.put, List.getElem_toArray, List.getElem_cons_zero, List.getElem_cons_succ, List.setIfInBounds_toArray, List.set_cons_zero, List.set_cons_succ]
  refine wpAnyH_take (i := 4) (v := .int .i64 (l : Int)) rfl (by kernel_rfl) (by kernel_rfl) (by kernel_rfl) (fun _ _ _ h => nomatch h.1) (Or.inl ⟨by kernel_rfl, ?yga_4⟩) hHeld ?rga_4
  case yga_4 =>
    intro w hSw
    go_simp
    try with_reducible rfl
  try simp only [Act.put, List.getElem_toArray, List.getElem_cons_zero, List.getElem_cons_succ, List.setIfInBounds_toArray, List.set_cons_zero, List.set_cons_succ]
  refine wpAnyH_take (i := 5) (v := .int .i64 (r : Int)) rfl (by kernel_rfl) (by kernel_rfl) (by kernel_rfl) (fun _ _ _ h => nomatch h.1) (Or.inl ⟨by kernel_rfl, ?yga_5⟩) hHeld ?rga_5
  case yga_5 =>
    intro w hSw
    go_simp
    try with_reducible rfl
  try simp only [Act.put, List.getElem_toArray, List.getElem_cons_zero, List.getElem_cons_succ, List.setIfInBounds_toArray, List.set_cons_zero, List.set_cons_succ]
  refine wpAnyH_done (by kernel_rfl) ?_ _
  refine ⟨rfl, ?_⟩
  try skip
  go_upto_region 3 with fail
  refine wp_fresh ?_
  rintro w3 hb3
  have HTS3 := Lib.hid (hHeld.below hb3)
  have hv23 : Below w2.heap.size w2 w3 := (ext_drew (Below.refl _ _)).trans (hb3.mono (Nat.le_refl _))
  have HN3 := Lib.hid (HN2.out.below hv23)
  have HV3 : Hid (Below w.heap.size w w3) := Lib.hid (HV2.out.trans (hv23.mono HV2.out.size))
  clear hHeld hb3 hv23 hS2 HTS HN2 HV2
  obtain ⟨⟨zt, ct, ft⟩, z5, c5, f5⟩ := id HTS3.out
  have ql := HN3.out.cell hll (j := 10) (by decide)
  have qr := HN3.out.cell hrl (j := 10) (by decide)
  have hbl3 : s.nb < w3.heap.size := HN3.out.lt
  have hmc := more_cell
  refine region_quiet_all (by kernel_rfl) (by kernel_rfl) ?_
  repeat (go_big_quiet_step (fail))
  refine wpQuiet_nil ?_
  rintro w4 hw4
  have hb4 := after_below hw4
  clear hw4 hmc zt ct ft z5 c5 f5 ql qr hbl3
  have HTS4 := Lib.hid (HTS3.out.below hb4)
  have HN4 := Lib.hid (HN3.out.below hb4)
  have HV4 : Hid (Below w.heap.size w w4) := Lib.hid (HV3.out.trans (hb4.mono HV3.out.size))
  clear hb4 HTS3 HN3 HV3
  go_upto_if 37 with fail
  go_cut [6, 7] from 17 to 39 (fun a b wx => a = .int .i64 (kid : Int) ∧ b = .int .i64 (oth : Int) ∧ wx = w4)
  case first =>
    by_cases hgt : M l 10 < M r 10
    · have e1 : kid = r := by rw [HK.out.1]; exact if_pos hgt
      have e2 : oth = l := by rw [HK.out.2]; exact if_pos hgt
      go_wp2
      go_meet
      exact ⟨by rw [e1], by rw [e2], rfl⟩
    · have hgt' := Int.not_lt.1 hgt
      have e1 : kid = l := by rw [HK.out.1]; exact if_neg hgt
      have e2 : oth = r := by rw [HK.out.2]; exact if_neg hgt
      go_wp2
      go_meet
      exact ⟨by rw [e1], by rw [e2], rfl⟩
  case rest =>
    obtain ⟨rfl, rfl, rfl⟩ := hcut
    have hhk := hh kid hkl
    have hho := hh oth hol
    go_upto_region 5 with fail
    obtain ⟨⟨zt, ct, ft⟩, z5, c5, f5⟩ := id HTS4.out
    have qk := HN4.out.cell hkl (j := 10) (by decide)
    have qo := HN4.out.cell hol (j := 10) (by decide)
    have hbl4 : s.nb < wc.heap.size := HN4.out.lt
    have hmc := more_cell
    have hwo : IntKind.i64.wrap (M oth 10 + 1) = M oth 10 + 1 := wrap_in (by omega) (by omega)
    refine region_quiet_all (by kernel_rfl) (by kernel_rfl) ?_
    repeat (go_big_quiet_step (fail))
    refine wpQuiet_nil ?_
    rintro w5 hw5
    have hb5 := after_below hw5
    clear hw5 hmc zt ct ft z5 c5 f5 qk qo hbl4
    have HTS5 := Lib.hid (HTS4.out.below hb5)
    have HN5 := Lib.hid (HN4.out.below hb5)
    have HV5 : Hid (Below w.heap.size w w5) := Lib.hid (HV4.out.trans (hb5.mono HV4.out.size))
    clear hb5 HTS4 HN4 HV4
    have dle : decide (M kid 10 ≤ M oth 10 + 1) = true := decide_eq_true hrot
    go_wp2
    go_ret
    exact ⟨rfl, HV5.out⟩
set_option maxRecDepth 100000 in
set_option maxHeartbeats 8000000 in
theorem turn_yes (w : World) (t : Nat) (s : BT) (M : Nat → Nat → Int) (n l r : Nat) (hB : Blk w t s.cs) (hN : NT w s.nb s.cap s.nn M) (hne : t ≠ s.nb) (hn : n < s.nn) (hl : M n 7 = (l : Int)) (hr : M n 8 = (r : Int)) (hll : l < s.nn) (hrl : r < s.nn) (hh : ∀ k, k < s.nn → 0 ≤ M k 10 ∧ M k 10 ≤ 1000000)
    (ka kb : Nat) (hka7 : M (kidM M l r) 7 = (ka : Int)) (hkb8 : M (kidM M l r) 8 = (kb : Int)) (hka : ka < s.nn) (hkb : kb < s.nn) (hup : M n 6 < (s.nn : Int)) (hnk : n ≠ kidM M l r) (hno : n ≠ othM M l r) (hna : n ≠ ka) (hnb : n ≠ kb)
    (hrot : ¬ M (kidM M l r) 10 ≤ M (othM M l r) 10 + 1) :
    Calls Tryz.prog 86 #[.pointer (some ⟨t, 0, none⟩), .int .i64 (n : Int)] w fun e w' => e = .returned (.int .i64 (kidM M l r : Int)) ∧ Blk w' t { s with root := hangR s.root (M n 6) (kidM M l r) }.cs ∧ NT w' s.nb s.cap s.nn (turnM M n (kidM M l r) (othM M l r) (kidM M ka kb) (othM M ka kb)) ∧ Mod (fun x => x = t ∨ x = s.nb) w w' := by
  have HB : Hid (Blk w t #[.slice (some ⟨s.nb, 0, none⟩) s.nn s.cap, s.fv, .int .i64 s.root, .bool s.som, .map (some s.lf), .map (some s.bx), .int .i64 s.fat]) := Lib.hid hB
  have HN := Lib.hid hN
  have hhl := hh l hll
  have hhr := hh r hrl
  obtain ⟨kid, hkid⟩ : ∃ kid, kid = kidM M l r := ⟨_, rfl⟩
  obtain ⟨oth, hoth⟩ : ∃ oth, oth = othM M l r := ⟨_, rfl⟩
  have hkl : kid < s.nn := by rw [hkid]; unfold kidM; split <;> assumption
  have hol : oth < s.nn := by rw [hoth]; unfold othM; split <;> assumption
  have HK := Lib.hid (And.intro hkid hoth)
  have HLR := Lib.hid (And.intro hl hr)
  obtain ⟨a, ha⟩ : ∃ a, a = kidM M ka kb := ⟨_, rfl⟩
  obtain ⟨b, hb⟩ : ∃ b, b = othM M ka kb := ⟨_, rfl⟩
  have hal : a < s.nn := by rw [ha]; unfold kidM; split <;> assumption
  have hbl : b < s.nn := by rw [hb]; unfold othM; split <;> assumption
  have hnb' : n ≠ b := by rw [hb]; unfold othM; split <;> assumption
  have HAB := Lib.hid (And.intro ha hb)
  rw [← hkid, ← hoth] at hrot
  rw [← hkid] at hka7 hkb8 hnk
  rw [← hoth] at hno
  clear ha hb
  clear hB hN hl hr hkid hoth
  obtain ⟨zt, ct, ft⟩ := id HB.out
  have q0 := HN.out.cell hn (j := 0) (by decide)
  have q1 := HN.out.cell hn (j := 1) (by decide)
  have q2 := HN.out.cell hn (j := 2) (by decide)
  have q3 := HN.out.cell hn (j := 3) (by decide)
  have q4 := HN.out.cell hn (j := 4) (by decide)
  have q5 := HN.out.cell hn (j := 5) (by decide)
  have q6 := HN.out.cell hn (j := 6) (by decide)
  have q7 := HN.out.cell hn (j := 7) (by decide)
  have q8 := HN.out.cell hn (j := 8) (by decide)
  have q9 := HN.out.cell hn (j := 9) (by decide)
  have q10 := HN.out.cell hn (j := 10) (by decide)
  simp only [Nat.add_zero] at q0
  go_enter Tryz.func86, Tryz.ntmps86
  go_upto_region 2 with fail
  refine wp_fresh ?_
  rintro w2 hb2
  have hp5 : Blk w2 w.heap.size #[.int .i64 (M n 0), .int .i64 (M n 1), .int .i64 (M n 2), .int .i64 (M n 3), .int .i64 (M n 4), .int .i64 (M n 5), .int .i64 (M n 6), .int .i64 (M n 7), .int .i64 (M n 8), .int .i64 (M n 9), .int .i64 (M n 10)] := Blk.below (by
    refine blk_asB (cs := _) (by repeat (with_reducible (first | assumption | (apply Blk.at; simp; done) | apply Blk.alloc | apply Blk.drew | apply Blk.drewN | apply Blk.more | apply Blk.put | (apply Blk.far; focus (first | assumption | (apply Ne.symm; assumption) | (simp; done) | (simp <;> omega)))))) ?_
    simp only []) hb2
  have hv2 : Below w.heap.size w w2 := (by repeat (with_reducible (first | exact Below.refl _ _ | assumption | apply ext_drew | apply ext_drewN | apply ext_alloc | apply ext_more | (refine ext_setCell ?_ (by first | assumption | (simp <;> omega)) _) | (refine ext_below ?_ (by assumption)))))
  obtain ⟨p5, hpp⟩ : ∃ p5, p5 = w.heap.size := ⟨_, rfl⟩
  rw [← hpp] at hp5
  rw [← hpp]
  have HTS : Hid (TS t p5 n s M w2) := Lib.hid ⟨HB.out.below hv2, hp5⟩
  have HN2 := Lib.hid (HN.out.below hv2)
  have HV2 := Lib.hid hv2
  have HP5 : Hid (s.nb < p5 ∧ t < p5) := Lib.hid (by rw [hpp]; exact ⟨HN.out.lt, HB.out.lt⟩)
  clear hb2 hv2 hp5 q0 q1 q2 q3 q4 q5 q6 q7 q8 q9 q10 zt ct ft hpp HN HB
  have hS2 := HTS.out.below (ext_drew (Below.refl _ _))
  refine Code.wp_mono (Q := NQ _) (fun e a w h => by obtain ⟨rfl, h⟩ := h; exact h) (wp_region_held_drew (S := TS t p5 n s M) (by kernel_rfl) hS2 (fun hHeld => ?_))
  refine wpAnyH_take (i := 0) (v := .pointer (some ⟨p5, 7, none⟩)) rfl (by kernel_rfl) (by kernel_rfl) (by kernel_rfl) (fun _ _ _ h => nomatch h.1) (Or.inl ⟨by kernel_rfl, ?yga_0⟩) hHeld ?rga_0
  case yga_0 =>
    intro w hSw
    go_simp
    try with_reducible rfl
  try simp only [Act.put, List.getElem_toArray, List.getElem_cons_zero, List.setIfInBounds_toArray, List.set_cons_zero, List.set_cons_succ]
  refine wpAnyH_take (i := 1) (v := .int .i64 (l : Int)) rfl (by kernel_rfl) (by kernel_rfl) (by kernel_rfl) (fun _ _ _ h => nomatch h.1) (Or.inl ⟨by kernel_rfl, ?yga_1⟩) hHeld ?rga_1
  case yga_1 =>
    intro w hSw
    obtain ⟨⟨zt, ct, ft⟩, z5, c5, f5⟩ := hSw
    rw [HLR.out.1] at c5
    go_simp
    try with_reducible rfl
  try simp only [Act.put, List.getElem_toArray, List.getElem_cons_zero, List.getElem_cons_succ, List.setIfInBounds_toArray, List.set_cons_zero, List.set_cons_succ]
  refine wpAnyH_take (i := 2) (v := .pointer (some ⟨p5, 8, none⟩)) rfl (by kernel_rfl) (by kernel_rfl) (by kernel_rfl) (fun _ _ _ h => nomatch h.1) (Or.inl ⟨by kernel_rfl, ?yga_2⟩) hHeld ?rga_2
  case yga_2 =>
    intro w hSw
    go_simp
    try with_reducible rfl
  try simp only [Act.put, List.getElem_toArray, List.getElem_cons_zero, List.getElem_cons_succ, List.setIfInBounds_toArray, List.set_cons_zero, List.set_cons_succ]
  refine wpAnyH_take (i := 3) (v := .int .i64 (r : Int)) rfl (by kernel_rfl) (by kernel_rfl) (by kernel_rfl) (fun _ _ _ h => nomatch h.1) (Or.inl ⟨by kernel_rfl, ?yga_3⟩) hHeld ?rga_3
  case yga_3 =>
    intro w hSw
    obtain ⟨⟨zt, ct, ft⟩, z5, c5, f5⟩ := hSw
    rw [HLR.out.2] at c5
    go_simp
    try with_reducible rfl
  try simp only [Act.put, List.getElem_toArray, List.getElem_cons_zero, List.getElem_cons_succ, List.setIfInBounds_toArray, List.set_cons_zero, List.set_cons_succ]
  refine wpAnyH_take (i := 4) (v := .int .i64 (l : Int)) rfl (by kernel_rfl) (by kernel_rfl) (by kernel_rfl) (fun _ _ _ h => nomatch h.1) (Or.inl ⟨by kernel_rfl, ?yga_4⟩) hHeld ?rga_4
  case yga_4 =>
    intro w hSw
    go_simp
    try with_reducible rfl
  try simp only [Act.put, List.getElem_toArray, List.getElem_cons_zero, List.getElem_cons_succ, List.setIfInBounds_toArray, List.set_cons_zero, List.set_cons_succ]
  refine wpAnyH_take (i := 5) (v := .int .i64 (r : Int)) rfl (by kernel_rfl) (by kernel_rfl) (by kernel_rfl) (fun _ _ _ h => nomatch h.1) (Or.inl ⟨by kernel_rfl, ?yga_5⟩) hHeld ?rga_5
  case yga_5 =>
    intro w hSw
    go_simp
    try with_reducible rfl
  try simp only [Act.put, List.getElem_toArray, List.getElem_cons_zero, List.getElem_cons_succ, List.setIfInBounds_toArray, List.set_cons_zero, List.set_cons_succ]
  refine wpAnyH_done (by kernel_rfl) ?_ _
  refine ⟨rfl, ?_⟩
  try skip
  go_upto_region 3 with fail
  refine wp_fresh ?_
  rintro w3 hb3
  have HTS3 := Lib.hid (hHeld.below hb3)
  have hv23 : Below w2.heap.size w2 w3 := (ext_drew (Below.refl _ _)).trans (hb3.mono (Nat.le_refl _))
  have HN3 := Lib.hid (HN2.out.below hv23)
  have HV3 : Hid (Below w.heap.size w w3) := Lib.hid (HV2.out.trans (hv23.mono HV2.out.size))
  clear hHeld hb3 hv23 hS2 HTS HN2 HV2
  obtain ⟨⟨zt, ct, ft⟩, z5, c5, f5⟩ := id HTS3.out
  have ql := HN3.out.cell hll (j := 10) (by decide)
  have qr := HN3.out.cell hrl (j := 10) (by decide)
  have hbl3 : s.nb < w3.heap.size := HN3.out.lt
  have hmc := more_cell
  refine region_quiet_all (by kernel_rfl) (by kernel_rfl) ?_
  repeat (go_big_quiet_step (fail))
  refine wpQuiet_nil ?_
  rintro w4 hw4
  have hb4 := after_below hw4
  clear hw4 hmc zt ct ft z5 c5 f5 ql qr hbl3
  have HTS4 := Lib.hid (HTS3.out.below hb4)
  have HN4 := Lib.hid (HN3.out.below hb4)
  have HV4 : Hid (Below w.heap.size w w4) := Lib.hid (HV3.out.trans (hb4.mono HV3.out.size))
  clear hb4 HTS3 HN3 HV3
  go_upto_if 37 with fail
  go_cut [6, 7] from 17 to 39 (fun a b wx => a = .int .i64 (kid : Int) ∧ b = .int .i64 (oth : Int) ∧ wx = w4)
  case first =>
    by_cases hgt : M l 10 < M r 10
    · have e1 : kid = r := by rw [HK.out.1]; exact if_pos hgt
      have e2 : oth = l := by rw [HK.out.2]; exact if_pos hgt
      go_wp2
      go_meet
      exact ⟨by rw [e1], by rw [e2], rfl⟩
    · have hgt' := Int.not_lt.1 hgt
      have e1 : kid = l := by rw [HK.out.1]; exact if_neg hgt
      have e2 : oth = r := by rw [HK.out.2]; exact if_neg hgt
      go_wp2
      go_meet
      exact ⟨by rw [e1], by rw [e2], rfl⟩
  case rest =>
    obtain ⟨rfl, rfl, rfl⟩ := hcut
    have hhk := hh kid hkl
    have hho := hh oth hol
    go_upto_region 5 with fail
    obtain ⟨⟨zt, ct, ft⟩, z5, c5, f5⟩ := id HTS4.out
    have qk := HN4.out.cell hkl (j := 10) (by decide)
    have qo := HN4.out.cell hol (j := 10) (by decide)
    have hbl4 : s.nb < wc.heap.size := HN4.out.lt
    have hmc := more_cell
    have hwo : IntKind.i64.wrap (M oth 10 + 1) = M oth 10 + 1 := wrap_in (by omega) (by omega)
    refine region_quiet_all (by kernel_rfl) (by kernel_rfl) ?_
    repeat (go_big_quiet_step (fail))
    refine wpQuiet_nil ?_
    rintro w5 hw5
    have hb5 := after_below hw5
    clear hw5 hmc zt ct ft z5 c5 f5 qk qo hbl4
    have HTS5 := Lib.hid (HTS4.out.below hb5)
    have HN5 := Lib.hid (HN4.out.below hb5)
    have HV5 : Hid (Below w.heap.size w w5) := Lib.hid (HV4.out.trans (hb5.mono HV4.out.size))
    clear hb5 HTS4 HN4 HV4
    have hkka7 := hh ka hka
    have hkkb7 := hh kb hkb
    have hrot' := Int.not_le.1 hrot
    go_upto_region 7 with fail
    have hd5 : Below w5.heap.size w5 w5.drew := ext_drew (Below.refl _ _)
    refine Code.wp_mono (Q := NQ _) (fun e a w h => by obtain ⟨rfl, h⟩ := h; exact h) (wp_region_held_drew (S := fun w' => Below w5.heap.size w5 w') (by kernel_rfl) hd5 (fun hHeld => ?_))
    refine wpAnyH_take (i := 0) (v := .pointer (some ⟨t, 0, none⟩)) rfl (by kernel_rfl) (by kernel_rfl) (by kernel_rfl) (fun _ _ _ h => nomatch h.1) (Or.inl ⟨by kernel_rfl, ?ygb_0⟩) hHeld ?rgb_0
    case ygb_0 =>
      intro w hSw
      go_simp
      try with_reducible rfl
    try simp only [Act.put, List.getElem_toArray, List.getElem_cons_zero, List.setIfInBounds_toArray, List.set_cons_zero, List.set_cons_succ]
    refine wpAnyH_take (i := 1) (v := .pointer (some ⟨t, 0, none⟩)) rfl (by kernel_rfl) (by kernel_rfl) (by kernel_rfl) (fun _ _ _ h => nomatch h.1) (Or.inl ⟨by kernel_rfl, ?ygb_1⟩) hHeld ?rgb_1
    case ygb_1 =>
      intro w hSw
      go_simp
      try with_reducible rfl
    try simp only [Act.put, List.getElem_toArray, List.getElem_cons_zero, List.getElem_cons_succ, List.setIfInBounds_toArray, List.set_cons_zero, List.set_cons_succ]
    refine wpAnyH_take (i := 2) (v := .pointer (some ⟨t, 0, none⟩)) rfl (by kernel_rfl) (by kernel_rfl) (by kernel_rfl) (fun _ _ _ h => nomatch h.1) (Or.inl ⟨by kernel_rfl, ?ygb_2⟩) hHeld ?rgb_2
    case ygb_2 =>
      intro w hSw
      go_simp
      try with_reducible rfl
    try simp only [Act.put, List.getElem_toArray, List.getElem_cons_zero, List.getElem_cons_succ, List.setIfInBounds_toArray, List.set_cons_zero, List.set_cons_succ]
    refine wpAnyH_take (i := 3) (v := .slice (some ⟨s.nb, 0, none⟩) s.nn s.cap) rfl (by kernel_rfl) (by kernel_rfl) (by kernel_rfl) (fun _ _ _ h => nomatch h.1) (Or.inl ⟨by kernel_rfl, ?ygb_3⟩) hHeld ?rgb_3
    case ygb_3 =>
      intro w hSw
      obtain ⟨zt, ct, ft⟩ := HTS5.out.1.below hSw
      go_simp
      try with_reducible rfl
    try simp only [Act.put, List.getElem_toArray, List.getElem_cons_zero, List.getElem_cons_succ, List.setIfInBounds_toArray, List.set_cons_zero, List.set_cons_succ]
    refine wpAnyH_take (i := 4) (v := .int .i64 (kid : Int)) rfl (by kernel_rfl) (by kernel_rfl) (by kernel_rfl) (fun _ _ _ h => nomatch h.1) (Or.inl ⟨by kernel_rfl, ?ygb_4⟩) hHeld ?rgb_4
    case ygb_4 =>
      intro w hSw
      go_simp
      try with_reducible rfl
    try simp only [Act.put, List.getElem_toArray, List.getElem_cons_zero, List.getElem_cons_succ, List.setIfInBounds_toArray, List.set_cons_zero, List.set_cons_succ]
    refine wpAnyH_take (i := 5) (v := .pointer (some ⟨s.nb, kid * 11, none⟩)) rfl (by kernel_rfl) (by kernel_rfl) (by kernel_rfl) (fun _ _ _ h => nomatch h.1) (Or.inl ⟨by kernel_rfl, ?ygb_5⟩) hHeld ?rgb_5
    case ygb_5 =>
      intro w hSw
      go_simp
      try with_reducible rfl
    try simp only [Act.put, List.getElem_toArray, List.getElem_cons_zero, List.getElem_cons_succ, List.setIfInBounds_toArray, List.set_cons_zero, List.set_cons_succ]
    refine wpAnyH_take (i := 6) (v := .pointer (some ⟨s.nb, kid * 11 + 7, none⟩)) rfl (by kernel_rfl) (by kernel_rfl) (by kernel_rfl) (fun _ _ _ h => nomatch h.1) (Or.inl ⟨by kernel_rfl, ?ygb_6⟩) hHeld ?rgb_6
    case ygb_6 =>
      intro w hSw
      go_simp
      try with_reducible rfl
    try simp only [Act.put, List.getElem_toArray, List.getElem_cons_zero, List.getElem_cons_succ, List.setIfInBounds_toArray, List.set_cons_zero, List.set_cons_succ]
    refine wpAnyH_take (i := 7) (v := .int .i64 (ka : Int)) rfl (by kernel_rfl) (by kernel_rfl) (by kernel_rfl) (fun _ _ _ h => nomatch h.1) (Or.inl ⟨by kernel_rfl, ?ygb_7⟩) hHeld ?rgb_7
    case ygb_7 =>
      intro w hSw
      have q := (HN5.out.below hSw).cell hkl (j := 7) (by decide)
      rw [hka7] at q
      go_simp
      try with_reducible rfl
    try simp only [Act.put, List.getElem_toArray, List.getElem_cons_zero, List.getElem_cons_succ, List.setIfInBounds_toArray, List.set_cons_zero, List.set_cons_succ]
    refine wpAnyH_take (i := 8) (v := .pointer (some ⟨t, 0, none⟩)) rfl (by kernel_rfl) (by kernel_rfl) (by kernel_rfl) (fun _ _ _ h => nomatch h.1) (Or.inl ⟨by kernel_rfl, ?ygb_8⟩) hHeld ?rgb_8
    case ygb_8 =>
      intro w hSw
      go_simp
      try with_reducible rfl
    try simp only [Act.put, List.getElem_toArray, List.getElem_cons_zero, List.getElem_cons_succ, List.setIfInBounds_toArray, List.set_cons_zero, List.set_cons_succ]
    refine wpAnyH_take (i := 9) (v := .pointer (some ⟨t, 0, none⟩)) rfl (by kernel_rfl) (by kernel_rfl) (by kernel_rfl) (fun _ _ _ h => nomatch h.1) (Or.inl ⟨by kernel_rfl, ?ygb_9⟩) hHeld ?rgb_9
    case ygb_9 =>
      intro w hSw
      go_simp
      try with_reducible rfl
    try simp only [Act.put, List.getElem_toArray, List.getElem_cons_zero, List.getElem_cons_succ, List.setIfInBounds_toArray, List.set_cons_zero, List.set_cons_succ]
    refine wpAnyH_take (i := 10) (v := .pointer (some ⟨t, 0, none⟩)) rfl (by kernel_rfl) (by kernel_rfl) (by kernel_rfl) (fun _ _ _ h => nomatch h.1) (Or.inl ⟨by kernel_rfl, ?ygb_10⟩) hHeld ?rgb_10
    case ygb_10 =>
      intro w hSw
      go_simp
      try with_reducible rfl
    try simp only [Act.put, List.getElem_toArray, List.getElem_cons_zero, List.getElem_cons_succ, List.setIfInBounds_toArray, List.set_cons_zero, List.set_cons_succ]
    refine wpAnyH_take (i := 11) (v := .slice (some ⟨s.nb, 0, none⟩) s.nn s.cap) rfl (by kernel_rfl) (by kernel_rfl) (by kernel_rfl) (fun _ _ _ h => nomatch h.1) (Or.inl ⟨by kernel_rfl, ?ygb_11⟩) hHeld ?rgb_11
    case ygb_11 =>
      intro w hSw
      obtain ⟨zt, ct, ft⟩ := HTS5.out.1.below hSw
      go_simp
      try with_reducible rfl
    try simp only [Act.put, List.getElem_toArray, List.getElem_cons_zero, List.getElem_cons_succ, List.setIfInBounds_toArray, List.set_cons_zero, List.set_cons_succ]
    refine wpAnyH_take (i := 12) (v := .int .i64 (kid : Int)) rfl (by kernel_rfl) (by kernel_rfl) (by kernel_rfl) (fun _ _ _ h => nomatch h.1) (Or.inl ⟨by kernel_rfl, ?ygb_12⟩) hHeld ?rgb_12
    case ygb_12 =>
      intro w hSw
      go_simp
      try with_reducible rfl
    try simp only [Act.put, List.getElem_toArray, List.getElem_cons_zero, List.getElem_cons_succ, List.setIfInBounds_toArray, List.set_cons_zero, List.set_cons_succ]
    refine wpAnyH_take (i := 13) (v := .pointer (some ⟨s.nb, kid * 11, none⟩)) rfl (by kernel_rfl) (by kernel_rfl) (by kernel_rfl) (fun _ _ _ h => nomatch h.1) (Or.inl ⟨by kernel_rfl, ?ygb_13⟩) hHeld ?rgb_13
    case ygb_13 =>
      intro w hSw
      go_simp
      try with_reducible rfl
    try simp only [Act.put, List.getElem_toArray, List.getElem_cons_zero, List.getElem_cons_succ, List.setIfInBounds_toArray, List.set_cons_zero, List.set_cons_succ]
    refine wpAnyH_take (i := 14) (v := .pointer (some ⟨s.nb, kid * 11 + 8, none⟩)) rfl (by kernel_rfl) (by kernel_rfl) (by kernel_rfl) (fun _ _ _ h => nomatch h.1) (Or.inl ⟨by kernel_rfl, ?ygb_14⟩) hHeld ?rgb_14
    case ygb_14 =>
      intro w hSw
      go_simp
      try with_reducible rfl
    try simp only [Act.put, List.getElem_toArray, List.getElem_cons_zero, List.getElem_cons_succ, List.setIfInBounds_toArray, List.set_cons_zero, List.set_cons_succ]
    refine wpAnyH_take (i := 15) (v := .int .i64 (kb : Int)) rfl (by kernel_rfl) (by kernel_rfl) (by kernel_rfl) (fun _ _ _ h => nomatch h.1) (Or.inl ⟨by kernel_rfl, ?ygb_15⟩) hHeld ?rgb_15
    case ygb_15 =>
      intro w hSw
      have q := (HN5.out.below hSw).cell hkl (j := 8) (by decide)
      rw [hkb8] at q
      go_simp
      try with_reducible rfl
    try simp only [Act.put, List.getElem_toArray, List.getElem_cons_zero, List.getElem_cons_succ, List.setIfInBounds_toArray, List.set_cons_zero, List.set_cons_succ]
    refine wpAnyH_take (i := 16) (v := .int .i64 (ka : Int)) rfl (by kernel_rfl) (by kernel_rfl) (by kernel_rfl) (fun _ _ _ h => nomatch h.1) (Or.inl ⟨by kernel_rfl, ?ygb_16⟩) hHeld ?rgb_16
    case ygb_16 =>
      intro w hSw
      go_simp
      try with_reducible rfl
    try simp only [Act.put, List.getElem_toArray, List.getElem_cons_zero, List.getElem_cons_succ, List.setIfInBounds_toArray, List.set_cons_zero, List.set_cons_succ]
    refine wpAnyH_take (i := 17) (v := .int .i64 (kb : Int)) rfl (by kernel_rfl) (by kernel_rfl) (by kernel_rfl) (fun _ _ _ h => nomatch h.1) (Or.inl ⟨by kernel_rfl, ?ygb_17⟩) hHeld ?rgb_17
    case ygb_17 =>
      intro w hSw
      go_simp
      try with_reducible rfl
    try simp only [Act.put, List.getElem_toArray, List.getElem_cons_zero, List.getElem_cons_succ, List.setIfInBounds_toArray, List.set_cons_zero, List.set_cons_succ]
    refine wpAnyH_done (by kernel_rfl) ?_ _
    refine ⟨rfl, ?_⟩
    try skip
    go_upto_region 8 with fail
    refine wp_fresh ?_
    rintro w6 hb6
    have hv6 : Below w5.heap.size w5 w6 := hHeld.trans (hb6.mono hHeld.size)
    have HTS6 := Lib.hid (HTS5.out.below hv6)
    have HN6 := Lib.hid (HN5.out.below hv6)
    have HV6 : Hid (Below w.heap.size w w6) := Lib.hid (HV5.out.trans (hv6.mono HV5.out.size))
    clear hHeld hb6 hv6 hd5 HTS5 HN5 HV5
    obtain ⟨⟨zt, ct, ft⟩, z5, c5, f5⟩ := id HTS6.out
    have qa := HN6.out.cell hka (j := 10) (by decide)
    have qb := HN6.out.cell hkb (j := 10) (by decide)
    have hbl6 : s.nb < w6.heap.size := HN6.out.lt
    have hmc := more_cell
    refine region_quiet_all (by kernel_rfl) (by kernel_rfl) ?_
    repeat (go_big_quiet_step (fail))
    refine wpQuiet_nil ?_
    rintro w7 hw7
    have hb7 := after_below hw7
    clear hw7 hmc zt ct ft z5 c5 f5 qa qb hbl6
    have HTS7 := Lib.hid (HTS6.out.below hb7)
    have HN7 := Lib.hid (HN6.out.below hb7)
    have HV7 : Hid (Below w.heap.size w w7) := Lib.hid (HV6.out.trans (hb7.mono HV6.out.size))
    clear hb7 HTS6 HN6 HV6
    go_upto_if 91 with fail
    go_cut [8, 9] from 59 to 93 (fun x y wx => x = .int .i64 (a : Int) ∧ y = .int .i64 (b : Int) ∧ wx = w7)
    case first =>
      by_cases hgt : M ka 10 < M kb 10
      · have e1 : a = kb := by rw [HAB.out.1]; exact if_pos hgt
        have e2 : b = ka := by rw [HAB.out.2]; exact if_pos hgt
        go_wp2
        go_meet
        exact ⟨by rw [e1], by rw [e2], rfl⟩
      · have hgt' := Int.not_lt.1 hgt
        have e1 : a = ka := by rw [HAB.out.1]; exact if_neg hgt
        have e2 : b = kb := by rw [HAB.out.2]; exact if_neg hgt
        go_wp2
        go_meet
        exact ⟨by rw [e1], by rw [e2], rfl⟩
    case rest =>
      obtain ⟨rfl, rfl, rfl⟩ := hcut
      obtain ⟨⟨zt, ct, ft⟩, z5, c5, f5⟩ := id HTS7.out
      go_wp2_with fail
      refine (hang_c _ t s M (M n 6) n kid HTS7.out.1 HN7.out hne hup).mono ?_
      rintro e8 w8 ⟨rfl, hB8, hN8, hM8⟩
      obtain ⟨rt, hrt⟩ : ∃ rt, rt = hangR s.root (M n 6) kid := ⟨_, rfl⟩
      obtain ⟨M1, hM1⟩ : ∃ M1, M1 = hangM M (M n 6) n kid := ⟨_, rfl⟩
      have hB8' : Blk w8 t #[.slice (some ⟨s.nb, 0, none⟩) s.nn s.cap, s.fv, .int .i64 rt, .bool s.som, .map (some s.lf), .map (some s.bx), .int .i64 s.fat] := by rw [hrt]; exact hB8
      rw [← hM1] at hN8
      have HB8 := Lib.hid hB8'
      have HN8 := Lib.hid hN8
      have HM8 := Lib.hid hM8
      have HRT := Lib.hid (And.intro hrt hM1)
      have H58 := Lib.hid (HTS7.out.2.mod hM8 (fun e => by have := HP5.out; omega))
      clear hB8 hB8' hN8 hM8 hrt hM1 zt ct ft z5 c5 f5
      obtain ⟨zt, ct, ft⟩ := id HB8.out
      obtain ⟨z5, c5, f5⟩ := id H58.out
      go_upto_region 11 with fail
      have hmc := more_cell
      refine region_quiet_but 9 (by kernel_rfl) (by kernel_rfl) ?_
      simp only [List.take_succ_cons, List.take_zero, List.drop_succ_cons, List.drop_zero]
      repeat (go_big_quiet_step (fail))
      refine wpQuiet_nil ?_
      rintro w9 hw9
      have hb9 := after_below hw9
      clear hw9 hmc zt ct ft z5 c5 f5
      have HB9 := Lib.hid (HB8.out.below hb9)
      have HN9 := Lib.hid (HN8.out.below hb9)
      have HV9 : Hid (Below w8.heap.size w8 w9) := Lib.hid hb9
      have c96 := HN9.out.cell hkl (j := 6) (by decide)
      have f9 := HN9.out.free
      clear hb9
      go_upto_region 12 with fail
      refine wp_named ?_
      rintro w10 hw10
      have HN10 : Hid (NT w10 s.nb s.cap s.nn (put1 M1 kid 6 (M n 6))) := Lib.hid (by rw [hw10]; exact HN9.out.set hkl (j := 6) (by decide) _)
      have HM10 : Hid (Mod (· = s.nb) w9 w10) := Lib.hid (by rw [hw10]; exact Mod.set (Mod.refl _ _) (.inl rfl))
      have HB10 : Hid (Blk w10 t #[.slice (some ⟨s.nb, 0, none⟩) s.nn s.cap, s.fv, .int .i64 rt, .bool s.som, .map (some s.lf), .map (some s.bx), .int .i64 s.fat]) := Lib.hid (HB9.out.mod HM10.out hne)
      clear hw10 c96 f9
      go_upto_region 12 with fail
      have hSa : Blk w10.drew t #[.slice (some ⟨s.nb, 0, none⟩) s.nn s.cap, s.fv, .int .i64 rt, .bool s.som, .map (some s.lf), .map (some s.bx), .int .i64 s.fat] := (HB10.out).below (ext_drew (Below.refl _ _))
      have HN10D : Hid (NT w10.drew s.nb s.cap s.nn (put1 M1 kid 6 (M n 6))) := Lib.hid (HN10.out.below (ext_drew (Below.refl _ _)))
      refine Code.wp_mono (Q := NQ _) (fun e a w h => by obtain ⟨rfl, h⟩ := h; exact h) (wp_region_held_drew (S := fun w' => Blk w' t #[.slice (some ⟨s.nb, 0, none⟩) s.nn s.cap, s.fv, .int .i64 rt, .bool s.som, .map (some s.lf), .map (some s.bx), .int .i64 s.fat]) (by kernel_rfl) hSa (fun hHeld => ?_))
      refine wpAnyH_take (i := 0) (v := .pointer (some ⟨t, 0, none⟩)) rfl (by kernel_rfl) (by kernel_rfl) (by kernel_rfl) (fun _ _ _ h => nomatch h.1) (Or.inl ⟨by kernel_rfl, ?ya_0⟩) hHeld ?ra_0
      case ya_0 =>
        intro w hSw
        go_simp
        try with_reducible rfl
      try simp only [Act.put, List.getElem_toArray, List.getElem_cons_zero, List.setIfInBounds_toArray, List.set_cons_zero, List.set_cons_succ]
      refine wpAnyH_take (i := 1) (v := .pointer (some ⟨t, 0, none⟩)) rfl (by kernel_rfl) (by kernel_rfl) (by kernel_rfl) (fun _ _ _ h => nomatch h.1) (Or.inl ⟨by kernel_rfl, ?ya_1⟩) hHeld ?ra_1
      case ya_1 =>
        intro w hSw
        go_simp
        try with_reducible rfl
      try simp only [Act.put, List.getElem_toArray, List.getElem_cons_zero, List.getElem_cons_succ, List.setIfInBounds_toArray, List.set_cons_zero, List.set_cons_succ]
      refine wpAnyH_take (i := 2) (v := .pointer (some ⟨t, 0, none⟩)) rfl (by kernel_rfl) (by kernel_rfl) (by kernel_rfl) (fun _ _ _ h => nomatch h.1) (Or.inl ⟨by kernel_rfl, ?ya_2⟩) hHeld ?ra_2
      case ya_2 =>
        intro w hSw
        go_simp
        try with_reducible rfl
      try simp only [Act.put, List.getElem_toArray, List.getElem_cons_zero, List.getElem_cons_succ, List.setIfInBounds_toArray, List.set_cons_zero, List.set_cons_succ]
      refine wpAnyH_take (i := 3) (v := .slice (some ⟨s.nb, 0, none⟩) s.nn s.cap) rfl (by kernel_rfl) (by kernel_rfl) (by kernel_rfl) (fun _ _ _ h => nomatch h.1) (Or.inl ⟨by kernel_rfl, ?ya_3⟩) hHeld ?ra_3
      case ya_3 =>
        intro w hSw
        obtain ⟨zt, ct, ft⟩ := hSw
        go_simp
        try with_reducible rfl
      try simp only [Act.put, List.getElem_toArray, List.getElem_cons_zero, List.getElem_cons_succ, List.setIfInBounds_toArray, List.set_cons_zero, List.set_cons_succ]
      refine wpAnyH_take (i := 4) (v := .int .i64 (n : Int)) rfl (by kernel_rfl) (by kernel_rfl) (by kernel_rfl) (fun _ _ _ h => nomatch h.1) (Or.inl ⟨by kernel_rfl, ?ya_4⟩) hHeld ?ra_4
      case ya_4 =>
        intro w hSw
        go_simp
        try with_reducible rfl
      try simp only [Act.put, List.getElem_toArray, List.getElem_cons_zero, List.getElem_cons_succ, List.setIfInBounds_toArray, List.set_cons_zero, List.set_cons_succ]
      refine wpAnyH_take (i := 5) (v := .pointer (some ⟨t, 0, none⟩)) rfl (by kernel_rfl) (by kernel_rfl) (by kernel_rfl) (fun _ _ _ h => nomatch h.1) (Or.inl ⟨by kernel_rfl, ?ya_5⟩) hHeld ?ra_5
      case ya_5 =>
        intro w hSw
        go_simp
        try with_reducible rfl
      try simp only [Act.put, List.getElem_toArray, List.getElem_cons_zero, List.getElem_cons_succ, List.setIfInBounds_toArray, List.set_cons_zero, List.set_cons_succ]
      refine wpAnyH_take (i := 6) (v := .pointer (some ⟨t, 0, none⟩)) rfl (by kernel_rfl) (by kernel_rfl) (by kernel_rfl) (fun _ _ _ h => nomatch h.1) (Or.inl ⟨by kernel_rfl, ?ya_6⟩) hHeld ?ra_6
      case ya_6 =>
        intro w hSw
        go_simp
        try with_reducible rfl
      try simp only [Act.put, List.getElem_toArray, List.getElem_cons_zero, List.getElem_cons_succ, List.setIfInBounds_toArray, List.set_cons_zero, List.set_cons_succ]
      refine wpAnyH_take (i := 7) (v := .pointer (some ⟨t, 0, none⟩)) rfl (by kernel_rfl) (by kernel_rfl) (by kernel_rfl) (fun _ _ _ h => nomatch h.1) (Or.inl ⟨by kernel_rfl, ?ya_7⟩) hHeld ?ra_7
      case ya_7 =>
        intro w hSw
        go_simp
        try with_reducible rfl
      try simp only [Act.put, List.getElem_toArray, List.getElem_cons_zero, List.getElem_cons_succ, List.setIfInBounds_toArray, List.set_cons_zero, List.set_cons_succ]
      refine wpAnyH_take (i := 8) (v := .slice (some ⟨s.nb, 0, none⟩) s.nn s.cap) rfl (by kernel_rfl) (by kernel_rfl) (by kernel_rfl) (fun _ _ _ h => nomatch h.1) (Or.inl ⟨by kernel_rfl, ?ya_8⟩) hHeld ?ra_8
      case ya_8 =>
        intro w hSw
        obtain ⟨zt, ct, ft⟩ := hSw
        go_simp
        try with_reducible rfl
      try simp only [Act.put, List.getElem_toArray, List.getElem_cons_zero, List.getElem_cons_succ, List.setIfInBounds_toArray, List.set_cons_zero, List.set_cons_succ]
      refine wpAnyH_take (i := 9) (v := .int .i64 (n : Int)) rfl (by kernel_rfl) (by kernel_rfl) (by kernel_rfl) (fun _ _ _ h => nomatch h.1) (Or.inl ⟨by kernel_rfl, ?ya_9⟩) hHeld ?ra_9
      case ya_9 =>
        intro w hSw
        go_simp
        try with_reducible rfl
      try simp only [Act.put, List.getElem_toArray, List.getElem_cons_zero, List.getElem_cons_succ, List.setIfInBounds_toArray, List.set_cons_zero, List.set_cons_succ]
      refine wpAnyH_take (i := 10) (v := .int .i64 (oth : Int)) rfl (by kernel_rfl) (by kernel_rfl) (by kernel_rfl) (fun _ _ _ h => nomatch h.1) (Or.inl ⟨by kernel_rfl, ?ya_10⟩) hHeld ?ra_10
      case ya_10 =>
        intro w hSw
        go_simp
        try with_reducible rfl
      try simp only [Act.put, List.getElem_toArray, List.getElem_cons_zero, List.getElem_cons_succ, List.setIfInBounds_toArray, List.set_cons_zero, List.set_cons_succ]
      refine wpAnyH_take (i := 11) (v := .int .i64 (b : Int)) rfl (by kernel_rfl) (by kernel_rfl) (by kernel_rfl) (fun _ _ _ h => nomatch h.1) (Or.inl ⟨by kernel_rfl, ?ya_11⟩) hHeld ?ra_11
      case ya_11 =>
        intro w hSw
        go_simp
        try with_reducible rfl
      try simp only [Act.put, List.getElem_toArray, List.getElem_cons_zero, List.getElem_cons_succ, List.setIfInBounds_toArray, List.set_cons_zero, List.set_cons_succ]
      refine wpAnyH_take (i := 12) (v := .pointer (some ⟨s.nb, n * 11, none⟩)) rfl (by kernel_rfl) (by kernel_rfl) (by kernel_rfl) (fun _ _ _ h => nomatch h.1) (Or.inl ⟨by kernel_rfl, ?ya_12⟩) hHeld ?ra_12
      case ya_12 =>
        intro w hSw
        go_simp
        try with_reducible rfl
      try simp only [Act.put, List.getElem_toArray, List.getElem_cons_zero, List.getElem_cons_succ, List.setIfInBounds_toArray, List.set_cons_zero, List.set_cons_succ]
      refine wpAnyH_take (i := 13) (v := .pointer (some ⟨s.nb, n * 11 + 7, none⟩)) rfl (by kernel_rfl) (by kernel_rfl) (by kernel_rfl) (fun _ _ _ h => nomatch h.1) (Or.inl ⟨by kernel_rfl, ?ya_13⟩) hHeld ?ra_13
      case ya_13 =>
        intro w hSw
        go_simp
        try with_reducible rfl
      try simp only [Act.put, List.getElem_toArray, List.getElem_cons_zero, List.getElem_cons_succ, List.setIfInBounds_toArray, List.set_cons_zero, List.set_cons_succ]
      have fqax := HN10D.out.free
      have cqax := HN10D.out.cell hn (j := 7) (by decide)
      refine wpAnyH_ready (rs := [14]) (by kernel_rfl) (by simp) ?_
      refine AllReadyH.cons (o := _) rfl (fun K hK => ?_) AllReadyH.nil
      go_simp
      try dsimp only
      refine hK.out _ _ (hHeld.mod (Mod.set (S := (· = s.nb)) (Mod.refl _ _) (.inl rfl)) hne) (fun hHeld => ?_)
      clear hK K fqax cqax
      try simp only [Act.put, List.getElem_toArray, List.getElem_cons_zero, List.getElem_cons_succ, List.setIfInBounds_toArray, List.set_cons_zero, List.set_cons_succ]
      refine any_named ?_ hHeld
      clear hHeld
      rintro w11 hwn hHeld
      have HN10x : Hid (NT w11 s.nb s.cap s.nn (put1 (put1 M1 kid 6 (M n 6)) n 7 oth)) := Lib.hid (by rw [hwn]; exact HN10D.out.set hn (j := 7) (by decide) _)
      have HN10xM : Hid (Mod (· = s.nb) w10.drew w11) := Lib.hid (by rw [hwn]; exact Mod.set (Mod.refl _ _) (.inl rfl))
      clear hwn
      refine wpAnyH_take (i := 15) (v := .pointer (some ⟨s.nb, n * 11, none⟩)) rfl (by kernel_rfl) (by kernel_rfl) (by kernel_rfl) (fun _ _ _ h => nomatch h.1) (Or.inl ⟨by kernel_rfl, ?yaz_15⟩) hHeld ?raz_15
      case yaz_15 =>
        intro w hSw
        go_simp
        try with_reducible rfl
      try simp only [Act.put, List.getElem_toArray, List.getElem_cons_zero, List.getElem_cons_succ, List.setIfInBounds_toArray, List.set_cons_zero, List.set_cons_succ]
      refine wpAnyH_take (i := 16) (v := .pointer (some ⟨s.nb, n * 11 + 8, none⟩)) rfl (by kernel_rfl) (by kernel_rfl) (by kernel_rfl) (fun _ _ _ h => nomatch h.1) (Or.inl ⟨by kernel_rfl, ?yaz_16⟩) hHeld ?raz_16
      case yaz_16 =>
        intro w hSw
        go_simp
        try with_reducible rfl
      try simp only [Act.put, List.getElem_toArray, List.getElem_cons_zero, List.getElem_cons_succ, List.setIfInBounds_toArray, List.set_cons_zero, List.set_cons_succ]
      have fqay := HN10x.out.free
      have cqay := HN10x.out.cell hn (j := 8) (by decide)
      refine wpAnyH_ready (rs := [17]) (by kernel_rfl) (by simp) ?_
      refine AllReadyH.cons (o := _) rfl (fun K hK => ?_) AllReadyH.nil
      go_simp
      try dsimp only
      refine hK.out _ _ (hHeld.mod (Mod.set (S := (· = s.nb)) (Mod.refl _ _) (.inl rfl)) hne) (fun hHeld => ?_)
      clear hK K fqay cqay
      try simp only [Act.put, List.getElem_toArray, List.getElem_cons_zero, List.getElem_cons_succ, List.setIfInBounds_toArray, List.set_cons_zero, List.set_cons_succ]
      refine any_named ?_ hHeld
      clear hHeld
      rintro w12 hwn hHeld
      have HN10y : Hid (NT w12 s.nb s.cap s.nn (put1 (put1 (put1 M1 kid 6 (M n 6)) n 7 oth) n 8 b)) := Lib.hid (by rw [hwn]; exact HN10x.out.set hn (j := 8) (by decide) _)
      have HN10yM : Hid (Mod (· = s.nb) w11 w12) := Lib.hid (by rw [hwn]; exact Mod.set (Mod.refl _ _) (.inl rfl))
      clear hwn
      refine wpAnyH_done (by kernel_rfl) ?_ _
      refine ⟨rfl, ?_⟩
      try skip
      have HB12 : Hid (Blk w12 t #[.slice (some ⟨s.nb, 0, none⟩) s.nn s.cap, s.fv, .int .i64 rt, .bool s.som, .map (some s.lf), .map (some s.bx), .int .i64 s.fat]) := Lib.hid hHeld
      clear hHeld hSa
      go_upto_region 13 with fail
      have hSb : Blk w12.drew t #[.slice (some ⟨s.nb, 0, none⟩) s.nn s.cap, s.fv, .int .i64 rt, .bool s.som, .map (some s.lf), .map (some s.bx), .int .i64 s.fat] := (HB12.out).below (ext_drew (Below.refl _ _))
      have HN10yD : Hid (NT w12.drew s.nb s.cap s.nn (put1 (put1 (put1 M1 kid 6 (M n 6)) n 7 oth) n 8 b)) := Lib.hid (HN10y.out.below (ext_drew (Below.refl _ _)))
      refine Code.wp_mono (Q := NQ _) (fun e a w h => by obtain ⟨rfl, h⟩ := h; exact h) (wp_region_held_drew (S := fun w' => Blk w' t #[.slice (some ⟨s.nb, 0, none⟩) s.nn s.cap, s.fv, .int .i64 rt, .bool s.som, .map (some s.lf), .map (some s.bx), .int .i64 s.fat]) (by kernel_rfl) hSb (fun hHeld => ?_))
      refine wpAnyH_take (i := 0) (v := .pointer (some ⟨t, 0, none⟩)) rfl (by kernel_rfl) (by kernel_rfl) (by kernel_rfl) (fun _ _ _ h => nomatch h.1) (Or.inl ⟨by kernel_rfl, ?yb_0⟩) hHeld ?rb_0
      case yb_0 =>
        intro w hSw
        go_simp
        try with_reducible rfl
      try simp only [Act.put, List.getElem_toArray, List.getElem_cons_zero, List.setIfInBounds_toArray, List.set_cons_zero, List.set_cons_succ]
      refine wpAnyH_take (i := 1) (v := .pointer (some ⟨t, 0, none⟩)) rfl (by kernel_rfl) (by kernel_rfl) (by kernel_rfl) (fun _ _ _ h => nomatch h.1) (Or.inl ⟨by kernel_rfl, ?yb_1⟩) hHeld ?rb_1
      case yb_1 =>
        intro w hSw
        go_simp
        try with_reducible rfl
      try simp only [Act.put, List.getElem_toArray, List.getElem_cons_zero, List.getElem_cons_succ, List.setIfInBounds_toArray, List.set_cons_zero, List.set_cons_succ]
      refine wpAnyH_take (i := 2) (v := .pointer (some ⟨t, 0, none⟩)) rfl (by kernel_rfl) (by kernel_rfl) (by kernel_rfl) (fun _ _ _ h => nomatch h.1) (Or.inl ⟨by kernel_rfl, ?yb_2⟩) hHeld ?rb_2
      case yb_2 =>
        intro w hSw
        go_simp
        try with_reducible rfl
      try simp only [Act.put, List.getElem_toArray, List.getElem_cons_zero, List.getElem_cons_succ, List.setIfInBounds_toArray, List.set_cons_zero, List.set_cons_succ]
      refine wpAnyH_take (i := 3) (v := .slice (some ⟨s.nb, 0, none⟩) s.nn s.cap) rfl (by kernel_rfl) (by kernel_rfl) (by kernel_rfl) (fun _ _ _ h => nomatch h.1) (Or.inl ⟨by kernel_rfl, ?yb_3⟩) hHeld ?rb_3
      case yb_3 =>
        intro w hSw
        obtain ⟨zt, ct, ft⟩ := hSw
        go_simp
        try with_reducible rfl
      try simp only [Act.put, List.getElem_toArray, List.getElem_cons_zero, List.getElem_cons_succ, List.setIfInBounds_toArray, List.set_cons_zero, List.set_cons_succ]
      refine wpAnyH_take (i := 4) (v := .int .i64 (b : Int)) rfl (by kernel_rfl) (by kernel_rfl) (by kernel_rfl) (fun _ _ _ h => nomatch h.1) (Or.inl ⟨by kernel_rfl, ?yb_4⟩) hHeld ?rb_4
      case yb_4 =>
        intro w hSw
        go_simp
        try with_reducible rfl
      try simp only [Act.put, List.getElem_toArray, List.getElem_cons_zero, List.getElem_cons_succ, List.setIfInBounds_toArray, List.set_cons_zero, List.set_cons_succ]
      refine wpAnyH_take (i := 5) (v := .pointer (some ⟨t, 0, none⟩)) rfl (by kernel_rfl) (by kernel_rfl) (by kernel_rfl) (fun _ _ _ h => nomatch h.1) (Or.inl ⟨by kernel_rfl, ?yb_5⟩) hHeld ?rb_5
      case yb_5 =>
        intro w hSw
        go_simp
        try with_reducible rfl
      try simp only [Act.put, List.getElem_toArray, List.getElem_cons_zero, List.getElem_cons_succ, List.setIfInBounds_toArray, List.set_cons_zero, List.set_cons_succ]
      refine wpAnyH_take (i := 6) (v := .pointer (some ⟨t, 0, none⟩)) rfl (by kernel_rfl) (by kernel_rfl) (by kernel_rfl) (fun _ _ _ h => nomatch h.1) (Or.inl ⟨by kernel_rfl, ?yb_6⟩) hHeld ?rb_6
      case yb_6 =>
        intro w hSw
        go_simp
        try with_reducible rfl
      try simp only [Act.put, List.getElem_toArray, List.getElem_cons_zero, List.getElem_cons_succ, List.setIfInBounds_toArray, List.set_cons_zero, List.set_cons_succ]
      refine wpAnyH_take (i := 7) (v := .pointer (some ⟨t, 0, none⟩)) rfl (by kernel_rfl) (by kernel_rfl) (by kernel_rfl) (fun _ _ _ h => nomatch h.1) (Or.inl ⟨by kernel_rfl, ?yb_7⟩) hHeld ?rb_7
      case yb_7 =>
        intro w hSw
        go_simp
        try with_reducible rfl
      try simp only [Act.put, List.getElem_toArray, List.getElem_cons_zero, List.getElem_cons_succ, List.setIfInBounds_toArray, List.set_cons_zero, List.set_cons_succ]
      refine wpAnyH_take (i := 8) (v := .slice (some ⟨s.nb, 0, none⟩) s.nn s.cap) rfl (by kernel_rfl) (by kernel_rfl) (by kernel_rfl) (fun _ _ _ h => nomatch h.1) (Or.inl ⟨by kernel_rfl, ?yb_8⟩) hHeld ?rb_8
      case yb_8 =>
        intro w hSw
        obtain ⟨zt, ct, ft⟩ := hSw
        go_simp
        try with_reducible rfl
      try simp only [Act.put, List.getElem_toArray, List.getElem_cons_zero, List.getElem_cons_succ, List.setIfInBounds_toArray, List.set_cons_zero, List.set_cons_succ]
      refine wpAnyH_take (i := 9) (v := .int .i64 (n : Int)) rfl (by kernel_rfl) (by kernel_rfl) (by kernel_rfl) (fun _ _ _ h => nomatch h.1) (Or.inl ⟨by kernel_rfl, ?yb_9⟩) hHeld ?rb_9
      case yb_9 =>
        intro w hSw
        go_simp
        try with_reducible rfl
      try simp only [Act.put, List.getElem_toArray, List.getElem_cons_zero, List.getElem_cons_succ, List.setIfInBounds_toArray, List.set_cons_zero, List.set_cons_succ]
      refine wpAnyH_take (i := 10) (v := .int .i64 (n : Int)) rfl (by kernel_rfl) (by kernel_rfl) (by kernel_rfl) (fun _ _ _ h => nomatch h.1) (Or.inl ⟨by kernel_rfl, ?yb_10⟩) hHeld ?rb_10
      case yb_10 =>
        intro w hSw
        go_simp
        try with_reducible rfl
      try simp only [Act.put, List.getElem_toArray, List.getElem_cons_zero, List.getElem_cons_succ, List.setIfInBounds_toArray, List.set_cons_zero, List.set_cons_succ]
      refine wpAnyH_take (i := 11) (v := .int .i64 (kid : Int)) rfl (by kernel_rfl) (by kernel_rfl) (by kernel_rfl) (fun _ _ _ h => nomatch h.1) (Or.inl ⟨by kernel_rfl, ?yb_11⟩) hHeld ?rb_11
      case yb_11 =>
        intro w hSw
        go_simp
        try with_reducible rfl
      try simp only [Act.put, List.getElem_toArray, List.getElem_cons_zero, List.getElem_cons_succ, List.setIfInBounds_toArray, List.set_cons_zero, List.set_cons_succ]
      refine wpAnyH_take (i := 12) (v := .pointer (some ⟨s.nb, b * 11, none⟩)) rfl (by kernel_rfl) (by kernel_rfl) (by kernel_rfl) (fun _ _ _ h => nomatch h.1) (Or.inl ⟨by kernel_rfl, ?yb_12⟩) hHeld ?rb_12
      case yb_12 =>
        intro w hSw
        go_simp
        try with_reducible rfl
      try simp only [Act.put, List.getElem_toArray, List.getElem_cons_zero, List.getElem_cons_succ, List.setIfInBounds_toArray, List.set_cons_zero, List.set_cons_succ]
      refine wpAnyH_take (i := 13) (v := .pointer (some ⟨s.nb, b * 11 + 6, none⟩)) rfl (by kernel_rfl) (by kernel_rfl) (by kernel_rfl) (fun _ _ _ h => nomatch h.1) (Or.inl ⟨by kernel_rfl, ?yb_13⟩) hHeld ?rb_13
      case yb_13 =>
        intro w hSw
        go_simp
        try with_reducible rfl
      try simp only [Act.put, List.getElem_toArray, List.getElem_cons_zero, List.getElem_cons_succ, List.setIfInBounds_toArray, List.set_cons_zero, List.set_cons_succ]
      have fqbx := HN10yD.out.free
      have cqbx := HN10yD.out.cell hbl (j := 6) (by decide)
      refine wpAnyH_ready (rs := [14]) (by kernel_rfl) (by simp) ?_
      refine AllReadyH.cons (o := _) rfl (fun K hK => ?_) AllReadyH.nil
      go_simp
      try dsimp only
      refine hK.out _ _ (hHeld.mod (Mod.set (S := (· = s.nb)) (Mod.refl _ _) (.inl rfl)) hne) (fun hHeld => ?_)
      clear hK K fqbx cqbx
      try simp only [Act.put, List.getElem_toArray, List.getElem_cons_zero, List.getElem_cons_succ, List.setIfInBounds_toArray, List.set_cons_zero, List.set_cons_succ]
      refine any_named ?_ hHeld
      clear hHeld
      rintro w13 hwn hHeld
      have HN10yx : Hid (NT w13 s.nb s.cap s.nn (put1 (put1 (put1 (put1 M1 kid 6 (M n 6)) n 7 oth) n 8 b) b 6 n)) := Lib.hid (by rw [hwn]; exact HN10yD.out.set hbl (j := 6) (by decide) _)
      have HN10yxM : Hid (Mod (· = s.nb) w12.drew w13) := Lib.hid (by rw [hwn]; exact Mod.set (Mod.refl _ _) (.inl rfl))
      clear hwn
      refine wpAnyH_take (i := 15) (v := .pointer (some ⟨s.nb, n * 11, none⟩)) rfl (by kernel_rfl) (by kernel_rfl) (by kernel_rfl) (fun _ _ _ h => nomatch h.1) (Or.inl ⟨by kernel_rfl, ?ybz_15⟩) hHeld ?rbz_15
      case ybz_15 =>
        intro w hSw
        go_simp
        try with_reducible rfl
      try simp only [Act.put, List.getElem_toArray, List.getElem_cons_zero, List.getElem_cons_succ, List.setIfInBounds_toArray, List.set_cons_zero, List.set_cons_succ]
      refine wpAnyH_take (i := 16) (v := .pointer (some ⟨s.nb, n * 11 + 6, none⟩)) rfl (by kernel_rfl) (by kernel_rfl) (by kernel_rfl) (fun _ _ _ h => nomatch h.1) (Or.inl ⟨by kernel_rfl, ?ybz_16⟩) hHeld ?rbz_16
      case ybz_16 =>
        intro w hSw
        go_simp
        try with_reducible rfl
      try simp only [Act.put, List.getElem_toArray, List.getElem_cons_zero, List.getElem_cons_succ, List.setIfInBounds_toArray, List.set_cons_zero, List.set_cons_succ]
      have fqby := HN10yx.out.free
      have cqby := HN10yx.out.cell hn (j := 6) (by decide)
      refine wpAnyH_ready (rs := [17]) (by kernel_rfl) (by simp) ?_
      refine AllReadyH.cons (o := _) rfl (fun K hK => ?_) AllReadyH.nil
      go_simp
      try dsimp only
      refine hK.out _ _ (hHeld.mod (Mod.set (S := (· = s.nb)) (Mod.refl _ _) (.inl rfl)) hne) (fun hHeld => ?_)
      clear hK K fqby cqby
      try simp only [Act.put, List.getElem_toArray, List.getElem_cons_zero, List.getElem_cons_succ, List.setIfInBounds_toArray, List.set_cons_zero, List.set_cons_succ]
      refine any_named ?_ hHeld
      clear hHeld
      rintro w14 hwn hHeld
      have HN10yy : Hid (NT w14 s.nb s.cap s.nn (put1 (put1 (put1 (put1 (put1 M1 kid 6 (M n 6)) n 7 oth) n 8 b) b 6 n) n 6 kid)) := Lib.hid (by rw [hwn]; exact HN10yx.out.set hn (j := 6) (by decide) _)
      have HN10yyM : Hid (Mod (· = s.nb) w13 w14) := Lib.hid (by rw [hwn]; exact Mod.set (Mod.refl _ _) (.inl rfl))
      clear hwn
      refine wpAnyH_done (by kernel_rfl) ?_ _
      refine ⟨rfl, ?_⟩
      try skip
      have HB14 : Hid (Blk w14 t #[.slice (some ⟨s.nb, 0, none⟩) s.nn s.cap, s.fv, .int .i64 rt, .bool s.som, .map (some s.lf), .map (some s.bx), .int .i64 s.fat]) := Lib.hid hHeld
      clear hHeld hSb
      go_upto_region 14 with fail
      have hSc : Blk w14.drew t #[.slice (some ⟨s.nb, 0, none⟩) s.nn s.cap, s.fv, .int .i64 rt, .bool s.som, .map (some s.lf), .map (some s.bx), .int .i64 s.fat] := (HB14.out).below (ext_drew (Below.refl _ _))
      have HN10yyD : Hid (NT w14.drew s.nb s.cap s.nn (put1 (put1 (put1 (put1 (put1 M1 kid 6 (M n 6)) n 7 oth) n 8 b) b 6 n) n 6 kid)) := Lib.hid (HN10yy.out.below (ext_drew (Below.refl _ _)))
      refine Code.wp_mono (Q := NQ _) (fun e a w h => by obtain ⟨rfl, h⟩ := h; exact h) (wp_region_held_drew (S := fun w' => Blk w' t #[.slice (some ⟨s.nb, 0, none⟩) s.nn s.cap, s.fv, .int .i64 rt, .bool s.som, .map (some s.lf), .map (some s.bx), .int .i64 s.fat]) (by kernel_rfl) hSc (fun hHeld => ?_))
      refine wpAnyH_take (i := 0) (v := .pointer (some ⟨t, 0, none⟩)) rfl (by kernel_rfl) (by kernel_rfl) (by kernel_rfl) (fun _ _ _ h => nomatch h.1) (Or.inl ⟨by kernel_rfl, ?yc_0⟩) hHeld ?rc_0
      case yc_0 =>
        intro w hSw
        go_simp
        try with_reducible rfl
      try simp only [Act.put, List.getElem_toArray, List.getElem_cons_zero, List.setIfInBounds_toArray, List.set_cons_zero, List.set_cons_succ]
      refine wpAnyH_take (i := 1) (v := .pointer (some ⟨t, 0, none⟩)) rfl (by kernel_rfl) (by kernel_rfl) (by kernel_rfl) (fun _ _ _ h => nomatch h.1) (Or.inl ⟨by kernel_rfl, ?yc_1⟩) hHeld ?rc_1
      case yc_1 =>
        intro w hSw
        go_simp
        try with_reducible rfl
      try simp only [Act.put, List.getElem_toArray, List.getElem_cons_zero, List.getElem_cons_succ, List.setIfInBounds_toArray, List.set_cons_zero, List.set_cons_succ]
      refine wpAnyH_take (i := 2) (v := .pointer (some ⟨t, 0, none⟩)) rfl (by kernel_rfl) (by kernel_rfl) (by kernel_rfl) (fun _ _ _ h => nomatch h.1) (Or.inl ⟨by kernel_rfl, ?yc_2⟩) hHeld ?rc_2
      case yc_2 =>
        intro w hSw
        go_simp
        try with_reducible rfl
      try simp only [Act.put, List.getElem_toArray, List.getElem_cons_zero, List.getElem_cons_succ, List.setIfInBounds_toArray, List.set_cons_zero, List.set_cons_succ]
      refine wpAnyH_take (i := 3) (v := .slice (some ⟨s.nb, 0, none⟩) s.nn s.cap) rfl (by kernel_rfl) (by kernel_rfl) (by kernel_rfl) (fun _ _ _ h => nomatch h.1) (Or.inl ⟨by kernel_rfl, ?yc_3⟩) hHeld ?rc_3
      case yc_3 =>
        intro w hSw
        obtain ⟨zt, ct, ft⟩ := hSw
        go_simp
        try with_reducible rfl
      try simp only [Act.put, List.getElem_toArray, List.getElem_cons_zero, List.getElem_cons_succ, List.setIfInBounds_toArray, List.set_cons_zero, List.set_cons_succ]
      refine wpAnyH_take (i := 4) (v := .int .i64 (kid : Int)) rfl (by kernel_rfl) (by kernel_rfl) (by kernel_rfl) (fun _ _ _ h => nomatch h.1) (Or.inl ⟨by kernel_rfl, ?yc_4⟩) hHeld ?rc_4
      case yc_4 =>
        intro w hSw
        go_simp
        try with_reducible rfl
      try simp only [Act.put, List.getElem_toArray, List.getElem_cons_zero, List.getElem_cons_succ, List.setIfInBounds_toArray, List.set_cons_zero, List.set_cons_succ]
      refine wpAnyH_take (i := 5) (v := .pointer (some ⟨t, 0, none⟩)) rfl (by kernel_rfl) (by kernel_rfl) (by kernel_rfl) (fun _ _ _ h => nomatch h.1) (Or.inl ⟨by kernel_rfl, ?yc_5⟩) hHeld ?rc_5
      case yc_5 =>
        intro w hSw
        go_simp
        try with_reducible rfl
      try simp only [Act.put, List.getElem_toArray, List.getElem_cons_zero, List.getElem_cons_succ, List.setIfInBounds_toArray, List.set_cons_zero, List.set_cons_succ]
      refine wpAnyH_take (i := 6) (v := .pointer (some ⟨t, 0, none⟩)) rfl (by kernel_rfl) (by kernel_rfl) (by kernel_rfl) (fun _ _ _ h => nomatch h.1) (Or.inl ⟨by kernel_rfl, ?yc_6⟩) hHeld ?rc_6
      case yc_6 =>
        intro w hSw
        go_simp
        try with_reducible rfl
      try simp only [Act.put, List.getElem_toArray, List.getElem_cons_zero, List.getElem_cons_succ, List.setIfInBounds_toArray, List.set_cons_zero, List.set_cons_succ]
      refine wpAnyH_take (i := 7) (v := .pointer (some ⟨t, 0, none⟩)) rfl (by kernel_rfl) (by kernel_rfl) (by kernel_rfl) (fun _ _ _ h => nomatch h.1) (Or.inl ⟨by kernel_rfl, ?yc_7⟩) hHeld ?rc_7
      case yc_7 =>
        intro w hSw
        go_simp
        try with_reducible rfl
      try simp only [Act.put, List.getElem_toArray, List.getElem_cons_zero, List.getElem_cons_succ, List.setIfInBounds_toArray, List.set_cons_zero, List.set_cons_succ]
      refine wpAnyH_take (i := 8) (v := .slice (some ⟨s.nb, 0, none⟩) s.nn s.cap) rfl (by kernel_rfl) (by kernel_rfl) (by kernel_rfl) (fun _ _ _ h => nomatch h.1) (Or.inl ⟨by kernel_rfl, ?yc_8⟩) hHeld ?rc_8
      case yc_8 =>
        intro w hSw
        obtain ⟨zt, ct, ft⟩ := hSw
        go_simp
        try with_reducible rfl
      try simp only [Act.put, List.getElem_toArray, List.getElem_cons_zero, List.getElem_cons_succ, List.setIfInBounds_toArray, List.set_cons_zero, List.set_cons_succ]
      refine wpAnyH_take (i := 9) (v := .int .i64 (kid : Int)) rfl (by kernel_rfl) (by kernel_rfl) (by kernel_rfl) (fun _ _ _ h => nomatch h.1) (Or.inl ⟨by kernel_rfl, ?yc_9⟩) hHeld ?rc_9
      case yc_9 =>
        intro w hSw
        go_simp
        try with_reducible rfl
      try simp only [Act.put, List.getElem_toArray, List.getElem_cons_zero, List.getElem_cons_succ, List.setIfInBounds_toArray, List.set_cons_zero, List.set_cons_succ]
      refine wpAnyH_take (i := 10) (v := .int .i64 (a : Int)) rfl (by kernel_rfl) (by kernel_rfl) (by kernel_rfl) (fun _ _ _ h => nomatch h.1) (Or.inl ⟨by kernel_rfl, ?yc_10⟩) hHeld ?rc_10
      case yc_10 =>
        intro w hSw
        go_simp
        try with_reducible rfl
      try simp only [Act.put, List.getElem_toArray, List.getElem_cons_zero, List.getElem_cons_succ, List.setIfInBounds_toArray, List.set_cons_zero, List.set_cons_succ]
      refine wpAnyH_take (i := 11) (v := .int .i64 (n : Int)) rfl (by kernel_rfl) (by kernel_rfl) (by kernel_rfl) (fun _ _ _ h => nomatch h.1) (Or.inl ⟨by kernel_rfl, ?yc_11⟩) hHeld ?rc_11
      case yc_11 =>
        intro w hSw
        go_simp
        try with_reducible rfl
      try simp only [Act.put, List.getElem_toArray, List.getElem_cons_zero, List.getElem_cons_succ, List.setIfInBounds_toArray, List.set_cons_zero, List.set_cons_succ]
      refine wpAnyH_take (i := 12) (v := .pointer (some ⟨s.nb, kid * 11, none⟩)) rfl (by kernel_rfl) (by kernel_rfl) (by kernel_rfl) (fun _ _ _ h => nomatch h.1) (Or.inl ⟨by kernel_rfl, ?yc_12⟩) hHeld ?rc_12
      case yc_12 =>
        intro w hSw
        go_simp
        try with_reducible rfl
      try simp only [Act.put, List.getElem_toArray, List.getElem_cons_zero, List.getElem_cons_succ, List.setIfInBounds_toArray, List.set_cons_zero, List.set_cons_succ]
      refine wpAnyH_take (i := 13) (v := .pointer (some ⟨s.nb, kid * 11 + 7, none⟩)) rfl (by kernel_rfl) (by kernel_rfl) (by kernel_rfl) (fun _ _ _ h => nomatch h.1) (Or.inl ⟨by kernel_rfl, ?yc_13⟩) hHeld ?rc_13
      case yc_13 =>
        intro w hSw
        go_simp
        try with_reducible rfl
      try simp only [Act.put, List.getElem_toArray, List.getElem_cons_zero, List.getElem_cons_succ, List.setIfInBounds_toArray, List.set_cons_zero, List.set_cons_succ]
      have fqcx := HN10yyD.out.free
      have cqcx := HN10yyD.out.cell hkl (j := 7) (by decide)
      refine wpAnyH_ready (rs := [14]) (by kernel_rfl) (by simp) ?_
      refine AllReadyH.cons (o := _) rfl (fun K hK => ?_) AllReadyH.nil
      go_simp
      try dsimp only
      refine hK.out _ _ (hHeld.mod (Mod.set (S := (· = s.nb)) (Mod.refl _ _) (.inl rfl)) hne) (fun hHeld => ?_)
      clear hK K fqcx cqcx
      try simp only [Act.put, List.getElem_toArray, List.getElem_cons_zero, List.getElem_cons_succ, List.setIfInBounds_toArray, List.set_cons_zero, List.set_cons_succ]
      refine any_named ?_ hHeld
      clear hHeld
      rintro w15 hwn hHeld
      have HN10yyx : Hid (NT w15 s.nb s.cap s.nn (put1 (put1 (put1 (put1 (put1 (put1 M1 kid 6 (M n 6)) n 7 oth) n 8 b) b 6 n) n 6 kid) kid 7 a)) := Lib.hid (by rw [hwn]; exact HN10yyD.out.set hkl (j := 7) (by decide) _)
      have HN10yyxM : Hid (Mod (· = s.nb) w14.drew w15) := Lib.hid (by rw [hwn]; exact Mod.set (Mod.refl _ _) (.inl rfl))
      clear hwn
      refine wpAnyH_take (i := 15) (v := .pointer (some ⟨s.nb, kid * 11, none⟩)) rfl (by kernel_rfl) (by kernel_rfl) (by kernel_rfl) (fun _ _ _ h => nomatch h.1) (Or.inl ⟨by kernel_rfl, ?ycz_15⟩) hHeld ?rcz_15
      case ycz_15 =>
        intro w hSw
        go_simp
        try with_reducible rfl
      try simp only [Act.put, List.getElem_toArray, List.getElem_cons_zero, List.getElem_cons_succ, List.setIfInBounds_toArray, List.set_cons_zero, List.set_cons_succ]
      refine wpAnyH_take (i := 16) (v := .pointer (some ⟨s.nb, kid * 11 + 8, none⟩)) rfl (by kernel_rfl) (by kernel_rfl) (by kernel_rfl) (fun _ _ _ h => nomatch h.1) (Or.inl ⟨by kernel_rfl, ?ycz_16⟩) hHeld ?rcz_16
      case ycz_16 =>
        intro w hSw
        go_simp
        try with_reducible rfl
      try simp only [Act.put, List.getElem_toArray, List.getElem_cons_zero, List.getElem_cons_succ, List.setIfInBounds_toArray, List.set_cons_zero, List.set_cons_succ]
      have fqcy := HN10yyx.out.free
      have cqcy := HN10yyx.out.cell hkl (j := 8) (by decide)
      refine wpAnyH_ready (rs := [17]) (by kernel_rfl) (by simp) ?_
      refine AllReadyH.cons (o := _) rfl (fun K hK => ?_) AllReadyH.nil
      go_simp
      try dsimp only
      refine hK.out _ _ (hHeld.mod (Mod.set (S := (· = s.nb)) (Mod.refl _ _) (.inl rfl)) hne) (fun hHeld => ?_)
      clear hK K fqcy cqcy
      try simp only [Act.put, List.getElem_toArray, List.getElem_cons_zero, List.getElem_cons_succ, List.setIfInBounds_toArray, List.set_cons_zero, List.set_cons_succ]
      refine any_named ?_ hHeld
      clear hHeld
      rintro w16 hwn hHeld
      have HN10yyy : Hid (NT w16 s.nb s.cap s.nn (put1 (put1 (put1 (put1 (put1 (put1 (put1 M1 kid 6 (M n 6)) n 7 oth) n 8 b) b 6 n) n 6 kid) kid 7 a) kid 8 n)) := Lib.hid (by rw [hwn]; exact HN10yyx.out.set hkl (j := 8) (by decide) _)
      have HN10yyyM : Hid (Mod (· = s.nb) w15 w16) := Lib.hid (by rw [hwn]; exact Mod.set (Mod.refl _ _) (.inl rfl))
      clear hwn
      refine wpAnyH_done (by kernel_rfl) ?_ _
      refine ⟨rfl, ?_⟩
      try skip
      have HB16 : Hid (Blk w16 t #[.slice (some ⟨s.nb, 0, none⟩) s.nn s.cap, s.fv, .int .i64 rt, .bool s.som, .map (some s.lf), .map (some s.bx), .int .i64 s.fat]) := Lib.hid hHeld
      clear hHeld hSc
      go_wp2_with fail
      refine (fit_c _ t { s with root := rt } (put1 (put1 (put1 (put1 (put1 (put1 (put1 M1 kid 6 (M n 6)) n 7 oth) n 8 b) b 6 n) n 6 kid) kid 7 a) kid 8 n) n oth b HB16.out HN10yyy.out hne hn ?f7 ?f8 hol hbl hno hnb' ?fh).mono ?_
      case f7 => simp [put1, hnk]
      case f8 => simp [put1, hnk]
      case fh =>
        have e : ∀ x, put1 (put1 (put1 (put1 (put1 (put1 (put1 M1 kid 6 (M n 6)) n 7 oth) n 8 b) b 6 n) n 6 kid) kid 7 a) kid 8 n x 10 = M x 10 := fun x => by
          rw [HRT.out.2]
          unfold hangM
          split
          · simp [put1]
          · split <;> simp [put1]
        rw [e, e]
        have h1 := hh oth hol
        have h2 := hh b hbl
        exact ⟨h1.1, h1.2, h2.1, h2.2⟩
      rintro e17 w17 ⟨rfl, hB17, hN17, hM17⟩
      go_wp2
      go_ret
      have hmm : Mod (fun x => x = t ∨ x = s.nb) w w17 := (((((((((Mod.of_below HV7.out).trans HM8.out).trans ((Mod.of_below HV9.out).trans (HM10.out.mono fun _ _ e => .inr e))).trans (((Mod.of_below (ext_drew (Below.refl _ _))).trans HN10xM.out).trans HN10yM.out |>.mono fun _ _ e => .inr e)).trans (((Mod.of_below (ext_drew (Below.refl _ _))).trans HN10yxM.out).trans HN10yyM.out |>.mono fun _ _ e => .inr e)).trans (((Mod.of_below (ext_drew (Below.refl _ _))).trans HN10yyxM.out).trans HN10yyyM.out |>.mono fun _ _ e => .inr e))).trans (hM17.mono fun _ _ e => .inr e)))
      refine ⟨(by rw [← HK.out.1]; rfl), ?_, ?_, hmm⟩
      · rw [← HK.out.1, ← HRT.out.1]
        exact hB17
      · rw [← HK.out.1, ← HK.out.2, ← HAB.out.1, ← HAB.out.2]
        unfold turnM
        rw [← HRT.out.2]
        exact hN17
end Go.Proofs.YtniahipadfgkbaaGreat
