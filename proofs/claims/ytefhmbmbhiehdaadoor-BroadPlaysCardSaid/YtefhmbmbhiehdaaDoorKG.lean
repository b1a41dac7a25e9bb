/- hang, fit of broad.Tree. Conditions: none. -/
import Derived.Test.YtefhmbmbhiehdaaDoorKA
import Derived.Test.YtefhmbmbhiehdaaDoorKIdel
import Derived.Test.YtefhmbmbhiehdaaDoorKIseeP
import Derived.Test.YtefhmbmbhiehdaaDoorKHeldA
import Derived.Test.YtefhmbmbhiehdaaDoorKLate
import Derived.Test.YtefhmbmbhiehdaaDoorKApp
import Derived.Test.YtefhmbmbhiehdaaDoorKBoxes2
namespace Go.Proofs.YtefhmbmbhiehdaaDoor
open Go Go.Maps Go.RowKit Go.BigFrame Go.ChangeShapes Go.WideShapes
theorem rowsL_set (M : Nat → Nat → Int) {c n k j : Nat} (hk : k < n) (hj : j < c) (v : Int) : (rowsL M c n).set (k * c + j) (.int .i64 v) = rowsL (put1 M k j v) c n := by
  apply List.ext_getElem?
  intro i
  have hlt : k * c + j < n * c := by
    have h1 : (k + 1) * c ≤ n * c := Nat.mul_le_mul_right c hk
    rw [Nat.add_mul, Nat.one_mul] at h1
    omega
  rw [List.getElem?_set]
  by_cases e : k * c + j = i
  · subst e
    rw [if_pos rfl, rowsL_length, if_pos hlt, rowsL_get _ hk hj, put1_same]
  · rw [if_neg e]
    rcases Nat.lt_or_ge i (n * c) with hi | hi
    · have hc : 0 < c := by omega
      have h1 : i / c < n := (Nat.div_lt_iff_lt_mul hc).2 hi
      have h2 : i % c < c := Nat.mod_lt _ hc
      have h3 : i = i / c * c + i % c := by have := Nat.div_add_mod i c; rw [Nat.mul_comm] at this; omega
      rw [h3, rowsL_get _ h1 h2, rowsL_get _ h1 h2]
      congr 2
      unfold put1
      rw [if_neg]
      rintro ⟨e1, e2⟩
      exact e (by rw [← e1, ← e2]; omega)
    · rw [List.getElem?_eq_none (by rw [rowsL_length]; omega), List.getElem?_eq_none (by rw [rowsL_length]; omega)]
/-- the table of nodes: block b holds nn rows of eleven numbers -/
def NT (w : World) (b cap nn : Nat) (M : Nat → Nat → Int) : Prop := w.ownsRow 0 63 11 (.slice (some ⟨b, 0, none⟩) nn cap) nn (rowsL M 11 nn)
section
variable {w w' : World} {b cap nn : Nat} {M : Nat → Nat → Int}
theorem NT.cell (h : NT w b cap nn M) {k j : Nat} (hk : k < nn) (hj : j < 11) : w.cell? ⟨b, k * 11 + j, none⟩ = some (.int .i64 (M k j)) := by
  rcases h.2 with ⟨e1, _⟩ | ⟨g', cap', cur, e1, _, e3, _, _, _, e7⟩
  · cases e1
  · cases e1
    unfold World.cell?
    rw [e3]
    have h1 : (cur.toList.take (nn * 11))[k * 11 + j]? = (rowsL M 11 nn)[k * 11 + j]? := by rw [e7]
    rw [List.getElem?_take_of_lt (by omega), rowsL_get _ hk hj] at h1
    simpa using h1
theorem NT.free (h : NT w b cap nn M) (o : Nat) : w.frozen? ⟨b, o, none⟩ = false := by
  rcases h.2 with ⟨e1, _⟩ | ⟨g', cap', cur, e1, _, e3, _⟩
  · cases e1
  · cases e1
    simp [World.frozen?, e3]
theorem NT.lt (h : NT w b cap nn M) : b < w.heap.size := (row_lt h rfl).1
theorem NT.mod {S : Nat → Prop} (h : NT w b cap nn M) (k : Mod S w w') (hs : ¬ S b) : NT w' b cap nn M := row_mod h k (fun x e => by cases e; exact hs)
theorem NT.below (h : NT w b cap nn M) (k : Below w.heap.size w w') : NT w' b cap nn M := row_below h k
theorem NT.set (h : NT w b cap nn M) {k j : Nat} (hk : k < nn) (hj : j < 11) (v : Int) : NT (w.setCell ⟨b, k * 11 + j, none⟩ (.int .i64 v)) b cap nn (put1 M k j v) := by
  have hlt : k * 11 + j < (rowsL M 11 nn).length := by rw [rowsL_length]; omega
  have := row_set (x := .int .i64 v) h hlt
  rw [rowsL_set M hk hj v] at this
  exact this
theorem NT.as {M' : Nat → Nat → Int} (h : NT w b cap nn M) (e : M = M') : NT w b cap nn M' := e ▸ h
end
/-- the tree's own cells -/
structure BT where
  nb : Nat
  cap : Nat
  nn : Nat
  fv : Value
  root : Int
  som : Bool
  lf : Nat
  bx : Nat
  fat : Int
def BT.cs (s : BT) : Array Value := #[.slice (some ⟨s.nb, 0, none⟩) s.nn s.cap, s.fv, .int .i64 s.root, .bool s.som, .map (some s.lf), .map (some s.bx), .int .i64 s.fat]
/-- hang: another one in a node's place, below a third one -/
def hangM (M : Nat → Nat → Int) (up was is : Int) : Nat → Nat → Int := if up < 0 then M else if M up.toNat 7 = was then put1 M up.toNat 7 is else put1 M up.toNat 8 is
def hangR (root up is : Int) : Int := if up < 0 then is else root
end Go.Proofs.YtefhmbmbhiehdaaDoor
namespace Go.Proofs.YtefhmbmbhiehdaaDoor
open Go Go.Maps Go.RowKit Go.BigFrame Go.ChangeShapes Go.WideShapes
theorem wrap_in {n : Int} (h1 : -9223372036854775808 ≤ n) (h2 : n ≤ 9223372036854775807) : IntKind.i64.wrap n = n := by
  have e : (2 : Int) ^ 64 = 18446744073709551616 := by decide
  have e2 : (2 : Int) ^ (64 - 1) = 9223372036854775808 := by decide
  simp only [IntKind.wrap, IntKind.signed, IntKind.bits, e, e2, Bool.true_and, decide_eq_true_eq]
  split <;> omega
theorem blk_asB {w : World} {b : Nat} {cs cs' : Array Value} (h : Blk w b cs) (e : cs = cs') : Blk w b cs' := e ▸ h
def HangPost (w : World) (t : Nat) (s : BT) (M : Nat → Nat → Int) (up was is : Int) (e : Ending) (w' : World) : Prop :=
  e = .returned (.tuple #[]) ∧ Blk w' t { s with root := hangR s.root up is }.cs ∧ NT w' s.nb s.cap s.nn (hangM M up was is) ∧ Mod (fun x => x = t ∨ x = s.nb) w w'
set_option maxRecDepth 100000 in
set_option maxHeartbeats 4000000 in
theorem hang_c (w : World) (t : Nat) (s : BT) (M : Nat → Nat → Int) (up was is : Int) (hB : Blk w t s.cs) (hN : NT w s.nb s.cap s.nn M) (hne : t ≠ s.nb) (hup : up < (s.nn : Int)) :
    Calls Tryd.prog 31 #[.pointer (some ⟨t, 0, none⟩), .int .i64 up, .int .i64 was, .int .i64 is] w (HangPost w t s M up was is) := by
  have HB : Hid (Blk w t #[.slice (some ⟨s.nb, 0, none⟩) s.nn s.cap, s.fv, .int .i64 s.root, .bool s.som, .map (some s.lf), .map (some s.bx), .int .i64 s.fat]) := Lib.hid hB
  have HN := Lib.hid hN
  clear hB hN
  obtain ⟨zt, ct, ft⟩ := id HB.out
  by_cases h0 : up < 0
  · have d0 : decide (up < 0) = true := decide_eq_true h0
    have HR : Hid (hangR s.root up is = is ∧ hangM M up was is = M) := Lib.hid ⟨by unfold hangR; rw [if_pos h0], by unfold hangM; rw [if_pos h0]⟩
    clear h0
    go_enter Tryd.func31, Tryd.ntmps31
    go_wp2
    go_end0
    refine ⟨rfl, ?_, ?_, Mod.set (Mod.refl _ _) (.inl (.inl rfl))⟩
    · rw [HR.out.1]
      exact Blk.put (i := 2) HB.out
    · rw [HR.out.2]
      exact HN.out.mod (Mod.set (S := (· = t)) (Mod.refl _ _) (.inl rfl)) (fun e => hne e.symm)
  · obtain ⟨u, hu⟩ : ∃ u : Nat, up = (u : Int) := ⟨up.toNat, by omega⟩
    subst hu
    have d0 : decide ((u : Int) < 0) = false := decide_eq_false h0
    have hul : u < s.nn := by omega
    have q7 := HN.out.cell hul (j := 7) (by decide)
    have q8 := HN.out.cell hul (j := 8) (by decide)
    have fq := HN.out.free
    cases hq : (M u 7 == was) with
    | true =>
      have HR : Hid (hangR s.root u is = s.root ∧ hangM M u was is = put1 M u 7 is) := Lib.hid ⟨by unfold hangR; rw [if_neg h0], by unfold hangM; rw [if_neg h0, Int.toNat_natCast, if_pos (by simpa using hq)]⟩
      clear h0
      go_enter Tryd.func31, Tryd.ntmps31
      go_wp2
      go_end0
      refine ⟨rfl, ?_, ?_, Mod.set (Mod.refl _ _) (.inl (.inr rfl))⟩
      · rw [HR.out.1]
        exact Blk.far (fun e => hne e.symm) HB.out
      · rw [HR.out.2]
        exact HN.out.set hul (j := 7) (by decide) is
    | false =>
      have HR : Hid (hangR s.root u is = s.root ∧ hangM M u was is = put1 M u 8 is) := Lib.hid ⟨by unfold hangR; rw [if_neg h0], by unfold hangM; rw [if_neg h0, Int.toNat_natCast, if_neg (by simpa using hq)]⟩
      clear h0
      go_enter Tryd.func31, Tryd.ntmps31
      go_wp2
      go_end0
      refine ⟨rfl, ?_, ?_, Mod.set (Mod.refl _ _) (.inl (.inr rfl))⟩
      · rw [HR.out.1]
        exact Blk.far (fun e => hne e.symm) HB.out
      · rw [HR.out.2]
        exact HN.out.set hul (j := 8) (by decide) is
/-- the rows of all others than n -/
def SF (b nn n : Nat) (M : Nat → Nat → Int) (w : World) : Prop := ∀ k, k ≠ n → k < nn → ∀ j, j < 11 → w.cell? ⟨b, k * 11 + j, none⟩ = some (.int .i64 (M k j))
theorem SF.below {b nn n : Nat} {M : Nat → Nat → Int} {w w' : World} (h : SF b nn n M w) (k : Below w.heap.size w w') : SF b nn n M w' := fun i hi hin j hj => by
  have h1 := h i hi hin j hj
  exact (k.cell (p := ⟨b, i * 11 + j, none⟩) (World.block_lt_of_cell? w _ h1)).trans h1
theorem SF.set {b nn n : Nat} {M : Nat → Nat → Int} {w : World} (h : SF b nn n M w) (_hn : n < nn) {j : Nat} (hj : j < 11) (v : Value) : SF b nn n M (w.setCell ⟨b, n * 11 + j, none⟩ v) := fun i hi hin j' hj' => by
  rw [World.cell?_setCell_other w _ _ _ (fun e => hi (by
    have e1 := congrArg Addr.off e
    simp only at e1
    first | exact (place_inj hj' hj e1).1 | exact (place_inj hj' hj e1.symm).1))]
  exact h i hi hin j' hj'
/-- fit: a node's box, and height, out of its two kids' -/
def fitM (M : Nat → Nat → Int) (n : Nat) : Nat → Nat → Int :=
  let l := (M n 7).toNat
  let r := (M n 8).toNat
  put1 (put1 (put1 (put1 (put1 (put1 (put1 M n 0 (min (M l 0) (M r 0))) n 1 (min (M l 1) (M r 1))) n 2 (min (M l 2) (M r 2))) n 3 (max (M l 3) (M r 3))) n 4 (max (M l 4) (M r 4))) n 5 (max (M l 5) (M r 5))) n 10 (1 + max (M l 10) (M r 10))
def FitPost (w : World) (t : Nat) (s : BT) (M : Nat → Nat → Int) (n : Nat) (e : Ending) (w' : World) : Prop :=
  e = .returned (.tuple #[]) ∧ Blk w' t s.cs ∧ NT w' s.nb s.cap s.nn (fitM M n) ∧ Mod (fun x => x = s.nb) w w'
set_option maxRecDepth 100000 in
set_option maxHeartbeats 8000000 in
theorem fit_c (w : World) (t : Nat) (s : BT) (M : Nat → Nat → Int) (n l r : Nat) (hB : Blk w t s.cs) (hN : NT w s.nb s.cap s.nn M) (hne : t ≠ s.nb) (hn : n < s.nn) (hl : M n 7 = (l : Int)) (hr : M n 8 = (r : Int)) (hll : l < s.nn) (hrl : r < s.nn) (hnl : n ≠ l) (hnr : n ≠ r) (hh : 0 ≤ M l 10 ∧ M l 10 ≤ 1000000 ∧ 0 ≤ M r 10 ∧ M r 10 ≤ 1000000) :
    Calls Tryd.prog 42 #[.pointer (some ⟨t, 0, none⟩), .int .i64 (n : Int)] w (FitPost w t s M n) := by
  have HB : Hid (Blk w t #[.slice (some ⟨s.nb, 0, none⟩) s.nn s.cap, s.fv, .int .i64 s.root, .bool s.som, .map (some s.lf), .map (some s.bx), .int .i64 s.fat]) := Lib.hid hB
  have HN := Lib.hid hN
  have HF : Hid (fitM M n = put1 (put1 (put1 (put1 (put1 (put1 (put1 M n 0 (min (M l 0) (M r 0))) n 1 (min (M l 1) (M r 1))) n 2 (min (M l 2) (M r 2))) n 3 (max (M l 3) (M r 3))) n 4 (max (M l 4) (M r 4))) n 5 (max (M l 5) (M r 5))) n 10 (1 + max (M l 10) (M r 10))) := Lib.hid (by unfold fitM; simp only [hl, hr, Int.toNat_natCast])
  have HLR := Lib.hid (And.intro hl hr)
  clear hB hN hl hr
  obtain ⟨zt, ct, ft⟩ := id HB.out
  go_enter Tryd.func42, Tryd.ntmps42
  go_upto_region 1 with fail
  have hd0 : Below w.heap.size w w.drew := ext_drew (Below.refl _ _)
  have q7 : ∀ w', Below w.heap.size w w' → w'.cell? ⟨s.nb, n * 11 + 7, none⟩ = some (.int .i64 (l : Int)) := fun w' h => by
    rw [← HLR.out.1]
    exact (HN.out.below h).cell hn (j := 7) (by decide)
  have q8 : ∀ w', Below w.heap.size w w' → w'.cell? ⟨s.nb, n * 11 + 8, none⟩ = some (.int .i64 (r : Int)) := fun w' h => by
    rw [← HLR.out.2]
    exact (HN.out.below h).cell hn (j := 8) (by decide)
  refine Code.wp_mono (Q := NQ _) (fun e a w h => by obtain ⟨rfl, h⟩ := h; exact h) (wp_region_held_drew (S := fun w' => Below w.heap.size w w') (by kernel_rfl) hd0 (fun hHeld => ?_))
  refine wpAnyH_take (i := 0) (v := .pointer (some ⟨t, 0, none⟩)) rfl (by kernel_rfl) (by kernel_rfl) (by kernel_rfl) (fun _ _ _ h => nomatch h.1) (Or.inl ⟨by kernel_rfl, ?yfa_0⟩) hHeld ?rfa_0
  case yfa_0 =>
    intro w hSw
    go_simp
    try with_reducible rfl
  try simp only [Act.put, List.getElem_toArray, List.getElem_cons_zero, List.setIfInBounds_toArray, List.set_cons_zero, List.set_cons_succ]
  refine wpAnyH_take (i := 1) (v := .pointer (some ⟨t, 0, none⟩)) rfl (by kernel_rfl) (by kernel_rfl) (by kernel_rfl) (fun _ _ _ h => nomatch h.1) (Or.inl ⟨by kernel_rfl, ?yfa_1⟩) hHeld ?rfa_1
  case yfa_1 =>
    intro w hSw
    go_simp
    try with_reducible rfl
  try simp only [Act.put, List.getElem_toArray, List.getElem_cons_zero, List.getElem_cons_succ, List.setIfInBounds_toArray, List.set_cons_zero, List.set_cons_succ]
  refine wpAnyH_take (i := 2) (v := .pointer (some ⟨t, 0, none⟩)) rfl (by kernel_rfl) (by kernel_rfl) (by kernel_rfl) (fun _ _ _ h => nomatch h.1) (Or.inl ⟨by kernel_rfl, ?yfa_2⟩) hHeld ?rfa_2
  case yfa_2 =>
    intro w hSw
    go_simp
    try with_reducible rfl
  try simp only [Act.put, List.getElem_toArray, List.getElem_cons_zero, List.getElem_cons_succ, List.setIfInBounds_toArray, List.set_cons_zero, List.set_cons_succ]
  refine wpAnyH_take (i := 3) (v := .slice (some ⟨s.nb, 0, none⟩) s.nn s.cap) rfl (by kernel_rfl) (by kernel_rfl) (by kernel_rfl) (fun _ _ _ h => nomatch h.1) (Or.inl ⟨by kernel_rfl, ?yfa_3⟩) hHeld ?rfa_3
  case yfa_3 =>
    intro w hSw
    obtain ⟨zt, ct, ft⟩ := HB.out.below hSw
    go_simp
    try with_reducible rfl
  try simp only [Act.put, List.getElem_toArray, List.getElem_cons_zero, List.getElem_cons_succ, List.setIfInBounds_toArray, List.set_cons_zero, List.set_cons_succ]
  refine wpAnyH_take (i := 4) (v := .pointer (some ⟨s.nb, n * 11, none⟩)) rfl (by kernel_rfl) (by kernel_rfl) (by kernel_rfl) (fun _ _ _ h => nomatch h.1) (Or.inl ⟨by kernel_rfl, ?yfa_4⟩) hHeld ?rfa_4
  case yfa_4 =>
    intro w hSw
    go_simp
    try with_reducible rfl
  try simp only [Act.put, List.getElem_toArray, List.getElem_cons_zero, List.getElem_cons_succ, List.setIfInBounds_toArray, List.set_cons_zero, List.set_cons_succ]
  refine wpAnyH_take (i := 5) (v := .pointer (some ⟨s.nb, n * 11, none⟩)) rfl (by kernel_rfl) (by kernel_rfl) (by kernel_rfl) (fun _ _ _ h => nomatch h.1) (Or.inl ⟨by kernel_rfl, ?yfa_5⟩) hHeld ?rfa_5
  case yfa_5 =>
    intro w hSw
    go_simp
    try with_reducible rfl
  try simp only [Act.put, List.getElem_toArray, List.getElem_cons_zero, List.getElem_cons_succ, List.setIfInBounds_toArray, List.set_cons_zero, List.set_cons_succ]
  refine wpAnyH_take (i := 6) (v := .pointer (some ⟨s.nb, n * 11 + 7, none⟩)) rfl (by kernel_rfl) (by kernel_rfl) (by kernel_rfl) (fun _ _ _ h => nomatch h.1) (Or.inl ⟨by kernel_rfl, ?yfa_6⟩) hHeld ?rfa_6
  case yfa_6 =>
    intro w hSw
    go_simp
    try with_reducible rfl
  try simp only [Act.put, List.getElem_toArray, List.getElem_cons_zero, List.getElem_cons_succ, List.setIfInBounds_toArray, List.set_cons_zero, List.set_cons_succ]
  refine wpAnyH_take (i := 7) (v := .int .i64 (l : Int)) rfl (by kernel_rfl) (by kernel_rfl) (by kernel_rfl) (fun _ _ _ h => nomatch h.1) (Or.inl ⟨by kernel_rfl, ?yfa_7⟩) hHeld ?rfa_7
  case yfa_7 =>
    intro w hSw
    have q := q7 _ hSw
    go_simp
    try with_reducible rfl
  try simp only [Act.put, List.getElem_toArray, List.getElem_cons_zero, List.getElem_cons_succ, List.setIfInBounds_toArray, List.set_cons_zero, List.set_cons_succ]
  refine wpAnyH_take (i := 8) (v := .pointer (some ⟨s.nb, l * 11, none⟩)) rfl (by kernel_rfl) (by kernel_rfl) (by kernel_rfl) (fun _ _ _ h => nomatch h.1) (Or.inl ⟨by kernel_rfl, ?yfa_8⟩) hHeld ?rfa_8
  case yfa_8 =>
    intro w hSw
    go_simp
    try with_reducible rfl
  try simp only [Act.put, List.getElem_toArray, List.getElem_cons_zero, List.getElem_cons_succ, List.setIfInBounds_toArray, List.set_cons_zero, List.set_cons_succ]
  refine wpAnyH_take (i := 9) (v := .pointer (some ⟨t, 0, none⟩)) rfl (by kernel_rfl) (by kernel_rfl) (by kernel_rfl) (fun _ _ _ h => nomatch h.1) (Or.inl ⟨by kernel_rfl, ?yfa_9⟩) hHeld ?rfa_9
  case yfa_9 =>
    intro w hSw
    go_simp
    try with_reducible rfl
  try simp only [Act.put, List.getElem_toArray, List.getElem_cons_zero, List.getElem_cons_succ, List.setIfInBounds_toArray, List.set_cons_zero, List.set_cons_succ]
  refine wpAnyH_take (i := 10) (v := .pointer (some ⟨t, 0, none⟩)) rfl (by kernel_rfl) (by kernel_rfl) (by kernel_rfl) (fun _ _ _ h => nomatch h.1) (Or.inl ⟨by kernel_rfl, ?yfa_10⟩) hHeld ?rfa_10
  case yfa_10 =>
    intro w hSw
    go_simp
    try with_reducible rfl
  try simp only [Act.put, List.getElem_toArray, List.getElem_cons_zero, List.getElem_cons_succ, List.setIfInBounds_toArray, List.set_cons_zero, List.set_cons_succ]
  refine wpAnyH_take (i := 11) (v := .pointer (some ⟨t, 0, none⟩)) rfl (by kernel_rfl) (by kernel_rfl) (by kernel_rfl) (fun _ _ _ h => nomatch h.1) (Or.inl ⟨by kernel_rfl, ?yfa_11⟩) hHeld ?rfa_11
  case yfa_11 =>
    intro w hSw
    go_simp
    try with_reducible rfl
  try simp only [Act.put, List.getElem_toArray, List.getElem_cons_zero, List.getElem_cons_succ, List.setIfInBounds_toArray, List.set_cons_zero, List.set_cons_succ]
  refine wpAnyH_take (i := 12) (v := .slice (some ⟨s.nb, 0, none⟩) s.nn s.cap) rfl (by kernel_rfl) (by kernel_rfl) (by kernel_rfl) (fun _ _ _ h => nomatch h.1) (Or.inl ⟨by kernel_rfl, ?yfa_12⟩) hHeld ?rfa_12
  case yfa_12 =>
    intro w hSw
    obtain ⟨zt, ct, ft⟩ := HB.out.below hSw
    go_simp
    try with_reducible rfl
  try simp only [Act.put, List.getElem_toArray, List.getElem_cons_zero, List.getElem_cons_succ, List.setIfInBounds_toArray, List.set_cons_zero, List.set_cons_succ]
  refine wpAnyH_take (i := 13) (v := .pointer (some ⟨s.nb, n * 11, none⟩)) rfl (by kernel_rfl) (by kernel_rfl) (by kernel_rfl) (fun _ _ _ h => nomatch h.1) (Or.inl ⟨by kernel_rfl, ?yfa_13⟩) hHeld ?rfa_13
  case yfa_13 =>
    intro w hSw
    go_simp
    try with_reducible rfl
  try simp only [Act.put, List.getElem_toArray, List.getElem_cons_zero, List.getElem_cons_succ, List.setIfInBounds_toArray, List.set_cons_zero, List.set_cons_succ]
  refine wpAnyH_take (i := 14) (v := .pointer (some ⟨s.nb, n * 11, none⟩)) rfl (by kernel_rfl) (by kernel_rfl) (by kernel_rfl) (fun _ _ _ h => nomatch h.1) (Or.inl ⟨by kernel_rfl, ?yfa_14⟩) hHeld ?rfa_14
  case yfa_14 =>
    intro w hSw
    go_simp
    try with_reducible rfl
  try simp only [Act.put, List.getElem_toArray, List.getElem_cons_zero, List.getElem_cons_succ, List.setIfInBounds_toArray, List.set_cons_zero, List.set_cons_succ]
  refine wpAnyH_take (i := 15) (v := .pointer (some ⟨s.nb, n * 11 + 8, none⟩)) rfl (by kernel_rfl) (by kernel_rfl) (by kernel_rfl) (fun _ _ _ h => nomatch h.1) (Or.inl ⟨by kernel_rfl, ?yfa_15⟩) hHeld ?rfa_15
  case yfa_15 =>
    intro w hSw
    go_simp
    try with_reducible rfl
  try simp only [Act.put, List.getElem_toArray, List.getElem_cons_zero, List.getElem_cons_succ, List.setIfInBounds_toArray, List.set_cons_zero, List.set_cons_succ]
  refine wpAnyH_take (i := 16) (v := .int .i64 (r : Int)) rfl (by kernel_rfl) (by kernel_rfl) (by kernel_rfl) (fun _ _ _ h => nomatch h.1) (Or.inl ⟨by kernel_rfl, ?yfa_16⟩) hHeld ?rfa_16
  case yfa_16 =>
    intro w hSw
    have q := q8 _ hSw
    go_simp
    try with_reducible rfl
  try simp only [Act.put, List.getElem_toArray, List.getElem_cons_zero, List.getElem_cons_succ, List.setIfInBounds_toArray, List.set_cons_zero, List.set_cons_succ]
  refine wpAnyH_take (i := 17) (v := .pointer (some ⟨s.nb, r * 11, none⟩)) rfl (by kernel_rfl) (by kernel_rfl) (by kernel_rfl) (fun _ _ _ h => nomatch h.1) (Or.inl ⟨by kernel_rfl, ?yfa_17⟩) hHeld ?rfa_17
  case yfa_17 =>
    intro w hSw
    go_simp
    try with_reducible rfl
  try simp only [Act.put, List.getElem_toArray, List.getElem_cons_zero, List.getElem_cons_succ, List.setIfInBounds_toArray, List.set_cons_zero, List.set_cons_succ]
  refine wpAnyH_take (i := 18) (v := .pointer (some ⟨s.nb, l * 11, none⟩)) rfl (by kernel_rfl) (by kernel_rfl) (by kernel_rfl) (fun _ _ _ h => nomatch h.1) (Or.inl ⟨by kernel_rfl, ?yfa_18⟩) hHeld ?rfa_18
  case yfa_18 =>
    intro w hSw
    go_simp
    try with_reducible rfl
  try simp only [Act.put, List.getElem_toArray, List.getElem_cons_zero, List.getElem_cons_succ, List.setIfInBounds_toArray, List.set_cons_zero, List.set_cons_succ]
  refine wpAnyH_take (i := 19) (v := .pointer (some ⟨s.nb, r * 11, none⟩)) rfl (by kernel_rfl) (by kernel_rfl) (by kernel_rfl) (fun _ _ _ h => nomatch h.1) (Or.inl ⟨by kernel_rfl, ?yfa_19⟩) hHeld ?rfa_19
  case yfa_19 =>
    intro w hSw
    go_simp
    try with_reducible rfl
  try simp only [Act.put, List.getElem_toArray, List.getElem_cons_zero, List.getElem_cons_succ, List.setIfInBounds_toArray, List.set_cons_zero, List.set_cons_succ]
  refine wpAnyH_done (by kernel_rfl) ?_ _
  refine ⟨rfl, ?_⟩
  try skip
  go_upto_region 2 with fail
  refine wp_fresh ?_
  rintro w2 hb2
  have hv2 : Below w.heap.size w w2 := hHeld.trans (hb2.mono hHeld.size)
  have HV2 := Lib.hid hv2
  have HN2 := Lib.hid (HN.out.below hv2)
  have hsf : SF s.nb s.nn n M w2 := fun k hk hkn j hj => HN2.out.cell hkn hj
  have hsf0 := hsf.below (ext_drew (Below.refl _ _))
  have hlb : s.nb < w2.heap.size := HN2.out.lt
  clear hHeld hb2 hv2 q7 q8 hd0 zt ct ft
  refine Code.wp_mono (Q := NQ _) (fun e a w h => by obtain ⟨rfl, h⟩ := h; exact h) (wp_region_held_drew (S := SF s.nb s.nn n M) (by kernel_rfl) hsf0 (fun hHeld => ?_))
  refine wpAnyH_take (i := 0) (v := .pointer (some ⟨s.nb, n * 11, none⟩)) rfl (by kernel_rfl) (by kernel_rfl) (by kernel_rfl) (fun _ _ _ h => nomatch h.1) (Or.inl ⟨by kernel_rfl, ?yfb_0⟩) hHeld ?rfb_0
  case yfb_0 =>
    intro w hSw
    go_simp
    try with_reducible rfl
  try simp only [Act.put, List.getElem_toArray, List.getElem_cons_zero, List.setIfInBounds_toArray, List.set_cons_zero, List.set_cons_succ]
  refine wpAnyH_take (i := 1) (v := .pointer (some ⟨s.nb, n * 11, none⟩)) rfl (by kernel_rfl) (by kernel_rfl) (by kernel_rfl) (fun _ _ _ h => nomatch h.1) (Or.inl ⟨by kernel_rfl, ?yfb_1⟩) hHeld ?rfb_1
  case yfb_1 =>
    intro w hSw
    go_simp
    try with_reducible rfl
  try simp only [Act.put, List.getElem_toArray, List.getElem_cons_zero, List.getElem_cons_succ, List.setIfInBounds_toArray, List.set_cons_zero, List.set_cons_succ]
  refine wpAnyH_take (i := 2) (v := .pointer (some ⟨s.nb, l * 11, none⟩)) rfl (by kernel_rfl) (by kernel_rfl) (by kernel_rfl) (fun _ _ _ h => nomatch h.1) (Or.inl ⟨by kernel_rfl, ?yfb_2⟩) hHeld ?rfb_2
  case yfb_2 =>
    intro w hSw
    go_simp
    try with_reducible rfl
  try simp only [Act.put, List.getElem_toArray, List.getElem_cons_zero, List.getElem_cons_succ, List.setIfInBounds_toArray, List.set_cons_zero, List.set_cons_succ]
  refine wpAnyH_take (i := 3) (v := .pointer (some ⟨s.nb, l * 11, none⟩)) rfl (by kernel_rfl) (by kernel_rfl) (by kernel_rfl) (fun _ _ _ h => nomatch h.1) (Or.inl ⟨by kernel_rfl, ?yfb_3⟩) hHeld ?rfb_3
  case yfb_3 =>
    intro w hSw
    go_simp
    try with_reducible rfl
  try simp only [Act.put, List.getElem_toArray, List.getElem_cons_zero, List.getElem_cons_succ, List.setIfInBounds_toArray, List.set_cons_zero, List.set_cons_succ]
  refine wpAnyH_take (i := 4) (v := .pointer (some ⟨s.nb, l * 11, none⟩)) rfl (by kernel_rfl) (by kernel_rfl) (by kernel_rfl) (fun _ _ _ h => nomatch h.1) (Or.inl ⟨by kernel_rfl, ?yfb_4⟩) hHeld ?rfb_4
  case yfb_4 =>
    intro w hSw
    go_simp
    try with_reducible rfl
  try simp only [Act.put, List.getElem_toArray, List.getElem_cons_zero, List.getElem_cons_succ, List.setIfInBounds_toArray, List.set_cons_zero, List.set_cons_succ]
  refine wpAnyH_take (i := 5) (v := .agg #[.int .i64 (M l 0), .int .i64 (M l 1), .int .i64 (M l 2), .int .i64 (M l 3), .int .i64 (M l 4), .int .i64 (M l 5)]) rfl (by kernel_rfl) (by kernel_rfl) (by kernel_rfl) (fun _ _ _ h => nomatch h.1) (Or.inl ⟨by kernel_rfl, ?yfb_5⟩) hHeld ?rfb_5
  case yfb_5 =>
    intro w hSw
    have p0 := hSw l (Ne.symm hnl) hll 0 (by decide)
    have p1 := hSw l (Ne.symm hnl) hll 1 (by decide)
    have p2 := hSw l (Ne.symm hnl) hll 2 (by decide)
    have p3 := hSw l (Ne.symm hnl) hll 3 (by decide)
    have p4 := hSw l (Ne.symm hnl) hll 4 (by decide)
    have p5 := hSw l (Ne.symm hnl) hll 5 (by decide)
    simp only [Nat.add_zero] at p0
    go_simp
    try with_reducible rfl
  try simp only [Act.put, List.getElem_toArray, List.getElem_cons_zero, List.getElem_cons_succ, List.setIfInBounds_toArray, List.set_cons_zero, List.set_cons_succ]
  refine wpAnyH_take (i := 6) (v := .pointer (some ⟨s.nb, r * 11, none⟩)) rfl (by kernel_rfl) (by kernel_rfl) (by kernel_rfl) (fun _ _ _ h => nomatch h.1) (Or.inl ⟨by kernel_rfl, ?yfb_6⟩) hHeld ?rfb_6
  case yfb_6 =>
    intro w hSw
    go_simp
    try with_reducible rfl
  try simp only [Act.put, List.getElem_toArray, List.getElem_cons_zero, List.getElem_cons_succ, List.setIfInBounds_toArray, List.set_cons_zero, List.set_cons_succ]
  refine wpAnyH_take (i := 7) (v := .pointer (some ⟨s.nb, r * 11, none⟩)) rfl (by kernel_rfl) (by kernel_rfl) (by kernel_rfl) (fun _ _ _ h => nomatch h.1) (Or.inl ⟨by kernel_rfl, ?yfb_7⟩) hHeld ?rfb_7
  case yfb_7 =>
    intro w hSw
    go_simp
    try with_reducible rfl
  try simp only [Act.put, List.getElem_toArray, List.getElem_cons_zero, List.getElem_cons_succ, List.setIfInBounds_toArray, List.set_cons_zero, List.set_cons_succ]
  refine wpAnyH_take (i := 8) (v := .pointer (some ⟨s.nb, r * 11, none⟩)) rfl (by kernel_rfl) (by kernel_rfl) (by kernel_rfl) (fun _ _ _ h => nomatch h.1) (Or.inl ⟨by kernel_rfl, ?yfb_8⟩) hHeld ?rfb_8
  case yfb_8 =>
    intro w hSw
    go_simp
    try with_reducible rfl
  try simp only [Act.put, List.getElem_toArray, List.getElem_cons_zero, List.getElem_cons_succ, List.setIfInBounds_toArray, List.set_cons_zero, List.set_cons_succ]
  refine wpAnyH_take (i := 9) (v := .agg #[.int .i64 (M r 0), .int .i64 (M r 1), .int .i64 (M r 2), .int .i64 (M r 3), .int .i64 (M r 4), .int .i64 (M r 5)]) rfl (by kernel_rfl) (by kernel_rfl) (by kernel_rfl) (fun _ _ _ h => nomatch h.1) (Or.inl ⟨by kernel_rfl, ?yfb_9⟩) hHeld ?rfb_9
  case yfb_9 =>
    intro w hSw
    have p0 := hSw r (Ne.symm hnr) hrl 0 (by decide)
    have p1 := hSw r (Ne.symm hnr) hrl 1 (by decide)
    have p2 := hSw r (Ne.symm hnr) hrl 2 (by decide)
    have p3 := hSw r (Ne.symm hnr) hrl 3 (by decide)
    have p4 := hSw r (Ne.symm hnr) hrl 4 (by decide)
    have p5 := hSw r (Ne.symm hnr) hrl 5 (by decide)
    simp only [Nat.add_zero] at p0
    go_simp
    try with_reducible rfl
  try simp only [Act.put, List.getElem_toArray, List.getElem_cons_zero, List.getElem_cons_succ, List.setIfInBounds_toArray, List.set_cons_zero, List.set_cons_succ]
  refine wpAnyH_take (i := 11) (v := .pointer (some ⟨s.nb, l * 11, none⟩)) rfl (by kernel_rfl) (by kernel_rfl) (by kernel_rfl) (fun _ _ _ h => nomatch h.1) (Or.inl ⟨by kernel_rfl, ?yfb_11⟩) hHeld ?rfb_11
  case yfb_11 =>
    intro w hSw
    go_simp
    try with_reducible rfl
  try simp only [Act.put, List.getElem_toArray, List.getElem_cons_zero, List.getElem_cons_succ, List.setIfInBounds_toArray, List.set_cons_zero, List.set_cons_succ]
  refine wpAnyH_take (i := 12) (v := .pointer (some ⟨s.nb, l * 11, none⟩)) rfl (by kernel_rfl) (by kernel_rfl) (by kernel_rfl) (fun _ _ _ h => nomatch h.1) (Or.inl ⟨by kernel_rfl, ?yfb_12⟩) hHeld ?rfb_12
  case yfb_12 =>
    intro w hSw
    go_simp
    try with_reducible rfl
  try simp only [Act.put, List.getElem_toArray, List.getElem_cons_zero, List.getElem_cons_succ, List.setIfInBounds_toArray, List.set_cons_zero, List.set_cons_succ]
  refine wpAnyH_take (i := 13) (v := .pointer (some ⟨s.nb, l * 11 + 10, none⟩)) rfl (by kernel_rfl) (by kernel_rfl) (by kernel_rfl) (fun _ _ _ h => nomatch h.1) (Or.inl ⟨by kernel_rfl, ?yfb_13⟩) hHeld ?rfb_13
  case yfb_13 =>
    intro w hSw
    go_simp
    try with_reducible rfl
  try simp only [Act.put, List.getElem_toArray, List.getElem_cons_zero, List.getElem_cons_succ, List.setIfInBounds_toArray, List.set_cons_zero, List.set_cons_succ]
  refine wpAnyH_take (i := 14) (v := .int .i64 (M l 10)) rfl (by kernel_rfl) (by kernel_rfl) (by kernel_rfl) (fun _ _ _ h => nomatch h.1) (Or.inl ⟨by kernel_rfl, ?yfb_14⟩) hHeld ?rfb_14
  case yfb_14 =>
    intro w hSw
    have p10 := hSw l (Ne.symm hnl) hll 10 (by decide)
    go_simp
    try with_reducible rfl
  try simp only [Act.put, List.getElem_toArray, List.getElem_cons_zero, List.getElem_cons_succ, List.setIfInBounds_toArray, List.set_cons_zero, List.set_cons_succ]
  refine wpAnyH_take (i := 15) (v := .pointer (some ⟨s.nb, r * 11, none⟩)) rfl (by kernel_rfl) (by kernel_rfl) (by kernel_rfl) (fun _ _ _ h => nomatch h.1) (Or.inl ⟨by kernel_rfl, ?yfb_15⟩) hHeld ?rfb_15
  case yfb_15 =>
    intro w hSw
    go_simp
    try with_reducible rfl
  try simp only [Act.put, List.getElem_toArray, List.getElem_cons_zero, List.getElem_cons_succ, List.setIfInBounds_toArray, List.set_cons_zero, List.set_cons_succ]
  refine wpAnyH_take (i := 16) (v := .pointer (some ⟨s.nb, r * 11, none⟩)) rfl (by kernel_rfl) (by kernel_rfl) (by kernel_rfl) (fun _ _ _ h => nomatch h.1) (Or.inl ⟨by kernel_rfl, ?yfb_16⟩) hHeld ?rfb_16
  case yfb_16 =>
    intro w hSw
    go_simp
    try with_reducible rfl
  try simp only [Act.put, List.getElem_toArray, List.getElem_cons_zero, List.getElem_cons_succ, List.setIfInBounds_toArray, List.set_cons_zero, List.set_cons_succ]
  refine wpAnyH_take (i := 17) (v := .pointer (some ⟨s.nb, r * 11 + 10, none⟩)) rfl (by kernel_rfl) (by kernel_rfl) (by kernel_rfl) (fun _ _ _ h => nomatch h.1) (Or.inl ⟨by kernel_rfl, ?yfb_17⟩) hHeld ?rfb_17
  case yfb_17 =>
    intro w hSw
    go_simp
    try with_reducible rfl
  try simp only [Act.put, List.getElem_toArray, List.getElem_cons_zero, List.getElem_cons_succ, List.setIfInBounds_toArray, List.set_cons_zero, List.set_cons_succ]
  refine wpAnyH_take (i := 18) (v := .int .i64 (M r 10)) rfl (by kernel_rfl) (by kernel_rfl) (by kernel_rfl) (fun _ _ _ h => nomatch h.1) (Or.inl ⟨by kernel_rfl, ?yfb_18⟩) hHeld ?rfb_18
  case yfb_18 =>
    intro w hSw
    have p10 := hSw r (Ne.symm hnr) hrl 10 (by decide)
    go_simp
    try with_reducible rfl
  try simp only [Act.put, List.getElem_toArray, List.getElem_cons_zero, List.getElem_cons_succ, List.setIfInBounds_toArray, List.set_cons_zero, List.set_cons_succ]
  refine wpAnyH_take (i := 19) (v := .int .i64 (max (M l 10) (M r 10))) rfl (by kernel_rfl) (by kernel_rfl) (by kernel_rfl) (fun _ _ _ h => nomatch h.1) (Or.inl ⟨by kernel_rfl, ?yfb_19⟩) hHeld ?rfb_19
  case yfb_19 =>
    intro w hSw
    go_simp
    try with_reducible rfl
  try simp only [Act.put, List.getElem_toArray, List.getElem_cons_zero, List.getElem_cons_succ, List.setIfInBounds_toArray, List.set_cons_zero, List.set_cons_succ]
  refine wpAnyH_take (i := 20) (v := .int .i64 (1 + max (M l 10) (M r 10))) rfl (by kernel_rfl) (by kernel_rfl) (by kernel_rfl) (fun _ _ _ h => nomatch h.1) (Or.inl ⟨by kernel_rfl, ?yfb_20⟩) hHeld ?rfb_20
  case yfb_20 =>
    intro w hSw
    have hmx : IntKind.i64.wrap (1 + max (M l 10) (M r 10)) = 1 + max (M l 10) (M r 10) := wrap_in (by omega) (by omega)
    go_simp
    try with_reducible rfl
  try simp only [Act.put, List.getElem_toArray, List.getElem_cons_zero, List.getElem_cons_succ, List.setIfInBounds_toArray, List.set_cons_zero, List.set_cons_succ]
  refine wpAnyH_ready (rs := [10]) (by kernel_rfl) (by simp) ?_
  refine AllReadyH.cons (o := _) rfl (fun K hK => ?_) AllReadyH.nil
  go_simp
  refine (both_c _ _ _ _ _ _ _ _ _ _ _ _ _).mono ?_
  rintro e3 w3 ⟨rfl, hb3⟩
  try dsimp only
  refine hK.out _ _ (hHeld.below hb3) (fun hHeld => ?_)
  clear hK K
  try simp only [Act.put, List.getElem_toArray, List.getElem_cons_zero, List.getElem_cons_succ, List.setIfInBounds_toArray, List.set_cons_zero, List.set_cons_succ]
  have hv3 : Below w2.heap.size w2 w3 := (ext_drew (Below.refl _ _)).trans (hb3.mono (Nat.le_refl _))
  have HN3 := Lib.hid (HN2.out.below hv3)
  have HV3 : Hid (Below w.heap.size w w3) := Lib.hid (HV2.out.trans (hv3.mono HV2.out.size))
  clear hb3 hv3
  refine wpAnyH_take (i := 21) (v := .pointer (some ⟨s.nb, n * 11, none⟩)) rfl (by kernel_rfl) (by kernel_rfl) (by kernel_rfl) (fun _ _ _ h => nomatch h.1) (Or.inl ⟨by kernel_rfl, ?yfc_21⟩) hHeld ?rfc_21
  case yfc_21 =>
    intro w hSw
    go_simp
    try with_reducible rfl
  try simp only [Act.put, List.getElem_toArray, List.getElem_cons_zero, List.getElem_cons_succ, List.setIfInBounds_toArray, List.set_cons_zero, List.set_cons_succ]
  refine wpAnyH_take (i := 22) (v := .pointer (some ⟨s.nb, n * 11, none⟩)) rfl (by kernel_rfl) (by kernel_rfl) (by kernel_rfl) (fun _ _ _ h => nomatch h.1) (Or.inl ⟨by kernel_rfl, ?yfc_22⟩) hHeld ?rfc_22
  case yfc_22 =>
    intro w hSw
    go_simp
    try with_reducible rfl
  try simp only [Act.put, List.getElem_toArray, List.getElem_cons_zero, List.getElem_cons_succ, List.setIfInBounds_toArray, List.set_cons_zero, List.set_cons_succ]
  have fq := HN3.out.free
  have c0 := HN3.out.cell hn (j := 0) (by decide)
  have c1 := HN3.out.cell hn (j := 1) (by decide)
  have c2 := HN3.out.cell hn (j := 2) (by decide)
  have c3 := HN3.out.cell hn (j := 3) (by decide)
  have c4 := HN3.out.cell hn (j := 4) (by decide)
  have c5 := HN3.out.cell hn (j := 5) (by decide)
  have c10 := HN3.out.cell hn (j := 10) (by decide)
  simp only [Nat.add_zero] at c0
  refine wpAnyH_ready (rs := [23]) (by kernel_rfl) (by simp) ?_
  refine AllReadyH.cons (o := _) rfl (fun K hK => ?_) AllReadyH.nil
  go_simp
  try dsimp only
  refine hK.out _ _ ((((((hHeld.set hn (j := 0) (by decide) _).set hn (j := 1) (by decide) _).set hn (j := 2) (by decide) _).set hn (j := 3) (by decide) _).set hn (j := 4) (by decide) _).set hn (j := 5) (by decide) _) (fun hHeld => ?_)
  clear hK K
  try simp only [Act.put, List.getElem_toArray, List.getElem_cons_zero, List.getElem_cons_succ, List.setIfInBounds_toArray, List.set_cons_zero, List.set_cons_succ]
  refine wpAnyH_take (i := 24) (v := .pointer (some ⟨s.nb, n * 11, none⟩)) rfl (by kernel_rfl) (by kernel_rfl) (by kernel_rfl) (fun _ _ _ h => nomatch h.1) (Or.inl ⟨by kernel_rfl, ?yfd_24⟩) hHeld ?rfd_24
  case yfd_24 =>
    intro w hSw
    go_simp
    try with_reducible rfl
  try simp only [Act.put, List.getElem_toArray, List.getElem_cons_zero, List.getElem_cons_succ, List.setIfInBounds_toArray, List.set_cons_zero, List.set_cons_succ]
  refine wpAnyH_take (i := 25) (v := .pointer (some ⟨s.nb, n * 11 + 10, none⟩)) rfl (by kernel_rfl) (by kernel_rfl) (by kernel_rfl) (fun _ _ _ h => nomatch h.1) (Or.inl ⟨by kernel_rfl, ?yfd_25⟩) hHeld ?rfd_25
  case yfd_25 =>
    intro w hSw
    go_simp
    try with_reducible rfl
  try simp only [Act.put, List.getElem_toArray, List.getElem_cons_zero, List.getElem_cons_succ, List.setIfInBounds_toArray, List.set_cons_zero, List.set_cons_succ]
  refine wpAnyH_ready (rs := [26]) (by kernel_rfl) (by simp) ?_
  refine AllReadyH.cons (o := _) rfl (fun K hK => ?_) AllReadyH.nil
  go_simp
  try dsimp only
  refine hK.out _ _ (hHeld.set hn (j := 10) (by decide) _) (fun hHeld => ?_)
  clear hK K
  try simp only [Act.put, List.getElem_toArray, List.getElem_cons_zero, List.getElem_cons_succ, List.setIfInBounds_toArray, List.set_cons_zero, List.set_cons_succ]
  refine wpAnyH_done (by kernel_rfl) ?_ _
  refine ⟨rfl, ?_⟩
  clear hHeld
  try skip
  go_end0
  have hm : Mod (fun x => x = s.nb) w3 _ := ((((((((Mod.refl (fun x => x = s.nb) w3).set (g := s.nb) (i := n * 11) (v := .int .i64 (min (M l 0) (M r 0))) (.inl rfl)).set (g := s.nb) (i := n * 11 + 1) (v := .int .i64 (min (M l 1) (M r 1))) (.inl rfl)).set (g := s.nb) (i := n * 11 + 2) (v := .int .i64 (min (M l 2) (M r 2))) (.inl rfl)).set (g := s.nb) (i := n * 11 + 3) (v := .int .i64 (max (M l 3) (M r 3))) (.inl rfl)).set (g := s.nb) (i := n * 11 + 4) (v := .int .i64 (max (M l 4) (M r 4))) (.inl rfl)).set (g := s.nb) (i := n * 11 + 5) (v := .int .i64 (max (M l 5) (M r 5))) (.inl rfl)).set (g := s.nb) (i := n * 11 + 10) (v := .int .i64 (1 + max (M l 10) (M r 10))) (.inl rfl))
  refine ⟨rfl, (HB.out.below HV3.out).mod hm hne, ?_, (Mod.of_below HV3.out).trans hm⟩
  rw [HF.out]
  exact ((((((HN3.out.set hn (j := 0) (by decide) _).set hn (j := 1) (by decide) _).set hn (j := 2) (by decide) _).set hn (j := 3) (by decide) _).set hn (j := 4) (by decide) _).set hn (j := 5) (by decide) _).set hn (j := 10) (by decide) _
end Go.Proofs.YtefhmbmbhiehdaaDoor
