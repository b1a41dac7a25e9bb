/- node of broad.Tree. Conditions: none. -/
import Derived.Test.YtefhmbmbhiehdaaDoorKBt2
import Derived.Test.YtefhmbmbhiehdaaDoorKI
import Derived.Test.YtefhmbmbhiehdaaDoorKIseeP
import Derived.Test.YtefhmbmbhiehdaaDoorKHeldA
namespace Go.Proofs.YtefhmbmbhiehdaaDoor
open Go Go.Maps Go.RowKit Go.BigFrame Go.ChangeShapes Go.WideShapes
/-- a row set -/
def setRow (M : Nat → Nat → Int) (i : Nat) (x : Nat → Int) : Nat → Nat → Int := fun a b => if a = i then x b else M a b
theorem rowsL_same {M M' : Nat → Nat → Int} {n : Nat} (h : ∀ k, k < n → ∀ j, j < 11 → M k j = M' k j) : rowsL M 11 n = rowsL M' 11 n := by
  unfold rowsL
  apply List.map_congr_left
  intro q hq
  have hq := List.mem_range.1 hq
  rw [h (q / 11) (by omega) (q % 11) (by omega)]
theorem rowsL_push (M : Nat → Nat → Int) (k : Nat) (x : Nat → Int) : rowsL (setRow M k x) 11 (k + 1) = rowsL M 11 k ++ (#[.int .i64 (x 0), .int .i64 (x 1), .int .i64 (x 2), .int .i64 (x 3), .int .i64 (x 4), .int .i64 (x 5), .int .i64 (x 6), .int .i64 (x 7), .int .i64 (x 8), .int .i64 (x 9), .int .i64 (x 10)] : Array Value).toList := by
  rw [← rowsL_same (M := setRow M k x) (M' := M) (n := k) (fun q hq j _ => by unfold setRow; rw [if_neg (by omega)])]
  unfold rowsL
  rw [Nat.add_mul, List.range_add, List.map_append]
  congr 1
  have e : ∀ j, j < 11 → (k * 11 + j) / 11 = k ∧ (k * 11 + j) % 11 = j := fun j hj => by omega
  simp only [List.range, List.range.loop, List.map]
  rw [(e 0 (by decide)).1, (e 0 (by decide)).2, (e 1 (by decide)).1, (e 1 (by decide)).2, (e 2 (by decide)).1, (e 2 (by decide)).2, (e 3 (by decide)).1, (e 3 (by decide)).2, (e 4 (by decide)).1, (e 4 (by decide)).2, (e 5 (by decide)).1, (e 5 (by decide)).2, (e 6 (by decide)).1, (e 6 (by decide)).2, (e 7 (by decide)).1, (e 7 (by decide)).2, (e 8 (by decide)).1, (e 8 (by decide)).2, (e 9 (by decide)).1, (e 9 (by decide)).2, (e 10 (by decide)).1, (e 10 (by decide)).2]
  simp [setRow]
theorem nodeInfo : (Tryd.prog.info? 63).map (fun i => (i.zero, i.size, i.bytes)) = some (some (.agg #[.int .i64 0, .int .i64 0, .int .i64 0, .int .i64 0, .int .i64 0, .int .i64 0, .int .i64 0, .int .i64 0, .int .i64 0, .int .i64 0, .int .i64 0]), 11, 88) := by kernel_rfl
/-- append(s, x) of one node -/
theorem step_node {ops : Array Oper} {o : Oper} {a : Act} {w : World} {K : Act → World → Prop} {Q : Exit → Act → World → Prop} {E : Prop} (hg : o.guard = none) (s y : Operand) (ho : o.op = .call { callee := .builtin .append, args := #[s, y], argTypes := #[54, 54] })
    (v : Value) (n : Nat) (M : Nat → Nat → Int) (x : Nat → Int) (hs : a.eval s = v) (hown : w.ownsRow 0 63 11 v n (rowsL M 11 n)) {p : Nat} (hx : a.eval y = .slice (some ⟨p, 0, none⟩) 1 1) (hc : Blk w p #[.int .i64 (x 0), .int .i64 (x 1), .int .i64 (x 2), .int .i64 (x 3), .int .i64 (x 4), .int .i64 (x 5), .int .i64 (x 6), .int .i64 (x 7), .int .i64 (x 8), .int .i64 (x 9), .int .i64 (x 10)]) (hn : n < 1000000)
    (hK : ∀ b cap w', NT w' b cap (n + 1) (setRow M n x) → Mod (fun z => v.ownBlock = some z) w w' → (v.ownBlock = some b ∨ b = w.heap.size) → K (a.put o.dst (.slice (some ⟨b, 0, none⟩) (n + 1) cap)) w') :
    if Region.wanted o (yielded ops a.tmps) = true then Oper.wp Tryd.prog o a w K Q else E := by
  have hw : Region.wanted o (yielded ops a.tmps) = true := by simp [Region.wanted, hg]
  rw [if_pos hw]
  obtain ⟨i, hi, hz, hsize, hbytes⟩ := info_three nodeInfo
  obtain ⟨v', w', hr, h2, h3, h4, h5⟩ := run_append_own_at (P := Tryd.prog) w 0 54 o.type 63 i _ 11 88 Tryd.underlying54 hi hz hsize hbytes rfl (by decide) v n (rowsL M 11 n) hown ⟨p, 0, none⟩ 1 1 (#[.int .i64 (x 0), .int .i64 (x 1), .int .i64 (x 2), .int .i64 (x 3), .int .i64 (x 4), .int .i64 (x 5), .int .i64 (x 6), .int .i64 (x 7), .int .i64 (x 8), .int .i64 (x 9), .int .i64 (x 10)] : Array Value).toList rfl (fun j u hu => by
    have e : (⟨p, 0, none⟩ : Addr).add j = ⟨p, j, none⟩ := by cases j with | zero => rfl | succ j => simp [Addr.add]
    rw [e, hc.cell j, ← hu]
    simp) (by intro u hu; simp at hu; rcases hu with rfl | rfl | rfl | rfl | rfl | rfl | rfl | rfl | rfl | rfl | rfl <;> rfl) (by unfold maxLen; omega) (by omega) (Nat.zero_le _)
  rw [← rowsL_push] at h2
  obtain ⟨g, cap, rfl, _, _, _, _⟩ := row_at h2 (by omega)
  unfold Oper.wp execOp
  simp only [ho, resolve, invoke, builtin, Sem.run_bind, Sem.run_pure, Result.andThen_ok, List.map_toArray, List.map_cons, List.map_nil, hs, hx, hr]
  exact hK g cap w' h2 ((mod_grown h3).mono fun _ _ h => h) (by rcases h5 with h5 | h5; exact .inl h5.symm; right; injection h5)
theorem ballocT (w : World) (o : Obj) : Below w.heap.size w (w.alloc o) := by apply ext_alloc; exact Below.refl _ _
theorem any_freshT {P : Program} {md : Region.Mode} {ops : Array Oper} {Q : Exit → Act → World → Prop} {S : World → Prop} {f : Nat} {li : Array Bool} {a : Act} {w : World} (h : ∀ w', Below w.heap.size w w' → S w' → wpAnyH P md ops Q S f li a w') (hS : S w) : wpAnyH P md ops Q S f li a w := h w (Below.refl _ _) hS
theorem NT.congr {w : World} {b cap nn : Nat} {M M' : Nat → Nat → Int} (h : NT w b cap nn M) (e : ∀ k, k < nn → ∀ j, j < 11 → M k j = M' k j) : NT w b cap nn M' := by
  unfold NT
  rw [← rowsL_same e]
  exact h
/-- a row written -/
theorem NT.row {w : World} {b cap nn : Nat} {M : Nat → Nat → Int} (h : NT w b cap nn M) {i : Nat} (hi : i < nn) (x : Nat → Int) : NT (((((((((((w.setCell ⟨b, i * 11, none⟩ (.int .i64 (x 0))).setCell ⟨b, i * 11 + 1, none⟩ (.int .i64 (x 1))).setCell ⟨b, i * 11 + 2, none⟩ (.int .i64 (x 2))).setCell ⟨b, i * 11 + 3, none⟩ (.int .i64 (x 3))).setCell ⟨b, i * 11 + 4, none⟩ (.int .i64 (x 4))).setCell ⟨b, i * 11 + 5, none⟩ (.int .i64 (x 5))).setCell ⟨b, i * 11 + 6, none⟩ (.int .i64 (x 6))).setCell ⟨b, i * 11 + 7, none⟩ (.int .i64 (x 7))).setCell ⟨b, i * 11 + 8, none⟩ (.int .i64 (x 8))).setCell ⟨b, i * 11 + 9, none⟩ (.int .i64 (x 9))).setCell ⟨b, i * 11 + 10, none⟩ (.int .i64 (x 10))) b cap nn (setRow M i x) ∧ Mod (· = b) w (((((((((((w.setCell ⟨b, i * 11, none⟩ (.int .i64 (x 0))).setCell ⟨b, i * 11 + 1, none⟩ (.int .i64 (x 1))).setCell ⟨b, i * 11 + 2, none⟩ (.int .i64 (x 2))).setCell ⟨b, i * 11 + 3, none⟩ (.int .i64 (x 3))).setCell ⟨b, i * 11 + 4, none⟩ (.int .i64 (x 4))).setCell ⟨b, i * 11 + 5, none⟩ (.int .i64 (x 5))).setCell ⟨b, i * 11 + 6, none⟩ (.int .i64 (x 6))).setCell ⟨b, i * 11 + 7, none⟩ (.int .i64 (x 7))).setCell ⟨b, i * 11 + 8, none⟩ (.int .i64 (x 8))).setCell ⟨b, i * 11 + 9, none⟩ (.int .i64 (x 9))).setCell ⟨b, i * 11 + 10, none⟩ (.int .i64 (x 10))) := by
  refine ⟨NT.congr ((((((((((((h).set hi (j := 0) (by decide) (x 0)).set hi (j := 1) (by decide) (x 1)).set hi (j := 2) (by decide) (x 2)).set hi (j := 3) (by decide) (x 3)).set hi (j := 4) (by decide) (x 4)).set hi (j := 5) (by decide) (x 5)).set hi (j := 6) (by decide) (x 6)).set hi (j := 7) (by decide) (x 7)).set hi (j := 8) (by decide) (x 8)).set hi (j := 9) (by decide) (x 9)).set hi (j := 10) (by decide) (x 10)) ?_, (Mod.set (S := (· = b)) (Mod.set (S := (· = b)) (Mod.set (S := (· = b)) (Mod.set (S := (· = b)) (Mod.set (S := (· = b)) (Mod.set (S := (· = b)) (Mod.set (S := (· = b)) (Mod.set (S := (· = b)) (Mod.set (S := (· = b)) (Mod.set (S := (· = b)) (Mod.set (S := (· = b)) (Mod.refl _ _) (.inl rfl)) (.inl rfl)) (.inl rfl)) (.inl rfl)) (.inl rfl)) (.inl rfl)) (.inl rfl)) (.inl rfl)) (.inl rfl)) (.inl rfl)) (.inl rfl))⟩
  intro k _ j hj
  unfold setRow
  by_cases e : k = i
  · rw [if_pos e]
    have : j = 0 ∨ j = 1 ∨ j = 2 ∨ j = 3 ∨ j = 4 ∨ j = 5 ∨ j = 6 ∨ j = 7 ∨ j = 8 ∨ j = 9 ∨ j = 10 := by omega
    rcases this with rfl | rfl | rfl | rfl | rfl | rfl | rfl | rfl | rfl | rfl | rfl <;> simp [put1, e]
  · rw [if_neg e]
    simp [put1, e]
/-- what node reads -/
def NS (t p : Nat) (cs : Array Value) (nv : Value) (n : Nat) (M : Nat → Nat → Int) (x : Nat → Int) (w : World) : Prop := Blk w t cs ∧ Blk w p #[.int .i64 (x 0), .int .i64 (x 1), .int .i64 (x 2), .int .i64 (x 3), .int .i64 (x 4), .int .i64 (x 5), .int .i64 (x 6), .int .i64 (x 7), .int .i64 (x 8), .int .i64 (x 9), .int .i64 (x 10)] ∧ w.ownsRow 0 63 11 nv n (rowsL M 11 n)
theorem NS.below {t p n : Nat} {cs : Array Value} {nv : Value} {M : Nat → Nat → Int} {x : Nat → Int} {w w' : World} (h : NS t p cs nv n M x w) (k : Below w.heap.size w w') : NS t p cs nv n M x w' := ⟨h.1.below k, h.2.1.below k, row_below h.2.2 k⟩
def NodeApp (w : World) (t : Nat) (nv fv : Value) (nn : Nat) (rt : Int) (som : Bool) (lf bx : Option Nat) (fat : Int) (M : Nat → Nat → Int) (x : Nat → Int) (e : Ending) (w' : World) : Prop :=
  e = .returned (.int .i64 (nn : Int)) ∧ ∃ b cap, Blk w' t #[.slice (some ⟨b, 0, none⟩) (nn + 1) cap, fv, .int .i64 rt, .bool som, .map lf, .map bx, .int .i64 fat] ∧ NT w' b cap (nn + 1) (setRow M nn x) ∧ (nv.ownBlock = some b ∨ w.heap.size ≤ b) ∧ Mod (fun y => y = t ∨ nv.ownBlock = some y) w w'
set_option maxRecDepth 100000 in
set_option maxHeartbeats 8000000 in
theorem node_app (w : World) (t : Nat) (nv : Value) (A : Option Addr) (C nn : Nat) (rt : Int) (som : Bool) (lf bx : Option Nat) (fat : Int) (M : Nat → Nat → Int) (x : Nat → Int) (hB : Blk w t #[nv, .slice A 0 C, .int .i64 rt, .bool som, .map lf, .map bx, .int .i64 fat]) (hN : w.ownsRow 0 63 11 nv nn (rowsL M 11 nn)) (hne : nv.ownBlock ≠ some t) (hnn : nn < 900000) :
    Calls Tryd.prog 22 #[.pointer (some ⟨t, 0, none⟩), .agg #[.int .i64 (x 0), .int .i64 (x 1), .int .i64 (x 2), .int .i64 (x 3), .int .i64 (x 4), .int .i64 (x 5), .int .i64 (x 6), .int .i64 (x 7), .int .i64 (x 8), .int .i64 (x 9), .int .i64 (x 10)]] w (NodeApp w t nv (.slice A 0 C) nn rt som lf bx fat M x) := by
  have HB : Hid (Blk w t #[nv, .slice A 0 C, .int .i64 rt, .bool som, .map lf, .map bx, .int .i64 fat]) := Lib.hid hB
  have HN := Lib.hid hN
  have HNE := Lib.hid hne
  have HNN := Lib.hid hnn
  clear hB hN hne hnn
  obtain ⟨zt, ct, ft⟩ := id HB.out
  go_enter Tryd.func22, Tryd.ntmps22
  go_upto_region 7 with fail
  refine wp_fresh ?_
  rintro w2 hb2
  have hp3 : Blk w2 w.heap.size #[.int .i64 (x 0), .int .i64 (x 1), .int .i64 (x 2), .int .i64 (x 3), .int .i64 (x 4), .int .i64 (x 5), .int .i64 (x 6), .int .i64 (x 7), .int .i64 (x 8), .int .i64 (x 9), .int .i64 (x 10)] := Blk.below (by
    refine blk_asB (cs := _) (by repeat (with_reducible (first | assumption | (apply Blk.at; simp; done) | apply Blk.alloc | apply Blk.drew | apply Blk.drewN | apply Blk.more | apply Blk.put | (apply Blk.far; focus (first | assumption | (apply Ne.symm; assumption) | (simp; done) | (simp <;> omega)))))) ?_
    simp only []) hb2
  have hv2 : Below w.heap.size w w2 := (by repeat (with_reducible (first | exact Below.refl _ _ | assumption | apply ext_drew | apply ext_drewN | apply ext_alloc | apply ext_more | (refine ext_setCell ?_ (by first | assumption | (simp <;> omega)) _) | (refine ext_below ?_ (by assumption)))))
  obtain ⟨p3, hpp⟩ : ∃ p3, p3 = w.heap.size := ⟨_, rfl⟩
  have htp : t < p3 := hpp ▸ zt
  have hlp : ∀ b, nv.ownBlock = some b → b < p3 := fun b hb => hpp ▸ (row_lt HN.out hb).1
  rw [← hpp] at hp3
  rw [← hpp]
  have HV2 := Lib.hid hv2
  have hd2 : Below w2.heap.size w2 w2.drew := ext_drew (Below.refl _ _)
  have hS0 : Blk w2.drew t #[nv, .slice A 0 C, .int .i64 rt, .bool som, .map lf, .map bx, .int .i64 fat] ∧ Blk w2.drew p3 #[.int .i64 (x 0), .int .i64 (x 1), .int .i64 (x 2), .int .i64 (x 3), .int .i64 (x 4), .int .i64 (x 5), .int .i64 (x 6), .int .i64 (x 7), .int .i64 (x 8), .int .i64 (x 9), .int .i64 (x 10)] := ⟨(HB.out.below hv2).below hd2, hp3.below hd2⟩
  have HTW := Lib.hid zt
  have HTP : Hid ((t < p3 ∧ ∀ b, nv.ownBlock = some b → b < p3) ∧ w.heap.size ≤ p3) := Lib.hid ⟨⟨htp, hlp⟩, by omega⟩
  clear hb2 hv2 hp3 zt ct ft htp hlp HB hpp hd2
  refine region_held_tail (fun w' => Blk w' t #[nv, .slice A 0 C, .int .i64 rt, .bool som, .map lf, .map bx, .int .i64 fat] ∧ Blk w' p3 #[.int .i64 (x 0), .int .i64 (x 1), .int .i64 (x 2), .int .i64 (x 3), .int .i64 (x 4), .int .i64 (x 5), .int .i64 (x 6), .int .i64 (x 7), .int .i64 (x 8), .int .i64 (x 9), .int .i64 (x 10)]) 8 (by kernel_rfl) (by kernel_rfl) hS0 (fun hHeld => ?_)
  clear hS0
  simp only [List.take_succ_cons, List.take_zero]
  refine wpAnyH_take (i := 0) (v := .pointer (some ⟨t, 0, none⟩)) rfl (by kernel_rfl) (by kernel_rfl) (by kernel_rfl) (fun _ _ _ h => h) (Or.inl ⟨by kernel_rfl, ?yn_0⟩) hHeld ?rn_0
  case yn_0 =>
    intro w hSw
    go_simp
    try with_reducible rfl
  try simp only [Act.put, List.getElem_toArray, List.getElem_cons_zero, List.setIfInBounds_toArray, List.set_cons_zero, List.set_cons_succ]
  refine wpAnyH_take (i := 1) (v := .pointer (some ⟨t, 0, none⟩)) rfl (by kernel_rfl) (by kernel_rfl) (by kernel_rfl) (fun _ _ _ h => h) (Or.inl ⟨by kernel_rfl, ?yn_1⟩) hHeld ?rn_1
  case yn_1 =>
    intro w hSw
    go_simp
    try with_reducible rfl
  try simp only [Act.put, List.getElem_toArray, List.getElem_cons_zero, List.getElem_cons_succ, List.setIfInBounds_toArray, List.set_cons_zero, List.set_cons_succ]
  refine wpAnyH_take (i := 2) (v := .pointer (some ⟨t, 0, none⟩)) rfl (by kernel_rfl) (by kernel_rfl) (by kernel_rfl) (fun _ _ _ h => h) (Or.inl ⟨by kernel_rfl, ?yn_2⟩) hHeld ?rn_2
  case yn_2 =>
    intro w hSw
    go_simp
    try with_reducible rfl
  try simp only [Act.put, List.getElem_toArray, List.getElem_cons_zero, List.getElem_cons_succ, List.setIfInBounds_toArray, List.set_cons_zero, List.set_cons_succ]
  refine wpAnyH_take (i := 3) (v := .pointer (some ⟨t, 0, none⟩)) rfl (by kernel_rfl) (by kernel_rfl) (by kernel_rfl) (fun _ _ _ h => h) (Or.inl ⟨by kernel_rfl, ?yn_3⟩) hHeld ?rn_3
  case yn_3 =>
    intro w hSw
    go_simp
    try with_reducible rfl
  try simp only [Act.put, List.getElem_toArray, List.getElem_cons_zero, List.getElem_cons_succ, List.setIfInBounds_toArray, List.set_cons_zero, List.set_cons_succ]
  refine wpAnyH_take (i := 4) (v := nv) rfl (by kernel_rfl) (by kernel_rfl) (by kernel_rfl) (fun _ _ _ h => h) (Or.inl ⟨by kernel_rfl, ?yn_4⟩) hHeld ?rn_4
  case yn_4 =>
    intro w hSw
    obtain ⟨⟨zt, ct, ft⟩, ⟨z3, c3, f3⟩⟩ := hSw
    go_simp
    try with_reducible rfl
  try simp only [Act.put, List.getElem_toArray, List.getElem_cons_zero, List.getElem_cons_succ, List.setIfInBounds_toArray, List.set_cons_zero, List.set_cons_succ]
  refine wpAnyH_take (i := 5) (v := .agg #[.int .i64 (x 0), .int .i64 (x 1), .int .i64 (x 2), .int .i64 (x 3), .int .i64 (x 4), .int .i64 (x 5), .int .i64 (x 6), .int .i64 (x 7), .int .i64 (x 8), .int .i64 (x 9), .int .i64 (x 10)]) rfl (by kernel_rfl) (by kernel_rfl) (by kernel_rfl) (fun _ _ _ h => h) (Or.inl ⟨by kernel_rfl, ?yn_5⟩) hHeld ?rn_5
  case yn_5 =>
    intro w hSw
    obtain ⟨⟨zt, ct, ft⟩, ⟨z3, c3, f3⟩⟩ := hSw
    go_simp
    try with_reducible rfl
  try simp only [Act.put, List.getElem_toArray, List.getElem_cons_zero, List.getElem_cons_succ, List.setIfInBounds_toArray, List.set_cons_zero, List.set_cons_succ]
  refine wpAnyH_ready (rs := [6]) (by kernel_rfl) (by simp) ?_
  refine AllReadyH.cons (o := _) rfl (fun K hK => ?_) AllReadyH.nil
  go_simp
  try dsimp only
  refine hK.out _ _ ⟨hHeld.1.below (ballocT _ _), hHeld.2.below (ballocT _ _)⟩ (fun hHeld => ?_)
  clear hK K
  try simp only [Act.put, List.getElem_toArray, List.getElem_cons_zero, List.getElem_cons_succ, List.setIfInBounds_toArray, List.set_cons_zero, List.set_cons_succ]
  refine any_freshT ?_ hHeld
  clear hHeld
  rintro w4 hb4 hHeld
  have hv4 : Below w2.heap.size w2 w4 := (by repeat (with_reducible (first | exact Below.refl _ _ | assumption | apply ext_drew | apply ext_drewN | apply ext_alloc | apply ext_more | (refine ext_setCell ?_ (by first | assumption | (simp <;> omega)) _) | (refine ext_below ?_ (by assumption)))))
  have hp6 : Blk w4 w2.heap.size #[.int .i64 (x 0), .int .i64 (x 1), .int .i64 (x 2), .int .i64 (x 3), .int .i64 (x 4), .int .i64 (x 5), .int .i64 (x 6), .int .i64 (x 7), .int .i64 (x 8), .int .i64 (x 9), .int .i64 (x 10)] := (Blk.fresh w2.drew _ _).below hb4
  have HP6 : Hid (w2.heap.size < w4.heap.size) := Lib.hid hp6.lt
  have HN4 : Hid (w4.ownsRow 0 63 11 nv nn (rowsL M 11 nn)) := Lib.hid (row_below (row_below HN.out HV2.out) hv4)
  have HV4 := Lib.hid (HV2.out.trans (hv4.mono HV2.out.size))
  have HB4 := Lib.hid hHeld
  clear hb4 hv4
  refine wpAnyH_ready (rs := [7]) (by kernel_rfl) (by simp) ?_
  refine AllReadyH.cons (o := _) rfl (fun K hK => ?_) AllReadyH.nil
  refine step_node rfl (.tmp 44) (.tmp 46) rfl nv nn M x rfl HN4.out rfl hp6 (by have := HNN.out; omega) ?_
  rintro b cap w5 hN5 hM5 hbo
  refine hK.out _ _ ⟨HB4.out.1.mod hM5 HNE.out, HB4.out.2.mod hM5 (fun e => Nat.lt_irrefl _ (HTP.out.1.2 _ e))⟩ (fun hHeld => ?_)
  clear hK K
  try simp only [Act.put, List.getElem_toArray, List.getElem_cons_zero, List.getElem_cons_succ, List.setIfInBounds_toArray, List.set_cons_zero, List.set_cons_succ]
  have HB5 := Lib.hid hHeld.1
  have HN5 := Lib.hid hN5
  have HM5 := Lib.hid hM5
  have HBO : Hid (nv.ownBlock = some b ∨ w.heap.size ≤ b) := Lib.hid (hbo.imp id (fun e => by rw [e]; exact HV4.out.size))
  refine wpAnyH_done (by kernel_rfl) ?_ _
  clear hHeld hp6 hN5 hM5 hbo
  simp only [TailQ, List.drop_succ_cons, List.drop_zero]
  obtain ⟨zt, ct, ft⟩ := id HB5.out
  have hwn : wrap64 (nn : Int) = nn := by have := HNN.out; unfold wrap64; omega
  go_wp2_with fail
  go_ret
  have hbt : b ≠ t := fun e => by
    rcases HBO.out with h | h
    · exact HNE.out (e ▸ h)
    · have := HTP.out.1.1
      have := HTP.out.2
      have := HTW.out
      omega
  refine ⟨(by show Ending.returned (.int .i64 (wrap64 (nn : Int))) = _; rw [hwn]), b, cap, Blk.put (i := 0) HB5.out, HN5.out.mod (Mod.set (S := (· = t)) (Mod.refl _ _) (.inl rfl)) hbt, HBO.out, ?_⟩
  exact Mod.set (((Mod.of_below HV4.out).trans (HM5.out.mono fun _ _ h => .inr h))) (.inl (.inl rfl))
def NodeFree (w : World) (t nb cap nn g m C : Nat) (zs : List Int) (rt : Int) (som : Bool) (lf bx : Option Nat) (fat : Int) (M : Nat → Nat → Int) (i : Nat) (x : Nat → Int) (e : Ending) (w' : World) : Prop :=
  e = .returned (.int .i64 (i : Int)) ∧ Blk w' t #[.slice (some ⟨nb, 0, none⟩) nn cap, .slice (some ⟨g, 0, none⟩) m C, .int .i64 rt, .bool som, .map lf, .map bx, .int .i64 fat] ∧ NT w' nb cap nn (setRow M i x) ∧ w'.ownsRow 0 3 1 (.slice (some ⟨g, 0, none⟩) m C) m (ints zs) ∧ Mod (fun y => y = t ∨ y = nb) w w'
set_option maxRecDepth 100000 in
set_option maxHeartbeats 8000000 in
theorem node_free (w : World) (t nb cap nn g m C : Nat) (zs : List Int) (rt : Int) (som : Bool) (lf bx : Option Nat) (fat : Int) (M : Nat → Nat → Int) (i : Nat) (x : Nat → Int) (hm : zs.length = m) (hB : Blk w t #[.slice (some ⟨nb, 0, none⟩) nn cap, .slice (some ⟨g, 0, none⟩) (m + 1) C, .int .i64 rt, .bool som, .map lf, .map bx, .int .i64 fat]) (hN : NT w nb cap nn M) (hF : w.ownsRow 0 3 1 (.slice (some ⟨g, 0, none⟩) (m + 1) C) (m + 1) (ints (zs ++ [(i : Int)]))) (hi : i < nn) (htn : t ≠ nb) (htg : t ≠ g) (hgn : g ≠ nb) :
    Calls Tryd.prog 22 #[.pointer (some ⟨t, 0, none⟩), .agg #[.int .i64 (x 0), .int .i64 (x 1), .int .i64 (x 2), .int .i64 (x 3), .int .i64 (x 4), .int .i64 (x 5), .int .i64 (x 6), .int .i64 (x 7), .int .i64 (x 8), .int .i64 (x 9), .int .i64 (x 10)]] w (NodeFree w t nb cap nn g m C zs rt som lf bx fat M i x) := by
  have HB : Hid (Blk w t #[.slice (some ⟨nb, 0, none⟩) nn cap, .slice (some ⟨g, 0, none⟩) (m + 1) C, .int .i64 rt, .bool som, .map lf, .map bx, .int .i64 fat]) := Lib.hid hB
  have HN := Lib.hid hN
  have HF := Lib.hid hF
  have HNE := Lib.hid (And.intro htn (And.intro htg hgn))
  obtain ⟨g', c', hv, -, hgl, hmC, hC, fg, cg, -⟩ := row_at hF (by omega)
  have qi : w.cell? ⟨g, m, none⟩ = some (.int .i64 (i : Int)) := by
    injection hv with e1 e2 e3
    injection e1 with e1
    injection e1 with e1
    subst e1
    refine cg m _ ?_
    subst hm
    simp [ints]
  have hgw : g < w.heap.size := (row_lt hF rfl).1
  have HM := Lib.hid hm
  have HC : Hid (m + 1 ≤ C ∧ C ≤ maxLen) := Lib.hid (by injection hv with e1 e2 e3; subst e3; exact ⟨hmC, hC⟩)
  clear hB hN hF htn htg hgn hv hgl hmC hC fg cg hm
  obtain ⟨zt, ct, ft⟩ := id HB.out
  have hmc1 : m + 1 ≤ C := HC.out.1
  have hm0 : decide ((0 : Int) < (m : Int) + 1) = true := decide_eq_true (by omega)
  have hw1 : wrap64 ((m : Int) + 1 - 1) = m := by have := HC.out.2; unfold maxLen at this; unfold wrap64; omega
  have hw2 : wrap64 (m : Int) = m := by have := HC.out.2; unfold maxLen at this; unfold wrap64; omega
  go_enter Tryd.func22, Tryd.ntmps22
  go_upto_region 5 with fail
  refine wp_fresh ?_
  rintro w2 hb2
  have hB2 : Blk w2 t #[.slice (some ⟨nb, 0, none⟩) nn cap, .slice (some ⟨g, 0, none⟩) m C, .int .i64 rt, .bool som, .map lf, .map bx, .int .i64 fat] := Blk.below (Blk.alloc (Blk.put (i := 1) HB.out) _) hb2
  have hp3 : Blk w2 w.heap.size #[.int .i64 (x 0), .int .i64 (x 1), .int .i64 (x 2), .int .i64 (x 3), .int .i64 (x 4), .int .i64 (x 5), .int .i64 (x 6), .int .i64 (x 7), .int .i64 (x 8), .int .i64 (x 9), .int .i64 (x 10)] := Blk.below (by
    refine blk_asB (cs := _) (by repeat (with_reducible (first | assumption | (apply Blk.at; simp; done) | apply Blk.alloc | apply Blk.drew | apply Blk.drewN | apply Blk.more | apply Blk.put | (apply Blk.far; focus (first | assumption | (apply Ne.symm; assumption) | (simp; done) | (simp <;> omega)))))) ?_
    simp only []) hb2
  have hm2 : Mod (· = t) w w2 := ((Mod.set (S := (· = t)) (Mod.refl _ _) (.inl rfl)).trans (Mod.of_below (ballocT _ _))).trans (Mod.of_below hb2)
  have hN2 : NT w2 nb cap nn M := HN.out.mod hm2 (fun e => HNE.out.1 e.symm)
  have hF2 : w2.ownsRow 0 3 1 (.slice (some ⟨g, 0, none⟩) m C) m (ints zs) := by
    have h := row_take HF.out (k := m) (by omega)
    rw [List.take_left' HM.out] at h
    exact row_mod h hm2 (fun b e => by cases e; exact fun e => HNE.out.2.1 e.symm)
  obtain ⟨p3, hpp⟩ : ∃ p3, p3 = w.heap.size := ⟨_, rfl⟩
  rw [← hpp] at hp3
  rw [← hpp]
  have HN2 := Lib.hid hN2
  have HF2 := Lib.hid hF2
  have HB2 := Lib.hid hB2
  have HP3 := Lib.hid hp3
  have HM2 := Lib.hid hm2
  clear hB2 hp3 hm2 hN2 hF2 hpp hb2 zt ct ft qi hmc1 hm0 hw1 HB HN HF HM hgw
  obtain ⟨zt, ct, ft⟩ := id HB2.out
  obtain ⟨z3, c3, f3⟩ := id HP3.out
  have hmc := more_cell
  refine region_quiet_but 7 (by kernel_rfl) (by kernel_rfl) ?_
  simp only [List.take_succ_cons, List.take_zero, List.drop_succ_cons, List.drop_zero]
  repeat (go_big_quiet_step (fail))
  refine wpQuiet_nil ?_
  rintro w3 hw3
  have hb3 := after_below hw3
  clear hw3 hmc zt ct ft z3 c3 f3 hw2
  have HB3 := Lib.hid (HB2.out.below hb3)
  have HN3 := Lib.hid (HN2.out.below hb3)
  have HF3 := Lib.hid (row_below HF2.out hb3)
  have HM3 : Hid (Mod (· = t) w w3) := Lib.hid (HM2.out.trans (Mod.of_below hb3))
  clear hb3 HB2 HN2 HF2 HM2 HP3
  have q0 := HN3.out.cell hi (j := 0) (by decide)
  have q1 := HN3.out.cell hi (j := 1) (by decide)
  have q2 := HN3.out.cell hi (j := 2) (by decide)
  have q3 := HN3.out.cell hi (j := 3) (by decide)
  have q4 := HN3.out.cell hi (j := 4) (by decide)
  have q5 := HN3.out.cell hi (j := 5) (by decide)
  have q6 := HN3.out.cell hi (j := 6) (by decide)
  have q7 := HN3.out.cell hi (j := 7) (by decide)
  have q8 := HN3.out.cell hi (j := 8) (by decide)
  have q9 := HN3.out.cell hi (j := 9) (by decide)
  have q10 := HN3.out.cell hi (j := 10) (by decide)
  simp only [Nat.add_zero] at q0
  have fq := HN3.out.free
  go_wp2_with fail
  obtain ⟨hN4, hM4⟩ := HN3.out.row hi x
  go_ret
  refine ⟨rfl, HB3.out.mod hM4 HNE.out.1, hN4, row_mod HF3.out hM4 (fun b e => by cases e; exact HNE.out.2.2), (HM3.out.mono fun _ _ h => .inl h).trans (hM4.mono fun _ _ h => .inr h)⟩
end Go.Proofs.YtefhmbmbhiehdaaDoor
