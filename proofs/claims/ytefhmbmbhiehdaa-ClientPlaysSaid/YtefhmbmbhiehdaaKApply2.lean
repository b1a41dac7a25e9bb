/- The contracts of the closures of gyreref.Apply, and of gyreref.Of. Conditions: none. -/
import Derived.Test.YtefhmbmbhiehdaaKApply1
import Derived.Test.YtefhmbmbhiehdaaKTape
import Derived.Test.YtefhmbmbhiehdaaKClC
import Derived.Test.YtefhmbmbhiehdaaKClA
namespace Go.Proofs.Ytefhmbmbhiehdaa
open Go.ChangeShapes Go.WideShapes Go.ChangeAt Go.RowKit Go.BigFrame
open B
theorem tdet_eq {base p : Nat} {v : Value} {L : List Nat} {r : Int × Int × Nat} {n e : Int} {a : Nat} {f : FuncId} {args : Array Value} {w : World} (h : Calls Try.prog f args w (TDet base p v L r w)) (hr : r = (n, e, a)) :
    Calls Try.prog f args w fun ev w' => ev = .returned (.tuple #[.int .i64 n, .int .i64 e]) ∧ Tp w' base p v L a ∧ Mod (· = p) w w' := by
  subst hr
  exact h
/-- the document's tape at block p, and whether it was not so, at block q -/
structure DR (w : World) (base p q : Nat) (tv : Value) (L : List Nat) (a : Nat) (bad : Bool) : Prop where
  tp : Tp w base p tv L a
  blk : Blk w q #[.bool bad]
  pq : q ≠ p
  d : tv.ownBlock ≠ some q
theorem DR.below {w w' : World} {base p q a : Nat} {tv : Value} {L : List Nat} {bad : Bool} (h : DR w base p q tv L a bad) (k : Below w.heap.size w w') : DR w' base p q tv L a bad := ⟨h.tp.below k, h.blk.below k, h.pq, h.d⟩
theorem DR.mod {w w' : World} {base p q a : Nat} {tv : Value} {L : List Nat} {bad : Bool} {S : Nat → Prop} (h : DR w base p q tv L a bad) (k : Mod S w w') (h1 : ¬ S p) (h2 : ¬ S q) (h3 : ∀ b, tv.ownBlock = some b → ¬ S b) : DR w' base p q tv L a bad :=
  ⟨h.tp.mod k h1 h3, h.blk.mod k h2, h.pq, h.d⟩
theorem DR.next {w w1 : World} {base p q a a' : Nat} {tv : Value} {L : List Nat} {bad : Bool} (h : DR w base p q tv L a bad) (hT : Tp w1 base p tv L a') (k : Mod (· = p) w w1) : DR w1 base p q tv L a' bad := ⟨hT, h.blk.mod k h.pq, h.pq, h.d⟩
theorem DR.flag {w w1 : World} {base p q a : Nat} {tv : Value} {L : List Nat} {bad bad' : Bool} (h : DR w base p q tv L a bad) (hQ : Blk w1 q #[.bool bad']) (k : Mod (· = q) w w1) : DR w1 base p q tv L a bad' := ⟨h.tp.mod k (fun e => h.pq e.symm) (fun _ hb e => h.d (e ▸ hb)), hQ, h.pq, h.d⟩
theorem rnumP_c (q : Nat) (bad : Bool) (n e : Int) (w : World) (h : Blk w q #[.bool bad]) : Calls Try.prog 83 #[.int .i64 n, .int .i64 e, .pointer (some ⟨q, 0, none⟩)] w fun ev w' => ev = .returned (.int .i64 n) ∧ Blk w' q #[.bool (bad || decide (e ≠ 0))] ∧ Mod (· = q) w w' := by
  have k0 : w.cell? ⟨q, 0, none⟩ = some (.bool bad) := h.cell 0
  have z0 := h.lt
  have f0 := h.free
  cases bad with
  | true =>
    go_enter Try.func83, Try.ntmps83
    go_wp2
    go_ret
    exact ⟨rfl, by simpa using h.put (i := 0) (v := .bool true), (Mod.refl _ _).set (.inl rfl)⟩
  | false =>
    by_cases he : e = 0
    · have he' : (e != 0) = false := by simpa using he
      have HE := Lib.hid he
      clear he
      go_enter Try.func83, Try.ntmps83
      go_wp2
      go_ret
      exact ⟨rfl, by simpa [HE.out] using h.put (i := 0) (v := .bool false), (Mod.refl _ _).set (.inl rfl)⟩
    · have he' : (e != 0) = true := by simpa using he
      have HE := Lib.hid he
      clear he
      go_enter Try.func83, Try.ntmps83
      go_wp2
      go_ret
      exact ⟨rfl, by simpa [HE.out] using h.put (i := 0) (v := .bool true), (Mod.refl _ _).set (.inl rfl)⟩
theorem rof_c (u : Nat) (x y z : Int) (w : World) (h : Blk w u #[.int .i64 x, .int .i64 y, .int .i64 z]) : Calls Try.prog 86 #[.slice (some ⟨u, 0, none⟩) 3 3] w fun e w' => e = .returned (.agg #[.int .i64 x, .int .i64 y, .int .i64 z]) ∧ Below w.heap.size w w' := by
  go_enter Try.func86, Try.ntmps86
  go_wp2_with fail
  refine wp_fresh ?_
  rintro w1 hb1
  have U1 : Blk w1 u #[.int .i64 x, .int .i64 y, .int .i64 z] := Blk.below (by repeat (with_reducible (first | assumption | (apply Blk.at; simp; done) | apply Blk.alloc | apply Blk.drew | apply Blk.drewN | apply Blk.more | apply Blk.put | (apply Blk.far; focus (first | assumption | (apply Ne.symm; assumption) | (simp; done) | (simp <;> omega)))))) hb1
  have T1 : Blk w1 w.heap.size #[.int .i64 0, .int .i64 0, .int .i64 0] := Blk.below (by repeat (with_reducible (first | assumption | (apply Blk.at; simp; done) | apply Blk.alloc | apply Blk.drew | apply Blk.drewN | apply Blk.more | apply Blk.put | (apply Blk.far; focus (first | assumption | (apply Ne.symm; assumption) | (simp; done) | (simp <;> omega)))))) hb1
  have hB1 : Below w.heap.size w w1 := (by repeat (with_reducible (first | exact Below.refl _ _ | assumption | apply ext_drew | apply ext_drewN | apply ext_alloc | apply ext_more | (refine ext_setCell ?_ (by first | assumption | (simp <;> omega)) _) | (refine ext_below ?_ (by assumption)))))
  obtain ⟨zu, cu, fu⟩ := id U1
  obtain ⟨zt, ct, ft⟩ := id T1
  have hmc := more_cell
  clear hb1 h
  refine region_quiet_but 10 (by kernel_rfl) (by kernel_rfl) ?_
  simp only [List.take_succ_cons, List.take_zero, List.drop_succ_cons, List.drop_zero]
  repeat (go_big_quiet_step (fail))
  refine wpQuiet_nil ?_
  rintro w2 hw2
  have hb2 := after_below hw2
  have T2 := T1.below hb2
  have hB2 := ext_below hB1 hb2
  clear hw2 hb2 T1 zt ct ft hmc
  obtain ⟨zt, ct, ft⟩ := id T2
  go_wp2
  exact bodyPost_ret (v := .agg #[.int .i64 x, .int .i64 y, .int .i64 z]) (by simp [results, Try.results86, go_sem, *]) rfl ⟨rfl, (by repeat (with_reducible (first | exact Below.refl _ _ | assumption | apply ext_drew | apply ext_drewN | apply ext_alloc | apply ext_more | (refine ext_setCell ?_ (by first | assumption | (simp <;> omega)) _) | (refine ext_below ?_ (by assumption)))))⟩

set_option maxRecDepth 100000 in
set_option maxHeartbeats 8000000 in
theorem rvecP_c (base p q c8 c6 : Nat) (s : Nat × Bool) (tv : Value) (L : List Nat) (x y z : Int) (r : (Int × Int × Int) × (Nat × Bool)) (w : World) (hr : v3R L x y z s = r) (h : DR w base p q tv L s.1 s.2) (h8 : Blk w c8 #[.func (.func 83) #[] #[.pointer (some ⟨q, 0, none⟩)]]) (h6 : Blk w c6 #[.pointer (some ⟨p, 0, none⟩)]) (n8 : c8 ≠ p ∧ c8 ≠ q) (n6 : c6 ≠ p ∧ c6 ≠ q) (hx : In62 x) (hy : In62 y) (hz : In62 z) :
    Calls Try.prog 84 #[.agg #[.int .i64 x, .int .i64 y, .int .i64 z], .pointer (some ⟨c8, 0, none⟩), .pointer (some ⟨c6, 0, none⟩)] w fun e w' => e = .returned (.agg #[.int .i64 r.1.1, .int .i64 r.1.2.1, .int .i64 r.1.2.2]) ∧ DR w' base p q tv L r.2.1 r.2.2 ∧ Mod (fun b => b = p ∨ b = q) w w' := by
  unfold In62 at hx hy hz
  have HR := Lib.hid hr
  have HH := Lib.hid h
  have H8 := Lib.hid h8
  have H6 := Lib.hid h6
  have hpl := h.tp.blk.lt
  have hql := h.blk.lt
  have HTV : Hid (∀ b, tv.ownBlock = some b → b < w.heap.size) := Lib.hid (fun b hb => (row_lt h.tp.row hb).1)
  have hl8 := h8.lt
  have hl6 := h6.lt
  clear hr h h8 h6
  go_enter Try.func84, Try.ntmps84
  go_wp2_with fail
  refine calls_fresh ?_
  rintro w1 hb1
  have hB1 : Below w.heap.size w w1 := (by repeat (with_reducible (first | exact Below.refl _ _ | assumption | apply ext_drew | apply ext_drewN | apply ext_alloc | apply ext_more | (refine ext_setCell ?_ (by first | assumption | (simp <;> omega)) _) | (refine ext_below ?_ (by assumption)))))
  have O1 : Blk w1 (w.heap.size + 1) #[.int .i64 0, .int .i64 0, .int .i64 0] := Blk.below (by repeat (with_reducible (first | assumption | (apply Blk.at; simp; done) | apply Blk.alloc | apply Blk.drew | apply Blk.drewN | apply Blk.more | apply Blk.put | (apply Blk.far; focus (first | assumption | (apply Ne.symm; assumption) | (simp; done) | (simp <;> omega)))))) hb1
  clear hb1
  refine (parts_c x y z _).mono ?_
  rintro e w2 ⟨rfl, U2, hb2⟩
  have hB2 := ext_below hB1 hb2
  have O2 := O1.below hb2
  have h2 := HH.out.below hB2
  have E2 := H8.out.below hB2
  have G2 := H6.out.below hB2
  have HM2 : Hid (Mod (fun b => b = p ∨ b = q) w w2) := Lib.hid (Mod.of_below hB2)
  have hsz := hB1.size
  obtain ⟨u, hu⟩ : ∃ u, u = w1.heap.size + 1 := ⟨_, rfl⟩
  obtain ⟨t, ht⟩ : ∃ t, t = w.heap.size + 1 := ⟨_, rfl⟩
  rw [← hu] at U2
  rw [← ht] at O2
  rw [← hu, ← ht]
  have hot : t < w1.heap.size := by rw [ht]; exact O1.lt
  have hne : u ≠ p ∧ u ≠ q ∧ u ≠ c8 ∧ u ≠ c6 ∧ t ≠ p ∧ t ≠ q ∧ u ≠ t := by omega
  obtain ⟨up, uq, u8, u6, tp, tq, ut⟩ := hne
  have HTW : Hid (w.heap.size ≤ t) := Lib.hid (by omega)
  have HUW : Hid (w.heap.size ≤ u) := Lib.hid (by omega)
  have HTU : Hid (tv.ownBlock ≠ some u) := Lib.hid (fun e => by have := HTV.out _ e; omega)
  have HTT : Hid (tv.ownBlock ≠ some t) := Lib.hid (fun e => by have := HTV.out _ e; omega)
  clear hu ht hb2 hB1 hB2 hot hsz hpl hql hl8 hl6 O1
  go_wp2
  obtain ⟨zu, cu, fu⟩ := id U2
  obtain ⟨ze, ce, fe⟩ := id E2
  obtain ⟨zg, cg, fg⟩ := id G2
  refine wp_loop_rounds 4 ?_
  obtain ⟨n1, e1, a1, hr1⟩ : ∃ n e a, intD L s.1 = (n, e, a) := ⟨_, _, _, rfl⟩
  have hn1 := intD_bd L s.1
  rw [hr1] at hn1
  simp only at hn1
  obtain ⟨s1, hs1⟩ : ∃ s', s' = (a1, s.2 || decide (e1 ≠ 0)) := ⟨_, rfl⟩
  have HS1 : Hid ((x + (rI L s).1, (rI L s).2) = (x + n1, s1)) := Lib.hid (by rw [hs1]; unfold rI; rw [hr1])
  have QQ1 : Hid (∀ wx, Mod (fun b => b = p ∨ b = q) w2 wx → wx.cell? ⟨u, 0, none⟩ = some (.int .i64 x) ∧ wx.cell? ⟨c8, 0, none⟩ = some (.func (.func 83) #[] #[.pointer (some ⟨q, 0, none⟩)]) ∧ wx.cell? ⟨c6, 0, none⟩ = some (.pointer (some ⟨p, 0, none⟩))) := Lib.hid (fun wx hm => ⟨(hm.cell U2.lt (by omega)).trans (U2.cell 0), (hm.cell E2.lt (by omega)).trans (E2.cell 0), (hm.cell G2.lt (by omega)).trans (G2.cell 0)⟩)
  rw [rounds_succ]
  go_wp2
  have hD2 := h2.below (w' := w2.drew) (ext_drew (Below.refl _ _))
  have hmm0 : Mod (fun b => b = p ∨ b = q) w2 w2.drew := (Mod.refl _ _).drew
  clear zu cu fu ze ce fe zg cg fg
  refine region_held_tail (fun w' => w'.cell? ⟨u, 0, none⟩ = some (.int .i64 x) ∧ w'.cell? ⟨c8, 0, none⟩ = some (.func (.func 83) #[] #[.pointer (some ⟨q, 0, none⟩)]) ∧ w'.cell? ⟨c6, 0, none⟩ = some (.pointer (some ⟨p, 0, none⟩))) 12 (by kernel_rfl) (by kernel_rfl) (QQ1.out _ hmm0) (fun hHeld => ?_)
  simp only [List.take_succ_cons, List.take_zero]
  refine wpAnyH_take (i := 0) (v := ?vr1_0) rfl (by kernel_rfl) (by kernel_rfl) (by kernel_rfl) (fun _ _ _ h => h) (Or.inl ⟨by kernel_rfl, ?yr1_0⟩) hHeld ?rr1_0
  case yr1_0 =>
    intro w hSw
    try dsimp only at hSw
    obtain ⟨e0, e1, e2⟩ := hSw
    go_simp
    try with_reducible rfl
  try simp only [Act.put, List.setIfInBounds_toArray]
  refine wpAnyH_take (i := 1) (v := ?vr1_1) rfl (by kernel_rfl) (by kernel_rfl) (by kernel_rfl) (fun _ _ _ h => h) (Or.inl ⟨by kernel_rfl, ?yr1_1⟩) hHeld ?rr1_1
  case yr1_1 =>
    intro w hSw
    try dsimp only at hSw
    obtain ⟨e0, e1, e2⟩ := hSw
    go_simp
    try with_reducible rfl
  try simp only [Act.put]
  refine wpAnyH_take (i := 2) (v := ?vr1_2) rfl (by kernel_rfl) (by kernel_rfl) (by kernel_rfl) (fun _ _ _ h => h) (Or.inl ⟨by kernel_rfl, ?yr1_2⟩) hHeld ?rr1_2
  case yr1_2 =>
    intro w hSw
    try dsimp only at hSw
    obtain ⟨e0, e1, e2⟩ := hSw
    go_simp
    try with_reducible rfl
  try simp only [Act.put]
  refine wpAnyH_take (i := 3) (v := ?vr1_3) rfl (by kernel_rfl) (by kernel_rfl) (by kernel_rfl) (fun _ _ _ h => h) (Or.inl ⟨by kernel_rfl, ?yr1_3⟩) hHeld ?rr1_3
  case yr1_3 =>
    intro w hSw
    try dsimp only at hSw
    obtain ⟨e0, e1, e2⟩ := hSw
    go_simp
    try with_reducible rfl
  try simp only [Act.put]
  refine wpAnyH_take (i := 4) (v := ?vr1_4) rfl (by kernel_rfl) (by kernel_rfl) (by kernel_rfl) (fun _ _ _ h => h) (Or.inl ⟨by kernel_rfl, ?yr1_4⟩) hHeld ?rr1_4
  case yr1_4 =>
    intro w hSw
    try dsimp only at hSw
    obtain ⟨e0, e1, e2⟩ := hSw
    go_simp
    try with_reducible rfl
  try simp only [Act.put]
  refine wpAnyH_take (i := 5) (v := ?vr1_5) rfl (by kernel_rfl) (by kernel_rfl) (by kernel_rfl) (fun _ _ _ h => h) (Or.inl ⟨by kernel_rfl, ?yr1_5⟩) hHeld ?rr1_5
  case yr1_5 =>
    intro w hSw
    try dsimp only at hSw
    obtain ⟨e0, e1, e2⟩ := hSw
    go_simp
    try with_reducible rfl
  try simp only [Act.put]
  refine wpAnyH_ready (rs := [6]) (by kernel_rfl) (by simp) ?_
  refine AllReadyH.cons (o := _) rfl (fun K hK => ?_) AllReadyH.nil
  go_simp
  refine (tdet_eq (tint_c base p s.1 tv L _ hD2.tp) hr1).mono ?_
  rintro e w3 ⟨rfl, hT3, hm3⟩
  have hD3 := hD2.next hT3 hm3
  have hmm1 := hmm0.trans (hm3.mono (T := fun b => b = p ∨ b = q) fun _ _ h => .inl h)
  try dsimp only
  refine hK.out _ _ ?_ (fun hHeld => ?_)
  · exact QQ1.out _ hmm1
  clear hK K
  try simp only [Act.put, List.setIfInBounds_toArray, List.set_cons_zero, List.set_cons_succ]
  refine wpAnyH_take (i := 7) (v := ?vr1_7) rfl (by kernel_rfl) (by kernel_rfl) (by kernel_rfl) (fun _ _ _ h => h) (Or.inl ⟨by kernel_rfl, ?yr1_7⟩) hHeld ?rr1_7
  case yr1_7 =>
    intro w hSw
    try dsimp only at hSw
    obtain ⟨e0, e1, e2⟩ := hSw
    go_simp
    try with_reducible rfl
  try simp only [Act.put, List.setIfInBounds_toArray]
  refine wpAnyH_take (i := 8) (v := ?vr1_8) rfl (by kernel_rfl) (by kernel_rfl) (by kernel_rfl) (fun _ _ _ h => h) (Or.inl ⟨by kernel_rfl, ?yr1_8⟩) hHeld ?rr1_8
  case yr1_8 =>
    intro w hSw
    try dsimp only at hSw
    obtain ⟨e0, e1, e2⟩ := hSw
    go_simp
    try with_reducible rfl
  try simp only [Act.put]
  refine wpAnyH_ready (rs := [9]) (by kernel_rfl) (by simp) ?_
  refine AllReadyH.cons (o := _) rfl (fun K hK => ?_) AllReadyH.nil
  go_simp
  refine (rnumP_c q s.2 n1 e1 _ hD3.blk).mono ?_
  rintro e w4 ⟨rfl, hQ4, hm4⟩
  have hD4 := hD3.flag hQ4 hm4
  have hmm2 := hmm1.trans (hm4.mono (T := fun b => b = p ∨ b = q) fun _ _ h => .inr h)
  try dsimp only
  refine hK.out _ _ ?_ (fun hHeld => ?_)
  · exact QQ1.out _ hmm2
  clear hK K
  try simp only [Act.put, List.setIfInBounds_toArray, List.set_cons_zero, List.set_cons_succ]
  refine wpAnyH_take (i := 10) (v := ?vr1_10) rfl (by kernel_rfl) (by kernel_rfl) (by kernel_rfl) (fun _ _ _ h => h) (Or.inl ⟨by kernel_rfl, ?yr1_10⟩) hHeld ?rr1_10
  case yr1_10 =>
    intro w hSw
    try dsimp only at hSw
    obtain ⟨e0, e1, e2⟩ := hSw
    go_simp
    try with_reducible rfl
  try simp only [Act.put, List.setIfInBounds_toArray]
  refine wpAnyH_take (i := 11) (v := ?vr1_11) rfl (by kernel_rfl) (by kernel_rfl) (by kernel_rfl) (fun _ _ _ h => h) (Or.inl ⟨by kernel_rfl, ?yr1_11⟩) hHeld ?rr1_11
  case yr1_11 =>
    intro w hSw
    try dsimp only at hSw
    obtain ⟨e0, e1, e2⟩ := hSw
    go_simp
    try with_reducible rfl
  try simp only [Act.put]
  refine wpAnyH_done (by kernel_rfl) ?_ _
  clear hHeld
  simp only [TailQ, List.drop_succ_cons, List.drop_zero]
  have h4 := hD4
  have U4 := U2.mod hmm2 (by omega)
  have E4 := E2.mod hmm2 (by omega)
  have G4 := G2.mod hmm2 (by omega)
  have O4 := O2.mod hmm2 (by omega)
  have HM4 := Lib.hid (HM2.out.trans hmm2)
  have hsq4 : (s.2 || decide (e1 ≠ 0)) = s1.2 := by rw [hs1]
  have hsp4 : a1 = s1.1 := by rw [hs1]
  rw [hsq4, hsp4] at h4
  clear hD2 hD3 hD4 hT3 hm3 hQ4 hm4 hmm0 hmm1 hmm2 U2 E2 G2 O2 h2 hs1 hsq4 hsp4 hr1 QQ1
  obtain ⟨zu, cu, fu⟩ := id U4
  go_wp2
  refine wp_fresh ?_
  rintro w5 hb5
  have hS5 : Mod (· = u) w4 w5 := Mod.below ((Mod.refl (· = u) w4).set (.inl rfl)) hb5
  have U5 : Blk w5 u _ := Blk.below (by repeat (with_reducible (first | assumption | (apply Blk.at; simp; done) | apply Blk.alloc | apply Blk.drew | apply Blk.drewN | apply Blk.more | apply Blk.put | (apply Blk.far; focus (first | assumption | (apply Ne.symm; assumption) | (simp; done) | (simp <;> omega)))))) hb5
  try simp only [List.setIfInBounds_toArray, List.set_cons_zero] at U5
  have E5 := E4.mod hS5 (by omega)
  have G5 := G4.mod hS5 (by omega)
  have O5 := O4.mod hS5 (by omega)
  have h5 := h4.mod hS5 (by omega) (by omega) (fun b hb e => HTU.out (e ▸ hb))
  have HM5 : Hid (Mod (fun b => b = p ∨ b = q ∨ b = u) w w5) := Lib.hid ((HM4.out.mono (T := fun b => b = p ∨ b = q ∨ b = u) fun _ _ h => h.elim .inl (fun h => .inr (.inl h))).trans (hS5.mono fun _ _ h => .inr (.inr h)))
  clear hb5 hS5 U4 E4 G4 O4 h4 HM4 HM2 zu cu fu hn1
  obtain ⟨zu, cu, fu⟩ := id U5
  obtain ⟨ze, ce, fe⟩ := id E5
  obtain ⟨zg, cg, fg⟩ := id G5
  obtain ⟨n2, e2, a2, hr2⟩ : ∃ n e a, intD L s1.1 = (n, e, a) := ⟨_, _, _, rfl⟩
  have hn2 := intD_bd L s1.1
  rw [hr2] at hn2
  simp only at hn2
  obtain ⟨s2, hs2⟩ : ∃ s', s' = (a2, s1.2 || decide (e2 ≠ 0)) := ⟨_, rfl⟩
  have HS2 : Hid ((y + (rI L s1).1, (rI L s1).2) = (y + n2, s2)) := Lib.hid (by rw [hs2]; unfold rI; rw [hr2])
  have QQ2 : Hid (∀ wx, Mod (fun b => b = p ∨ b = q) w5 wx → wx.cell? ⟨u, 1, none⟩ = some (.int .i64 y) ∧ wx.cell? ⟨c8, 0, none⟩ = some (.func (.func 83) #[] #[.pointer (some ⟨q, 0, none⟩)]) ∧ wx.cell? ⟨c6, 0, none⟩ = some (.pointer (some ⟨p, 0, none⟩))) := Lib.hid (fun wx hm => ⟨(hm.cell U5.lt (by omega)).trans (U5.cell 1), (hm.cell E5.lt (by omega)).trans (E5.cell 0), (hm.cell G5.lt (by omega)).trans (G5.cell 0)⟩)
  go_wp2
  have hD5 := h5.below (w' := w5.drew) (ext_drew (Below.refl _ _))
  have hmm0 : Mod (fun b => b = p ∨ b = q) w5 w5.drew := (Mod.refl _ _).drew
  clear zu cu fu ze ce fe zg cg fg
  refine region_held_tail (fun w' => w'.cell? ⟨u, 1, none⟩ = some (.int .i64 y) ∧ w'.cell? ⟨c8, 0, none⟩ = some (.func (.func 83) #[] #[.pointer (some ⟨q, 0, none⟩)]) ∧ w'.cell? ⟨c6, 0, none⟩ = some (.pointer (some ⟨p, 0, none⟩))) 12 (by kernel_rfl) (by kernel_rfl) (QQ2.out _ hmm0) (fun hHeld => ?_)
  simp only [List.take_succ_cons, List.take_zero]
  refine wpAnyH_take (i := 0) (v := ?vr2_0) rfl (by kernel_rfl) (by kernel_rfl) (by kernel_rfl) (fun _ _ _ h => h) (Or.inl ⟨by kernel_rfl, ?yr2_0⟩) hHeld ?rr2_0
  case yr2_0 =>
    intro w hSw
    try dsimp only at hSw
    obtain ⟨e0, e1, e2⟩ := hSw
    go_simp
    try with_reducible rfl
  try simp only [Act.put, List.setIfInBounds_toArray]
  refine wpAnyH_take (i := 1) (v := ?vr2_1) rfl (by kernel_rfl) (by kernel_rfl) (by kernel_rfl) (fun _ _ _ h => h) (Or.inl ⟨by kernel_rfl, ?yr2_1⟩) hHeld ?rr2_1
  case yr2_1 =>
    intro w hSw
    try dsimp only at hSw
    obtain ⟨e0, e1, e2⟩ := hSw
    go_simp
    try with_reducible rfl
  try simp only [Act.put]
  refine wpAnyH_take (i := 2) (v := ?vr2_2) rfl (by kernel_rfl) (by kernel_rfl) (by kernel_rfl) (fun _ _ _ h => h) (Or.inl ⟨by kernel_rfl, ?yr2_2⟩) hHeld ?rr2_2
  case yr2_2 =>
    intro w hSw
    try dsimp only at hSw
    obtain ⟨e0, e1, e2⟩ := hSw
    go_simp
    try with_reducible rfl
  try simp only [Act.put]
  refine wpAnyH_take (i := 3) (v := ?vr2_3) rfl (by kernel_rfl) (by kernel_rfl) (by kernel_rfl) (fun _ _ _ h => h) (Or.inl ⟨by kernel_rfl, ?yr2_3⟩) hHeld ?rr2_3
  case yr2_3 =>
    intro w hSw
    try dsimp only at hSw
    obtain ⟨e0, e1, e2⟩ := hSw
    go_simp
    try with_reducible rfl
  try simp only [Act.put]
  refine wpAnyH_take (i := 4) (v := ?vr2_4) rfl (by kernel_rfl) (by kernel_rfl) (by kernel_rfl) (fun _ _ _ h => h) (Or.inl ⟨by kernel_rfl, ?yr2_4⟩) hHeld ?rr2_4
  case yr2_4 =>
    intro w hSw
    try dsimp only at hSw
    obtain ⟨e0, e1, e2⟩ := hSw
    go_simp
    try with_reducible rfl
  try simp only [Act.put]
  refine wpAnyH_take (i := 5) (v := ?vr2_5) rfl (by kernel_rfl) (by kernel_rfl) (by kernel_rfl) (fun _ _ _ h => h) (Or.inl ⟨by kernel_rfl, ?yr2_5⟩) hHeld ?rr2_5
  case yr2_5 =>
    intro w hSw
    try dsimp only at hSw
    obtain ⟨e0, e1, e2⟩ := hSw
    go_simp
    try with_reducible rfl
  try simp only [Act.put]
  refine wpAnyH_ready (rs := [6]) (by kernel_rfl) (by simp) ?_
  refine AllReadyH.cons (o := _) rfl (fun K hK => ?_) AllReadyH.nil
  go_simp
  refine (tdet_eq (tint_c base p s1.1 tv L _ hD5.tp) hr2).mono ?_
  rintro e w6 ⟨rfl, hT6, hm6⟩
  have hD6 := hD5.next hT6 hm6
  have hmm1 := hmm0.trans (hm6.mono (T := fun b => b = p ∨ b = q) fun _ _ h => .inl h)
  try dsimp only
  refine hK.out _ _ ?_ (fun hHeld => ?_)
  · exact QQ2.out _ hmm1
  clear hK K
  try simp only [Act.put, List.setIfInBounds_toArray, List.set_cons_zero, List.set_cons_succ]
  refine wpAnyH_take (i := 7) (v := ?vr2_7) rfl (by kernel_rfl) (by kernel_rfl) (by kernel_rfl) (fun _ _ _ h => h) (Or.inl ⟨by kernel_rfl, ?yr2_7⟩) hHeld ?rr2_7
  case yr2_7 =>
    intro w hSw
    try dsimp only at hSw
    obtain ⟨e0, e1, e2⟩ := hSw
    go_simp
    try with_reducible rfl
  try simp only [Act.put, List.setIfInBounds_toArray]
  refine wpAnyH_take (i := 8) (v := ?vr2_8) rfl (by kernel_rfl) (by kernel_rfl) (by kernel_rfl) (fun _ _ _ h => h) (Or.inl ⟨by kernel_rfl, ?yr2_8⟩) hHeld ?rr2_8
  case yr2_8 =>
    intro w hSw
    try dsimp only at hSw
    obtain ⟨e0, e1, e2⟩ := hSw
    go_simp
    try with_reducible rfl
  try simp only [Act.put]
  refine wpAnyH_ready (rs := [9]) (by kernel_rfl) (by simp) ?_
  refine AllReadyH.cons (o := _) rfl (fun K hK => ?_) AllReadyH.nil
  go_simp
  refine (rnumP_c q s1.2 n2 e2 _ hD6.blk).mono ?_
  rintro e w7 ⟨rfl, hQ7, hm7⟩
  have hD7 := hD6.flag hQ7 hm7
  have hmm2 := hmm1.trans (hm7.mono (T := fun b => b = p ∨ b = q) fun _ _ h => .inr h)
  try dsimp only
  refine hK.out _ _ ?_ (fun hHeld => ?_)
  · exact QQ2.out _ hmm2
  clear hK K
  try simp only [Act.put, List.setIfInBounds_toArray, List.set_cons_zero, List.set_cons_succ]
  refine wpAnyH_take (i := 10) (v := ?vr2_10) rfl (by kernel_rfl) (by kernel_rfl) (by kernel_rfl) (fun _ _ _ h => h) (Or.inl ⟨by kernel_rfl, ?yr2_10⟩) hHeld ?rr2_10
  case yr2_10 =>
    intro w hSw
    try dsimp only at hSw
    obtain ⟨e0, e1, e2⟩ := hSw
    go_simp
    try with_reducible rfl
  try simp only [Act.put, List.setIfInBounds_toArray]
  refine wpAnyH_take (i := 11) (v := ?vr2_11) rfl (by kernel_rfl) (by kernel_rfl) (by kernel_rfl) (fun _ _ _ h => h) (Or.inl ⟨by kernel_rfl, ?yr2_11⟩) hHeld ?rr2_11
  case yr2_11 =>
    intro w hSw
    try dsimp only at hSw
    obtain ⟨e0, e1, e2⟩ := hSw
    go_simp
    try with_reducible rfl
  try simp only [Act.put]
  refine wpAnyH_done (by kernel_rfl) ?_ _
  clear hHeld
  simp only [TailQ, List.drop_succ_cons, List.drop_zero]
  have h7 := hD7
  have U7 := U5.mod hmm2 (by omega)
  have E7 := E5.mod hmm2 (by omega)
  have G7 := G5.mod hmm2 (by omega)
  have O7 := O5.mod hmm2 (by omega)
  have HM7 := Lib.hid (HM5.out.trans (hmm2.mono (T := fun b => b = p ∨ b = q ∨ b = u) fun _ _ h => h.elim .inl (fun h => .inr (.inl h))))
  have hsq7 : (s1.2 || decide (e2 ≠ 0)) = s2.2 := by rw [hs2]
  have hsp7 : a2 = s2.1 := by rw [hs2]
  rw [hsq7, hsp7] at h7
  clear hD5 hD6 hD7 hT6 hm6 hQ7 hm7 hmm0 hmm1 hmm2 U5 E5 G5 O5 h5 hs2 hsq7 hsp7 hr2 QQ2
  obtain ⟨zu, cu, fu⟩ := id U7
  go_wp2
  refine wp_fresh ?_
  rintro w8 hb8
  have hS8 : Mod (· = u) w7 w8 := Mod.below ((Mod.refl (· = u) w7).set (.inl rfl)) hb8
  have U8 : Blk w8 u _ := Blk.below (by repeat (with_reducible (first | assumption | (apply Blk.at; simp; done) | apply Blk.alloc | apply Blk.drew | apply Blk.drewN | apply Blk.more | apply Blk.put | (apply Blk.far; focus (first | assumption | (apply Ne.symm; assumption) | (simp; done) | (simp <;> omega)))))) hb8
  try simp only [List.setIfInBounds_toArray, List.set_cons_zero, List.set_cons_succ] at U8
  have E8 := E7.mod hS8 (by omega)
  have G8 := G7.mod hS8 (by omega)
  have O8 := O7.mod hS8 (by omega)
  have h8 := h7.mod hS8 (by omega) (by omega) (fun b hb e => HTU.out (e ▸ hb))
  have HM8 : Hid (Mod (fun b => b = p ∨ b = q ∨ b = u) w w8) := Lib.hid ((HM7.out.mono (T := fun b => b = p ∨ b = q ∨ b = u) fun _ _ h => h).trans (hS8.mono fun _ _ h => .inr (.inr h)))
  clear hb8 hS8 U7 E7 G7 O7 h7 HM7 HM5 zu cu fu hn2
  obtain ⟨zu, cu, fu⟩ := id U8
  obtain ⟨ze, ce, fe⟩ := id E8
  obtain ⟨zg, cg, fg⟩ := id G8
  obtain ⟨n3, e3, a3, hr3⟩ : ∃ n e a, intD L s2.1 = (n, e, a) := ⟨_, _, _, rfl⟩
  have hn3 := intD_bd L s2.1
  rw [hr3] at hn3
  simp only at hn3
  obtain ⟨s3, hs3⟩ : ∃ s', s' = (a3, s2.2 || decide (e3 ≠ 0)) := ⟨_, rfl⟩
  have HS3 : Hid ((z + (rI L s2).1, (rI L s2).2) = (z + n3, s3)) := Lib.hid (by rw [hs3]; unfold rI; rw [hr3])
  have QQ3 : Hid (∀ wx, Mod (fun b => b = p ∨ b = q) w8 wx → wx.cell? ⟨u, 2, none⟩ = some (.int .i64 z) ∧ wx.cell? ⟨c8, 0, none⟩ = some (.func (.func 83) #[] #[.pointer (some ⟨q, 0, none⟩)]) ∧ wx.cell? ⟨c6, 0, none⟩ = some (.pointer (some ⟨p, 0, none⟩))) := Lib.hid (fun wx hm => ⟨(hm.cell U8.lt (by omega)).trans (U8.cell 2), (hm.cell E8.lt (by omega)).trans (E8.cell 0), (hm.cell G8.lt (by omega)).trans (G8.cell 0)⟩)
  go_wp2
  have hD8 := h8.below (w' := w8.drew) (ext_drew (Below.refl _ _))
  have hmm0 : Mod (fun b => b = p ∨ b = q) w8 w8.drew := (Mod.refl _ _).drew
  clear zu cu fu ze ce fe zg cg fg
  refine region_held_tail (fun w' => w'.cell? ⟨u, 2, none⟩ = some (.int .i64 z) ∧ w'.cell? ⟨c8, 0, none⟩ = some (.func (.func 83) #[] #[.pointer (some ⟨q, 0, none⟩)]) ∧ w'.cell? ⟨c6, 0, none⟩ = some (.pointer (some ⟨p, 0, none⟩))) 12 (by kernel_rfl) (by kernel_rfl) (QQ3.out _ hmm0) (fun hHeld => ?_)
  simp only [List.take_succ_cons, List.take_zero]
  refine wpAnyH_take (i := 0) (v := ?vr3_0) rfl (by kernel_rfl) (by kernel_rfl) (by kernel_rfl) (fun _ _ _ h => h) (Or.inl ⟨by kernel_rfl, ?yr3_0⟩) hHeld ?rr3_0
  case yr3_0 =>
    intro w hSw
    try dsimp only at hSw
    obtain ⟨e0, e1, e2⟩ := hSw
    go_simp
    try with_reducible rfl
  try simp only [Act.put, List.setIfInBounds_toArray]
  refine wpAnyH_take (i := 1) (v := ?vr3_1) rfl (by kernel_rfl) (by kernel_rfl) (by kernel_rfl) (fun _ _ _ h => h) (Or.inl ⟨by kernel_rfl, ?yr3_1⟩) hHeld ?rr3_1
  case yr3_1 =>
    intro w hSw
    try dsimp only at hSw
    obtain ⟨e0, e1, e2⟩ := hSw
    go_simp
    try with_reducible rfl
  try simp only [Act.put]
  refine wpAnyH_take (i := 2) (v := ?vr3_2) rfl (by kernel_rfl) (by kernel_rfl) (by kernel_rfl) (fun _ _ _ h => h) (Or.inl ⟨by kernel_rfl, ?yr3_2⟩) hHeld ?rr3_2
  case yr3_2 =>
    intro w hSw
    try dsimp only at hSw
    obtain ⟨e0, e1, e2⟩ := hSw
    go_simp
    try with_reducible rfl
  try simp only [Act.put]
  refine wpAnyH_take (i := 3) (v := ?vr3_3) rfl (by kernel_rfl) (by kernel_rfl) (by kernel_rfl) (fun _ _ _ h => h) (Or.inl ⟨by kernel_rfl, ?yr3_3⟩) hHeld ?rr3_3
  case yr3_3 =>
    intro w hSw
    try dsimp only at hSw
    obtain ⟨e0, e1, e2⟩ := hSw
    go_simp
    try with_reducible rfl
  try simp only [Act.put]
  refine wpAnyH_take (i := 4) (v := ?vr3_4) rfl (by kernel_rfl) (by kernel_rfl) (by kernel_rfl) (fun _ _ _ h => h) (Or.inl ⟨by kernel_rfl, ?yr3_4⟩) hHeld ?rr3_4
  case yr3_4 =>
    intro w hSw
    try dsimp only at hSw
    obtain ⟨e0, e1, e2⟩ := hSw
    go_simp
    try with_reducible rfl
  try simp only [Act.put]
  refine wpAnyH_take (i := 5) (v := ?vr3_5) rfl (by kernel_rfl) (by kernel_rfl) (by kernel_rfl) (fun _ _ _ h => h) (Or.inl ⟨by kernel_rfl, ?yr3_5⟩) hHeld ?rr3_5
  case yr3_5 =>
    intro w hSw
    try dsimp only at hSw
    obtain ⟨e0, e1, e2⟩ := hSw
    go_simp
    try with_reducible rfl
  try simp only [Act.put]
  refine wpAnyH_ready (rs := [6]) (by kernel_rfl) (by simp) ?_
  refine AllReadyH.cons (o := _) rfl (fun K hK => ?_) AllReadyH.nil
  go_simp
  refine (tdet_eq (tint_c base p s2.1 tv L _ hD8.tp) hr3).mono ?_
  rintro e w9 ⟨rfl, hT9, hm9⟩
  have hD9 := hD8.next hT9 hm9
  have hmm1 := hmm0.trans (hm9.mono (T := fun b => b = p ∨ b = q) fun _ _ h => .inl h)
  try dsimp only
  refine hK.out _ _ ?_ (fun hHeld => ?_)
  · exact QQ3.out _ hmm1
  clear hK K
  try simp only [Act.put, List.setIfInBounds_toArray, List.set_cons_zero, List.set_cons_succ]
  refine wpAnyH_take (i := 7) (v := ?vr3_7) rfl (by kernel_rfl) (by kernel_rfl) (by kernel_rfl) (fun _ _ _ h => h) (Or.inl ⟨by kernel_rfl, ?yr3_7⟩) hHeld ?rr3_7
  case yr3_7 =>
    intro w hSw
    try dsimp only at hSw
    obtain ⟨e0, e1, e2⟩ := hSw
    go_simp
    try with_reducible rfl
  try simp only [Act.put, List.setIfInBounds_toArray]
  refine wpAnyH_take (i := 8) (v := ?vr3_8) rfl (by kernel_rfl) (by kernel_rfl) (by kernel_rfl) (fun _ _ _ h => h) (Or.inl ⟨by kernel_rfl, ?yr3_8⟩) hHeld ?rr3_8
  case yr3_8 =>
    intro w hSw
    try dsimp only at hSw
    obtain ⟨e0, e1, e2⟩ := hSw
    go_simp
    try with_reducible rfl
  try simp only [Act.put]
  refine wpAnyH_ready (rs := [9]) (by kernel_rfl) (by simp) ?_
  refine AllReadyH.cons (o := _) rfl (fun K hK => ?_) AllReadyH.nil
  go_simp
  refine (rnumP_c q s2.2 n3 e3 _ hD9.blk).mono ?_
  rintro e w10 ⟨rfl, hQ10, hm10⟩
  have hD10 := hD9.flag hQ10 hm10
  have hmm2 := hmm1.trans (hm10.mono (T := fun b => b = p ∨ b = q) fun _ _ h => .inr h)
  try dsimp only
  refine hK.out _ _ ?_ (fun hHeld => ?_)
  · exact QQ3.out _ hmm2
  clear hK K
  try simp only [Act.put, List.setIfInBounds_toArray, List.set_cons_zero, List.set_cons_succ]
  refine wpAnyH_take (i := 10) (v := ?vr3_10) rfl (by kernel_rfl) (by kernel_rfl) (by kernel_rfl) (fun _ _ _ h => h) (Or.inl ⟨by kernel_rfl, ?yr3_10⟩) hHeld ?rr3_10
  case yr3_10 =>
    intro w hSw
    try dsimp only at hSw
    obtain ⟨e0, e1, e2⟩ := hSw
    go_simp
    try with_reducible rfl
  try simp only [Act.put, List.setIfInBounds_toArray]
  refine wpAnyH_take (i := 11) (v := ?vr3_11) rfl (by kernel_rfl) (by kernel_rfl) (by kernel_rfl) (fun _ _ _ h => h) (Or.inl ⟨by kernel_rfl, ?yr3_11⟩) hHeld ?rr3_11
  case yr3_11 =>
    intro w hSw
    try dsimp only at hSw
    obtain ⟨e0, e1, e2⟩ := hSw
    go_simp
    try with_reducible rfl
  try simp only [Act.put]
  refine wpAnyH_done (by kernel_rfl) ?_ _
  clear hHeld
  simp only [TailQ, List.drop_succ_cons, List.drop_zero]
  have h10 := hD10
  have U10 := U8.mod hmm2 (by omega)
  have E10 := E8.mod hmm2 (by omega)
  have G10 := G8.mod hmm2 (by omega)
  have O10 := O8.mod hmm2 (by omega)
  have HM10 := Lib.hid (HM8.out.trans (hmm2.mono (T := fun b => b = p ∨ b = q ∨ b = u) fun _ _ h => h.elim .inl (fun h => .inr (.inl h))))
  have hsq10 : (s2.2 || decide (e3 ≠ 0)) = s3.2 := by rw [hs3]
  have hsp10 : a3 = s3.1 := by rw [hs3]
  rw [hsq10, hsp10] at h10
  clear hD8 hD9 hD10 hT9 hm9 hQ10 hm10 hmm0 hmm1 hmm2 U8 E8 G8 O8 h8 hs3 hsq10 hsp10 hr3 QQ3
  obtain ⟨zu, cu, fu⟩ := id U10
  go_wp2
  refine wp_fresh ?_
  rintro w11 hb11
  have hS11 : Mod (· = u) w10 w11 := Mod.below ((Mod.refl (· = u) w10).set (.inl rfl)) hb11
  have U11 : Blk w11 u _ := Blk.below (by repeat (with_reducible (first | assumption | (apply Blk.at; simp; done) | apply Blk.alloc | apply Blk.drew | apply Blk.drewN | apply Blk.more | apply Blk.put | (apply Blk.far; focus (first | assumption | (apply Ne.symm; assumption) | (simp; done) | (simp <;> omega)))))) hb11
  try simp only [List.setIfInBounds_toArray, List.set_cons_zero, List.set_cons_succ] at U11
  have E11 := E10.mod hS11 (by omega)
  have G11 := G10.mod hS11 (by omega)
  have O11 := O10.mod hS11 (by omega)
  have h11 := h10.mod hS11 (by omega) (by omega) (fun b hb e => HTU.out (e ▸ hb))
  have HM11 : Hid (Mod (fun b => b = p ∨ b = q ∨ b = u) w w11) := Lib.hid ((HM10.out.mono (T := fun b => b = p ∨ b = q ∨ b = u) fun _ _ h => h).trans (hS11.mono fun _ _ h => .inr (.inr h)))
  clear hb11 hS11 U10 E10 G10 O10 h10 HM10 HM8 zu cu fu hn3
  obtain ⟨zu, cu, fu⟩ := id U11
  obtain ⟨ze, ce, fe⟩ := id E11
  obtain ⟨zg, cg, fg⟩ := id G11
  go_wp2_with fail
  refine (rof_c u (x + n1) (y + n2) (z + n3) _ U11).mono ?_
  rintro e w12 ⟨rfl, hb12⟩
  have hE := h11.below hb12
  have O12 := O11.below hb12
  have HM12 := Lib.hid (HM11.out.below hb12)
  clear hb12 h11 O11 U11 E11 G11 zu cu fu ze ce fe zg cg fg
  obtain ⟨zo, co, fo⟩ := id O12
  go_wp2
  have e : r = ((x + n1, y + n2, z + n3), s3) := by
    have q1 := HS1.out
    have q2 := HS2.out
    have q3 := HS3.out
    simp only [Prod.mk.injEq] at q1 q2 q3
    rw [← HR.out]
    unfold v3R
    rw [q1.2, q2.2, q3.2, ← q1.1, ← q2.1, ← q3.1]
  have hES : Mod (· = t) w12 (((w12.setCell ⟨t, 0, none⟩ (.int .i64 (x + n1))).setCell ⟨t, 1, none⟩ (.int .i64 (y + n2))).setCell ⟨t, 2, none⟩ (.int .i64 (z + n3))) := ((((Mod.refl (· = t) w12).set (.inl rfl)).set (.inl rfl)).set (.inl rfl))
  have hEND := hE.mod hES (by omega) (by omega) (fun b hb e => HTT.out (e ▸ hb))
  have hEM : Mod (fun b => b = p ∨ b = q) w (((w12.setCell ⟨t, 0, none⟩ (.int .i64 (x + n1))).setCell ⟨t, 1, none⟩ (.int .i64 (y + n2))).setCell ⟨t, 2, none⟩ (.int .i64 (z + n3))) := ((((HM12.out.mono (T := fun b => b = p ∨ b = q) (fun b hb h => h.elim .inl (fun h => h.elim .inr (fun h => absurd HUW.out (by omega))))).set (.inr HTW.out)).set (.inr HTW.out)).set (.inr HTW.out))
  exact bodyPost_ret (v := .agg #[.int .i64 (x + n1), .int .i64 (y + n2), .int .i64 (z + n3)]) (by simp [results, Try.results84, go_sem, *]) rfl (by rw [e]; exact ⟨rfl, hEND, hEM⟩)

end Go.Proofs.Ytefhmbmbhiehdaa
