/- The contracts of snap's reader. Conditions: none. -/
import Derived.Test.YtefhmbmbhiehdaaKClB
import Derived.Test.YtefhmbmbhiehdaaKClC
import Derived.Test.YtefhmbmbhiehdaaKClA
namespace Go.Proofs.Ytefhmbmbhiehdaa
open Go.ChangeShapes Go.WideShapes Go.ChangeAt Go.RowKit Go.BigFrame
open B
/-- a number to which one that was read may be added -/
def In62 (n : Int) : Prop := -4611686018427387904 ≤ n ∧ n ≤ 4611686018427387904
theorem intD_bd (T : List Nat) (a : Nat) : -1152921504606846976 ≤ (intD T a).1 ∧ (intD T a).1 ≤ 1152921504606846976 := by
  unfold intD intG
  cases varG T a with
  | error e => exact ⟨by simp, by simp⟩
  | ok r =>
    simp only []
    by_cases h : 2305843009213693952 < r.1
    · rw [if_pos h]; exact ⟨by simp, by simp⟩
    · rw [if_neg h]
      simp only [zag]
      split <;> omega
theorem getD_lt {T : List Nat} (hT : Bin T) (a : Nat) {k : Nat} (hk : k ≤ 62) : 0 ≤ (getD T a k).1 ∧ (getD T a k).1 < 2 ^ k := by
  unfold getD
  rw [if_neg (by omega)]
  by_cases h : T.length < a + (k : Int).toNat
  · rw [if_pos h]; exact ⟨Int.le_refl _, by have : (0 : Int) < 2 ^ k := by exact_mod_cast Nat.two_pow_pos k
                                            exact this⟩
  · rw [if_neg h]
    refine ⟨Int.natCast_nonneg _, ?_⟩
    have := getV_lt hT a k
    simp only [Int.toNat_natCast]
    exact_mod_cast this
/-- what a read leaves: the number and the state -/
def SN (base p q : Nat) (rv : Value) (l : List Nat) (r : Int × (Nat × Bool)) (w : World) (e : Ending) (w' : World) : Prop :=
  e = .returned (.int .i64 r.1) ∧ RR w' base p q rv l r.2.1 r.2.2 ∧ Mod (fun b => b = p ∨ b = q) w w'
theorem sn_of {base p q : Nat} {rv : Value} {l : List Nat} {n e : Int} {a' : Nat} {bad : Bool} {w : World} {ev : Ending} {w' : World} (h : RdNum base p q rv l n a' (bad = true ∨ e ≠ 0) w ev w') : SN base p q rv l (n, (a', bad || decide (e ≠ 0))) w ev w' := by
  obtain ⟨b, h1, h2, h3, h4⟩ := h
  have e1 : b = (bad || decide (e ≠ 0)) := by
    rw [Bool.eq_iff_iff, h4]
    simp
  subst e1
  exact ⟨h1, h2, h3⟩

set_option maxHeartbeats 1000000 in
theorem sput_n (base p q a : Nat) (bad : Bool) (rv : Value) (l : List Nat) (n e : Int) (a' : Nat) (k : Int) (w : World) (h : RR w base p q rv l a bad) (hr : getD (openL l) a k = (n, e, a')) : Calls Try.prog 111 #[.pointer (some ⟨q, 0, none⟩), .int .i64 k] w (RdNum base p q rv l (n) a' (bad = true ∨ e ≠ 0) w) := by
  have k0 : w.cell? ⟨q, 0, none⟩ = some (.pointer (some ⟨p, 0, none⟩)) := h.blk.cell 0
  have hc := getD_c base p a k rv l w h.rd
  by_cases he : e = 0
  · subst he
    have hc0 := rdet_of hc hr (ev := .nilIface) rfl
    have HC := Lib.hid hc0
    clear hc hc0 hr
    go_enter Try.func111, Try.ntmps111
    go_wp2_with fail
    refine HC.out.mono ?_
    rintro e1 w1 ⟨rfl, hR1, hM1⟩
    have hR := h.next hR1 hM1
    have k1 : w1.cell? ⟨q, 0, none⟩ = some (.pointer (some ⟨p, 0, none⟩)) := hR.blk.cell 0
    have k2 : w1.cell? ⟨q, 1, none⟩ = some (.bool bad) := hR.blk.cell 1
    have z1 := hR.blk.lt
    have f1 := hR.blk.free
    clear HC k0
    cases bad with
    | true =>
      go_wp2
      go_ret
      exact rdNum rfl hR hM1 (by simp)
    | false =>
      go_wp2
      go_ret
      exact rdNum rfl hR hM1 (by simp)
  · have hc0 := rdet_of hc hr (ev := .iface 38 (.int .i64 e)) (errV_n he)
    have HE := Lib.hid he
    clear he
    have HC := Lib.hid hc0
    clear hc hc0 hr
    go_enter Try.func111, Try.ntmps111
    go_wp2_with fail
    refine HC.out.mono ?_
    rintro e1 w1 ⟨rfl, hR1, hM1⟩
    have hR := h.next hR1 hM1
    have k1 : w1.cell? ⟨q, 0, none⟩ = some (.pointer (some ⟨p, 0, none⟩)) := hR.blk.cell 0
    have k2 : w1.cell? ⟨q, 1, none⟩ = some (.bool bad) := hR.blk.cell 1
    have z1 := hR.blk.lt
    have f1 := hR.blk.free
    clear HC k0
    cases bad with
    | true =>
      go_wp2
      go_ret
      exact rdNum rfl hR hM1 (by simp)
    | false =>
      go_wp2
      go_ret
      exact rdNum rfl hR hM1 (by simp [HE.out])

set_option maxHeartbeats 1000000 in
theorem sone_n (base p q a : Nat) (bad : Bool) (rv : Value) (l : List Nat) (n e : Int) (a' : Nat) (x : Int) (c : Nat) (w : World) (h : RR w base p q rv l a bad) (hr : intD (openL l) a = (n, e, a')) (hcl : Blk w c #[.pointer (some ⟨q, 0, none⟩)]) (hcp : c ≠ p) (hx : In62 x) : Calls Try.prog 147 #[.int .i64 x, .pointer (some ⟨c, 0, none⟩)] w (RdNum base p q rv l (x + n) a' (bad = true ∨ e ≠ 0) w) := by
  have k0 : w.cell? ⟨q, 0, none⟩ = some (.pointer (some ⟨p, 0, none⟩)) := h.blk.cell 0
  unfold In62 at hx
  have hnb := intD_bd (openL l) a
  rw [hr] at hnb
  simp only at hnb
  have c0 : w.cell? ⟨c, 0, none⟩ = some (.pointer (some ⟨q, 0, none⟩)) := hcl.cell 0
  have hc := intD_c base p a rv l w h.rd
  by_cases he : e = 0
  · subst he
    have hc0 := rdet_of hc hr (ev := .nilIface) rfl
    have HC := Lib.hid hc0
    clear hc hc0 hr
    go_enter Try.func147, Try.ntmps147
    go_wp2_with fail
    refine HC.out.mono ?_
    rintro e1 w1 ⟨rfl, hR1, hM1⟩
    have hR := h.next hR1 hM1
    have k1 : w1.cell? ⟨q, 0, none⟩ = some (.pointer (some ⟨p, 0, none⟩)) := hR.blk.cell 0
    have k2 : w1.cell? ⟨q, 1, none⟩ = some (.bool bad) := hR.blk.cell 1
    have z1 := hR.blk.lt
    have f1 := hR.blk.free
    have hcl := hcl.mod hM1 hcp
    have c1 : w1.cell? ⟨c, 0, none⟩ = some (.pointer (some ⟨q, 0, none⟩)) := hcl.cell 0
    have z3 := hcl.lt
    have hmc := more_cell
    have hmf := more_frozen
    have hml := more_lt
    clear HC k0 c0
    cases bad with
    | true =>
      go_wp2_with fail
      refine region_quiet_but 11 (by kernel_rfl) (by kernel_rfl) ?_
      simp only [List.take_succ_cons, List.take_zero, List.drop_succ_cons, List.drop_zero]
      repeat (go_big_quiet_step (fail))
      refine wpQuiet_nil ?_
      rintro w2 hw2
      have hb2 := after_below hw2
      have hR2 := hR.below hb2
      have k12 : w2.cell? ⟨q, 1, none⟩ = some (.bool _) := hR2.blk.cell 1
      have z2 := hR2.blk.lt
      have f2 := hR2.blk.free
      clear hw2 k1 k2 z1 f1 hR hcl c1 z3 hmc hmf hml
      go_wp2
      go_ret
      exact ⟨_, rfl, hR2.setBad _, ((hM1.mono fun _ _ h => .inl h).below hb2).set (.inl (.inr rfl)), by simp⟩
    | false =>
      go_wp2_with fail
      refine region_quiet_but 11 (by kernel_rfl) (by kernel_rfl) ?_
      simp only [List.take_succ_cons, List.take_zero, List.drop_succ_cons, List.drop_zero]
      repeat (go_big_quiet_step (fail))
      refine wpQuiet_nil ?_
      rintro w2 hw2
      have hb2 := after_below hw2
      have hR2 := hR.below hb2
      have k12 : w2.cell? ⟨q, 1, none⟩ = some (.bool _) := hR2.blk.cell 1
      have z2 := hR2.blk.lt
      have f2 := hR2.blk.free
      clear hw2 k1 k2 z1 f1 hR hcl c1 z3 hmc hmf hml
      go_wp2
      go_ret
      exact ⟨_, rfl, hR2.setBad _, ((hM1.mono fun _ _ h => .inl h).below hb2).set (.inl (.inr rfl)), by simp⟩
  · have hc0 := rdet_of hc hr (ev := .iface 38 (.int .i64 e)) (errV_n he)
    have HE := Lib.hid he
    clear he
    have HC := Lib.hid hc0
    clear hc hc0 hr
    go_enter Try.func147, Try.ntmps147
    go_wp2_with fail
    refine HC.out.mono ?_
    rintro e1 w1 ⟨rfl, hR1, hM1⟩
    have hR := h.next hR1 hM1
    have k1 : w1.cell? ⟨q, 0, none⟩ = some (.pointer (some ⟨p, 0, none⟩)) := hR.blk.cell 0
    have k2 : w1.cell? ⟨q, 1, none⟩ = some (.bool bad) := hR.blk.cell 1
    have z1 := hR.blk.lt
    have f1 := hR.blk.free
    have hcl := hcl.mod hM1 hcp
    have c1 : w1.cell? ⟨c, 0, none⟩ = some (.pointer (some ⟨q, 0, none⟩)) := hcl.cell 0
    have z3 := hcl.lt
    have hmc := more_cell
    have hmf := more_frozen
    have hml := more_lt
    clear HC k0 c0
    cases bad with
    | true =>
      go_wp2_with fail
      refine region_quiet_but 11 (by kernel_rfl) (by kernel_rfl) ?_
      simp only [List.take_succ_cons, List.take_zero, List.drop_succ_cons, List.drop_zero]
      repeat (go_big_quiet_step (fail))
      refine wpQuiet_nil ?_
      rintro w2 hw2
      have hb2 := after_below hw2
      have hR2 := hR.below hb2
      have k12 : w2.cell? ⟨q, 1, none⟩ = some (.bool _) := hR2.blk.cell 1
      have z2 := hR2.blk.lt
      have f2 := hR2.blk.free
      clear hw2 k1 k2 z1 f1 hR hcl c1 z3 hmc hmf hml
      go_wp2
      go_ret
      exact ⟨_, rfl, hR2.setBad _, ((hM1.mono fun _ _ h => .inl h).below hb2).set (.inl (.inr rfl)), by simp⟩
    | false =>
      go_wp2_with fail
      refine region_quiet_but 11 (by kernel_rfl) (by kernel_rfl) ?_
      simp only [List.take_succ_cons, List.take_zero, List.drop_succ_cons, List.drop_zero]
      repeat (go_big_quiet_step (fail))
      refine wpQuiet_nil ?_
      rintro w2 hw2
      have hb2 := after_below hw2
      have hR2 := hR.below hb2
      have k12 : w2.cell? ⟨q, 1, none⟩ = some (.bool _) := hR2.blk.cell 1
      have z2 := hR2.blk.lt
      have f2 := hR2.blk.free
      clear hw2 k1 k2 z1 f1 hR hcl c1 z3 hmc hmf hml
      go_wp2
      go_ret
      exact ⟨_, rfl, hR2.setBad _, ((hM1.mono fun _ _ h => .inl h).below hb2).set (.inl (.inr rfl)), by simp [HE.out]⟩

theorem sput_c (base p q : Nat) (s : Nat × Bool) (rv : Value) (l : List Nat) (k : Int) (r : Int × (Nat × Bool)) (w : World) (hr : rG (openL l) k s = r) (h : RR w base p q rv l s.1 s.2) : Calls Try.prog 111 #[.pointer (some ⟨q, 0, none⟩), .int .i64 k] w (SN base p q rv l r w) := by
  subst hr
  exact (sput_n base p q s.1 s.2 rv l _ _ _ k w h rfl).mono fun e w' h => sn_of h
theorem sone_c (base p q c : Nat) (s : Nat × Bool) (rv : Value) (l : List Nat) (x : Int) (r : Int × (Nat × Bool)) (w : World) (hr : (x + (rI (openL l) s).1, (rI (openL l) s).2) = r) (h : RR w base p q rv l s.1 s.2) (hcl : Blk w c #[.pointer (some ⟨q, 0, none⟩)]) (hcp : c ≠ p) (hx : In62 x) : Calls Try.prog 147 #[.int .i64 x, .pointer (some ⟨c, 0, none⟩)] w (SN base p q rv l r w) := by
  subst hr
  exact (sone_n base p q s.1 s.2 rv l _ _ _ x c w h rfl hcl hcp hx).mono fun e w' h => sn_of h
/-- what the read of three numbers leaves -/
def SV (base p q : Nat) (rv : Value) (l : List Nat) (r : (Int × Int × Int) × (Nat × Bool)) (w : World) (e : Ending) (w' : World) : Prop :=
  e = .returned (.agg #[.int .i64 r.1.1, .int .i64 r.1.2.1, .int .i64 r.1.2.2]) ∧ RR w' base p q rv l r.2.1 r.2.2 ∧ Mod (fun b => b = p ∨ b = q) w w'

set_option maxRecDepth 100000 in
set_option maxHeartbeats 4000000 in
theorem svec_c (base p q : Nat) (s : Nat × Bool) (rv : Value) (l : List Nat) (x y z : Int) (r : (Int × Int × Int) × (Nat × Bool)) (w : World) (hr : v3R (openL l) x y z s = r) (h : RR w base p q rv l s.1 s.2) (hx : In62 x) (hy : In62 y) (hz : In62 z) :
    Calls Try.prog 112 #[.pointer (some ⟨q, 0, none⟩), .agg #[.int .i64 x, .int .i64 y, .int .i64 z]] w (SV base p q rv l r w) := by
  have HR := Lib.hid hr
  have HH := Lib.hid h
  have hpq := h.pq
  have hpl := h.rd.blk.lt
  have hql := h.blk.lt
  clear hr h
  go_enter Try.func112, Try.ntmps112
  go_wp2_with fail
  refine calls_fresh ?_
  rintro w1 hb1
  have hC1 : Blk w1 w.heap.size #[.pointer (some ⟨q, 0, none⟩)] := Blk.below (by repeat (with_reducible (first | assumption | (apply Blk.at; simp; done) | apply Blk.alloc | apply Blk.drew | apply Blk.drewN | apply Blk.more | apply Blk.put | (apply Blk.far; focus (first | assumption | (apply Ne.symm; assumption) | (simp; done) | (simp <;> omega)))))) hb1
  have hV1 : Blk w1 (w.heap.size + 1) #[.int .i64 x, .int .i64 y, .int .i64 z] := Blk.below (by repeat (with_reducible (first | assumption | (apply Blk.at; simp; done) | apply Blk.alloc | apply Blk.drew | apply Blk.drewN | apply Blk.more | apply Blk.put | (apply Blk.far; focus (first | assumption | (apply Ne.symm; assumption) | (simp; done) | (simp <;> omega)))))) hb1
  have hO1 : Blk w1 (w.heap.size + 1 + 1) #[.int .i64 0, .int .i64 0, .int .i64 0] := Blk.below (by repeat (with_reducible (first | assumption | (apply Blk.at; simp; done) | apply Blk.alloc | apply Blk.drew | apply Blk.drewN | apply Blk.more | apply Blk.put | (apply Blk.far; focus (first | assumption | (apply Ne.symm; assumption) | (simp; done) | (simp <;> omega)))))) hb1
  have hv1 : Below w.heap.size w w1 := (by repeat (with_reducible (first | exact Below.refl _ _ | assumption | apply ext_drew | apply ext_drewN | apply ext_alloc | apply ext_more | (refine ext_setCell ?_ (by first | assumption | (simp <;> omega)) _) | (refine ext_below ?_ (by assumption)))))
  have h1 := HH.out.below hv1
  have HM1 : Hid (Mod (fun b => b = p ∨ b = q) w w1) := Lib.hid (Mod.of_below hv1)
  obtain ⟨c, hc⟩ : ∃ c, c = w.heap.size := ⟨_, rfl⟩
  obtain ⟨v, hv⟩ : ∃ c, c = w.heap.size + 1 := ⟨_, rfl⟩
  obtain ⟨t, ht⟩ : ∃ c, c = w.heap.size + 1 + 1 := ⟨_, rfl⟩
  rw [← hc] at hC1
  rw [← hv] at hV1
  rw [← ht] at hO1
  rw [← ht, ← hv, ← hc]
  have hcp : c ≠ p := by omega
  have hne : c ≠ q ∧ v ≠ p ∧ v ≠ q ∧ t ≠ p ∧ t ≠ q := by omega
  have HTW : Hid (w.heap.size ≤ t) := Lib.hid (by omega)
  obtain ⟨hcq, hvp, hvq, htp, htq⟩ := hne
  have HTO : Hid (rv.ownBlock ≠ some t) := Lib.hid (fun e => by have := (row_lt HH.out.rd.row e).1; omega)
  clear hb1 hv1 HH hc hv ht hpl hql
  obtain ⟨zv, cv, fv⟩ := id hV1
  obtain ⟨zo, co, fo⟩ := id hO1
  go_wp2_with fail
  obtain ⟨r1, hr1⟩ : ∃ r, (x + (rI (openL l) s).1, (rI (openL l) s).2) = r := ⟨_, rfl⟩
  refine (sone_c base p q c s rv l x r1 w1 hr1 h1 hC1 hcp hx).mono ?_
  rintro e w2 ⟨rfl, h2, hM2⟩
  have hC2 := hC1.mod hM2 (by omega)
  have hV2 := hV1.mod hM2 (by omega)
  have hO2 := hO1.mod hM2 (by omega)
  have HM2 := Lib.hid hM2
  have HR1 := Lib.hid hr1
  clear hM2 hr1 h1 hC1 hV1 hO1 zv cv fv zo co fo
  obtain ⟨zv, cv, fv⟩ := id hV2
  obtain ⟨zo, co, fo⟩ := id hO2
  go_wp2_with fail
  obtain ⟨r2, hr2⟩ : ∃ r, (y + (rI (openL l) r1.2).1, (rI (openL l) r1.2).2) = r := ⟨_, rfl⟩
  refine (sone_c base p q c r1.2 rv l y r2 w2 hr2 h2 hC2 hcp hy).mono ?_
  rintro e w3 ⟨rfl, h3, hM3⟩
  have hC3 := hC2.mod hM3 (by omega)
  have hV3 := hV2.mod hM3 (by omega)
  have hO3 := hO2.mod hM3 (by omega)
  have HM3 := Lib.hid hM3
  have HR2 := Lib.hid hr2
  clear hM3 hr2 h2 hC2 hV2 hO2 zv cv fv zo co fo
  obtain ⟨zv, cv, fv⟩ := id hV3
  obtain ⟨zo, co, fo⟩ := id hO3
  go_wp2_with fail
  obtain ⟨r3, hr3⟩ : ∃ r, (z + (rI (openL l) r2.2).1, (rI (openL l) r2.2).2) = r := ⟨_, rfl⟩
  refine (sone_c base p q c r2.2 rv l z r3 w3 hr3 h3 hC3 hcp hz).mono ?_
  rintro e w4 ⟨rfl, h4, hM4⟩
  have hC4 := hC3.mod hM4 (by omega)
  have hV4 := hV3.mod hM4 (by omega)
  have hO4 := hO3.mod hM4 (by omega)
  have HM4 := Lib.hid hM4
  have HR3 := Lib.hid hr3
  clear hM4 hr3 h3 hC3 hV3 hO3 zv cv fv zo co fo
  obtain ⟨zv, cv, fv⟩ := id hV4
  obtain ⟨zo, co, fo⟩ := id hO4
  go_wp2
  have e : r = ((r1.1, r2.1, r3.1), r3.2) := by
    rw [← HR.out, ← HR3.out, ← HR2.out, ← HR1.out]
    rfl
  have hEND : RR (((w4.setCell ⟨t, 0, none⟩ (.int .i64 r1.1)).setCell ⟨t, 1, none⟩ (.int .i64 r2.1)).setCell ⟨t, 2, none⟩ (.int .i64 r3.1)) base p q rv l r3.2.1 r3.2.2 := h4.mod (S := (· = t)) ((((Mod.refl (· = t) w4).set (.inl rfl)).set (.inl rfl)).set (.inl rfl)) (by omega) (by omega) (fun b hb e => HTO.out (e ▸ hb))
  exact bodyPost_ret (v := .agg #[.int .i64 r1.1, .int .i64 r2.1, .int .i64 r3.1]) (by simp [results, Try.results112, go_sem, *]) rfl (by rw [e]; exact ⟨rfl, hEND, (((((HM1.out.trans HM2.out).trans HM3.out).trans HM4.out).set (.inr HTW.out)).set (.inr HTW.out)).set (.inr HTW.out)⟩)

/-- what the read of a body leaves, which is written to block b -/
def SB (base p q b : Nat) (rv : Value) (l : List Nat) (r : Sn × (Nat × Bool)) (w : World) (e : Ending) (w' : World) : Prop :=
  e = .returned (.tuple #[]) ∧ Blk w' b #[.int .i64 r.1.id, .int .i64 r.1.kd, .int .i64 r.1.s1, .int .i64 r.1.s2, .int .i64 r.1.s3, .int .i64 r.1.a1, .int .i64 r.1.a2, .int .i64 r.1.a3, .int .i64 r.1.v1, .int .i64 r.1.v2, .int .i64 r.1.v3] ∧ RR w' base p q rv l r.2.1 r.2.2 ∧ Mod (fun x => x = p ∨ x = q ∨ x = b) w w'
set_option maxRecDepth 100000 in
set_option maxHeartbeats 8000000 in
theorem schanged_c (base p q b : Nat) (s : Nat × Bool) (rv : Value) (l : List Nat) (x : Sn) (r : Sn × (Nat × Bool)) (w : World) (hr : changeR (openL l) x s = r) (h : RR w base p q rv l s.1 s.2) (hB : Blk w b #[.int .i64 x.id, .int .i64 x.kd, .int .i64 x.s1, .int .i64 x.s2, .int .i64 x.s3, .int .i64 x.a1, .int .i64 x.a2, .int .i64 x.a3, .int .i64 x.v1, .int .i64 x.v2, .int .i64 x.v3]) (hbp : b ≠ p) (hbq : b ≠ q) (hbo : rv.ownBlock ≠ some b)
    (hin : In62 x.s1 ∧ In62 x.s2 ∧ In62 x.s3 ∧ In62 x.a1 ∧ In62 x.a2 ∧ In62 x.a3 ∧ In62 x.v1 ∧ In62 x.v2 ∧ In62 x.v3) :
    Calls Try.prog 113 #[.pointer (some ⟨q, 0, none⟩), .pointer (some ⟨b, 0, none⟩)] w (SB base p q b rv l r w) := by
  have HR := Lib.hid hr
  have HIN := Lib.hid hin
  have HBO := Lib.hid hbo
  obtain ⟨w0, hw0⟩ : ∃ w0, w0 = w := ⟨_, rfl⟩
  have HM0 : Hid (Mod (fun x => x = p ∨ x = q ∨ x = b) w w0) := Lib.hid (by rw [hw0]; exact Mod.refl _ _)
  have h0 : RR w0 base p q rv l s.1 s.2 := by rw [hw0]; exact h
  have B0 : Blk w0 b #[.int .i64 x.id, .int .i64 x.kd, .int .i64 x.s1, .int .i64 x.s2, .int .i64 x.s3, .int .i64 x.a1, .int .i64 x.a2, .int .i64 x.a3, .int .i64 x.v1, .int .i64 x.v2, .int .i64 x.v3] := by rw [hw0]; exact hB
  rw [show Calls Try.prog 113 #[.pointer (some ⟨q, 0, none⟩), .pointer (some ⟨b, 0, none⟩)] w (SB base p q b rv l r w) = Calls Try.prog 113 #[.pointer (some ⟨q, 0, none⟩), .pointer (some ⟨b, 0, none⟩)] w0 (SB base p q b rv l r w) from by rw [hw0]]
  clear hr hin hbo h hB hw0
  obtain ⟨zb, cb, fb⟩ := id B0
  go_enter Try.func113, Try.ntmps113
  go_wp2_with fail
  obtain ⟨r1, hr1⟩ : ∃ r, rG (openL l) 1 s = r := ⟨_, rfl⟩
  refine (sput_c base p q s rv l 1 r1 w0 hr1 h0).mono ?_
  rintro e w1 ⟨rfl, h1, hM1⟩
  have B1 := B0.mod hM1 (by omega)
  have HM1 := Lib.hid (HM0.out.trans (hM1.mono fun _ _ h => h.elim .inl (fun h => .inr (.inl h))))
  have HR1 := Lib.hid hr1
  clear hM1 hr1 h0 B0 zb cb fb HM0
  obtain ⟨zb, cb, fb⟩ := id B1
  go_wp2_with fail
  obtain ⟨r2, hr2⟩ : ∃ r, rG (openL l) 1 r1.2 = r := ⟨_, rfl⟩
  refine (sput_c base p q r1.2 rv l 1 r2 w1 hr2 h1).mono ?_
  rintro e w2 ⟨rfl, h2, hM2⟩
  have B2 := B1.mod hM2 (by omega)
  have HM2 := Lib.hid (HM1.out.trans (hM2.mono fun _ _ h => h.elim .inl (fun h => .inr (.inl h))))
  have HR2 := Lib.hid hr2
  clear hM2 hr2 h1 B1 zb cb fb HM1
  obtain ⟨zb, cb, fb⟩ := id B2
  go_wp2_with fail
  obtain ⟨r3, hr3⟩ : ∃ r, rG (openL l) 1 r2.2 = r := ⟨_, rfl⟩
  refine (sput_c base p q r2.2 rv l 1 r3 w2 hr3 h2).mono ?_
  rintro e w3 ⟨rfl, h3, hM3⟩
  have B3 := B2.mod hM3 (by omega)
  have HM3 := Lib.hid (HM2.out.trans (hM3.mono fun _ _ h => h.elim .inl (fun h => .inr (.inl h))))
  have HR3 := Lib.hid hr3
  clear hM3 hr3 h2 B2 zb cb fb HM2
  obtain ⟨zb, cb, fb⟩ := id B3
  by_cases k1 : r1.1 = 1
  · have dk1 : (r1.1 == 1) = true := by simpa using k1
    go_wp2_with fail
    obtain ⟨r4, hr4⟩ : ∃ r, rG (openL l) 3 r3.2 = r := ⟨_, rfl⟩
    refine (sput_c base p q r3.2 rv l 3 r4 w3 hr4 h3).mono ?_
    rintro e w4 ⟨rfl, h4, hM4⟩
    have B4 := B3.mod hM4 (by omega)
    have HM4 := Lib.hid (HM3.out.trans (hM4.mono fun _ _ h => h.elim .inl (fun h => .inr (.inl h))))
    have HR4 := Lib.hid hr4
    clear hM4 hr4 h3 B3 zb cb fb HM3
    obtain ⟨zb, cb, fb⟩ := id B4
    go_wp2_with fail
    refine calls_fresh ?_
    rintro w5 hb5
    have B5 : Blk w5 b _ := Blk.below (by repeat (with_reducible (first | assumption | (apply Blk.at; simp; done) | apply Blk.alloc | apply Blk.drew | apply Blk.drewN | apply Blk.more | apply Blk.put | (apply Blk.far; focus (first | assumption | (apply Ne.symm; assumption) | (simp; done) | (simp <;> omega)))))) hb5
    try simp only [List.setIfInBounds_toArray, List.set_cons_zero, List.set_cons_succ] at B5
    have hS5 : Mod (· = b) w4 w5 := Mod.below ((Mod.refl (· = b) w4).set (.inl rfl)) hb5
    have h5 := h4.mod hS5 (by omega) (by omega) (fun b' hb e => HBO.out (e ▸ hb))
    have HM5 := Lib.hid (HM4.out.trans (hS5.mono fun _ _ h => .inr (.inr h)))
    clear hb5 hS5 h4 B4 zb cb fb HM4
    obtain ⟨zb, cb, fb⟩ := id B5
    obtain ⟨r6, hr6⟩ : ∃ r, v3R (openL l) x.s1 x.s2 x.s3 r4.2 = r := ⟨_, rfl⟩
    refine (svec_c base p q r4.2 rv l x.s1 x.s2 x.s3 r6 w5 hr6 h5 HIN.out.1 HIN.out.2.1 HIN.out.2.2.1).mono ?_
    rintro e w6 ⟨rfl, h6, hM6⟩
    have B6 := B5.mod hM6 (by omega)
    have HM6 := Lib.hid (HM5.out.trans (hM6.mono fun _ _ h => h.elim .inl (fun h => .inr (.inl h))))
    have HR6 := Lib.hid hr6
    clear hM6 hr6 h5 B5 zb cb fb HM5
    obtain ⟨zb, cb, fb⟩ := id B6
    by_cases k2 : r2.1 = 1
    · have dk2 : (r2.1 == 1) = true := by simpa using k2
      go_wp2_with fail
      refine calls_fresh ?_
      rintro w7 hb7
      have B7 : Blk w7 b _ := Blk.below (by repeat (with_reducible (first | assumption | (apply Blk.at; simp; done) | apply Blk.alloc | apply Blk.drew | apply Blk.drewN | apply Blk.more | apply Blk.put | (apply Blk.far; focus (first | assumption | (apply Ne.symm; assumption) | (simp; done) | (simp <;> omega)))))) hb7
      try simp only [List.setIfInBounds_toArray, List.set_cons_zero, List.set_cons_succ] at B7
      have hS7 : Mod (· = b) w6 w7 := Mod.below ((((Mod.refl (· = b) w6).set (.inl rfl)).set (.inl rfl)).set (.inl rfl)) hb7
      have h7 := h6.mod hS7 (by omega) (by omega) (fun b' hb e => HBO.out (e ▸ hb))
      have HM7 := Lib.hid (HM6.out.trans (hS7.mono fun _ _ h => .inr (.inr h)))
      clear hb7 hS7 h6 B6 zb cb fb HM6
      obtain ⟨zb, cb, fb⟩ := id B7
      obtain ⟨r8, hr8⟩ : ∃ r, v3R (openL l) x.a1 x.a2 x.a3 r6.2 = r := ⟨_, rfl⟩
      refine (svec_c base p q r6.2 rv l x.a1 x.a2 x.a3 r8 w7 hr8 h7 HIN.out.2.2.2.1 HIN.out.2.2.2.2.1 HIN.out.2.2.2.2.2.1).mono ?_
      rintro e w8 ⟨rfl, h8, hM8⟩
      have B8 := B7.mod hM8 (by omega)
      have HM8 := Lib.hid (HM7.out.trans (hM8.mono fun _ _ h => h.elim .inl (fun h => .inr (.inl h))))
      have HR8 := Lib.hid hr8
      clear hM8 hr8 h7 B7 zb cb fb HM7
      obtain ⟨zb, cb, fb⟩ := id B8
      by_cases k3 : r3.1 = 1
      · have dk3 : (r3.1 == 1) = true := by simpa using k3
        go_wp2_with fail
        refine calls_fresh ?_
        rintro w9 hb9
        have B9 : Blk w9 b _ := Blk.below (by repeat (with_reducible (first | assumption | (apply Blk.at; simp; done) | apply Blk.alloc | apply Blk.drew | apply Blk.drewN | apply Blk.more | apply Blk.put | (apply Blk.far; focus (first | assumption | (apply Ne.symm; assumption) | (simp; done) | (simp <;> omega)))))) hb9
        try simp only [List.setIfInBounds_toArray, List.set_cons_zero, List.set_cons_succ] at B9
        have hS9 : Mod (· = b) w8 w9 := Mod.below ((((Mod.refl (· = b) w8).set (.inl rfl)).set (.inl rfl)).set (.inl rfl)) hb9
        have h9 := h8.mod hS9 (by omega) (by omega) (fun b' hb e => HBO.out (e ▸ hb))
        have HM9 := Lib.hid (HM8.out.trans (hS9.mono fun _ _ h => .inr (.inr h)))
        clear hb9 hS9 h8 B8 zb cb fb HM8
        obtain ⟨zb, cb, fb⟩ := id B9
        obtain ⟨r10, hr10⟩ : ∃ r, v3R (openL l) x.v1 x.v2 x.v3 r8.2 = r := ⟨_, rfl⟩
        refine (svec_c base p q r8.2 rv l x.v1 x.v2 x.v3 r10 w9 hr10 h9 HIN.out.2.2.2.2.2.2.1 HIN.out.2.2.2.2.2.2.2.1 HIN.out.2.2.2.2.2.2.2.2).mono ?_
        rintro e w10 ⟨rfl, h10, hM10⟩
        have B10 := B9.mod hM10 (by omega)
        have HM10 := Lib.hid (HM9.out.trans (hM10.mono fun _ _ h => h.elim .inl (fun h => .inr (.inl h))))
        have HR10 := Lib.hid hr10
        clear hM10 hr10 h9 B9 zb cb fb HM9
        obtain ⟨zb, cb, fb⟩ := id B10
        go_wp2
        have e : r = ((⟨x.id, r4.1, r6.1.1, r6.1.2.1, r6.1.2.2, r8.1.1, r8.1.2.1, r8.1.2.2, r10.1.1, r10.1.2.1, r10.1.2.2⟩ : Sn), r10.2) := by
          rw [← HR.out]
          unfold changeR
          simp only [HR1.out, HR2.out, HR3.out]
          unfold maybeK maybe3
          simp only [if_pos k1]
          rw [if_pos k2]
          rw [if_pos k3]
          simp only [HR4.out, HR6.out, HR8.out, HR10.out]
        have hES : Mod (· = b) w10 (((w10.setCell ⟨b, 8, none⟩ (.int .i64 r10.1.1)).setCell ⟨b, 9, none⟩ (.int .i64 r10.1.2.1)).setCell ⟨b, 10, none⟩ (.int .i64 r10.1.2.2)) := ((((Mod.refl (· = b) w10).set (.inl rfl)).set (.inl rfl)).set (.inl rfl))
        have hEND := h10.mod hES (by omega) (by omega) (fun b' hb e => HBO.out (e ▸ hb))
        have hEB : Blk (((w10.setCell ⟨b, 8, none⟩ (.int .i64 r10.1.1)).setCell ⟨b, 9, none⟩ (.int .i64 r10.1.2.1)).setCell ⟨b, 10, none⟩ (.int .i64 r10.1.2.2)) b _ := (by repeat (with_reducible (first | assumption | (apply Blk.at; simp; done) | apply Blk.alloc | apply Blk.drew | apply Blk.drewN | apply Blk.more | apply Blk.put | (apply Blk.far; focus (first | assumption | (apply Ne.symm; assumption) | (simp; done) | (simp <;> omega))))))
        try simp only [List.setIfInBounds_toArray, List.set_cons_zero, List.set_cons_succ] at hEB
        have hEM := HM10.out.trans (hES.mono (T := fun x => x = p ∨ x = q ∨ x = b) fun _ _ h => .inr (.inr h))
        clear zb cb fb B10 h10 hES
        go_end0
        rw [e]
        exact ⟨rfl, hEB, hEND, hEM⟩
      · have dk3 : (r3.1 == 1) = false := by simpa using k3
        go_wp2
        have e : r = ((⟨x.id, r4.1, r6.1.1, r6.1.2.1, r6.1.2.2, r8.1.1, r8.1.2.1, r8.1.2.2, x.v1, x.v2, x.v3⟩ : Sn), r8.2) := by
          rw [← HR.out]
          unfold changeR
          simp only [HR1.out, HR2.out, HR3.out]
          unfold maybeK maybe3
          simp only [if_pos k1]
          rw [if_pos k2]
          rw [if_neg k3]
          simp only [HR4.out, HR6.out, HR8.out]
        have hES : Mod (· = b) w8 (((w8.setCell ⟨b, 5, none⟩ (.int .i64 r8.1.1)).setCell ⟨b, 6, none⟩ (.int .i64 r8.1.2.1)).setCell ⟨b, 7, none⟩ (.int .i64 r8.1.2.2)) := ((((Mod.refl (· = b) w8).set (.inl rfl)).set (.inl rfl)).set (.inl rfl))
        have hEND := h8.mod hES (by omega) (by omega) (fun b' hb e => HBO.out (e ▸ hb))
        have hEB : Blk (((w8.setCell ⟨b, 5, none⟩ (.int .i64 r8.1.1)).setCell ⟨b, 6, none⟩ (.int .i64 r8.1.2.1)).setCell ⟨b, 7, none⟩ (.int .i64 r8.1.2.2)) b _ := (by repeat (with_reducible (first | assumption | (apply Blk.at; simp; done) | apply Blk.alloc | apply Blk.drew | apply Blk.drewN | apply Blk.more | apply Blk.put | (apply Blk.far; focus (first | assumption | (apply Ne.symm; assumption) | (simp; done) | (simp <;> omega))))))
        try simp only [List.setIfInBounds_toArray, List.set_cons_zero, List.set_cons_succ] at hEB
        have hEM := HM8.out.trans (hES.mono (T := fun x => x = p ∨ x = q ∨ x = b) fun _ _ h => .inr (.inr h))
        clear zb cb fb B8 h8 hES
        go_end0
        rw [e]
        exact ⟨rfl, hEB, hEND, hEM⟩
    · have dk2 : (r2.1 == 1) = false := by simpa using k2
      by_cases k3 : r3.1 = 1
      · have dk3 : (r3.1 == 1) = true := by simpa using k3
        go_wp2_with fail
        refine calls_fresh ?_
        rintro w7 hb7
        have B7 : Blk w7 b _ := Blk.below (by repeat (with_reducible (first | assumption | (apply Blk.at; simp; done) | apply Blk.alloc | apply Blk.drew | apply Blk.drewN | apply Blk.more | apply Blk.put | (apply Blk.far; focus (first | assumption | (apply Ne.symm; assumption) | (simp; done) | (simp <;> omega)))))) hb7
        try simp only [List.setIfInBounds_toArray, List.set_cons_zero, List.set_cons_succ] at B7
        have hS7 : Mod (· = b) w6 w7 := Mod.below ((((Mod.refl (· = b) w6).set (.inl rfl)).set (.inl rfl)).set (.inl rfl)) hb7
        have h7 := h6.mod hS7 (by omega) (by omega) (fun b' hb e => HBO.out (e ▸ hb))
        have HM7 := Lib.hid (HM6.out.trans (hS7.mono fun _ _ h => .inr (.inr h)))
        clear hb7 hS7 h6 B6 zb cb fb HM6
        obtain ⟨zb, cb, fb⟩ := id B7
        obtain ⟨r8, hr8⟩ : ∃ r, v3R (openL l) x.v1 x.v2 x.v3 r6.2 = r := ⟨_, rfl⟩
        refine (svec_c base p q r6.2 rv l x.v1 x.v2 x.v3 r8 w7 hr8 h7 HIN.out.2.2.2.2.2.2.1 HIN.out.2.2.2.2.2.2.2.1 HIN.out.2.2.2.2.2.2.2.2).mono ?_
        rintro e w8 ⟨rfl, h8, hM8⟩
        have B8 := B7.mod hM8 (by omega)
        have HM8 := Lib.hid (HM7.out.trans (hM8.mono fun _ _ h => h.elim .inl (fun h => .inr (.inl h))))
        have HR8 := Lib.hid hr8
        clear hM8 hr8 h7 B7 zb cb fb HM7
        obtain ⟨zb, cb, fb⟩ := id B8
        go_wp2
        have e : r = ((⟨x.id, r4.1, r6.1.1, r6.1.2.1, r6.1.2.2, x.a1, x.a2, x.a3, r8.1.1, r8.1.2.1, r8.1.2.2⟩ : Sn), r8.2) := by
          rw [← HR.out]
          unfold changeR
          simp only [HR1.out, HR2.out, HR3.out]
          unfold maybeK maybe3
          simp only [if_pos k1]
          rw [if_neg k2]
          rw [if_pos k3]
          simp only [HR4.out, HR6.out, HR8.out]
        have hES : Mod (· = b) w8 (((w8.setCell ⟨b, 8, none⟩ (.int .i64 r8.1.1)).setCell ⟨b, 9, none⟩ (.int .i64 r8.1.2.1)).setCell ⟨b, 10, none⟩ (.int .i64 r8.1.2.2)) := ((((Mod.refl (· = b) w8).set (.inl rfl)).set (.inl rfl)).set (.inl rfl))
        have hEND := h8.mod hES (by omega) (by omega) (fun b' hb e => HBO.out (e ▸ hb))
        have hEB : Blk (((w8.setCell ⟨b, 8, none⟩ (.int .i64 r8.1.1)).setCell ⟨b, 9, none⟩ (.int .i64 r8.1.2.1)).setCell ⟨b, 10, none⟩ (.int .i64 r8.1.2.2)) b _ := (by repeat (with_reducible (first | assumption | (apply Blk.at; simp; done) | apply Blk.alloc | apply Blk.drew | apply Blk.drewN | apply Blk.more | apply Blk.put | (apply Blk.far; focus (first | assumption | (apply Ne.symm; assumption) | (simp; done) | (simp <;> omega))))))
        try simp only [List.setIfInBounds_toArray, List.set_cons_zero, List.set_cons_succ] at hEB
        have hEM := HM8.out.trans (hES.mono (T := fun x => x = p ∨ x = q ∨ x = b) fun _ _ h => .inr (.inr h))
        clear zb cb fb B8 h8 hES
        go_end0
        rw [e]
        exact ⟨rfl, hEB, hEND, hEM⟩
      · have dk3 : (r3.1 == 1) = false := by simpa using k3
        go_wp2
        have e : r = ((⟨x.id, r4.1, r6.1.1, r6.1.2.1, r6.1.2.2, x.a1, x.a2, x.a3, x.v1, x.v2, x.v3⟩ : Sn), r6.2) := by
          rw [← HR.out]
          unfold changeR
          simp only [HR1.out, HR2.out, HR3.out]
          unfold maybeK maybe3
          simp only [if_pos k1]
          rw [if_neg k2]
          rw [if_neg k3]
          simp only [HR4.out, HR6.out]
        have hES : Mod (· = b) w6 (((w6.setCell ⟨b, 2, none⟩ (.int .i64 r6.1.1)).setCell ⟨b, 3, none⟩ (.int .i64 r6.1.2.1)).setCell ⟨b, 4, none⟩ (.int .i64 r6.1.2.2)) := ((((Mod.refl (· = b) w6).set (.inl rfl)).set (.inl rfl)).set (.inl rfl))
        have hEND := h6.mod hES (by omega) (by omega) (fun b' hb e => HBO.out (e ▸ hb))
        have hEB : Blk (((w6.setCell ⟨b, 2, none⟩ (.int .i64 r6.1.1)).setCell ⟨b, 3, none⟩ (.int .i64 r6.1.2.1)).setCell ⟨b, 4, none⟩ (.int .i64 r6.1.2.2)) b _ := (by repeat (with_reducible (first | assumption | (apply Blk.at; simp; done) | apply Blk.alloc | apply Blk.drew | apply Blk.drewN | apply Blk.more | apply Blk.put | (apply Blk.far; focus (first | assumption | (apply Ne.symm; assumption) | (simp; done) | (simp <;> omega))))))
        try simp only [List.setIfInBounds_toArray, List.set_cons_zero, List.set_cons_succ] at hEB
        have hEM := HM6.out.trans (hES.mono (T := fun x => x = p ∨ x = q ∨ x = b) fun _ _ h => .inr (.inr h))
        clear zb cb fb B6 h6 hES
        go_end0
        rw [e]
        exact ⟨rfl, hEB, hEND, hEM⟩
  · have dk1 : (r1.1 == 1) = false := by simpa using k1
    by_cases k2 : r2.1 = 1
    · have dk2 : (r2.1 == 1) = true := by simpa using k2
      go_wp2_with fail
      obtain ⟨r4, hr4⟩ : ∃ r, v3R (openL l) x.a1 x.a2 x.a3 r3.2 = r := ⟨_, rfl⟩
      refine (svec_c base p q r3.2 rv l x.a1 x.a2 x.a3 r4 w3 hr4 h3 HIN.out.2.2.2.1 HIN.out.2.2.2.2.1 HIN.out.2.2.2.2.2.1).mono ?_
      rintro e w4 ⟨rfl, h4, hM4⟩
      have B4 := B3.mod hM4 (by omega)
      have HM4 := Lib.hid (HM3.out.trans (hM4.mono fun _ _ h => h.elim .inl (fun h => .inr (.inl h))))
      have HR4 := Lib.hid hr4
      clear hM4 hr4 h3 B3 zb cb fb HM3
      obtain ⟨zb, cb, fb⟩ := id B4
      by_cases k3 : r3.1 = 1
      · have dk3 : (r3.1 == 1) = true := by simpa using k3
        go_wp2_with fail
        refine calls_fresh ?_
        rintro w5 hb5
        have B5 : Blk w5 b _ := Blk.below (by repeat (with_reducible (first | assumption | (apply Blk.at; simp; done) | apply Blk.alloc | apply Blk.drew | apply Blk.drewN | apply Blk.more | apply Blk.put | (apply Blk.far; focus (first | assumption | (apply Ne.symm; assumption) | (simp; done) | (simp <;> omega)))))) hb5
        try simp only [List.setIfInBounds_toArray, List.set_cons_zero, List.set_cons_succ] at B5
        have hS5 : Mod (· = b) w4 w5 := Mod.below ((((Mod.refl (· = b) w4).set (.inl rfl)).set (.inl rfl)).set (.inl rfl)) hb5
        have h5 := h4.mod hS5 (by omega) (by omega) (fun b' hb e => HBO.out (e ▸ hb))
        have HM5 := Lib.hid (HM4.out.trans (hS5.mono fun _ _ h => .inr (.inr h)))
        clear hb5 hS5 h4 B4 zb cb fb HM4
        obtain ⟨zb, cb, fb⟩ := id B5
        obtain ⟨r6, hr6⟩ : ∃ r, v3R (openL l) x.v1 x.v2 x.v3 r4.2 = r := ⟨_, rfl⟩
        refine (svec_c base p q r4.2 rv l x.v1 x.v2 x.v3 r6 w5 hr6 h5 HIN.out.2.2.2.2.2.2.1 HIN.out.2.2.2.2.2.2.2.1 HIN.out.2.2.2.2.2.2.2.2).mono ?_
        rintro e w6 ⟨rfl, h6, hM6⟩
        have B6 := B5.mod hM6 (by omega)
        have HM6 := Lib.hid (HM5.out.trans (hM6.mono fun _ _ h => h.elim .inl (fun h => .inr (.inl h))))
        have HR6 := Lib.hid hr6
        clear hM6 hr6 h5 B5 zb cb fb HM5
        obtain ⟨zb, cb, fb⟩ := id B6
        go_wp2
        have e : r = ((⟨x.id, x.kd, x.s1, x.s2, x.s3, r4.1.1, r4.1.2.1, r4.1.2.2, r6.1.1, r6.1.2.1, r6.1.2.2⟩ : Sn), r6.2) := by
          rw [← HR.out]
          unfold changeR
          simp only [HR1.out, HR2.out, HR3.out]
          unfold maybeK maybe3
          simp only [if_neg k1]
          rw [if_pos k2]
          rw [if_pos k3]
          simp only [HR4.out, HR6.out]
        have hES : Mod (· = b) w6 (((w6.setCell ⟨b, 8, none⟩ (.int .i64 r6.1.1)).setCell ⟨b, 9, none⟩ (.int .i64 r6.1.2.1)).setCell ⟨b, 10, none⟩ (.int .i64 r6.1.2.2)) := ((((Mod.refl (· = b) w6).set (.inl rfl)).set (.inl rfl)).set (.inl rfl))
        have hEND := h6.mod hES (by omega) (by omega) (fun b' hb e => HBO.out (e ▸ hb))
        have hEB : Blk (((w6.setCell ⟨b, 8, none⟩ (.int .i64 r6.1.1)).setCell ⟨b, 9, none⟩ (.int .i64 r6.1.2.1)).setCell ⟨b, 10, none⟩ (.int .i64 r6.1.2.2)) b _ := (by repeat (with_reducible (first | assumption | (apply Blk.at; simp; done) | apply Blk.alloc | apply Blk.drew | apply Blk.drewN | apply Blk.more | apply Blk.put | (apply Blk.far; focus (first | assumption | (apply Ne.symm; assumption) | (simp; done) | (simp <;> omega))))))
        try simp only [List.setIfInBounds_toArray, List.set_cons_zero, List.set_cons_succ] at hEB
        have hEM := HM6.out.trans (hES.mono (T := fun x => x = p ∨ x = q ∨ x = b) fun _ _ h => .inr (.inr h))
        clear zb cb fb B6 h6 hES
        go_end0
        rw [e]
        exact ⟨rfl, hEB, hEND, hEM⟩
      · have dk3 : (r3.1 == 1) = false := by simpa using k3
        go_wp2
        have e : r = ((⟨x.id, x.kd, x.s1, x.s2, x.s3, r4.1.1, r4.1.2.1, r4.1.2.2, x.v1, x.v2, x.v3⟩ : Sn), r4.2) := by
          rw [← HR.out]
          unfold changeR
          simp only [HR1.out, HR2.out, HR3.out]
          unfold maybeK maybe3
          simp only [if_neg k1]
          rw [if_pos k2]
          rw [if_neg k3]
          simp only [HR4.out]
        have hES : Mod (· = b) w4 (((w4.setCell ⟨b, 5, none⟩ (.int .i64 r4.1.1)).setCell ⟨b, 6, none⟩ (.int .i64 r4.1.2.1)).setCell ⟨b, 7, none⟩ (.int .i64 r4.1.2.2)) := ((((Mod.refl (· = b) w4).set (.inl rfl)).set (.inl rfl)).set (.inl rfl))
        have hEND := h4.mod hES (by omega) (by omega) (fun b' hb e => HBO.out (e ▸ hb))
        have hEB : Blk (((w4.setCell ⟨b, 5, none⟩ (.int .i64 r4.1.1)).setCell ⟨b, 6, none⟩ (.int .i64 r4.1.2.1)).setCell ⟨b, 7, none⟩ (.int .i64 r4.1.2.2)) b _ := (by repeat (with_reducible (first | assumption | (apply Blk.at; simp; done) | apply Blk.alloc | apply Blk.drew | apply Blk.drewN | apply Blk.more | apply Blk.put | (apply Blk.far; focus (first | assumption | (apply Ne.symm; assumption) | (simp; done) | (simp <;> omega))))))
        try simp only [List.setIfInBounds_toArray, List.set_cons_zero, List.set_cons_succ] at hEB
        have hEM := HM4.out.trans (hES.mono (T := fun x => x = p ∨ x = q ∨ x = b) fun _ _ h => .inr (.inr h))
        clear zb cb fb B4 h4 hES
        go_end0
        rw [e]
        exact ⟨rfl, hEB, hEND, hEM⟩
    · have dk2 : (r2.1 == 1) = false := by simpa using k2
      by_cases k3 : r3.1 = 1
      · have dk3 : (r3.1 == 1) = true := by simpa using k3
        go_wp2_with fail
        obtain ⟨r4, hr4⟩ : ∃ r, v3R (openL l) x.v1 x.v2 x.v3 r3.2 = r := ⟨_, rfl⟩
        refine (svec_c base p q r3.2 rv l x.v1 x.v2 x.v3 r4 w3 hr4 h3 HIN.out.2.2.2.2.2.2.1 HIN.out.2.2.2.2.2.2.2.1 HIN.out.2.2.2.2.2.2.2.2).mono ?_
        rintro e w4 ⟨rfl, h4, hM4⟩
        have B4 := B3.mod hM4 (by omega)
        have HM4 := Lib.hid (HM3.out.trans (hM4.mono fun _ _ h => h.elim .inl (fun h => .inr (.inl h))))
        have HR4 := Lib.hid hr4
        clear hM4 hr4 h3 B3 zb cb fb HM3
        obtain ⟨zb, cb, fb⟩ := id B4
        go_wp2
        have e : r = ((⟨x.id, x.kd, x.s1, x.s2, x.s3, x.a1, x.a2, x.a3, r4.1.1, r4.1.2.1, r4.1.2.2⟩ : Sn), r4.2) := by
          rw [← HR.out]
          unfold changeR
          simp only [HR1.out, HR2.out, HR3.out]
          unfold maybeK maybe3
          simp only [if_neg k1]
          rw [if_neg k2]
          rw [if_pos k3]
          simp only [HR4.out]
        have hES : Mod (· = b) w4 (((w4.setCell ⟨b, 8, none⟩ (.int .i64 r4.1.1)).setCell ⟨b, 9, none⟩ (.int .i64 r4.1.2.1)).setCell ⟨b, 10, none⟩ (.int .i64 r4.1.2.2)) := ((((Mod.refl (· = b) w4).set (.inl rfl)).set (.inl rfl)).set (.inl rfl))
        have hEND := h4.mod hES (by omega) (by omega) (fun b' hb e => HBO.out (e ▸ hb))
        have hEB : Blk (((w4.setCell ⟨b, 8, none⟩ (.int .i64 r4.1.1)).setCell ⟨b, 9, none⟩ (.int .i64 r4.1.2.1)).setCell ⟨b, 10, none⟩ (.int .i64 r4.1.2.2)) b _ := (by repeat (with_reducible (first | assumption | (apply Blk.at; simp; done) | apply Blk.alloc | apply Blk.drew | apply Blk.drewN | apply Blk.more | apply Blk.put | (apply Blk.far; focus (first | assumption | (apply Ne.symm; assumption) | (simp; done) | (simp <;> omega))))))
        try simp only [List.setIfInBounds_toArray, List.set_cons_zero, List.set_cons_succ] at hEB
        have hEM := HM4.out.trans (hES.mono (T := fun x => x = p ∨ x = q ∨ x = b) fun _ _ h => .inr (.inr h))
        clear zb cb fb B4 h4 hES
        go_end0
        rw [e]
        exact ⟨rfl, hEB, hEND, hEM⟩
      · have dk3 : (r3.1 == 1) = false := by simpa using k3
        go_wp2
        have e : r = ((⟨x.id, x.kd, x.s1, x.s2, x.s3, x.a1, x.a2, x.a3, x.v1, x.v2, x.v3⟩ : Sn), r3.2) := by
          rw [← HR.out]
          unfold changeR
          simp only [HR1.out, HR2.out, HR3.out]
          unfold maybeK maybe3
          simp only [if_neg k1]
          rw [if_neg k2]
          rw [if_neg k3]
        have hES : Mod (· = b) w3 w3 := (Mod.refl (· = b) w3)
        have hEND := h3.mod hES (by omega) (by omega) (fun b' hb e => HBO.out (e ▸ hb))
        have hEB : Blk w3 b _ := (by repeat (with_reducible (first | assumption | (apply Blk.at; simp; done) | apply Blk.alloc | apply Blk.drew | apply Blk.drewN | apply Blk.more | apply Blk.put | (apply Blk.far; focus (first | assumption | (apply Ne.symm; assumption) | (simp; done) | (simp <;> omega))))))
        try simp only [List.setIfInBounds_toArray, List.set_cons_zero, List.set_cons_succ] at hEB
        have hEM := HM3.out.trans (hES.mono (T := fun x => x = p ∨ x = q ∨ x = b) fun _ _ h => .inr (.inr h))
        clear zb cb fb B3 h3 hES
        go_end0
        rw [e]
        exact ⟨rfl, hEB, hEND, hEM⟩

end Go.Proofs.Ytefhmbmbhiehdaa
