/- The contracts of wire.reader; of slices.Equal over bytes. Conditions: none. -/
import Derived.Test.YtnkinnfpebploaaDoorRdet
import Derived.Test.YtnkinnfpebploaaDoorRbits2
import Derived.Test.YtnkinnfpebploaaDoorOpenB
namespace Go.Proofs.YtnkinnfpebploaaDoor
open Go.ChangeShapes Go.WideShapes Go.ChangeAt Go.RowKit Go.BigFrame
open B
/-- the reader of package wire, at block q, of the reader at p -/
structure RR (w : World) (base p q : Nat) (rv : Value) (l : List Nat) (a : Nat) (bad : Bool) : Prop where
  rd : Rd w base p rv l a
  blk : Blk w q #[.pointer (some ⟨p, 0, none⟩), .bool bad]
  pq : q ≠ p
  d : rv.ownBlock ≠ some q
theorem RR.below {w w' : World} {base p q a : Nat} {rv : Value} {l : List Nat} {bad : Bool} (h : RR w base p q rv l a bad) (k : Below w.heap.size w w') : RR w' base p q rv l a bad := ⟨h.rd.below k, h.blk.below k, h.pq, h.d⟩
theorem RR.mod {w w' : World} {base p q a : Nat} {rv : Value} {l : List Nat} {bad : Bool} {S : Nat → Prop} (h : RR w base p q rv l a bad) (k : Mod S w w') (h1 : ¬ S p) (h2 : ¬ S q) (h3 : ∀ b, rv.ownBlock = some b → ¬ S b) : RR w' base p q rv l a bad :=
  ⟨h.rd.mod k h1 h3, h.blk.mod k h2, h.pq, h.d⟩
theorem RR.next {w w1 : World} {base p q a a' : Nat} {rv : Value} {l : List Nat} {bad : Bool} (h : RR w base p q rv l a bad) (hR : Rd w1 base p rv l a') (k : Mod (· = p) w w1) : RR w1 base p q rv l a' bad := ⟨hR, h.blk.mod k h.pq, h.pq, h.d⟩
theorem RR.setBad {w : World} {base p q a : Nat} {rv : Value} {l : List Nat} {bad : Bool} (h : RR w base p q rv l a bad) (x : Bool) : RR (w.setCell ⟨q, 1, none⟩ (.bool x)) base p q rv l a x := by
  refine ⟨h.rd.mod (S := (· = q)) ((Mod.refl _ _).set (.inl rfl)) (fun e => h.pq e.symm) (fun b hb e => h.d (e ▸ hb)), blk_set2 h.blk, h.pq, h.d⟩
/-- what a read leaves: the number, the place, whether it was not so -/
def RdNum (base p q : Nat) (rv : Value) (l : List Nat) (n : Int) (a' : Nat) (C : Prop) (w : World) (e : Ending) (w' : World) : Prop :=
  ∃ bad' : Bool, e = .returned (.int .i64 n) ∧ RR w' base p q rv l a' bad' ∧ Mod (fun b => b = p ∨ b = q) w w' ∧ (bad' = true ↔ C)
theorem rdNum {base p q : Nat} {rv : Value} {l : List Nat} {n : Int} {a' : Nat} {C : Prop} {w w1 : World} {bad x : Bool} {e : Ending} (he : e = .returned (.int .i64 n)) (h : RR w1 base p q rv l a' bad) (k : Mod (· = p) w w1) (hx : x = true ↔ C) : RdNum base p q rv l n a' C w e (w1.setCell ⟨q, 1, none⟩ (.bool x)) :=
  ⟨x, he, h.setBad x, ((k.mono fun _ _ h => .inl h)).set (.inl (.inr rfl)), hx⟩
theorem rdet_of {base p : Nat} {v : Value} {l : List Nat} {r : Int × Int × Nat} {n e : Int} {a : Nat} {f : FuncId} {args : Array Value} {w : World} (h : Calls Tryd.prog f args w (RDet base p v l r w)) (hr : r = (n, e, a)) {ev : Value} (hv : errV e = ev) :
    Calls Tryd.prog f args w fun e w' => e = .returned (.tuple #[.int .i64 n, ev]) ∧ Rd w' base p v l a ∧ Mod (· = p) w w' := by
  subst hr hv
  exact h

set_option maxHeartbeats 1000000 in
theorem num_c (base p q a : Nat) (bad : Bool) (rv : Value) (l : List Nat) (n e : Int) (a' : Nat) (w : World) (h : RR w base p q rv l a bad) (hr : varD (openL l) a = (n, e, a')) : Calls Tryd.prog 81 #[.pointer (some ⟨q, 0, none⟩)] w (RdNum base p q rv l n a' (bad = true ∨ e ≠ 0 ∨ 70368744177664 < n) w) := by
  have k0 : w.cell? ⟨q, 0, none⟩ = some (.pointer (some ⟨p, 0, none⟩)) := h.blk.cell 0
  have hc := varD_c base p a rv l w h.rd
  by_cases he : e = 0
  · subst he
    have hc0 := rdet_of hc hr (ev := .nilIface) rfl
    have HC := Lib.hid hc0
    clear hc hc0 hr
    go_enter Tryd.func81, Tryd.ntmps81
    go_wp2_with fail
    refine HC.out.mono ?_
    rintro e w1 ⟨rfl, hR1, hM1⟩
    have hR := h.next hR1 hM1
    have k1 : w1.cell? ⟨q, 0, none⟩ = some (.pointer (some ⟨p, 0, none⟩)) := hR.blk.cell 0
    have k2 : w1.cell? ⟨q, 1, none⟩ = some (.bool bad) := hR.blk.cell 1
    have z1 := hR.blk.lt
    have f1 := hR.blk.free
    clear HC k0
    cases bad with
    | true =>
      go_wp2
      go_ret
      exact rdNum rfl hR hM1 (by simp)
    | false =>
      go_wp2
      go_ret
      exact rdNum rfl hR hM1 (by simp)
  · have hc0 := rdet_of hc hr (ev := .iface 25 (.int .i64 e)) (errV_n he)
    have HC := Lib.hid hc0
    have HE := Lib.hid he
    clear hc hc0 hr he
    go_enter Tryd.func81, Tryd.ntmps81
    go_wp2_with fail
    refine HC.out.mono ?_
    rintro e1 w1 ⟨rfl, hR1, hM1⟩
    have hR := h.next hR1 hM1
    have k1 : w1.cell? ⟨q, 0, none⟩ = some (.pointer (some ⟨p, 0, none⟩)) := hR.blk.cell 0
    have k2 : w1.cell? ⟨q, 1, none⟩ = some (.bool bad) := hR.blk.cell 1
    have z1 := hR.blk.lt
    have f1 := hR.blk.free
    clear HC k0
    cases bad with
    | true =>
      go_wp2
      go_ret
      exact rdNum rfl hR hM1 (by simp)
    | false =>
      go_wp2
      go_ret
      exact rdNum rfl hR hM1 (by simp [HE.out])

set_option maxHeartbeats 1000000 in
theorem rput_c (base p q a : Nat) (bad : Bool) (rv : Value) (l : List Nat) (n e : Int) (a' : Nat) (k : Int) (w : World) (h : RR w base p q rv l a bad) (hr : getD (openL l) a k = (n, e, a')) : Calls Tryd.prog 82 #[.pointer (some ⟨q, 0, none⟩), .int .i64 k] w (RdNum base p q rv l n a' (bad = true ∨ e ≠ 0) w) := by
  have k0 : w.cell? ⟨q, 0, none⟩ = some (.pointer (some ⟨p, 0, none⟩)) := h.blk.cell 0
  have hc := getD_c base p a k rv l w h.rd
  by_cases he : e = 0
  · subst he
    have hc0 := rdet_of hc hr (ev := .nilIface) rfl
    have HC := Lib.hid hc0
    clear hc hc0 hr
    go_enter Tryd.func82, Tryd.ntmps82
    go_wp2_with fail
    refine HC.out.mono ?_
    rintro e w1 ⟨rfl, hR1, hM1⟩
    have hR := h.next hR1 hM1
    have k1 : w1.cell? ⟨q, 0, none⟩ = some (.pointer (some ⟨p, 0, none⟩)) := hR.blk.cell 0
    have k2 : w1.cell? ⟨q, 1, none⟩ = some (.bool bad) := hR.blk.cell 1
    have z1 := hR.blk.lt
    have f1 := hR.blk.free
    clear HC k0
    cases bad with
    | true =>
      go_wp2
      go_ret
      exact rdNum rfl hR hM1 (by simp)
    | false =>
      go_wp2
      go_ret
      exact rdNum rfl hR hM1 (by simp)
  · have hc0 := rdet_of hc hr (ev := .iface 25 (.int .i64 e)) (errV_n he)
    have HC := Lib.hid hc0
    have HE := Lib.hid he
    clear hc hc0 hr he
    go_enter Tryd.func82, Tryd.ntmps82
    go_wp2_with fail
    refine HC.out.mono ?_
    rintro e1 w1 ⟨rfl, hR1, hM1⟩
    have hR := h.next hR1 hM1
    have k1 : w1.cell? ⟨q, 0, none⟩ = some (.pointer (some ⟨p, 0, none⟩)) := hR.blk.cell 0
    have k2 : w1.cell? ⟨q, 1, none⟩ = some (.bool bad) := hR.blk.cell 1
    have z1 := hR.blk.lt
    have f1 := hR.blk.free
    clear HC k0
    cases bad with
    | true =>
      go_wp2
      go_ret
      exact rdNum rfl hR hM1 (by simp)
    | false =>
      go_wp2
      go_ret
      exact rdNum rfl hR hM1 (by simp [HE.out])

set_option maxHeartbeats 1000000 in
theorem part_c (base p q a : Nat) (bad : Bool) (rv : Value) (l : List Nat) (n e : Int) (a' : Nat) (w : World) (h : RR w base p q rv l a bad) (hr : intD (openL l) a = (n, e, a')) : Calls Tryd.prog 83 #[.pointer (some ⟨q, 0, none⟩)] w (RdNum base p q rv l n a' (bad = true ∨ e ≠ 0 ∨ n < -6553600 ∨ 6553600 < n) w) := by
  have k0 : w.cell? ⟨q, 0, none⟩ = some (.pointer (some ⟨p, 0, none⟩)) := h.blk.cell 0
  have hc := intD_c base p a rv l w h.rd
  by_cases he : e = 0
  · subst he
    have hc0 := rdet_of hc hr (ev := .nilIface) rfl
    have HC := Lib.hid hc0
    clear hc hc0 hr
    go_enter Tryd.func83, Tryd.ntmps83
    go_wp2_with fail
    refine HC.out.mono ?_
    rintro e w1 ⟨rfl, hR1, hM1⟩
    have hR := h.next hR1 hM1
    have k1 : w1.cell? ⟨q, 0, none⟩ = some (.pointer (some ⟨p, 0, none⟩)) := hR.blk.cell 0
    have k2 : w1.cell? ⟨q, 1, none⟩ = some (.bool bad) := hR.blk.cell 1
    have z1 := hR.blk.lt
    have f1 := hR.blk.free
    clear HC k0
    cases bad with
    | true =>
      go_wp2
      go_ret
      exact rdNum rfl hR hM1 (by simp)
    | false =>
      by_cases s1 : n < -6553600
      · go_wp2
        go_ret
        exact rdNum rfl hR hM1 (by simp [s1])
      · go_wp2
        go_ret
        exact rdNum rfl hR hM1 (by first | (simp; done) | (simp; omega))
  · have hc0 := rdet_of hc hr (ev := .iface 25 (.int .i64 e)) (errV_n he)
    have HC := Lib.hid hc0
    have HE := Lib.hid he
    clear hc hc0 hr he
    go_enter Tryd.func83, Tryd.ntmps83
    go_wp2_with fail
    refine HC.out.mono ?_
    rintro e1 w1 ⟨rfl, hR1, hM1⟩
    have hR := h.next hR1 hM1
    have k1 : w1.cell? ⟨q, 0, none⟩ = some (.pointer (some ⟨p, 0, none⟩)) := hR.blk.cell 0
    have k2 : w1.cell? ⟨q, 1, none⟩ = some (.bool bad) := hR.blk.cell 1
    have z1 := hR.blk.lt
    have f1 := hR.blk.free
    clear HC k0
    cases bad with
    | true =>
      go_wp2
      go_ret
      exact rdNum rfl hR hM1 (by simp)
    | false =>
      go_wp2
      go_ret
      exact rdNum rfl hR hM1 (by simp [HE.out])

theorem rnumA_c (q : Nat) (bad : Bool) (n e : Int) (w : World) (h : Blk w q #[.bool bad]) : Calls Tryd.prog 80 #[.int .i64 n, .int .i64 e, .pointer (some ⟨q, 0, none⟩)] w fun ev w' => ∃ bad' : Bool, ev = .returned (.int .i64 n) ∧ Blk w' q #[.bool bad'] ∧ Mod (· = q) w w' ∧ (bad' = true ↔ bad = true ∨ e ≠ 0) := by
  have k0 : w.cell? ⟨q, 0, none⟩ = some (.bool bad) := h.cell 0
  have z0 := h.lt
  have f0 := h.free
  cases bad with
  | true =>
    go_enter Tryd.func80, Tryd.ntmps80
    go_wp2
    go_ret
    exact ⟨_, rfl, by simpa using h.put (i := 0) (v := .bool true), (Mod.refl _ _).set (.inl rfl), by simp⟩
  | false =>
    by_cases he : e = 0
    · have he' : (e != 0) = false := by simpa using he
      have HE := Lib.hid he
      clear he
      go_enter Tryd.func80, Tryd.ntmps80
      go_wp2
      go_ret
      exact ⟨_, rfl, by simpa using h.put (i := 0) (v := .bool false), (Mod.refl _ _).set (.inl rfl), by simp [HE.out]⟩
    · have he' : (e != 0) = true := by simpa using he
      have HE := Lib.hid he
      clear he
      go_enter Tryd.func80, Tryd.ntmps80
      go_wp2
      go_ret
      exact ⟨_, rfl, by simpa using h.put (i := 0) (v := .bool true), (Mod.refl _ _).set (.inl rfl), by simp [HE.out]⟩

theorem rnumT_c (q : Nat) (bad : Bool) (n e : Int) (w : World) (h : Blk w q #[.bool bad]) : Calls Tryd.prog 85 #[.int .i64 n, .int .i64 e, .pointer (some ⟨q, 0, none⟩)] w fun ev w' => ∃ bad' : Bool, ev = .returned (.int .i64 n) ∧ Blk w' q #[.bool bad'] ∧ Mod (· = q) w w' ∧ (bad' = true ↔ bad = true ∨ e ≠ 0) := by
  have k0 : w.cell? ⟨q, 0, none⟩ = some (.bool bad) := h.cell 0
  have z0 := h.lt
  have f0 := h.free
  cases bad with
  | true =>
    go_enter Tryd.func85, Tryd.ntmps85
    go_wp2
    go_ret
    exact ⟨_, rfl, by simpa using h.put (i := 0) (v := .bool true), (Mod.refl _ _).set (.inl rfl), by simp⟩
  | false =>
    by_cases he : e = 0
    · have he' : (e != 0) = false := by simpa using he
      have HE := Lib.hid he
      clear he
      go_enter Tryd.func85, Tryd.ntmps85
      go_wp2
      go_ret
      exact ⟨_, rfl, by simpa using h.put (i := 0) (v := .bool false), (Mod.refl _ _).set (.inl rfl), by simp [HE.out]⟩
    · have he' : (e != 0) = true := by simpa using he
      have HE := Lib.hid he
      clear he
      go_enter Tryd.func85, Tryd.ntmps85
      go_wp2
      go_ret
      exact ⟨_, rfl, by simpa using h.put (i := 0) (v := .bool true), (Mod.refl _ _).set (.inl rfl), by simp [HE.out]⟩

set_option maxHeartbeats 1000000 in
theorem equal_c (v1 v2 : Value) (l m : List Nat) (w : World) (h1 : Rdb w v1 l) (h2 : Rdb w v2 m) (hl : l.length ≤ 1000000) (hm : m.length ≤ 1000000) (b8 : ∀ x ∈ l, x < 256) (c8 : ∀ x ∈ m, x < 256) : Calls Tryd.prog 84 #[v1, v2] w fun e w' => (∃ b : Bool, e = .returned (.bool b) ∧ (b = true ↔ l = m)) ∧ Below w.heap.size w w' := by
  obtain ⟨A, c, rfl, g1⟩ := h1
  obtain ⟨A2, c2, rfl, g2⟩ := h2
  obtain ⟨N, hN⟩ : ∃ N, N = l.length := ⟨_, rfl⟩
  obtain ⟨M, hM⟩ : ∃ M, M = m.length := ⟨_, rfl⟩
  rw [← hN, ← hM]
  rw [← hN] at hl
  rw [← hM] at hm
  have HN := Lib.hid hN
  have HM := Lib.hid hM
  have G1 := Lib.hid g1
  have G2 := Lib.hid g2
  have B8 := Lib.hid b8
  have C8 := Lib.hid c8
  clear hN hM g1 g2 b8 c8
  by_cases hne : N = M
  · subst hne
    go_enter Tryd.func84, Tryd.ntmps84
    go_wp2
    go_loopw [13] (fun i wr => ∃ k : Nat, k ≤ N ∧ i = .int .i64 k ∧ l.take k = m.take k ∧ Below w.heap.size w wr) (fun i _ => N - (intOf i).toNat)
    case atStart => exact ⟨0, by omega, rfl, by simp, Below.refl _ _⟩
    case round =>
      obtain ⟨k, hk, rfl, htk, hB⟩ := hrel
      have HTK := Lib.hid htk
      clear htk
      by_cases hlt : k < N
      · obtain ⟨b1, o1, rfl, z1, cc1⟩ := G1.out (by have := HN.out; omega)
        obtain ⟨b2, o2, rfl, z2, cc2⟩ := G2.out (by have := HM.out; omega)
        obtain ⟨x, hx⟩ : ∃ x, l[k]? = some x := ⟨_, List.getElem?_eq_getElem (by have := HN.out; omega)⟩
        obtain ⟨y, hy⟩ : ∃ y, m[k]? = some y := ⟨_, List.getElem?_eq_getElem (by have := HM.out; omega)⟩
        have q1 := (hB.cell (p := ⟨b1, o1 + k, none⟩) z1).trans (cc1 k x hx)
        have q2 := (hB.cell (p := ⟨b2, o2 + k, none⟩) z2).trans (cc2 k y hy)
        have y1 := Nat.lt_of_lt_of_le z1 hB.size
        have y2 := Nat.lt_of_lt_of_le z2 hB.size
        have HX := Lib.hid hx
        have HY := Lib.hid hy
        have hmc := more_cell
        have hmf := more_frozen
        have hml := more_lt
        clear cc1 cc2 z1 z2 hx hy
        by_cases hxy : x = y
        · have e1 : ((x : Int) != (y : Int)) = false := by simp; omega
          have HXY := Lib.hid hxy
          clear hxy
          go_wp2
          refine region_quiet_all (by kernel_rfl) (by kernel_rfl) ?_
          repeat (go_big_quiet_step (fail))
          refine wpQuiet_nil ?_
          rintro w2 hw2
          have hb2 := after_below hw2
          clear hw2
          go_wp2
          go_roundw
          case rel => exact ⟨k + 1, by omega, by go_num, by rw [List.take_add_one, List.take_add_one, HTK.out, HX.out, HY.out, HXY.out], hB.trans (hb2.mono hB.size)⟩
          case measure => first | (simp [intOf]; done) | (simp [intOf]; omega)
        · have e1 : ((x : Int) != (y : Int)) = true := by simp; omega
          have HXY := Lib.hid hxy
          clear hxy
          go_wp2
          refine region_quiet_all (by kernel_rfl) (by kernel_rfl) ?_
          repeat (go_big_quiet_step (fail))
          refine wpQuiet_nil ?_
          rintro w2 hw2
          have hb2 := after_below hw2
          clear hw2
          go_wp2
          go_ret
          refine ⟨⟨false, rfl, ⟨(fun h => by cases h), fun h => ?_⟩⟩, hB.trans (hb2.mono hB.size)⟩
          have h3 := HX.out
          rw [h, HY.out] at h3
          exact absurd (Option.some.inj h3).symm HXY.out
      · obtain rfl : k = N := by omega
        go_wp2
        go_ret
        refine ⟨⟨true, rfl, ⟨fun _ => ?_, fun _ => rfl⟩⟩, hB⟩
        have h1 := HTK.out
        rwa [List.take_of_length_le (by have := HN.out; omega), List.take_of_length_le (by have := HM.out; omega)] at h1
  · have e1 : ((N : Int) != (M : Int)) = true := by simp; omega
    have HNE := Lib.hid hne
    clear hne
    go_enter Tryd.func84, Tryd.ntmps84
    go_wp2
    go_ret
    refine ⟨⟨false, rfl, ⟨(fun h => by cases h), fun h => ?_⟩⟩, Below.refl _ _⟩
    exact absurd (by rw [HN.out, HM.out, h]) HNE.out

end Go.Proofs.YtnkinnfpebploaaDoor
