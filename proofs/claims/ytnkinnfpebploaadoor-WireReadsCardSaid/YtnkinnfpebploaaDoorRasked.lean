/- The contract of gyreref.Asked. Conditions: none. -/
import Derived.Test.YtnkinnfpebploaaDoorAsked
import Derived.Test.YtnkinnfpebploaaDoorTape
namespace Go.Proofs.YtnkinnfpebploaaDoor
open Go.ChangeShapes Go.WideShapes Go.ChangeAt Go.RowKit Go.BigFrame
open B
def cbr (k n : Int) : Int := if k = 1 ∨ k = 2 then n else 0
theorem cbr_cb {k : Int} (n : Int) (h0 : 0 ≤ k) (h2 : k ≤ 2) : cbr k n = cb k n := by
  unfold cbr cb
  by_cases h : k = 0
  · rw [if_neg (by omega), if_neg (by omega)]
  · rw [if_pos (by omega), if_pos h]
def RAskedPost (l : List Nat) (n1 e1 n2 e2 n3 e3 k e4 n5 e5 n6 e6 n7 e7 n8 e8 : Int) (w : World) (e : Ending) (w' : World) : Prop :=
  (Good l n1 e1 n2 e2 n3 e3 k e4 n5 e5 n6 e6 n7 e7 n8 e8 ∧ e = .returned (.tuple #[.agg #[.int .i64 n1, .int .i64 n2, .int .i64 n3, .int .i64 k, .int .i64 (cb k n5), .int .i64 (cx k n6), .int .i64 (cx k n7), .int .i64 (cx k n8)], .int .i64 0]) ∧ Below w.heap.size w w') ∨
  (¬ Good l n1 e1 n2 e2 n3 e3 k e4 n5 e5 n6 e6 n7 e7 n8 e8 ∧ e = .returned (.tuple #[.agg #[.int .i64 0, .int .i64 0, .int .i64 0, .int .i64 0, .int .i64 0, .int .i64 0, .int .i64 0, .int .i64 0], .int .i64 3]) ∧ Below w.heap.size w w')
theorem tdet_of {base p : Nat} {v : Value} {L : List Nat} {r : Int × Int × Nat} {n e : Int} {a : Nat} {f : FuncId} {args : Array Value} {w : World} (h : Calls Tryd.prog f args w (TDet base p v L r w)) (hr : r = (n, e, a)) :
    Calls Tryd.prog f args w fun ev w' => ev = .returned (.tuple #[.int .i64 n, .int .i64 e]) ∧ Tp w' base p v L a ∧ Mod (· = p) w w' := by
  subst hr
  exact h
theorem ropen_o (v : Value) (l : List Nat) (w : World) (h : Rdb w v l) (h8 : ∀ b ∈ l, b < 256) (hlen : l.length ≤ 100000) : Calls Tryd.prog 37 #[v] w fun e w' => ∃ A N c, e = .returned (.slice A N c) ∧ N = (openL l).length ∧ w'.ownsRow w.heap.size 5 1 (.slice A N c) (openL l).length (u8s (openL l)) ∧ Below w.heap.size w w' := by
  refine (ropen_c v l w h h8 hlen).mono fun e w' ⟨v', he, hr, hb⟩ => ?_
  obtain ⟨A, c, rfl⟩ := row_form hr
  exact ⟨A, _, c, he, rfl, hr, hb⟩
theorem rask_any (t n s k b x y z : Int) (w : World) : Calls Tryd.prog 47 #[.agg #[.int .i64 t, .int .i64 n, .int .i64 s, .int .i64 k, .int .i64 b, .int .i64 x, .int .i64 y, .int .i64 z]] w fun e w' => ∃ v e2, e = .returned (.tuple #[v, .int .i64 e2]) ∧ Below w.heap.size w w' := by
  by_cases h : k < 0 ∨ 2 < k
  · exact (rask_kind t n s k b x y z w h).mono fun e w' ⟨he, hb⟩ => ⟨_, _, he, hb⟩
  · refine (rask_c t n s k b x y z w (by omega) (by omega)).mono fun e w' h => ?_
    rcases h with ⟨_, A, c, he, _, hb⟩ | ⟨_, he, hb⟩
    · exact ⟨_, _, he, hb⟩
    · exact ⟨_, _, he, hb⟩
theorem strB_inj {l m : List Nat} (hl : ∀ b ∈ l, b < 256) (hm : ∀ b ∈ m, b < 256) (h : strB l = strB m) : l = m := by
  have h1 : (strB l).data.toList = (strB m).data.toList := by rw [h]
  unfold strB at h1
  rw [strOfNums_data, strOfNums_data] at h1
  have h2 := congrArg (fun a => a.map UInt8.toNat) h1
  simp only [List.map_map] at h2
  have e : ∀ q : List Nat, (∀ b ∈ q, b < 256) → q.map (UInt8.toNat ∘ (fun n : Int => UInt8.ofNat n.toNat) ∘ fun (b : Nat) => (b : Int)) = q := by
    intro q hq
    conv => rhs; rw [← List.map_id q]
    apply List.map_congr_left
    intro b hb
    have := hq b hb
    simp [UInt8.toNat_ofNat']
    omega
  rw [e l hl, e m hm] at h2
  exact h2
theorem bne_str {a b : ByteArray} (h : a ≠ b) : (a.toList == b.toList) = false := by
  rw [beq_eq_false_iff_ne, ByteArray.toList_eq, ByteArray.toList_eq]
  intro e
  apply h
  cases a; cases b
  simpa using e
/-- what the document's reader misses -/
def BadR (e1 e2 e3 k e4 e5 e6 e7 e8 : Int) : Prop :=
  ((((False ∨ e1 ≠ 0) ∨ e2 ≠ 0) ∨ e3 ≠ 0) ∨ e4 ≠ 0) ∨ ((k = 1 ∨ k = 2) ∧ e5 ≠ 0) ∨ (k = 1 ∧ (e6 ≠ 0 ∨ e7 ≠ 0 ∨ e8 ≠ 0))
theorem rnot_good {l : List Nat} {n1 e1 n2 e2 n3 e3 k e4 n5 e5 n6 e6 n7 e7 n8 e8 : Int} (h : BadR e1 e2 e3 k e4 e5 e6 e7 e8) : ¬ Good l n1 e1 n2 e2 n3 e3 k e4 n5 e5 n6 e6 n7 e7 n8 e8 := by
  rintro ⟨⟨g1, g2, g3, g4, g5, g6⟩, _, _, _⟩
  unfold BadR at h
  rcases h with ((((h | h) | h) | h) | h) | ⟨h0, h⟩ | ⟨h0, h⟩
  · exact h
  · exact h g1
  · exact h g2
  · exact h g3
  · exact h g4
  · exact h (g5 (by omega))
  · obtain ⟨x, y, z⟩ := g6 h0
    rcases h with h | h | h
    · exact h x
    · exact h y
    · exact h z
theorem rgood_of {l : List Nat} {n1 e1 n2 e2 n3 e3 k e4 n5 e5 n6 e6 n7 e7 n8 e8 : Int} (h : ¬ BadR e1 e2 e3 k e4 e5 e6 e7 e8) (h2 : k ≤ 2) (h0 : 0 ≤ k) (hA : AskOk n1 n2 n3 k (cb k n5) (cx k n6) (cx k n7) (cx k n8)) (hp : pack (askL n1 n2 n3 k (cb k n5) (cx k n6) (cx k n7) (cx k n8)) = l) : Good l n1 e1 n2 e2 n3 e3 k e4 n5 e5 n6 e6 n7 e7 n8 e8 := by
  unfold BadR at h
  simp only [not_or, not_and, ne_eq, Decidable.not_not] at h
  obtain ⟨⟨⟨⟨⟨_, a1⟩, a2⟩, a3⟩, a4⟩, a5, a6⟩ := h
  exact ⟨⟨a1, a2, a3, a4, fun h => a5 (by omega), fun h => a6 h⟩, h2, hA, hp⟩

set_option maxRecDepth 100000 in
set_option maxHeartbeats 8000000 in
theorem rasked_c (v : Value) (l : List Nat) (n1 e1 n2 e2 n3 e3 k e4 n5 e5 n6 e6 n7 e7 n8 e8 : Int) (a1 a2 a3 a4 a5 a6 a7 a8 : Nat) (w : World) (hS : Src w v l) (h8 : ∀ b ∈ l, b < 256) (hl : l.length ≤ 100000) (hpr : Pr (openL l) n1 e1 n2 e2 n3 e3 k e4 n5 e5 n6 e6 n7 e7 n8 e8 a1 a2 a3 a4 a5 a6 a7 a8) :
    Calls Tryd.prog 55 #[v] w (RAskedPost l n1 e1 n2 e2 n3 e3 k e4 n5 e5 n6 e6 n7 e7 n8 e8 w) := by
  have HPR := Lib.hid hpr
  have HSR : Hid (∀ w', Below w.heap.size w w' → Src w' v l) := Lib.hid (fun w' k => hS.below k)
  have H8 := Lib.hid h8
  have HK := Lib.hid (getD_nn (openL_bin l) hpr.h4)
  clear hpr hS h8
  go_enter Tryd.func55, Tryd.ntmps55
  go_wp2_with fail
  refine (ropen_o v l _ (Rdb.of_src (HSR.out _ (balloc _ _))) H8.out hl).mono ?_
  rintro e w1 ⟨tA, N, tc, rfl, hN, hrow, hb1⟩
  have hX1 := (Blk.fresh w #[.int .i64 0, .int .i64 0, .int .i64 0, .int .i64 0, .int .i64 0, .int .i64 0, .int .i64 0, .int .i64 0] 96).below hb1
  have hB1 : Below w.heap.size w w1 := (balloc _ _).trans (hb1.mono (by simp))
  have hrow1 : w1.ownsRow w.heap.size 5 1 (.slice tA N tc) (openL l).length (u8s (openL l)) := by obtain ⟨h1, h2 | ⟨g, cap, cur, a, b, c⟩⟩ := hrow; exact ⟨h1, .inl h2⟩; exact ⟨h1, .inr ⟨g, cap, cur, a, by simp at b; omega, c⟩⟩
  have hrx : (Value.slice tA N tc).ownBlock ≠ some w.heap.size := fun e => by have := (row_lt hrow e).2; simp at this; omega
  have HN := Lib.hid hN
  clear hrow hb1 hN
  go_wp2_with fail
  refine calls_anew ?_
  intro w2 hb2
  have hT2b : Blk w2 w1.heap.size #[.slice tA N tc, .int .i64 0] := Blk.below (by repeat (with_reducible (first | assumption | (apply Blk.at; simp; done) | apply Blk.alloc | apply Blk.drew | apply Blk.drewN | apply Blk.more | apply Blk.put | (apply Blk.far; focus (first | assumption | (apply Ne.symm; assumption) | (simp; done) | (simp <;> omega)))))) hb2
  have hQ2 : Blk w2 (w1.heap.size + 1) #[.bool false] := Blk.below (by repeat (with_reducible (first | assumption | (apply Blk.at; simp; done) | apply Blk.alloc | apply Blk.drew | apply Blk.drewN | apply Blk.more | apply Blk.put | (apply Blk.far; focus (first | assumption | (apply Ne.symm; assumption) | (simp; done) | (simp <;> omega)))))) hb2
  have hq2 : Below w1.heap.size w1 w2 := (by repeat (with_reducible (first | exact Below.refl _ _ | assumption | apply ext_drew | apply ext_drewN | apply ext_alloc | apply ext_more | (refine ext_setCell ?_ (by simp <;> omega) _) | (refine ext_below ?_ (by assumption)))))
  have hT2 : Tp w2 w.heap.size w1.heap.size (.slice tA N tc) (openL l) 0 := ⟨hT2b, row_below hrow1 hq2, fun e => by have := (row_lt hrow1 e).1; omega, openL_bin l, by rw [openL_length]; omega, by omega⟩
  have hX2 := hX1.below hq2
  have hB2 := hB1.trans (hq2.mono hB1.size)
  have hlt1 : w.heap.size < w1.heap.size := hX1.lt
  have hown1 : (Value.slice tA N tc).ownBlock ≠ some (w1.heap.size + 1) := fun e => by have := (row_lt hrow1 e).1; omega
  obtain ⟨x0, hx0⟩ : ∃ x0, x0 = w.heap.size := ⟨_, rfl⟩
  obtain ⟨tp, htp⟩ : ∃ tp, tp = w1.heap.size := ⟨_, rfl⟩
  rw [← htp] at hQ2 hT2 hown1 hlt1
  rw [← hx0] at hX2 hrx hlt1
  rw [← hx0, ← htp]
  obtain ⟨bq, hbq⟩ : ∃ bq, bq = tp + 1 := ⟨_, rfl⟩
  rw [← hbq] at hQ2 hown1
  rw [← hbq]
  have HPW : Hid (w.heap.size ≤ tp) := Lib.hid (by omega)
  have HQW : Hid (w.heap.size ≤ bq) := Lib.hid (by omega)
  have HXW : Hid (w.heap.size ≤ x0) := Lib.hid (by omega)
  have hxt : x0 ≠ tp := by omega
  have hxq : x0 ≠ bq := by omega
  have htq : tp ≠ bq := by omega
  have HTQ := Lib.hid hown1
  obtain ⟨b2, hb2'⟩ : ∃ b : Bool, b = false := ⟨_, rfl⟩
  rw [← hb2'] at hQ2
  have HB2 : Hid (b2 = true ↔ False) := Lib.hid (by rw [hb2']; simp)
  clear hb2 hq2 hX1 hB1 hT2b hrow1 hx0 htp hbq hlt1 hown1 hrx hb2'

  go_wp2_with fail
  refine (tdet_of (tvar_c w.heap.size tp 0 (.slice tA N tc) (openL l) _ hT2) HPR.out.h1).mono ?_
  rintro e w3 ⟨rfl, hT3, hM3⟩
  have hQ3 := hQ2.mod hM3 (by omega)
  have hX3 := hX2.mod hM3 (by omega)
  have hB3 := hB2.trans (mod_base hM3 hB2.size HPW.out)
  clear hT2 hM3 hQ2 hB2 hX2
  go_wp2_with fail
  refine (rnumA_c bq b2 n1 e1 _ hQ3).mono ?_
  rintro e w4 ⟨b4, rfl, hQ4, hM4, hb4⟩
  have hT4 := hT3.mod hM4 (by omega) (fun b hb e => HTQ.out (e ▸ hb))
  have hX4 := hX3.mod hM4 (by omega)
  have hB4 := hB3.trans (mod_base hM4 hB3.size HQW.out)
  have HB4 := Lib.hid hb4
  clear hT3 hM4 hQ3 hB3 hb4 hX3
  go_wp2_with fail
  refine (tdet_of (tvar_c w.heap.size tp a1 (.slice tA N tc) (openL l) _ hT4) HPR.out.h2).mono ?_
  rintro e w5 ⟨rfl, hT5, hM5⟩
  have hQ5 := hQ4.mod hM5 (by omega)
  have hX5 := hX4.mod hM5 (by omega)
  have hB5 := hB4.trans (mod_base hM5 hB4.size HPW.out)
  clear hT4 hM5 hQ4 hB4 hX4
  go_wp2_with fail
  refine (rnumA_c bq b4 n2 e2 _ hQ5).mono ?_
  rintro e w6 ⟨b6, rfl, hQ6, hM6, hb6⟩
  have hT6 := hT5.mod hM6 (by omega) (fun b hb e => HTQ.out (e ▸ hb))
  have hX6 := hX5.mod hM6 (by omega)
  have hB6 := hB5.trans (mod_base hM6 hB5.size HQW.out)
  have HB6 := Lib.hid hb6
  clear hT5 hM6 hQ5 hB5 hb6 hX5
  go_wp2_with fail
  refine (tdet_of (tvar_c w.heap.size tp a2 (.slice tA N tc) (openL l) _ hT6) HPR.out.h3).mono ?_
  rintro e w7 ⟨rfl, hT7, hM7⟩
  have hQ7 := hQ6.mod hM7 (by omega)
  have hX7 := hX6.mod hM7 (by omega)
  have hB7 := hB6.trans (mod_base hM7 hB6.size HPW.out)
  clear hT6 hM7 hQ6 hB6 hX6
  go_wp2_with fail
  refine (rnumA_c bq b6 n3 e3 _ hQ7).mono ?_
  rintro e w8 ⟨b8, rfl, hQ8, hM8, hb8⟩
  have hT8 := hT7.mod hM8 (by omega) (fun b hb e => HTQ.out (e ▸ hb))
  have hX8 := hX7.mod hM8 (by omega)
  have hB8 := hB7.trans (mod_base hM8 hB7.size HQW.out)
  have HB8 := Lib.hid hb8
  clear hT7 hM8 hQ7 hB7 hb8 hX7
  go_wp2_with fail
  refine (tdet_of (tget_c w.heap.size tp a3 2 (.slice tA N tc) (openL l) _ hT8) HPR.out.h4).mono ?_
  rintro e w9 ⟨rfl, hT9, hM9⟩
  have hQ9 := hQ8.mod hM9 (by omega)
  have hX9 := hX8.mod hM9 (by omega)
  have hB9 := hB8.trans (mod_base hM9 hB8.size HPW.out)
  clear hT8 hM9 hQ8 hB8 hX8
  go_wp2_with fail
  refine (rnumA_c bq b8 k e4 _ hQ9).mono ?_
  rintro e w10 ⟨b10, rfl, hQ10, hM10, hb10⟩
  have hT10 := hT9.mod hM10 (by omega) (fun b hb e => HTQ.out (e ▸ hb))
  have hX10 := hX9.mod hM10 (by omega)
  have hB10 := hB9.trans (mod_base hM10 hB9.size HQW.out)
  have HB10 := Lib.hid hb10
  clear hT9 hM10 hQ9 hB9 hb10 hX9
  go_upto_region 5 with fail
  refine wp_fresh ?_
  intro w11 hb11
  have hC11 : Blk w11 w10.heap.size #[.int .i64 n1, .int .i64 n2, .int .i64 n3, .int .i64 k, .int .i64 0, .int .i64 0, .int .i64 0, .int .i64 0] := Blk.below (by repeat (with_reducible (first | assumption | (apply Blk.at; simp; done) | apply Blk.alloc | apply Blk.drew | apply Blk.drewN | apply Blk.more | apply Blk.put | (apply Blk.far; focus (first | assumption | (apply Ne.symm; assumption) | (simp; done) | (simp <;> omega)))))) hb11
  have hq11 : Below w10.heap.size w10 w11 := (by repeat (with_reducible (first | exact Below.refl _ _ | assumption | apply ext_drew | apply ext_drewN | apply ext_alloc | apply ext_more | (refine ext_setCell ?_ (by simp <;> omega) _) | (refine ext_below ?_ (by assumption)))))
  have hT11 := hT10.below hq11
  have hQ11 := hQ10.below hq11
  have hX11 := hX10.below hq11
  have hB11 := hB10.trans (hq11.mono hB10.size)
  have hlt5 : tp < w10.heap.size ∧ bq < w10.heap.size ∧ x0 < w10.heap.size ∧ (Value.slice tA N tc).ownBlock ≠ some w10.heap.size := ⟨hT10.blk.lt, hQ10.lt, hX10.lt, fun e => by have := (row_lt hT10.row e).1; omega⟩
  have HCW : Hid (w.heap.size ≤ w10.heap.size) := Lib.hid hB10.size
  obtain ⟨cc, hcc⟩ : ∃ cc, cc = w10.heap.size := ⟨_, rfl⟩
  rw [← hcc] at hC11 hlt5 HCW
  rw [← hcc]
  obtain ⟨hpc, hqc, hxc, hrc⟩ := hlt5
  have HRC := Lib.hid hrc
  clear hb11 hq11 hT10 hQ10 hX10 hB10 hcc hrc
  obtain ⟨z11, c11, f11⟩ := id hC11
  go_cut [47] (fun tt wx => tt = .bool (decide (k = 1 ∨ k = 2)) ∧ Tp wx w.heap.size tp (.slice tA N tc) (openL l) a4 ∧ Blk wx bq #[.bool b10] ∧ Blk wx cc #[.int .i64 n1, .int .i64 n2, .int .i64 n3, .int .i64 k, .int .i64 0, .int .i64 0, .int .i64 0, .int .i64 0] ∧ Blk wx x0 #[.int .i64 0, .int .i64 0, .int .i64 0, .int .i64 0, .int .i64 0, .int .i64 0, .int .i64 0, .int .i64 0] ∧ Below w.heap.size w wx)
  case first =>
    by_cases hk1 : k = 1
    · have e1 : (k == 1) = true := by simpa using hk1
      have HK1 := Lib.hid hk1
      clear hk1
      go_wp2
      go_meet
      exact ⟨by simp [HK1.out], hT11, hQ11, hC11, hX11, hB11⟩
    · have e1 : (k == 1) = false := by simpa using hk1
      have HK1 := Lib.hid hk1
      clear hk1
      by_cases hk2 : k = 2
      · have e2 : (k == 2) = true := by simpa using hk2
        have HK2 := Lib.hid hk2
        clear hk2
        go_wp2
        go_meet
        exact ⟨by simp [HK2.out], hT11, hQ11, hC11, hX11, hB11⟩
      · have e2 : (k == 2) = false := by simpa using hk2
        have HK2 := Lib.hid hk2
        clear hk2
        go_wp2
        go_meet
        exact ⟨by simp [HK1.out, HK2.out], hT11, hQ11, hC11, hX11, hB11⟩
  case rest =>
    clear hT11 hQ11 hC11 hX11 hB11 z11 c11 f11
    obtain ⟨rfl, hT12, hQ12, hC12, hX12, hB12⟩ := hcut
    obtain ⟨b12, hbb⟩ : ∃ b : Bool, b = b10 := ⟨_, rfl⟩
    rw [← hbb] at hQ12
    have HB12 : Hid (b12 = true ↔ (((False ∨ e1 ≠ 0) ∨ e2 ≠ 0) ∨ e3 ≠ 0) ∨ e4 ≠ 0) := Lib.hid (by rw [hbb, HB10.out, HB8.out, HB6.out, HB4.out, HB2.out])
    clear HB10 HB8 HB6 HB4 HB2 hbb
    obtain ⟨w12, hw12⟩ : ∃ w12, w12 = wc := ⟨_, rfl⟩
    rw [← hw12] at hT12 hQ12 hC12 hX12 hB12
    rw [← hw12]
    clear hw12
    obtain ⟨z12, c12, f12⟩ := id hC12
    go_upto_if 47 with fail
    go_cut [] (fun wx => ∃ (bad : Bool) (aa : Nat), Tp wx w.heap.size tp (.slice tA N tc) (openL l) aa ∧ Blk wx bq #[.bool bad] ∧ Blk wx cc #[.int .i64 n1, .int .i64 n2, .int .i64 n3, .int .i64 k, .int .i64 (cbr k n5), .int .i64 0, .int .i64 0, .int .i64 0] ∧ Blk wx x0 #[.int .i64 0, .int .i64 0, .int .i64 0, .int .i64 0, .int .i64 0, .int .i64 0, .int .i64 0, .int .i64 0] ∧ Below w.heap.size w wx ∧ (k = 1 → aa = a5) ∧ (bad = true ↔ ((((False ∨ e1 ≠ 0) ∨ e2 ≠ 0) ∨ e3 ≠ 0) ∨ e4 ≠ 0) ∨ ((k = 1 ∨ k = 2) ∧ e5 ≠ 0)))
    case first =>
      by_cases hk : k = 1 ∨ k = 2
      · have e1 : decide (k = 1 ∨ k = 2) = true := by simpa using hk
        have HK1 := Lib.hid hk
        clear hk
        go_wp2_with fail
        refine (tdet_of (tvar_c w.heap.size tp a4 (.slice tA N tc) (openL l) _ hT12) HPR.out.h5).mono ?_
        rintro e w13 ⟨rfl, hT13, hM13⟩
        have hQ13 := hQ12.mod hM13 (by omega)
        have hX13 := hX12.mod hM13 (by omega)
        have hC13 := hC12.mod hM13 (by omega)
        have hB13 := hB12.trans (mod_base hM13 hB12.size HPW.out)
        clear hT12 hM13 hQ12 hB12 hX12 hC12
        go_wp2_with fail
        refine (rnumA_c bq b12 n5 e5 _ hQ13).mono ?_
        rintro e w14 ⟨b14, rfl, hQ14, hM14, hb14⟩
        have hT14 := hT13.mod hM14 (by omega) (fun b hb e => HTQ.out (e ▸ hb))
        have hX14 := hX13.mod hM14 (by omega)
        have hC14 := hC13.mod hM14 (by omega)
        have hB14 := hB13.trans (mod_base hM14 hB13.size HQW.out)
        have HB14 := Lib.hid hb14
        clear hT13 hM14 hQ13 hB13 hb14 hX13 hC13
        obtain ⟨z14, c14, f14⟩ := id hC14
        have HTT := Lib.hid hT14
        go_wp2
        go_meet
        exact ⟨b14, a5, HTT.out.mod ((Mod.refl (fun b => b = cc) w14).set (.inl rfl)) (by omega) (fun b hb e => HRC.out (e ▸ hb)), Blk.far (by omega) hQ14, Blk.eqs (hC14.put (i := 4) (v := .int .i64 n5)) (by simp [cbr, HK1.out]), Blk.far (by omega) hX14, hB14.setCell HCW.out _, fun _ => rfl, by have h1 := HB14.out; rw [HB12.out] at h1; rw [h1]; constructor; exact fun h => h.elim .inl (fun h' => .inr ⟨HK1.out, h'⟩); exact fun h => h.elim .inl (fun h' => .inr h'.2)⟩
      · have e1 : decide (k = 1 ∨ k = 2) = false := by simpa using hk
        have HK1 := Lib.hid hk
        clear hk
        go_wp2
        go_meet
        exact ⟨b12, a4, hT12, hQ12, Blk.eqs hC12 (by simp [cbr, HK1.out]), hX12, hB12, fun h => absurd (.inl h) HK1.out, by rw [HB12.out]; constructor; exact fun h => .inl h; exact fun h => h.elim id (fun h' => absurd h'.1 HK1.out)⟩
    case rest =>
      clear hT12 hQ12 hC12 hX12 hB12 z12 c12 f12
      obtain ⟨b15, aa, hT15, hQ15, hC15, hX15, hB15, haa, hb15⟩ := hcut
      have HB15 := Lib.hid hb15
      have HAA := Lib.hid haa
      clear hb15 haa HB12
      obtain ⟨z15, c15, f15⟩ := id hC15
      go_upto_if 57 with fail
      go_cut [] (fun wx => ∃ (bad : Bool) (aa : Nat), Tp wx w.heap.size tp (.slice tA N tc) (openL l) aa ∧ Blk wx bq #[.bool bad] ∧ Blk wx cc #[.int .i64 n1, .int .i64 n2, .int .i64 n3, .int .i64 k, .int .i64 (cbr k n5), .int .i64 (cx k n6), .int .i64 (cx k n7), .int .i64 (cx k n8)] ∧ Blk wx x0 #[.int .i64 0, .int .i64 0, .int .i64 0, .int .i64 0, .int .i64 0, .int .i64 0, .int .i64 0, .int .i64 0] ∧ Below w.heap.size w wx ∧ (bad = true ↔ BadR e1 e2 e3 k e4 e5 e6 e7 e8))
      case first =>
        obtain ⟨w15, hw15⟩ : ∃ w15, w15 = wc := ⟨_, rfl⟩
        rw [← hw15] at hT15 hQ15 hC15 hX15 hB15 z15 c15 f15
        rw [← hw15]
        clear hw15
        by_cases hk1 : k = 1
        · have e1 : (k == 1) = true := by simpa using hk1
          obtain rfl := HAA.out hk1
          have HK1 := Lib.hid hk1
          clear hk1
          go_wp2_with fail
          refine (tdet_of (tint_c w.heap.size tp aa (.slice tA N tc) (openL l) _ hT15) HPR.out.h6).mono ?_
          rintro e w16 ⟨rfl, hT16, hM16⟩
          have hQ16 := hQ15.mod hM16 (by omega)
          have hX16 := hX15.mod hM16 (by omega)
          have hC16 := hC15.mod hM16 (by omega)
          have hB16 := hB15.trans (mod_base hM16 hB15.size HPW.out)
          clear hT15 hM16 hQ15 hB15 hX15 hC15
          go_wp2_with fail
          refine (rnumA_c bq b15 n6 e6 _ hQ16).mono ?_
          rintro e w17 ⟨b17, rfl, hQ17, hM17, hb17⟩
          have hT17 := hT16.mod hM17 (by omega) (fun b hb e => HTQ.out (e ▸ hb))
          have hX17 := hX16.mod hM17 (by omega)
          have hC17 := hC16.mod hM17 (by omega)
          have hB17 := hB16.trans (mod_base hM17 hB16.size HQW.out)
          have HB17 := Lib.hid hb17
          clear hT16 hM17 hQ16 hB16 hb17 hX16 hC16
          obtain ⟨z17, c17, f17⟩ := id hC17
          go_wp2_with fail
          refine calls_anew ?_
          intro w18 hb18
          have hs18 : Mod (fun b => b = cc) w17 w18 := Mod.below ((Mod.refl _ _).set (.inl rfl)) hb18
          have hT18 := hT17.mod hs18 (by omega) (fun b hb e => HRC.out (e ▸ hb))
          have hQ18 := hQ17.mod hs18 (by omega)
          have hX18 := hX17.mod hs18 (by omega)
          have hC18 := (hC17.put (i := 5) (v := .int .i64 n6)).below hb18
          have hB18 := hB17.trans (mod_base hs18 hB17.size HCW.out)
          have HB18 := HB17
          clear hb18 hs18 hT17 hQ17 hX17 hC17 hB17 z17 c17 f17 HB17
          obtain ⟨b18, hbe18⟩ : ∃ b : Bool, b = b17 := ⟨_, rfl⟩
          rw [← hbe18] at hQ18 HB18
          clear hbe18
          refine (tdet_of (tint_c w.heap.size tp a6 (.slice tA N tc) (openL l) _ hT18) HPR.out.h7).mono ?_
          rintro e w19 ⟨rfl, hT19, hM19⟩
          have hQ19 := hQ18.mod hM19 (by omega)
          have hX19 := hX18.mod hM19 (by omega)
          have hC19 := hC18.mod hM19 (by omega)
          have hB19 := hB18.trans (mod_base hM19 hB18.size HPW.out)
          clear hT18 hM19 hQ18 hB18 hX18 hC18
          go_wp2_with fail
          refine (rnumA_c bq b18 n7 e7 _ hQ19).mono ?_
          rintro e w20 ⟨b20, rfl, hQ20, hM20, hb20⟩
          have hT20 := hT19.mod hM20 (by omega) (fun b hb e => HTQ.out (e ▸ hb))
          have hX20 := hX19.mod hM20 (by omega)
          have hC20 := hC19.mod hM20 (by omega)
          have hB20 := hB19.trans (mod_base hM20 hB19.size HQW.out)
          have HB20 := Lib.hid hb20
          clear hT19 hM20 hQ19 hB19 hb20 hX19 hC19
          obtain ⟨z20, c20, f20⟩ := id hC20
          go_wp2_with fail
          refine calls_anew ?_
          intro w21 hb21
          have hs21 : Mod (fun b => b = cc) w20 w21 := Mod.below ((Mod.refl _ _).set (.inl rfl)) hb21
          have hT21 := hT20.mod hs21 (by omega) (fun b hb e => HRC.out (e ▸ hb))
          have hQ21 := hQ20.mod hs21 (by omega)
          have hX21 := hX20.mod hs21 (by omega)
          have hC21 := (hC20.put (i := 6) (v := .int .i64 n7)).below hb21
          have hB21 := hB20.trans (mod_base hs21 hB20.size HCW.out)
          have HB21 := HB20
          clear hb21 hs21 hT20 hQ20 hX20 hC20 hB20 z20 c20 f20 HB20
          obtain ⟨b21, hbe21⟩ : ∃ b : Bool, b = b20 := ⟨_, rfl⟩
          rw [← hbe21] at hQ21 HB21
          clear hbe21
          refine (tdet_of (tint_c w.heap.size tp a7 (.slice tA N tc) (openL l) _ hT21) HPR.out.h8).mono ?_
          rintro e w22 ⟨rfl, hT22, hM22⟩
          have hQ22 := hQ21.mod hM22 (by omega)
          have hX22 := hX21.mod hM22 (by omega)
          have hC22 := hC21.mod hM22 (by omega)
          have hB22 := hB21.trans (mod_base hM22 hB21.size HPW.out)
          clear hT21 hM22 hQ21 hB21 hX21 hC21
          go_wp2_with fail
          refine (rnumA_c bq b21 n8 e8 _ hQ22).mono ?_
          rintro e w23 ⟨b23, rfl, hQ23, hM23, hb23⟩
          have hT23 := hT22.mod hM23 (by omega) (fun b hb e => HTQ.out (e ▸ hb))
          have hX23 := hX22.mod hM23 (by omega)
          have hC23 := hC22.mod hM23 (by omega)
          have hB23 := hB22.trans (mod_base hM23 hB22.size HQW.out)
          have HB23 := Lib.hid hb23
          clear hT22 hM23 hQ22 hB22 hb23 hX22 hC22
          obtain ⟨z23, c23, f23⟩ := id hC23
          have HTT := Lib.hid hT23
          go_wp2
          go_meet
          refine ⟨b23, a8, HTT.out.mod ((Mod.refl (fun b => b = cc) w23).set (.inl rfl)) (by omega) (fun b hb e => HRC.out (e ▸ hb)), Blk.far (by omega) hQ23, Blk.eqs (hC23.put (i := 7) (v := .int .i64 n8)) (by simp [cx, HK1.out]), Blk.far (by omega) hX23, hB23.setCell HCW.out _, ?_⟩
          have h1 := HB23.out
          have h2 := HB21.out
          have h3 := HB18.out
          rw [HB15.out] at h3
          rw [h3] at h2
          rw [h2] at h1
          rw [h1]
          have hk := HK1.out
          clear h1 h2 h3
          unfold BadR
          simp only [hk, true_and]
          constructor
          · rintro ((((h | h) | h) | h) | h)
            · exact .inl h
            · exact .inr (.inl h)
            · exact .inr (.inr (.inl h))
            · exact .inr (.inr (.inr (.inl h)))
            · exact .inr (.inr (.inr (.inr h)))
          · rintro (h | h | h | h | h)
            · exact .inl (.inl (.inl (.inl h)))
            · exact .inl (.inl (.inl (.inr h)))
            · exact .inl (.inl (.inr h))
            · exact .inl (.inr h)
            · exact .inr h
        · have e1 : (k == 1) = false := by simpa using hk1
          have HK1 := Lib.hid hk1
          clear hk1
          go_wp2
          go_meet
          exact ⟨b15, aa, hT15, hQ15, Blk.eqs hC15 (by simp [cx, HK1.out]), hX15, hB15, by rw [HB15.out]; unfold BadR; constructor; exact fun h => h.elim .inl (fun h' => .inr (.inl h')); exact fun h => h.elim .inl (fun h' => h'.elim .inr (fun h'' => absurd h''.1 HK1.out))⟩
      case rest =>
        clear hT15 hQ15 hC15 hX15 hB15 z15 c15 f15
        obtain ⟨b25, a25, hT25, hQ25, hC25, hX25, hB25, hb25⟩ := hcut
        have HB25 := Lib.hid hb25
        clear hb25 HB15 HAA hT25
        obtain ⟨z25, c25, f25⟩ := id hC25
        cases b25 with
        | true =>
          have HNG : Hid (¬ Good l n1 e1 n2 e2 n3 e3 k e4 n5 e5 n6 e6 n7 e7 n8 e8) := Lib.hid (rnot_good (HB25.out.1 (by trivial)))
          go_wp2_with fail
          refine (rask_any n1 n2 n3 k (cbr k n5) (cx k n6) (cx k n7) (cx k n8) _).mono ?_
          rintro e w26 ⟨v26, e26, rfl, hb26⟩
          have hQ26 := hQ25.below hb26
          have hX26 := hX25.below hb26
          have hB26 := hB25.trans (hb26.mono hB25.size)
          have kq : w26.cell? ⟨bq, 0, none⟩ = some (.bool true) := hQ26.cell 0
          obtain ⟨zx, cx0, fx⟩ := id hX26
          clear hb26 hQ25 hX25 hB25 hC25 z25 c25 f25
          go_wp2
          exact bodyPost_ret (v := .tuple #[.agg #[.int .i64 0, .int .i64 0, .int .i64 0, .int .i64 0, .int .i64 0, .int .i64 0, .int .i64 0, .int .i64 0], .int .i64 3]) (by simp [results, Tryd.results55, go_sem, *]) rfl (.inr ⟨HNG.out, rfl, (by repeat (with_reducible (first | assumption | (refine ext_setCell ?_ (HXW.out) _))))⟩)
        | false =>
          have HNB : Hid (¬ BadR e1 e2 e3 k e4 e5 e6 e7 e8) := Lib.hid (fun h => by have := HB25.out.2 h; cases this)
          by_cases hk2 : k ≤ 2
          · have HK2 := Lib.hid hk2
            have HCB : Hid (cbr k n5 = cb k n5) := Lib.hid (cbr_cb n5 HK.out.1 hk2)
            clear hk2
            by_cases hA : AskOk n1 n2 n3 k (cb k n5) (cx k n6) (cx k n7) (cx k n8)
            · have HA := Lib.hid hA
              clear hA
              rw [HCB.out] at hC25 c25
              go_wp2_with fail
              refine (rask_c n1 n2 n3 k (cb k n5) (cx k n6) (cx k n7) (cx k n8) _ HK.out.1 HK2.out).mono ?_
              rintro e w26 (⟨_, A', c', rfl, hBs, hb26⟩ | ⟨hno, _⟩)
              rotate_left
              · exact absurd HA.out hno
              obtain ⟨PL, hPL⟩ : ∃ PL, PL = pack (askL n1 n2 n3 k (cb k n5) (cx k n6) (cx k n7) (cx k n8)) := ⟨_, rfl⟩
              have hP8 : ∀ x ∈ PL, x < 256 := by rw [hPL]; exact pack_lt (askL_bin _ _ _ _ _ _ _ _)
              rw [← hPL] at hBs
              rw [← hPL]
              have HPL := Lib.hid hPL
              have HP8 := Lib.hid hP8
              have hC26 := hC25.below hb26
              have hQ26 := hQ25.below hb26
              have hX26 := hX25.below hb26
              have hB26 := hB25.trans (hb26.mono hB25.size)
              have kq : w26.cell? ⟨bq, 0, none⟩ = some (.bool false) := hQ26.cell 0
              have hc1 := conv_rdb (Rdb.of_row hBs)
              have hc2 := conv_rdb (Rdb.of_src (HSR.out _ hB26))
              obtain ⟨zx, cx0, fx⟩ := id hX26
              obtain ⟨z26, c26, f26⟩ := id hC26
              clear hPL hP8 hQ25 hX25 hC25 hB25 z25 c25 f25 hb26 hBs
              by_cases heq : PL = l
              · have HGO : Hid (Good l n1 e1 n2 e2 n3 e3 k e4 n5 e5 n6 e6 n7 e7 n8 e8) := Lib.hid (rgood_of HNB.out HK2.out HK.out.1 HA.out (by rw [← HPL.out]; exact heq))
                subst heq
                go_wp2
                exact bodyPost_ret (v := .tuple #[.agg #[.int .i64 n1, .int .i64 n2, .int .i64 n3, .int .i64 k, .int .i64 (cb k n5), .int .i64 (cx k n6), .int .i64 (cx k n7), .int .i64 (cx k n8)], .int .i64 0]) (by simp [results, Tryd.results55, go_sem, *]) rfl (.inl ⟨HGO.out, rfl, (by repeat (with_reducible (first | assumption | (refine ext_setCell ?_ (HXW.out) _))))⟩)
              · have HNG : Hid (¬ Good l n1 e1 n2 e2 n3 e3 k e4 n5 e5 n6 e6 n7 e7 n8 e8) := Lib.hid (fun h => heq (by rw [HPL.out]; exact h.2.2.2))
                have hne : ((strB PL).toList == (strB l).toList) = false := bne_str (fun h => heq (strB_inj HP8.out H8.out h))
                clear heq
                go_wp2
                exact bodyPost_ret (v := .tuple #[.agg #[.int .i64 0, .int .i64 0, .int .i64 0, .int .i64 0, .int .i64 0, .int .i64 0, .int .i64 0, .int .i64 0], .int .i64 3]) (by simp [results, Tryd.results55, go_sem, *]) rfl (.inr ⟨HNG.out, rfl, (by repeat (with_reducible (first | assumption | (refine ext_setCell ?_ (HXW.out) _))))⟩)
            · have HNG : Hid (¬ Good l n1 e1 n2 e2 n3 e3 k e4 n5 e5 n6 e6 n7 e7 n8 e8) := Lib.hid (fun h => hA h.2.2.1)
              have HA := Lib.hid hA
              clear hA
              rw [HCB.out] at hC25 c25
              go_wp2_with fail
              refine (rask_c n1 n2 n3 k (cb k n5) (cx k n6) (cx k n7) (cx k n8) _ HK.out.1 HK2.out).mono ?_
              rintro e w26 (⟨hyes, _⟩ | ⟨_, rfl, hb26⟩)
              · exact absurd hyes HA.out
              have hQ26 := hQ25.below hb26
              have hX26 := hX25.below hb26
              have hB26 := hB25.trans (hb26.mono hB25.size)
              have kq : w26.cell? ⟨bq, 0, none⟩ = some (.bool false) := hQ26.cell 0
              obtain ⟨zx, cx0, fx⟩ := id hX26
              clear hb26 hQ25 hX25 hB25 hC25 z25 c25 f25
              go_wp2
              exact bodyPost_ret (v := .tuple #[.agg #[.int .i64 0, .int .i64 0, .int .i64 0, .int .i64 0, .int .i64 0, .int .i64 0, .int .i64 0, .int .i64 0], .int .i64 3]) (by simp [results, Tryd.results55, go_sem, *]) rfl (.inr ⟨HNG.out, rfl, (by repeat (with_reducible (first | assumption | (refine ext_setCell ?_ (HXW.out) _))))⟩)
          · have HNG : Hid (¬ Good l n1 e1 n2 e2 n3 e3 k e4 n5 e5 n6 e6 n7 e7 n8 e8) := Lib.hid (fun h => hk2 h.2.1)
            have HK3 : Hid (k < 0 ∨ 2 < k) := Lib.hid (by omega)
            clear hk2
            go_wp2_with fail
            refine (rask_kind n1 n2 n3 k (cbr k n5) (cx k n6) (cx k n7) (cx k n8) _ HK3.out).mono ?_
            rintro e w26 ⟨rfl, hb26⟩
            have hQ26 := hQ25.below hb26
            have hX26 := hX25.below hb26
            have hB26 := hB25.trans (hb26.mono hB25.size)
            have kq : w26.cell? ⟨bq, 0, none⟩ = some (.bool false) := hQ26.cell 0
            obtain ⟨zx, cx0, fx⟩ := id hX26
            clear hb26 hQ25 hX25 hB25 hC25 z25 c25 f25
            go_wp2
            exact bodyPost_ret (v := .tuple #[.agg #[.int .i64 0, .int .i64 0, .int .i64 0, .int .i64 0, .int .i64 0, .int .i64 0, .int .i64 0, .int .i64 0], .int .i64 3]) (by simp [results, Tryd.results55, go_sem, *]) rfl (.inr ⟨HNG.out, rfl, (by repeat (with_reducible (first | assumption | (refine ext_setCell ?_ (HXW.out) _))))⟩)

end Go.Proofs.YtnkinnfpebploaaDoor
