/- WorldBounds, walked: nobody leaves the world. Conditions: none. -/
import Derived.Test.YtniahipadfgkbaaGreatKV4
namespace Go.Proofs.YtniahipadfgkbaaGreat
open Go Go.Maps Go.RowKit Go.BigFrame Go.ChangeShapes Go.WideShapes Go.ChangeAt
/-- who has no mass keeps its speed, but where the world ends -/
theorem step_still {c : Cf} {M : Nat → Nat → Int} {n a : Nat} (ha : a < n) (hok : RowOk M a) (hm : M a 15 ≤ 0) (e1 : clamp 65536000 (add (M a 6) (M a 9)) = add (M a 6) (M a 9)) (e2 : clamp 65536000 (add (M a 7) (M a 10)) = add (M a 7) (M a 10)) (e3 : clamp 65536000 (add (M a 8) (M a 11)) = add (M a 8) (M a 11)) :
    stepM c M n a 9 = M a 9 ∧ stepM c M n a 10 = M a 10 ∧ stepM c M n a 11 = M a 11 := by
  have g : ∀ q, gravF c M n a q = M a q := fun q => if_neg (by omega)
  have hm' : gravF c M n a 15 ≤ 0 := by rw [g]; exact hm
  have s : ∀ q, speedsF (gravF c M n) (touchS M n) n (touchL M n).length c.bo c.ru c.ro a q = M a q := fun q => (speedsF_row (gravF_ok hok).speed (.inl hm') q).trans (g q)
  obtain ⟨N, hN⟩ : ∃ N, N = speedsF (gravF c M n) (touchS M n) n (touchL M n).length c.bo c.ru c.ro := ⟨_, rfl⟩
  rw [← hN] at s
  have hst : ∀ q, q = 9 ∨ q = 10 ∨ q = 11 → stepM c M n a q = moveF N n a q := fun q hq => by
    unfold stepM stepT
    rw [← hN]
    exact placesF_col a (by omega) _
  refine ⟨?_, ?_, ?_⟩
  · rw [hst 9 (by omega)]
    have : moveF N n a 9 = stopD (add (N a 6) (N a 9)) (clamp 65536000 (add (N a 6) (N a 9))) (N a 9) := by simp [moveF, ha]
    rw [this, s, s, e1]
    exact if_neg (fun h => h rfl)
  · rw [hst 10 (by omega)]
    have : moveF N n a 10 = stopD (add (N a 7) (N a 10)) (clamp 65536000 (add (N a 7) (N a 10))) (N a 10) := by simp [moveF, ha]
    rw [this, s, s, e2]
    exact if_neg (fun h => h rfl)
  · rw [hst 11 (by omega)]
    have : moveF N n a 11 = stopD (add (N a 8) (N a 11)) (clamp 65536000 (add (N a 8) (N a 11))) (N a 11) := by simp [moveF, ha]
    rw [this, s, s, e3]
    exact if_neg (fun h => h rfl)
/-- the rows may be, and are whose they were -/
structure BI (L : Nat → Nat → Int) (m : Nat) (M : Nat → Nat → Int) : Prop where
  ok : ∀ a, a < m → RowOk M a
  col : ∀ a q, (q < 6 ∨ 11 < q) → M a q = fillM L m a q
theorem BI.step {L M : Nat → Nat → Int} {m : Nat} {c : Cf} (h : BI L m M) (hr : RightL c.bo c.ru c.ro) : BI L m (stepM c M m) :=
  ⟨fun a ha => stepT_ok hr ha (h.ok a ha), fun a q hq => (stepT_col c M _ m _ a hq).trans (h.col a q hq)⟩
theorem BI.at0 {L M : Nat → Nat → Int} {m a : Nat} (h : BI L m M) (ha : a < m) : M a 0 = (a : Int) + 1 := by
  rw [h.col a 0 (by omega)]
  unfold fillM
  rw [if_pos ha, if_pos rfl]
theorem BI.at1 {L M : Nat → Nat → Int} {m a q : Nat} (h : BI L m M) (ha : a < m) (hq : q < 6 ∨ 11 < q) (h0 : q ≠ 0) : M a q = L a q := by
  rw [h.col a q hq]
  unfold fillM
  rw [if_pos ha, if_neg h0]
theorem fill_BI {L : Nat → Nat → Int} {m : Nat} (hok : ∀ a, a < m → BodyOk (L a)) : BI L m (fillM L m) := by
  refine ⟨fun a ha => ?_, fun a q _ => rfl⟩
  have e : ∀ q, q ≠ 0 → fillM L m a q = L a q := fun q hq => by unfold fillM; rw [if_pos ha, if_neg hq]
  exact ⟨by rw [e 2 (by decide), e 3 (by decide), e 4 (by decide), e 5 (by decide)]; exact (hok a ha).shape, by unfold Bd; rw [e 6 (by decide), e 7 (by decide), e 8 (by decide)]; exact (hok a ha).at_, by unfold Bd; rw [e 9 (by decide), e 10 (by decide), e 11 (by decide)]; exact (hok a ha).speed⟩
theorem run_equalIn_shape (d : Nat) (k x y z : Int) (w : World) : (Op.equalIn (d + 3) 35 (.agg #[.int .i64 k, .int .i64 x, .int .i64 y, .int .i64 z]) (.agg #[.int .i64 k, .int .i64 x, .int .i64 y, .int .i64 z])).run Tryz.prog w = .ok true w := by
  rw [run_equalIn_struct w (d + 2) _ _ _ (by kernel_rfl) (by kernel_rfl)]
  simp only [Program.fieldsOf, Tryz.underlying35]
  simp only [Op.eqFields]
  have hv := run_equalIn_vec d x y z x y z w
  have he : eq3 x y z x y z = true := by simp [eq3]
  rw [he] at hv
  simp [go_sem, Tryz.underlying3]
theorem run_neq_shape (k x y z : Int) (w : World) : (binOp .neq 35 (.agg #[.int .i64 k, .int .i64 x, .int .i64 y, .int .i64 z]) (.agg #[.int .i64 k, .int .i64 x, .int .i64 y, .int .i64 z])).run Tryz.prog w = .ok (.bool false) w := by
  rw [run_neq_struct, run_equalIn_shape 9997]
  rfl
/-- the world between two steps -/
def BoundI (w3 wr : World) (b : Nat) (c : Cf) (L : Nat → Nat → Int) (m j : Nat) : Prop := Below w3.heap.size w3 wr ∧ ∃ M p S, WM wr b c m M ((m : Int) + 1) (j : Int) p S ∧ p ≤ 60 + 60 * j ∧ (∀ x, S x → w3.heap.size ≤ x) ∧ BI L m M
set_option maxRecDepth 100000 in
set_option maxHeartbeats 16000000 in
theorem worldBounds_w (A0 : Option Addr) (n0 c0 : Nat) (M0 : Nat → Nat → Int) (f1 f2 f3 a2 a3 a4 a5 : Int) (w : World) (hn0 : n0 ≤ maxLen) (hR0 : Reads w A0 n0 17 M0) (_hM0 : ∀ i j, -9223372036854775808 ≤ M0 i j ∧ M0 i j ≤ 9223372036854775807) :
    Calls Tryz.prog 3 #[.slice A0 n0 c0, .agg #[.int .i64 f1, .int .i64 f2, .int .i64 f3], .int .i64 a2, .int .i64 a3, .int .i64 a4, .int .i64 a5] w fun e w' => e = .returned (.bool true) ∧ Below w.heap.size w w' := by
  have HR0 := Lib.hid hR0
  have HN0 := Lib.hid hn0
  obtain ⟨bo, hbo⟩ : ∃ x : Int, x = pickP a2 65537 := ⟨_, rfl⟩
  obtain ⟨ru, hru⟩ : ∃ x : Int, x = pickP a3 65537 := ⟨_, rfl⟩
  obtain ⟨ro, hro⟩ : ∃ x : Int, x = 1 + pickP a4 6 := ⟨_, rfl⟩
  have HLW : Hid (∀ w, Calls Tryz.prog 8 #[.int .i64 a2, .int .i64 a3, .int .i64 a4] w fun e w' => e = .returned (.agg #[.int .i64 bo, .int .i64 ru, .int .i64 ro]) ∧ Below w.heap.size w w') := Lib.hid (fun w => by rw [hbo, hru, hro]; exact law_c a2 a3 a4 w)
  have HRL : Hid (RightL bo ru ro) := Lib.hid (by
    have k1 := pickP_lt a2 65537 (by decide)
    have k2 := pickP_lt a3 65537 (by decide)
    have k3 := pickP_lt a4 6 (by decide)
    unfold RightL
    omega)
  obtain ⟨q5, hq5⟩ : ∃ x : Nat, x = pickP a5 20 := ⟨_, rfl⟩
  have HQ5 : Hid (q5 < 20 ∧ (pickP a5 20 : Int) = q5) := Lib.hid (by have := pickP_lt a5 20 (by decide); omega)
  have hwq : wrap64 (1 + (q5 : Int)) = 1 + (q5 : Int) := by have := HQ5.out.1; unfold wrap64; omega
  clear hR0 hn0 hbo hru hro hq5 _hM0
  have hmc := more_cell
  have hml := more_lt
  go_enter Tryz.func3, Tryz.ntmps3
  go_upto_region 1 with fail
  refine wp_named ?_
  rintro w1 hw1
  have HX1 : Hid (Blk w1 w.heap.size #[.int .i64 f1, .int .i64 f2, .int .i64 f3]) := Lib.hid (by rw [hw1]; exact (by repeat (with_reducible (first | assumption | (apply Blk.at; simp; done) | apply Blk.alloc | apply Blk.drew | apply Blk.drewN | apply Blk.more | apply Blk.put | (apply Blk.far; focus (first | assumption | (apply Ne.symm; assumption) | (simp; done) | (simp <;> omega)))))))
  have HV1 : Hid (Below w.heap.size w w1) := Lib.hid (by rw [hw1]; exact (by repeat (with_reducible (first | exact Below.refl _ _ | assumption | apply ext_drew | apply ext_drewN | apply ext_alloc | apply ext_more | (refine ext_setCell ?_ (by first | assumption | (simp <;> omega)) _) | (refine ext_below ?_ (by assumption))))))
  clear hw1
  go_wp2_with fail
  refine (moved_c w1).mono ?_
  rintro e w2 ⟨rfl, hb2⟩
  have HX2 := Lib.hid (HX1.out.below hb2)
  have HV2 := Lib.hid (HV1.out.trans (hb2.mono HV1.out.size))
  clear hb2
  go_wp2_with fail
  refine (some_c M0 A0 n0 c0 w2 (HR0.out.below HV2.out) HN0.out).mono ?_
  rintro e w3 ⟨AL, m, cl, rfl, hm20, hb3, L, hRL, hok⟩
  have HM20 := Lib.hid hm20
  have HX3 := Lib.hid (HX2.out.below hb3)
  have HV3 := Lib.hid (HV2.out.trans (hb3.mono HV2.out.size))
  have HRL3 := Lib.hid hRL
  have HOK := Lib.hid hok
  clear hm20 hb3 hRL hok
  have hS0 : Blk w3.drew w.heap.size #[.int .i64 f1, .int .i64 f2, .int .i64 f3] := HX3.out.drew
  go_upto_region 4 with fail
  refine region_held_tail (fun w' => Blk w' w.heap.size #[.int .i64 f1, .int .i64 f2, .int .i64 f3]) 7 (by kernel_rfl) (by kernel_rfl) hS0 (fun hHeld => ?_)
  clear hS0
  simp only [List.take_succ_cons, List.take_zero]
  refine wpAnyH_take (i := 0) (v := .slice AL m cl) rfl (by kernel_rfl) (by kernel_rfl) (by kernel_rfl) (fun _ _ _ h => h) (Or.inl ⟨by kernel_rfl, ?ys_0⟩) hHeld ?rs_0
  case ys_0 =>
    intro w hSw
    go_simp
    try with_reducible rfl
  try simp only [Act.put, List.getElem_toArray, List.getElem_cons_zero, List.setIfInBounds_toArray, List.set_cons_zero, List.set_cons_succ]
  refine wpAnyH_take (i := 1) (v := .agg #[.int .i64 f1, .int .i64 f2, .int .i64 f3]) rfl (by kernel_rfl) (by kernel_rfl) (by kernel_rfl) (fun _ _ _ h => h) (Or.inl ⟨by kernel_rfl, ?ys_1⟩) hHeld ?rs_1
  case ys_1 =>
    intro w hSw
    obtain ⟨zs, cs, fs⟩ := hSw
    go_simp
    try with_reducible rfl
  try simp only [Act.put, List.getElem_toArray, List.getElem_cons_zero, List.getElem_cons_succ, List.setIfInBounds_toArray, List.set_cons_zero, List.set_cons_succ]
  refine wpAnyH_take (i := 2) (v := .int .i64 a2) rfl (by kernel_rfl) (by kernel_rfl) (by kernel_rfl) (fun _ _ _ h => h) (Or.inl ⟨by kernel_rfl, ?ys_2⟩) hHeld ?rs_2
  case ys_2 =>
    intro w hSw
    go_simp
    try with_reducible rfl
  try simp only [Act.put, List.getElem_toArray, List.getElem_cons_zero, List.getElem_cons_succ, List.setIfInBounds_toArray, List.set_cons_zero, List.set_cons_succ]
  refine wpAnyH_take (i := 3) (v := .int .i64 a3) rfl (by kernel_rfl) (by kernel_rfl) (by kernel_rfl) (fun _ _ _ h => h) (Or.inl ⟨by kernel_rfl, ?ys_3⟩) hHeld ?rs_3
  case ys_3 =>
    intro w hSw
    go_simp
    try with_reducible rfl
  try simp only [Act.put, List.getElem_toArray, List.getElem_cons_zero, List.getElem_cons_succ, List.setIfInBounds_toArray, List.set_cons_zero, List.set_cons_succ]
  refine wpAnyH_take (i := 4) (v := .int .i64 a4) rfl (by kernel_rfl) (by kernel_rfl) (by kernel_rfl) (fun _ _ _ h => h) (Or.inl ⟨by kernel_rfl, ?ys_4⟩) hHeld ?rs_4
  case ys_4 =>
    intro w hSw
    go_simp
    try with_reducible rfl
  try simp only [Act.put, List.getElem_toArray, List.getElem_cons_zero, List.getElem_cons_succ, List.setIfInBounds_toArray, List.set_cons_zero, List.set_cons_succ]
  refine wpAnyH_ready (rs := [5]) (by kernel_rfl) (by simp) ?_
  refine AllReadyH.cons (o := _) rfl (fun K hK => ?_) AllReadyH.nil
  go_simp
  refine (HLW.out _).mono ?_
  rintro e w4 ⟨rfl, hb4⟩
  try dsimp only
  refine hK.out _ _ (hHeld.below hb4) (fun hHeld => ?_)
  clear hK K
  try simp only [Act.put, List.getElem_toArray, List.getElem_cons_zero, List.getElem_cons_succ, List.setIfInBounds_toArray, List.set_cons_zero, List.set_cons_succ]
  have HV4 : Hid (Below w3.heap.size w3 w4) := Lib.hid ((Below.refl _ _).drew.trans hb4)
  clear hb4
  refine wpAnyH_ready (rs := [6]) (by kernel_rfl) (by simp) ?_
  refine AllReadyH.cons (o := _) rfl (fun K hK => ?_) AllReadyH.nil
  go_simp
  refine (filled_c L AL m cl f1 f2 f3 bo ru ro w4 (HRL3.out.below HV4.out).own.reads (by have := HM20.out; omega) HOK.out HRL.out).mono ?_
  rintro e w5 ⟨b, S, rfl, hb5, hW5, hS5⟩
  try dsimp only
  refine hK.out _ _ (hHeld.below hb5) (fun hHeld => ?_)
  clear hK K
  try simp only [Act.put, List.getElem_toArray, List.getElem_cons_zero, List.getElem_cons_succ, List.setIfInBounds_toArray, List.set_cons_zero, List.set_cons_succ]
  obtain ⟨c, hc⟩ : ∃ c : Cf, c = ⟨clamp 6553600 f1, clamp 6553600 f2, clamp 6553600 f3, bo, ru, ro, 60⟩ := ⟨_, rfl⟩
  have HRC : Hid (RightL c.bo c.ru c.ro) := Lib.hid (by rw [hc]; exact HRL.out)
  rw [← hc] at hW5
  have HV5 : Hid (Below w3.heap.size w3 w5) := Lib.hid (HV4.out.trans (hb5.mono HV4.out.size))
  have HI5 : Hid (BoundI w3 w5 b c L m 0) := Lib.hid ⟨HV5.out, fillM L m, m, S, hW5, by have := HM20.out; omega, fun x h => Nat.le_trans HV4.out.size (hS5 x h), fill_BI HOK.out⟩
  refine wpAnyH_done (by kernel_rfl) ?_ _
  clear hHeld hb5 hW5 hS5 hc
  simp only [TailQ, List.drop_succ_cons, List.drop_zero]
  go_wp2
  go_loopg [15] (q5 + 1) (fun k v15 wr => ∃ j : Nat, v15 = .int .i64 (j : Int) ∧ j ≤ q5 + 1 ∧ k = q5 + 1 - j ∧ BoundI w3 wr b c L m j)
  case atStart => exact ⟨0, rfl, Nat.zero_le _, rfl, HI5.out⟩
  case round =>
    obtain ⟨j, rfl, hj, hk, hB, M, p, S, hWM, hp, hS, hBI⟩ := hrel
    have HB := Lib.hid hB
    have HWM := Lib.hid hWM
    have HPS := Lib.hid (And.intro hp hS)
    have HBI := Lib.hid hBI
    have HK := Lib.hid hk
    have HJ : Hid (j ≤ 20) := Lib.hid (by have := HQ5.out.1; omega)
    clear hB hWM hp hS hBI hk
    by_cases hl : j < q5 + 1
    · have d0 : decide ((j : Int) < 1 + (q5 : Int)) = true := decide_eq_true (by omega)
      have hw1 : wrap64 ((j : Int) + 1) = (j : Int) + 1 := by have := HJ.out; unfold wrap64; omega
      go_upto_region 10 with (go_at_call 9; refine (pick_v a5 20 20 q5 _ rfl (by decide) (by decide) HQ5.out.2).mono ?_; rintro e w6 ⟨rfl, rfl⟩)
      go_wp2_with fail
      refine (bodiesW_c _ b c m M _ _ p S HWM.out).mono ?_
      rintro e w6 ⟨A6, C6, rfl, hR6, hb6⟩
      have HR6 := Lib.hid hR6
      have HV6 := Lib.hid (HB.out.trans (hb6.mono HB.out.size))
      have HW6 := Lib.hid (HWM.out.below hb6)
      have HL6 : Hid (∀ x, S x → x < wr.heap.size) := Lib.hid (by obtain ⟨_, _, _, _, _, h⟩ := HWM.out; exact h.lt)
      clear hR6 hb6
      go_wp2_with fail
      refine (step_c w6 b c m M _ _ p S HW6.out (by have := HPS.out.1; have := HJ.out; omega) ⟨by omega, by have := HJ.out; omega⟩).mono ?_
      rintro e w7 ⟨rfl, hm7, S7, hW7, hS7⟩
      have HR7 := Lib.hid (HR6.out.mod hm7 fun g e h => by have := at_len HR6.out e; have := HL6.out g h; omega)
      have HV7 : Hid (Below w3.heap.size w3 w7) := Lib.hid (HV6.out.trans (hm7.toBelow HV6.out.size fun x hx h => by have := HPS.out.2 x h; omega))
      have HN7 : Hid (BoundI w3 w7 b c L m (j + 1)) := Lib.hid ⟨HV7.out, stepM c M m, p + m, S7, by rw [Int.natCast_add]; exact hW7, by have := HPS.out.1; have := HM20.out; omega, fun x h => (hS7 x h).elim (HPS.out.2 x) fun h => Nat.le_trans HV6.out.size h, HBI.out.step HRC.out⟩
      have HW7 := Lib.hid hW7
      clear hm7 hW7 hS7
      go_wp2_with fail
      refine (bodiesW_c w7 b c m (stepM c M m) _ _ (p + m) S7 HW7.out).mono ?_
      rintro e w8 ⟨A8, C8, rfl, hR8, hb8⟩
      have HR8 := Lib.hid hR8
      have HRw := Lib.hid (HR7.out.below hb8)
      have HV8 := Lib.hid (HV7.out.trans (hb8.mono HV7.out.size))
      have HN8 : Hid (BoundI w3 w8 b c L m (j + 1)) := Lib.hid (by
        obtain ⟨_, M', p', S', h1, h2, h3, h4⟩ := HN7.out
        exact ⟨HV8.out, M', p', S', h1.below hb8, h2, h3, h4⟩)
      have HN : Hid (BI L m (stepM c M m)) := Lib.hid (HBI.out.step HRC.out)
      have HST : Hid (∀ a, a < m → L a 15 = 0 → clamp 65536000 (add (M a 6) (M a 9)) = add (M a 6) (M a 9) → clamp 65536000 (add (M a 7) (M a 10)) = add (M a 7) (M a 10) → clamp 65536000 (add (M a 8) (M a 11)) = add (M a 8) (M a 11) → stepM c M m a 9 = M a 9 ∧ stepM c M m a 10 = M a 10 ∧ stepM c M m a 11 = M a 11) := Lib.hid (fun a ha h0 => step_still ha (HBI.out.ok a ha) (by rw [HBI.out.at1 ha (by omega) (by decide), h0]; decide))
      obtain ⟨N, hN⟩ : ∃ N, N = stepM c M m := ⟨_, rfl⟩
      rw [← hN] at HR8 HN HST
      clear hR8 hb8 hN HR6 HR7
      go_wp2
      go_loopg [18] m (fun k v18 wx => ∃ i : Nat, v18 = .int .i64 (i : Int) ∧ i ≤ m ∧ k = m - i ∧ Below w8.heap.size w8 wx)
      case atStart => exact ⟨0, rfl, Nat.zero_le _, rfl, Below.refl _ _⟩
      case round =>
        obtain ⟨i, rfl, hi, hki, hbx⟩ := hrel
        have HBX := Lib.hid hbx
        have HKI := Lib.hid hki
        clear hbx hki
        by_cases hil : i < m
        · have d1 : decide ((i : Int) < (m : Int)) = true := decide_eq_true (by omega)
          have hwi : wrap64 ((i : Int) + 1) = (i : Int) + 1 := by have := HM20.out; unfold wrap64; omega
          have HIL := Lib.hid hil
          obtain ⟨g8, e8, _, hT8⟩ := (HR8.out.below HBX.out).own (by omega)
          subst e8
          have HRG : Hid (wr.rangeAt g8 (i * 17) (rowL17 N i)) := Lib.hid (by
            have h := reads_range (oo := 0) (Below.refl wr.heap.size wr) hT8.lt (fun k hk q hq => by rw [Nat.zero_add]; exact hT8.cell hk hq) hil
            rwa [Nat.zero_add] at h)
          clear hT8
          go_upto_region 19 with (first | (refine wpList_load_mid rfl 37 (.tmp 66) rfl g8 (i * 17) rfl (rowL17 N i) _ HRG.out Tryz.underlying37 rfl bodyInfoW ?_) | (refine at_store_blk (b := wr.heap.size) (c' := (rowL17 N i).toArray) rfl 37 (.tmp 19) (.tmp 67) rfl rfl rfl (Blk.at _ _ _ _ rfl) rfl bodyInfoW (rowL17_one N i) ?_; intro w9 hp9 hm9))
          have HV9 : Hid (Below wr.heap.size wr w9) := Lib.hid ((below_alloc _ _).trans (hm9.toBelow (by simp) (fun x h1 (h2 : x = wr.heap.size) => by omega)))
          have HX9 : Hid (Blk w9 wr.heap.size #[.int .i64 ((i : Int) + 1), .int .i64 (L i 1), .int .i64 (L i 2), .int .i64 (L i 3), .int .i64 (L i 4), .int .i64 (L i 5), .int .i64 (N i 6), .int .i64 (N i 7), .int .i64 (N i 8), .int .i64 (N i 9), .int .i64 (N i 10), .int .i64 (N i 11), .int .i64 (L i 12), .int .i64 (L i 13), .int .i64 (L i 14), .int .i64 (L i 15), .int .i64 (L i 16)]) := Lib.hid (by
            have h : Blk w9 wr.heap.size #[.int .i64 (N i 0), .int .i64 (N i 1), .int .i64 (N i 2), .int .i64 (N i 3), .int .i64 (N i 4), .int .i64 (N i 5), .int .i64 (N i 6), .int .i64 (N i 7), .int .i64 (N i 8), .int .i64 (N i 9), .int .i64 (N i 10), .int .i64 (N i 11), .int .i64 (N i 12), .int .i64 (N i 13), .int .i64 (N i 14), .int .i64 (N i 15), .int .i64 (N i 16)] := hp9
            rw [HN.out.at0 HIL.out, HN.out.at1 HIL.out (q := 1) (by omega) (by decide), HN.out.at1 HIL.out (q := 2) (by omega) (by decide), HN.out.at1 HIL.out (q := 3) (by omega) (by decide), HN.out.at1 HIL.out (q := 4) (by omega) (by decide), HN.out.at1 HIL.out (q := 5) (by omega) (by decide), HN.out.at1 HIL.out (q := 12) (by omega) (by decide), HN.out.at1 HIL.out (q := 13) (by omega) (by decide), HN.out.at1 HIL.out (q := 14) (by omega) (by decide), HN.out.at1 HIL.out (q := 15) (by omega) (by decide), HN.out.at1 HIL.out (q := 16) (by omega) (by decide)] at h
            exact h)
          have HW9 : Hid (Below w8.heap.size w8 w9) := Lib.hid (HBX.out.trans (HV9.out.mono HBX.out.size))
          clear hp9 hm9
          obtain ⟨zp, cp, fp⟩ := id HX9.out
          obtain ⟨gl, el, _, hTl⟩ := (((HRL3.out.below HV8.out)).below HW9.out).own (by omega)
          subst el
          obtain ⟨gw, ew, _, hTw⟩ := (HRw.out.below HW9.out).own (by omega)
          subst ew
          have hgl := hTl.lt
          have hgw := hTw.lt
          have l1 : w9.cell? ⟨gl, i * 17 + 1, none⟩ = some (.int .i64 (L i 1)) := hTl.cell HIL.out (j := 1) (by decide)
          have l2 : w9.cell? ⟨gl, i * 17 + 2, none⟩ = some (.int .i64 (L i 2)) := hTl.cell HIL.out (j := 2) (by decide)
          have l3 : w9.cell? ⟨gl, i * 17 + 2 + 1, none⟩ = some (.int .i64 (L i 3)) := hTl.cell HIL.out (j := 3) (by decide)
          have l4 : w9.cell? ⟨gl, i * 17 + 2 + 2, none⟩ = some (.int .i64 (L i 4)) := hTl.cell HIL.out (j := 4) (by decide)
          have l5 : w9.cell? ⟨gl, i * 17 + 2 + 3, none⟩ = some (.int .i64 (L i 5)) := hTl.cell HIL.out (j := 5) (by decide)
          have m6 : w9.cell? ⟨gw, i * 17 + 6, none⟩ = some (.int .i64 (M i 6)) := hTw.cell HIL.out (j := 6) (by decide)
          have m7 : w9.cell? ⟨gw, i * 17 + 6 + 1, none⟩ = some (.int .i64 (M i 7)) := hTw.cell HIL.out (j := 7) (by decide)
          have m8 : w9.cell? ⟨gw, i * 17 + 6 + 2, none⟩ = some (.int .i64 (M i 8)) := hTw.cell HIL.out (j := 8) (by decide)
          have m9 : w9.cell? ⟨gw, i * 17 + 9, none⟩ = some (.int .i64 (M i 9)) := hTw.cell HIL.out (j := 9) (by decide)
          have m10 : w9.cell? ⟨gw, i * 17 + 9 + 1, none⟩ = some (.int .i64 (M i 10)) := hTw.cell HIL.out (j := 10) (by decide)
          have m11 : w9.cell? ⟨gw, i * 17 + 9 + 2, none⟩ = some (.int .i64 (M i 11)) := hTw.cell HIL.out (j := 11) (by decide)
          clear hTl hTw
          have HCA : Hid (∀ w, Calls Tryz.prog 12 #[.agg #[.int .i64 (N i 6), .int .i64 (N i 7), .int .i64 (N i 8)], .int .i64 65536000] w fun e w' => e = .returned (.agg #[.int .i64 (N i 6), .int .i64 (N i 7), .int .i64 (N i 8)]) ∧ Below w.heap.size w w') := Lib.hid (fun w => by
            have h := clampP_c (N i 6) (N i 7) (N i 8) w
            have k := (HN.out.ok i HIL.out).at_
            rw [clamp_in9 (by decide) k.1, clamp_in9 (by decide) k.2.1, clamp_in9 (by decide) k.2.2] at h
            exact h)
          have HCS : Hid (∀ w, Calls Tryz.prog 12 #[.agg #[.int .i64 (N i 9), .int .i64 (N i 10), .int .i64 (N i 11)], .int .i64 6553600] w fun e w' => e = .returned (.agg #[.int .i64 (N i 9), .int .i64 (N i 10), .int .i64 (N i 11)]) ∧ Below w.heap.size w w') := Lib.hid (fun w => by
            have h := clampS_c (N i 9) (N i 10) (N i 11) w
            have k := (HN.out.ok i HIL.out).speed
            rw [clamp_in9 (by decide) k.1, clamp_in9 (by decide) k.2.1, clamp_in9 (by decide) k.2.2] at h
            exact h)
          have hneq : ∀ (x1 x2 x3 : Int) w, (binOp .neq 24 (.agg #[.int .i64 x1, .int .i64 x2, .int .i64 x3]) (.agg #[.int .i64 x1, .int .i64 x2, .int .i64 x3])).run Tryz.prog w = .ok (.bool false) w := fun x1 x2 x3 w => by rw [run_neq_vec]; simp [eq3]
          have hnes := run_neq_shape
          try simp only [Act.put]
          refine region_quiet_all (by kernel_rfl) (by kernel_rfl) ?_
          repeat (go_big_quiet_step (first | (go_at_call 12; first | with_reducible exact calls_after (HCA.out _) | with_reducible exact calls_after (HCS.out _))))
          refine wpQuiet_nil ?_
          rintro w10 hw10
          have hb10 := after_below hw10
          have HV10 := Lib.hid (HW9.out.trans (hb10.mono HW9.out.size))
          have HX10 := Lib.hid (HX9.out.below hb10)
          clear hw10 hb10 zp cp fp l1 l2 l3 l4 l5 m6 m7 m8 m9 m10 m11 hgl hgw
          obtain ⟨zp, cp, fp⟩ := id HX10.out
          obtain ⟨gw', ew, _, hTw⟩ := (HRw.out.below HV10.out).own (by omega)
          cases ew
          have hgw := hTw.lt
          have m6 : w10.cell? ⟨gw, i * 17 + 6, none⟩ = some (.int .i64 (M i 6)) := hTw.cell HIL.out (j := 6) (by decide)
          have m7 : w10.cell? ⟨gw, i * 17 + 6 + 1, none⟩ = some (.int .i64 (M i 7)) := hTw.cell HIL.out (j := 7) (by decide)
          have m8 : w10.cell? ⟨gw, i * 17 + 6 + 2, none⟩ = some (.int .i64 (M i 8)) := hTw.cell HIL.out (j := 8) (by decide)
          have m9 : w10.cell? ⟨gw, i * 17 + 9, none⟩ = some (.int .i64 (M i 9)) := hTw.cell HIL.out (j := 9) (by decide)
          have m10 : w10.cell? ⟨gw, i * 17 + 9 + 1, none⟩ = some (.int .i64 (M i 10)) := hTw.cell HIL.out (j := 10) (by decide)
          have m11 : w10.cell? ⟨gw, i * 17 + 9 + 2, none⟩ = some (.int .i64 (M i 11)) := hTw.cell HIL.out (j := 11) (by decide)
          clear hTw hnes
          by_cases hm0 : L i 15 = 0
          · have c1 : (L i 15 == 0) = true := by simpa using hm0
            by_cases hsp : N i 9 = M i 9 ∧ N i 10 = M i 10 ∧ N i 11 = M i 11
            · rw [← hsp.1] at m9
              rw [← hsp.2.1] at m10
              rw [← hsp.2.2] at m11
              clear hm0 hsp
              go_upto_region 21 with fail
              refine region_quiet_all (by kernel_rfl) (by kernel_rfl) ?_
              repeat (go_big_quiet_step (fail))
              refine wpQuiet_nil ?_
              rintro w11 hw11
              have HV11 := Lib.hid (HV10.out.trans ((after_below hw11).mono HV10.out.size))
              clear hw11
              go_wp2
              go_roundg (m - (i + 1))
              case measure => have := HKI.out; omega
              case rel => exact ⟨i + 1, by first | (simp; done) | (simp; exact hwi) | rfl, by omega, rfl, HV11.out⟩
            · have hne3 : eq3 (N i 9) (N i 10) (N i 11) (M i 9) (M i 10) (M i 11) = false := by
                rw [Bool.eq_false_iff]
                intro h
                simp only [eq3, Bool.and_eq_true, beq_iff_eq] at h
                exact hsp ⟨h.1.1, h.1.2, h.2⟩
              have hne4 : eq3 (clamp 65536000 (add (M i 6) (M i 9))) (clamp 65536000 (add (M i 7) (M i 10))) (clamp 65536000 (add (M i 8) (M i 11))) (add (M i 6) (M i 9)) (add (M i 7) (M i 10)) (add (M i 8) (M i 11)) = false := by
                rw [Bool.eq_false_iff]
                intro h
                simp only [eq3, Bool.and_eq_true, beq_iff_eq] at h
                exact hsp (HST.out i HIL.out hm0 h.1.1 h.1.2 h.2)
              have r1 : ∀ w, (binOp .neq 24 (.agg #[.int .i64 (N i 9), .int .i64 (N i 10), .int .i64 (N i 11)]) (.agg #[.int .i64 (M i 9), .int .i64 (M i 10), .int .i64 (M i 11)])).run Tryz.prog w = .ok (.bool true) w := fun w => by rw [run_neq_vec, hne3]; rfl
              have r2 : ∀ w, (binOp .eql 24 (.agg #[.int .i64 (clamp 65536000 (add (M i 6) (M i 9))), .int .i64 (clamp 65536000 (add (M i 7) (M i 10))), .int .i64 (clamp 65536000 (add (M i 8) (M i 11)))]) (.agg #[.int .i64 (add (M i 6) (M i 9)), .int .i64 (add (M i 7) (M i 10)), .int .i64 (add (M i 8) (M i 11))])).run Tryz.prog w = .ok (.bool false) w := fun w => by rw [run_eql_struct, run_equalIn_vec 9998, hne4]; rfl
              clear hm0 hsp hne3 hne4 hneq
              go_upto_region 21 with fail
              refine region_quiet_all (by kernel_rfl) (by kernel_rfl) ?_
              repeat (go_big_quiet_step (first | (go_at_call 13; exact calls_after (plus_c _ _ _ _ _ _ _)) | (go_at_call 12; exact calls_after (clampP_c _ _ _ _))))
              refine wpQuiet_nil ?_
              rintro w11 hw11
              have HV11 := Lib.hid (HV10.out.trans ((after_below hw11).mono HV10.out.size))
              clear hw11
              go_wp2
              go_roundg (m - (i + 1))
              case measure => have := HKI.out; omega
              case rel => exact ⟨i + 1, by first | (simp; done) | (simp; exact hwi) | rfl, by omega, rfl, HV11.out⟩
          · have c1 : (L i 15 == 0) = false := by simpa using hm0
            clear hm0
            go_upto_region 21 with fail
            refine region_quiet_all (by kernel_rfl) (by kernel_rfl) ?_
            repeat (go_big_quiet_step (fail))
            refine wpQuiet_nil ?_
            rintro w11 hw11
            have HV11 := Lib.hid (HV10.out.trans ((after_below hw11).mono HV10.out.size))
            clear hw11
            go_wp2
            go_roundg (m - (i + 1))
            case measure => have := HKI.out; omega
            case rel => exact ⟨i + 1, by first | (simp; done) | (simp; exact hwi) | rfl, by omega, rfl, HV11.out⟩
        · have d1 : decide ((i : Int) < (m : Int)) = false := decide_eq_false (by omega)
          have ei : i = m := by omega
          clear ei
          go_wp2
          go_roundg (q5 + 1 - (j + 1))
          case measure => have := HK.out; omega
          case rel => exact ⟨j + 1, by first | (simp; done) | (simp; exact hw1) | rfl, by omega, rfl, by
            obtain ⟨h0, M', p', S', h1, h2, h3, h4⟩ := HN8.out
            exact ⟨h0.trans (HBX.out.mono h0.size), M', p', S', h1.below HBX.out, h2, h3, h4⟩⟩
    · have d0 : decide ((j : Int) < 1 + (q5 : Int)) = false := decide_eq_false (by omega)
      go_wp2_with (go_at_call 9; refine (pick_v a5 20 20 q5 _ rfl (by decide) (by decide) HQ5.out.2).mono ?_; rintro e w6 ⟨rfl, rfl⟩)
      go_ret
      exact ⟨rfl, HV3.out.trans (HB.out.mono HV3.out.size)⟩
end Go.Proofs.YtniahipadfgkbaaGreat
