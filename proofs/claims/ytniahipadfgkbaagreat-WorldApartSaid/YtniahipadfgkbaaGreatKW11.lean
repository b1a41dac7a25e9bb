/- WorldApart, walked: who does not touch does not matter. Conditions: none. -/
import Derived.Test.YtniahipadfgkbaaGreatKW10
namespace Go.Proofs.YtniahipadfgkbaaGreat
open Go Go.Maps Go.RowKit Go.BigFrame Go.ChangeShapes Go.WideShapes Go.ChangeAt
set_option maxRecDepth 100000 in
set_option maxHeartbeats 16000000 in
theorem worldApart_w (A0 : Option Addr) (n0 c0 : Nat) (M0 : Nat → Nat → Int) (A1 : Option Addr) (n1 c1 : Nat) (M1 : Nat → Nat → Int) (f1 f2 f3 a2 a3 a4 a5 : Int) (w : World) (hn0 : n0 ≤ maxLen) (hR0 : Reads w A0 n0 17 M0) (_hM0 : ∀ i j, -9223372036854775808 ≤ M0 i j ∧ M0 i j ≤ 9223372036854775807) (hn1 : n1 ≤ maxLen) (hR1 : Reads w A1 n1 17 M1) (_hM1 : ∀ i j, -9223372036854775808 ≤ M1 i j ∧ M1 i j ≤ 9223372036854775807) :
    Calls Tryz.prog 4 #[.slice A0 n0 c0, .slice A1 n1 c1, .agg #[.int .i64 f1, .int .i64 f2, .int .i64 f3], .int .i64 a2, .int .i64 a3, .int .i64 a4, .int .i64 a5] w fun e w' => e = .returned (.bool true) ∧ Below w.heap.size w w' := by
  have HR0 := Lib.hid hR0
  have HN0 := Lib.hid hn0
  have HR1 := Lib.hid hR1
  have HN1 := Lib.hid hn1
  obtain ⟨bo, hbo⟩ : ∃ x : Int, x = pickP a2 65537 := ⟨_, rfl⟩
  obtain ⟨ru, hru⟩ : ∃ x : Int, x = pickP a3 65537 := ⟨_, rfl⟩
  obtain ⟨ro, hro⟩ : ∃ x : Int, x = 1 + pickP a4 6 := ⟨_, rfl⟩
  have HLW : Hid (∀ w, Calls Tryz.prog 8 #[.int .i64 a2, .int .i64 a3, .int .i64 a4] w fun e w' => e = .returned (.agg #[.int .i64 bo, .int .i64 ru, .int .i64 ro]) ∧ Below w.heap.size w w') := Lib.hid (fun w => by rw [hbo, hru, hro]; exact law_c a2 a3 a4 w)
  have HRLW : Hid (RightL bo ru ro) := Lib.hid (by
    have k1 := pickP_lt a2 65537 (by decide)
    have k2 := pickP_lt a3 65537 (by decide)
    have k3 := pickP_lt a4 6 (by decide)
    unfold RightL
    omega)
  obtain ⟨q5, hq5⟩ : ∃ x : Nat, x = pickP a5 15 := ⟨_, rfl⟩
  have HQ5 : Hid (q5 < 15 ∧ (pickP a5 15 : Int) = q5) := Lib.hid (by have := pickP_lt a5 15 (by decide); omega)
  have hwq : wrap64 (1 + (q5 : Int)) = 1 + (q5 : Int) := by have := HQ5.out.1; unfold wrap64; omega
  clear hR0 hn0 hR1 hn1 hbo hru hro hq5 _hM0 _hM1
  have hmc := more_cell
  have hml := more_lt
  go_enter Tryz.func4, Tryz.ntmps4
  go_upto_region 1 with fail
  refine wp_named ?_
  rintro w1 hw1
  have HX1 : Hid (Blk w1 w.heap.size #[.int .i64 f1, .int .i64 f2, .int .i64 f3]) := Lib.hid (by rw [hw1]; exact (by repeat (with_reducible (first | assumption | (apply Blk.at; simp; done) | apply Blk.alloc | apply Blk.drew | apply Blk.drewN | apply Blk.more | apply Blk.put | (apply Blk.far; focus (first | assumption | (apply Ne.symm; assumption) | (simp; done) | (simp <;> omega)))))))
  have HV1 : Hid (Below w.heap.size w w1) := Lib.hid (by rw [hw1]; exact (by repeat (with_reducible (first | exact Below.refl _ _ | assumption | apply ext_drew | apply ext_drewN | apply ext_alloc | apply ext_more | (refine ext_setCell ?_ (by first | assumption | (simp <;> omega)) _) | (refine ext_below ?_ (by assumption))))))
  clear hw1
  go_wp2_with fail
  refine (moved_c w1).mono ?_
  rintro e w2 ⟨rfl, hb2⟩
  have HX2 := Lib.hid (HX1.out.below hb2)
  have HV2 := Lib.hid (HV1.out.trans (hb2.mono HV1.out.size))
  clear hb2
  go_wp2_with fail
  refine (some_c M0 A0 n0 c0 w2 (HR0.out.below HV2.out) HN0.out).mono ?_
  rintro e w3 ⟨AL, m1, cl, rfl, hm20, hb3, L, hRL, hok⟩
  have HM20 := Lib.hid hm20
  have HX3 := Lib.hid (HX2.out.below hb3)
  have HV3 := Lib.hid (HV2.out.trans (hb3.mono HV2.out.size))
  have HRL3 := Lib.hid hRL
  have HOK := Lib.hid hok
  clear hm20 hb3 hRL hok
  go_wp2_with fail
  refine (some_c M1 A1 n1 c1 w3 (HR1.out.below HV3.out) HN1.out).mono ?_
  rintro e w4 ⟨AM, m2, cm, rfl, hm21, hb4, Mr, hRM, hokm⟩
  have HM21 := Lib.hid hm21
  have HX4 := Lib.hid (HX3.out.below hb4)
  have HVS4 := Lib.hid (HV3.out.trans (hb4.mono HV3.out.size))
  have HRL := Lib.hid (HRL3.out.below hb4)
  have HRM := Lib.hid hRM
  have HOKM := Lib.hid hokm
  clear hm21 hb4 hRM hokm
  have hS0 : Blk w4.drew w.heap.size #[.int .i64 f1, .int .i64 f2, .int .i64 f3] := HX4.out.drew
  have HXL : Hid (w.heap.size < w4.heap.size) := Lib.hid HX4.out.lt
  have hm12 : Hid (m1 + m2 ≤ 40) := Lib.hid (by have := HM20.out; have := HM21.out; omega)
  go_upto_region 4 with fail
  go_cut [17, 18] from 31 to 49 (fun v17 v18 wx => ∃ bx by_, v17 = .pointer (some ⟨bx, 0, none⟩) ∧ v18 = .pointer (some ⟨by_, 0, none⟩) ∧ ApartI w4 wx bx by_ ⟨clamp 6553600 f1, clamp 6553600 f2, clamp 6553600 f3, bo, ru, ro, 60⟩ m1 (m1 + m2) 0)
  case first =>
    refine region_held_tail (fun w' => Blk w' w.heap.size #[.int .i64 f1, .int .i64 f2, .int .i64 f3]) 18 (by kernel_rfl) (by kernel_rfl) hS0 (fun hHeld => ?_)
    clear hS0
    simp only [List.take_succ_cons, List.take_zero]
    refine wpAnyH_take (i := 0) (v := .slice AL m1 cl) rfl (by kernel_rfl) (by kernel_rfl) (by kernel_rfl) (fun _ _ _ h => h) (Or.inl ⟨by kernel_rfl, ?ys_0⟩) hHeld ?rs_0
    case ys_0 =>
      intro w hSw
      go_simp
      try with_reducible rfl
    try simp only [Act.put, List.getElem_toArray, List.getElem_cons_zero, List.setIfInBounds_toArray, List.set_cons_zero, List.set_cons_succ]
    refine wpAnyH_take (i := 1) (v := .agg #[.int .i64 f1, .int .i64 f2, .int .i64 f3]) rfl (by kernel_rfl) (by kernel_rfl) (by kernel_rfl) (fun _ _ _ h => h) (Or.inl ⟨by kernel_rfl, ?ys_1⟩) hHeld ?rs_1
    case ys_1 =>
      intro w hSw
      obtain ⟨zs, cs, fs⟩ := hSw
      go_simp
      try with_reducible rfl
    try simp only [Act.put, List.getElem_toArray, List.getElem_cons_zero, List.getElem_cons_succ, List.setIfInBounds_toArray, List.set_cons_zero, List.set_cons_succ]
    refine wpAnyH_take (i := 2) (v := .int .i64 a2) rfl (by kernel_rfl) (by kernel_rfl) (by kernel_rfl) (fun _ _ _ h => h) (Or.inl ⟨by kernel_rfl, ?ys_2⟩) hHeld ?rs_2
    case ys_2 =>
      intro w hSw
      go_simp
      try with_reducible rfl
    try simp only [Act.put, List.getElem_toArray, List.getElem_cons_zero, List.getElem_cons_succ, List.setIfInBounds_toArray, List.set_cons_zero, List.set_cons_succ]
    refine wpAnyH_take (i := 3) (v := .int .i64 a3) rfl (by kernel_rfl) (by kernel_rfl) (by kernel_rfl) (fun _ _ _ h => h) (Or.inl ⟨by kernel_rfl, ?ys_3⟩) hHeld ?rs_3
    case ys_3 =>
      intro w hSw
      go_simp
      try with_reducible rfl
    try simp only [Act.put, List.getElem_toArray, List.getElem_cons_zero, List.getElem_cons_succ, List.setIfInBounds_toArray, List.set_cons_zero, List.set_cons_succ]
    refine wpAnyH_take (i := 4) (v := .int .i64 a4) rfl (by kernel_rfl) (by kernel_rfl) (by kernel_rfl) (fun _ _ _ h => h) (Or.inl ⟨by kernel_rfl, ?ys_4⟩) hHeld ?rs_4
    case ys_4 =>
      intro w hSw
      go_simp
      try with_reducible rfl
    try simp only [Act.put, List.getElem_toArray, List.getElem_cons_zero, List.getElem_cons_succ, List.setIfInBounds_toArray, List.set_cons_zero, List.set_cons_succ]
    refine wpAnyH_take (i := 8) (v := .slice AL m1 cl) rfl (by kernel_rfl) (by kernel_rfl) (by kernel_rfl) (fun _ _ _ h => h) (Or.inl ⟨by kernel_rfl, ?ys_8⟩) hHeld ?rs_8
    case ys_8 =>
      intro w hSw
      go_simp
      try with_reducible rfl
    try simp only [Act.put, List.getElem_toArray, List.getElem_cons_zero, List.getElem_cons_succ, List.setIfInBounds_toArray, List.set_cons_zero, List.set_cons_succ]
    refine wpAnyH_take (i := 10) (v := .slice AM m2 cm) rfl (by kernel_rfl) (by kernel_rfl) (by kernel_rfl) (fun _ _ _ h => h) (Or.inl ⟨by kernel_rfl, ?ys_10⟩) hHeld ?rs_10
    case ys_10 =>
      intro w hSw
      go_simp
      try with_reducible rfl
    try simp only [Act.put, List.getElem_toArray, List.getElem_cons_zero, List.getElem_cons_succ, List.setIfInBounds_toArray, List.set_cons_zero, List.set_cons_succ]
    refine wpAnyH_take (i := 12) (v := .agg #[.int .i64 f1, .int .i64 f2, .int .i64 f3]) rfl (by kernel_rfl) (by kernel_rfl) (by kernel_rfl) (fun _ _ _ h => h) (Or.inl ⟨by kernel_rfl, ?ys_12⟩) hHeld ?rs_12
    case ys_12 =>
      intro w hSw
      obtain ⟨zs, cs, fs⟩ := hSw
      go_simp
      try with_reducible rfl
    try simp only [Act.put, List.getElem_toArray, List.getElem_cons_zero, List.getElem_cons_succ, List.setIfInBounds_toArray, List.set_cons_zero, List.set_cons_succ]
    refine wpAnyH_take (i := 13) (v := .int .i64 a2) rfl (by kernel_rfl) (by kernel_rfl) (by kernel_rfl) (fun _ _ _ h => h) (Or.inl ⟨by kernel_rfl, ?ys_13⟩) hHeld ?rs_13
    case ys_13 =>
      intro w hSw
      go_simp
      try with_reducible rfl
    try simp only [Act.put, List.getElem_toArray, List.getElem_cons_zero, List.getElem_cons_succ, List.setIfInBounds_toArray, List.set_cons_zero, List.set_cons_succ]
    refine wpAnyH_take (i := 14) (v := .int .i64 a3) rfl (by kernel_rfl) (by kernel_rfl) (by kernel_rfl) (fun _ _ _ h => h) (Or.inl ⟨by kernel_rfl, ?ys_14⟩) hHeld ?rs_14
    case ys_14 =>
      intro w hSw
      go_simp
      try with_reducible rfl
    try simp only [Act.put, List.getElem_toArray, List.getElem_cons_zero, List.getElem_cons_succ, List.setIfInBounds_toArray, List.set_cons_zero, List.set_cons_succ]
    refine wpAnyH_take (i := 15) (v := .int .i64 a4) rfl (by kernel_rfl) (by kernel_rfl) (by kernel_rfl) (fun _ _ _ h => h) (Or.inl ⟨by kernel_rfl, ?ys_15⟩) hHeld ?rs_15
    case ys_15 =>
      intro w hSw
      go_simp
      try with_reducible rfl
    try simp only [Act.put, List.getElem_toArray, List.getElem_cons_zero, List.getElem_cons_succ, List.setIfInBounds_toArray, List.set_cons_zero, List.set_cons_succ]
    have HVw4d : Hid (Below w4.heap.size w4 w4.drew) := Lib.hid (Below.refl _ _).drew
    refine wpAnyH_ready (rs := [5, 7]) (by kernel_rfl) (by simp) ?_
    refine AllReadyH.cons (o := _) rfl (fun K hK => ?_) (AllReadyH.cons (o := _) rfl (fun K hK => ?_) AllReadyH.nil)
    · go_simp
      refine (HLW.out _).mono ?_
      rintro e w5 ⟨rfl, hbl⟩
      try dsimp only
      refine hK.out _ _ (hHeld.below hbl) (fun hHeld => ?_)
      clear hK K
      try simp only [Act.put, List.getElem_toArray, List.getElem_cons_zero, List.getElem_cons_succ, List.setIfInBounds_toArray, List.set_cons_zero, List.set_cons_succ]
      have HVw5 : Hid (Below w4.heap.size w4 w5) := Lib.hid (HVw4d.out.trans (hbl.mono HVw4d.out.size))
      clear hbl
      refine wpAnyH_ready (rs := [6, 7]) (by kernel_rfl) (by simp) ?_
      refine AllReadyH.cons (o := _) rfl (fun K hK => ?_) (AllReadyH.cons (o := _) rfl (fun K hK => ?_) AllReadyH.nil)
      · go_simp
        refine (filled_c L AL m1 cl f1 f2 f3 bo ru ro w5 (HRL.out.below HVw5.out).own.reads (by have := HM20.out; omega) HOK.out HRLW.out).mono ?_
        rintro e w6 ⟨bx, Sx, rfl, hbl, hWx, hSx⟩
        try dsimp only
        refine hK.out _ _ (hHeld.below hbl) (fun hHeld => ?_)
        clear hK K
        try simp only [Act.put, List.getElem_toArray, List.getElem_cons_zero, List.getElem_cons_succ, List.setIfInBounds_toArray, List.set_cons_zero, List.set_cons_succ]
        have HVw6 : Hid (Below w4.heap.size w4 w6) := Lib.hid (HVw5.out.trans (hbl.mono HVw5.out.size))
        have HWx := Lib.hid hWx
        have HSx : Hid (∀ x, Sx x → w5.heap.size ≤ x) := Lib.hid hSx
        clear hbl hWx hSx
        refine wpAnyH_ready (rs := [7]) (by kernel_rfl) (by simp) ?_
        refine AllReadyH.cons (o := _) rfl (fun K hK => ?_) AllReadyH.nil
        go_simp
        try dsimp only
        refine hK.out _ _ (hHeld.below (ballocT _ _)) (fun hHeld => ?_)
        clear hK K
        try simp only [Act.put, List.getElem_toArray, List.getElem_cons_zero, List.getElem_cons_succ, List.setIfInBounds_toArray, List.set_cons_zero, List.set_cons_succ]
        refine any_freshT ?_ hHeld
        clear hHeld
        rintro wq hbf hHeld
        have HRe : Hid (RowQ 0 wq (some ⟨w6.heap.size, 0, none⟩) 0 0 (fun _ _ => 0)) := Lib.hid ((row_empty _ _).below hbf)
        have hvf : Below w6.heap.size w6 wq := (below_alloc w6 (.cells #[] 37)).trans (hbf.mono (by simp))
        have HVwq : Hid (Below w4.heap.size w4 wq) := Lib.hid (HVw6.out.trans (hvf.mono HVw6.out.size))
        have HSl6 : Hid (∀ x, Sx x → x < w6.heap.size) := Lib.hid (by obtain ⟨_, _, _, _, _, h⟩ := HWx.out; exact h.lt)
        have HWx := Lib.hid (HWx.out.below hvf)
        clear hbf hvf
        have HNe : Hid (¬ Sx w6.heap.size) := Lib.hid (fun h => by have h1 := HSl6.out _ h; omega)
        have HSx4 : Hid (∀ x, Sx x → w4.heap.size ≤ x) := Lib.hid (fun x h => Nat.le_trans HVw5.out.size (HSx.out x h))
        have HEe : Hid (w4.heap.size ≤ w6.heap.size) := Lib.hid HVw6.out.size
        refine wpAnyH_ready (rs := [9]) (by kernel_rfl) (by simp) ?_
        refine AllReadyH.cons (o := _) rfl (fun K hK => ?_) AllReadyH.nil
        refine step_rows rfl (.tmp 38) (.tmp 39) rfl (some ⟨w6.heap.size, 0, none⟩) 0 0 _ rfl HRe.out AL m1 cl L rfl (HRL.out.below HVwq.out).own.reads HRL.out.nil (by have := HM20.out; omega) ?_
        rintro A9 c9 w9 hR9 hM9 hg9
        have hne9 : ∀ z, (Value.slice (some ⟨w6.heap.size, 0, none⟩) 0 0).ownBlock = some z → z = w6.heap.size := fun z e => (Option.some.inj e).symm
        refine hK.out _ _ (hHeld.mod hM9 (fun e => by have h1 := hne9 _ e; have h2 := HXL.out; have h3 := HEe.out; omega)) (fun hHeld => ?_)
        clear hK K
        try simp only [Act.put, List.getElem_toArray, List.getElem_cons_zero, List.getElem_cons_succ, List.setIfInBounds_toArray, List.set_cons_zero, List.set_cons_succ]
        have HW9 := Lib.hid (HWx.out.mod hM9 fun x hx e => HNe.out (hne9 x e ▸ hx))
        have HV9 : Hid (Below w4.heap.size w4 w9) := Lib.hid (HVwq.out.trans (hM9.toBelow HVwq.out.size fun x hx e => by have h1 := hne9 _ e; have h3 := HEe.out; omega))
        have HSl9 : Hid (∀ x, Sx x → x < wq.heap.size) := Lib.hid (by obtain ⟨_, _, _, _, _, h⟩ := HWx.out; exact h.lt)
        have HA9 : Hid (∀ g, A9 = some ⟨g, 0, none⟩ → ¬ Sx g ∧ w4.heap.size ≤ g) := Lib.hid (fun g e => (hg9 g e).elim (fun h => by have h1 := hne9 _ h; subst h1; exact ⟨HNe.out, HEe.out⟩) fun h => ⟨fun hx => by have := HSl9.out g hx; omega, Nat.le_trans HVwq.out.size h⟩)
        obtain ⟨J1, hJ1⟩ : ∃ J1, J1 = joinR (fun _ _ => 0) 0 L := ⟨_, rfl⟩
        rw [← hJ1] at hR9
        rw [Nat.zero_add] at hR9
        simp only [Nat.zero_add]
        have HJ1 := Lib.hid hJ1
        have HR9 := Lib.hid hR9
        clear hR9 hM9 hg9 hne9 hJ1
        refine wpAnyH_ready (rs := [11]) (by kernel_rfl) (by simp) ?_
        refine AllReadyH.cons (o := _) rfl (fun K hK => ?_) AllReadyH.nil
        refine step_rows rfl (.tmp 40) (.tmp 41) rfl A9 m1 c9 J1 rfl HR9.out AM m2 cm Mr rfl (HRM.out.below HV9.out).own.reads HRM.out.nil (by have := HM20.out; have := HM21.out; omega) ?_
        rintro A11 c11 w11 hR11 hM11 hg11
        refine hK.out _ _ (hHeld.mod hM11 (fun e => by have h2 := HXL.out; have h3 := (HA9.out _ (ownBlock_at HR9.out e)).2; omega)) (fun hHeld => ?_)
        clear hK K
        try simp only [Act.put, List.getElem_toArray, List.getElem_cons_zero, List.getElem_cons_succ, List.setIfInBounds_toArray, List.set_cons_zero, List.set_cons_succ]
        have HW11 := Lib.hid (HW9.out.mod hM11 fun x hx e => (HA9.out x (ownBlock_at HR9.out e)).1 hx)
        have HV11 : Hid (Below w4.heap.size w4 w11) := Lib.hid (HV9.out.trans (hM11.toBelow HV9.out.size fun x hx e => by have h3 := (HA9.out _ (ownBlock_at HR9.out e)).2; omega))
        have HR11 := Lib.hid hR11
        clear hR11 hM11 hg11
        refine wpAnyH_ready (rs := [16]) (by kernel_rfl) (by simp) ?_
        refine AllReadyH.cons (o := _) rfl (fun K hK => ?_) AllReadyH.nil
        go_simp
        refine (HLW.out _).mono ?_
        rintro e w12 ⟨rfl, hbl⟩
        try dsimp only
        refine hK.out _ _ (hHeld.below hbl) (fun hHeld => ?_)
        clear hK K
        try simp only [Act.put, List.getElem_toArray, List.getElem_cons_zero, List.getElem_cons_succ, List.setIfInBounds_toArray, List.set_cons_zero, List.set_cons_succ]
        have HV12 : Hid (Below w4.heap.size w4 w12) := Lib.hid (HV11.out.trans (hbl.mono HV11.out.size))
        have HW12 := Lib.hid (HW11.out.below hbl)
        have HR12 := Lib.hid (HR11.out.below hbl)
        clear hbl
        refine wpAnyH_ready (rs := [17]) (by kernel_rfl) (by simp) ?_
        refine AllReadyH.cons (o := _) rfl (fun K hK => ?_) AllReadyH.nil
        go_simp
        refine (filled_c (joinR J1 m1 Mr) A11 (m1 + m2) c11 f1 f2 f3 bo ru ro w12 HR12.out.own.reads (by have := HM20.out; have := HM21.out; omega) (by rw [HJ1.out]; exact join_ok HOK.out HOKM.out) HRLW.out).mono ?_
        rintro e w13 ⟨by_, Sy, rfl, hbl, hWy, hSy⟩
        try dsimp only
        refine hK.out _ _ (hHeld.below hbl) (fun hHeld => ?_)
        clear hK K
        try simp only [Act.put, List.getElem_toArray, List.getElem_cons_zero, List.getElem_cons_succ, List.setIfInBounds_toArray, List.set_cons_zero, List.set_cons_succ]
        have HI13 : Hid (ApartI w4 w13 bx by_ ⟨clamp 6553600 f1, clamp 6553600 f2, clamp 6553600 f3, bo, ru, ro, 60⟩ m1 (m1 + m2) 0) := Lib.hid ⟨HV12.out.trans (hbl.mono HV12.out.size), fillM L m1, fillM (joinR J1 m1 Mr) (m1 + m2), m1, Sx, m1 + m2, Sy, HW12.out.below hbl, hWy, fun x h1 h2 => by
            have h3 : x < w12.heap.size := by obtain ⟨_, _, _, _, _, h⟩ := HW12.out; exact h.lt x h1
            have h4 := hSy x h2
            omega, HSx4.out, fun x h => Nat.le_trans HV12.out.size (hSy x h), by have := HM20.out; omega, by have := HM20.out; have := HM21.out; omega, by rw [HJ1.out]; exact fill_agr _ _ _ _ _, fun a ha => by unfold fillM; rw [if_pos ha, if_pos rfl]⟩
        refine wpAnyH_done (by kernel_rfl) ?_ _
        clear hHeld hbl hWy hSy
        simp only [TailQ, List.drop_succ_cons, List.drop_zero]
        go_wp2
        go_meet
        exact ⟨bx, by_, rfl, rfl, HI13.out⟩
      · go_simp
        try dsimp only
        refine hK.out _ _ (hHeld.below (ballocT _ _)) (fun hHeld => ?_)
        clear hK K
        try simp only [Act.put, List.getElem_toArray, List.getElem_cons_zero, List.getElem_cons_succ, List.setIfInBounds_toArray, List.set_cons_zero, List.set_cons_succ]
        refine any_freshT ?_ hHeld
        clear hHeld
        rintro w6 hbf hHeld
        have HRe : Hid (RowQ 0 w6 (some ⟨w5.heap.size, 0, none⟩) 0 0 (fun _ _ => 0)) := Lib.hid ((row_empty _ _).below hbf)
        have hvf : Below w5.heap.size w5 w6 := (below_alloc w5 (.cells #[] 37)).trans (hbf.mono (by simp))
        have HRe0 : Hid (w5.heap.size < w6.heap.size) := Lib.hid (HRe.out.lt rfl)
        have HVw6 : Hid (Below w4.heap.size w4 w6) := Lib.hid (HVw5.out.trans (hvf.mono HVw5.out.size))
        clear hbf hvf
        refine wpAnyH_ready (rs := [6]) (by kernel_rfl) (by simp) ?_
        refine AllReadyH.cons (o := _) rfl (fun K hK => ?_) AllReadyH.nil
        go_simp
        refine (filled_c L AL m1 cl f1 f2 f3 bo ru ro w6 (HRL.out.below HVw6.out).own.reads (by have := HM20.out; omega) HOK.out HRLW.out).mono ?_
        rintro e wq ⟨bx, Sx, rfl, hbl, hWx, hSx⟩
        try dsimp only
        refine hK.out _ _ (hHeld.below hbl) (fun hHeld => ?_)
        clear hK K
        try simp only [Act.put, List.getElem_toArray, List.getElem_cons_zero, List.getElem_cons_succ, List.setIfInBounds_toArray, List.set_cons_zero, List.set_cons_succ]
        have HVwq : Hid (Below w4.heap.size w4 wq) := Lib.hid (HVw6.out.trans (hbl.mono HVw6.out.size))
        have HWx := Lib.hid hWx
        have HSx : Hid (∀ x, Sx x → w6.heap.size ≤ x) := Lib.hid hSx
        have HRe := Lib.hid (HRe.out.below hbl)
        clear hbl hWx hSx
        have HNe : Hid (¬ Sx w5.heap.size) := Lib.hid (fun h => by have h1 := HSx.out _ h; have h2 := HRe0.out; omega)
        have HSx4 : Hid (∀ x, Sx x → w4.heap.size ≤ x) := Lib.hid (fun x h => Nat.le_trans HVw6.out.size (HSx.out x h))
        have HEe : Hid (w4.heap.size ≤ w5.heap.size) := Lib.hid HVw5.out.size
        refine wpAnyH_ready (rs := [9]) (by kernel_rfl) (by simp) ?_
        refine AllReadyH.cons (o := _) rfl (fun K hK => ?_) AllReadyH.nil
        refine step_rows rfl (.tmp 38) (.tmp 39) rfl (some ⟨w5.heap.size, 0, none⟩) 0 0 _ rfl HRe.out AL m1 cl L rfl (HRL.out.below HVwq.out).own.reads HRL.out.nil (by have := HM20.out; omega) ?_
        rintro A9 c9 w9 hR9 hM9 hg9
        have hne9 : ∀ z, (Value.slice (some ⟨w5.heap.size, 0, none⟩) 0 0).ownBlock = some z → z = w5.heap.size := fun z e => (Option.some.inj e).symm
        refine hK.out _ _ (hHeld.mod hM9 (fun e => by have h1 := hne9 _ e; have h2 := HXL.out; have h3 := HEe.out; omega)) (fun hHeld => ?_)
        clear hK K
        try simp only [Act.put, List.getElem_toArray, List.getElem_cons_zero, List.getElem_cons_succ, List.setIfInBounds_toArray, List.set_cons_zero, List.set_cons_succ]
        have HW9 := Lib.hid (HWx.out.mod hM9 fun x hx e => HNe.out (hne9 x e ▸ hx))
        have HV9 : Hid (Below w4.heap.size w4 w9) := Lib.hid (HVwq.out.trans (hM9.toBelow HVwq.out.size fun x hx e => by have h1 := hne9 _ e; have h3 := HEe.out; omega))
        have HSl9 : Hid (∀ x, Sx x → x < wq.heap.size) := Lib.hid (by obtain ⟨_, _, _, _, _, h⟩ := HWx.out; exact h.lt)
        have HA9 : Hid (∀ g, A9 = some ⟨g, 0, none⟩ → ¬ Sx g ∧ w4.heap.size ≤ g) := Lib.hid (fun g e => (hg9 g e).elim (fun h => by have h1 := hne9 _ h; subst h1; exact ⟨HNe.out, HEe.out⟩) fun h => ⟨fun hx => by have := HSl9.out g hx; omega, Nat.le_trans HVwq.out.size h⟩)
        obtain ⟨J1, hJ1⟩ : ∃ J1, J1 = joinR (fun _ _ => 0) 0 L := ⟨_, rfl⟩
        rw [← hJ1] at hR9
        rw [Nat.zero_add] at hR9
        simp only [Nat.zero_add]
        have HJ1 := Lib.hid hJ1
        have HR9 := Lib.hid hR9
        clear hR9 hM9 hg9 hne9 hJ1
        refine wpAnyH_ready (rs := [11]) (by kernel_rfl) (by simp) ?_
        refine AllReadyH.cons (o := _) rfl (fun K hK => ?_) AllReadyH.nil
        refine step_rows rfl (.tmp 40) (.tmp 41) rfl A9 m1 c9 J1 rfl HR9.out AM m2 cm Mr rfl (HRM.out.below HV9.out).own.reads HRM.out.nil (by have := HM20.out; have := HM21.out; omega) ?_
        rintro A11 c11 w11 hR11 hM11 hg11
        refine hK.out _ _ (hHeld.mod hM11 (fun e => by have h2 := HXL.out; have h3 := (HA9.out _ (ownBlock_at HR9.out e)).2; omega)) (fun hHeld => ?_)
        clear hK K
        try simp only [Act.put, List.getElem_toArray, List.getElem_cons_zero, List.getElem_cons_succ, List.setIfInBounds_toArray, List.set_cons_zero, List.set_cons_succ]
        have HW11 := Lib.hid (HW9.out.mod hM11 fun x hx e => (HA9.out x (ownBlock_at HR9.out e)).1 hx)
        have HV11 : Hid (Below w4.heap.size w4 w11) := Lib.hid (HV9.out.trans (hM11.toBelow HV9.out.size fun x hx e => by have h3 := (HA9.out _ (ownBlock_at HR9.out e)).2; omega))
        have HR11 := Lib.hid hR11
        clear hR11 hM11 hg11
        refine wpAnyH_ready (rs := [16]) (by kernel_rfl) (by simp) ?_
        refine AllReadyH.cons (o := _) rfl (fun K hK => ?_) AllReadyH.nil
        go_simp
        refine (HLW.out _).mono ?_
        rintro e w12 ⟨rfl, hbl⟩
        try dsimp only
        refine hK.out _ _ (hHeld.below hbl) (fun hHeld => ?_)
        clear hK K
        try simp only [Act.put, List.getElem_toArray, List.getElem_cons_zero, List.getElem_cons_succ, List.setIfInBounds_toArray, List.set_cons_zero, List.set_cons_succ]
        have HV12 : Hid (Below w4.heap.size w4 w12) := Lib.hid (HV11.out.trans (hbl.mono HV11.out.size))
        have HW12 := Lib.hid (HW11.out.below hbl)
        have HR12 := Lib.hid (HR11.out.below hbl)
        clear hbl
        refine wpAnyH_ready (rs := [17]) (by kernel_rfl) (by simp) ?_
        refine AllReadyH.cons (o := _) rfl (fun K hK => ?_) AllReadyH.nil
        go_simp
        refine (filled_c (joinR J1 m1 Mr) A11 (m1 + m2) c11 f1 f2 f3 bo ru ro w12 HR12.out.own.reads (by have := HM20.out; have := HM21.out; omega) (by rw [HJ1.out]; exact join_ok HOK.out HOKM.out) HRLW.out).mono ?_
        rintro e w13 ⟨by_, Sy, rfl, hbl, hWy, hSy⟩
        try dsimp only
        refine hK.out _ _ (hHeld.below hbl) (fun hHeld => ?_)
        clear hK K
        try simp only [Act.put, List.getElem_toArray, List.getElem_cons_zero, List.getElem_cons_succ, List.setIfInBounds_toArray, List.set_cons_zero, List.set_cons_succ]
        have HI13 : Hid (ApartI w4 w13 bx by_ ⟨clamp 6553600 f1, clamp 6553600 f2, clamp 6553600 f3, bo, ru, ro, 60⟩ m1 (m1 + m2) 0) := Lib.hid ⟨HV12.out.trans (hbl.mono HV12.out.size), fillM L m1, fillM (joinR J1 m1 Mr) (m1 + m2), m1, Sx, m1 + m2, Sy, HW12.out.below hbl, hWy, fun x h1 h2 => by
            have h3 : x < w12.heap.size := by obtain ⟨_, _, _, _, _, h⟩ := HW12.out; exact h.lt x h1
            have h4 := hSy x h2
            omega, HSx4.out, fun x h => Nat.le_trans HV12.out.size (hSy x h), by have := HM20.out; omega, by have := HM20.out; have := HM21.out; omega, by rw [HJ1.out]; exact fill_agr _ _ _ _ _, fun a ha => by unfold fillM; rw [if_pos ha, if_pos rfl]⟩
        refine wpAnyH_done (by kernel_rfl) ?_ _
        clear hHeld hbl hWy hSy
        simp only [TailQ, List.drop_succ_cons, List.drop_zero]
        go_wp2
        go_meet
        exact ⟨bx, by_, rfl, rfl, HI13.out⟩
    · go_simp
      try dsimp only
      refine hK.out _ _ (hHeld.below (ballocT _ _)) (fun hHeld => ?_)
      clear hK K
      try simp only [Act.put, List.getElem_toArray, List.getElem_cons_zero, List.getElem_cons_succ, List.setIfInBounds_toArray, List.set_cons_zero, List.set_cons_succ]
      refine any_freshT ?_ hHeld
      clear hHeld
      rintro w5 hbf hHeld
      have HRe : Hid (RowQ 0 w5 (some ⟨w4.drew.heap.size, 0, none⟩) 0 0 (fun _ _ => 0)) := Lib.hid ((row_empty _ _).below hbf)
      have hvf : Below w4.drew.heap.size w4.drew w5 := (below_alloc w4.drew (.cells #[] 37)).trans (hbf.mono (by simp))
      have HRe0 : Hid (w4.drew.heap.size < w5.heap.size) := Lib.hid (HRe.out.lt rfl)
      have HVw5 : Hid (Below w4.heap.size w4 w5) := Lib.hid (HVw4d.out.trans (hvf.mono HVw4d.out.size))
      clear hbf hvf
      refine wpAnyH_ready (rs := [5]) (by kernel_rfl) (by simp) ?_
      refine AllReadyH.cons (o := _) rfl (fun K hK => ?_) AllReadyH.nil
      go_simp
      refine (HLW.out _).mono ?_
      rintro e w6 ⟨rfl, hbl⟩
      try dsimp only
      refine hK.out _ _ (hHeld.below hbl) (fun hHeld => ?_)
      clear hK K
      try simp only [Act.put, List.getElem_toArray, List.getElem_cons_zero, List.getElem_cons_succ, List.setIfInBounds_toArray, List.set_cons_zero, List.set_cons_succ]
      have HRe0 := Lib.hid (Nat.lt_of_lt_of_le HRe0.out hbl.size)
      have HVw6 : Hid (Below w4.heap.size w4 w6) := Lib.hid (HVw5.out.trans (hbl.mono HVw5.out.size))
      have HRe := Lib.hid (HRe.out.below hbl)
      clear hbl
      refine wpAnyH_ready (rs := [6]) (by kernel_rfl) (by simp) ?_
      refine AllReadyH.cons (o := _) rfl (fun K hK => ?_) AllReadyH.nil
      go_simp
      refine (filled_c L AL m1 cl f1 f2 f3 bo ru ro w6 (HRL.out.below HVw6.out).own.reads (by have := HM20.out; omega) HOK.out HRLW.out).mono ?_
      rintro e wq ⟨bx, Sx, rfl, hbl, hWx, hSx⟩
      try dsimp only
      refine hK.out _ _ (hHeld.below hbl) (fun hHeld => ?_)
      clear hK K
      try simp only [Act.put, List.getElem_toArray, List.getElem_cons_zero, List.getElem_cons_succ, List.setIfInBounds_toArray, List.set_cons_zero, List.set_cons_succ]
      have HVwq : Hid (Below w4.heap.size w4 wq) := Lib.hid (HVw6.out.trans (hbl.mono HVw6.out.size))
      have HWx := Lib.hid hWx
      have HSx : Hid (∀ x, Sx x → w6.heap.size ≤ x) := Lib.hid hSx
      have HRe := Lib.hid (HRe.out.below hbl)
      clear hbl hWx hSx
      have HNe : Hid (¬ Sx w4.drew.heap.size) := Lib.hid (fun h => by have h1 := HSx.out _ h; have h2 := HRe0.out; omega)
      have HSx4 : Hid (∀ x, Sx x → w4.heap.size ≤ x) := Lib.hid (fun x h => Nat.le_trans HVw6.out.size (HSx.out x h))
      have HEe : Hid (w4.heap.size ≤ w4.drew.heap.size) := Lib.hid HVw4d.out.size
      refine wpAnyH_ready (rs := [9]) (by kernel_rfl) (by simp) ?_
      refine AllReadyH.cons (o := _) rfl (fun K hK => ?_) AllReadyH.nil
      refine step_rows rfl (.tmp 38) (.tmp 39) rfl (some ⟨w4.drew.heap.size, 0, none⟩) 0 0 _ rfl HRe.out AL m1 cl L rfl (HRL.out.below HVwq.out).own.reads HRL.out.nil (by have := HM20.out; omega) ?_
      rintro A9 c9 w9 hR9 hM9 hg9
      have hne9 : ∀ z, (Value.slice (some ⟨w4.drew.heap.size, 0, none⟩) 0 0).ownBlock = some z → z = w4.drew.heap.size := fun z e => (Option.some.inj e).symm
      refine hK.out _ _ (hHeld.mod hM9 (fun e => by have h1 := hne9 _ e; have h2 := HXL.out; have h3 := HEe.out; omega)) (fun hHeld => ?_)
      clear hK K
      try simp only [Act.put, List.getElem_toArray, List.getElem_cons_zero, List.getElem_cons_succ, List.setIfInBounds_toArray, List.set_cons_zero, List.set_cons_succ]
      have HW9 := Lib.hid (HWx.out.mod hM9 fun x hx e => HNe.out (hne9 x e ▸ hx))
      have HV9 : Hid (Below w4.heap.size w4 w9) := Lib.hid (HVwq.out.trans (hM9.toBelow HVwq.out.size fun x hx e => by have h1 := hne9 _ e; have h3 := HEe.out; omega))
      have HSl9 : Hid (∀ x, Sx x → x < wq.heap.size) := Lib.hid (by obtain ⟨_, _, _, _, _, h⟩ := HWx.out; exact h.lt)
      have HA9 : Hid (∀ g, A9 = some ⟨g, 0, none⟩ → ¬ Sx g ∧ w4.heap.size ≤ g) := Lib.hid (fun g e => (hg9 g e).elim (fun h => by have h1 := hne9 _ h; subst h1; exact ⟨HNe.out, HEe.out⟩) fun h => ⟨fun hx => by have := HSl9.out g hx; omega, Nat.le_trans HVwq.out.size h⟩)
      obtain ⟨J1, hJ1⟩ : ∃ J1, J1 = joinR (fun _ _ => 0) 0 L := ⟨_, rfl⟩
      rw [← hJ1] at hR9
      rw [Nat.zero_add] at hR9
      simp only [Nat.zero_add]
      have HJ1 := Lib.hid hJ1
      have HR9 := Lib.hid hR9
      clear hR9 hM9 hg9 hne9 hJ1
      refine wpAnyH_ready (rs := [11]) (by kernel_rfl) (by simp) ?_
      refine AllReadyH.cons (o := _) rfl (fun K hK => ?_) AllReadyH.nil
      refine step_rows rfl (.tmp 40) (.tmp 41) rfl A9 m1 c9 J1 rfl HR9.out AM m2 cm Mr rfl (HRM.out.below HV9.out).own.reads HRM.out.nil (by have := HM20.out; have := HM21.out; omega) ?_
      rintro A11 c11 w11 hR11 hM11 hg11
      refine hK.out _ _ (hHeld.mod hM11 (fun e => by have h2 := HXL.out; have h3 := (HA9.out _ (ownBlock_at HR9.out e)).2; omega)) (fun hHeld => ?_)
      clear hK K
      try simp only [Act.put, List.getElem_toArray, List.getElem_cons_zero, List.getElem_cons_succ, List.setIfInBounds_toArray, List.set_cons_zero, List.set_cons_succ]
      have HW11 := Lib.hid (HW9.out.mod hM11 fun x hx e => (HA9.out x (ownBlock_at HR9.out e)).1 hx)
      have HV11 : Hid (Below w4.heap.size w4 w11) := Lib.hid (HV9.out.trans (hM11.toBelow HV9.out.size fun x hx e => by have h3 := (HA9.out _ (ownBlock_at HR9.out e)).2; omega))
      have HR11 := Lib.hid hR11
      clear hR11 hM11 hg11
      refine wpAnyH_ready (rs := [16]) (by kernel_rfl) (by simp) ?_
      refine AllReadyH.cons (o := _) rfl (fun K hK => ?_) AllReadyH.nil
      go_simp
      refine (HLW.out _).mono ?_
      rintro e w12 ⟨rfl, hbl⟩
      try dsimp only
      refine hK.out _ _ (hHeld.below hbl) (fun hHeld => ?_)
      clear hK K
      try simp only [Act.put, List.getElem_toArray, List.getElem_cons_zero, List.getElem_cons_succ, List.setIfInBounds_toArray, List.set_cons_zero, List.set_cons_succ]
      have HV12 : Hid (Below w4.heap.size w4 w12) := Lib.hid (HV11.out.trans (hbl.mono HV11.out.size))
      have HW12 := Lib.hid (HW11.out.below hbl)
      have HR12 := Lib.hid (HR11.out.below hbl)
      clear hbl
      refine wpAnyH_ready (rs := [17]) (by kernel_rfl) (by simp) ?_
      refine AllReadyH.cons (o := _) rfl (fun K hK => ?_) AllReadyH.nil
      go_simp
      refine (filled_c (joinR J1 m1 Mr) A11 (m1 + m2) c11 f1 f2 f3 bo ru ro w12 HR12.out.own.reads (by have := HM20.out; have := HM21.out; omega) (by rw [HJ1.out]; exact join_ok HOK.out HOKM.out) HRLW.out).mono ?_
      rintro e w13 ⟨by_, Sy, rfl, hbl, hWy, hSy⟩
      try dsimp only
      refine hK.out _ _ (hHeld.below hbl) (fun hHeld => ?_)
      clear hK K
      try simp only [Act.put, List.getElem_toArray, List.getElem_cons_zero, List.getElem_cons_succ, List.setIfInBounds_toArray, List.set_cons_zero, List.set_cons_succ]
      have HI13 : Hid (ApartI w4 w13 bx by_ ⟨clamp 6553600 f1, clamp 6553600 f2, clamp 6553600 f3, bo, ru, ro, 60⟩ m1 (m1 + m2) 0) := Lib.hid ⟨HV12.out.trans (hbl.mono HV12.out.size), fillM L m1, fillM (joinR J1 m1 Mr) (m1 + m2), m1, Sx, m1 + m2, Sy, HW12.out.below hbl, hWy, fun x h1 h2 => by
          have h3 : x < w12.heap.size := by obtain ⟨_, _, _, _, _, h⟩ := HW12.out; exact h.lt x h1
          have h4 := hSy x h2
          omega, HSx4.out, fun x h => Nat.le_trans HV12.out.size (hSy x h), by have := HM20.out; omega, by have := HM20.out; have := HM21.out; omega, by rw [HJ1.out]; exact fill_agr _ _ _ _ _, fun a ha => by unfold fillM; rw [if_pos ha, if_pos rfl]⟩
      refine wpAnyH_done (by kernel_rfl) ?_ _
      clear hHeld hbl hWy hSy
      simp only [TailQ, List.drop_succ_cons, List.drop_zero]
      go_wp2
      go_meet
      exact ⟨bx, by_, rfl, rfl, HI13.out⟩
  case rest =>
    obtain ⟨bx, by_, rfl, rfl, hI⟩ := hcut
    obtain ⟨c, hc⟩ : ∃ c : Cf, c = ⟨clamp 6553600 f1, clamp 6553600 f2, clamp 6553600 f3, bo, ru, ro, 60⟩ := ⟨_, rfl⟩
    obtain ⟨n, hn⟩ : ∃ n, n = m1 + m2 := ⟨_, rfl⟩
    rw [← hc, ← hn] at hI
    have HI0 := Lib.hid hI
    have HN := Lib.hid hn
    have HN40 : Hid (n ≤ 40) := Lib.hid (by rw [hn]; exact hm12.out)
    have hwn : wrap64 ((m1 : Int) + (m2 : Int)) = (n : Int) := by have := HN40.out; have := HN.out; unfold wrap64; omega
    clear hI hc hn
    go_wp2
    go_loopg [19] (q5 + 1) (fun k v19 wr => ∃ j : Nat, v19 = .int .i64 (j : Int) ∧ j ≤ q5 + 1 ∧ k = q5 + 1 - j ∧ ApartI w4 wr bx by_ c m1 n j)
    case atStart => exact ⟨0, rfl, Nat.zero_le _, rfl, HI0.out⟩
    case round =>
      obtain ⟨j, rfl, hj, hk, hB, X, Y, px, Sx, py, Sy, hWX, hWY, hSS, hSx, hSy, hpx, hpy, hAg, hids⟩ := hrel
      have HB := Lib.hid hB
      have HWX := Lib.hid hWX
      have HWY := Lib.hid hWY
      have HSS := Lib.hid (And.intro hSS (And.intro hSx hSy))
      have HPP := Lib.hid (And.intro hpx hpy)
      have HAG := Lib.hid hAg
      have HIDS := Lib.hid hids
      have HK := Lib.hid hk
      have HJ : Hid (j ≤ 16) := Lib.hid (by have := HQ5.out.1; omega)
      clear hB hWX hWY hSS hSx hSy hpx hpy hAg hids hk
      by_cases hl : j < q5 + 1
      · have d0 : decide ((j : Int) < 1 + (q5 : Int)) = true := decide_eq_true (by omega)
        have hw1 : wrap64 ((j : Int) + 1) = (j : Int) + 1 := by have := HJ.out; unfold wrap64; omega
        go_upto_region 10 with (go_at_call 9; refine (pick_v a5 15 15 q5 _ rfl (by decide) (by decide) HQ5.out.2).mono ?_; rintro e w6 ⟨rfl, rfl⟩)
        go_wp2_with fail
        refine (touchesWM_c _ by_ c n Y _ _ py Sy HWY.out (by have := HPP.out; have := HJ.out; omega)).mono ?_
        rintro e w6 ⟨TA, TC, rfl, hb6, hrow6⟩
        obtain ⟨mt, hmt⟩ : ∃ mt, mt = (touchL Y n).length := ⟨_, rfl⟩
        rw [← hmt] at hrow6
        rw [← hmt]
        have HMT := Lib.hid hmt
        have HMTb : Hid (mt ≤ 3600) := Lib.hid (by rw [hmt]; exact touchL_few Y n (by have := HN40.out; omega))
        have HT6 := Lib.hid hrow6
        have HB6 := Lib.hid (HB.out.trans (hb6.mono HB.out.size))
        have HWX6 := Lib.hid (HWX.out.below hb6)
        have HWY6 := Lib.hid (HWY.out.below hb6)
        clear hmt hrow6 hb6 HWX HWY
        go_wp2
        go_loopg [21] mt (fun k v21 wx => ∃ i : Nat, v21 = .int .i64 (i : Int) ∧ i ≤ mt ∧ k = mt - i ∧ Below w6.heap.size w6 wx ∧ ∀ q p, q < i → (touchL Y n)[q]? = some p → ¬ (p.1 < m1 ∧ m1 ≤ p.2))
        case atStart => exact ⟨0, rfl, Nat.zero_le _, rfl, Below.refl _ _, fun q p h => absurd h (Nat.not_lt_zero q)⟩
        case round =>
          obtain ⟨i, rfl, hi, hki, hbx, hap⟩ := hrel
          have HBX := Lib.hid hbx
          have HKI := Lib.hid hki
          have HAP := Lib.hid hap
          clear hbx hki hap
          by_cases hil : i < mt
          · have d1 : decide ((i : Int) < (mt : Int)) = true := decide_eq_true (by omega)
            have hwi : wrap64 ((i : Int) + 1) = (i : Int) + 1 := by have := HMTb.out; unfold wrap64; omega
            obtain ⟨p, hp⟩ : ∃ p, (touchL Y n)[i]? = some p := ⟨_, List.getElem?_eq_getElem (by rw [← HMT.out]; exact hil)⟩
            have hm := List.mem_of_getElem? hp
            obtain ⟨g1, g2⟩ := touchL_lt hm
            obtain ⟨gt, gc, e1, _, _, _, hT⟩ := tab_of_own (row_below HT6.out HBX.out) (by omega)
            cases e1
            have ia : touchS Y n i 0 = (p.1 : Int) + 1 := (touchM_at hp 0).trans (HIDS.out _ g1)
            have ib : touchS Y n i 1 = (p.2 : Int) + 1 := (touchM_at hp 1).trans (HIDS.out _ g2)
            obtain ⟨xa, hxa⟩ : ∃ x, x = touchS Y n i 0 := ⟨_, rfl⟩
            obtain ⟨xb, hxb⟩ : ∃ x, x = touchS Y n i 1 := ⟨_, rfl⟩
            have y0 := hT.cell hil (j := 0) (by decide)
            have y1 := hT.cell hil (j := 1) (by decide)
            rw [← hxa, Nat.add_zero] at y0
            rw [← hxb] at y1
            rw [← hxa] at ia
            rw [← hxb] at ib
            have hgl := hT.lt
            have HP := Lib.hid hp
            have HXA := Lib.hid (And.intro ia ib)
            clear hT hp hm g1 g2 ia ib hxa hxb
            by_cases h1 : p.1 < m1
            · have e1 : decide (xa ≤ (m1 : Int)) = true := decide_eq_true (by have := HXA.out; omega)
              by_cases h2 : m1 ≤ p.2
              · have e2 : decide ((m1 : Int) < xb) = true := decide_eq_true (by have := HXA.out; omega)
                clear h1 h2
                go_wp2
                go_ret
                exact ⟨rfl, HVS4.out.trans ((HB6.out.trans (HBX.out.mono HB6.out.size)).mono HVS4.out.size)⟩
              · have e2 : decide ((m1 : Int) < xb) = false := decide_eq_false (by have := HXA.out; omega)
                have H2 := Lib.hid h2
                clear h1 h2
                go_wp2
                go_roundg (mt - (i + 1))
                case measure => have := HKI.out; omega
                case rel => exact ⟨i + 1, by first | (simp; done) | (simp; exact hwi) | rfl, by omega, rfl, HBX.out, fun q p' hq hp' => by
                  by_cases e : q = i
                  · subst e; rw [HP.out] at hp'; cases hp'; exact fun h => H2.out h.2
                  · exact HAP.out q p' (by omega) hp'⟩
            · have e1 : decide (xa ≤ (m1 : Int)) = false := decide_eq_false (by have := HXA.out; omega)
              have H1 := Lib.hid h1
              clear h1
              go_wp2
              go_roundg (mt - (i + 1))
              case measure => have := HKI.out; omega
              case rel => exact ⟨i + 1, by first | (simp; done) | (simp; exact hwi) | rfl, by omega, rfl, HBX.out, fun q p' hq hp' => by
                by_cases e : q = i
                · subst e; rw [HP.out] at hp'; cases hp'; exact fun h => H1.out h.1
                · exact HAP.out q p' (by omega) hp'⟩
          · have d1 : decide ((i : Int) < (mt : Int)) = false := decide_eq_false (by omega)
            have HAPT : Hid (Apart Y m1 n) := Lib.hid (fun p hp => by
              obtain ⟨q, hq, e⟩ := List.getElem_of_mem hp
              exact HAP.out q p (by have := HMT.out; omega) (by rw [List.getElem?_eq_getElem hq, e]))
            have HWX7 := Lib.hid (HWX6.out.below HBX.out)
            have HWY7 := Lib.hid (HWY6.out.below HBX.out)
            have HB7 := Lib.hid (HB6.out.trans (HBX.out.mono HB6.out.size))
            clear HAP HT6 HWX6 HWY6
            go_wp2_with fail
            refine (step_c _ bx c m1 X _ _ px Sx HWX7.out (by have := HPP.out; have := HJ.out; omega) ⟨by omega, by have := HJ.out; omega⟩).mono ?_
            rintro e w8 ⟨rfl, hm8, S8, hW8, hS8⟩
            have HWX8 := Lib.hid hW8
            have HWY8 := Lib.hid (HWY7.out.mod hm8 fun x h1 h2 => HSS.out.1 x h2 h1)
            have HB8 := Lib.hid (HB7.out.trans (hm8.toBelow HB7.out.size fun x hx h => by have := HSS.out.2.1 x h; omega))
            have HS8 : Hid ((∀ x, S8 x → ¬ Sy x) ∧ ∀ x, S8 x → w4.heap.size ≤ x) := Lib.hid ⟨fun x h1 h2 => (hS8 x h1).elim (fun h => HSS.out.1 x h h2) fun h => by have := HWY7.out.lt x h2; omega, fun x h => (hS8 x h).elim (HSS.out.2.1 x) fun h => Nat.le_trans HB7.out.size h⟩
            clear hm8 hW8 hS8
            go_wp2_with fail
            refine (step_c w8 by_ c n Y _ _ py Sy HWY8.out (by have := HPP.out; have := HJ.out; omega) ⟨by omega, by have := HJ.out; omega⟩).mono ?_
            rintro e w9 ⟨rfl, hm9, S9, hW9, hS9⟩
            have HWY9 := Lib.hid hW9
            have HWX9 := Lib.hid (HWX8.out.mod hm9 fun x h1 h2 => HS8.out.1 x h1 h2)
            have HB9 := Lib.hid (HB8.out.trans (hm9.toBelow HB8.out.size fun x hx h => by have := HSS.out.2.2 x h; omega))
            have HNX : Hid (ApartI w4 w9 bx by_ c m1 n (j + 1)) := Lib.hid ⟨HB9.out, stepM c X m1, stepM c Y n, px + m1, S8, py + n, S9, HWX9.out, HWY9.out, fun x h1 h2 => (hS9 x h2).elim (fun h => HS8.out.1 x h1 h) fun h => by have := HWX8.out.lt x h1; omega, HS8.out.2, fun x h => (hS9 x h).elim (HSS.out.2.2 x) fun h => Nat.le_trans HB8.out.size h, by have := HPP.out; have := HN40.out; have := HN.out; omega, by have := HPP.out; have := HN40.out; omega, by
                have hr := HWX8.out.rise
                have h1 := HWX7.out.rise
                have h2 := HWY7.out.rise
                have h3 := HAPT.out
                rw [HN.out] at h2 h3 ⊢
                exact stepM_agr c h1 h2 HAG.out h3, fun a ha => by
                have e : stepM c Y n a 0 = Y a 0 := stepT_col c Y _ n _ a (by omega)
                rw [e]
                exact HIDS.out a ha⟩
            have HAN : Hid (Agr m1 (stepM c X m1) (stepM c Y n)) := Lib.hid (by obtain ⟨_, X', Y', _⟩ := HNX.out; exact (by
                have h1 := HWX7.out.rise
                have h2 := HWY7.out.rise
                have h3 := HAPT.out
                rw [HN.out] at h2 h3 ⊢
                exact stepM_agr c h1 h2 HAG.out h3))
            clear hm9 hW9 hS9
            go_wp2_with fail
            refine (bodiesW_c w9 bx c m1 (stepM c X m1) _ _ (px + m1) S8 HWX9.out).mono ?_
            rintro e w10 ⟨A10, C10, rfl, hR10, hb10⟩
            have HR10 := Lib.hid hR10
            have HWY10 := Lib.hid (HWY9.out.below hb10)
            have HN10 : Hid (Below w9.heap.size w9 w10) := Lib.hid hb10
            clear hR10 hb10
            go_wp2_with fail
            refine (bodiesW_c w10 by_ c n (stepM c Y n) _ _ (py + n) S9 HWY10.out).mono ?_
            rintro e w11 ⟨A11, C11, rfl, hR11, hb11⟩
            obtain ⟨N, hN⟩ : ∃ N, N = stepM c X m1 := ⟨_, rfl⟩
            obtain ⟨N2, hN2⟩ : ∃ N2, N2 = stepM c Y n := ⟨_, rfl⟩
            have HAN2 : Hid (Agr m1 N N2) := Lib.hid (by rw [hN, hN2]; exact HAN.out)
            have HR11 : Hid (RowQ 0 w11 A11 n C11 N2) := Lib.hid (by rw [hN2]; exact hR11.mono (Nat.zero_le _))
            have HRx : Hid (RowQ 0 w11 A10 m1 C10 N) := Lib.hid (by rw [hN]; exact (HR10.out.below hb11).mono (Nat.zero_le _))
            have HN11 : Hid (Below w9.heap.size w9 w11) := Lib.hid (HN10.out.trans (hb11.mono HN10.out.size))
            clear hR11 hb11 hN hN2 HR10 HWY10 HN10 HAN HWX9 HWY9 HWX8 HWY8 HWX7 HWY7
            go_wp2
            go_loopg [24] m1 (fun k v24 wx => ∃ i : Nat, v24 = .int .i64 (i : Int) ∧ i ≤ m1 ∧ k = m1 - i ∧ Below w11.heap.size w11 wx)
            case atStart => exact ⟨0, rfl, Nat.zero_le _, rfl, Below.refl _ _⟩
            case round =>
              obtain ⟨i, rfl, hi, hki, hbx⟩ := hrel
              have HBX := Lib.hid hbx
              have HKI := Lib.hid hki
              clear hbx hki
              by_cases hil : i < m1
              · have d2 : decide ((i : Int) < (m1 : Int)) = true := decide_eq_true (by omega)
                have hwi : wrap64 ((i : Int) + 1) = (i : Int) + 1 := by have := HM20.out; unfold wrap64; omega
                have hin : i < n := Nat.lt_of_lt_of_le hil (by rw [HN.out]; exact Nat.le_add_right _ _)
                obtain ⟨g1, e1, _⟩ := HRx.out.own (Nat.lt_of_le_of_lt (Nat.zero_le i) hil)
                subst e1
                obtain ⟨g2, e2, _⟩ := HR11.out.own (Nat.lt_of_le_of_lt (Nat.zero_le i) hin)
                subst e2
                have HG1 : Hid (∀ w', Below wr.heap.size wr w' → w'.rangeAt g1 (i * 17) (rowL17 N i)) := Lib.hid (fun w' k => range_row ((HRx.out.below HBX.out).below k) hil)
                have HG2 : Hid (∀ w', Below wr.heap.size wr w' → w'.rangeAt g2 (i * 17) (rowL17 N i)) := Lib.hid (fun w' k => by rw [← row17_agr HAN2.out hil]; exact range_row ((HR11.out.below HBX.out).below k) hin)
                have hneb := run_neq_body N i
                go_upto_region 24 with fail
                refine region_quiet_all (by kernel_rfl) (by kernel_rfl) ?_
                repeat (go_big_quiet_step (fail))
                go_big_quiet_want
                refine qload_mid 37 (.tmp 119) rfl g1 (i * 17) rfl (rowL17 N i) _ (by rintro _ ⟨mm, rfl⟩; exact HG1.out _ (more_below _ mm)) Tryz.underlying37 rfl bodyInfoW ?_
                simp only [Act.put, List.setIfInBounds_toArray, List.set_cons_zero, List.set_cons_succ]
                go_big_quiet_on
                repeat (go_big_quiet_step (fail))
                go_big_quiet_want
                refine qload_mid 37 (.tmp 123) rfl g2 (i * 17) rfl (rowL17 N i) _ (by rintro _ ⟨mm, rfl⟩; exact HG2.out _ (more_below _ mm)) Tryz.underlying37 rfl bodyInfoW ?_
                simp only [Act.put, List.setIfInBounds_toArray, List.set_cons_zero, List.set_cons_succ]
                go_big_quiet_on
                repeat (go_big_quiet_step (fail))
                refine wpQuiet_nil ?_
                rintro w12 hw12
                have HV12 := Lib.hid (HBX.out.trans ((after_below hw12).mono HBX.out.size))
                clear hw12
                go_wp2
                go_roundg (m1 - (i + 1))
                case measure => have h1 := HKI.out; clear hwn hwq hwi; omega
                case rel => exact ⟨i + 1, by first | (simp; done) | (simp; exact hwi) | rfl, hil, rfl, HV12.out⟩
              · have d2 : decide ((i : Int) < (m1 : Int)) = false := decide_eq_false (by omega)
                go_wp2
                go_roundg (q5 + 1 - (j + 1))
                case measure => have := HK.out; omega
                case rel => exact ⟨j + 1, by first | (simp; done) | (simp; exact hw1) | rfl, by omega, rfl, by
                  obtain ⟨h0, X', Y', px', Sx', py', Sy', h1, h2, h3, h4, h5, h6, h7, h8, h9⟩ := HNX.out
                  have hb := HN11.out.trans (HBX.out.mono HN11.out.size)
                  exact ⟨h0.trans (hb.mono h0.size), X', Y', px', Sx', py', Sy', h1.below hb, h2.below hb, h3, h4, h5, h6, h7, h8, h9⟩⟩
      · have d0 : decide ((j : Int) < 1 + (q5 : Int)) = false := decide_eq_false (by omega)
        go_wp2_with (go_at_call 9; refine (pick_v a5 15 15 q5 _ rfl (by decide) (by decide) HQ5.out.2).mono ?_; rintro e w6 ⟨rfl, rfl⟩)
        go_ret
        exact ⟨rfl, HVS4.out.trans (HB.out.mono HVS4.out.size)⟩
end Go.Proofs.YtniahipadfgkbaaGreat
