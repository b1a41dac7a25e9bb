/- The walk of gyrelaw.ClientPlays. Conditions: none. -/
import Derived.Test.YtefhmbmbhiehdaaKCliL
namespace Go.Proofs.Ytefhmbmbhiehdaa
open Go.ChangeShapes Go.WideShapes Go.ChangeAt Go.RowKit Go.BigFrame Go.Maps
open B
theorem pick_n (a : Int) (q : Nat) (h0 : 0 < q) (h1 : q ≤ 1000) : ∃ M : Nat, wrap64 ((IntKind.u64.wrap a).tmod (q : Int)) = (M : Int) ∧ M < q := by
  refine ⟨(a % 18446744073709551616).toNat % q, ?_, Nat.mod_lt _ h0⟩
  rw [IntKind.wrap_u64, Int.tmod_eq_emod_of_nonneg (by omega)]
  have h2 : a % 18446744073709551616 = (((a % 18446744073709551616).toNat : Nat) : Int) := by omega
  have h3 : (a % 18446744073709551616).toNat % q < q := Nat.mod_lt _ h0
  have e : ((a % 18446744073709551616) % (q : Int)) = (((a % 18446744073709551616).toNat % q : Nat) : Int) := by
    rw [h2]
    push_cast
    rfl
  rw [e, IntWalk.wrap64_in _ (by omega)]
theorem max_n (a : Int) : ∃ N : Nat, (if 1 < wrap64 ((IntKind.u64.wrap a).tmod 5) then wrap64 ((IntKind.u64.wrap a).tmod 5) else 1) = (N : Int) ∧ 1 ≤ N ∧ N ≤ 4 := by
  obtain ⟨M, hM, hl⟩ := pick_n a 5 (by omega) (by omega)
  have hM' : wrap64 ((IntKind.u64.wrap a).tmod 5) = (M : Int) := hM
  rw [hM']
  split
  · exact ⟨M, rfl, by omega, by omega⟩
  · exact ⟨1, rfl, by omega, by omega⟩
theorem quo_n (l N : Nat) (h : 1 ≤ N) (hl : l ≤ 4000) : ∃ Z : Nat, ((l : Int) + (N : Int) - 1) / (N : Int) = (Z : Int) ∧ Z ≤ l + N := by
  have _ := hl
  refine ⟨(l + N - 1) / N, ?_, Nat.le_trans (Nat.div_le_self _ _) (by omega)⟩
  have e : (l : Int) + (N : Int) - 1 = ((l + N - 1 : Nat) : Int) := by omega
  rw [e]
  exact (Int.natCast_ediv _ _).symm
theorem mul_n (K Z : Nat) (hK : K < 4) (hZ : Z ≤ 4004) : ∃ P1 P2 : Nat, (K : Int) * (Z : Int) = (P1 : Int) ∧ ((K : Int) + 1) * (Z : Int) = (P2 : Int) ∧ P1 ≤ P2 ∧ P2 ≤ 16016 := by
  have h1 : K * Z ≤ 3 * Z := Nat.mul_le_mul_right _ (by omega)
  have h2 : (K + 1) * Z = K * Z + Z := Nat.succ_mul K Z
  exact ⟨K * Z, (K + 1) * Z, by push_cast; rfl, by push_cast; rfl, by omega, by omega⟩
set_option maxRecDepth 100000 in
set_option maxHeartbeats 16000000 in
theorem clientPlays_w (A : Option Addr) (n cap : Nat) (f : Nat → Snd) (w : World) (hn : n ≤ maxLen) (h : SndAt w A n f) : Calls Try.prog 3 #[.slice A n cap] w fun e w' => e = .returned (.bool true) ∧ Below w.heap.size w w' := by
  have HS := Lib.hid h
  have _ := hn
  clear h hn
  by_cases h60 : 60 < n
  · go_enter Try.func3, Try.ntmps3
    have hd : decide (60 < (n : Int)) = true := decide_eq_true (by omega)
    go_wp2
    go_ret
    exact ⟨rfl, Below.refl _ _⟩
  have hd : decide (60 < (n : Int)) = false := decide_eq_false (by omega)
  go_enter Try.func3, Try.ntmps3
  go_wp2_with fail
  refine (newC_c w (fun x => x < w.heap.size) (fun x h => h)).mono ?_
  rintro e w1 ⟨c, b, rfl, hc, hb, hC, hw1⟩
  have HC1 := Lib.hid hC
  have HW1 := Lib.hid hw1
  clear hC hw1
  go_wp2_with fail
  refine (rnewC_c w1 (fun x => (x = c ∨ x = b) ∨ x < w.heap.size) (fun x e => e.elim (fun e => (HC1.out.sl x e).1) (fun e => Nat.lt_of_lt_of_le e HW1.out.size))).mono ?_
  rintro e w2 ⟨r, rb, rfl, hr, hrb, hR, hw2⟩
  have HBO : Hid (Both w w2 c r 0) := Lib.hid ⟨AS.new, (fun x => x = c ∨ x = b), (fun x => x = r ∨ x = rb), 1, b, 1, 0, 0, none, 0, 0, 1, rb, 1, none, 0, [], new_ok,
    HC1.out.frame (Mod.of_below hw2) (fun x e => e.elim (fun e => .inr (e.elim (fun e => e ▸ hr) (fun e => e ▸ hrb))) .inl) (fun x e => e.elim (fun e => (hR.tl x e).1) (fun e => Nat.lt_of_lt_of_le e (Nat.le_trans HW1.out.size hw2.size))),
    hR.zeroR, Nat.le_refl _, Nat.le_refl _, HW1.out.trans (hw2.mono HW1.out.size)⟩
  clear hr hrb hR hw2 HC1 HW1 hc hb
  go_wp2
  go_loopw [5] (fun i wr => ∃ k : Nat, k ≤ n ∧ i = .int .i64 k ∧ Both w wr c r k) (fun i _ => n - (intOf i).toNat)
  case atStart => exact ⟨0, by omega, rfl, HBO.out⟩
  clear HBO
  obtain ⟨k, hk, rfl, hB⟩ := hrel
  obtain ⟨s, S, T, m, b, n1, st, ba, PA, ma, hv, m2, b2, n2, GA, gc, G, hok, hC, hR, hm1, hm2, hbw⟩ := hB
  have HOK := Lib.hid hok
  have HC := Lib.hid hC
  have HR := Lib.hid hR
  have HBW := Lib.hid hbw
  clear hok hC hR hbw
  rcases Nat.lt_or_ge k n with hin | hin
  rotate_left
  · have dk : decide ((k : Int) < (n : Int)) = false := decide_eq_false (by omega)
    go_wp2
    go_ret
    exact ⟨rfl, HBW.out⟩
  have dk : decide ((k : Int) < (n : Int)) = true := decide_eq_true (by omega)
  obtain ⟨g, o, rfl, hgl, hall⟩ := HS.out (by omega)
  have hs := (hall k hin).below hgl HBW.out
  have hloc : 0 < (f k).bl.length → ∀ a, (f k).bA = some a → a.block < w.heap.size := fun h0 a ha => by
    obtain ⟨A', c', e1, h⟩ := Rdb.of_src (hall k hin).src
    obtain ⟨b', o', e2, h3, _⟩ := h h0
    cases e1
    rw [ha] at e2
    cases e2
    exact h3
  have hgr := Nat.lt_of_lt_of_le hgl HBW.out.size
  obtain ⟨x, hx⟩ : ∃ x, x = f k := ⟨_, rfl⟩
  rw [← hx] at hs hloc
  have HX := Lib.hid hs
  have HLOC := Lib.hid hloc
  clear hs hloc hx hall
  have q0 := HX.out.c0
  have q1 := HX.out.c1
  have q2 := HX.out.c2
  have q3 := HX.out.c3
  have q4 := HX.out.c4
  have q5 := HX.out.c5
  have q6 := HX.out.c6
  go_upto_region 11 with fail
  refine wp_fresh ?_
  rintro w1 hb1
  have HX1 : Hid (Blk w1 wr.heap.size #[.int .i64 x.st, .int .i64 x.ba, .int .i64 x.ix, .int .i64 x.ma, .slice x.TA x.TN x.TC, .slice x.bA x.bl.length x.bc, .bool x.any]) := Lib.hid (Blk.below (by repeat (with_reducible (first | assumption | (apply Blk.at; simp; done) | apply Blk.alloc | apply Blk.drew | apply Blk.drewN | apply Blk.more | apply Blk.put | (apply Blk.far; focus (first | assumption | (apply Ne.symm; assumption) | (simp; done) | (simp <;> omega)))))) hb1)
  have hv1 : Below wr.heap.size wr w1 := (by repeat (with_reducible (first | exact Below.refl _ _ | assumption | apply ext_drew | apply ext_drewN | apply ext_alloc | apply ext_more | (refine ext_setCell ?_ (by first | assumption | (simp <;> omega)) _) | (refine ext_below ?_ (by assumption)))))
  obtain ⟨d, hd2⟩ : ∃ d, d = wr.heap.size := ⟨_, rfl⟩
  rw [← hd2] at HX1
  rw [← hd2]
  have HR1 := Lib.hid (HR.out.belowR hv1)
  have HC1 := Lib.hid (HC.out.belowC hv1)
  have HW1 : Hid (Below w.heap.size w w1) := Lib.hid (HBW.out.trans (hv1.mono HBW.out.size))
  have HRD1 := Lib.hid (HX.out.rd.below hv1)
  have HSR1 := Lib.hid (HX.out.src.below hv1)
  have HBD := Lib.hid HX.out.bd
  have HB8 := Lib.hid HX.out.lt
  clear hd2 hb1 hv1 q0 q1 q2 q3 q4 q5 q6 HX HC HR HBW hgr hgl
  obtain ⟨zd, cd, fd⟩ := id HX1.out
  by_cases hT : 80 < x.TN
  · have dT : decide (80 < (x.TN : Int)) = true := decide_eq_true (by omega)
    go_wp2
    go_ret
    exact ⟨rfl, HW1.out⟩
  have dT : decide (80 < (x.TN : Int)) = false := decide_eq_false (by omega)
  by_cases hL : 300 < x.bl.length
  · have dL' : decide (300 < (x.bl.length : Int)) = true := decide_eq_true (by omega)
    go_wp2
    go_ret
    exact ⟨rfl, HW1.out⟩
  have dL' : decide (300 < (x.bl.length : Int)) = false := decide_eq_false (by omega)
  go_upto_if 47 with fail
  go_cut [7] (fun v wx => ∃ (vA : Option Addr) (vl : List Nat) (vc : Nat), v = .slice vA vl.length vc ∧ Src wx (.slice vA vl.length vc) vl ∧ (∀ b ∈ vl, b < 256) ∧ vl.length ≤ 100000 ∧ (0 < vl.length → ∀ a, vA = some a → a.block < w.heap.size ∨ w1.heap.size ≤ a.block) ∧ Below w1.heap.size w1 wx)
  case first =>
    cases hany : x.any with
    | true =>
      go_wp2
      go_meet
      exact ⟨x.bA, x.bl, x.bc, rfl, HSR1.out, HB8.out, by omega, fun h0 a ha => .inl (HLOC.out h0 a ha), Below.refl _ _⟩
    | false =>
      clear hany
      obtain ⟨F, hF, hFV⟩ := HR1.out.vm
      have HF1 := Lib.hid hF
      have HFV := Lib.hid hFV
      clear hF hFV
      have hrb := HR1.out.blk
      obtain ⟨zc, cc, fc⟩ := id hrb
      have HRB := Lib.hid hrb
      clear hrb
      have hkb := int_key x.ba (intKey_wf HBD.out.2.1.1 HBD.out.2.1.2)
      have HK := Lib.hid hkb
      clear hkb
      have hmc := more_cell
      go_upto_region 15 with fail
      refine region_quiet_all (by kernel_rfl) (by kernel_rfl) ?_
      repeat (go_big_quiet_step (fail))
      go_big_quiet_want
      refine quiet_lookup2 (.tmp 52) (.tmp 54) rfl (int_keyed Try.underlying3) Try.underlying34 zero_viewR rfl (by rintro _ ⟨mm, rfl⟩; exact HF1.out.below (more_below w1 mm)) (.int .i64 x.ba) (.int .i64 x.ba) rfl HK.out trivial ?_
      simp only [Act.put, List.setIfInBounds_toArray, List.set_cons_zero, List.set_cons_succ]
      go_big_quiet_on
      repeat (go_big_quiet_step (fail))
      refine wpQuiet_nil ?_
      rintro w2 hw2
      have hb2 := after_below hw2
      clear hw2 hmc
      have HX2 := Lib.hid (HX1.out.below hb2)
      have HW2 := Lib.hid hb2
      obtain ⟨nf, Af, cf, Mf, hfrom, hnf, hRf⟩ : ∃ nf Af cf Mf, (F (.int .i64 x.ba)).getD (.slice none 0 0) = .slice Af nf cf ∧ nf ≤ 100000 ∧ Reads w2 Af nf 11 Mf := by
        have hk := HFV.out x.ba
        cases hf : F (.int .i64 x.ba) with
        | none => exact ⟨0, none, 0, fun _ _ => 0, rfl, by omega, reads0 _ _ _⟩
        | some v =>
          rw [hf] at hk
          cases hv : s.V x.ba with
          | none => rw [hv] at hk; exact hk.elim
          | some R =>
            rw [hv] at hk
            obtain ⟨A', c', rfl, _, _, h3⟩ := hk
            exact ⟨R.length, A', c', mx R, rfl, by have := (HOK.out.views _ _ hv).2.2; omega, h3.reads.below hb2⟩
      rw [hfrom]
      obtain ⟨okb, hokb⟩ : ∃ ob, ob = (F (.int .i64 x.ba)).isSome := ⟨_, rfl⟩
      rw [← hokb]
      have HRF := Lib.hid hRf
      clear hfrom hokb hRf hb2 zd cd fd zc cc fc HK HF1 HFV HRB
      obtain ⟨zd, cd, fd⟩ := id HX2.out
      go_wp2_with fail
      refine (seen_c x.TN x.TA x.TC x.TM _ (by omega) (HRD1.out.below HW2.out)).mono ?_
      rintro e w3 ⟨SA, SC, rfl, _, hs3, hb3⟩
      go_wp2_with fail
      refine (rdelta_s nf x.TN Af SA cf SC Mf x.TM _ hnf (by omega) (HRF.out.below hb3) hs3).mono ?_
      rintro e w4 ⟨l, er, DA, dc, rfl, hsl, hlc, hl4, hl8, hb4⟩
      have hv34 : Below w2.heap.size w2 w4 := hb3.trans (hb4.mono hb3.size)
      have hv4 : Below w1.heap.size w1 w4 := HW2.out.trans (hv34.mono HW2.out.size)
      have HX4 := Lib.hid (HX2.out.below hv34)
      have HW4 := Lib.hid hv4
      have HSL := Lib.hid hsl
      have HL8 := Lib.hid hl8
      clear hb3 hb4 hv34 hv4 hs3 hsl hl8 zd cd fd HRF HX2
      obtain ⟨zd, cd, fd⟩ := id HX4.out
      have HEND : Hid (∃ (vA : Option Addr) (vl : List Nat) (vc : Nat), (Value.slice x.bA x.bl.length x.bc) = .slice vA vl.length vc ∧ Src w4 (.slice vA vl.length vc) vl ∧ (∀ b ∈ vl, b < 256) ∧ vl.length ≤ 100000 ∧ (0 < vl.length → ∀ a, vA = some a → a.block < w.heap.size ∨ w1.heap.size ≤ a.block) ∧ Below w1.heap.size w1 w4) := Lib.hid ⟨x.bA, x.bl, x.bc, rfl, HSR1.out.below HW4.out, HB8.out, by omega, fun h0 a ha => .inl (HLOC.out h0 a ha), HW4.out⟩
      cases okb with
      | false =>
        go_wp2
        go_meet
        exact HEND.out
      | true =>
        by_cases he : er = 0
        · subst he
          go_upto_region 19 with fail
          obtain ⟨N, hN, hN1, hN4⟩ := max_n x.ma
          rw [hN]
          clear hN
          go_upto_region 20 with fail
          obtain ⟨K, hK, hKN⟩ := pick_n x.ix N (by omega) (by omega)
          rw [hK]
          clear hK
          go_upto_region 21 with fail
          obtain ⟨Z, hZ, hZ4⟩ := quo_n l.length N hN1 (by omega)
          rw [hZ]
          clear hZ
          obtain ⟨P1, P2, hP1, hP2, hP12, hP3⟩ := mul_n K Z (by omega) (by omega)
          go_cut [10] (fun v wx => ∃ (SA : Option Addr) (l2 : List Nat) (SC : Nat), v = .slice SA l2.length SC ∧ Src w4 (.slice SA l2.length SC) l2 ∧ (∀ b ∈ l2, b < 256) ∧ wx = w4)
          case first =>
            have hsub : ∀ i j, ∀ b ∈ (l.drop i).take j, b < 256 := fun i j b hb => HL8.out b (List.mem_of_mem_drop (List.mem_of_mem_take hb))
            by_cases h2 : P2 < l.length
            · have d2 : decide ((P2 : Int) < (l.length : Int)) = true := decide_eq_true (by omega)
              have d1 : decide ((P1 : Int) < (l.length : Int)) = true := decide_eq_true (by omega)
              have p2 : (P2 : Int) < (l.length : Int) := by omega
              have p1 : (P1 : Int) < (l.length : Int) := by omega
              obtain ⟨SA, SC, hSrc, _, hrun⟩ := src_slice HSL.out rfl hlc P1 P2 (P1 : Int) (P2 : Int) rfl rfl hP12 (by omega)
              have HLEN : Hid (P2 - P1 = ((l.drop P1).take (P2 - P1)).length) := Lib.hid (by simp <;> omega)
              go_wp2
              go_meet
              refine ⟨SA, (l.drop P1).take (P2 - P1), SC, by rw [← HLEN.out], by rw [← HLEN.out]; exact hSrc, hsub _ _, rfl⟩
            · have d2 : decide ((P2 : Int) < (l.length : Int)) = false := decide_eq_false (by omega)
              have p2 : ¬ (P2 : Int) < (l.length : Int) := by omega
              by_cases h1 : P1 < l.length
              · have d1 : decide ((P1 : Int) < (l.length : Int)) = true := decide_eq_true (by omega)
                have p1 : (P1 : Int) < (l.length : Int) := by omega
                obtain ⟨SA, SC, hSrc, _, hrun⟩ := src_slice HSL.out rfl hlc P1 l.length (P1 : Int) (l.length : Int) rfl rfl (by omega) (Nat.le_refl _)
                have HLEN : Hid (l.length - P1 = ((l.drop P1).take (l.length - P1)).length) := Lib.hid (by simp <;> omega)
                go_wp2
                go_meet
                refine ⟨SA, (l.drop P1).take (l.length - P1), SC, by rw [← HLEN.out], by rw [← HLEN.out]; exact hSrc, hsub _ _, rfl⟩
              · have d1 : decide ((P1 : Int) < (l.length : Int)) = false := decide_eq_false (by omega)
                have p1 : ¬ (P1 : Int) < (l.length : Int) := by omega
                obtain ⟨SA, SC, hSrc, _, hrun⟩ := src_slice HSL.out rfl hlc l.length l.length (l.length : Int) (l.length : Int) rfl rfl (Nat.le_refl _) (Nat.le_refl _)
                have HLEN : Hid (l.length - l.length = ((l.drop l.length).take (l.length - l.length)).length) := Lib.hid (by simp <;> omega)
                go_wp2
                go_meet
                have hSrc' : Src w4 (.slice SA 0 SC) [] := by simpa using hSrc
                refine ⟨SA, [], SC, rfl, hSrc', fun b hb => (by cases hb), rfl⟩
          obtain ⟨SA, l2, SC, rfl, hS2, h28, rfl⟩ := hcut
          have HS2 := Lib.hid hS2
          have H28 := Lib.hid h28
          clear hS2 h28 hP1 hP2 hP12 hP3 hZ4
          by_cases hRP : RightP x.st x.ba K N l2.length
          · obtain ⟨x1, x2, x3, x4, x5, x6, x7, x8, x9⟩ := id hRP
            obtain ⟨stn, hstn⟩ : ∃ q : Nat, x.st = q := ⟨x.st.toNat, by omega⟩
            obtain ⟨ban, hban⟩ : ∃ q : Nat, x.ba = q := ⟨x.ba.toNat, by omega⟩
            have HRP := Lib.hid hRP
            clear hRP x1 x2 x3 x4 x5 x6 x7 x8 x9
            go_wp2_with fail
            try rw [hstn, hban]
            refine (rtell_yes stn ban K N SA l2.length SC l2 _ HS2.out rfl H28.out (by rw [← hstn, ← hban]; exact HRP.out)).mono ?_
            rintro e w5 ⟨A5, c5, rfl, hbs, hb5⟩
            have HBS := Lib.hid hbs
            have hpl : (pack (tellL stn ban K N l2)).length ≤ 100000 := by
              rw [pack_length]
              have h1 := HRP.out.2.2.2.2.2.2.2.2
              have h2 := pieces_bd stn
              have h3 := pieces_bd ban
              unfold bytesOf tellL
              simp only [List.length_append, varL_length, bitsOf_length, openL_length, Int.toNat_natCast]
              omega
            have hvl5 : Below w1.heap.size w1 w5 := HW4.out.trans (hb5.mono HW4.out.size)
            have HW5 := Lib.hid hvl5
            clear hbs hb5 hvl5
            go_wp2
            go_meet
            refine ⟨A5, pack (tellL stn ban K N l2), c5, rfl, Src.of_row HBS.out, pack_lt (tellL_bin _ _ _ _ _), hpl, fun h0 a ha => .inr ?_, HW5.out⟩
            subst ha
            have := (row_lt HBS.out (show (Value.slice (some a) _ c5).ownBlock = some a.block from rfl)).2
            exact Nat.le_trans HW4.out.size this
          · have HRP := Lib.hid hRP
            clear hRP
            go_wp2_with fail
            refine (rtell_no x.st x.ba K N SA l2.length SC _ HRP.out).mono ?_
            rintro e w5 ⟨rfl, hb5⟩
            have hvl5 : Below w1.heap.size w1 w5 := HW4.out.trans (hb5.mono HW4.out.size)
            have HW5 := Lib.hid hvl5
            clear hb5 hvl5
            go_wp2
            go_meet
            exact ⟨none, [], 0, rfl, .inl ⟨rfl, rfl⟩, fun b hb => (by cases hb), (by simp), fun h0 => absurd h0 (by simp), HW5.out⟩
        · have de : (er == 0) = false := by simpa using he
          go_wp2
          go_meet
          exact HEND.out
  obtain ⟨vA, vl, vc, rfl, hsv, hv8, hvl, hvloc, hb2⟩ := hcut
  obtain ⟨w2, hw2⟩ : ∃ w2, w2 = wc := ⟨_, rfl⟩
  rw [← hw2] at hsv hb2
  rw [← hw2]
  have HSV : Hid (RbZ (fun x => S x ∨ T x) w2 (.slice vA vl.length vc) vl) := Lib.hid (RbZ.of hsv (fun h0 a n' c' e hz => by
    cases e
    have h1 := hvloc h0 a rfl
    rcases hz with hz | hz
    · have h2 := HC1.out.sl _ hz
      rcases h1 with h1 | h1
      · exact h2.2 (.inr h1)
      · omega
    · have h2 := HR1.out.tl _ hz
      rcases h1 with h1 | h1
      · exact h2.2 (.inr h1)
      · omega))
  have HV8 := Lib.hid hv8
  have HC2 := Lib.hid (HC1.out.belowC hb2)
  have HR2 := Lib.hid (HR1.out.belowR hb2)
  have HW2 : Hid (Below w.heap.size w w2) := Lib.hid (HW1.out.trans (hb2.mono HW1.out.size))
  have hbn : m ≤ 900 ∧ m2 ≤ 900 := by omega
  obtain ⟨hbn1, hbn2⟩ := hbn
  clear hw2 hsv hv8 hvloc hb2 HC1 HR1 HW1 HX1 zd cd fd HSR1 HRD1 HLOC HB8 HBD
  go_wp2_with fail
  refine (cfeed_c _ c m b n1 s S (fun x => T x ∨ x < w.heap.size) st ba hv PA ma HC2.out HOK.out hbn1 _ vl HSV.out.1 HV8.out hvl).mono ?_
  rintro e w3 ⟨r1, hf1, rfl, ⟨S', b', n1', st', ba', PA', ma', hv', hC3, hS'⟩, hM3⟩
  have HF1 := Lib.hid hf1
  have HC3 := Lib.hid hC3
  have HSS := Lib.hid hS'
  have HM3 := Lib.hid hM3
  have HR3 : Hid (RC w3 r m2 0 s T (fun x => S' x ∨ x < w.heap.size) b2 n2 GA gc G) := Lib.hid (HR2.out.frame (hM3.mono (fun x _ e => .inl e)) (fun x e => e.elim (fun e => (hS' x e).imp .inl id) (fun e => .inl (.inr e))) (fun x e => e.elim (fun e => (hC3.sl x e).1) (fun e => Nat.lt_of_lt_of_le e (Nat.le_trans HW2.out.size hM3.size))))
  have HSV3 : Hid (Src w3 (.slice vA vl.length vc) vl) := Lib.hid (HSV.out.mod (Z' := fun x => S x ∨ T x) hM3 (fun x e => .inl e) (fun x e => .inl e)).1
  clear hf1 hC3 hS' hM3
  go_wp2_with fail
  refine (rfeed_c _ r m2 0 b2 n2 gc s T (fun x => S' x ∨ x < w.heap.size) GA G HR3.out HOK.out hbn2 _ vl HSV3.out HV8.out hvl).mono ?_
  rintro e w4 ⟨r2, hf2, rfl, ⟨T', b2', n2', GA', gc', G', hR4, hT'⟩, hM4⟩
  obtain rfl := feedTo_same HF1.out hf2
  have HOK2 := Lib.hid (feedTo_ok HOK.out HF1.out)
  have HC4 : Hid (CR w4 c (m + 2) r1.2 S' (fun x => T' x ∨ x < w.heap.size) b' n1' st' ba' PA' ma' hv') := Lib.hid (HC3.out.frame (hM4.mono (fun x _ e => .inl e)) (fun x e => e.elim (fun e => (hT' x e).imp .inl id) (fun e => .inl (.inr e))) (fun x e => e.elim (fun e => (hR4.tl x e).1) (fun e => Nat.lt_of_lt_of_le e (Nat.le_trans HW2.out.size (Nat.le_trans HM3.out.size hM4.size)))))
  have HR4 := Lib.hid hR4
  have HW4 : Hid (Below w.heap.size w w4) := Lib.hid (HW2.out.trans ((HM3.out.toBelow HW2.out.size (fun x hx e => (HC2.out.sl x e).2 (.inr hx))).trans (hM4.toBelow (Nat.le_trans HW2.out.size HM3.out.size) (fun x hx e => (HR3.out.tl x e).2 (.inr hx)))))
  clear hf2 hR4 hT' hM4 HF1 HC3 HR3 HSV3 HSV HV8 HC2 HR2 HW2 HM3 HOK HSS
  obtain ⟨res, s'⟩ := r1
  simp only at HOK2 HC4 HR4
  go_wp2_with fail
  refine (cnewest_c _ c (m + 2) b' n1' ma' s' S' (fun x => T' x ∨ x < w.heap.size) st' ba' hv' PA' HC4.out HOK2.out).mono ?_
  rintro e w5 ⟨R, NA, nc, hVn, rfl, hNR, hb5⟩
  have HC5 := Lib.hid (HC4.out.belowC hb5)
  have HR5 := Lib.hid (HR4.out.belowR hb5)
  have HW5 : Hid (Below w.heap.size w w5) := Lib.hid (HW4.out.trans (hb5.mono HW4.out.size))
  have HNR := Lib.hid hNR
  obtain ⟨F, hF, hFV⟩ := HR5.out.vm
  have hkn := hFV s'.newest
  rw [hVn] at hkn
  obtain ⟨v, hFv⟩ : ∃ v, F (.int .i64 s'.newest) = some v := by
    cases hf : F (.int .i64 s'.newest) with
    | none => rw [hf] at hkn; exact hkn.elim
    | some v => exact ⟨v, rfl⟩
  rw [hFv] at hkn
  obtain ⟨RA, rc, rfl, _, _, hRd⟩ := hkn
  have HRD := Lib.hid hRd.reads
  have HF5 := Lib.hid hF
  have HFV := Lib.hid hFv
  have hRl := (HOK2.out.views _ _ hVn).2.2
  have HNN : Hid (n1' = n2') := Lib.hid (by
    obtain ⟨F', hF', hFV'⟩ := HC5.out.vm
    exact hF'.countI Try.underlying3 (int_keyed Try.underlying3) hF (fun x => (hFV' x).some_iff.trans (hFV x).some_iff.symm))
  have hrb := HR5.out.blk
  have HRB := Lib.hid hrb
  have hkb := int_key (s'.newest : Int) (intKey_wf (by omega) (by have := HOK2.out.top; omega))
  have HK := Lib.hid hkb
  clear hb5 hNR hF hFV hFv hRd hkb HC4 HR4 HW4
  have hnn := HNN.out
  subst hnn
  obtain ⟨zc, cc, fc⟩ := id hrb
  clear hrb
  have hmc := more_cell
  go_upto_region 26 with fail
  refine region_quiet_all (by kernel_rfl) (by kernel_rfl) ?_
  repeat (go_big_quiet_step (fail))
  go_big_quiet_want
  refine quiet_lookup1V (.tmp 141) (.tmp 145) rfl (int_keyed Try.underlying3) Try.underlying34 zero_viewR rfl (by rintro _ ⟨mm, rfl⟩; exact HF5.out.below (more_below w5 mm)) (.int .i64 s'.newest) (.int .i64 s'.newest) rfl HK.out trivial ?_
  simp only [Act.put, List.setIfInBounds_toArray, List.set_cons_zero, List.set_cons_succ]
  rw [HFV.out]
  simp only [Option.getD_some]
  go_big_quiet_on
  repeat (go_big_quiet_step (first | (go_at_call 14; exact calls_after (sameView_c R.length NA RA nc rc (mx R) _ (by omega) (HNR.out.below (more_below _ _)) (HRD.out.below (more_below _ _)))) | (go_at_call 15; exact calls_after_same (cmany_c _ c (m + 2) b' n1' ma' s' S' (fun x => T' x ∨ x < w.heap.size) st' ba' hv' PA' (HC5.out.belowC (more_below _ _))))))
  go_big_quiet_want
  refine quiet_len1V (.tmp 156) rfl Try.underlying34 rfl (by rintro _ ⟨mm, rfl⟩; exact HF5.out.below (more_below w5 mm)) ?_
  simp only [Act.put, List.setIfInBounds_toArray, List.set_cons_zero, List.set_cons_succ]
  go_big_quiet_on
  repeat (go_big_quiet_step (fail))
  refine wpQuiet_nil ?_
  rintro w6 hw6
  have hb6 := after_below hw6
  clear hw6 hmc zc cc fc
  have HB6 : Hid (Both w w6 c r (k + 1)) := Lib.hid ⟨s', S', T', m + 2, b', n1', st', ba', PA', ma', hv', m2 + 3, b2', _, GA', gc', G', HOK2.out, HC5.out.belowC hb6, HR5.out.belowR hb6, by omega, by omega, HW5.out.trans (hb6.mono HW5.out.size)⟩
  go_wp2
  go_roundw
  case rel => exact ⟨k + 1, by omega, by go_num, HB6.out⟩
  case measure => simp [intOf]; omega
end Go.Proofs.Ytefhmbmbhiehdaa
