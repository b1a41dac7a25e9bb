/- The contract of wire.Told. Conditions: none. -/
import Derived.Test.YtefhmbmbhiehdaaKClE
namespace Go.Proofs.Ytefhmbmbhiehdaa
open Go.ChangeShapes Go.WideShapes Go.ChangeAt Go.RowKit Go.BigFrame
open B
theorem tellL_le (st ba ix ma : Int) (l : List Nat) : (tellL st ba ix ma l).length = (varL st.toNat).length + (varL ba.toNat).length + 19 + 8 * l.length := by
  unfold tellL
  simp only [List.length_append, bitsOf_length, openL_length]
set_option maxRecDepth 100000 in
set_option maxHeartbeats 8000000 in
theorem wtold_c (v : Value) (l : List Nat) (n1 n2 n3 n4 n5 : Nat) (e1 e2 e3 e4 e5 : Int) (a1 a2 a3 a4 a5 : Nat) (w : World) (hS : Src w v l) (h8 : ∀ b ∈ l, b < 256) (hl : l.length ≤ 1000000) (hpr : Pt (openL l) n1 n2 n3 n4 n5 e1 e2 e3 e4 e5 a1 a2 a3 a4 a5) :
    Calls Try.prog 40 #[v] w (PostT (.iface 38 (.int .i64 3)) .nilIface l n1 n2 n3 n4 n5 e1 e2 e3 e4 e5 a5 w) := by
  have HPR := Lib.hid hpr
  have HSR : Hid (∀ w', Below w.heap.size w w' → Src w' v l) := Lib.hid (fun w' k => hS.below k)
  have H8 := Lib.hid h8
  have hn5 := hpr.lt (openL_bin l)
  clear hpr hS h8
  go_enter Try.func40, Try.ntmps40
  go_wp2_with fail
  refine (read_c v l _ (HSR.out _ (balloc _ _)) H8.out hl).mono ?_
  rintro e w1 ⟨p, rv, rfl, hp, hRd, hb1⟩
  have hX1 := (Blk.fresh w #[.int .i64 0, .int .i64 0, .int .i64 0, .int .i64 0, .slice none 0 0] 107).below hb1
  have hB1 : Below w.heap.size w w1 := (balloc _ _).trans (hb1.mono (by simp))
  have hpl := hRd.blk.lt
  have hpw : w.heap.size < p := by simp at hp; omega
  have hRd' : Rd w1 w.heap.size p rv l 0 := ⟨hRd.blk, (by obtain ⟨h1, h2 | ⟨g, cap, cur, a, b, c⟩⟩ := hRd.row; exact ⟨h1, .inl h2⟩; exact ⟨h1, .inr ⟨g, cap, cur, a, by simp at b; omega, c⟩⟩), hRd.ne, hRd.ok, hRd.len, hRd.le⟩
  have hrvx : rv.ownBlock ≠ some w.heap.size := fun e => by have := (row_lt hRd.row e).2; simp at this; omega
  clear hRd hb1 hp
  go_wp2_with fail
  refine calls_anew ?_
  intro w2 hb2
  have hq2 : Below w1.heap.size w1 w2 := (balloc w1 (.cells #[.pointer (some ⟨p, 0, none⟩), .bool false] 158)).trans (hb2.mono (by simp))
  have hR2 : RR w2 w.heap.size p w1.heap.size rv l 0 false := ⟨hRd'.below hq2, (Blk.fresh w1 _ _).below hb2, by omega, fun e => by have := (row_lt hRd'.row e).1; omega⟩
  have hX2 := hX1.below hq2
  have hB2 := hB1.trans (hq2.mono hB1.size)
  obtain ⟨x0, hx0⟩ : ∃ x0, x0 = w.heap.size := ⟨_, rfl⟩
  obtain ⟨q, hq⟩ : ∃ q, q = w1.heap.size := ⟨_, rfl⟩
  rw [← hx0] at hX2 hrvx
  rw [← hq] at hR2
  rw [← hx0, ← hq]
  have hxp : x0 < p := by omega
  have hxq : x0 < q := by omega
  have HPW : Hid (w.heap.size ≤ p) := Lib.hid (by omega)
  have HQW : Hid (w.heap.size ≤ q) := Lib.hid (by omega)
  have HXW : Hid (w.heap.size ≤ x0) := Lib.hid (by omega)
  have HRX := Lib.hid hrvx
  obtain ⟨b2, hb2'⟩ : ∃ b : Bool, b = false := ⟨_, rfl⟩
  rw [← hb2'] at hR2
  have HB2 : Hid (b2 = true ↔ False) := Lib.hid (by rw [hb2']; simp)
  clear hb2 hq2 hX1 hB1 hRd' hpl hx0 hq hpw hb2' hrvx

  go_wp2_with fail
  refine (num_c w.heap.size p q 0 b2 rv l n1 e1 a1 _ hR2 HPR.out.h1).mono ?_
  rintro e w3 ⟨b3, rfl, hR3, hM3, hb3⟩
  have hX3 := hX2.mod hM3 (by rintro (e | e) <;> omega)
  have hB3 := hB2.trans (mod2_above hM3 hB2.size HPW.out HQW.out)
  have HB3 := Lib.hid hb3
  clear hR2 hM3 hB2 hb3 hX2
  go_wp2_with fail
  refine (num_c w.heap.size p q a1 b3 rv l n2 e2 a2 _ hR3 HPR.out.h2).mono ?_
  rintro e w4 ⟨b4, rfl, hR4, hM4, hb4⟩
  have hX4 := hX3.mod hM4 (by rintro (e | e) <;> omega)
  have hB4 := hB3.trans (mod2_above hM4 hB3.size HPW.out HQW.out)
  have HB4 := Lib.hid hb4
  clear hR3 hM4 hB3 hb4 hX3
  go_wp2_with fail
  refine calls_anew ?_
  intro w5 hb5
  have hC5 : Blk w5 w4.heap.size #[.int .i64 n1, .int .i64 n2, .int .i64 0, .int .i64 0, .slice none 0 0] := Blk.below (by repeat (with_reducible (first | assumption | (apply Blk.at; simp; done) | apply Blk.alloc | apply Blk.drew | apply Blk.drewN | apply Blk.more | apply Blk.put | (apply Blk.far; focus (first | assumption | (apply Ne.symm; assumption) | (simp; done) | (simp <;> omega)))))) hb5
  have hq5 : Below w4.heap.size w4 w5 := (by repeat (with_reducible (first | exact Below.refl _ _ | assumption | apply ext_drew | apply ext_drewN | apply ext_alloc | apply ext_more | (refine ext_setCell ?_ (by simp <;> omega) _) | (refine ext_below ?_ (by assumption)))))
  have hR5 := hR4.below hq5
  have hX5 := hX4.below hq5
  have hB5 := hB4.trans (hq5.mono hB4.size)
  have hlt5 : p < w4.heap.size ∧ q < w4.heap.size ∧ x0 < w4.heap.size ∧ rv.ownBlock ≠ some w4.heap.size := ⟨hR4.rd.blk.lt, hR4.blk.lt, hX4.lt, fun e => by have := (row_lt hR4.rd.row e).1; omega⟩
  have hrlt : ∀ b, rv.ownBlock = some b → b < w4.heap.size := fun b e => (row_lt hR4.rd.row e).1
  have HCW : Hid (w.heap.size ≤ w4.heap.size) := Lib.hid hB4.size
  obtain ⟨cc, hcc⟩ : ∃ cc, cc = w4.heap.size := ⟨_, rfl⟩
  rw [← hcc] at hC5 hlt5 HCW hrlt
  rw [← hcc]
  obtain ⟨hpc, hqc, hxc, hrc⟩ := hlt5
  have HRC := Lib.hid hrc
  have HRL := Lib.hid hrlt
  have HB5 := HB4
  obtain ⟨b5, hbe⟩ : ∃ b : Bool, b = b4 := ⟨_, rfl⟩
  rw [← hbe] at hR5 HB5
  clear hb5 hq5 hR4 hX4 hB4 hcc hrc hrlt HB4 hbe
  refine (rput_c w.heap.size p q a2 b5 rv l n3 e3 a3 6 _ hR5 HPR.out.h3).mono ?_
  rintro e w6 ⟨b6, rfl, hR6, hM6, hb6⟩
  have hX6 := hX5.mod hM6 (by rintro (e | e) <;> omega)
  have hC6 := hC5.mod hM6 (by rintro (e | e) <;> omega)
  have hB6 := hB5.trans (mod2_above hM6 hB5.size HPW.out HQW.out)
  have HB6 := Lib.hid hb6
  clear hR5 hM6 hB5 hb6 hX5 hC5
  obtain ⟨z6, c6, f6⟩ := id hC6
  go_wp2_with fail
  refine calls_anew ?_
  intro w7 hb7
  have hs7 : Mod (fun b => b = cc) w6 w7 := Mod.below ((Mod.refl _ _).set (.inl rfl)) hb7
  have hR7 := hR6.mod hs7 (by omega) (by omega) (fun b hb e => HRC.out (e ▸ hb))
  have hX7 := hX6.mod hs7 (by omega)
  have hC7 : Blk w7 cc #[.int .i64 n1, .int .i64 n2, .int .i64 0, .int .i64 n3, .slice none 0 0] := Blk.eqs ((hC6.put (i := 3) (v := .int .i64 n3)).below hb7) rfl
  have hB7 := hB6.trans (mod_base hs7 hB6.size HCW.out)
  have HB7 := HB6
  obtain ⟨b7, hbe⟩ : ∃ b : Bool, b = b6 := ⟨_, rfl⟩
  rw [← hbe] at hR7 HB7
  clear hb7 hs7 hR6 hX6 hC6 hB6 HB6 hbe z6 c6 f6
  refine (rput_c w.heap.size p q a3 b7 rv l n4 e4 a4 6 _ hR7 HPR.out.h4).mono ?_
  rintro e w8 ⟨b8, rfl, hR8, hM8, hb8⟩
  have hX8 := hX7.mod hM8 (by rintro (e | e) <;> omega)
  have hC8 := hC7.mod hM8 (by rintro (e | e) <;> omega)
  have hB8 := hB7.trans (mod2_above hM8 hB7.size HPW.out HQW.out)
  have HB8 := Lib.hid hb8
  clear hR7 hM8 hB7 hb8 hX7 hC7
  obtain ⟨z8, c8, f8⟩ := id hC8
  go_wp2_with fail
  refine calls_anew ?_
  intro w9 hb9
  have hs9 : Mod (fun b => b = cc) w8 w9 := Mod.below ((Mod.refl _ _).set (.inl rfl)) hb9
  have hR9 := hR8.mod hs9 (by omega) (by omega) (fun b hb e => HRC.out (e ▸ hb))
  have hX9 := hX8.mod hs9 (by omega)
  have hC9 : Blk w9 cc #[.int .i64 n1, .int .i64 n2, .int .i64 n4, .int .i64 n3, .slice none 0 0] := Blk.eqs ((hC8.put (i := 2) (v := .int .i64 n4)).below hb9) rfl
  have hB9 := hB8.trans (mod_base hs9 hB8.size HCW.out)
  have HB9 := HB8
  obtain ⟨b9, hbe⟩ : ∃ b : Bool, b = b8 := ⟨_, rfl⟩
  rw [← hbe] at hR9 HB9
  clear hb9 hs9 hR8 hX8 hC8 hB8 HB8 hbe z8 c8 f8
  refine (rput_c w.heap.size p q a4 b9 rv l n5 e5 a5 7 _ hR9 HPR.out.h5).mono ?_
  rintro e w10 ⟨b10, rfl, hR10, hM10, hb10⟩
  have hX10 := hX9.mod hM10 (by rintro (e | e) <;> omega)
  have hC10 := hC9.mod hM10 (by rintro (e | e) <;> omega)
  have hB10 := hB9.trans (mod2_above hM10 hB9.size HPW.out HQW.out)
  have HB10 := Lib.hid hb10
  clear hR9 hM10 hB9 hb10 hX9 hC9
  have hbad : b10 = true ↔ BadTW n1 n2 e1 e2 e3 e4 e5 := by
    have h1 := HB10.out; have h2 := HB9.out; have h3 := HB7.out; have h4 := HB5.out; have h5 := HB3.out; have h6 := HB2.out
    simp only [h2, h3, h4, h5, h6] at h1
    exact h1
  have hP : Pc w w10 cc x0 n1 n2 n4 n3 (.slice none 0 0) [] := ⟨hC10, hX10, ⟨by decide, .inl ⟨rfl, rfl⟩⟩, hB10, hxc, HXW.out⟩
  have hRel := relT_start (n5 := n5) (a5 := a5) (T := openL l) hbad (badTW (l := l) (n3 := n3) (n4 := n4) (n5 := n5) (a5 := a5))
  have HPP := Lib.hid hP
  have HRE := Lib.hid hRel
  clear hbad hP hRel hC10 hX10 hB10 HB10 HB9 HB7 HB5 HB3 HB2
  go_upto_block 0 with fail
  go_cut [] (fun wx => ∃ (j : Nat) (L : List Nat) (v : Value) (a : Nat) (bad : Bool), (bad = false → j = 0) ∧ RR wx w.heap.size p q rv l a bad ∧ Pc w wx cc x0 n1 n2 n4 n3 v L ∧ RelT (BadTW n1 n2 e1 e2 e3 e4 e5) (GoodT l n1 n2 n3 n4 n5 e1 e2 e3 e4 e5 a5) (openL l) a5 n5 j L a bad)
  case first =>
    go_wp2
    go_loopw [6] (fun x wr => ∃ (j : Nat) (L : List Nat) (v : Value) (a : Nat) (bad : Bool), x = .int .i64 (j : Int) ∧ RR wr w.heap.size p q rv l a bad ∧ Pc w wr cc x0 n1 n2 n4 n3 v L ∧ RelT (BadTW n1 n2 e1 e2 e3 e4 e5) (GoodT l n1 n2 n3 n4 n5 e1 e2 e3 e4 e5 a5) (openL l) a5 n5 j L a bad) (fun x _ => (intOf x).toNat)
    case atStart => exact ⟨n5, [], .slice none 0 0, a5, b10, rfl, hR10, HPP.out, HRE.out⟩
    case round =>
      obtain ⟨j, L, v1, a, bad, rfl, hR, hP, hRE⟩ := hrel
      clear hR10 HPP HRE
      have hlen := hRE.len
      have HRE := Lib.hid hRE
      have HR := Lib.hid hR
      have HP := Lib.hid hP
      have k1 : wr.cell? ⟨q, 1, none⟩ = some (.bool bad) := hR.blk.cell 1
      have zq := hR.blk.lt
      obtain ⟨zc, cc0, fc⟩ := id hP.blk
      cases j with
      | zero =>
        cases bad with
        | true =>
          go_wp2
          go_meet
          exact ⟨0, L, v1, a, true, fun _ => rfl, HR.out, HP.out, HRE.out⟩
        | false =>
          go_wp2
          go_meet
          exact ⟨0, L, v1, a, false, fun _ => rfl, HR.out, HP.out, HRE.out⟩
      | succ j =>
        cases bad with
        | true =>
          go_wp2
          go_meet
          exact ⟨j + 1, L, v1, a, true, (fun h => by cases h), HR.out, HP.out, HRE.out⟩
        | false =>
          obtain ⟨x, e8, a8, hgd, hx, hnx⟩ := relT_step (openL_bin l) HRE.out (fun g => g.2.1)
          have hux : IntKind.u8.wrap (x : Int) = (x : Int) := by rw [IntKind.wrap_u8']; omega
          have k4 : wr.cell? ⟨cc, 4, none⟩ = some v1 := hP.blk.cell 4
          obtain ⟨i0, hi, hz0, hz1, hz2⟩ := info_parts byteInfo
          have HGD := Lib.hid hgd
          have HNX := Lib.hid hnx
          have HI := Lib.hid hi
          have HZ0 := Lib.hid hz0
          have HZ1 := Lib.hid hz1
          have HZ2 := Lib.hid hz2
          have hone : ∀ u ∈ [Value.int .u8 (x : Int)], u.oneCell' = true := by intro u hu; simp at hu; subst hu; rfl
          have HO := Lib.hid hone
          have HM3 : Hid (L.length + 1 ≤ maxLen) := Lib.hid (by unfold maxLen; omega)
          have HBY : Hid ((L.length + 1) * 1 ≤ 140737488355328) := Lib.hid (by omega)
          have HPQ : Hid (∀ b, (b = p ∨ b = q) → b < cc ∧ b ≠ x0 ∧ w.heap.size ≤ b) := Lib.hid (by have := HPW.out; have := HQW.out; rintro b (e | e) <;> omega)
          have HUX := Lib.hid hux
          have hj128 : j < 128 := by omega
          clear hgd hnx hi hz0 hz1 hz2 hone hR hP hRE cc0 hn5 hlen
          go_wp2
          go_region_law (first
            | (refine step_append_own rfl (.tmp 38) (.tmp 42) 29 rfl (cc + 1) 5 i0 (.int .u8 0) 1 1 Try.underlying29 HI.out HZ0.out HZ1.out HZ2.out rfl (by decide) v1 L.length (u8s L) (by simp [Act.eval]) (HROW.out _) ⟨w11.heap.size, 0, none⟩ 1 1 [.int .u8 (x : Int)] (by simp [Act.eval]) rfl HC.out HO.out HM3.out HBY.out HSZ.out ?_; intro v' w1 hown hgrow _ hwhere; obtain ⟨g, cap, hv1, _⟩ := row_at hown (by omega); subst hv1; have HO1 := Lib.hid hown; have HG1 := Lib.hid hgrow; have HPA := Lib.hid (HP11.out.app hgrow hown); have hmid := HP11.out.mid hgrow; have j0 : w1.cell? ⟨cc, 4, none⟩ = some v1 := hmid.cell 4; have jf := hmid.free; have jz := hmid.lt; clear hmid; clear hown hgrow hwhere)
            | (go_simp; go_at_call 73; refine (rput_c w.heap.size p q a false rv l x e8 a8 8 _ (HR.out.below (by repeat (with_reducible (first | exact Below.refl _ _ | assumption | apply ext_drew | apply ext_drewN)))) HGD.out).mono ?_; rintro e w11 ⟨b11, rfl, hR11, hM11, hb11⟩; have hP11 := (HP.out.below (by repeat (with_reducible (first | exact Below.refl _ _ | assumption | apply ext_drew | apply ext_drewN)))).mod hM11 HPQ.out; have k411 : w11.cell? ⟨cc, 4, none⟩ = some v1 := hP11.blk.cell 4; have f411 := hP11.blk.free; have z411 := hP11.blk.lt; have HROW := Lib.hid (fun o => row_below hP11.row (balloc w11 o)); have HC := Lib.hid (cell_one_new w11 (.int .u8 (x : Int)) 5); have HSZ : Hid (cc + 1 ≤ (w11.alloc (.cells #[.int .u8 (x : Int)] 5)).heap.size) := Lib.hid (by simp; omega); have HP11 := Lib.hid hP11; have HR11 := Lib.hid hR11; have HB11 := Lib.hid hb11; clear hP11 hR11 hM11 hb11))
          all_goals
            go_wp2
            go_roundw
            case rel => exact ⟨j, L ++ [x], .slice (some ⟨g, 0, none⟩) (L.length + 1) cap, a8, b11, by go_num, HR11.out.mod (grow_mod HG1.out) (HP11.out.out hpc) (HP11.out.out hqc) (fun b hb => HP11.out.out (HRL.out b hb)), HPA.out, HNX.out b11 (by simpa using HB11.out)⟩
            case measure => first | (simp [intOf]; done) | (simp [intOf]; omega)
  case rest =>
    clear hR10
    obtain ⟨j, L, v1, a, bad, hj, hR, hP, hRE⟩ := hcut
    have k1 : wc.cell? ⟨q, 1, none⟩ = some (.bool bad) := hR.blk.cell 1
    have zq := hR.blk.lt
    obtain ⟨zx, cx0, fx⟩ := id hP.x
    cases bad with
    | true =>
      have HNG : Hid (¬ GoodT l n1 n2 n3 n4 n5 e1 e2 e3 e4 e5 a5) := Lib.hid (hRE.yes rfl)
      have HP := Lib.hid hP
      clear hP hRE hR hj HPP HRE
      go_wp2
      exact bodyPost_ret (v := .tuple #[.agg #[.int .i64 0, .int .i64 0, .int .i64 0, .int .i64 0, .slice none 0 0], .iface 38 (.int .i64 3)]) (by simp [results, Try.results40, go_sem, *]) rfl (.inr ⟨HNG.out, rfl, (by have := HP.out.bel; repeat (with_reducible (first | assumption | (refine ext_setCell ?_ (HXW.out) _))))⟩)
    | false =>
      obtain rfl := hj rfl
      have hlen : L.length = n5 := hRE.len
      obtain ⟨ha, hL, hnb⟩ := hRE.no rfl
      rw [hlen] at hL ha
      have hal : a ≤ (openL l).length := by rw [openL_length]; exact hR.rd.le
      obtain ⟨A, cap, hv⟩ := row_form hP.row
      rw [hlen] at hv
      subst hv
      have hbd : e1 = 0 ∧ e2 = 0 ∧ e3 = 0 ∧ e4 = 0 ∧ e5 = 0 := by
        unfold BadTW at hnb
        omega
      have hG : ∀ (_ : RightP n1 n2 n4 n3 n5), pack (tellL n1 n2 n4 n3 L) = l → GoodT l n1 n2 n3 n4 n5 e1 e2 e3 e4 e5 a5 := fun hr hp => ⟨hbd, by omega, hr, by rw [← hL]; exact hp⟩
      have hG2 : GoodT l n1 n2 n3 n4 n5 e1 e2 e3 e4 e5 a5 → RightP n1 n2 n4 n3 n5 ∧ pack (tellL n1 n2 n4 n3 L) = l := fun h => ⟨h.2.2.1, by rw [hL]; exact h.2.2.2⟩
      have HG := Lib.hid hG
      have HG2 := Lib.hid hG2
      have HL := Lib.hid hL
      have HLT := Lib.hid hRE.lt
      have HLEN := Lib.hid hlen
      have HP := Lib.hid hP
      obtain ⟨zc, cc0, fc⟩ := id hP.blk
      clear hP hRE hR hj HPP HRE hG hG2 hL ha hlen hal hbd hnb
      by_cases hr : RightP n1 n2 n4 n3 n5
      · have HRP := Lib.hid hr
        clear hr
        go_wp2_with fail
        refine (right_yes n1 n2 n4 n3 A n5 cap _ HRP.out).mono ?_
        rintro e w12 ⟨rfl, hb12⟩
        have hP12 := HP.out.below hb12
        clear zc cc0 fc k1 zq zx cx0 fx hb12
        obtain ⟨zc, cc0, fc⟩ := id hP12.blk
        go_wp2_with fail
        refine (tell_yes n1 n2 n4 n3 A n5 cap L _ (Src.of_row hP12.row) HLEN.out.symm HLT.out HRP.out).mono ?_
        rintro e w13 ⟨A', c', rfl, hBs, hb13⟩
        obtain ⟨PL, hPL⟩ : ∃ PL, PL = pack (tellL n1 n2 n4 n3 L) := ⟨_, rfl⟩
        have hP8 : ∀ x ∈ PL, x < 256 := by rw [hPL]; exact pack_lt (tellL_bin _ _ _ _ _)
        have hPn : PL.length ≤ 1000000 := by rw [hPL, pack_length]; unfold bytesOf; have := tellL_le n1 n2 n4 n3 L; have h1 := varL_le (n1 : Int).toNat; have h2 := varL_le (n2 : Int).toNat; have h3 := HLEN.out; omega
        rw [← hPL] at hBs
        rw [← hPL]
        have HPL := Lib.hid hPL
        have HP8 := Lib.hid hP8
        have HPN := Lib.hid hPn
        have hP13 := hP12.below hb13
        clear hPL hP8 hPn hP12 zc cc0 fc hb13
        go_wp2_with fail
        refine (equal_c _ v PL l _ (Rdb.of_row hBs) (Rdb.of_src (HSR.out _ hP13.bel)) HPN.out hl HP8.out H8.out).mono ?_
        rintro e w14 ⟨⟨bb, rfl, hbb⟩, hb14⟩
        have hP14 := hP13.below hb14
        have HBB := Lib.hid hbb
        clear hBs hP13 hb14 hbb
        obtain ⟨zc, cc0, fc⟩ := id hP14.blk
        obtain ⟨zx, cx0, fx⟩ := id hP14.x
        have HP14 := Lib.hid hP14
        clear hP14
        cases bb with
        | true =>
          have HGO := Lib.hid (HG.out HRP.out (by rw [← HPL.out]; exact HBB.out.1 (by trivial)))
          go_wp2
          refine bodyPost_ret (v := .tuple #[.agg #[.int .i64 n1, .int .i64 n2, .int .i64 n4, .int .i64 n3, .slice A n5 cap], .nilIface]) (by simp [results, Try.results40, go_sem, *]) rfl (.inl ⟨HGO.out, A, cap, rfl, ?_, (by have := HP14.out.bel; repeat (with_reducible (first | assumption | (refine ext_setCell ?_ (HXW.out) _))))⟩)
          have hrow := HP14.out.row
          rw [HLEN.out, HL.out] at hrow
          have hx0 : (Value.slice A n5 cap).ownBlock ≠ some x0 := fun e => by have := (row_lt hrow e).2; omega
          have hbw := HXW.out
          refine bsOf_mono (B := cc + 1) ?_ (by omega)
          unfold BsOf
          rw [byts_len]
          repeat (first | exact hrow | (refine row_far ?_ hx0))
        | false =>
          have HNG : Hid (¬ GoodT l n1 n2 n3 n4 n5 e1 e2 e3 e4 e5 a5) := Lib.hid (fun h => by
            have h4 := (HG2.out h).2
            rw [← HPL.out] at h4
            have := HBB.out.2 h4
            cases this)
          go_wp2
          exact bodyPost_ret (v := .tuple #[.agg #[.int .i64 0, .int .i64 0, .int .i64 0, .int .i64 0, .slice none 0 0], .iface 38 (.int .i64 3)]) (by simp [results, Try.results40, go_sem, *]) rfl (.inr ⟨HNG.out, rfl, (by have := HP14.out.bel; repeat (with_reducible (first | assumption | (refine ext_setCell ?_ (HXW.out) _))))⟩)
      · have HNG : Hid (¬ GoodT l n1 n2 n3 n4 n5 e1 e2 e3 e4 e5 a5) := Lib.hid (fun h => hr (HG2.out h).1)
        have HRP := Lib.hid hr
        clear hr
        go_wp2_with fail
        refine (right_no n1 n2 n4 n3 A n5 cap _ HRP.out).mono ?_
        rintro e w12 ⟨rfl, hb12⟩
        have hP12 := HP.out.below hb12
        clear zc cc0 fc k1 zq zx cx0 fx hb12
        obtain ⟨zx, cx0, fx⟩ := id hP12.x
        have HP12 := Lib.hid hP12
        clear hP12
        go_wp2
        exact bodyPost_ret (v := .tuple #[.agg #[.int .i64 0, .int .i64 0, .int .i64 0, .int .i64 0, .slice none 0 0], .iface 38 (.int .i64 3)]) (by simp [results, Try.results40, go_sem, *]) rfl (.inr ⟨HNG.out, rfl, (by have := HP12.out.bel; repeat (with_reducible (first | assumption | (refine ext_setCell ?_ (HXW.out) _))))⟩)

end Go.Proofs.Ytefhmbmbhiehdaa
