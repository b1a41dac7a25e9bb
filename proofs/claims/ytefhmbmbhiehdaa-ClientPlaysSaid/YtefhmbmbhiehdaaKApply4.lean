/- The contract of gyreref.Apply. Conditions: none but that there are not too many. -/
import Derived.Test.YtefhmbmbhiehdaaKApply4w
namespace Go.Proofs.Ytefhmbmbhiehdaa
open Go.ChangeShapes Go.WideShapes Go.ChangeAt Go.RowKit Go.BigFrame
open B
set_option maxRecDepth 100000 in
set_option maxHeartbeats 16000000 in
theorem rapply_f (n1 : Nat) (A1 : Option Addr) (cap1 : Nat) (M1 : Nat → Nat → Int) (v : Value) (l : List Nat) (w : World) (hn1 : n1 ≤ 100000) (hZ : A1 = none → n1 = 0 ∧ cap1 = 0) (hR1 : Reads w A1 n1 11 M1) (hS : Src w v l) (h8 : ∀ b ∈ l, b < 256) (hl : l.length ≤ 100000) :
    Calls Try.prog 43 #[.slice A1 n1 cap1, v] w (RApplyPostF M1 n1 l w) := by
  have HR1 := Lib.hid hR1
  have HSR := Lib.hid hS
  have H8 := Lib.hid h8
  have HZ := Lib.hid hZ
  obtain ⟨AL, cL, rfl⟩ := src_form hS
  clear hR1 hS h8 hZ
  go_enter Try.func43, Try.ntmps43
  go_wp2_with fail
  refine (rright_c n1 A1 cap1 M1 _ (by omega) HR1.out).mono ?_
  rintro e w1 ⟨d1, rfl, hd1, hb1⟩
  cases d1 with
  | false =>
    have HNO : Hid (¬ RightV n1 M1) := Lib.hid (fun h => by have := hd1.2 h; cases this)
    clear hd1
    go_wp2
    exact bodyPost_ret (v := .tuple #[.slice none 0 0, .int .i64 1]) (by simp [results, Try.results43, go_sem, *]) rfl ⟨.inl ⟨HNO.out, rfl⟩, hb1⟩
  | true =>
    have HY1 : Hid (RightV n1 M1) := Lib.hid (hd1.1 rfl)
    have h60 : n1 ≤ 60 := HY1.out.2
    clear hd1 hn1
    go_wp2_with fail
    refine (ropen_c _ l _ (Rdb.of_src (HSR.out.below hb1)) H8.out hl).mono ?_
    rintro e w2 ⟨tv, rfl, htv, hb2⟩
    obtain ⟨tA, tC, rfl⟩ := rowz_form htv
    have hB2 : Below w.heap.size w w2 := hb1.trans (hb2.mono hb1.size)
    go_upto_region 5 with fail
    refine wp_fresh ?_
    rintro w2a hb3
    have p2 : Blk w2a w2.heap.size #[.slice tA (openL l).length tC, .int .i64 0] := Blk.below (by repeat (with_reducible (first | assumption | (apply Blk.at; simp; done) | apply Blk.alloc | apply Blk.drew | apply Blk.drewN | apply Blk.more | apply Blk.put | (apply Blk.far; focus (first | assumption | (apply Ne.symm; assumption) | (simp; done) | (simp <;> omega)))))) hb3
    have c62 : Blk w2a (w2.heap.size + 1) #[.pointer (some ⟨w2.heap.size, 0, none⟩)] := Blk.below (by repeat (with_reducible (first | assumption | (apply Blk.at; simp; done) | apply Blk.alloc | apply Blk.drew | apply Blk.drewN | apply Blk.more | apply Blk.put | (apply Blk.far; focus (first | assumption | (apply Ne.symm; assumption) | (simp; done) | (simp <;> omega)))))) hb3
    have q2 : Blk w2a (w2.heap.size + 1 + 1) #[.bool false] := Blk.below (by repeat (with_reducible (first | assumption | (apply Blk.at; simp; done) | apply Blk.alloc | apply Blk.drew | apply Blk.drewN | apply Blk.more | apply Blk.put | (apply Blk.far; focus (first | assumption | (apply Ne.symm; assumption) | (simp; done) | (simp <;> omega)))))) hb3
    have hv2 : Below w2.heap.size w2 w2a := (by repeat (with_reducible (first | exact Below.refl _ _ | assumption | apply ext_drew | apply ext_drewN | apply ext_alloc | apply ext_more | (refine ext_setCell ?_ (by first | assumption | (simp <;> omega)) _) | (refine ext_below ?_ (by assumption)))))
    have hsa := hv2.size
    have hql := q2.lt
    clear hb3
    go_upto_region 7 with fail
    refine wp_fresh ?_
    rintro w3 hb3
    have p3 := p2.below (w' := w3) ((by repeat (with_reducible (first | exact Below.refl _ _ | assumption | apply ext_drew | apply ext_drewN | apply ext_alloc | apply ext_more | (refine ext_setCell ?_ (by first | assumption | (simp <;> omega)) _) | (refine ext_below ?_ (by assumption))))))
    have c63 := c62.below (w' := w3) ((by repeat (with_reducible (first | exact Below.refl _ _ | assumption | apply ext_drew | apply ext_drewN | apply ext_alloc | apply ext_more | (refine ext_setCell ?_ (by first | assumption | (simp <;> omega)) _) | (refine ext_below ?_ (by assumption))))))
    have q3 := q2.below (w' := w3) ((by repeat (with_reducible (first | exact Below.refl _ _ | assumption | apply ext_drew | apply ext_drewN | apply ext_alloc | apply ext_more | (refine ext_setCell ?_ (by first | assumption | (simp <;> omega)) _) | (refine ext_below ?_ (by assumption))))))
    have c83 : Blk w3 w2a.heap.size #[.func (.func 83) #[] #[.pointer (some ⟨w2.heap.size + 1 + 1, 0, none⟩)]] := Blk.below (by repeat (with_reducible (first | assumption | (apply Blk.at; simp; done) | apply Blk.alloc | apply Blk.drew | apply Blk.drewN | apply Blk.more | apply Blk.put | (apply Blk.far; focus (first | assumption | (apply Ne.symm; assumption) | (simp; done) | (simp <;> omega)))))) hb3
    have hv3' : Below w2a.heap.size w2a w3 := (by repeat (with_reducible (first | exact Below.refl _ _ | assumption | apply ext_drew | apply ext_drewN | apply ext_alloc | apply ext_more | (refine ext_setCell ?_ (by first | assumption | (simp <;> omega)) _) | (refine ext_below ?_ (by assumption)))))
    have hv3 : Below w2.heap.size w2 w3 := ext_below hv2 hv3'
    have hB3 : Below w.heap.size w w3 := ext_below hB2 hv3
    have hsz := hB2.size
    obtain ⟨B0, hB0⟩ : ∃ B0, B0 = w1.heap.size := ⟨_, rfl⟩
    rw [← hB0] at htv
    have hDR : DR w3 B0 w2.heap.size (w2.heap.size + 1 + 1) (.slice tA (openL l).length tC) (openL l) 0 false := ⟨⟨p3, row_below htv hv3, fun e => by have := (row_lt htv e).1; omega, openL_bin l, by rw [openL_length]; omega, by omega⟩, q3, by omega, fun e => by have := (row_lt htv e).1; omega⟩
    have HC : Hid (Cd w3 w2.heap.size (w2.heap.size + 1 + 1) w2a.heap.size (w2.heap.size + 1) (.slice tA (openL l).length tC)) := Lib.hid ⟨p3.lt, q3.lt, c83.lt, c63.lt, fun b hb => Nat.lt_of_lt_of_le (row_lt htv hb).1 hv3.size, by omega, by omega⟩
    obtain ⟨tv, htvv⟩ : ∃ tv, tv = Value.slice tA (openL l).length tC := ⟨_, rfl⟩
    rw [← htvv] at hDR HC
    obtain ⟨p, hp⟩ : ∃ p, p = w2.heap.size := ⟨_, rfl⟩
    obtain ⟨c6, hc6⟩ : ∃ p, p = w2.heap.size + 1 := ⟨_, rfl⟩
    obtain ⟨q, hq⟩ : ∃ p, p = w2.heap.size + 1 + 1 := ⟨_, rfl⟩
    obtain ⟨c8, hc8⟩ : ∃ p, p = w2a.heap.size := ⟨_, rfl⟩
    rw [← hc8, ← hq, ← hc6, ← hp] at HC
    rw [← hq, ← hp] at hDR
    rw [← hc8, ← hq] at c83
    rw [← hc6, ← hp] at c63
    rw [← hc8, ← hq, ← hc6, ← hp]
    have HWS : Hid (w.heap.size ≤ w3.heap.size) := Lib.hid hB3.size
    have HPW : Hid (w.heap.size ≤ p ∧ w.heap.size ≤ q) := Lib.hid ⟨by omega, by omega⟩
    have HBE : Hid (∀ wx, Mod (fun b => b = p ∨ b = q) w3 wx → Below w.heap.size w wx) := Lib.hid (fun wx hm => hB3.trans (hm.toBelow hB3.size (fun b hb e => by have := HPW.out; rcases e with e | e <;> omega)))
    have HRD := Lib.hid (HR1.out.below hB3)
    have HD0 := Lib.hid hDR
    have HE8 := Lib.hid c83
    have HE6 := Lib.hid c63
    obtain ⟨X, hX⟩ : ∃ X, X = applyR (openL l) ((openL l).length + 1) 0 (rowsOf M1 n1) 0 := ⟨_, rfl⟩
    have HXA : Hid (ansR M1 n1 l = ansV M1 n1 l X) := Lib.hid (by rw [hX]; rfl)
    have HX0 := Lib.hid hX
    clear hX hc8 hq hc6 hp htvv hDR hB0 hsz hB3 hv3 hv3' hv2 hsa hql p2 c62 q2 c83 q3 c63 p3 hb3 hb1 hb2 hB2 HPW htv
    go_wp2_with (at_builtin; go_must (refine app_rows rfl (.tmp 32) (.tmp 33) 32 rfl (e := 102) Try.underlying32 seenInfoR rfl (by decide) (by decide) w3.heap.size (.slice (some ⟨w3.heap.size, 0, none⟩) 0 0) 0 [] rfl (own_empty 102 11) rfl (HRD.out.below (balloc _ _)) HZ.out (by omega) (by simp) ?_; intro v4 w4 hown hmod hwh; rw [Nat.zero_add, List.nil_append] at hown; have hb4 : Below w3.heap.size w3 w4 := (balloc w3 _).trans (hmod.toBelow (by simp) (fun b hb e => by simp [Value.ownBlock] at e; omega)); obtain ⟨SA0, SC0, rfl⟩ := rowz_form hown; have H4 := Lib.hid (Rw.of_rows (w3 := w3) hown (Nat.le_refl _)); have HB4 := Lib.hid hb4; clear hown hmod hwh hb4))
    go_loopw [10, 11] (fun tx tl wr => ∃ (a f : Nat) (last : Int) (bad : Bool) (all : List Sn) (SA : Option Addr) (SC : Nat), tl = .int .i64 last ∧ tx = .slice SA all.length SC ∧ 8 * l.length < a + f ∧ (bad = false → applyR (openL l) f a all last = X) ∧ (bad = true → X = none) ∧ 0 ≤ last ∧ last ≤ a * 1099511627777 ∧ a ≤ 8 * l.length ∧ all.length ≤ 121 ∧ (∀ r ∈ all, last < r.id → InR r) ∧ Sd w3 wr B0 p q c8 c6 tv (openL l) a bad SA all.length SC all) (fun _ _ wr => 8 * l.length - posOf wr p)
    case atStart => exact ⟨0, (openL l).length + 1, 0, false, rowsOf M1 n1, SA0, SC0, rfl, by rw [rowsOf_length], by rw [openL_length]; omega, fun _ => HX0.out.symm, (fun h => by cases h), by omega, by omega, by omega, by rw [rowsOf_length]; omega, inr_rows HY1.out, ⟨HD0.out.below HB4.out, H4.out, HE8.out.below HB4.out, HE6.out.below HB4.out, Mod.of_below HB4.out⟩⟩
    case round =>
      obtain ⟨a, f, last, bad, all, SA, SC, rfl, rfl, hfa, hXf, hXt, hl0, hl1, ha8, hal, hIn, hSd⟩ := hrel
      have HIN := Lib.hid hIn
      have hdp := posOf_tp hSd.dr.tp
      have HPOS5 := Lib.hid hdp
      obtain ⟨w5, hw5⟩ : ∃ w5, w5 = wr := ⟨_, rfl⟩
      rw [← hw5] at hSd
      rw [← hw5]
      have HW5 := Lib.hid hw5
      clear hIn hw5 HX0 HD0 HE8 HE6 H4 HB4 HRD hdp
      cases bad with
      | true =>
        have HXN : Hid (X = none) := Lib.hid (hXt rfl)
        have H5 := Lib.hid hSd
        clear hXf hXt hSd
        have q_ := H5.out.dr.blk
        obtain ⟨zq, cq, fq⟩ := id q_
        have e8_ := H5.out.e8
        obtain ⟨z8, c8', f8⟩ := id e8_
        have e6_ := H5.out.e6
        obtain ⟨z6, c6', f6⟩ := id e6_
        clear q_ e8_ e6_
        go_wp2_with fail
        refine (rdelta_d n1 all.length A1 SA cap1 SC M1 (mx all) w5 (by omega) (by omega) (HR1.out.below (HBE.out _ H5.out.md)) H5.out.rw.reads).mono ?_
        rintro e w7 ⟨v7, A7, c7, rfl, hv7, hr7, hb7⟩
        have hB7 : Below w.heap.size w w7 := (HBE.out _ H5.out.md).trans (hb7.mono (HBE.out _ H5.out.md).size)
        have q7 := H5.out.dr.blk.below hb7
        subst hv7
        clear zq cq fq hb7 hr7
        obtain ⟨zq, cq, fq⟩ := id q7
        go_wp2
        exact bodyPost_ret (v := .tuple #[.slice none 0 0, .int .i64 3]) (by simp [results, Try.results43, go_sem, *]) rfl ⟨.inr (.inl ⟨HY1.out, (by rw [HXA.out, HXN.out]; rfl), rfl⟩), hB7⟩
      | false =>
        obtain ⟨g, rfl⟩ : ∃ g, f = g + 1 := ⟨f - 1, by omega⟩
        have HX : Hid (applyR (openL l) (g + 1) a all last = X) := Lib.hid (hXf rfl)
        have H5 := Lib.hid hSd
        clear hXf hXt hSd
        obtain ⟨gn, ge, ga, hg⟩ : ∃ n e a', getD (openL l) a 2 = (n, e, a') := ⟨_, _, _, rfl⟩
        have hg4 := getD_lt (openL_bin l) a (k := 2) (by decide)
        have hg4' : 0 ≤ gn ∧ gn < 4 := by rw [show ((2 : Nat) : Int) = 2 from rfl, hg] at hg4; simpa using hg4
        have HG := Lib.hid hg
        clear hg4 hg
        have q_ := H5.out.dr.blk
        obtain ⟨zq, cq, fq⟩ := id q_
        have e8_ := H5.out.e8
        obtain ⟨z8, c8', f8⟩ := id e8_
        have e6_ := H5.out.e6
        obtain ⟨z6, c6', f6⟩ := id e6_
        clear q_ e8_ e6_
        go_wp2
        have hd5 := H5.out.below (w' := w5.drew) (ext_drew (Below.refl _ _))
        have hmm0 : Mod (fun b => b = p ∨ b = q) w5 w5.drew := (Mod.refl _ _).drew
        have QQ : Hid (∀ wx, Mod (fun b => b = p ∨ b = q) w5 wx → wx.cell? ⟨c8, 0, none⟩ = some (.func (.func 83) #[] #[.pointer (some ⟨q, 0, none⟩)]) ∧ wx.cell? ⟨c6, 0, none⟩ = some (.pointer (some ⟨p, 0, none⟩))) := Lib.hid (fun wx hm => ⟨(hm.cell H5.out.e8.lt (by have := HC.out.n8; omega)).trans (H5.out.e8.cell 0), (hm.cell H5.out.e6.lt (by have := HC.out.n6; omega)).trans (H5.out.e6.cell 0)⟩)
        clear zq cq fq z8 c8' f8 z6 c6' f6
        refine region_held_tail (fun w' => w'.cell? ⟨c8, 0, none⟩ = some (.func (.func 83) #[] #[.pointer (some ⟨q, 0, none⟩)]) ∧ w'.cell? ⟨c6, 0, none⟩ = some (.pointer (some ⟨p, 0, none⟩))) 6 (by as_aux_lemma => kernel_rfl) (by as_aux_lemma => kernel_rfl) (QQ.out _ hmm0) (fun hHeld => ?_)
        simp only [List.take_succ_cons, List.take_zero]
        refine wpAnyH_take (i := 0) (v := ?vra_0) rfl (by as_aux_lemma => kernel_rfl) (by as_aux_lemma => kernel_rfl) (by as_aux_lemma => kernel_rfl) (fun _ _ _ h => h) (Or.inl ⟨by kernel_rfl, ?yra_0⟩) hHeld ?rra_0
        case yra_0 =>
          intro w hSw
          try dsimp only at hSw
          obtain ⟨e0, e1⟩ := hSw
          go_simp
          try with_reducible rfl
        try simp only [Act.put, List.setIfInBounds_toArray]
        refine wpAnyH_take (i := 1) (v := ?vra_1) rfl (by as_aux_lemma => kernel_rfl) (by as_aux_lemma => kernel_rfl) (by as_aux_lemma => kernel_rfl) (fun _ _ _ h => h) (Or.inl ⟨by kernel_rfl, ?yra_1⟩) hHeld ?rra_1
        case yra_1 =>
          intro w hSw
          try dsimp only at hSw
          obtain ⟨e0, e1⟩ := hSw
          go_simp
          try with_reducible rfl
        try simp only [Act.put]
        refine wpAnyH_ready (rs := [2]) (by as_aux_lemma => kernel_rfl) (by simp) ?_
        refine AllReadyH.cons (o := _) rfl (fun K hK => ?_) AllReadyH.nil
        go_simp
        refine (tdet_eq (tget_c B0 p a 2 tv (openL l) _ hd5.dr.tp) HG.out).mono ?_
        rintro e w6 ⟨rfl, hT6, hm6⟩
        have hd6 := hd5.tape HC.out hT6 hm6
        have hmm1 := hmm0.trans (hm6.mono (T := fun b => b = p ∨ b = q) fun _ _ h => .inl h)
        try dsimp only
        refine hK.out _ _ ?_ (fun hHeld => ?_)
        · exact QQ.out _ hmm1
        clear hK K
        try simp only [Act.put, List.setIfInBounds_toArray, List.set_cons_zero, List.set_cons_succ]
        refine wpAnyH_take (i := 3) (v := ?vra_3) rfl (by as_aux_lemma => kernel_rfl) (by as_aux_lemma => kernel_rfl) (by as_aux_lemma => kernel_rfl) (fun _ _ _ h => h) (Or.inl ⟨by kernel_rfl, ?yra_3⟩) hHeld ?rra_3
        case yra_3 =>
          intro w hSw
          try dsimp only at hSw
          obtain ⟨e0, e1⟩ := hSw
          go_simp
          try with_reducible rfl
        try simp only [Act.put, List.setIfInBounds_toArray]
        refine wpAnyH_take (i := 4) (v := ?vra_4) rfl (by as_aux_lemma => kernel_rfl) (by as_aux_lemma => kernel_rfl) (by as_aux_lemma => kernel_rfl) (fun _ _ _ h => h) (Or.inl ⟨by kernel_rfl, ?yra_4⟩) hHeld ?rra_4
        case yra_4 =>
          intro w hSw
          try dsimp only at hSw
          obtain ⟨e0, e1⟩ := hSw
          go_simp
          try with_reducible rfl
        try simp only [Act.put]
        refine wpAnyH_ready (rs := [5]) (by as_aux_lemma => kernel_rfl) (by simp) ?_
        refine AllReadyH.cons (o := _) rfl (fun K hK => ?_) AllReadyH.nil
        go_simp
        refine (rnumP_c q _ gn ge _ hd6.dr.blk).mono ?_
        rintro e w7 ⟨rfl, hQ7, hm7⟩
        have hd7 := hd6.flag HC.out hQ7 hm7
        have hmm2 := hmm1.trans (hm7.mono (T := fun b => b = p ∨ b = q) fun _ _ h => .inr h)
        try dsimp only
        refine hK.out _ _ ?_ (fun hHeld => ?_)
        · exact QQ.out _ hmm2
        clear hK K
        try simp only [Act.put, List.setIfInBounds_toArray, List.set_cons_zero, List.set_cons_succ]
        refine wpAnyH_done (by as_aux_lemma => kernel_rfl) ?_ _
        clear hHeld
        simp only [TailQ, List.drop_succ_cons, List.drop_zero]
        have H7 := Lib.hid hd7
        clear hd5 hd6 hd7 hT6 hm6 hQ7 hm7 hmm0 hmm1 hmm2 QQ
        by_cases hge : ge = 0
        · subst hge
          have e1 : (false || decide ((0 : Int) ≠ 0)) = false := by decide
          rw [e1] at H7
          have hgx := getD_ok (k := 2) (by decide) HG.out
          have hga8 : a + 2 ≤ 8 * l.length := by have := hgx.2; rw [openL_length] at this; exact this
          have hga : ga = a + 2 := hgx.1
          clear e1 hgx
          have q_ := H7.out.dr.blk
          obtain ⟨zq, cq, fq⟩ := id q_
          have e8_ := H7.out.e8
          obtain ⟨z8, c8', f8⟩ := id e8_
          have e6_ := H7.out.e6
          obtain ⟨z6, c6', f6⟩ := id e6_
          clear q_ e8_ e6_
          by_cases hg3 : gn = 3
          · have HXN : Hid (X = some all) := Lib.hid (by rw [← HX.out]; have h1 := HG.out; rw [hg3] at h1; exact R_end h1)
            subst hg3
            clear HX HG hl0 hl1
            go_wp2_with fail
            refine (rdelta_d n1 all.length A1 SA cap1 SC M1 (mx all) w7 (by omega) (by omega) (HR1.out.below (HBE.out _ H7.out.md)) H7.out.rw.reads).mono ?_
            rintro e w7 ⟨v7, A7, c7, rfl, hv7, hr7, hb7⟩
            have hB7 : Below w.heap.size w w7 := (HBE.out _ H7.out.md).trans (hb7.mono (HBE.out _ H7.out.md).size)
            have q7 := H7.out.dr.blk.below hb7
            have HO7 := Lib.hid (H7.out.rw.reads.below hb7)
            have HNO := Lib.hid (And.intro H7.out.rw.nil H7.out.rw.cap)
            have HFR : Hid (0 < all.length → ∀ x, SA = some x → w.heap.size ≤ x.block) := Lib.hid (fun hn x e => by obtain ⟨b, e2, hb, _⟩ := H7.out.rw.tab hn; rw [e] at e2; cases e2; exact Nat.le_trans HWS.out hb)
            subst hv7
            obtain ⟨N, hN⟩ : ∃ N, N = dN M1 n1 (mx all) all.length := ⟨_, rfl⟩
            obtain ⟨LL, hL⟩ : ∃ L, L = dL M1 n1 (mx all) all.length := ⟨_, rfl⟩
            have HL8 : Hid (∀ b ∈ LL, b < 256) := Lib.hid (by rw [hL]; exact dL_lt _ _ _ _)
            rw [← hL] at hr7
            rw [← hL, ← hN]
            have HL := Lib.hid hL
            have HN := Lib.hid hN
            have hc1 := conv_rdb hr7
            have hc2 := conv_rdb (Rdb.of_src (HSR.out.below hB7))
            clear zq cq fq hb7 hr7 hL hN
            obtain ⟨zq, cq, fq⟩ := id q7
            by_cases hN0 : N = 0
            · have dN0 : (N != 0) = false := by simpa using hN0
              by_cases heq : LL = l
              · have HYA : Hid (ansR M1 n1 l = some all) := Lib.hid (by rw [HXA.out, HXN.out]; exact ansV_yes ⟨by rw [← HN.out]; exact hN0, by rw [← HL.out]; exact heq⟩)
                subst heq
                clear hN0
                go_wp2
                exact bodyPost_ret (v := .tuple #[.slice SA all.length SC, .int .i64 0]) (by simp [results, Try.results43, go_sem, *]) rfl ⟨.inr (.inr ⟨HY1.out, all, SA, SC, HYA.out, rfl, HNO.out.1, HNO.out.2, HO7.out, HFR.out⟩), hB7⟩
              · have HNA : Hid (ansR M1 n1 l = none) := Lib.hid (by rw [HXA.out, HXN.out]; exact ansV_no (fun h => heq (by rw [HL.out]; exact h.2)))
                have hne : ((strB LL).toList == (strB l).toList) = false := bne_strS (fun h => heq (strB_injS HL8.out H8.out h))
                clear heq hN0
                go_wp2
                exact bodyPost_ret (v := .tuple #[.slice none 0 0, .int .i64 3]) (by simp [results, Try.results43, go_sem, *]) rfl ⟨.inr (.inl ⟨HY1.out, HNA.out, rfl⟩), hB7⟩
            · have dN0 : (N != 0) = true := by simpa using hN0
              have HNA : Hid (ansR M1 n1 l = none) := Lib.hid (by rw [HXA.out, HXN.out]; exact ansV_no (fun h => hN0 (by rw [HN.out]; exact h.1)))
              clear hN0
              go_wp2
              exact bodyPost_ret (v := .tuple #[.slice none 0 0, .int .i64 3]) (by simp [results, Try.results43, go_sem, *]) rfl ⟨.inr (.inl ⟨HY1.out, HNA.out, rfl⟩), hB7⟩
          · have dg3 : (gn == 3) = false := by simpa using hg3
            obtain ⟨dn, de, da, hd⟩ : ∃ n e a', varD (openL l) ga = (n, e, a') := ⟨_, _, _, rfl⟩
            have HDV := Lib.hid hd
            clear hd
            go_wp2
            have hd7 := H7.out.below (w' := w7.drew) (ext_drew (Below.refl _ _))
            have hmm0 : Mod (fun b => b = p ∨ b = q) w7 w7.drew := (Mod.refl _ _).drew
            have QQ : Hid (∀ wx, Mod (fun b => b = p ∨ b = q) w7 wx → wx.cell? ⟨c8, 0, none⟩ = some (.func (.func 83) #[] #[.pointer (some ⟨q, 0, none⟩)]) ∧ wx.cell? ⟨c6, 0, none⟩ = some (.pointer (some ⟨p, 0, none⟩))) := Lib.hid (fun wx hm => ⟨(hm.cell H7.out.e8.lt (by have := HC.out.n8; omega)).trans (H7.out.e8.cell 0), (hm.cell H7.out.e6.lt (by have := HC.out.n6; omega)).trans (H7.out.e6.cell 0)⟩)
            clear zq cq fq z8 c8' f8 z6 c6' f6
            refine region_held_tail (fun w' => w'.cell? ⟨c8, 0, none⟩ = some (.func (.func 83) #[] #[.pointer (some ⟨q, 0, none⟩)]) ∧ w'.cell? ⟨c6, 0, none⟩ = some (.pointer (some ⟨p, 0, none⟩))) 6 (by as_aux_lemma => kernel_rfl) (by as_aux_lemma => kernel_rfl) (QQ.out _ hmm0) (fun hHeld => ?_)
            simp only [List.take_succ_cons, List.take_zero]
            refine wpAnyH_take (i := 0) (v := ?vrb_0) rfl (by as_aux_lemma => kernel_rfl) (by as_aux_lemma => kernel_rfl) (by as_aux_lemma => kernel_rfl) (fun _ _ _ h => h) (Or.inl ⟨by kernel_rfl, ?yrb_0⟩) hHeld ?rrb_0
            case yrb_0 =>
              intro w hSw
              try dsimp only at hSw
              obtain ⟨e0, e1⟩ := hSw
              go_simp
              try with_reducible rfl
            try simp only [Act.put, List.setIfInBounds_toArray]
            refine wpAnyH_take (i := 1) (v := ?vrb_1) rfl (by as_aux_lemma => kernel_rfl) (by as_aux_lemma => kernel_rfl) (by as_aux_lemma => kernel_rfl) (fun _ _ _ h => h) (Or.inl ⟨by kernel_rfl, ?yrb_1⟩) hHeld ?rrb_1
            case yrb_1 =>
              intro w hSw
              try dsimp only at hSw
              obtain ⟨e0, e1⟩ := hSw
              go_simp
              try with_reducible rfl
            try simp only [Act.put]
            refine wpAnyH_ready (rs := [2]) (by as_aux_lemma => kernel_rfl) (by simp) ?_
            refine AllReadyH.cons (o := _) rfl (fun K hK => ?_) AllReadyH.nil
            go_simp
            refine (tdet_eq (tvar_c B0 p ga tv (openL l) _ hd7.dr.tp) HDV.out).mono ?_
            rintro e w8 ⟨rfl, hT8, hm8⟩
            have hd8 := hd7.tape HC.out hT8 hm8
            have hmm1 := hmm0.trans (hm8.mono (T := fun b => b = p ∨ b = q) fun _ _ h => .inl h)
            try dsimp only
            refine hK.out _ _ ?_ (fun hHeld => ?_)
            · exact QQ.out _ hmm1
            clear hK K
            try simp only [Act.put, List.setIfInBounds_toArray, List.set_cons_zero, List.set_cons_succ]
            refine wpAnyH_take (i := 3) (v := ?vrb_3) rfl (by as_aux_lemma => kernel_rfl) (by as_aux_lemma => kernel_rfl) (by as_aux_lemma => kernel_rfl) (fun _ _ _ h => h) (Or.inl ⟨by kernel_rfl, ?yrb_3⟩) hHeld ?rrb_3
            case yrb_3 =>
              intro w hSw
              try dsimp only at hSw
              obtain ⟨e0, e1⟩ := hSw
              go_simp
              try with_reducible rfl
            try simp only [Act.put, List.setIfInBounds_toArray]
            refine wpAnyH_take (i := 4) (v := ?vrb_4) rfl (by as_aux_lemma => kernel_rfl) (by as_aux_lemma => kernel_rfl) (by as_aux_lemma => kernel_rfl) (fun _ _ _ h => h) (Or.inl ⟨by kernel_rfl, ?yrb_4⟩) hHeld ?rrb_4
            case yrb_4 =>
              intro w hSw
              try dsimp only at hSw
              obtain ⟨e0, e1⟩ := hSw
              go_simp
              try with_reducible rfl
            try simp only [Act.put]
            refine wpAnyH_ready (rs := [5]) (by as_aux_lemma => kernel_rfl) (by simp) ?_
            refine AllReadyH.cons (o := _) rfl (fun K hK => ?_) AllReadyH.nil
            go_simp
            refine (rnumP_c q _ dn de _ hd8.dr.blk).mono ?_
            rintro e w9 ⟨rfl, hQ9, hm9⟩
            have hd9 := hd8.flag HC.out hQ9 hm9
            have hmm2 := hmm1.trans (hm9.mono (T := fun b => b = p ∨ b = q) fun _ _ h => .inr h)
            try dsimp only
            refine hK.out _ _ ?_ (fun hHeld => ?_)
            · exact QQ.out _ hmm2
            clear hK K
            try simp only [Act.put, List.setIfInBounds_toArray, List.set_cons_zero, List.set_cons_succ]
            refine wpAnyH_done (by as_aux_lemma => kernel_rfl) ?_ _
            clear hHeld
            simp only [TailQ, List.drop_succ_cons, List.drop_zero]
            have H9 := Lib.hid hd9
            clear hd7 hd8 hd9 hT8 hm8 hQ9 hm9 hmm0 hmm1 hmm2 QQ
            by_cases hde : de = 0
            · subst hde
              have e1 : (false || decide ((0 : Int) ≠ 0)) = false := by decide
              rw [e1] at H9
              have hdv := varD_ge HDV.out
              have hda8 : da ≤ 8 * l.length := by have := H9.out.dr.tp.le; rw [openL_length] at this; exact this
              clear e1
              have q_ := H9.out.dr.blk
              obtain ⟨zq, cq, fq⟩ := id q_
              have e8_ := H9.out.e8
              obtain ⟨z8, c8', f8⟩ := id e8_
              have e6_ := H9.out.e6
              obtain ⟨z6, c6', f6⟩ := id e6_
              clear q_ e8_ e6_
              by_cases hdn : 1099511627776 < dn
              · have HXN : Hid (X = none) := Lib.hid (by rw [← HX.out]; exact R_var HG.out hg3 HDV.out (.inr (.inl hdn)))
                have d40 : decide (1099511627776 < dn) = true := decide_eq_true hdn
                clear hdn
                go_wp2
                exact bodyPost_ret (v := .tuple #[.slice none 0 0, .int .i64 3]) (by simp [results, Try.results43, go_sem, *]) rfl ⟨.inr (.inl ⟨HY1.out, (by rw [HXA.out, HXN.out]; rfl), rfl⟩), HBE.out _ H9.out.md⟩
              · have d40 : decide (1099511627776 < dn) = false := decide_eq_false hdn
                by_cases h120 : 120 < all.length
                · have HXN : Hid (X = none) := Lib.hid (by rw [← HX.out]; exact R_var HG.out hg3 HDV.out (.inr (.inr h120)))
                  have d120 : decide (120 < (all.length : Int)) = true := decide_eq_true (by omega)
                  clear h120
                  go_wp2
                  exact bodyPost_ret (v := .tuple #[.slice none 0 0, .int .i64 3]) (by simp [results, Try.results43, go_sem, *]) rfl ⟨.inr (.inl ⟨HY1.out, (by rw [HXA.out, HXN.out]; rfl), rfl⟩), HBE.out _ H9.out.md⟩
                · have d120 : decide (120 < (all.length : Int)) = false := decide_eq_false (by omega)
                  obtain ⟨now, hnow⟩ : ∃ now, now = last + (dn + 1) := ⟨_, rfl⟩
                  have HNOW := Lib.hid hnow
                  have hn0 : 0 ≤ now ∧ now ≤ da * 1099511627777 := by omega
                  have hln : last < now := by omega
                  go_wp2
                  rw [show last + (dn + 1) = now from hnow.symm]
                  clear hnow
                  go_loopw [14] (fun ti wx => ∃ k : Nat, k ≤ all.length ∧ ti = .int .i64 k ∧ all.take k ++ lowR now (all.drop k) = lowR now all ∧ highR now (all.drop k) = highR now all ∧ w9 = wx) (fun ti _ => all.length - (intOf ti).toNat)
                  case atStart => exact ⟨0, by omega, rfl, by simp, by simp, rfl⟩
                  case round =>
                    obtain ⟨k, hk, rfl, hlo, hhi, hw⟩ := hrel
                    rw [← hw]
                    have HLO := Lib.hid hlo
                    have HHI := Lib.hid hhi
                    have HWW := Lib.hid hw
                    clear hlo hhi hw
                    by_cases hin : k < all.length
                    · obtain ⟨r, hr⟩ : ∃ r, all[k]? = some r := ⟨_, List.getElem?_eq_getElem hin⟩
                      have hdr : all.drop k = r :: all.drop (k + 1) := by
                        rw [List.drop_eq_getElem_cons hin]
                        have := List.getElem?_eq_getElem hin
                        rw [hr] at this
                        rw [Option.some.inj this]
                      obtain ⟨bT, hbS, hbB, hT⟩ := H9.out.rw.tab (by omega)
                      subst hbS
                      have hmx : ∀ j, mx all k j = r.get j := fun j => by unfold mx; rw [hr]; rfl
                      have a0 : w9.cell? ⟨bT, k * 11, none⟩ = some (.int .i64 r.id) := by have := hT.cell hin (j := 0) (by decide); rw [hmx] at this; exact this
                      have HT := Lib.hid hT
                      have HMX := Lib.hid hmx
                      have HRR := Lib.hid hr
                      clear hT hmx hr
                      by_cases hlt : r.id < now
                      · have dlt : decide (r.id < now) = true := decide_eq_true hlt
                        have hlc := low_cons (now := now) (r := r) (t := all.drop (k + 1)) hlt
                        have HLO2 : Hid (all.take (k + 1) ++ lowR now (all.drop (k + 1)) = lowR now all) := Lib.hid (by rw [← HLO.out, hdr, hlc.1, List.take_add_one, HRR.out]; simp)
                        have HHI2 : Hid (highR now (all.drop (k + 1)) = highR now all) := Lib.hid (by rw [← HHI.out, hdr, hlc.2])
                        clear hlt hlc hdr HLO HHI
                        go_wp2
                        go_roundw
                        case rel => exact ⟨k + 1, by omega, by go_num, HLO2.out, HHI2.out, trivial⟩
                        case measure => simp [intOf]; omega
                      · have dlt : decide (r.id < now) = false := decide_eq_false hlt
                        have hls := low_stop (now := now) (r := r) (t := all.drop (k + 1)) hlt
                        have HLOW : Hid (lowR now all = all.take k) := Lib.hid (by rw [← HLO.out, hdr, hls.1, List.append_nil])
                        have HHIR : Hid (highR now all = r :: all.drop (k + 1)) := Lib.hid (by rw [← HHI.out, hdr, hls.2])
                        have HHIGH : Hid (highR now all = all.drop k) := Lib.hid (by rw [HHIR.out, hdr])
                        clear hls hdr HLO HHI hlt
                        by_cases heq : r.id = now
                        · have deq : (r.id == now) = true := by simpa using heq
                          have HEQ : Hid (r.id = now) := Lib.hid heq
                          clear heq
                          by_cases hg1 : gn = 1
                          · have dg1 : (gn == 1) = true := by simpa using hg1
                            have dg0 : (gn == 0) = false := by simp; omega
                            have dg2 : (gn == 2) = false := by simp; omega
                            have HXN : Hid (X = none) := Lib.hid (by rw [← HX.out]; have h1 := HG.out; rw [hg1] at h1; exact R_dup (r := r) (t := all.drop (k + 1)) h1 HDV.out (by omega) (by omega) (by rw [← HNOW.out]; exact HHIR.out) (by rw [← HNOW.out]; exact HEQ.out))
                            go_wp2
                            exact bodyPost_ret (v := .tuple #[.slice none 0 0, .int .i64 3]) (by simp [results, Try.results43, go_sem, *]) rfl ⟨.inr (.inl ⟨HY1.out, (by rw [HXA.out, HXN.out]; rfl), rfl⟩), HBE.out _ H9.out.md⟩
                          · have dg1 : (gn == 1) = false := by simpa using hg1
                            by_cases hg0 : gn = 0
                            · have dg0 : (gn == 0) = true := by simpa using hg0
                              have HXS : Hid (applyR (openL l) g da (all.take k ++ all.drop (k + 1)) now = X) := Lib.hid (by
                                rw [← HX.out, HNOW.out]
                                have h1 := HG.out
                                rw [hg0] at h1
                                exact (R_gone (pre := all.take k) (r := r) (t := all.drop (k + 1)) h1 HDV.out (by omega) (by omega) (by rw [← HNOW.out]; exact HLOW.out) (by rw [← HNOW.out]; exact HHIR.out) (by rw [← HNOW.out]; exact HEQ.out)).symm)
                              obtain ⟨hRt, hAt, hslT⟩ := rows_till (P := Try.prog) (t := 32) (by kernel_rfl) (fun w' => by kernel_rfl) H9.out.rw.reads H9.out.rw.nil H9.out.rw.cap k (by omega)
                              obtain ⟨A9, hRf, hAf, hslF⟩ := rows_from (P := Try.prog) (t := 32) (e := 102) (by kernel_rfl) (fun w' => by kernel_rfl) H9.out.rw.reads H9.out.rw.nil H9.out.rw.cap (k + 1) (by omega) rfl
                              have HRT := Lib.hid hRt
                              have HAT := Lib.hid hAt
                              have HRF := Lib.hid hRf
                              have HAF := Lib.hid hAf
                              have hk1 : ((k + 1 : Nat) : Int) = (k : Int) + 1 := by omega
                              rw [hk1] at hslF
                              have hwk : IntKind.i64.wrap ((k : Int) + 1) = (k : Int) + 1 := by rw [IntKind.wrap_i64]; omega
                              clear hRt hAt hRf hAf hk1
                              go_wp2
                              refine region_held_tail (fun _ => True) 10 (by as_aux_lemma => kernel_rfl) (by as_aux_lemma => kernel_rfl) trivial (fun hHeld => ?_)
                              simp only [List.take_succ_cons, List.take_zero]
                              refine wpAnyH_take (i := 1) (v := ?vgn_1) rfl (by as_aux_lemma => kernel_rfl) (by as_aux_lemma => kernel_rfl) (by as_aux_lemma => kernel_rfl) (fun _ _ _ h => h) (Or.inl ⟨by kernel_rfl, ?ygn_1⟩) hHeld ?rgn_1
                              case ygn_1 =>
                                intro w hSw
                                try dsimp only at hSw
                                go_simp
                                try with_reducible rfl
                              try simp only [Act.put, List.setIfInBounds_toArray]
                              refine wpAnyH_take (i := 2) (v := ?vgn_2) rfl (by as_aux_lemma => kernel_rfl) (by as_aux_lemma => kernel_rfl) (by as_aux_lemma => kernel_rfl) (fun _ _ _ h => h) (Or.inl ⟨by kernel_rfl, ?ygn_2⟩) hHeld ?rgn_2
                              case ygn_2 =>
                                intro w hSw
                                try dsimp only at hSw
                                go_simp
                                try with_reducible rfl
                              try simp only [Act.put]
                              refine wpAnyH_take (i := 3) (v := ?vgn_3) rfl (by as_aux_lemma => kernel_rfl) (by as_aux_lemma => kernel_rfl) (by as_aux_lemma => kernel_rfl) (fun _ _ _ h => h) (Or.inl ⟨by kernel_rfl, ?ygn_3⟩) hHeld ?rgn_3
                              case ygn_3 =>
                                intro w hSw
                                try dsimp only at hSw
                                go_simp
                                try with_reducible rfl
                              try simp only [Act.put]
                              refine wpAnyH_take (i := 5) (v := ?vgn_5) rfl (by as_aux_lemma => kernel_rfl) (by as_aux_lemma => kernel_rfl) (by as_aux_lemma => kernel_rfl) (fun _ _ _ h => h) (Or.inl ⟨by kernel_rfl, ?ygn_5⟩) hHeld ?rgn_5
                              case ygn_5 =>
                                intro w hSw
                                try dsimp only at hSw
                                go_simp
                                try with_reducible rfl
                              try simp only [Act.put]
                              refine wpAnyH_take (i := 6) (v := ?vgn_6) rfl (by as_aux_lemma => kernel_rfl) (by as_aux_lemma => kernel_rfl) (by as_aux_lemma => kernel_rfl) (fun _ _ _ h => h) (Or.inl ⟨by kernel_rfl, ?ygn_6⟩) hHeld ?rgn_6
                              case ygn_6 =>
                                intro w hSw
                                try dsimp only at hSw
                                go_simp
                                try with_reducible rfl
                              try simp only [Act.put]
                              refine wpAnyH_take (i := 7) (v := ?vgn_7) rfl (by as_aux_lemma => kernel_rfl) (by as_aux_lemma => kernel_rfl) (by as_aux_lemma => kernel_rfl) (fun _ _ _ h => h) (Or.inl ⟨by kernel_rfl, ?ygn_7⟩) hHeld ?rgn_7
                              case ygn_7 =>
                                intro w hSw
                                try dsimp only at hSw
                                go_simp
                                try with_reducible rfl
                              try simp only [Act.put]
                              refine wpAnyH_take (i := 8) (v := ?vgn_8) rfl (by as_aux_lemma => kernel_rfl) (by as_aux_lemma => kernel_rfl) (by as_aux_lemma => kernel_rfl) (fun _ _ _ h => h) (Or.inl ⟨by kernel_rfl, ?ygn_8⟩) hHeld ?rgn_8
                              case ygn_8 =>
                                intro w hSw
                                try dsimp only at hSw
                                go_simp
                                try with_reducible rfl
                              try simp only [Act.put]
                              refine wpAnyH_ready (rs := [0]) (by as_aux_lemma => kernel_rfl) (by simp) ?_
                              refine AllReadyH.cons (o := _) rfl (fun K hK => ?_) AllReadyH.nil
                              go_simp
                              try dsimp only
                              refine hK.out _ _ ?_ (fun hHeld => ?_)
                              · exact trivial
                              clear hK K
                              refine any_fresh ?_ hHeld
                              clear hHeld
                              rintro wa hbwa hHeld
                              have hva : Below w9.heap.size w9 wa := (by repeat (with_reducible (first | exact Below.refl _ _ | assumption | apply ext_drew | apply ext_drewN | apply ext_alloc | apply ext_more | (refine ext_setCell ?_ (by first | assumption | (simp <;> omega)) _) | (refine ext_below ?_ (by assumption)))))
                              have ha : wa.ownsRow w9.heap.size 102 11 (.slice (some ⟨w9.heap.size, 0, none⟩) 0 0) 0 [] := row_below (own_empty (w := w9.drew) 102 11) hbwa
                              have hsza := hva.size
                              try simp only [Act.put, List.setIfInBounds_toArray, List.set_cons_zero, List.set_cons_succ]
                              refine wpAnyH_ready (rs := [4]) (by as_aux_lemma => kernel_rfl) (by simp) ?_
                              refine AllReadyH.cons (o := _) rfl (fun K hK => ?_) AllReadyH.nil
                              refine step_rows rfl (.tmp 144) (.tmp 147) 32 rfl (e := 102) Try.underlying32 seenInfoR rfl (by decide) (by decide) w9.heap.size (.slice (some ⟨w9.heap.size, 0, none⟩) 0 0) 0 ([]) rfl (ha) rfl (HRT.out.below hva) (HAT.out) (by omega) (by omega) ?_
                              intro vb wb hownwb hmodwb
                              have hvb := below_row hva ha (Nat.le_refl _) hmodwb
                              have hszb := hvb.size
                              rw [Nat.zero_add, List.nil_append] at hownwb
                              refine hK.out _ _ ?_ (fun hHeld => ?_)
                              · trivial
                              clear hK K
                              try simp only [Act.put, List.setIfInBounds_toArray]
                              refine wpAnyH_ready (rs := [9]) (by as_aux_lemma => kernel_rfl) (by simp) ?_
                              refine AllReadyH.cons (o := _) rfl (fun K hK => ?_) AllReadyH.nil
                              refine step_rows rfl (.tmp 148) (.tmp 152) 32 rfl (e := 102) Try.underlying32 seenInfoR rfl (by decide) (by decide) w9.heap.size (vb) k (rowsL (mx all) 11 k) rfl (hownwb) rfl (HRF.out.below hvb) (HAF.out) (by omega) (by omega) ?_
                              intro vc wc hownwc hmodwc
                              have hvc := below_row hvb hownwb (Nat.le_refl _) hmodwc
                              refine hK.out _ _ ?_ (fun hHeld => ?_)
                              · trivial
                              clear hK K
                              try simp only [Act.put]
                              refine wpAnyH_done (by as_aux_lemma => kernel_rfl) ?_ _
                              clear hHeld
                              simp only [TailQ, List.drop_succ_cons, List.drop_zero]
                              obtain ⟨al2, hal2⟩ : ∃ al2, al2 = all.take k ++ all.drop (k + 1) := ⟨_, rfl⟩
                              have hrs : rowsL (mx all) 11 k ++ rowsL (fun i j => mx all (k + 1 + i) j) 11 (all.length - (k + 1)) = rowsS al2 := by rw [hal2, rowsS_append, rowsS_take all (by omega), rowsS_drop all (k + 1)]
                              have hrl : k + (all.length - (k + 1)) = al2.length := by rw [hal2]; simp; omega
                              rw [hrs, hrl] at hownwc
                              have HAL := Lib.hid hal2
                              obtain ⟨SA2, SC2, rfl⟩ := rowz_form hownwc
                              have H10 := Lib.hid ((H9.out.below hvc).now (Rw.of_own hownwc H9.out.le))
                              have hal121 : al2.length ≤ 121 := by omega
                              have HIN2 : Hid (∀ x ∈ al2, now < x.id → InR x) := Lib.hid (fun x hx hn => HIN.out x (by rw [HAL.out] at hx; rcases List.mem_append.1 hx with h | h; exact List.mem_of_mem_take h; exact List.mem_of_mem_drop h) (by omega))
                              clear hwk hslT hslF hva ha hsza hbwa hvb hszb hownwb hmodwb hvc hownwc hmodwc hrs hrl hal2
                              go_wp2
                              go_roundw
                              case rel => exact ⟨da, g, now, false, al2, SA2, SC2, by go_num, rfl, by omega, fun _ => by rw [HAL.out]; exact HXS.out, (fun h => by cases h), by omega, by omega, hda8, hal121, HIN2.out, H10.out⟩
                              case measure => rw [posOf_tp H10.out.dr.tp, show posOf w5 p = a from by rw [HW5.out]; exact HPOS5.out]; omega
                            · have dg0 : (gn == 0) = false := by simpa using hg0
                              have dg2 : (gn == 2) = true := by simp; omega
                              have hrm : r ∈ all := List.mem_of_getElem? HRR.out
                              have HRI := Lib.hid (HIN.out r hrm (by rw [HEQ.out]; omega))
                              obtain ⟨nr, σ, hnew⟩ : ∃ nr σ, changeR (openL l) r (da, false) = (nr, σ) := ⟨_, _, rfl⟩
                              have HNEW := Lib.hid hnew
                              obtain ⟨al2, hal2⟩ : ∃ al2, al2 = all.take k ++ nr :: all.drop (k + 1) := ⟨_, rfl⟩
                              have HAL := Lib.hid hal2
                              clear hrm hnew hal2
                              go_upto_if 154 with fail
                              refine wp_cond_true rfl ?_
                              refine chg_way (Lib.hid (fun _ _ d _ _ h => by cases d <;> exact h)) HC H9 hin hbB HT HMX HRI HNEW HAL (Lib.hid ?_)
                              intro v17 v18 v19 v20 v160 v161 v162 v163 v164 v165 v166 v167 v168 v169 v170 v171 v172 v173 v174 v175 v176 v177 v178 v179 v180 v181 v182 v183 v184 v185 v186 v187 v188 v189 v190 v191 v192 v193 v194 v195 v196 v197 v198 v199 v200 v201 v202 v203 v204 v205 v206 v207 v208 v209 v210 v211 v212 v213 w10 hSd
                              have H41 := Lib.hid hSd
                              have HNI : Hid (nr.id = r.id) := Lib.hid (by have := changeR_id (openL l) r (da, false); rw [HNEW.out] at this; exact this)
                              have HLEN : Hid (all.length = al2.length) := Lib.hid (by rw [HAL.out]; simp only [List.length_append, List.length_cons, List.length_take, List.length_drop]; omega)
                              have HIN2 : Hid (∀ x ∈ al2, now < x.id → InR x) := Lib.hid (fun x hx hn => by
                                rw [HAL.out] at hx
                                rcases List.mem_append.1 hx with h | h
                                · exact HIN.out x (List.mem_of_mem_take h) (by omega)
                                · rcases List.mem_cons.1 h with h | h
                                  · rw [h, HNI.out, HEQ.out] at hn; omega
                                  · exact HIN.out x (List.mem_of_mem_drop h) (by omega))
                              have HXS : Hid ((if σ.2 = true then none else applyR (openL l) g σ.1 al2 now) = X) := Lib.hid (by
                                rw [← HX.out, HNOW.out, HAL.out]
                                exact (R_chg (pre := all.take k) (r := r) (t := all.drop (k + 1)) (n := (nr, σ)) HG.out hg3 hg1 hg0 HDV.out (by omega) (by omega) (by rw [← HNOW.out]; exact HLOW.out) (by rw [← HNOW.out]; exact HHIR.out) (by rw [← HNOW.out]; exact HEQ.out) HNEW.out).symm)
                              have HADV : Hid (da ≤ σ.1 ∧ σ.1 ≤ 8 * l.length) := Lib.hid ⟨by have := changeR_adv (openL l) r (da, false); rw [HNEW.out] at this; exact this, by have := H41.out.dr.tp.le; rw [openL_length] at this; exact this⟩
                              clear hSd a0 zq cq fq z8 c8' f8 z6 c6' f6
                              go_wp2
                              go_roundw
                              case rel => first | exact ⟨σ.1, g, now, σ.2, al2, some ⟨bT, 0, none⟩, SC, by go_num, by rw [HLEN.out], by have := HADV.out; omega, (fun h => by have h2 := HXS.out; rw [if_neg (by rw [h]; simp)] at h2; exact h2), (fun h => by have h2 := HXS.out; rw [if_pos h] at h2; exact h2.symm), by omega, by have := HADV.out; omega, HADV.out.2, by have := HLEN.out; omega, HIN2.out, H41.out⟩ | ((repeat apply Exists.intro); exact ⟨⟨σ.1, g, now, σ.2, al2, some ⟨bT, 0, none⟩, SC, by go_num, by rw [HLEN.out], by have := HADV.out; omega, (fun h => by have h2 := HXS.out; rw [if_neg (by rw [h]; simp)] at h2; exact h2), (fun h => by have h2 := HXS.out; rw [if_pos h] at h2; exact h2.symm), by omega, by have := HADV.out; omega, HADV.out.2, by have := HLEN.out; omega, HIN2.out, H41.out⟩, rfl⟩)
                              case measure => rw [posOf_tp H41.out.dr.tp, show posOf w5 p = a from by rw [HW5.out]; exact HPOS5.out]; have := HADV.out; omega
                        · have deq : (r.id == now) = false := by simpa using heq
                          have HNROW : Hid (NoRow now (all.drop k)) := Lib.hid (fun r' t h => by rw [← HHIGH.out, HHIR.out] at h; cases h; exact heq)
                          clear heq HHIR
                          by_cases hg1 : gn = 1
                          · have dg1 : (gn == 1) = true := by simpa using hg1
                            have HG1 := Lib.hid hg1
                            clear dg1
                            subst hg1
                            obtain ⟨nr, σ, hnew⟩ : ∃ nr σ, newR (openL l) now (da, false) = (nr, σ) := ⟨_, _, rfl⟩
                            have HNEW := Lib.hid hnew
                            obtain ⟨al2, hal2⟩ : ∃ al2, al2 = all.take k ++ nr :: all.drop k := ⟨_, rfl⟩
                            have HAL := Lib.hid hal2
                            clear hnew hal2
                            go_upto_if 96 with fail
                            refine wp_cond_true rfl ?_
                            refine new_way (Lib.hid (fun _ _ d _ _ h => by cases d <;> exact h)) HC H9 hk (by omega) HNEW HAL (Lib.hid ?_)
                            intro v16 v103 v104 v105 v106 v107 v108 v109 v110 v111 v112 v113 v114 v115 v116 v117 v118 v119 v120 v121 v122 v123 v124 v125 v126 v127 v128 v129 v130 v131 v132 v133 v134 v135 v136 v137 w10 SA2 SC2 hSd
                            have H41 := Lib.hid hSd
                            have HNI : Hid (nr.id = now) := Lib.hid (by have := newR_id (openL l) now (da, false); rw [HNEW.out] at this; exact this)
                            have HLEN : Hid (al2.length = all.length + 1) := Lib.hid (by rw [HAL.out]; simp only [List.length_append, List.length_cons, List.length_take, List.length_drop]; omega)
                            have HIN2 : Hid (∀ x ∈ al2, now < x.id → InR x) := Lib.hid (fun x hx hn => by
                              rw [HAL.out] at hx
                              rcases List.mem_append.1 hx with h | h
                              · exact HIN.out x (List.mem_of_mem_take h) (by omega)
                              · rcases List.mem_cons.1 h with h | h
                                · rw [h, HNI.out] at hn; omega
                                · exact HIN.out x (List.mem_of_mem_drop h) (by omega))
                            have HXS : Hid ((if σ.2 = true then none else applyR (openL l) g σ.1 al2 now) = X) := Lib.hid (by
                              rw [← HX.out, HNOW.out, HAL.out]
                              have hg := HG.out
                              exact (R_new (pre := all.take k) (D := all.drop k) (n := (nr, σ)) hg HDV.out (by omega) (by omega) (by rw [← HNOW.out]; exact HLOW.out) (by rw [← HNOW.out]; exact HHIGH.out) (by rw [← HNOW.out]; exact HNROW.out) (by rw [← HNOW.out]; exact HNEW.out)).symm)
                            have HADV : Hid (da ≤ σ.1 ∧ σ.1 ≤ 8 * l.length) := Lib.hid ⟨by have := newR_adv (openL l) now (da, false); rw [HNEW.out] at this; exact this, by have := H41.out.dr.tp.le; rw [openL_length] at this; exact this⟩
                            clear hSd zq cq fq z8 c8' f8 z6 c6' f6
                            go_wp2
                            go_roundw
                            case rel => first | exact ⟨σ.1, g, now, σ.2, al2, SA2, SC2, by go_num, rfl, by have := HADV.out; omega, (fun h => by have h2 := HXS.out; rw [if_neg (by rw [h]; simp)] at h2; exact h2), (fun h => by have h2 := HXS.out; rw [if_pos h] at h2; exact h2.symm), by omega, by have := HADV.out; omega, HADV.out.2, by have := HLEN.out; omega, HIN2.out, H41.out⟩ | ((repeat apply Exists.intro); exact ⟨⟨σ.1, g, now, σ.2, al2, SA2, SC2, by go_num, rfl, by have := HADV.out; omega, (fun h => by have h2 := HXS.out; rw [if_neg (by rw [h]; simp)] at h2; exact h2), (fun h => by have h2 := HXS.out; rw [if_pos h] at h2; exact h2.symm), by omega, by have := HADV.out; omega, HADV.out.2, by have := HLEN.out; omega, HIN2.out, H41.out⟩, rfl⟩)
                            case measure => rw [posOf_tp H41.out.dr.tp, show posOf w5 p = a from by rw [HW5.out]; exact HPOS5.out]; have := HADV.out; omega
                          · have dg1 : (gn == 1) = false := by simpa using hg1
                            have HXN : Hid (X = none) := Lib.hid (by rw [← HX.out]; exact R_no (D := all.drop k) HG.out hg3 HDV.out (by omega) (by omega) (by rw [← HNOW.out]; exact HHIGH.out) (by rw [← HNOW.out]; exact HNROW.out) hg1)
                            by_cases hg0 : gn = 0
                            · have dg0 : (gn == 0) = true := by simpa using hg0
                              have dg2 : (gn == 2) = false := by simp; omega
                              go_wp2
                              exact bodyPost_ret (v := .tuple #[.slice none 0 0, .int .i64 3]) (by simp [results, Try.results43, go_sem, *]) rfl ⟨.inr (.inl ⟨HY1.out, (by rw [HXA.out, HXN.out]; rfl), rfl⟩), HBE.out _ H9.out.md⟩
                            · have dg0 : (gn == 0) = false := by simpa using hg0
                              have dg2 : (gn == 2) = true := by simp; omega
                              go_wp2
                              exact bodyPost_ret (v := .tuple #[.slice none 0 0, .int .i64 3]) (by simp [results, Try.results43, go_sem, *]) rfl ⟨.inr (.inl ⟨HY1.out, (by rw [HXA.out, HXN.out]; rfl), rfl⟩), HBE.out _ H9.out.md⟩
                    · have hie : k = all.length := by omega
                      have dlt : decide ((k : Int) < (all.length : Int)) = false := decide_eq_false (by omega)
                      have hde : all.drop k = [] := by rw [hie]; simp
                      have HLOW : Hid (lowR now all = all.take k) := Lib.hid (by rw [← HLO.out, hde]; simp [lowR])
                      have HHIGH : Hid (highR now all = all.drop k) := Lib.hid (by rw [← HHI.out, hde]; simp [highR])
                      have HNROW : Hid (NoRow now (all.drop k)) := Lib.hid (fun r t h => by rw [hde] at h; cases h)
                      clear hde hie HLO HHI
                      by_cases hg1 : gn = 1
                      · have dg1 : (gn == 1) = true := by simpa using hg1
                        have HG1 := Lib.hid hg1
                        clear dg1
                        subst hg1
                        obtain ⟨nr, σ, hnew⟩ : ∃ nr σ, newR (openL l) now (da, false) = (nr, σ) := ⟨_, _, rfl⟩
                        have HNEW := Lib.hid hnew
                        obtain ⟨al2, hal2⟩ : ∃ al2, al2 = all.take k ++ nr :: all.drop k := ⟨_, rfl⟩
                        have HAL := Lib.hid hal2
                        clear hnew hal2
                        go_upto_if 96 with fail
                        refine wp_cond_true rfl ?_
                        refine new_way (Lib.hid (fun _ _ d _ _ h => by cases d <;> exact h)) HC H9 hk (by omega) HNEW HAL (Lib.hid ?_)
                        intro v16 v103 v104 v105 v106 v107 v108 v109 v110 v111 v112 v113 v114 v115 v116 v117 v118 v119 v120 v121 v122 v123 v124 v125 v126 v127 v128 v129 v130 v131 v132 v133 v134 v135 v136 v137 w10 SA2 SC2 hSd
                        have H41 := Lib.hid hSd
                        have HNI : Hid (nr.id = now) := Lib.hid (by have := newR_id (openL l) now (da, false); rw [HNEW.out] at this; exact this)
                        have HLEN : Hid (al2.length = all.length + 1) := Lib.hid (by rw [HAL.out]; simp only [List.length_append, List.length_cons, List.length_take, List.length_drop]; omega)
                        have HIN2 : Hid (∀ x ∈ al2, now < x.id → InR x) := Lib.hid (fun x hx hn => by
                          rw [HAL.out] at hx
                          rcases List.mem_append.1 hx with h | h
                          · exact HIN.out x (List.mem_of_mem_take h) (by omega)
                          · rcases List.mem_cons.1 h with h | h
                            · rw [h, HNI.out] at hn; omega
                            · exact HIN.out x (List.mem_of_mem_drop h) (by omega))
                        have HXS : Hid ((if σ.2 = true then none else applyR (openL l) g σ.1 al2 now) = X) := Lib.hid (by
                          rw [← HX.out, HNOW.out, HAL.out]
                          have hg := HG.out
                          exact (R_new (pre := all.take k) (D := all.drop k) (n := (nr, σ)) hg HDV.out (by omega) (by omega) (by rw [← HNOW.out]; exact HLOW.out) (by rw [← HNOW.out]; exact HHIGH.out) (by rw [← HNOW.out]; exact HNROW.out) (by rw [← HNOW.out]; exact HNEW.out)).symm)
                        have HADV : Hid (da ≤ σ.1 ∧ σ.1 ≤ 8 * l.length) := Lib.hid ⟨by have := newR_adv (openL l) now (da, false); rw [HNEW.out] at this; exact this, by have := H41.out.dr.tp.le; rw [openL_length] at this; exact this⟩
                        clear hSd zq cq fq z8 c8' f8 z6 c6' f6
                        go_wp2
                        go_roundw
                        case rel => first | exact ⟨σ.1, g, now, σ.2, al2, SA2, SC2, by go_num, rfl, by have := HADV.out; omega, (fun h => by have h2 := HXS.out; rw [if_neg (by rw [h]; simp)] at h2; exact h2), (fun h => by have h2 := HXS.out; rw [if_pos h] at h2; exact h2.symm), by omega, by have := HADV.out; omega, HADV.out.2, by have := HLEN.out; omega, HIN2.out, H41.out⟩ | ((repeat apply Exists.intro); exact ⟨⟨σ.1, g, now, σ.2, al2, SA2, SC2, by go_num, rfl, by have := HADV.out; omega, (fun h => by have h2 := HXS.out; rw [if_neg (by rw [h]; simp)] at h2; exact h2), (fun h => by have h2 := HXS.out; rw [if_pos h] at h2; exact h2.symm), by omega, by have := HADV.out; omega, HADV.out.2, by have := HLEN.out; omega, HIN2.out, H41.out⟩, rfl⟩)
                        case measure => rw [posOf_tp H41.out.dr.tp, show posOf w5 p = a from by rw [HW5.out]; exact HPOS5.out]; have := HADV.out; omega
                      · have dg1 : (gn == 1) = false := by simpa using hg1
                        have HXN : Hid (X = none) := Lib.hid (by rw [← HX.out]; exact R_no (D := all.drop k) HG.out hg3 HDV.out (by omega) (by omega) (by rw [← HNOW.out]; exact HHIGH.out) (by rw [← HNOW.out]; exact HNROW.out) hg1)
                        by_cases hg0 : gn = 0
                        · have dg0 : (gn == 0) = true := by simpa using hg0
                          have dg2 : (gn == 2) = false := by simp; omega
                          go_wp2
                          exact bodyPost_ret (v := .tuple #[.slice none 0 0, .int .i64 3]) (by simp [results, Try.results43, go_sem, *]) rfl ⟨.inr (.inl ⟨HY1.out, (by rw [HXA.out, HXN.out]; rfl), rfl⟩), HBE.out _ H9.out.md⟩
                        · have dg0 : (gn == 0) = false := by simpa using hg0
                          have dg2 : (gn == 2) = true := by simp; omega
                          go_wp2
                          exact bodyPost_ret (v := .tuple #[.slice none 0 0, .int .i64 3]) (by simp [results, Try.results43, go_sem, *]) rfl ⟨.inr (.inl ⟨HY1.out, (by rw [HXA.out, HXN.out]; rfl), rfl⟩), HBE.out _ H9.out.md⟩
            · have e1 : (false || decide (de ≠ 0)) = true := by simpa using hde
              rw [e1] at H9
              have HXN : Hid (X = none) := Lib.hid (by rw [← HX.out]; exact R_var HG.out hg3 HDV.out (.inl hde))
              clear e1 hde
              have q_ := H9.out.dr.blk
              obtain ⟨zq, cq, fq⟩ := id q_
              have e8_ := H9.out.e8
              obtain ⟨z8, c8', f8⟩ := id e8_
              have e6_ := H9.out.e6
              obtain ⟨z6, c6', f6⟩ := id e6_
              clear q_ e8_ e6_
              go_wp2
              exact bodyPost_ret (v := .tuple #[.slice none 0 0, .int .i64 3]) (by simp [results, Try.results43, go_sem, *]) rfl ⟨.inr (.inl ⟨HY1.out, (by rw [HXA.out, HXN.out]; rfl), rfl⟩), HBE.out _ H9.out.md⟩
        · have e1 : (false || decide (ge ≠ 0)) = true := by simpa using hge
          rw [e1] at H7
          have HXN : Hid (X = none) := Lib.hid (by rw [← HX.out]; exact R_bad HG.out hge)
          clear e1 hge
          have q_ := H7.out.dr.blk
          obtain ⟨zq, cq, fq⟩ := id q_
          have e8_ := H7.out.e8
          obtain ⟨z8, c8', f8⟩ := id e8_
          have e6_ := H7.out.e6
          obtain ⟨z6, c6', f6⟩ := id e6_
          clear q_ e8_ e6_
          go_wp2_with fail
          refine (rdelta_d n1 all.length A1 SA cap1 SC M1 (mx all) w7 (by omega) (by omega) (HR1.out.below (HBE.out _ H7.out.md)) H7.out.rw.reads).mono ?_
          rintro e w7 ⟨v7, A7, c7, rfl, hv7, hr7, hb7⟩
          have hB7 : Below w.heap.size w w7 := (HBE.out _ H7.out.md).trans (hb7.mono (HBE.out _ H7.out.md).size)
          have q7 := H7.out.dr.blk.below hb7
          subst hv7
          clear zq cq fq hb7 hr7
          obtain ⟨zq, cq, fq⟩ := id q7
          go_wp2
          exact bodyPost_ret (v := .tuple #[.slice none 0 0, .int .i64 3]) (by simp [results, Try.results43, go_sem, *]) rfl ⟨.inr (.inl ⟨HY1.out, (by rw [HXA.out, HXN.out]; rfl), rfl⟩), hB7⟩

end Go.Proofs.Ytefhmbmbhiehdaa
