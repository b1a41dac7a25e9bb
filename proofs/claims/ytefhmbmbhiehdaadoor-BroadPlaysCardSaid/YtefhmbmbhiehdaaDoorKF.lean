/- The walk of gyrelaw.BroadPlays. Conditions: none. -/
import Derived.Test.YtefhmbmbhiehdaaDoorKE
namespace Go.Proofs.YtefhmbmbhiehdaaDoor
open Go Go.Maps Go.RowKit Go.BigFrame Go.ChangeShapes Go.WideShapes
set_option maxRecDepth 100000 in
set_option maxHeartbeats 8000000 in
theorem pairs_way {Q : Exit → Act → World → Prop} {a0 : Act} {w : World} {mb bm n r : Nat} {D : Int → Option Bx} {G : Lit → Option Value} (h0 : Lv a0 [(7, .map (some mb)), (25, .int .i64 0), (244, .pointer (some ⟨r, 0, none⟩))]) (HR : Hid (RangeV Tryd.prog 3 w mb r bm G n (fun x => (G (.int .i64 x)).isSome) n)) (HGv : Hid (∀ k : Int, G (.int .i64 k) = (D k).map bxV)) (HN : Hid (n ≤ 60)) (HRM0 : Hid (mb < w.heap.size))
    (HQ : Hid (∀ (a : Act) (wx : World) (vs : List (Int × Int)), Lv a [(7, .map (some mb)), (25, .int .i64 (vs.length : Int))] → (∀ i ∈ [1, 5, 8], a.tmps.getD i undef = a0.tmps.getD i undef) → vs.Nodup → (∀ x y, (x, y) ∈ vs ↔ PairX D x y) → vs.length ≤ 3600 → Mod (· = r) w wx → Q .normal a wx)) :
    Code.wp Tryd.prog (blockC Tryd.f3 11) Q a0 w := by
  obtain ⟨g, hg⟩ : ∃ g : Nat → Value, ∀ i, g i = a0.tmps.getD i undef := ⟨_, fun _ => rfl⟩
  rw [act_lit a0 h0.1 h0.2.1 g hg]
  rw [show g 7 = .map (some mb) from (hg 7).trans (h0.2.2 (7, .map (some mb)) (by simp))]
  rw [show g 25 = .int .i64 0 from (hg 25).trans (h0.2.2 (25, .int .i64 0) (by simp))]
  rw [show g 244 = .pointer (some ⟨r, 0, none⟩) from (hg 244).trans (h0.2.2 (244, .pointer (some ⟨r, 0, none⟩)) (by simp))]
  have HG := Lib.hid hg
  clear hg h0
  conv => arg 2; whnf
  dsimp only
  go_wp2
  go_loopg [25] n (fun k c wr => ∃ (vs : List (Int × Int)) (L : Int → Bool) (cnt : Nat), c = .int .i64 (vs.length : Int) ∧ k = cnt ∧ RangeV Tryd.prog 3 wr mb r bm G n L cnt ∧ vs.Nodup ∧ (∀ x y, (x, y) ∈ vs ↔ L x = false ∧ PairX D x y) ∧ vs.length + 60 * cnt ≤ 3600 ∧ Mod (· = r) w wr)
  case atStart =>
    refine ⟨[], _, n, rfl, rfl, HR.out, List.nodup_nil, fun x y => ?_, by have := HN.out; simp; omega, Mod.refl _ _⟩
    constructor
    · intro h; cases h
    · rintro ⟨h1, _, a, b, h2, _⟩
      rw [HGv.out, h2] at h1
      cases h1
  case round =>
    obtain ⟨vs, L, cnt, rfl, hk, hr, hnd, hmem, hle, hmd⟩ := hrel
    have HRr := Lib.hid hr
    have HV := Lib.hid (And.intro hnd (And.intro hmem hle))
    have HMD := Lib.hid hmd
    have HK := Lib.hid hk
    clear hr hnd hmem hle hmd hk
    go_wp2_with (at_next; refine at_nextV rfl (.tmp 244) rfl (int_keyed Tryd.underlying3) Tryd.underlying3 rfl HRr.out ?_ ?_)
    · intro hL
      go_wp2
      exact HQ.out _ wr vs ⟨rfl, rfl, by intro x hx; simp only [List.mem_cons, List.not_mem_nil, or_false] at hx; rcases hx with rfl | rfl <;> rfl⟩ (by intro i hi; simp only [List.mem_cons, List.not_mem_nil, or_false] at hi; rcases hi with rfl | rfl | rfl <;> exact HG.out _) HV.out.1 (fun x y => by rw [HV.out.2.1 x y]; exact ⟨fun h => h.2, fun h => ⟨hL x, h⟩⟩) (by have := HV.out.2.2; omega) HMD.out
    · intro x cv w3 cnt3 hwfx hLx hGx hrg3 hlt hd3 hs3 hen
      have hD : ∃ b, D x = some b ∧ cv = bxV b := by
        rw [HGv.out] at hGx
        cases hd : D x with
        | none => rw [hd] at hGx; cases hGx
        | some b => rw [hd] at hGx; exact ⟨b, rfl, (Option.some.inj hGx).symm⟩
      obtain ⟨bb, hDb, rfl⟩ := hD
      have HDB := Lib.hid hDb
      have HLX := Lib.hid hLx
      have HRG := Lib.hid hrg3
      have HLT := Lib.hid hlt
      have HM3 : Hid (Mod (· = r) w w3) := Lib.hid (HMD.out.trans hd3)
      unfold bxV at hen
      clear hDb hLx hrg3 hlt hd3 hs3 hwfx hGx
      go_upto_region 60 with fail
      refine wp_fresh ?_
      rintro w5 hb5
      have hp27 : Blk w5 w3.heap.size #[.int .i64 bb.a1, .int .i64 bb.a2, .int .i64 bb.a3, .int .i64 bb.b1, .int .i64 bb.b2, .int .i64 bb.b3] := Blk.below (by
        refine blk_asB (cs := _) (by repeat (with_reducible (first | assumption | (apply Blk.at; simp; done) | apply Blk.alloc | apply Blk.drew | apply Blk.drewN | apply Blk.more | apply Blk.put | (apply Blk.far; focus (first | assumption | (apply Ne.symm; assumption) | (simp; done) | (simp <;> omega)))))) ?_
        exact rfl) hb5
      have hv5 : Below w3.heap.size w3 w5 := (by repeat (with_reducible (first | exact Below.refl _ _ | assumption | apply ext_drew | apply ext_drewN | apply ext_alloc | apply ext_more | (refine ext_setCell ?_ (by first | assumption | (simp <;> omega)) _) | (refine ext_below ?_ (by assumption)))))
      have HP27 := Lib.hid hp27
      have HRG5 := Lib.hid (HRG.out.below hv5)
      have HM5 : Hid (Mod (· = r) w w5) := Lib.hid (HM3.out.below hv5)
      clear hb5 hv5 hen hp27
      go_wp2_with (at_range; refine at_rangeV rfl (.tmp 250) rfl (int_keyed Tryd.underlying3) Tryd.underlying30 rfl HRG5.out.map ?_; intro w6 hr6 hd6 hs6; have HR6 := Lib.hid hr6; have HD6 := Lib.hid hd6; clear hr6 hd6 hs6)
      have HRG6 := Lib.hid (HRG5.out.mod HD6.out (fun h => h) (fun h => h))
      have HP26 := Lib.hid (HP27.out.mod HD6.out (fun h => h))
      have HM6 : Hid (Mod (· = r) w w6) := Lib.hid (HM5.out.trans (HD6.out.mono fun _ _ h => h.elim))
      have HRL : Hid (r < w5.heap.size) := Lib.hid HRG5.out.lt
      have HPL : Hid (w3.heap.size < w5.heap.size) := Lib.hid HP27.out.lt
      have HWL : Hid (w.heap.size ≤ w5.heap.size) := Lib.hid HM5.out.size
      go_frame
      go_loopg [25] n (fun k2 c wr2 => ∃ (us : List (Int × Int)) (L2 : Int → Bool) (cnt2 ln : Nat), c = .int .i64 (ln : Int) ∧ ln = vs.length + us.length ∧ k2 = cnt2 ∧ RangeV Tryd.prog 3 wr2 mb w5.heap.size bm G n L2 cnt2 ∧ RangeV Tryd.prog 3 wr2 mb r bm G n (fun z => L z && !decide (z = x)) cnt3 ∧ Blk wr2 w3.heap.size #[.int .i64 bb.a1, .int .i64 bb.a2, .int .i64 bb.a3, .int .i64 bb.b1, .int .i64 bb.b2, .int .i64 bb.b3] ∧ us.Nodup ∧ (∀ a c, (a, c) ∈ us ↔ a = x ∧ L2 c = false ∧ PairX D x c) ∧ us.length + cnt2 ≤ 60 ∧ Mod (· = r) w wr2)
      case atStart =>
        refine ⟨[], _, n, vs.length, rfl, rfl, rfl, HR6.out, HRG6.out, HP26.out, List.nodup_nil, fun a c => ?_, by have := HN.out; simpa using this, HM6.out⟩
        constructor
        · intro h; cases h
        · rintro ⟨_, h1, _, a, b, _, h2, _⟩
          rw [HGv.out, h2] at h1
          cases h1
      case round =>
        clear HRG5 HP27 HM5 HR6 HD6 HRG6 HP26 HM6
        obtain ⟨us, L2, cnt2, ln, rfl, hln, hk2, hr2, hro, hp27, hund, humem, hule, hmd2⟩ := hrel
        have HR2 := Lib.hid hr2
        have HRO := Lib.hid hro
        have HP := Lib.hid hp27
        have HLN := Lib.hid hln
        have HU := Lib.hid (And.intro hund (And.intro humem hule))
        have HMD2 := Lib.hid hmd2
        have HK2 := Lib.hid hk2
        clear hln hr2 hro hp27 hund humem hule hmd2 hk2
        go_wp2_with (at_next; refine at_nextV rfl (.tmp 251) rfl (int_keyed Tryd.underlying3) Tryd.underlying3 rfl HR2.out ?_ ?_)
        · intro hL2
          go_wp2
          go_roundg cnt3
          case measure => have := HLT.out; have := HK.out; omega
          case rel =>
            refine ⟨vs ++ us, _, cnt3, by rw [List.length_append, HLN.out], rfl, HRO.out, ?_, fun a c => ?_, by have := HLT.out; have := HV.out.2.2; have := HU.out.2.2; rw [List.length_append]; omega, HMD2.out⟩
            · refine List.nodup_append.2 ⟨HV.out.1, HU.out.1, fun y hy z hz e => ?_⟩
              subst e
              obtain ⟨y1, y2⟩ := y
              have h1 := ((HV.out.2.1 y1 y2).1 hy).1
              have h2 := ((HU.out.2.1 y1 y2).1 hz).1
              rw [h2, HLX.out] at h1
              cases h1
            · rw [List.mem_append, HV.out.2.1 a c, HU.out.2.1 a c]
              simp only [Bool.and_eq_false_iff, Bool.not_eq_false', decide_eq_true_eq]
              constructor
              · rintro (⟨h1, h2⟩ | ⟨rfl, _, h3⟩)
                · exact ⟨.inl h1, h2⟩
                · exact ⟨.inr rfl, h3⟩
              · rintro ⟨h1 | h1, h2⟩
                · exact .inl ⟨h1, h2⟩
                · subst h1
                  exact .inr ⟨rfl, hL2 c, h2⟩
        · intro y cv2 w7 cnt7 hwfy hLy hGy hrg7 hlt7 hd7 hs7 hen7
          have hD7 : ∃ b, D y = some b ∧ cv2 = bxV b := by
            rw [HGv.out] at hGy
            cases hd : D y with
            | none => rw [hd] at hGy; cases hGy
            | some b => rw [hd] at hGy; exact ⟨b, rfl, (Option.some.inj hGy).symm⟩
          obtain ⟨bc, hDc, rfl⟩ := hD7
          have HDC := Lib.hid hDc
          have HLY := Lib.hid hLy
          have HR7 := Lib.hid hrg7
          have HLT7 := Lib.hid hlt7
          have HRO7 := Lib.hid (HRO.out.mod hd7 (fun e => by have := HRM0.out; have := HWL.out; omega) (fun e => by have := HRL.out; omega))
          have HP7 := Lib.hid (HP.out.mod hd7 (fun e => by have := HPL.out; omega))
          have HM7 : Hid (Mod (· = r) w w7) := Lib.hid (HMD2.out.trans2 hd7 (fun b hb e => by have := HWL.out; omega))
          unfold bxV at hen7
          clear hDc hLy hrg7 hlt7 hd7 hs7 hwfy hGy
          go_upto_region 63 with fail
          refine wp_fresh ?_
          rintro w8 hb8
          have hp29 : Blk w8 w7.heap.size #[.int .i64 bc.a1, .int .i64 bc.a2, .int .i64 bc.a3, .int .i64 bc.b1, .int .i64 bc.b2, .int .i64 bc.b3] := Blk.below (by
            refine blk_asB (cs := _) (by repeat (with_reducible (first | assumption | (apply Blk.at; simp; done) | apply Blk.alloc | apply Blk.drew | apply Blk.drewN | apply Blk.more | apply Blk.put | (apply Blk.far; focus (first | assumption | (apply Ne.symm; assumption) | (simp; done) | (simp <;> omega)))))) ?_
            exact rfl) hb8
          have hv8 : Below w7.heap.size w7 w8 := (by repeat (with_reducible (first | exact Below.refl _ _ | assumption | apply ext_drew | apply ext_drewN | apply ext_alloc | apply ext_more | (refine ext_setCell ?_ (by first | assumption | (simp <;> omega)) _) | (refine ext_below ?_ (by assumption)))))
          have hp278 := HP7.out.below hv8
          have HP8 := Lib.hid hp278
          have HR8 := Lib.hid (HR7.out.below hv8)
          have HRO8 := Lib.hid (HRO7.out.below hv8)
          have HM8 : Hid (Mod (· = r) w w8) := Lib.hid (HM7.out.below hv8)
          clear hb8 hv8 hen7
          obtain ⟨zc, cc, fc⟩ := id hp29
          obtain ⟨zb, cb, fb⟩ := id hp278
          clear hp29 hp278
          have hfin : (x < y ∧ meetX bb bc = true → PairX D x y) ∧ (PairX D x y → x < y ∧ meetX bb bc = true) := ⟨fun h => ⟨h.1, bb, bc, HDB.out, HDC.out, h.2⟩, fun ⟨h1, a, b, h2, h3, h4⟩ => by
            rw [HDB.out] at h2
            rw [HDC.out] at h3
            cases h2
            cases h3
            exact ⟨h1, h4⟩⟩
          have HFIN := Lib.hid hfin
          clear hfin
          have no : ∀ (wq : World), Below w8.heap.size w8 wq → ¬ PairX D x y → ∃ (us' : List (Int × Int)) (L2' : Int → Bool) (cnt2' ln' : Nat), (Value.int .i64 (ln : Int)) = .int .i64 (ln' : Int) ∧ ln' = vs.length + us'.length ∧ cnt7 = cnt2' ∧ RangeV Tryd.prog 3 wq mb w5.heap.size bm G n L2' cnt2' ∧ RangeV Tryd.prog 3 wq mb r bm G n (fun z => L z && !decide (z = x)) cnt3 ∧ Blk wq w3.heap.size #[.int .i64 bb.a1, .int .i64 bb.a2, .int .i64 bb.a3, .int .i64 bb.b1, .int .i64 bb.b2, .int .i64 bb.b3] ∧ us'.Nodup ∧ (∀ a c, (a, c) ∈ us' ↔ a = x ∧ L2' c = false ∧ PairX D x c) ∧ us'.length + cnt2' ≤ 60 ∧ Mod (· = r) w wq := fun wq hbq hnp => by
            refine ⟨us, _, cnt7, ln, rfl, HLN.out, rfl, HR8.out.below hbq, HRO8.out.below hbq, HP8.out.below hbq, HU.out.1, fun a c => ?_, by have := HLT7.out; have := HU.out.2.2; omega, HM8.out.below hbq⟩
            rw [HU.out.2.1 a c]
            by_cases e : c = y
            · subst e
              exact ⟨fun h => absurd h.2.2 hnp, fun h => absurd h.2.2 hnp⟩
            · simp [e]
          have NO := Lib.hid no
          clear no
          have yes : ∀ (wq : World), Below w8.heap.size w8 wq → PairX D x y → ∃ (us' : List (Int × Int)) (L2' : Int → Bool) (cnt2' ln' : Nat), (Value.int .i64 ((ln : Int) + 1)) = .int .i64 (ln' : Int) ∧ ln' = vs.length + us'.length ∧ cnt7 = cnt2' ∧ RangeV Tryd.prog 3 wq mb w5.heap.size bm G n L2' cnt2' ∧ RangeV Tryd.prog 3 wq mb r bm G n (fun z => L z && !decide (z = x)) cnt3 ∧ Blk wq w3.heap.size #[.int .i64 bb.a1, .int .i64 bb.a2, .int .i64 bb.a3, .int .i64 bb.b1, .int .i64 bb.b2, .int .i64 bb.b3] ∧ us'.Nodup ∧ (∀ a c, (a, c) ∈ us' ↔ a = x ∧ L2' c = false ∧ PairX D x c) ∧ us'.length + cnt2' ≤ 60 ∧ Mod (· = r) w wq := fun wq hbq hp => by
            refine ⟨us ++ [(x, y)], _, cnt7, ln + 1, rfl, by have := HLN.out; simp; omega, rfl, HR8.out.below hbq, HRO8.out.below hbq, HP8.out.below hbq, ?_, fun a c => ?_, by have := HLT7.out; have := HU.out.2.2; simp; omega, HM8.out.below hbq⟩
            · refine List.nodup_append.2 ⟨HU.out.1, by simp, fun u hu v hv e => ?_⟩
              have e2 : v = (x, y) := by simpa using hv
              subst e e2
              have := ((HU.out.2.1 x y).1 hu).2.1
              rw [HLY.out] at this
              cases this
            · rw [List.mem_append, HU.out.2.1 a c]
              simp only [List.mem_singleton, Prod.mk.injEq, Bool.and_eq_false_iff, Bool.not_eq_false', decide_eq_true_eq]
              constructor
              · rintro (⟨h1, h2, h3⟩ | ⟨rfl, rfl⟩)
                · exact ⟨h1, .inl h2, h3⟩
                · exact ⟨rfl, .inr rfl, hp⟩
              · rintro ⟨h1, h2 | h2, h3⟩
                · exact .inl ⟨h1, h2, h3⟩
                · exact .inr ⟨h1, h2⟩
          have YES := Lib.hid yes
          clear yes
          by_cases hxy : x < y
          · have d1 : decide (x < y) = true := decide_eq_true hxy
            cases hme : meetX bb bc with
            | true =>
              have HRMT : Hid (∀ w, Calls Tryd.prog 11 #[.agg #[.int .i64 bb.a1, .int .i64 bb.a2, .int .i64 bb.a3, .int .i64 bb.b1, .int .i64 bb.b2, .int .i64 bb.b3], .agg #[.int .i64 bc.a1, .int .i64 bc.a2, .int .i64 bc.a3, .int .i64 bc.b1, .int .i64 bc.b2, .int .i64 bc.b3]] w fun e w' => e = .returned (.bool true) ∧ Below w.heap.size w w') := Lib.hid (fun w => by
                have h := rmeet_c bb.a1 bb.a2 bb.a3 bb.b1 bb.b2 bb.b3 bc.a1 bc.a2 bc.a3 bc.b1 bc.b2 bc.b3 w
                rw [show meetB bb.a1 bb.a2 bb.a3 bb.b1 bb.b2 bb.b3 bc.a1 bc.a2 bc.a3 bc.b1 bc.b2 bc.b3 = true from hme] at h
                exact h)
              have HPX := Lib.hid (HFIN.out.1 ⟨hxy, hme⟩)
              have hw1 : wrap64 ((ln : Int) + 1) = (ln : Int) + 1 := by have := HV.out.2.2; have := HU.out.2.2; have := HLN.out; unfold wrap64; omega
              clear hme
              go_wp2_with fail
              refine (HRMT.out _).mono ?_
              rintro e w9 ⟨rfl, hb9⟩
              have H9' := Lib.hid (YES.out w9 hb9 HPX.out)
              clear hb9 zc cc fc zb cb fb
              go_wp2
              go_roundg cnt7
              case measure => have := HLT7.out; have := HK2.out; omega
              case rel => first | exact H9'.out | (rw [hw1]; exact H9'.out)
            | false =>
              have HRMF : Hid (∀ w, Calls Tryd.prog 11 #[.agg #[.int .i64 bb.a1, .int .i64 bb.a2, .int .i64 bb.a3, .int .i64 bb.b1, .int .i64 bb.b2, .int .i64 bb.b3], .agg #[.int .i64 bc.a1, .int .i64 bc.a2, .int .i64 bc.a3, .int .i64 bc.b1, .int .i64 bc.b2, .int .i64 bc.b3]] w fun e w' => e = .returned (.bool false) ∧ Below w.heap.size w w') := Lib.hid (fun w => by
                have h := rmeet_c bb.a1 bb.a2 bb.a3 bb.b1 bb.b2 bb.b3 bc.a1 bc.a2 bc.a3 bc.b1 bc.b2 bc.b3 w
                rw [show meetB bb.a1 bb.a2 bb.a3 bb.b1 bb.b2 bb.b3 bc.a1 bc.a2 bc.a3 bc.b1 bc.b2 bc.b3 = false from hme] at h
                exact h)
              have HPX : Hid (¬ PairX D x y) := Lib.hid (fun h => by have := (HFIN.out.2 h).2; rw [hme] at this; cases this)
              clear hme
              go_wp2_with fail
              refine (HRMF.out _).mono ?_
              rintro e w9 ⟨rfl, hb9⟩
              have H9' := Lib.hid (NO.out w9 hb9 HPX.out)
              clear hb9 zc cc fc zb cb fb
              go_wp2
              go_roundg cnt7
              case measure => have := HLT7.out; have := HK2.out; omega
              case rel => exact H9'.out
          · have d1 : decide (x < y) = false := decide_eq_false hxy
            have HPX : Hid (¬ PairX D x y) := Lib.hid (fun h => hxy h.1)
            have hxy' := Int.not_lt.1 hxy
            have H9' := Lib.hid (NO.out w8 (Below.refl _ _) HPX.out)
            go_wp2
            go_roundg cnt7
            case measure => have := HLT7.out; have := HK2.out; omega
            case rel => exact H9'.out
end Go.Proofs.YtefhmbmbhiehdaaDoor
namespace Go.Proofs.YtefhmbmbhiehdaaDoor
open Go Go.Maps Go.RowKit Go.BigFrame Go.ChangeShapes Go.WideShapes
theorem ltP_ne {ps : List (Int × Int)} (h : ps.Pairwise ltP) {i : Nat} {x y : Int × Int} (hx : ps[i]? = some x) (hy : ps[i + 1]? = some y) : ltP x y := by
  obtain ⟨h1, e1⟩ := List.getElem?_eq_some_iff.1 hx
  obtain ⟨h2, e2⟩ := List.getElem?_eq_some_iff.1 hy
  rw [← e1, ← e2]
  exact List.pairwise_iff_getElem.1 h i (i + 1) h1 h2 (Nat.lt_succ_self i)
set_option maxRecDepth 100000 in
set_option maxHeartbeats 8000000 in
theorem look_way {Q : Exit → Act → World → Prop} {a0 : Act} {w : World} {mb bm n base : Nat} {D : Int → Option Bx} {ps : List (Int × Int)} {Az : Option Addr} {Cz : Nat} (h0 : Lv a0 [(7, .map (some mb)), (30, .slice Az ps.length Cz), (31, .int .i64 0)]) (HM : Hid (VI w mb bm n (fun id => (D id).map bxV))) (HZ : Hid (w.ownsRow base 50 2 (.slice Az ps.length Cz) ps.length (cellsP ps))) (HS : Hid (ps.Pairwise ltP ∧ ps.length < 100000)) (HE : Hid (∀ x y, (x, y) ∈ ps ↔ PairX D x y)) (HK : Hid (KeysOk D))
    (HQ : Hid (∀ (a : Act) (wx : World), Lv a [(30, .slice Az ps.length Cz)] → (∀ i ∈ [25], a.tmps.getD i undef = a0.tmps.getD i undef) → Below w.heap.size w wx → Q .normal a wx)) :
    Code.wp Tryd.prog (blockC Tryd.f3 15) Q a0 w := by
  obtain ⟨g, hg⟩ : ∃ g : Nat → Value, ∀ i, g i = a0.tmps.getD i undef := ⟨_, fun _ => rfl⟩
  rw [act_lit a0 h0.1 h0.2.1 g hg]
  rw [show g 7 = .map (some mb) from (hg 7).trans (h0.2.2 (7, .map (some mb)) (by simp))]
  rw [show g 30 = .slice Az ps.length Cz from (hg 30).trans (h0.2.2 (30, .slice Az ps.length Cz) (by simp))]
  rw [show g 31 = .int .i64 0 from (hg 31).trans (h0.2.2 (31, .int .i64 0) (by simp))]
  have HG := Lib.hid hg
  clear hg h0
  conv => arg 2; whnf
  dsimp only
  go_wp2
  go_loopg [31] ps.length (fun k vi wr => ∃ j : Nat, vi = .int .i64 (j : Int) ∧ j ≤ ps.length ∧ k = ps.length - j ∧ Below w.heap.size w wr)
  case atStart => exact ⟨0, rfl, Nat.zero_le _, rfl, Below.refl _ _⟩
  case round =>
    obtain ⟨j, rfl, hj, hk, hb⟩ := hrel
    have HB := Lib.hid hb
    have HKK := Lib.hid hk
    clear hb hk
    have hz60 := HS.out.2
    by_cases hl : j < ps.length
    · have d0 : decide ((j : Int) < (ps.length : Int)) = true := decide_eq_true (by omega)
      have hw1 : wrap64 ((j : Int) + 1) = (j : Int) + 1 := by unfold wrap64; omega
      obtain ⟨⟨x1, x2⟩, hx⟩ : ∃ x, ps[j]? = some x := ⟨_, List.getElem?_eq_getElem hl⟩
      obtain ⟨hx12, ba, bb, hba, hbb, hmm⟩ := (HE.out x1 x2).1 (List.mem_of_getElem? hx)
      have HKX := Lib.hid (HK.out x1 (by rw [hba]; rfl))
      have HKY := Lib.hid (HK.out x2 (by rw [hbb]; rfl))
      have HBA := Lib.hid hba
      have HBB := Lib.hid hbb
      have HMM := Lib.hid hmm
      have d5 : decide (x2 ≤ x1) = false := decide_eq_false (by omega)
      clear hba hbb hmm
      cases j with
      | zero =>
        simp only [Int.natCast_zero] at d0 hw1 ⊢
        clear hx12
        obtain ⟨gz, cz, ez, hgl, hcz⟩ := rowP_at (row_below HZ.out HB.out) (by omega)
        injection ez with ez1 _ ez2
        subst ez1 ez2
        obtain ⟨qx1, qx2⟩ := hcz _ _ hx
        simp only at qx1 qx2
        have HMw := Lib.hid (HM.out.below HB.out)
        clear hcz hx
        go_upto_region 70 with (at_lookup; refine at_lookT rfl _ _ rfl Tryd.underlying30 (zero_rboxT _) rfl HMw.out rfl HKX.out ?_; rw [HBA.out]; unfold bxV)
        refine wp_fresh ?_
        rintro w5 hb5
        have hp21 : Blk w5 wr.heap.size #[.int .i64 ba.a1, .int .i64 ba.a2, .int .i64 ba.a3, .int .i64 ba.b1, .int .i64 ba.b2, .int .i64 ba.b3] := Blk.below (by
          refine blk_asB (cs := _) (by repeat (with_reducible (first | assumption | (apply Blk.at; simp; done) | apply Blk.alloc | apply Blk.drew | apply Blk.drewN | apply Blk.more | apply Blk.put | (apply Blk.far; focus (first | assumption | (apply Ne.symm; assumption) | (simp; done) | (simp <;> omega)))))) ?_
          exact rfl) hb5
        have hv5 : Below wr.heap.size wr w5 := (by repeat (with_reducible (first | exact Below.refl _ _ | assumption | apply ext_drew | apply ext_drewN | apply ext_alloc | apply ext_more | (refine ext_setCell ?_ (by first | assumption | (simp <;> omega)) _) | (refine ext_below ?_ (by assumption)))))
        have HV0 := Lib.hid hv5
        have qx1a : w5.cell? ⟨gz, 0 * 2, none⟩ = some (.int .i64 x1) := (hv5.cell (p := ⟨gz, 0 * 2, none⟩) hgl).trans qx1
        have qx2a : w5.cell? ⟨gz, 0 * 2 + 1, none⟩ = some (.int .i64 x2) := (hv5.cell (p := ⟨gz, 0 * 2 + 1, none⟩) hgl).trans qx2
        have hgla : gz < w5.heap.size := Nat.lt_of_lt_of_le hgl hv5.size
        have HMwa := Lib.hid (HMw.out.below hv5)
        clear hb5 qx1 qx2 hgl
        have HPA := Lib.hid hp21
        clear hp21 hv5
        go_upto_region 71 with (at_lookup; refine at_lookT rfl _ _ rfl Tryd.underlying30 (zero_rboxT _) rfl HMwa.out rfl HKY.out ?_; rw [HBB.out]; unfold bxV)
        refine wp_fresh ?_
        rintro w6 hb5
        have hp21 : Blk w6 w5.heap.size #[.int .i64 bb.a1, .int .i64 bb.a2, .int .i64 bb.a3, .int .i64 bb.b1, .int .i64 bb.b2, .int .i64 bb.b3] := Blk.below (by
          refine blk_asB (cs := _) (by repeat (with_reducible (first | assumption | (apply Blk.at; simp; done) | apply Blk.alloc | apply Blk.drew | apply Blk.drewN | apply Blk.more | apply Blk.put | (apply Blk.far; focus (first | assumption | (apply Ne.symm; assumption) | (simp; done) | (simp <;> omega)))))) ?_
          exact rfl) hb5
        have hv5 : Below w5.heap.size w5 w6 := (by repeat (with_reducible (first | exact Below.refl _ _ | assumption | apply ext_drew | apply ext_drewN | apply ext_alloc | apply ext_more | (refine ext_setCell ?_ (by first | assumption | (simp <;> omega)) _) | (refine ext_below ?_ (by assumption)))))
        have HV1 := Lib.hid hv5
        have qx1b : w6.cell? ⟨gz, 0 * 2, none⟩ = some (.int .i64 x1) := (hv5.cell (p := ⟨gz, 0 * 2, none⟩) hgla).trans qx1a
        have qx2b : w6.cell? ⟨gz, 0 * 2 + 1, none⟩ = some (.int .i64 x2) := (hv5.cell (p := ⟨gz, 0 * 2 + 1, none⟩) hgla).trans qx2a
        have hglb : gz < w6.heap.size := Nat.lt_of_lt_of_le hgla hv5.size
        have HMwb := Lib.hid (HMwa.out.below hv5)
        have hbo := HPA.out.below hv5
        clear hb5 qx1a qx2a hgla
        clear hv5
        have HRM : Hid (∀ w, Calls Tryd.prog 11 #[.agg #[.int .i64 ba.a1, .int .i64 ba.a2, .int .i64 ba.a3, .int .i64 ba.b1, .int .i64 ba.b2, .int .i64 ba.b3], .agg #[.int .i64 bb.a1, .int .i64 bb.a2, .int .i64 bb.a3, .int .i64 bb.b1, .int .i64 bb.b2, .int .i64 bb.b3]] w fun e w' => e = .returned (.bool true) ∧ Below w.heap.size w w') := Lib.hid (fun w => by
          have h := rmeet_c ba.a1 ba.a2 ba.a3 ba.b1 ba.b2 ba.b3 bb.a1 bb.a2 bb.a3 bb.b1 bb.b2 bb.b3 w
          rw [show meetB ba.a1 ba.a2 ba.a3 ba.b1 ba.b2 ba.b3 bb.a1 bb.a2 bb.a3 bb.b1 bb.b2 bb.b3 = true from HMM.out] at h
          exact h)
        obtain ⟨za, ca, fa⟩ := id hbo
        obtain ⟨zb, cb, fb⟩ := id hp21
        clear hbo hp21
        have hmc := more_cell
        refine region_quiet_all (by kernel_rfl) (by kernel_rfl) ?_
        simp only [List.append_eq, List.cons_append, List.nil_append]
        repeat (go_big_quiet_step (first | (go_at_call 11; exact calls_after (HRM.out _))))
        refine wpQuiet_nil ?_
        rintro w8 hw8
        have hb8 := after_below hw8
        have HB8 : Hid (Below w.heap.size w w8) := Lib.hid (((HB.out.trans (HV0.out.mono HB.out.size)).trans (HV1.out.mono (Nat.le_trans HB.out.size HV0.out.size))).trans (hb8.mono (Nat.le_trans HB.out.size (Nat.le_trans HV0.out.size HV1.out.size))))
        clear hw8 hmc hb8 za ca fa zb cb fb hglb qx1b qx2b
        go_wp2
        go_roundg (ps.length - (0 + 1))
        case measure => have := HKK.out; omega
        case rel => exact ⟨0 + 1, (by first | (simp; done) | (simp; exact hw1)), by omega, rfl, HB8.out⟩
      | succ i =>
        have hw2 : wrap64 ((i : Int) + 1 - 1) = (i : Int) := by unfold wrap64; omega
        have hw3 : wrap64 (i : Int) = (i : Int) := by unfold wrap64; omega
        have d1 : decide ((0 : Int) < (i : Int) + 1) = true := decide_eq_true (by omega)
        simp only [Int.natCast_add, Int.natCast_one] at d0 hw1 ⊢
        obtain ⟨⟨y1, y2⟩, hy⟩ : ∃ x, ps[i]? = some x := ⟨_, List.getElem?_eq_getElem (by omega)⟩
        rcases (ltP_ne HS.out.1 hy hx : y1 < x1 ∨ (y1 = x1 ∧ y2 < x2)) with h1 | ⟨h1, h2⟩
        · have d2 : decide (x1 < y1) = false := decide_eq_false (by omega)
          have d3 : (x1 == y1) = false := by simpa using (by omega : ¬ x1 = y1)
          clear h1 hx12
          obtain ⟨gz, cz, ez, hgl, hcz⟩ := rowP_at (row_below HZ.out HB.out) (by omega)
          injection ez with ez1 _ ez2
          subst ez1 ez2
          obtain ⟨qx1, qx2⟩ := hcz _ _ hx
          obtain ⟨qy1, qy2⟩ := hcz _ _ hy
          simp only at qx1 qx2 qy1 qy2
          have HMw := Lib.hid (HM.out.below HB.out)
          clear hcz hx hy
          go_upto_region 70 with (at_lookup; refine at_lookT rfl _ _ rfl Tryd.underlying30 (zero_rboxT _) rfl HMw.out rfl HKX.out ?_; rw [HBA.out]; unfold bxV)
          refine wp_fresh ?_
          rintro w5 hb5
          have hp21 : Blk w5 wr.heap.size #[.int .i64 ba.a1, .int .i64 ba.a2, .int .i64 ba.a3, .int .i64 ba.b1, .int .i64 ba.b2, .int .i64 ba.b3] := Blk.below (by
            refine blk_asB (cs := _) (by repeat (with_reducible (first | assumption | (apply Blk.at; simp; done) | apply Blk.alloc | apply Blk.drew | apply Blk.drewN | apply Blk.more | apply Blk.put | (apply Blk.far; focus (first | assumption | (apply Ne.symm; assumption) | (simp; done) | (simp <;> omega)))))) ?_
            exact rfl) hb5
          have hv5 : Below wr.heap.size wr w5 := (by repeat (with_reducible (first | exact Below.refl _ _ | assumption | apply ext_drew | apply ext_drewN | apply ext_alloc | apply ext_more | (refine ext_setCell ?_ (by first | assumption | (simp <;> omega)) _) | (refine ext_below ?_ (by assumption)))))
          have HV0 := Lib.hid hv5
          have qx1a : w5.cell? ⟨gz, (i + 1) * 2, none⟩ = some (.int .i64 x1) := (hv5.cell (p := ⟨gz, (i + 1) * 2, none⟩) hgl).trans qx1
          have qx2a : w5.cell? ⟨gz, (i + 1) * 2 + 1, none⟩ = some (.int .i64 x2) := (hv5.cell (p := ⟨gz, (i + 1) * 2 + 1, none⟩) hgl).trans qx2
          have qy1a : w5.cell? ⟨gz, i * 2, none⟩ = some (.int .i64 y1) := (hv5.cell (p := ⟨gz, i * 2, none⟩) hgl).trans qy1
          have qy2a : w5.cell? ⟨gz, i * 2 + 1, none⟩ = some (.int .i64 y2) := (hv5.cell (p := ⟨gz, i * 2 + 1, none⟩) hgl).trans qy2
          have hgla : gz < w5.heap.size := Nat.lt_of_lt_of_le hgl hv5.size
          have HMwa := Lib.hid (HMw.out.below hv5)
          clear hb5 qx1 qx2 qy1 qy2 hgl
          have HPA := Lib.hid hp21
          clear hp21 hv5
          go_upto_region 71 with (at_lookup; refine at_lookT rfl _ _ rfl Tryd.underlying30 (zero_rboxT _) rfl HMwa.out rfl HKY.out ?_; rw [HBB.out]; unfold bxV)
          refine wp_fresh ?_
          rintro w6 hb5
          have hp21 : Blk w6 w5.heap.size #[.int .i64 bb.a1, .int .i64 bb.a2, .int .i64 bb.a3, .int .i64 bb.b1, .int .i64 bb.b2, .int .i64 bb.b3] := Blk.below (by
            refine blk_asB (cs := _) (by repeat (with_reducible (first | assumption | (apply Blk.at; simp; done) | apply Blk.alloc | apply Blk.drew | apply Blk.drewN | apply Blk.more | apply Blk.put | (apply Blk.far; focus (first | assumption | (apply Ne.symm; assumption) | (simp; done) | (simp <;> omega)))))) ?_
            exact rfl) hb5
          have hv5 : Below w5.heap.size w5 w6 := (by repeat (with_reducible (first | exact Below.refl _ _ | assumption | apply ext_drew | apply ext_drewN | apply ext_alloc | apply ext_more | (refine ext_setCell ?_ (by first | assumption | (simp <;> omega)) _) | (refine ext_below ?_ (by assumption)))))
          have HV1 := Lib.hid hv5
          have qx1b : w6.cell? ⟨gz, (i + 1) * 2, none⟩ = some (.int .i64 x1) := (hv5.cell (p := ⟨gz, (i + 1) * 2, none⟩) hgla).trans qx1a
          have qx2b : w6.cell? ⟨gz, (i + 1) * 2 + 1, none⟩ = some (.int .i64 x2) := (hv5.cell (p := ⟨gz, (i + 1) * 2 + 1, none⟩) hgla).trans qx2a
          have qy1b : w6.cell? ⟨gz, i * 2, none⟩ = some (.int .i64 y1) := (hv5.cell (p := ⟨gz, i * 2, none⟩) hgla).trans qy1a
          have qy2b : w6.cell? ⟨gz, i * 2 + 1, none⟩ = some (.int .i64 y2) := (hv5.cell (p := ⟨gz, i * 2 + 1, none⟩) hgla).trans qy2a
          have hglb : gz < w6.heap.size := Nat.lt_of_lt_of_le hgla hv5.size
          have HMwb := Lib.hid (HMwa.out.below hv5)
          have hbo := HPA.out.below hv5
          clear hb5 qx1a qx2a qy1a qy2a hgla
          clear hv5
          have HRM : Hid (∀ w, Calls Tryd.prog 11 #[.agg #[.int .i64 ba.a1, .int .i64 ba.a2, .int .i64 ba.a3, .int .i64 ba.b1, .int .i64 ba.b2, .int .i64 ba.b3], .agg #[.int .i64 bb.a1, .int .i64 bb.a2, .int .i64 bb.a3, .int .i64 bb.b1, .int .i64 bb.b2, .int .i64 bb.b3]] w fun e w' => e = .returned (.bool true) ∧ Below w.heap.size w w') := Lib.hid (fun w => by
            have h := rmeet_c ba.a1 ba.a2 ba.a3 ba.b1 ba.b2 ba.b3 bb.a1 bb.a2 bb.a3 bb.b1 bb.b2 bb.b3 w
            rw [show meetB ba.a1 ba.a2 ba.a3 ba.b1 ba.b2 ba.b3 bb.a1 bb.a2 bb.a3 bb.b1 bb.b2 bb.b3 = true from HMM.out] at h
            exact h)
          obtain ⟨za, ca, fa⟩ := id hbo
          obtain ⟨zb, cb, fb⟩ := id hp21
          clear hbo hp21
          have hmc := more_cell
          refine region_quiet_all (by kernel_rfl) (by kernel_rfl) ?_
          simp only [List.append_eq, List.cons_append, List.nil_append]
          repeat (go_big_quiet_step (first | (go_at_call 11; exact calls_after (HRM.out _))))
          refine wpQuiet_nil ?_
          rintro w8 hw8
          have hb8 := after_below hw8
          have HB8 : Hid (Below w.heap.size w w8) := Lib.hid (((HB.out.trans (HV0.out.mono HB.out.size)).trans (HV1.out.mono (Nat.le_trans HB.out.size HV0.out.size))).trans (hb8.mono (Nat.le_trans HB.out.size (Nat.le_trans HV0.out.size HV1.out.size))))
          clear hw8 hmc hb8 za ca fa zb cb fb hglb qx1b qx2b qy1b qy2b
          go_wp2
          go_roundg (ps.length - ((i + 1) + 1))
          case measure => have := HKK.out; omega
          case rel => exact ⟨(i + 1) + 1, (by first | (simp; done) | (simp; exact hw1)), by omega, rfl, HB8.out⟩
        · subst h1
          have d2 : decide (y1 < y1) = false := decide_eq_false (by omega)
          have d3 : decide (x2 ≤ y2) = false := decide_eq_false (by omega)
          clear h2 hx12
          obtain ⟨gz, cz, ez, hgl, hcz⟩ := rowP_at (row_below HZ.out HB.out) (by omega)
          injection ez with ez1 _ ez2
          subst ez1 ez2
          obtain ⟨qx1, qx2⟩ := hcz _ _ hx
          obtain ⟨qy1, qy2⟩ := hcz _ _ hy
          simp only at qx1 qx2 qy1 qy2
          have HMw := Lib.hid (HM.out.below HB.out)
          clear hcz hx hy
          go_upto_region 70 with (at_lookup; refine at_lookT rfl _ _ rfl Tryd.underlying30 (zero_rboxT _) rfl HMw.out rfl HKX.out ?_; rw [HBA.out]; unfold bxV)
          refine wp_fresh ?_
          rintro w5 hb5
          have hp21 : Blk w5 wr.heap.size #[.int .i64 ba.a1, .int .i64 ba.a2, .int .i64 ba.a3, .int .i64 ba.b1, .int .i64 ba.b2, .int .i64 ba.b3] := Blk.below (by
            refine blk_asB (cs := _) (by repeat (with_reducible (first | assumption | (apply Blk.at; simp; done) | apply Blk.alloc | apply Blk.drew | apply Blk.drewN | apply Blk.more | apply Blk.put | (apply Blk.far; focus (first | assumption | (apply Ne.symm; assumption) | (simp; done) | (simp <;> omega)))))) ?_
            exact rfl) hb5
          have hv5 : Below wr.heap.size wr w5 := (by repeat (with_reducible (first | exact Below.refl _ _ | assumption | apply ext_drew | apply ext_drewN | apply ext_alloc | apply ext_more | (refine ext_setCell ?_ (by first | assumption | (simp <;> omega)) _) | (refine ext_below ?_ (by assumption)))))
          have HV0 := Lib.hid hv5
          have qx1a : w5.cell? ⟨gz, (i + 1) * 2, none⟩ = some (.int .i64 y1) := (hv5.cell (p := ⟨gz, (i + 1) * 2, none⟩) hgl).trans qx1
          have qx2a : w5.cell? ⟨gz, (i + 1) * 2 + 1, none⟩ = some (.int .i64 x2) := (hv5.cell (p := ⟨gz, (i + 1) * 2 + 1, none⟩) hgl).trans qx2
          have qy1a : w5.cell? ⟨gz, i * 2, none⟩ = some (.int .i64 y1) := (hv5.cell (p := ⟨gz, i * 2, none⟩) hgl).trans qy1
          have qy2a : w5.cell? ⟨gz, i * 2 + 1, none⟩ = some (.int .i64 y2) := (hv5.cell (p := ⟨gz, i * 2 + 1, none⟩) hgl).trans qy2
          have hgla : gz < w5.heap.size := Nat.lt_of_lt_of_le hgl hv5.size
          have HMwa := Lib.hid (HMw.out.below hv5)
          clear hb5 qx1 qx2 qy1 qy2 hgl
          have HPA := Lib.hid hp21
          clear hp21 hv5
          go_upto_region 71 with (at_lookup; refine at_lookT rfl _ _ rfl Tryd.underlying30 (zero_rboxT _) rfl HMwa.out rfl HKY.out ?_; rw [HBB.out]; unfold bxV)
          refine wp_fresh ?_
          rintro w6 hb5
          have hp21 : Blk w6 w5.heap.size #[.int .i64 bb.a1, .int .i64 bb.a2, .int .i64 bb.a3, .int .i64 bb.b1, .int .i64 bb.b2, .int .i64 bb.b3] := Blk.below (by
            refine blk_asB (cs := _) (by repeat (with_reducible (first | assumption | (apply Blk.at; simp; done) | apply Blk.alloc | apply Blk.drew | apply Blk.drewN | apply Blk.more | apply Blk.put | (apply Blk.far; focus (first | assumption | (apply Ne.symm; assumption) | (simp; done) | (simp <;> omega)))))) ?_
            exact rfl) hb5
          have hv5 : Below w5.heap.size w5 w6 := (by repeat (with_reducible (first | exact Below.refl _ _ | assumption | apply ext_drew | apply ext_drewN | apply ext_alloc | apply ext_more | (refine ext_setCell ?_ (by first | assumption | (simp <;> omega)) _) | (refine ext_below ?_ (by assumption)))))
          have HV1 := Lib.hid hv5
          have qx1b : w6.cell? ⟨gz, (i + 1) * 2, none⟩ = some (.int .i64 y1) := (hv5.cell (p := ⟨gz, (i + 1) * 2, none⟩) hgla).trans qx1a
          have qx2b : w6.cell? ⟨gz, (i + 1) * 2 + 1, none⟩ = some (.int .i64 x2) := (hv5.cell (p := ⟨gz, (i + 1) * 2 + 1, none⟩) hgla).trans qx2a
          have qy1b : w6.cell? ⟨gz, i * 2, none⟩ = some (.int .i64 y1) := (hv5.cell (p := ⟨gz, i * 2, none⟩) hgla).trans qy1a
          have qy2b : w6.cell? ⟨gz, i * 2 + 1, none⟩ = some (.int .i64 y2) := (hv5.cell (p := ⟨gz, i * 2 + 1, none⟩) hgla).trans qy2a
          have hglb : gz < w6.heap.size := Nat.lt_of_lt_of_le hgla hv5.size
          have HMwb := Lib.hid (HMwa.out.below hv5)
          have hbo := HPA.out.below hv5
          clear hb5 qx1a qx2a qy1a qy2a hgla
          clear hv5
          have HRM : Hid (∀ w, Calls Tryd.prog 11 #[.agg #[.int .i64 ba.a1, .int .i64 ba.a2, .int .i64 ba.a3, .int .i64 ba.b1, .int .i64 ba.b2, .int .i64 ba.b3], .agg #[.int .i64 bb.a1, .int .i64 bb.a2, .int .i64 bb.a3, .int .i64 bb.b1, .int .i64 bb.b2, .int .i64 bb.b3]] w fun e w' => e = .returned (.bool true) ∧ Below w.heap.size w w') := Lib.hid (fun w => by
            have h := rmeet_c ba.a1 ba.a2 ba.a3 ba.b1 ba.b2 ba.b3 bb.a1 bb.a2 bb.a3 bb.b1 bb.b2 bb.b3 w
            rw [show meetB ba.a1 ba.a2 ba.a3 ba.b1 ba.b2 ba.b3 bb.a1 bb.a2 bb.a3 bb.b1 bb.b2 bb.b3 = true from HMM.out] at h
            exact h)
          obtain ⟨za, ca, fa⟩ := id hbo
          obtain ⟨zb, cb, fb⟩ := id hp21
          clear hbo hp21
          have hmc := more_cell
          refine region_quiet_all (by kernel_rfl) (by kernel_rfl) ?_
          simp only [List.append_eq, List.cons_append, List.nil_append]
          repeat (go_big_quiet_step (first | (go_at_call 11; exact calls_after (HRM.out _))))
          refine wpQuiet_nil ?_
          rintro w8 hw8
          have hb8 := after_below hw8
          have HB8 : Hid (Below w.heap.size w w8) := Lib.hid (((HB.out.trans (HV0.out.mono HB.out.size)).trans (HV1.out.mono (Nat.le_trans HB.out.size HV0.out.size))).trans (hb8.mono (Nat.le_trans HB.out.size (Nat.le_trans HV0.out.size HV1.out.size))))
          clear hw8 hmc hb8 za ca fa zb cb fb hglb qx1b qx2b qy1b qy2b
          go_wp2
          go_roundg (ps.length - ((i + 1) + 1))
          case measure => have := HKK.out; omega
          case rel => exact ⟨(i + 1) + 1, (by first | (simp; done) | (simp; exact hw1)), by omega, rfl, HB8.out⟩
    · have d0 : decide ((j : Int) < (ps.length : Int)) = false := decide_eq_false (by omega)
      go_wp2
      exact HQ.out _ wr ⟨rfl, rfl, by intro x hx; simp only [List.mem_cons, List.not_mem_nil, or_false] at hx; rcases hx with rfl <;> rfl⟩ (by intro i hi; simp only [List.mem_cons, List.not_mem_nil, or_false] at hi; rcases hi with rfl <;> exact HG.out _) HB.out
end Go.Proofs.YtefhmbmbhiehdaaDoor
namespace Go.Proofs.YtefhmbmbhiehdaaDoor
open Go Go.Maps Go.RowKit Go.BigFrame Go.ChangeShapes Go.WideShapes
/-- what a map may answer -/
theorem look_agg (o : Option Bx) : ∃ x1 x2 x3 x4 x5 x6 : Int, (o.map bxV).getD (.agg #[.int .i64 0, .int .i64 0, .int .i64 0, .int .i64 0, .int .i64 0, .int .i64 0]) = .agg #[.int .i64 x1, .int .i64 x2, .int .i64 x3, .int .i64 x4, .int .i64 x5, .int .i64 x6] := by
  cases o with
  | none => exact ⟨0, 0, 0, 0, 0, 0, rfl⟩
  | some b => exact ⟨b.a1, b.a2, b.a3, b.b1, b.b2, b.b3, rfl⟩
set_option maxRecDepth 100000 in
set_option maxHeartbeats 8000000 in
theorem switch_way {Q : Exit → Act → World → Prop} {a0 : Act} {w0 w : World} {t mb bm p9 p n : Nat} {fat id_ a1 a2 a3 b1 b2 b3 : Int} {D : Int → Option Bx} {S : Nat → Prop} {wh : Int} (h0 : Lv a0 [(5, .pointer (some ⟨t, 0, none⟩)), (7, .map (some mb)), (9, .pointer (some ⟨p9, 0, none⟩)), (11, .bool (D id_).isSome), (81, .int .i64 wh)]) (HP : Hid (BPl w0 w t fat p D n S mb bm)) (H9 : Hid (Blk w p9 #[.int .i64 wh, .int .i64 id_, .int .i64 a1, .int .i64 a2, .int .i64 a3, .int .i64 b1, .int .i64 b2, .int .i64 b3] ∧ ¬ S p9 ∧ p9 ≠ mb)) (HK : Hid (keyOf Tryd.prog 3 (.int .i64 id_) = some (.int .i64 id_))) (HH : Hid (Handle w0)) (HN : Hid (p < 1000 ∧ 0 ≤ fat))
    (HQ : Hid (∀ (a : Act) (wx : World) (D' : Int → Option Bx) (n' : Nat) (S' : Nat → Prop) (bm' : Nat), Lv a [(5, .pointer (some ⟨t, 0, none⟩)), (7, .map (some mb)), (9, .pointer (some ⟨p9, 0, none⟩))] → (∀ i ∈ [1, 8], a.tmps.getD i undef = a0.tmps.getD i undef) → BPl w0 wx t fat (p + 1) D' n' S' mb bm' → Blk wx p9 #[.int .i64 wh, .int .i64 id_, .int .i64 a1, .int .i64 a2, .int .i64 a3, .int .i64 b1, .int .i64 b2, .int .i64 b3] → ¬ S' p9 → Q .normal a wx)) :
    Code.wp Tryd.prog (blockC Tryd.f3 2) Q a0 w := by
  by_cases e0 : wh = 0
  · subst e0
    exact switch_0 h0 HP H9 HK HH HN HQ
  · by_cases e1 : wh = 1
    · subst e1
      exact switch_1 h0 HP H9 HK HH HN HQ
    · exact switch_n ⟨h0.1, h0.2.1, fun x hx => h0.2.2 x (by
        simp only [List.mem_cons, List.not_mem_nil, or_false] at hx ⊢
        rcases hx with rfl | rfl | rfl | rfl <;> simp)⟩ HP H9 e0 e1 HQ
set_option maxRecDepth 100000 in
set_option maxHeartbeats 8000000 in
theorem round_way {Q : Exit → Act → World → Prop} {a0 : Act} {w0 w : World} {t mb bm p n n0 c0 j : Nat} {fat : Int} {A0 : Option Addr} {M0 : Nat → Nat → Int} {D : Int → Option Bx} {S : Nat → Prop} (h0 : Lv a0 [(1, .slice A0 n0 c0), (5, .pointer (some ⟨t, 0, none⟩)), (7, .map (some mb)), (8, .int .i64 (j : Int))]) (HP : Hid (BPl w0 w t fat p D n S mb bm)) (HR : Hid (Reads w0 A0 n0 8 M0)) (HM0 : Hid (∀ i j, -9223372036854775808 ≤ M0 i j ∧ M0 i j ≤ 9223372036854775807)) (HJ : Hid (j < n0 ∧ n0 ≤ 150)) (HH : Hid (Handle w0)) (HN : Hid (p < 1000 ∧ 0 ≤ fat))
    (HQ : Hid (∀ (a : Act) (wx : World) (D' : Int → Option Bx) (n' : Nat) (S' : Nat → Prop) (bm' : Nat), Lv a [(1, .slice A0 n0 c0), (5, .pointer (some ⟨t, 0, none⟩)), (7, .map (some mb)), (8, .int .i64 (j : Int))] → BPl w0 wx t fat (p + 1) D' n' S' mb bm' → Q .normal a wx)) :
    Code.wp Tryd.prog (blockC Tryd.f3 1) Q a0 w := by
  obtain ⟨g, hg⟩ : ∃ g : Nat → Value, ∀ i, g i = a0.tmps.getD i undef := ⟨_, fun _ => rfl⟩
  rw [act_lit a0 h0.1 h0.2.1 g hg]
  rw [show g 1 = .slice A0 n0 c0 from (hg 1).trans (h0.2.2 (1, .slice A0 n0 c0) (by simp))]
  rw [show g 5 = .pointer (some ⟨t, 0, none⟩) from (hg 5).trans (h0.2.2 (5, .pointer (some ⟨t, 0, none⟩)) (by simp))]
  rw [show g 7 = .map (some mb) from (hg 7).trans (h0.2.2 (7, .map (some mb)) (by simp))]
  rw [show g 8 = .int .i64 (j : Int) from (hg 8).trans (h0.2.2 (8, .int .i64 (j : Int)) (by simp))]
  have HG := Lib.hid hg
  clear hg h0
  conv => arg 2; whnf
  dsimp only
  have hj50 := HJ.out
  obtain ⟨bb, oo, eA, hbb, hcl⟩ := HR.out (by omega)
  subst eA
  have q0 : w.cell? ⟨bb, oo + (j * 8 + 0), none⟩ = some (.int .i64 (M0 j 0)) := (HP.out.ext.cell (p := ⟨bb, oo + (j * 8 + 0), none⟩) hbb).trans (hcl j HJ.out.1 0 (by decide))
  have q1 : w.cell? ⟨bb, oo + (j * 8 + 1), none⟩ = some (.int .i64 (M0 j 1)) := (HP.out.ext.cell (p := ⟨bb, oo + (j * 8 + 1), none⟩) hbb).trans (hcl j HJ.out.1 1 (by decide))
  have q2 : w.cell? ⟨bb, oo + (j * 8 + 2), none⟩ = some (.int .i64 (M0 j 2)) := (HP.out.ext.cell (p := ⟨bb, oo + (j * 8 + 2), none⟩) hbb).trans (hcl j HJ.out.1 2 (by decide))
  have q3 : w.cell? ⟨bb, oo + (j * 8 + 3), none⟩ = some (.int .i64 (M0 j 3)) := (HP.out.ext.cell (p := ⟨bb, oo + (j * 8 + 3), none⟩) hbb).trans (hcl j HJ.out.1 3 (by decide))
  have q4 : w.cell? ⟨bb, oo + (j * 8 + 4), none⟩ = some (.int .i64 (M0 j 4)) := (HP.out.ext.cell (p := ⟨bb, oo + (j * 8 + 4), none⟩) hbb).trans (hcl j HJ.out.1 4 (by decide))
  have q5 : w.cell? ⟨bb, oo + (j * 8 + 5), none⟩ = some (.int .i64 (M0 j 5)) := (HP.out.ext.cell (p := ⟨bb, oo + (j * 8 + 5), none⟩) hbb).trans (hcl j HJ.out.1 5 (by decide))
  have q6 : w.cell? ⟨bb, oo + (j * 8 + 6), none⟩ = some (.int .i64 (M0 j 6)) := (HP.out.ext.cell (p := ⟨bb, oo + (j * 8 + 6), none⟩) hbb).trans (hcl j HJ.out.1 6 (by decide))
  have q7 : w.cell? ⟨bb, oo + (j * 8 + 7), none⟩ = some (.int .i64 (M0 j 7)) := (HP.out.ext.cell (p := ⟨bb, oo + (j * 8 + 7), none⟩) hbb).trans (hcl j HJ.out.1 7 (by decide))
  simp only [Nat.add_zero] at q0
  rw [← Nat.add_assoc] at q1
  rw [← Nat.add_assoc] at q2
  rw [← Nat.add_assoc] at q3
  rw [← Nat.add_assoc] at q4
  rw [← Nat.add_assoc] at q5
  rw [← Nat.add_assoc] at q6
  rw [← Nat.add_assoc] at q7
  have hbl : bb < w.heap.size := Nat.lt_of_lt_of_le hbb HP.out.ext.size
  have HK : Hid (keyOf Tryd.prog 3 (.int .i64 (M0 j 1)) = some (.int .i64 (M0 j 1))) := Lib.hid (int_wf_key Tryd.underlying3 (intKey_wf (HM0.out j 1).1 (HM0.out j 1).2))
  have hjn : (j : Int) < (n0 : Int) := by omega
  clear hj50 hcl
  go_upto_region 13 with fail
  refine wp_fresh ?_
  rintro w5 hb5
  obtain ⟨wh, h_wh⟩ : ∃ x, x = M0 j 0 := ⟨_, rfl⟩
  obtain ⟨id_, h_id_⟩ : ∃ x, x = M0 j 1 := ⟨_, rfl⟩
  obtain ⟨a1, h_a1⟩ : ∃ x, x = M0 j 2 := ⟨_, rfl⟩
  obtain ⟨a2, h_a2⟩ : ∃ x, x = M0 j 3 := ⟨_, rfl⟩
  obtain ⟨a3, h_a3⟩ : ∃ x, x = M0 j 4 := ⟨_, rfl⟩
  obtain ⟨b1, h_b1⟩ : ∃ x, x = M0 j 5 := ⟨_, rfl⟩
  obtain ⟨b2, h_b2⟩ : ∃ x, x = M0 j 6 := ⟨_, rfl⟩
  obtain ⟨b3, h_b3⟩ : ∃ x, x = M0 j 7 := ⟨_, rfl⟩
  rw [← h_wh, ← h_id_, ← h_a1, ← h_a2, ← h_a3, ← h_b1, ← h_b2, ← h_b3] at hb5
  rw [← h_id_] at HK
  have hp9 : Blk w5 w.heap.size #[.int .i64 wh, .int .i64 id_, .int .i64 a1, .int .i64 a2, .int .i64 a3, .int .i64 b1, .int .i64 b2, .int .i64 b3] := Blk.below (by
    refine blk_asB (cs := _) (by repeat (with_reducible (first | assumption | (apply Blk.at; simp; done) | apply Blk.alloc | apply Blk.drew | apply Blk.drewN | apply Blk.more | apply Blk.put | (apply Blk.far; focus (first | assumption | (apply Ne.symm; assumption) | (simp; done) | (simp <;> omega)))))) ?_
    exact rfl) hb5
  have hv5 : Below w.heap.size w w5 := (by repeat (with_reducible (first | exact Below.refl _ _ | assumption | apply ext_drew | apply ext_drewN | apply ext_alloc | apply ext_more | (refine ext_setCell ?_ (by first | assumption | (simp <;> omega)) _) | (refine ext_below ?_ (by assumption)))))
  have HP5 := Lib.hid (HP.out.below hv5)
  have H9 : Hid (Blk w5 w.heap.size #[.int .i64 wh, .int .i64 id_, .int .i64 a1, .int .i64 a2, .int .i64 a3, .int .i64 b1, .int .i64 b2, .int .i64 b3] ∧ ¬ S w.heap.size ∧ w.heap.size ≠ mb) := Lib.hid ⟨hp9, fun h => by have := HP.out.bw.2 _ h; omega, fun e => by have := HP.out.map.lt; omega⟩
  obtain ⟨p9, h_p9⟩ : ∃ x, x = w.heap.size := ⟨_, rfl⟩
  rw [← h_p9] at H9 ⊢
  clear hb5 hv5 hp9 q0 q1 q2 q3 q4 q5 q6 q7 hbl hbb hjn h_wh h_p9 h_id_ h_a1 h_a2 h_a3 h_b1 h_b2 h_b3
  obtain ⟨z9, c9, f9⟩ := id H9.out.1
  obtain ⟨x1, x2, x3, x4, x5, x6, hx⟩ := look_agg (D id_)
  have HX := Lib.hid hx
  clear hx
  go_upto_region 14 with (at_lookup; refine at_lookT rfl _ _ rfl Tryd.underlying30 (zero_rboxT _) rfl HP5.out.map rfl HK.out ?_; rw [HX.out, Option.isSome_map])
  refine wp_fresh ?_
  rintro w6 hb6
  have hv6 : Below w5.heap.size w5 w6 := (by repeat (with_reducible (first | exact Below.refl _ _ | assumption | apply ext_drew | apply ext_drewN | apply ext_alloc | apply ext_more | (refine ext_setCell ?_ (by first | assumption | (simp <;> omega)) _) | (refine ext_below ?_ (by assumption)))))
  have HP6 := Lib.hid (HP5.out.below hv6)
  have H96 : Hid (Blk w6 p9 #[.int .i64 wh, .int .i64 id_, .int .i64 a1, .int .i64 a2, .int .i64 a3, .int .i64 b1, .int .i64 b2, .int .i64 b3] ∧ ¬ S p9 ∧ p9 ≠ mb) := Lib.hid ⟨H9.out.1.below hv6, H9.out.2⟩
  clear hb6 hv6 z9 c9 f9
  obtain ⟨z9, c9, f9⟩ := id H96.out.1
  go_upto_block 2 with fail
  clear z9 c9 f9
  refine switch_way ⟨rfl, rfl, by intro x hx; simp only [List.mem_cons, List.not_mem_nil, or_false] at hx; rcases hx with rfl | rfl | rfl | rfl | rfl <;> rfl⟩ HP6 H96 HK HH HN (Lib.hid ?_)
  rintro a w7 D' n' S' bm' hLv hkp hP7 h97 hS7
  obtain ⟨g1, hg1⟩ : ∃ g1 : Nat → Value, ∀ i, g1 i = a.tmps.getD i undef := ⟨_, fun _ => rfl⟩
  rw [act_lit a hLv.1 hLv.2.1 g1 hg1]
  rw [show g1 5 = .pointer (some ⟨t, 0, none⟩) from (hg1 5).trans (hLv.2.2 (5, .pointer (some ⟨t, 0, none⟩)) (by simp))]
  rw [show g1 7 = .map (some mb) from (hg1 7).trans (hLv.2.2 (7, .map (some mb)) (by simp))]
  rw [show g1 9 = .pointer (some ⟨p9, 0, none⟩) from (hg1 9).trans (hLv.2.2 (9, .pointer (some ⟨p9, 0, none⟩)) (by simp))]
  rw [show g1 1 = .slice (some ⟨bb, oo, none⟩) n0 c0 from (hg1 1).trans (hkp 1 (by simp))]
  rw [show g1 8 = .int .i64 (j : Int) from (hg1 8).trans (hkp 8 (by simp))]
  clear hg1 hLv hkp
  clear a
  have HP7 := Lib.hid hP7
  have H97 := Lib.hid (And.intro h97 hS7)
  clear hP7 h97 hS7 HP6 H96 HP5 H9
  obtain ⟨z9, c9, f9⟩ := id H97.out.1
  go_wp2_with fail
  refine (query_c w7 t ⟨a1, a2, a3, b1, b2, b3⟩ fat (p + 1) D' n' S' HP7.out.bw (by have := HN.out.1; omega) HP7.out.keys).mono ?_
  rintro e w8 ⟨v, zs, rfl, hb8, hrow, hsort, hlen, hmem⟩
  obtain ⟨Az, Cz, hv⟩ := row_val hrow
  subst hv
  have HP8 := Lib.hid (HP7.out.below hb8)
  have H98 := Lib.hid (H97.out.1.below hb8)
  have HROW := Lib.hid hrow
  have HS8 : Hid (zs.Pairwise (· < ·) ∧ zs.length ≤ 60) := Lib.hid ⟨hsort, by have := HP7.out.n60; omega⟩
  have HMEM := Lib.hid hmem
  clear hb8 hrow hsort hlen hmem z9 c9 f9 HP7
  go_upto_block 7 with fail
  refine check_way ⟨rfl, rfl, by intro x hx; simp only [List.mem_cons, List.not_mem_nil, or_false] at hx; rcases hx with rfl | rfl | rfl | rfl <;> rfl⟩ (Lib.hid HP8.out.map) HROW HS8 (Lib.hid fun x hx => (HMEM.out x).1 hx) H98 (Lib.hid HP8.out.keys) (Lib.hid ?_)
  rintro a w9 hLv hkp hb9
  obtain ⟨g2, hg2⟩ : ∃ g2 : Nat → Value, ∀ i, g2 i = a.tmps.getD i undef := ⟨_, fun _ => rfl⟩
  rw [act_lit a hLv.1 hLv.2.1 g2 hg2]
  rw [show g2 7 = .map (some mb) from (hg2 7).trans (hLv.2.2 (7, .map (some mb)) (by simp))]
  rw [show g2 9 = .pointer (some ⟨p9, 0, none⟩) from (hg2 9).trans (hLv.2.2 (9, .pointer (some ⟨p9, 0, none⟩)) (by simp))]
  rw [show g2 19 = .slice Az zs.length Cz from (hg2 19).trans (hLv.2.2 (19, .slice Az zs.length Cz) (by simp))]
  rw [show g2 1 = .slice (some ⟨bb, oo, none⟩) n0 c0 from (hg2 1).trans (hkp 1 (by simp))]
  rw [show g2 5 = .pointer (some ⟨t, 0, none⟩) from (hg2 5).trans (hkp 5 (by simp))]
  rw [show g2 8 = .int .i64 (j : Int) from (hg2 8).trans (hkp 8 (by simp))]
  rw [show g2 18 = .int .i64 0 from (hg2 18).trans (hkp 18 (by simp))]
  clear hg2 hLv hkp
  clear a
  have HP9 := Lib.hid (HP8.out.below hb9)
  have H99 := Lib.hid (H98.out.below hb9)
  clear hb9 HP8 H98 HROW
  obtain ⟨G, hGm, hGv⟩ := HP9.out.map
  have HGM := Lib.hid hGm
  have HGV : Hid (∀ k : Int, G (.int .i64 k) = (D' k).map bxV) := Lib.hid hGv
  clear hGm hGv
  go_upto_block 9 with (at_range; refine at_rangeV rfl (.tmp 211) rfl (int_keyed Tryd.underlying3) Tryd.underlying30 rfl HGM.out ?_; intro w10 hr10 hd10 hs10; have HR10 := Lib.hid hr10; have HD10 := Lib.hid hd10; clear hr10 hd10 hs10)
  try go_frame
  have HP10 := Lib.hid (HP9.out.below (HD10.out.toBelow (Nat.le_refl _) (fun b _ h => h)))
  have H910 := Lib.hid (H99.out.mod HD10.out (fun h => h))
  have H9L := Lib.hid H99.out.lt
  refine count_way ⟨rfl, rfl, by intro x hx; simp only [List.mem_cons, List.not_mem_nil, or_false] at hx; rcases hx with rfl | rfl | rfl <;> rfl⟩ HR10 HGV (Lib.hid ⟨H910.out, by have := H9L.out; omega⟩) (Lib.hid HP10.out.n60) (Lib.hid ?_)
  rintro a w11 vs hLv hkp hnd hvs hvl hm11
  obtain ⟨g3, hg3⟩ : ∃ g3 : Nat → Value, ∀ i, g3 i = a.tmps.getD i undef := ⟨_, fun _ => rfl⟩
  rw [act_lit a hLv.1 hLv.2.1 g3 hg3]
  rw [show g3 18 = .int .i64 (vs.length : Int) from (hg3 18).trans (hLv.2.2 (18, .int .i64 (vs.length : Int)) (by simp))]
  rw [show g3 9 = .pointer (some ⟨p9, 0, none⟩) from (hg3 9).trans (hLv.2.2 (9, .pointer (some ⟨p9, 0, none⟩)) (by simp))]
  rw [show g3 1 = .slice (some ⟨bb, oo, none⟩) n0 c0 from (hg3 1).trans (hkp 1 (by simp))]
  rw [show g3 5 = .pointer (some ⟨t, 0, none⟩) from (hg3 5).trans (hkp 5 (by simp))]
  rw [show g3 7 = .map (some mb) from (hg3 7).trans (hkp 7 (by simp))]
  rw [show g3 8 = .int .i64 (j : Int) from (hg3 8).trans (hkp 8 (by simp))]
  rw [show g3 19 = .slice Az zs.length Cz from (hg3 19).trans (hkp 19 (by simp))]
  clear hg3 hLv hkp
  clear a
  have hlen : vs.length = zs.length := len_same hnd (HS8.out.1.imp (fun h e => by omega)) (fun x => by rw [hvs x, HMEM.out x, meetD_iff])
  rw [hlen]
  have hb11 : Below w9.heap.size w9 w11 := (HD10.out.toBelow (Nat.le_refl _) (fun b _ h => h)).trans (hm11.toBelow HD10.out.size (fun b h1 (h2 : b = w9.heap.size) => by omega))
  have HP11 := Lib.hid (HP9.out.below hb11)
  clear hlen hnd hvs hvl hm11 hb11 HP10 H910 H9L HP9 H99 HR10 HD10 HGV HGM HMEM
  have hzn : (zs.length : Int) = zs.length := rfl
  go_wp2_with (first | (at_len; refine at_lenG (by rfl) _ rfl Tryd.underlying30 rfl HP11.out.map ?_))
  refine (many_c w11 t fat (p + 1) D' n' S' HP11.out.bw).mono ?_
  rintro e w12 ⟨rfl, rfl⟩
  go_wp2_with (first | (at_len; refine at_lenG (by rfl) _ rfl Tryd.underlying30 rfl HP11.out.map ?_))
  refine (high_c w11 t fat (p + 1) D' n' S' HP11.out.bw).mono ?_
  rintro e w13 ⟨hh, rfl, hho, hb13⟩
  have HP13 := Lib.hid (HP11.out.below hb13)
  have HHO := Lib.hid hho
  clear hb13 hho
  go_wp2_with (first | (at_len; refine at_lenG (by rfl) _ rfl Tryd.underlying30 rfl HP13.out.map ?_))
  refine (lawhigh_c hh n' HP13.out.n60 HHO.out w13).mono ?_
  rintro e w14 ⟨rfl, rfl⟩
  go_wp2
  exact HQ.out _ w13 D' n' S' bm' ⟨rfl, rfl, by intro x hx; simp only [List.mem_cons, List.not_mem_nil, or_false] at hx; rcases hx with rfl | rfl | rfl | rfl <;> rfl⟩ HP13.out
end Go.Proofs.YtefhmbmbhiehdaaDoor
namespace Go.Proofs.YtefhmbmbhiehdaaDoor
open Go Go.Maps Go.RowKit Go.BigFrame Go.ChangeShapes Go.WideShapes
set_option maxRecDepth 100000 in
set_option maxHeartbeats 16000000 in
theorem broadPlays_w (a1 : Int) (A0 : Option Addr) (n0 c0 : Nat) (M0 : Nat → Nat → Int) (w : World) (hH : Handle w) (_hn0 : n0 ≤ maxLen) (hR0 : Reads w A0 n0 8 M0) (hM0 : ∀ i j, -9223372036854775808 ≤ M0 i j ∧ M0 i j ≤ 9223372036854775807) :
    Calls Tryd.prog 3 #[.int .i64 a1, .slice A0 n0 c0] w fun e w' => e = .returned (.bool true) ∧ Below w.heap.size w w' := by
  have HR0 := Lib.hid hR0
  have HM0 := Lib.hid hM0
  have HH := Lib.hid hH
  clear hR0 hM0 hH
  by_cases h50 : 150 < n0
  · have d50 : decide ((150 : Int) < (n0 : Int)) = true := decide_eq_true (by omega)
    go_enter Tryd.func3, Tryd.ntmps3
    go_wp2
    go_ret
    exact ⟨rfl, Below.refl _ _⟩
  have d50 : decide ((150 : Int) < (n0 : Int)) = false := decide_eq_false (by omega)
  have h50' : n0 ≤ 150 := by omega
  have HNN := Lib.hid h50'
  clear h50 h50'
  by_cases hfb : a1 < 0 ∨ 3276800 < a1
  · have HF := Lib.hid hfb
    rcases Int.lt_or_le a1 0 with h0 | h0
    · have d1 : decide (a1 < 0) = true := decide_eq_true h0
      clear hfb h0
      go_enter Tryd.func3, Tryd.ntmps3
      go_wp2_with fail
      refine (bnew_no a1 HF.out w).mono ?_
      rintro e w1 ⟨rfl, rfl⟩
      go_wp2_with fail
      refine (lbare_eq 2 2 w HH.out rfl).mono ?_
      rintro e w2 ⟨rfl, hb2⟩
      go_wp2
      go_ret
      exact ⟨rfl, hb2⟩
    · have d1 : decide (a1 < 0) = false := decide_eq_false (by omega)
      have d2 : decide ((3276800 : Int) < a1) = true := decide_eq_true (by omega)
      clear hfb
      go_enter Tryd.func3, Tryd.ntmps3
      go_wp2_with fail
      refine (bnew_no a1 HF.out w).mono ?_
      rintro e w1 ⟨rfl, rfl⟩
      go_wp2_with fail
      refine (lbare_eq 2 2 w HH.out rfl).mono ?_
      rintro e w2 ⟨rfl, hb2⟩
      go_wp2
      go_ret
      exact ⟨rfl, hb2⟩
  have hfa : 0 ≤ a1 ∧ a1 ≤ 3276800 := by omega
  have HFA := Lib.hid hfa
  have d1 : decide (a1 < 0) = false := decide_eq_false (by omega)
  have d2 : decide ((3276800 : Int) < a1) = false := decide_eq_false (by omega)
  clear hfb hfa
  have hmk := @run_makeMap Tryd.prog
  go_enter Tryd.func3, Tryd.ntmps3
  go_wp2_with fail
  refine (bnew_c a1 HFA.out w).mono ?_
  rintro e w1 ⟨t, S, rfl, hb1, hB1, hS1⟩
  have H1 := Lib.hid (And.intro hb1 (And.intro hB1 hS1))
  clear hb1 hB1 hS1
  go_upto_block 0 with fail
  have HP0 : Hid (BPl w (w1.alloc (.map #[] 0)) t a1 0 (fun _ => none) 0 S w1.heap.size 0) := Lib.hid (by
    have hv : Below w1.heap.size w1 (w1.alloc (.map #[] 0)) := (by repeat (with_reducible (first | exact Below.refl _ _ | assumption | apply ext_drew | apply ext_drewN | apply ext_alloc | apply ext_more | (refine ext_setCell ?_ (by first | assumption | (simp <;> omega)) _) | (refine ext_below ?_ (by assumption)))))
    exact ⟨H1.out.2.1.below hv, vi_made _, fun h => by have := H1.out.2.1.2 _ h; omega, fun y hy => (by cases hy), H1.out.2.2, H1.out.1.size, H1.out.1.trans (hv.mono H1.out.1.size), Nat.le_refl _, by omega⟩)
  obtain ⟨w2, hw2⟩ : ∃ x, x = w1.alloc (.map #[] 0) := ⟨_, rfl⟩
  obtain ⟨mb, hmb⟩ : ∃ x, x = w1.heap.size := ⟨_, rfl⟩
  rw [← hw2, ← hmb] at HP0
  rw [← hw2, ← hmb]
  clear hw2 hmb H1 hmk
  go_wp2_with fail
  refine wp_loop_ghost_k (fun k a wr => ∃ (j n : Nat) (D : Int → Option Bx) (S : Nat → Prop) (bm : Nat), j ≤ n0 ∧ k = n0 - j ∧ Lv a [(1, .slice A0 n0 c0), (5, .pointer (some ⟨t, 0, none⟩)), (7, .map (some mb)), (8, .int .i64 (j : Int))] ∧ BPl w wr t a1 j D n S mb bm) n0 ⟨0, 0, _, S, 0, Nat.zero_le _, rfl, ⟨rfl, rfl, by intro x hx; simp only [List.mem_cons, List.not_mem_nil, or_false] at hx; rcases hx with rfl | rfl | rfl | rfl <;> rfl⟩, HP0.out⟩ ?_
  rintro k a wr ⟨j, n, D, S', bm, hj, hk, hLv, hP⟩ J K hJ hK
  have HP := Lib.hid hP
  have HK := Lib.hid hk
  have HJ := Lib.hid hJ
  have HKK := Lib.hid hK
  have hn50 := HNN.out
  clear hP hk HP0 hJ hK
  obtain ⟨g1, hg1⟩ : ∃ g1 : Nat → Value, ∀ i, g1 i = a.tmps.getD i undef := ⟨_, fun _ => rfl⟩
  rw [act_lit a hLv.1 hLv.2.1 g1 hg1]
  rw [show g1 1 = .slice A0 n0 c0 from (hg1 1).trans (hLv.2.2 (1, .slice A0 n0 c0) (by simp))]
  rw [show g1 5 = .pointer (some ⟨t, 0, none⟩) from (hg1 5).trans (hLv.2.2 (5, .pointer (some ⟨t, 0, none⟩)) (by simp))]
  rw [show g1 7 = .map (some mb) from (hg1 7).trans (hLv.2.2 (7, .map (some mb)) (by simp))]
  rw [show g1 8 = .int .i64 (j : Int) from (hg1 8).trans (hLv.2.2 (8, .int .i64 (j : Int)) (by simp))]
  clear hg1 hLv
  clear a
  by_cases hjl : j < n0
  · have dj : decide ((j : Int) < (n0 : Int)) = true := decide_eq_true (by omega)
    have hw1 : wrap64 ((j : Int) + 1) = (j : Int) + 1 := by unfold wrap64; omega
    have HJL := Lib.hid hjl
    go_upto_block 1 with fail
    clear hjl hj hn50 dj
    refine round_way ⟨rfl, rfl, by intro x hx; simp only [List.mem_cons, List.not_mem_nil, or_false] at hx; rcases hx with rfl | rfl | rfl | rfl <;> rfl⟩ HP HR0 HM0 (Lib.hid ⟨HJL.out, HNN.out⟩) HH (Lib.hid ⟨by have := HNN.out; have := HJL.out; omega, HFA.out.1⟩) (Lib.hid ?_)
    rintro a w5 D' n' S5 bm' hLv hP5
    obtain ⟨g2, hg2⟩ : ∃ g2 : Nat → Value, ∀ i, g2 i = a.tmps.getD i undef := ⟨_, fun _ => rfl⟩
    rw [act_lit a hLv.1 hLv.2.1 g2 hg2]
    rw [show g2 1 = .slice A0 n0 c0 from (hg2 1).trans (hLv.2.2 (1, .slice A0 n0 c0) (by simp))]
    rw [show g2 5 = .pointer (some ⟨t, 0, none⟩) from (hg2 5).trans (hLv.2.2 (5, .pointer (some ⟨t, 0, none⟩)) (by simp))]
    rw [show g2 7 = .map (some mb) from (hg2 7).trans (hLv.2.2 (7, .map (some mb)) (by simp))]
    rw [show g2 8 = .int .i64 (j : Int) from (hg2 8).trans (hLv.2.2 (8, .int .i64 (j : Int)) (by simp))]
    clear hg2 hLv
    clear a
    have HP5 := Lib.hid hP5
    clear hP5
    go_wp2_with fail
    refine HKK.out _ _ (Handed.intro (n0 - (j + 1)) (by have := HK.out; have := HJL.out; omega) (HJ.out _ _ _ ⟨j + 1, n', D', S5, bm', HJL.out, rfl, ⟨rfl, rfl, by intro x hx; simp only [List.mem_cons, List.not_mem_nil, or_false] at hx; rcases hx with rfl | rfl | rfl | rfl <;> first | rfl | (simp; done) | (simp; exact hw1)⟩, HP5.out⟩))
  · have dj : decide ((j : Int) < (n0 : Int)) = false := decide_eq_false (by omega)
    have ej : n0 = j := by omega
    subst ej
    clear hjl hj HJ HKK HK
    obtain ⟨G, hGm, hGv⟩ := HP.out.map
    have HGM := Lib.hid hGm
    have HGV : Hid (∀ k : Int, G (.int .i64 k) = (D k).map bxV) := Lib.hid hGv
    clear hGm hGv
    go_upto_block 11 with (at_range; refine at_rangeV rfl (.tmp 243) rfl (int_keyed Tryd.underlying3) Tryd.underlying30 rfl HGM.out ?_; intro w10 hr10 hd10 hs10; have HR10 := Lib.hid hr10; have HD10 := Lib.hid hd10; clear hr10 hd10 hs10)
    try go_frame
    have HML := Lib.hid (HP.out.map.mod HD10.out (fun h => h)).lt
    refine pairs_way ⟨rfl, rfl, by intro x hx; simp only [List.mem_cons, List.not_mem_nil, or_false] at hx; rcases hx with rfl | rfl | rfl <;> rfl⟩ HR10 HGV (Lib.hid HP.out.n60) HML (Lib.hid ?_)
    rintro a w11 vs hLv hkp hnd hvs hvl hm11
    obtain ⟨g3, hg3⟩ : ∃ g3 : Nat → Value, ∀ i, g3 i = a.tmps.getD i undef := ⟨_, fun _ => rfl⟩
    rw [act_lit a hLv.1 hLv.2.1 g3 hg3]
    rw [show g3 7 = .map (some mb) from (hg3 7).trans (hLv.2.2 (7, .map (some mb)) (by simp))]
    rw [show g3 25 = .int .i64 (vs.length : Int) from (hg3 25).trans (hLv.2.2 (25, .int .i64 (vs.length : Int)) (by simp))]
    rw [show g3 1 = .slice A0 n0 c0 from (hg3 1).trans (hkp 1 (by simp))]
    rw [show g3 5 = .pointer (some ⟨t, 0, none⟩) from (hg3 5).trans (hkp 5 (by simp))]
    clear hg3 hLv hkp
    clear a
    have hb11 : Below wr.heap.size wr w11 := (HD10.out.toBelow (Nat.le_refl _) (fun b _ h => h)).trans (hm11.toBelow HD10.out.size (fun b h1 (h2 : b = wr.heap.size) => by omega))
    have HP11 := Lib.hid (HP.out.below hb11)
    have HVS := Lib.hid (And.intro hnd (And.intro hvs hvl))
    clear hb11 hnd hvs hvl hm11 HML HR10 HD10 HGV HGM HP
    go_wp2_with fail
    refine (pairs_c w11 t a1 n0 D n S' HP11.out.bw (by have := HNN.out; omega) HP11.out.keys).mono ?_
    rintro e w12 ⟨v, ps, rfl, hb12, hrow, hsort, hlen, hmem⟩
    obtain ⟨Az, Cz, hv⟩ := rowP_val hrow
    subst hv
    have HP12 := Lib.hid (HP11.out.below hb12)
    have HROW := Lib.hid hrow
    have HS12 : Hid (ps.Pairwise ltP ∧ ps.length < 100000) := Lib.hid ⟨hsort, hlen⟩
    have HMEM := Lib.hid hmem
    clear hb12 hrow hsort hlen hmem HP11
    go_upto_block 15 with fail
    refine look_way ⟨rfl, rfl, by intro x hx; simp only [List.mem_cons, List.not_mem_nil, or_false] at hx; rcases hx with rfl | rfl | rfl <;> rfl⟩ (Lib.hid HP12.out.map) HROW HS12 HMEM (Lib.hid HP12.out.keys) (Lib.hid ?_)
    rintro a w13 hLv hkp hb13
    obtain ⟨g4, hg4⟩ : ∃ g4 : Nat → Value, ∀ i, g4 i = a.tmps.getD i undef := ⟨_, fun _ => rfl⟩
    rw [act_lit a hLv.1 hLv.2.1 g4 hg4]
    rw [show g4 30 = .slice Az ps.length Cz from (hg4 30).trans (hLv.2.2 (30, .slice Az ps.length Cz) (by simp))]
    rw [show g4 25 = .int .i64 (vs.length : Int) from (hg4 25).trans (hkp 25 (by simp))]
    clear hg4 hLv hkp
    clear a
    have HP13 := Lib.hid (HP12.out.below hb13)
    have hle : ps.length = vs.length := len_same (HS12.out.1.imp (fun {x y} h e => by subst e; unfold ltP at h; omega)) HVS.out.1 (fun x => by obtain ⟨x1, x2⟩ := x; rw [HMEM.out, HVS.out.2.1])
    rw [hle]
    clear hle hb13
    go_wp2
    go_ret
    exact ⟨rfl, HP13.out.ext⟩
end Go.Proofs.YtefhmbmbhiehdaaDoor
