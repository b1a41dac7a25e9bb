/- The contract of (*interest.Grid).Put. Conditions: none but that there is not too much. -/
import Derived.Deep.CutRange
import Derived.Deep.CutBlock
import Derived.Test.YtefhmbmbhiehdaaIputS
import Derived.Test.YtefhmbmbhiehdaaIseeP
namespace Go.Proofs.Ytefhmbmbhiehdaa
open Go Go.Maps Go.RowKit Go.BigFrame Go.ChangeShapes Go.WideShapes Go.Shelf
theorem around_f (f : Bo) (b : Bx) (hb : b = f.bx) (w : World) : Calls Try.prog 47 #[.agg #[.int .i64 (f 2), .int .i64 (f 3), .int .i64 (f 4), .int .i64 (f 5)], .agg #[.int .i64 (f 6), .int .i64 (f 7), .int .i64 (f 8)]] w fun e w' => e = .returned (.agg #[.int .i64 b.a1, .int .i64 b.a2, .int .i64 b.a3, .int .i64 b.b1, .int .i64 b.b2, .int .i64 b.b3]) ∧ Below w.heap.size w w' := by
  subst hb
  exact around_c _ _ _ _ _ _ _ w
def IPutPost (w : World) (g m : Nat) (D : Int → Option En) (S X : Nat → Prop) (q : GP) (f : Bo) (e : Ending) (w' : World) : Prop :=
  e = .returned (.tuple #[]) ∧ (∃ q' S', GR w' g (m + 10000000) (fun k => if k = f 0 then some f.en else D k) S' X q' ∧ (∀ x, S' x → S x ∨ w.heap.size ≤ x) ∧ q'.n = if (D (f 0)).isSome then q.n else q.n + 1) ∧ Mod S w w'
theorem any_freshA {P : Program} {md : Region.Mode} {ops : Array Oper} {Q : Exit → Act → World → Prop} {S : World → Prop} {f : Nat} {li : Array Bool} {a : Act} {w : World} (h : ∀ w', Below w.heap.size w w' → S w' → wpAnyH P md ops Q S f li a w') (hS : S w) : wpAnyH P md ops Q S f li a w := h w (Below.refl _ _) hS
theorem balloc (w : World) (o : Obj) : Below w.heap.size w (w.alloc o) := by apply ext_alloc; exact Below.refl _ _
/-- between two rounds of Put's loop: the number is behind the lists of the cells that have come -/
def PutI (w9 : World) (g m : Nat) (D : Int → Option En) (S X : Nat → Prop) (q1 : GP) (f : Bo) (b : Bx) (p2 p3 p4 p5 A : Nat) (pre : List Cl) (W : World) : Prop :=
  (∃ q' : GP, GW W g (m + pre.length) D (fun x => S x ∨ RowB q'.Fc x) (fun x => X x ∨ (p2 ≤ x ∧ x < w9.heap.size)) q' ∧ (∀ c, clOk c → q'.L c = q1.L c ++ List.replicate (pre.count c) (f 0)) ∧ (q'.mc = q1.mc ∧ q'.ml = q1.ml ∧ q'.mh = q1.mh ∧ q'.mb = q1.mb ∧ q'.mt = q1.mt ∧ q'.n = q1.n) ∧ ∀ x, RowB q'.Fc x → S x ∨ w9.heap.size ≤ x) ∧
  (Blk W p2 #[.pointer (some ⟨g, 0, none⟩)] ∧ Blk W p3 #[.int .i64 (f 0), .int .i64 (f 1), .int .i64 (f 2), .int .i64 (f 3), .int .i64 (f 4), .int .i64 (f 5), .int .i64 (f 6), .int .i64 (f 7), .int .i64 (f 8), .int .i64 (f 9), .int .i64 (f 10), .int .i64 (f 11), .int .i64 (f 12), .int .i64 (f 13), .int .i64 (f 14), .int .i64 (f 15), .int .i64 (f 16)] ∧ Blk W p4 #[.int .i64 b.a1, .int .i64 b.a2, .int .i64 b.a3, .int .i64 b.b1, .int .i64 b.b2, .int .i64 b.b3] ∧ Blk W p5 #[.int .i64 (kc b.a1), .int .i64 (kc b.a2), .int .i64 (kc b.a3)] ∧ Blk W (p5 + 1) #[.int .i64 (kc b.b1), .int .i64 (kc b.b2), .int .i64 (kc b.b3)]) ∧ (p2 < p3 ∧ p3 < p4 ∧ p4 < p5 ∧ p5 + 1 < A ∧ A + 1 < w9.heap.size ∧ ∀ x, S x → x < p2) ∧ Mod S w9 W
theorem PutI.mod {w9 W W' : World} {g m : Nat} {D : Int → Option En} {S X T : Nat → Prop} {q1 : GP} {f : Bo} {b : Bx} {p2 p3 p4 p5 A : Nat} {pre : List Cl} (h : PutI w9 g m D S X q1 f b p2 p3 p4 p5 A pre W) (k : Mod T W W') (hT : ∀ x, T x → w9.heap.size ≤ x ∧ ∀ o, W.heap[x]? = some o → o.isCells = false) : PutI w9 g m D S X q1 f b p2 p3 p4 p5 A pre W' := by
  obtain ⟨⟨q', h1, h2⟩, ⟨b1, b2, b3, b4, b5⟩, ⟨a1, a2, a3, a4, a5, a6⟩, h5⟩ := h
  refine ⟨⟨q', h1.modT k (fun x e e' => ?_), h2⟩, ⟨b1.mod k (fun e => by have := (hT _ e).1; omega), b2.mod k (fun e => by have := (hT _ e).1; omega), b3.mod k (fun e => by have := (hT _ e).1; omega), b4.mod k (fun e => by have := (hT _ e).1; omega), b5.mod k (fun e => by have := (hT _ e).1; omega)⟩, ⟨a1, a2, a3, a4, a5, a6⟩, h5.trans2 k (fun x hx e => by have := (hT x e).1; omega)⟩
  rcases e' with e' | e'
  · have := (hT x e).1
    have := a6 x e'
    omega
  · obtain ⟨cs, t, fz, hc⟩ := h1.rowCells e'
    have := (hT x e).2 _ hc
    cases this
/-- do the cells change -/
def chg (o : Option En) (b : Bx) : Bool := match o with | none => true | some e => !(eqC b.lo e.bx.lo) || !(eqC b.hi e.bx.hi)
set_option maxRecDepth 100000 in
set_option maxHeartbeats 16000000 in
theorem iput_c (w : World) (g m : Nat) (D : Int → Option En) (S X : Nat → Prop) (q : GP) (f : Bo) (ids : List Int) (hnn : -9223372036854775808 ≤ f 0 ∧ f 0 ≤ 9223372036854775807) (h : GR w g m D S X q) (hm : m ≤ 1000000000) (hi : ∀ k, D k ≠ none → k ∈ ids) (hn : f 0 ∈ ids) (hl : ids.length ≤ 1000) :
    Calls Try.prog 19 #[.pointer (some ⟨g, 0, none⟩), .agg #[.int .i64 (f 0), .int .i64 (f 1), .int .i64 (f 2), .int .i64 (f 3), .int .i64 (f 4), .int .i64 (f 5), .int .i64 (f 6), .int .i64 (f 7), .int .i64 (f 8), .int .i64 (f 9), .int .i64 (f 10), .int .i64 (f 11), .int .i64 (f 12), .int .i64 (f 13), .int .i64 (f 14), .int .i64 (f 15), .int .i64 (f 16)]] w (IPutPost w g m D S X q f) := by
  have HH := Lib.hid h
  have hkk : keyOf Try.prog 3 (.int .i64 (f 0)) = some (.int .i64 (f 0)) := int_wf_key Try.underlying3 (intKey_wf hnn.1 hnn.2)
  have HK := Lib.hid hkk
  have HIDS := Lib.hid (And.intro hi (And.intro hn hl))
  obtain ⟨b, hb⟩ : ∃ b, b = f.bx := ⟨_, rfl⟩
  have HB := Lib.hid hb
  clear h hkk hb hi hn hl
  refine (callsIn_wide (n := 9)).1 ?_
  refine callsIn_of_wp_marks Try.func19 rfl trivial ?_ rfl
  simp only [Try.ntmps19, List.size_toArray, List.length_cons, List.length_nil, Nat.reduceAdd, Nat.reduceSub, Array.replicate_succ, Array.replicate_zero, List.push_toArray, List.append_toArray, List.nil_append, List.cons_append]
  refine wpIn_wide.2 ?_
  obtain ⟨QQ, hQQ⟩ : ∃ QQ, QQ = bodyPostM Fence.wide 9 Try.prog Try.f19 (IPutPost w g m D S X q f) := ⟨_, rfl⟩
  rw [← hQQ]
  have HQ := Lib.hid hQQ
  clear hQQ
  go_upto_region 1 with fail
  refine wp_fresh ?_
  rintro w1 hb1
  have HP2 : Hid (Blk w1 w.heap.size #[.pointer (some ⟨g, 0, none⟩)]) := Lib.hid (Blk.below (by repeat (with_reducible (first | assumption | (apply Blk.at; simp; done) | apply Blk.alloc | apply Blk.drew | apply Blk.drewN | apply Blk.more | apply Blk.put | (apply Blk.far; focus (first | assumption | (apply Ne.symm; assumption) | (simp; done) | (simp <;> omega)))))) hb1)
  have HP3 : Hid (Blk w1 (w.heap.size + 1) #[.int .i64 (f 0), .int .i64 (f 1), .int .i64 (f 2), .int .i64 (f 3), .int .i64 (f 4), .int .i64 (f 5), .int .i64 (f 6), .int .i64 (f 7), .int .i64 (f 8), .int .i64 (f 9), .int .i64 (f 10), .int .i64 (f 11), .int .i64 (f 12), .int .i64 (f 13), .int .i64 (f 14), .int .i64 (f 15), .int .i64 (f 16)]) := Lib.hid (Blk.below (by repeat (with_reducible (first | assumption | (apply Blk.at; simp; done) | apply Blk.alloc | apply Blk.drew | apply Blk.drewN | apply Blk.more | apply Blk.put | (apply Blk.far; focus (first | assumption | (apply Ne.symm; assumption) | (simp; done) | (simp <;> omega)))))) hb1)
  have hv1 : Below w.heap.size w w1 := (by repeat (with_reducible (first | exact Below.refl _ _ | assumption | apply ext_drew | apply ext_drewN | apply ext_alloc | apply ext_more | (refine ext_setCell ?_ (by first | assumption | (simp <;> omega)) _) | (refine ext_below ?_ (by assumption)))))
  have HG1 := Lib.hid (HH.out.raw.below hv1)
  have HV1 := Lib.hid hv1
  clear hb1 hv1
  obtain ⟨z3, c3, f3⟩ := id HP3.out
  go_wp2_with fail
  refine (around_f f b HB.out _).mono ?_
  rintro e1 w2 ⟨rfl, hb2⟩
  have HV2 : Hid (Below w.heap.size w w2) := Lib.hid (HV1.out.trans (hb2.mono HV1.out.size))
  have HP22 := Lib.hid (HP2.out.below hb2)
  have HP32 := Lib.hid (HP3.out.below hb2)
  have HG2 := Lib.hid (HG1.out.below hb2)
  clear hb2 z3 c3 f3 HP2 HP3 HG1 HV1
  obtain ⟨p4, hp4⟩ : ∃ p4, p4 = w2.heap.size := ⟨_, rfl⟩
  have HN4 : Hid (w.heap.size + 1 < p4) := Lib.hid (by rw [hp4]; exact HP32.out.lt)
  go_upto_region 2 with fail
  refine wp_fresh ?_
  rintro w3 hb3
  have HP4 : Hid (Blk w3 w2.heap.size #[.int .i64 b.a1, .int .i64 b.a2, .int .i64 b.a3, .int .i64 b.b1, .int .i64 b.b2, .int .i64 b.b3]) := Lib.hid (Blk.below (by
    refine blk_as (cs := _) (by repeat (with_reducible (first | assumption | (apply Blk.at; simp; done) | apply Blk.alloc | apply Blk.drew | apply Blk.drewN | apply Blk.more | apply Blk.put | (apply Blk.far; focus (first | assumption | (apply Ne.symm; assumption) | (simp; done) | (simp <;> omega)))))) ?_
    simp only []) hb3)
  have hv3 : Below w2.heap.size w2 w3 := (by repeat (with_reducible (first | exact Below.refl _ _ | assumption | apply ext_drew | apply ext_drewN | apply ext_alloc | apply ext_more | (refine ext_setCell ?_ (by first | assumption | (simp <;> omega)) _) | (refine ext_below ?_ (by assumption)))))
  have HV3 : Hid (Below w.heap.size w w3) := Lib.hid (HV2.out.trans (hv3.mono HV2.out.size))
  have HP23 := Lib.hid (HP22.out.below hv3)
  have HP33 := Lib.hid (HP32.out.below hv3)
  have HG3 := Lib.hid (HG2.out.below hv3)
  rw [← hp4] at HP4
  rw [← hp4]
  clear hb3 hv3 HP22 HP32 HG2 HV2 hp4
  obtain ⟨z4, c4, f4⟩ := id HP4.out
  go_wp2_with fail
  refine (corners_c _ _ _ _ _ _ _).mono ?_
  rintro e2 w4 ⟨rfl, hb4⟩
  have HV4 : Hid (Below w.heap.size w w4) := Lib.hid (HV3.out.trans (hb4.mono HV3.out.size))
  have HP24 := Lib.hid (HP23.out.below hb4)
  have HP34 := Lib.hid (HP33.out.below hb4)
  have HP44 := Lib.hid (HP4.out.below hb4)
  have HG4 := Lib.hid (HG3.out.below hb4)
  clear hb4 z4 c4 f4 HP23 HP33 HP4 HG3 HV3
  obtain ⟨p5, hp5⟩ : ∃ p5, p5 = w4.heap.size := ⟨_, rfl⟩
  have HN5 : Hid (p4 < p5) := Lib.hid (by rw [hp5]; exact HP44.out.lt)
  go_upto_region 3 with fail
  refine wp_fresh ?_
  rintro w5 hb5
  have HP5 : Hid (Blk w5 w4.heap.size #[.int .i64 (kc b.a1), .int .i64 (kc b.a2), .int .i64 (kc b.a3)]) := Lib.hid (Blk.below (by
    refine blk_as (cs := _) (by repeat (with_reducible (first | assumption | (apply Blk.at; simp; done) | apply Blk.alloc | apply Blk.drew | apply Blk.drewN | apply Blk.more | apply Blk.put | (apply Blk.far; focus (first | assumption | (apply Ne.symm; assumption) | (simp; done) | (simp <;> omega)))))) ?_
    simp only []) hb5)
  have HP6 : Hid (Blk w5 (w4.heap.size + 1) #[.int .i64 (kc b.b1), .int .i64 (kc b.b2), .int .i64 (kc b.b3)]) := Lib.hid (Blk.below (by
    refine blk_as (cs := _) (by repeat (with_reducible (first | assumption | (apply Blk.at; simp; done) | apply Blk.alloc | apply Blk.drew | apply Blk.drewN | apply Blk.more | apply Blk.put | (apply Blk.far; focus (first | assumption | (apply Ne.symm; assumption) | (simp; done) | (simp <;> omega)))))) ?_
    simp only []) hb5)
  have hv5 : Below w4.heap.size w4 w5 := (by repeat (with_reducible (first | exact Below.refl _ _ | assumption | apply ext_drew | apply ext_drewN | apply ext_alloc | apply ext_more | (refine ext_setCell ?_ (by first | assumption | (simp <;> omega)) _) | (refine ext_below ?_ (by assumption)))))
  have HV5 : Hid (Below w.heap.size w w5) := Lib.hid (HV4.out.trans (hv5.mono HV4.out.size))
  have HP25 := Lib.hid (HP24.out.below hv5)
  have HP35 := Lib.hid (HP34.out.below hv5)
  have HP45 := Lib.hid (HP44.out.below hv5)
  have HG5 := Lib.hid (HG4.out.below hv5)
  rw [← hp5] at HP5 HP6
  rw [← hp5]
  clear hb5 hv5 HP24 HP34 HP44 HG4 HV4 hp5
  obtain ⟨Fb, hFb, hFbv⟩ := HG5.out.box
  have HFB := Lib.hid hFb
  have HFV : Hid (Fb (.int .i64 (f 0)) = (D (f 0)).map fun e => e.bx.v) := Lib.hid (hFbv (f 0))
  have B2 := HP25.out
  have B3 := HP35.out
  have BG := HG5.out.blk
  clear hFb hFbv
  go_cut [8] from 20 to 29 (fun t wx => t = .bool (D (f 0)).isSome ∧ Below w5.heap.size w5 wx)
  case first =>
    cases hD : D (f 0) with
    | none =>
      refine region_late [9] 11 ?l1n ?hl1n (by kernel_rfl) (by kernel_rfl) ?_
      case hl1n => simp [lateE]; rfl
      refine any_grow (A := ?A1n) 10 [7] (fun _ => #[.int .i64 0, .int .i64 0, .int .i64 0, .int .i64 0, .int .i64 0, .int .i64 0]) (by kernel_rfl) ?hrun1n ?hq1n ?htail1n
      case hq1n =>
        intro w0 hb0
        simp only [List.take_succ_cons, List.take_zero]
        have C2 := B2.below hb0
        have C3 := B3.below hb0
        have CG := BG.below hb0
        obtain ⟨z2, c2, f2⟩ := id C2
        obtain ⟨z3, c3, f3⟩ := id C3
        obtain ⟨zg, cg, fg⟩ := id CG
        have hmc := more_cell
        repeat (go_big_quiet_step (fail))
        go_big_quiet_want
        refine qlook2 (.tmp 24) (.tmp 26) rfl (int_keyed Try.underlying3) Try.underlying117 zero_box rfl (by rintro _ ⟨mm, rfl⟩; exact (HFB.out.below hb0).below (more_below w0 mm)) (.int .i64 (f 0)) (.int .i64 (f 0)) rfl HK.out trivial ?_
        simp only [Act.put, List.setIfInBounds_toArray, List.set_cons_zero, List.set_cons_succ]
        rw [HFV.out, hD]
        simp only [Option.map_none, Option.getD_none, Option.isSome_none, Bx.v]
        go_big_quiet_on
        repeat (go_big_quiet_step (fail))
        refine wpQuiet_nil ?_
        rfl
      case hrun1n =>
        intro j hj
        match j, hj with
        | 0, _ => exact ⟨_, _, rfl, fun a w => by simp [go_sem]; rfl⟩
      case htail1n =>
        intro gs w2 hb2 hblk hne
        obtain ⟨G0, hg0⟩ := hblk 0 (by decide)
        simp only [List.drop_succ_cons, List.drop_zero, List.length_cons, List.length_nil, laySlots]
        clear hblk hne
        generalize gs 0 = t4 at *
        clear HFB HFV
        obtain ⟨zt, ct, ft⟩ := id G0
        go_wp2
        refine ⟨rfl, ?_⟩
        go_wp2
        go_meet
        exact ⟨by simp [hD], (by repeat (with_reducible (first | exact Below.refl _ _ | assumption | apply ext_drew | apply ext_drewN | apply ext_alloc | apply ext_more | (refine ext_setCell ?_ (by first | assumption | (simp <;> omega)) _) | (refine ext_below ?_ (by assumption)))))⟩

    | some e =>
      refine region_late [9] 11 ?l1s ?hl1s (by kernel_rfl) (by kernel_rfl) ?_
      case hl1s => simp [lateE]; rfl
      refine any_grow (A := ?A1s) 10 [7] (fun _ => #[.int .i64 0, .int .i64 0, .int .i64 0, .int .i64 0, .int .i64 0, .int .i64 0]) (by kernel_rfl) ?hrun1s ?hq1s ?htail1s
      case hq1s =>
        intro w0 hb0
        simp only [List.take_succ_cons, List.take_zero]
        have C2 := B2.below hb0
        have C3 := B3.below hb0
        have CG := BG.below hb0
        obtain ⟨z2, c2, f2⟩ := id C2
        obtain ⟨z3, c3, f3⟩ := id C3
        obtain ⟨zg, cg, fg⟩ := id CG
        have hmc := more_cell
        repeat (go_big_quiet_step (fail))
        go_big_quiet_want
        refine qlook2 (.tmp 24) (.tmp 26) rfl (int_keyed Try.underlying3) Try.underlying117 zero_box rfl (by rintro _ ⟨mm, rfl⟩; exact (HFB.out.below hb0).below (more_below w0 mm)) (.int .i64 (f 0)) (.int .i64 (f 0)) rfl HK.out trivial ?_
        simp only [Act.put, List.setIfInBounds_toArray, List.set_cons_zero, List.set_cons_succ]
        rw [HFV.out, hD]
        simp only [Option.map_some, Option.getD_some, Option.isSome_some, Bx.v]
        go_big_quiet_on
        repeat (go_big_quiet_step (fail))
        refine wpQuiet_nil ?_
        rfl
      case hrun1s =>
        intro j hj
        match j, hj with
        | 0, _ => exact ⟨_, _, rfl, fun a w => by simp [go_sem]; rfl⟩
      case htail1s =>
        intro gs w2 hb2 hblk hne
        obtain ⟨G0, hg0⟩ := hblk 0 (by decide)
        simp only [List.drop_succ_cons, List.drop_zero, List.length_cons, List.length_nil, laySlots]
        clear hblk hne
        generalize gs 0 = t4 at *
        clear HFB HFV
        obtain ⟨zt, ct, ft⟩ := id G0
        go_wp2
        refine ⟨rfl, ?_⟩
        go_wp2
        go_meet
        exact ⟨by simp [hD], (by repeat (with_reducible (first | exact Below.refl _ _ | assumption | apply ext_drew | apply ext_drewN | apply ext_alloc | apply ext_more | (refine ext_setCell ?_ (by first | assumption | (simp <;> omega)) _) | (refine ext_below ?_ (by assumption)))))⟩

  case rest =>
    obtain ⟨rfl, hb6⟩ := hcut
    clear HFB HFV B2 B3 BG
    have HV6 : Hid (Below w.heap.size w wc) := Lib.hid (HV5.out.trans (hb6.mono HV5.out.size))
    have HP26 := Lib.hid (HP25.out.below hb6)
    have HP36 := Lib.hid (HP35.out.below hb6)
    have HP46 := Lib.hid (HP45.out.below hb6)
    have HP56 := Lib.hid (HP5.out.below hb6)
    have HP66 := Lib.hid (HP6.out.below hb6)
    have HG6 := Lib.hid (HG5.out.below hb6)
    clear hb6 HP25 HP35 HP45 HP5 HP6 HG5 HV5
    obtain ⟨w6, hw6⟩ : ∃ w6, w6 = wc := ⟨_, rfl⟩
    rw [← hw6] at HV6 HP26 HP36 HP46 HP56 HP66 HG6
    rw [← hw6]
    clear hw6
    obtain ⟨Fl, hFl, hFlv⟩ := HG6.out.low
    obtain ⟨Fh, hFh, hFhv⟩ := HG6.out.high
    have HFL := Lib.hid hFl
    have HFH := Lib.hid hFh
    have HFLV : Hid (Fl (.int .i64 (f 0)) = (D (f 0)).map fun e => cv e.bx.lo) := Lib.hid (hFlv (f 0))
    have HFHV : Hid (Fh (.int .i64 (f 0)) = (D (f 0)).map fun e => cv e.bx.hi) := Lib.hid (hFhv (f 0))
    clear hFl hFlv hFh hFhv
    go_upto_region 4 with fail
    go_cut [8, 53] from 30 to 52 (fun _ t wx => t = .bool (chg (D (f 0)) b) ∧ Below w6.heap.size w6 wx)
    case first =>
      cases hD : D (f 0) with
      | none =>
        simp only [Option.isSome_none]
        obtain ⟨z2, c2, f2⟩ := id HP26.out
        obtain ⟨z3, c3, f3⟩ := id HP36.out
        obtain ⟨z5, c5, f5⟩ := id HP56.out
        obtain ⟨z6, c6, f6⟩ := id HP66.out
        obtain ⟨zg, cg, fg⟩ := id HG6.out.blk
        have hmc := more_cell
        refine region_quiet_all (by kernel_rfl) (by kernel_rfl) ?_
        repeat (go_big_quiet_step (fail))
        refine wpQuiet_nil ?_
        rintro w7 hw7
        have hb7 := after_below hw7
        go_wp2
        go_meet
        exact ⟨by simp [hD, chg], hb7⟩

      | some e =>
        simp only [Option.isSome_some]
        cases h1 : eqC b.lo e.bx.lo with
        | false =>
          obtain ⟨z2, c2, f2⟩ := id HP26.out
          obtain ⟨z3, c3, f3⟩ := id HP36.out
          obtain ⟨z5, c5, f5⟩ := id HP56.out
          obtain ⟨z6, c6, f6⟩ := id HP66.out
          obtain ⟨zg, cg, fg⟩ := id HG6.out.blk
          have hqlo : ∀ w, (binOp .neq 124 (.agg #[.int .i64 (kc b.a1), .int .i64 (kc b.a2), .int .i64 (kc b.a3)]) (.agg #[.int .i64 e.bx.lo.1, .int .i64 e.bx.lo.2.1, .int .i64 e.bx.lo.2.2])).run Try.prog w = .ok (.bool true) w := fun w => (run_neq_cell b.lo e.bx.lo w).trans (by rw [h1]; rfl)
          have hmc := more_cell
          refine region_quiet_all (by kernel_rfl) (by kernel_rfl) ?_
          repeat (go_big_quiet_step (fail))
          go_big_quiet_want
          refine qlook1 (.tmp 37) (.tmp 39) rfl (int_keyed Try.underlying3) Try.underlying116 zero_cell rfl (by rintro _ ⟨mm, rfl⟩; exact HFL.out.below (more_below w6 mm)) (.int .i64 (f 0)) (.int .i64 (f 0)) rfl HK.out trivial ?_
          simp only [Act.put, List.setIfInBounds_toArray, List.set_cons_zero, List.set_cons_succ]
          rw [HFLV.out, hD]
          simp only [Option.map_some, Option.getD_some, cv]
          go_big_quiet_on
          repeat (go_big_quiet_step (fail))
          refine wpQuiet_nil ?_
          rintro w7 hw7
          have hb7 := after_below hw7
          go_wp2
          go_meet
          exact ⟨by simp [hD, chg, h1], hb7⟩

        | true =>
          cases h2 : eqC b.hi e.bx.hi with
          | false =>
            obtain ⟨z2, c2, f2⟩ := id HP26.out
            obtain ⟨z3, c3, f3⟩ := id HP36.out
            obtain ⟨z5, c5, f5⟩ := id HP56.out
            obtain ⟨z6, c6, f6⟩ := id HP66.out
            obtain ⟨zg, cg, fg⟩ := id HG6.out.blk
            have hqlo : ∀ w, (binOp .neq 124 (.agg #[.int .i64 (kc b.a1), .int .i64 (kc b.a2), .int .i64 (kc b.a3)]) (.agg #[.int .i64 e.bx.lo.1, .int .i64 e.bx.lo.2.1, .int .i64 e.bx.lo.2.2])).run Try.prog w = .ok (.bool false) w := fun w => (run_neq_cell b.lo e.bx.lo w).trans (by rw [h1]; rfl)
            have hqhi : ∀ w, (binOp .neq 124 (.agg #[.int .i64 (kc b.b1), .int .i64 (kc b.b2), .int .i64 (kc b.b3)]) (.agg #[.int .i64 e.bx.hi.1, .int .i64 e.bx.hi.2.1, .int .i64 e.bx.hi.2.2])).run Try.prog w = .ok (.bool true) w := fun w => (run_neq_cell b.hi e.bx.hi w).trans (by rw [h2]; rfl)
            have hmc := more_cell
            refine region_quiet_all (by kernel_rfl) (by kernel_rfl) ?_
            repeat (go_big_quiet_step (fail))
            go_big_quiet_want
            refine qlook1 (.tmp 37) (.tmp 39) rfl (int_keyed Try.underlying3) Try.underlying116 zero_cell rfl (by rintro _ ⟨mm, rfl⟩; exact HFL.out.below (more_below w6 mm)) (.int .i64 (f 0)) (.int .i64 (f 0)) rfl HK.out trivial ?_
            simp only [Act.put, List.setIfInBounds_toArray, List.set_cons_zero, List.set_cons_succ]
            rw [HFLV.out, hD]
            simp only [Option.map_some, Option.getD_some, cv]
            go_big_quiet_on
            repeat (go_big_quiet_step (fail))
            go_big_quiet_want
            refine qlook1 (.tmp 48) (.tmp 50) rfl (int_keyed Try.underlying3) Try.underlying116 zero_cell rfl (by rintro _ ⟨mm, rfl⟩; exact HFH.out.below (more_below w6 mm)) (.int .i64 (f 0)) (.int .i64 (f 0)) rfl HK.out trivial ?_
            simp only [Act.put, List.setIfInBounds_toArray, List.set_cons_zero, List.set_cons_succ]
            rw [HFHV.out, hD]
            simp only [Option.map_some, Option.getD_some, cv]
            go_big_quiet_on
            repeat (go_big_quiet_step (fail))
            refine wpQuiet_nil ?_
            rintro w7 hw7
            have hb7 := after_below hw7
            go_wp2
            go_meet
            exact ⟨by simp [hD, chg, h1, h2], hb7⟩

          | true =>
            obtain ⟨z2, c2, f2⟩ := id HP26.out
            obtain ⟨z3, c3, f3⟩ := id HP36.out
            obtain ⟨z5, c5, f5⟩ := id HP56.out
            obtain ⟨z6, c6, f6⟩ := id HP66.out
            obtain ⟨zg, cg, fg⟩ := id HG6.out.blk
            have hqlo : ∀ w, (binOp .neq 124 (.agg #[.int .i64 (kc b.a1), .int .i64 (kc b.a2), .int .i64 (kc b.a3)]) (.agg #[.int .i64 e.bx.lo.1, .int .i64 e.bx.lo.2.1, .int .i64 e.bx.lo.2.2])).run Try.prog w = .ok (.bool false) w := fun w => (run_neq_cell b.lo e.bx.lo w).trans (by rw [h1]; rfl)
            have hqhi : ∀ w, (binOp .neq 124 (.agg #[.int .i64 (kc b.b1), .int .i64 (kc b.b2), .int .i64 (kc b.b3)]) (.agg #[.int .i64 e.bx.hi.1, .int .i64 e.bx.hi.2.1, .int .i64 e.bx.hi.2.2])).run Try.prog w = .ok (.bool false) w := fun w => (run_neq_cell b.hi e.bx.hi w).trans (by rw [h2]; rfl)
            have hmc := more_cell
            refine region_quiet_all (by kernel_rfl) (by kernel_rfl) ?_
            repeat (go_big_quiet_step (fail))
            go_big_quiet_want
            refine qlook1 (.tmp 37) (.tmp 39) rfl (int_keyed Try.underlying3) Try.underlying116 zero_cell rfl (by rintro _ ⟨mm, rfl⟩; exact HFL.out.below (more_below w6 mm)) (.int .i64 (f 0)) (.int .i64 (f 0)) rfl HK.out trivial ?_
            simp only [Act.put, List.setIfInBounds_toArray, List.set_cons_zero, List.set_cons_succ]
            rw [HFLV.out, hD]
            simp only [Option.map_some, Option.getD_some, cv]
            go_big_quiet_on
            repeat (go_big_quiet_step (fail))
            go_big_quiet_want
            refine qlook1 (.tmp 48) (.tmp 50) rfl (int_keyed Try.underlying3) Try.underlying116 zero_cell rfl (by rintro _ ⟨mm, rfl⟩; exact HFH.out.below (more_below w6 mm)) (.int .i64 (f 0)) (.int .i64 (f 0)) rfl HK.out trivial ?_
            simp only [Act.put, List.setIfInBounds_toArray, List.set_cons_zero, List.set_cons_succ]
            rw [HFHV.out, hD]
            simp only [Option.map_some, Option.getD_some, cv]
            go_big_quiet_on
            repeat (go_big_quiet_step (fail))
            refine wpQuiet_nil ?_
            rintro w7 hw7
            have hb7 := after_below hw7
            go_wp2
            go_meet
            exact ⟨by simp [hD, chg, h1, h2], hb7⟩

    case rest =>
      obtain ⟨rfl, hb7⟩ := hcut
      have HV7 : Hid (Below w.heap.size w wc) := Lib.hid (HV6.out.trans (hb7.mono HV6.out.size))
      have HP27 := Lib.hid (HP26.out.below hb7)
      have HP37 := Lib.hid (HP36.out.below hb7)
      have HP47 := Lib.hid (HP46.out.below hb7)
      have HP57 := Lib.hid (HP56.out.below hb7)
      have HP67 := Lib.hid (HP66.out.below hb7)
      have HG7 := Lib.hid (HG6.out.below hb7)
      clear hb7 HP26 HP36 HP46 HP56 HP66 HG6 HV6 HFL HFH HFLV HFHV
      obtain ⟨w7, hw7⟩ : ∃ w7, w7 = wc := ⟨_, rfl⟩
      rw [← hw7] at HV7 HP27 HP37 HP47 HP57 HP67 HG7
      rw [← hw7]
      clear hw7
      cases hC : chg (D (f 0)) b with
      | false =>
        have HML : Hid (q.ml < w.heap.size ∧ q.mh < w.heap.size ∧ q.mb < w.heap.size ∧ q.mt < w.heap.size) := Lib.hid ⟨(HH.out.raw.sl _ HH.out.raw.sg.2.2.1).1, (HH.out.raw.sl _ HH.out.raw.sg.2.2.2.1).1, (HH.out.raw.sl _ HH.out.raw.sg.2.2.2.2.1).1, (HH.out.raw.sl _ HH.out.raw.sg.2.2.2.2.2).1⟩
        go_upto_region 9 with fail
        have hd0 : Below w7.heap.size w7 w7.drew := ext_drew (Below.refl _ _)
        obtain ⟨n1, n2, n3, n4, n5, n6, n7, n8, n9, n10⟩ := HG7.out.ne
        obtain ⟨g1, g2, g3, g4, g5⟩ := HG7.out.gne
        obtain ⟨Fl9, hFl, hFlv⟩ := HG7.out.low
        obtain ⟨Fh9, hFh, hFhv⟩ := HG7.out.high
        obtain ⟨Fb9, hFb, hFbv⟩ := HG7.out.box
        obtain ⟨Ft9, hFt, hFtv⟩ := HG7.out.team
        have HFL9 := Lib.hid (And.intro hFl hFlv)
        have HFH9 := Lib.hid (And.intro hFh hFhv)
        have HFB9 := Lib.hid (And.intro hFb hFbv)
        have HFT9 := Lib.hid (And.intro hFt hFtv)
        have HNM : Hid (m < maxLen) := Lib.hid (by unfold maxLen; omega)
        have HD0 := Lib.hid (Mod.of_below (S := fun _ => False) hd0)
        have hPS : PutS w.heap.size (w.heap.size + 1) p4 p5 g f b q w7 := ⟨HP27.out, HP37.out, HP47.out, HP57.out, HP67.out, HG7.out.blk⟩
        have HSX : Hid (∀ {T : Nat → Prop} {w' w'' : World}, PutS w.heap.size (w.heap.size + 1) p4 p5 g f b q w' → Mod T w' w'' → (∀ x, T x → x = q.ml ∨ x = q.mh ∨ x = q.mb ∨ x = q.mt) → PutS w.heap.size (w.heap.size + 1) p4 p5 g f b q w'') := Lib.hid (fun h k hT => h.mod k (fun e => by have := hT _ e; have := HML.out; omega) (fun e => by have := hT _ e; have := HML.out; omega) (fun e => by have := hT _ e; have := HML.out; have := HN4.out; omega) (fun e => by have := hT _ e; have := HML.out; have := HN4.out; have := HN5.out; omega) (fun e => by have := hT _ e; have := HML.out; have := HN4.out; have := HN5.out; omega) (fun e => by have := hT _ e; omega))
        have hS0 := HSX.out hPS HD0.out (fun _ e => e.elim)
        clear hFl hFlv hFh hFhv hFb hFbv hFt hFtv hd0 hPS
        refine Code.wp_mono (Q := NQ QQ) (fun e a w h => by obtain ⟨rfl, h⟩ := h; exact h) (wp_region_held_drew (S := PutS w.heap.size (w.heap.size + 1) p4 p5 g f b q) (by kernel_rfl) hS0 (fun hHeld => ?_))
        clear hS0
        refine wpAnyH_take (i := 0) (v := .pointer (some ⟨g, 0, none⟩)) rfl (by kernel_rfl) (by kernel_rfl) (by kernel_rfl) (fun _ _ _ h => nomatch h.1) (Or.inl ⟨by kernel_rfl, ?yfa_0⟩) hHeld ?rfa_0
        case yfa_0 =>
          intro w hSw
          obtain ⟨⟨z2, c2, f2⟩, ⟨z3, c3, f3⟩, ⟨z4, c4, f4⟩, ⟨z5, c5, f5⟩, ⟨z6, c6, f6⟩, ⟨zg, cg, fg⟩⟩ := hSw
          go_simp
          try with_reducible rfl
        try simp only [Act.put, List.getElem_toArray, List.getElem_cons_zero, List.setIfInBounds_toArray, List.set_cons_zero, List.set_cons_succ]
        refine wpAnyH_take (i := 1) (v := .pointer (some ⟨g, 0, none⟩)) rfl (by kernel_rfl) (by kernel_rfl) (by kernel_rfl) (fun _ _ _ h => nomatch h.1) (Or.inl ⟨by kernel_rfl, ?yfa_1⟩) hHeld ?rfa_1
        case yfa_1 =>
          intro w hSw
          obtain ⟨⟨z2, c2, f2⟩, ⟨z3, c3, f3⟩, ⟨z4, c4, f4⟩, ⟨z5, c5, f5⟩, ⟨z6, c6, f6⟩, ⟨zg, cg, fg⟩⟩ := hSw
          go_simp
          try with_reducible rfl
        try simp only [Act.put, List.getElem_toArray, List.getElem_cons_zero, List.getElem_cons_succ, List.setIfInBounds_toArray, List.set_cons_zero, List.set_cons_succ]
        refine wpAnyH_take (i := 2) (v := .pointer (some ⟨g, 1, none⟩)) rfl (by kernel_rfl) (by kernel_rfl) (by kernel_rfl) (fun _ _ _ h => nomatch h.1) (Or.inl ⟨by kernel_rfl, ?yfa_2⟩) hHeld ?rfa_2
        case yfa_2 =>
          intro w hSw
          obtain ⟨⟨z2, c2, f2⟩, ⟨z3, c3, f3⟩, ⟨z4, c4, f4⟩, ⟨z5, c5, f5⟩, ⟨z6, c6, f6⟩, ⟨zg, cg, fg⟩⟩ := hSw
          go_simp
          try with_reducible rfl
        try simp only [Act.put, List.getElem_toArray, List.getElem_cons_zero, List.getElem_cons_succ, List.setIfInBounds_toArray, List.set_cons_zero, List.set_cons_succ]
        refine wpAnyH_take (i := 3) (v := .map (some q.ml)) rfl (by kernel_rfl) (by kernel_rfl) (by kernel_rfl) (fun _ _ _ h => nomatch h.1) (Or.inl ⟨by kernel_rfl, ?yfa_3⟩) hHeld ?rfa_3
        case yfa_3 =>
          intro w hSw
          obtain ⟨⟨z2, c2, f2⟩, ⟨z3, c3, f3⟩, ⟨z4, c4, f4⟩, ⟨z5, c5, f5⟩, ⟨z6, c6, f6⟩, ⟨zg, cg, fg⟩⟩ := hSw
          go_simp
          try with_reducible rfl
        try simp only [Act.put, List.getElem_toArray, List.getElem_cons_zero, List.getElem_cons_succ, List.setIfInBounds_toArray, List.set_cons_zero, List.set_cons_succ]
        refine wpAnyH_take (i := 4) (v := .pointer (some ⟨w.heap.size + 1, 0, none⟩)) rfl (by kernel_rfl) (by kernel_rfl) (by kernel_rfl) (fun _ _ _ h => nomatch h.1) (Or.inl ⟨by kernel_rfl, ?yfa_4⟩) hHeld ?rfa_4
        case yfa_4 =>
          intro w hSw
          obtain ⟨⟨z2, c2, f2⟩, ⟨z3, c3, f3⟩, ⟨z4, c4, f4⟩, ⟨z5, c5, f5⟩, ⟨z6, c6, f6⟩, ⟨zg, cg, fg⟩⟩ := hSw
          go_simp
          try with_reducible rfl
        try simp only [Act.put, List.getElem_toArray, List.getElem_cons_zero, List.getElem_cons_succ, List.setIfInBounds_toArray, List.set_cons_zero, List.set_cons_succ]
        refine wpAnyH_take (i := 5) (v := .int .i64 (f 0)) rfl (by kernel_rfl) (by kernel_rfl) (by kernel_rfl) (fun _ _ _ h => nomatch h.1) (Or.inl ⟨by kernel_rfl, ?yfa_5⟩) hHeld ?rfa_5
        case yfa_5 =>
          intro w hSw
          obtain ⟨⟨z2, c2, f2⟩, ⟨z3, c3, f3⟩, ⟨z4, c4, f4⟩, ⟨z5, c5, f5⟩, ⟨z6, c6, f6⟩, ⟨zg, cg, fg⟩⟩ := hSw
          go_simp
          try with_reducible rfl
        try simp only [Act.put, List.getElem_toArray, List.getElem_cons_zero, List.getElem_cons_succ, List.setIfInBounds_toArray, List.set_cons_zero, List.set_cons_succ]
        refine wpAnyH_take (i := 6) (v := .pointer (some ⟨g, 0, none⟩)) rfl (by kernel_rfl) (by kernel_rfl) (by kernel_rfl) (fun _ _ _ h => nomatch h.1) (Or.inl ⟨by kernel_rfl, ?yfa_6⟩) hHeld ?rfa_6
        case yfa_6 =>
          intro w hSw
          obtain ⟨⟨z2, c2, f2⟩, ⟨z3, c3, f3⟩, ⟨z4, c4, f4⟩, ⟨z5, c5, f5⟩, ⟨z6, c6, f6⟩, ⟨zg, cg, fg⟩⟩ := hSw
          go_simp
          try with_reducible rfl
        try simp only [Act.put, List.getElem_toArray, List.getElem_cons_zero, List.getElem_cons_succ, List.setIfInBounds_toArray, List.set_cons_zero, List.set_cons_succ]
        refine wpAnyH_take (i := 7) (v := .pointer (some ⟨g, 0, none⟩)) rfl (by kernel_rfl) (by kernel_rfl) (by kernel_rfl) (fun _ _ _ h => nomatch h.1) (Or.inl ⟨by kernel_rfl, ?yfa_7⟩) hHeld ?rfa_7
        case yfa_7 =>
          intro w hSw
          obtain ⟨⟨z2, c2, f2⟩, ⟨z3, c3, f3⟩, ⟨z4, c4, f4⟩, ⟨z5, c5, f5⟩, ⟨z6, c6, f6⟩, ⟨zg, cg, fg⟩⟩ := hSw
          go_simp
          try with_reducible rfl
        try simp only [Act.put, List.getElem_toArray, List.getElem_cons_zero, List.getElem_cons_succ, List.setIfInBounds_toArray, List.set_cons_zero, List.set_cons_succ]
        refine wpAnyH_take (i := 8) (v := .pointer (some ⟨g, 2, none⟩)) rfl (by kernel_rfl) (by kernel_rfl) (by kernel_rfl) (fun _ _ _ h => nomatch h.1) (Or.inl ⟨by kernel_rfl, ?yfa_8⟩) hHeld ?rfa_8
        case yfa_8 =>
          intro w hSw
          obtain ⟨⟨z2, c2, f2⟩, ⟨z3, c3, f3⟩, ⟨z4, c4, f4⟩, ⟨z5, c5, f5⟩, ⟨z6, c6, f6⟩, ⟨zg, cg, fg⟩⟩ := hSw
          go_simp
          try with_reducible rfl
        try simp only [Act.put, List.getElem_toArray, List.getElem_cons_zero, List.getElem_cons_succ, List.setIfInBounds_toArray, List.set_cons_zero, List.set_cons_succ]
        refine wpAnyH_take (i := 9) (v := .map (some q.mh)) rfl (by kernel_rfl) (by kernel_rfl) (by kernel_rfl) (fun _ _ _ h => nomatch h.1) (Or.inl ⟨by kernel_rfl, ?yfa_9⟩) hHeld ?rfa_9
        case yfa_9 =>
          intro w hSw
          obtain ⟨⟨z2, c2, f2⟩, ⟨z3, c3, f3⟩, ⟨z4, c4, f4⟩, ⟨z5, c5, f5⟩, ⟨z6, c6, f6⟩, ⟨zg, cg, fg⟩⟩ := hSw
          go_simp
          try with_reducible rfl
        try simp only [Act.put, List.getElem_toArray, List.getElem_cons_zero, List.getElem_cons_succ, List.setIfInBounds_toArray, List.set_cons_zero, List.set_cons_succ]
        refine wpAnyH_take (i := 10) (v := .pointer (some ⟨w.heap.size + 1, 0, none⟩)) rfl (by kernel_rfl) (by kernel_rfl) (by kernel_rfl) (fun _ _ _ h => nomatch h.1) (Or.inl ⟨by kernel_rfl, ?yfa_10⟩) hHeld ?rfa_10
        case yfa_10 =>
          intro w hSw
          obtain ⟨⟨z2, c2, f2⟩, ⟨z3, c3, f3⟩, ⟨z4, c4, f4⟩, ⟨z5, c5, f5⟩, ⟨z6, c6, f6⟩, ⟨zg, cg, fg⟩⟩ := hSw
          go_simp
          try with_reducible rfl
        try simp only [Act.put, List.getElem_toArray, List.getElem_cons_zero, List.getElem_cons_succ, List.setIfInBounds_toArray, List.set_cons_zero, List.set_cons_succ]
        refine wpAnyH_take (i := 11) (v := .int .i64 (f 0)) rfl (by kernel_rfl) (by kernel_rfl) (by kernel_rfl) (fun _ _ _ h => nomatch h.1) (Or.inl ⟨by kernel_rfl, ?yfa_11⟩) hHeld ?rfa_11
        case yfa_11 =>
          intro w hSw
          obtain ⟨⟨z2, c2, f2⟩, ⟨z3, c3, f3⟩, ⟨z4, c4, f4⟩, ⟨z5, c5, f5⟩, ⟨z6, c6, f6⟩, ⟨zg, cg, fg⟩⟩ := hSw
          go_simp
          try with_reducible rfl
        try simp only [Act.put, List.getElem_toArray, List.getElem_cons_zero, List.getElem_cons_succ, List.setIfInBounds_toArray, List.set_cons_zero, List.set_cons_succ]
        refine wpAnyH_take (i := 12) (v := .pointer (some ⟨g, 0, none⟩)) rfl (by kernel_rfl) (by kernel_rfl) (by kernel_rfl) (fun _ _ _ h => nomatch h.1) (Or.inl ⟨by kernel_rfl, ?yfa_12⟩) hHeld ?rfa_12
        case yfa_12 =>
          intro w hSw
          obtain ⟨⟨z2, c2, f2⟩, ⟨z3, c3, f3⟩, ⟨z4, c4, f4⟩, ⟨z5, c5, f5⟩, ⟨z6, c6, f6⟩, ⟨zg, cg, fg⟩⟩ := hSw
          go_simp
          try with_reducible rfl
        try simp only [Act.put, List.getElem_toArray, List.getElem_cons_zero, List.getElem_cons_succ, List.setIfInBounds_toArray, List.set_cons_zero, List.set_cons_succ]
        refine wpAnyH_take (i := 13) (v := .pointer (some ⟨g, 0, none⟩)) rfl (by kernel_rfl) (by kernel_rfl) (by kernel_rfl) (fun _ _ _ h => nomatch h.1) (Or.inl ⟨by kernel_rfl, ?yfa_13⟩) hHeld ?rfa_13
        case yfa_13 =>
          intro w hSw
          obtain ⟨⟨z2, c2, f2⟩, ⟨z3, c3, f3⟩, ⟨z4, c4, f4⟩, ⟨z5, c5, f5⟩, ⟨z6, c6, f6⟩, ⟨zg, cg, fg⟩⟩ := hSw
          go_simp
          try with_reducible rfl
        try simp only [Act.put, List.getElem_toArray, List.getElem_cons_zero, List.getElem_cons_succ, List.setIfInBounds_toArray, List.set_cons_zero, List.set_cons_succ]
        refine wpAnyH_take (i := 14) (v := .pointer (some ⟨g, 3, none⟩)) rfl (by kernel_rfl) (by kernel_rfl) (by kernel_rfl) (fun _ _ _ h => nomatch h.1) (Or.inl ⟨by kernel_rfl, ?yfa_14⟩) hHeld ?rfa_14
        case yfa_14 =>
          intro w hSw
          obtain ⟨⟨z2, c2, f2⟩, ⟨z3, c3, f3⟩, ⟨z4, c4, f4⟩, ⟨z5, c5, f5⟩, ⟨z6, c6, f6⟩, ⟨zg, cg, fg⟩⟩ := hSw
          go_simp
          try with_reducible rfl
        try simp only [Act.put, List.getElem_toArray, List.getElem_cons_zero, List.getElem_cons_succ, List.setIfInBounds_toArray, List.set_cons_zero, List.set_cons_succ]
        refine wpAnyH_take (i := 15) (v := .map (some q.mb)) rfl (by kernel_rfl) (by kernel_rfl) (by kernel_rfl) (fun _ _ _ h => nomatch h.1) (Or.inl ⟨by kernel_rfl, ?yfa_15⟩) hHeld ?rfa_15
        case yfa_15 =>
          intro w hSw
          obtain ⟨⟨z2, c2, f2⟩, ⟨z3, c3, f3⟩, ⟨z4, c4, f4⟩, ⟨z5, c5, f5⟩, ⟨z6, c6, f6⟩, ⟨zg, cg, fg⟩⟩ := hSw
          go_simp
          try with_reducible rfl
        try simp only [Act.put, List.getElem_toArray, List.getElem_cons_zero, List.getElem_cons_succ, List.setIfInBounds_toArray, List.set_cons_zero, List.set_cons_succ]
        refine wpAnyH_take (i := 16) (v := .pointer (some ⟨w.heap.size + 1, 0, none⟩)) rfl (by kernel_rfl) (by kernel_rfl) (by kernel_rfl) (fun _ _ _ h => nomatch h.1) (Or.inl ⟨by kernel_rfl, ?yfa_16⟩) hHeld ?rfa_16
        case yfa_16 =>
          intro w hSw
          obtain ⟨⟨z2, c2, f2⟩, ⟨z3, c3, f3⟩, ⟨z4, c4, f4⟩, ⟨z5, c5, f5⟩, ⟨z6, c6, f6⟩, ⟨zg, cg, fg⟩⟩ := hSw
          go_simp
          try with_reducible rfl
        try simp only [Act.put, List.getElem_toArray, List.getElem_cons_zero, List.getElem_cons_succ, List.setIfInBounds_toArray, List.set_cons_zero, List.set_cons_succ]
        refine wpAnyH_take (i := 17) (v := .int .i64 (f 0)) rfl (by kernel_rfl) (by kernel_rfl) (by kernel_rfl) (fun _ _ _ h => nomatch h.1) (Or.inl ⟨by kernel_rfl, ?yfa_17⟩) hHeld ?rfa_17
        case yfa_17 =>
          intro w hSw
          obtain ⟨⟨z2, c2, f2⟩, ⟨z3, c3, f3⟩, ⟨z4, c4, f4⟩, ⟨z5, c5, f5⟩, ⟨z6, c6, f6⟩, ⟨zg, cg, fg⟩⟩ := hSw
          go_simp
          try with_reducible rfl
        try simp only [Act.put, List.getElem_toArray, List.getElem_cons_zero, List.getElem_cons_succ, List.setIfInBounds_toArray, List.set_cons_zero, List.set_cons_succ]
        refine wpAnyH_take (i := 18) (v := .pointer (some ⟨g, 0, none⟩)) rfl (by kernel_rfl) (by kernel_rfl) (by kernel_rfl) (fun _ _ _ h => nomatch h.1) (Or.inl ⟨by kernel_rfl, ?yfa_18⟩) hHeld ?rfa_18
        case yfa_18 =>
          intro w hSw
          obtain ⟨⟨z2, c2, f2⟩, ⟨z3, c3, f3⟩, ⟨z4, c4, f4⟩, ⟨z5, c5, f5⟩, ⟨z6, c6, f6⟩, ⟨zg, cg, fg⟩⟩ := hSw
          go_simp
          try with_reducible rfl
        try simp only [Act.put, List.getElem_toArray, List.getElem_cons_zero, List.getElem_cons_succ, List.setIfInBounds_toArray, List.set_cons_zero, List.set_cons_succ]
        refine wpAnyH_take (i := 19) (v := .pointer (some ⟨g, 0, none⟩)) rfl (by kernel_rfl) (by kernel_rfl) (by kernel_rfl) (fun _ _ _ h => nomatch h.1) (Or.inl ⟨by kernel_rfl, ?yfa_19⟩) hHeld ?rfa_19
        case yfa_19 =>
          intro w hSw
          obtain ⟨⟨z2, c2, f2⟩, ⟨z3, c3, f3⟩, ⟨z4, c4, f4⟩, ⟨z5, c5, f5⟩, ⟨z6, c6, f6⟩, ⟨zg, cg, fg⟩⟩ := hSw
          go_simp
          try with_reducible rfl
        try simp only [Act.put, List.getElem_toArray, List.getElem_cons_zero, List.getElem_cons_succ, List.setIfInBounds_toArray, List.set_cons_zero, List.set_cons_succ]
        refine wpAnyH_take (i := 20) (v := .pointer (some ⟨g, 4, none⟩)) rfl (by kernel_rfl) (by kernel_rfl) (by kernel_rfl) (fun _ _ _ h => nomatch h.1) (Or.inl ⟨by kernel_rfl, ?yfa_20⟩) hHeld ?rfa_20
        case yfa_20 =>
          intro w hSw
          obtain ⟨⟨z2, c2, f2⟩, ⟨z3, c3, f3⟩, ⟨z4, c4, f4⟩, ⟨z5, c5, f5⟩, ⟨z6, c6, f6⟩, ⟨zg, cg, fg⟩⟩ := hSw
          go_simp
          try with_reducible rfl
        try simp only [Act.put, List.getElem_toArray, List.getElem_cons_zero, List.getElem_cons_succ, List.setIfInBounds_toArray, List.set_cons_zero, List.set_cons_succ]
        refine wpAnyH_take (i := 21) (v := .map (some q.mt)) rfl (by kernel_rfl) (by kernel_rfl) (by kernel_rfl) (fun _ _ _ h => nomatch h.1) (Or.inl ⟨by kernel_rfl, ?yfa_21⟩) hHeld ?rfa_21
        case yfa_21 =>
          intro w hSw
          obtain ⟨⟨z2, c2, f2⟩, ⟨z3, c3, f3⟩, ⟨z4, c4, f4⟩, ⟨z5, c5, f5⟩, ⟨z6, c6, f6⟩, ⟨zg, cg, fg⟩⟩ := hSw
          go_simp
          try with_reducible rfl
        try simp only [Act.put, List.getElem_toArray, List.getElem_cons_zero, List.getElem_cons_succ, List.setIfInBounds_toArray, List.set_cons_zero, List.set_cons_succ]
        refine wpAnyH_take (i := 22) (v := .pointer (some ⟨w.heap.size + 1, 0, none⟩)) rfl (by kernel_rfl) (by kernel_rfl) (by kernel_rfl) (fun _ _ _ h => nomatch h.1) (Or.inl ⟨by kernel_rfl, ?yfa_22⟩) hHeld ?rfa_22
        case yfa_22 =>
          intro w hSw
          obtain ⟨⟨z2, c2, f2⟩, ⟨z3, c3, f3⟩, ⟨z4, c4, f4⟩, ⟨z5, c5, f5⟩, ⟨z6, c6, f6⟩, ⟨zg, cg, fg⟩⟩ := hSw
          go_simp
          try with_reducible rfl
        try simp only [Act.put, List.getElem_toArray, List.getElem_cons_zero, List.getElem_cons_succ, List.setIfInBounds_toArray, List.set_cons_zero, List.set_cons_succ]
        refine wpAnyH_take (i := 23) (v := .int .i64 (f 0)) rfl (by kernel_rfl) (by kernel_rfl) (by kernel_rfl) (fun _ _ _ h => nomatch h.1) (Or.inl ⟨by kernel_rfl, ?yfa_23⟩) hHeld ?rfa_23
        case yfa_23 =>
          intro w hSw
          obtain ⟨⟨z2, c2, f2⟩, ⟨z3, c3, f3⟩, ⟨z4, c4, f4⟩, ⟨z5, c5, f5⟩, ⟨z6, c6, f6⟩, ⟨zg, cg, fg⟩⟩ := hSw
          go_simp
          try with_reducible rfl
        try simp only [Act.put, List.getElem_toArray, List.getElem_cons_zero, List.getElem_cons_succ, List.setIfInBounds_toArray, List.set_cons_zero, List.set_cons_succ]
        refine wpAnyH_take (i := 24) (v := .agg #[.int .i64 (kc b.a1), .int .i64 (kc b.a2), .int .i64 (kc b.a3)]) rfl (by kernel_rfl) (by kernel_rfl) (by kernel_rfl) (fun _ _ _ h => nomatch h.1) (Or.inl ⟨by kernel_rfl, ?yfa_24⟩) hHeld ?rfa_24
        case yfa_24 =>
          intro w hSw
          obtain ⟨⟨z2, c2, f2⟩, ⟨z3, c3, f3⟩, ⟨z4, c4, f4⟩, ⟨z5, c5, f5⟩, ⟨z6, c6, f6⟩, ⟨zg, cg, fg⟩⟩ := hSw
          go_simp
          try with_reducible rfl
        try simp only [Act.put, List.getElem_toArray, List.getElem_cons_zero, List.getElem_cons_succ, List.setIfInBounds_toArray, List.set_cons_zero, List.set_cons_succ]
        refine wpAnyH_take (i := 25) (v := .agg #[.int .i64 (kc b.b1), .int .i64 (kc b.b2), .int .i64 (kc b.b3)]) rfl (by kernel_rfl) (by kernel_rfl) (by kernel_rfl) (fun _ _ _ h => nomatch h.1) (Or.inl ⟨by kernel_rfl, ?yfa_25⟩) hHeld ?rfa_25
        case yfa_25 =>
          intro w hSw
          obtain ⟨⟨z2, c2, f2⟩, ⟨z3, c3, f3⟩, ⟨z4, c4, f4⟩, ⟨z5, c5, f5⟩, ⟨z6, c6, f6⟩, ⟨zg, cg, fg⟩⟩ := hSw
          go_simp
          try with_reducible rfl
        try simp only [Act.put, List.getElem_toArray, List.getElem_cons_zero, List.getElem_cons_succ, List.setIfInBounds_toArray, List.set_cons_zero, List.set_cons_succ]
        refine wpAnyH_take (i := 26) (v := .agg #[.int .i64 b.a1, .int .i64 b.a2, .int .i64 b.a3, .int .i64 b.b1, .int .i64 b.b2, .int .i64 b.b3]) rfl (by kernel_rfl) (by kernel_rfl) (by kernel_rfl) (fun _ _ _ h => nomatch h.1) (Or.inl ⟨by kernel_rfl, ?yfa_26⟩) hHeld ?rfa_26
        case yfa_26 =>
          intro w hSw
          obtain ⟨⟨z2, c2, f2⟩, ⟨z3, c3, f3⟩, ⟨z4, c4, f4⟩, ⟨z5, c5, f5⟩, ⟨z6, c6, f6⟩, ⟨zg, cg, fg⟩⟩ := hSw
          go_simp
          try with_reducible rfl
        try simp only [Act.put, List.getElem_toArray, List.getElem_cons_zero, List.getElem_cons_succ, List.setIfInBounds_toArray, List.set_cons_zero, List.set_cons_succ]
        refine wpAnyH_take (i := 27) (v := .pointer (some ⟨w.heap.size + 1, 16, none⟩)) rfl (by kernel_rfl) (by kernel_rfl) (by kernel_rfl) (fun _ _ _ h => nomatch h.1) (Or.inl ⟨by kernel_rfl, ?yfa_27⟩) hHeld ?rfa_27
        case yfa_27 =>
          intro w hSw
          obtain ⟨⟨z2, c2, f2⟩, ⟨z3, c3, f3⟩, ⟨z4, c4, f4⟩, ⟨z5, c5, f5⟩, ⟨z6, c6, f6⟩, ⟨zg, cg, fg⟩⟩ := hSw
          go_simp
          try with_reducible rfl
        try simp only [Act.put, List.getElem_toArray, List.getElem_cons_zero, List.getElem_cons_succ, List.setIfInBounds_toArray, List.set_cons_zero, List.set_cons_succ]
        refine wpAnyH_take (i := 28) (v := .int .i64 (f 16)) rfl (by kernel_rfl) (by kernel_rfl) (by kernel_rfl) (fun _ _ _ h => nomatch h.1) (Or.inl ⟨by kernel_rfl, ?yfa_28⟩) hHeld ?rfa_28
        case yfa_28 =>
          intro w hSw
          obtain ⟨⟨z2, c2, f2⟩, ⟨z3, c3, f3⟩, ⟨z4, c4, f4⟩, ⟨z5, c5, f5⟩, ⟨z6, c6, f6⟩, ⟨zg, cg, fg⟩⟩ := hSw
          go_simp
          try with_reducible rfl
        try simp only [Act.put, List.getElem_toArray, List.getElem_cons_zero, List.getElem_cons_succ, List.setIfInBounds_toArray, List.set_cons_zero, List.set_cons_succ]
        refine wpAnyH_ready (rs := [29]) (by kernel_rfl) (by simp) ?_
        refine AllReadyH.cons (o := _) rfl (fun K hK => ?_) AllReadyH.nil
        refine step_entry rfl (.tmp 77) (.tmp 79) rfl (int_keyed Try.underlying3) Try.underlying116 zero_cell' rfl (HFL9.out.1.mod HD0.out id) HNM.out (.int .i64 (f 0)) (.int .i64 (f 0)) rfl HK.out trivial ?_
        intro st1 v1 kv1 hO1
        refine hK.out _ _ (HSX.out hHeld kv1 (fun _ e => (.inl e))) (fun hHeld => ?_)
        clear hK K
        try simp only [Act.put, List.getElem_toArray, List.getElem_cons_zero, List.getElem_cons_succ, List.setIfInBounds_toArray, List.set_cons_zero, List.set_cons_succ]
        refine wpAnyH_take (i := 30) (v := goInt st1) rfl (by kernel_rfl) (by kernel_rfl) (by kernel_rfl) (fun _ _ _ h => nomatch h.1) (Or.inl ⟨by kernel_rfl, ?yfa_30⟩) hHeld ?rfa_30
        case yfa_30 =>
          intro w hSw
          obtain _ := hSw
          go_simp
          try with_reducible rfl
        try simp only [Act.put, List.getElem_toArray, List.getElem_cons_zero, List.getElem_cons_succ, List.setIfInBounds_toArray, List.set_cons_zero, List.set_cons_succ]
        refine wpAnyH_ready (rs := [31]) (by kernel_rfl) (by simp) ?_
        refine AllReadyH.cons (o := _) rfl (fun K hK => ?_) AllReadyH.nil
        refine step_store rfl (.tmp 77) (.tmp 104) (.tmp 98) rfl rfl rfl hO1 ?_
        intro y1 hy1 ky1
        refine hK.out _ _ (HSX.out hHeld ky1 (fun _ e => (.inl e))) (fun hHeld => ?_)
        clear hK K
        try simp only [Act.put, List.getElem_toArray, List.getElem_cons_zero, List.getElem_cons_succ]
        have HK1 : Hid (Mod (· = q.ml) w7.drew y1) := Lib.hid (kv1.trans ky1)
        have HY1 := Lib.hid hy1
        clear kv1 ky1 hy1 hO1
        refine wpAnyH_ready (rs := [32]) (by kernel_rfl) (by simp) ?_
        refine AllReadyH.cons (o := _) rfl (fun K hK => ?_) AllReadyH.nil
        refine step_entry rfl (.tmp 83) (.tmp 85) rfl (int_keyed Try.underlying3) Try.underlying116 zero_cell' rfl ((HFH9.out.1.mod HD0.out id).mod HK1.out (by omega)) HNM.out (.int .i64 (f 0)) (.int .i64 (f 0)) rfl HK.out trivial ?_
        intro st2 v2 kv2 hO2
        refine hK.out _ _ (HSX.out hHeld kv2 (fun _ e => (.inr (.inl e)))) (fun hHeld => ?_)
        clear hK K
        try simp only [Act.put, List.getElem_toArray, List.getElem_cons_zero, List.getElem_cons_succ, List.setIfInBounds_toArray, List.set_cons_zero, List.set_cons_succ]
        refine wpAnyH_take (i := 33) (v := goInt st2) rfl (by kernel_rfl) (by kernel_rfl) (by kernel_rfl) (fun _ _ _ h => nomatch h.1) (Or.inl ⟨by kernel_rfl, ?yfa_33⟩) hHeld ?rfa_33
        case yfa_33 =>
          intro w hSw
          obtain _ := hSw
          go_simp
          try with_reducible rfl
        try simp only [Act.put, List.getElem_toArray, List.getElem_cons_zero, List.getElem_cons_succ, List.setIfInBounds_toArray, List.set_cons_zero, List.set_cons_succ]
        refine wpAnyH_ready (rs := [34]) (by kernel_rfl) (by simp) ?_
        refine AllReadyH.cons (o := _) rfl (fun K hK => ?_) AllReadyH.nil
        refine step_store rfl (.tmp 83) (.tmp 106) (.tmp 99) rfl rfl rfl hO2 ?_
        intro y2 hy2 ky2
        refine hK.out _ _ (HSX.out hHeld ky2 (fun _ e => (.inr (.inl e)))) (fun hHeld => ?_)
        clear hK K
        try simp only [Act.put, List.getElem_toArray, List.getElem_cons_zero, List.getElem_cons_succ]
        have HK2 : Hid (Mod (· = q.mh) y1 y2) := Lib.hid (kv2.trans ky2)
        have HY2 := Lib.hid hy2
        clear kv2 ky2 hy2 hO2
        refine wpAnyH_ready (rs := [35]) (by kernel_rfl) (by simp) ?_
        refine AllReadyH.cons (o := _) rfl (fun K hK => ?_) AllReadyH.nil
        refine step_entry rfl (.tmp 89) (.tmp 91) rfl (int_keyed Try.underlying3) Try.underlying117 zero_box' rfl (((HFB9.out.1.mod HD0.out id).mod HK1.out (by omega)).mod HK2.out (by omega)) HNM.out (.int .i64 (f 0)) (.int .i64 (f 0)) rfl HK.out trivial ?_
        intro st3 v3 kv3 hO3
        refine hK.out _ _ (HSX.out hHeld kv3 (fun _ e => (.inr (.inr (.inl e))))) (fun hHeld => ?_)
        clear hK K
        try simp only [Act.put, List.getElem_toArray, List.getElem_cons_zero, List.getElem_cons_succ, List.setIfInBounds_toArray, List.set_cons_zero, List.set_cons_succ]
        refine wpAnyH_take (i := 36) (v := goInt st3) rfl (by kernel_rfl) (by kernel_rfl) (by kernel_rfl) (fun _ _ _ h => nomatch h.1) (Or.inl ⟨by kernel_rfl, ?yfa_36⟩) hHeld ?rfa_36
        case yfa_36 =>
          intro w hSw
          obtain _ := hSw
          go_simp
          try with_reducible rfl
        try simp only [Act.put, List.getElem_toArray, List.getElem_cons_zero, List.getElem_cons_succ, List.setIfInBounds_toArray, List.set_cons_zero, List.set_cons_succ]
        refine wpAnyH_ready (rs := [37]) (by kernel_rfl) (by simp) ?_
        refine AllReadyH.cons (o := _) rfl (fun K hK => ?_) AllReadyH.nil
        refine step_store rfl (.tmp 89) (.tmp 108) (.tmp 100) rfl rfl rfl hO3 ?_
        intro y3 hy3 ky3
        refine hK.out _ _ (HSX.out hHeld ky3 (fun _ e => (.inr (.inr (.inl e))))) (fun hHeld => ?_)
        clear hK K
        try simp only [Act.put, List.getElem_toArray, List.getElem_cons_zero, List.getElem_cons_succ]
        have HK3 : Hid (Mod (· = q.mb) y2 y3) := Lib.hid (kv3.trans ky3)
        have HY3 := Lib.hid hy3
        clear kv3 ky3 hy3 hO3
        refine wpAnyH_ready (rs := [38]) (by kernel_rfl) (by simp) ?_
        refine AllReadyH.cons (o := _) rfl (fun K hK => ?_) AllReadyH.nil
        refine step_entry rfl (.tmp 95) (.tmp 97) rfl (int_keyed Try.underlying3) Try.underlying118 zero_int' rfl ((((HFT9.out.1.mod HD0.out id).mod HK1.out (by omega)).mod HK2.out (by omega)).mod HK3.out (by omega)) HNM.out (.int .i64 (f 0)) (.int .i64 (f 0)) rfl HK.out trivial ?_
        intro st4 v4 kv4 hO4
        refine hK.out _ _ (HSX.out hHeld kv4 (fun _ e => (.inr (.inr (.inr e))))) (fun hHeld => ?_)
        clear hK K
        try simp only [Act.put, List.getElem_toArray, List.getElem_cons_zero, List.getElem_cons_succ, List.setIfInBounds_toArray, List.set_cons_zero, List.set_cons_succ]
        refine wpAnyH_take (i := 39) (v := goInt st4) rfl (by kernel_rfl) (by kernel_rfl) (by kernel_rfl) (fun _ _ _ h => nomatch h.1) (Or.inl ⟨by kernel_rfl, ?yfa_39⟩) hHeld ?rfa_39
        case yfa_39 =>
          intro w hSw
          obtain _ := hSw
          go_simp
          try with_reducible rfl
        try simp only [Act.put, List.getElem_toArray, List.getElem_cons_zero, List.getElem_cons_succ, List.setIfInBounds_toArray, List.set_cons_zero, List.set_cons_succ]
        refine wpAnyH_ready (rs := [40]) (by kernel_rfl) (by simp) ?_
        refine AllReadyH.cons (o := _) rfl (fun K hK => ?_) AllReadyH.nil
        refine step_store rfl (.tmp 95) (.tmp 110) (.tmp 102) rfl rfl rfl hO4 ?_
        intro y4 hy4 ky4
        refine hK.out _ _ (HSX.out hHeld ky4 (fun _ e => (.inr (.inr (.inr e))))) (fun hHeld => ?_)
        clear hK K
        try simp only [Act.put, List.getElem_toArray, List.getElem_cons_zero, List.getElem_cons_succ]
        have HK4 : Hid (Mod (· = q.mt) y3 y4) := Lib.hid (kv4.trans ky4)
        have HY4 := Lib.hid hy4
        clear kv4 ky4 hy4 hO4
        refine wpAnyH_done (by kernel_rfl) ?_ _
        clear hHeld
        refine ⟨rfl, ?_⟩
        try skip
        have hq1 := vi_put HFL9.out.2 HY1.out rfl (e0 := f.en) (Fm := fun e => cv e.bx.lo) (by rw [HB.out]; rfl)
        have hq2 := vi_put HFH9.out.2 HY2.out rfl (e0 := f.en) (Fm := fun e => cv e.bx.hi) (by rw [HB.out]; rfl)
        have hq3 := vi_put HFB9.out.2 HY3.out rfl (e0 := f.en) (Fm := fun e => e.bx.v) (by rw [HB.out]; rfl)
        have hq4 := vi_put HFT9.out.2 HY4.out rfl (e0 := f.en) (Fm := fun e => .int .i64 e.tm) rfl
        have HGF := Lib.hid ((HG7.out.modT HD0.out (fun _ e => e.elim)).put4 HK1.out hq1 HK2.out hq2 HK3.out hq3 HK4.out hq4)
        have HMF : Hid (Mod (fun x => x = q.ml ∨ x = q.mh ∨ x = q.mb ∨ x = q.mt) w7 y4) := Lib.hid ((((HD0.out.mono fun _ _ e => e.elim).trans (HK1.out.mono fun _ _ e => .inl e)).trans (HK2.out.mono fun _ _ e => .inr (.inl e))).trans (HK3.out.mono fun _ _ e => .inr (.inr (.inl e))) |>.trans (HK4.out.mono fun _ _ e => .inr (.inr (.inr e))))
        clear hq1 hq2 hq3 hq4 HFL9 HFH9 HFB9 HFT9 HY1 HY2 HY3 HY4 HK1 HK2 HK3 HK4
        go_wp2
        rw [HQ.out]
        refine ⟨_, results_none rfl _ _ _, rfl, ⟨_, S, ⟨HGF.out.more (by omega), ?_⟩, fun x e => .inl e, rfl⟩, (Mod.of_below HV7.out).trans (HMF.out.mono fun x _ e => ?_)⟩
        · cases hD : D (f 0) with
          | none => rw [hD] at hC; cases hC
          | some e =>
            rw [hD] at hC
            simp only [chg, Bool.or_eq_false_iff, Bool.not_eq_false'] at hC
            refine lists_same HH.out.lists hD ?_
            have e1 := (eqC_iff _ _).1 hC.1
            have e2 := (eqC_iff _ _).1 hC.2
            rw [HB.out] at e1 e2
            show (f.bx).cells = _
            unfold Bx.cells
            rw [e1, e2]
        · rcases e with e | e | e | e
          · exact e ▸ HH.out.raw.sg.2.2.1
          · exact e ▸ HH.out.raw.sg.2.2.2.1
          · exact e ▸ HH.out.raw.sg.2.2.2.2.1
          · exact e ▸ HH.out.raw.sg.2.2.2.2.2

      | true =>
        have HSL : Hid (∀ x, S x → x < w.heap.size) := Lib.hid (fun x e => (HH.out.raw.sl x e).1)
        obtain ⟨z2, c2, f2⟩ := id HP27.out
        obtain ⟨z3, c3, f3⟩ := id HP37.out
        go_wp2_with fail
        refine (iremove_c _ g m D S X q (f 0) hnn ⟨HG7.out, HH.out.lists⟩ hm).mono ?_
        rintro e8 w8 ⟨rfl, ⟨q1, hG8, hn8⟩, hM8⟩
        have HG8 := Lib.hid hG8.raw
        have HL1 := Lib.hid hG8.lists
        have HSM : Hid (S q1.mc ∧ S q1.ml ∧ S q1.mh ∧ S q1.mb ∧ S q1.mt ∧ S g) := Lib.hid ⟨HG8.out.sg.2.1, HG8.out.sg.2.2.1, HG8.out.sg.2.2.2.1, HG8.out.sg.2.2.2.2.1, HG8.out.sg.2.2.2.2.2, HG8.out.sg.1⟩
        have HN8 := Lib.hid hn8
        have HM8 := Lib.hid hM8
        clear hG8 hn8 hM8 z2 c2 f2 z3 c3 f3
        have HP28 := Lib.hid (HP27.out.mod HM8.out (fun e => by have := HSL.out _ e; omega))
        have HP38 := Lib.hid (HP37.out.mod HM8.out (fun e => by have := HSL.out _ e; omega))
        have HP48 := Lib.hid (HP47.out.mod HM8.out (fun e => by have := HSL.out _ e; have := HN4.out; omega))
        have HP58 := Lib.hid (HP57.out.mod HM8.out (fun e => by have := HSL.out _ e; have := HN4.out; have := HN5.out; omega))
        have HP68 := Lib.hid (HP67.out.mod HM8.out (fun e => by have := HSL.out _ e; have := HN4.out; have := HN5.out; omega))
        clear HP27 HP37 HP47 HP57 HP67 HG7
        obtain ⟨D1, hD1⟩ : ∃ D1, D1 = (fun k => if k = f 0 then none else D k) := ⟨_, rfl⟩
        rw [← hD1] at HG8 HL1
        have HD1 := Lib.hid hD1
        clear hD1
        obtain ⟨z5, c5, f5⟩ := id HP58.out
        obtain ⟨z6, c6, f6⟩ := id HP68.out
        go_wp2_with fail
        refine (ieach_c _ _ _ _ _ _ _).mono ?_
        rintro e1 w9 ⟨rfl, hA9, hB9, hb9⟩
        have HG9 := Lib.hid (HG8.out.below hb9)
        have HP29 := Lib.hid (HP28.out.below hb9)
        have HP39 := Lib.hid (HP38.out.below hb9)
        have HP49 := Lib.hid (HP48.out.below hb9)
        have HP59 := Lib.hid (HP58.out.below hb9)
        have HP69 := Lib.hid (HP68.out.below hb9)
        have HM9 : Hid (Mod S w w9) := Lib.hid (((Mod.of_below HV7.out).trans HM8.out).trans (Mod.of_below hb9))
        have hA8 := hA9.lt
        have HA9 := Lib.hid hA9
        have HB9 := Lib.hid hB9
        obtain ⟨A, hA⟩ : ∃ A, A = w8.heap.size := ⟨_, rfl⟩
        have HPA : Hid (p5 + 1 < A) := Lib.hid (by rw [hA]; exact HP68.out.lt)
        rw [← hA] at HA9 HB9
        rw [← hA]
        clear hA hb9 HG8 HP28 HP38 HP48 HP58 HP68 hA9 hB9 hA8 z5 c5 f5 z6 c6 f6
        go_wp2_with fail
        have hlo := lo_ok b
        have hhi := hi_ok b
        refine wp_frame_named ?_
        rintro fr hfr
        refine (wpIn_wide (n := 9)).1 (wpIn_rangeFunc_ownH (F := Fence.wide) rfl (by omega) (gf := 93) (lb := #[.pointer (some ⟨A, 0, none⟩), .pointer (some ⟨A + 1, 0, none⟩)]) (by rw [hfr]; rfl) trivial (enters_of Try.func93 (by kernel_rfl) rfl) (each_stops 8 (by omega) A (A + 1) _ _ _ _ _ _ hlo hhi w9 HA9.out HB9.out) (fun {_ _ _} h k => KpAB.trans h k) ?hKb (Below.refl _ _) (fun _ => rfl)
          (fun pre W => PutI w9 g (m + 5000000) D1 S X q1 f b w.heap.size (w.heap.size + 1) p4 p5 A (pre.map (·.1)) W) (fun _ _ _ => False) ?hI (fun _ _ _ _ _ h _ _ => h) ?h0
          (fun x a' W => ∃ Bx, A + 1 < Bx ∧ Blk W Bx #[.int .i64 x.1.1, .int .i64 x.1.2.1, .int .i64 x.1.2.2] ∧ a' = { tmps := (fr.setIfInBounds 61 (cv x.1)).setIfInBounds 9 (.pointer (some ⟨Bx, 0, none⟩)), defers := [] }) ?hAx ?assign ?body ?done (fun _ _ _ _ _ _ h _ => h.elim))
        case hKb =>
          intro W l o o' hl _ _ _
          exact ⟨by simp, fun k hk => World.putObj_heap_other (fun e => by have := HA9.out.lt; have := HB9.out.lt; omega)⟩
        case hI => exact fun pre W W' row hs hg hr => PutI.mod hs (mod_grownBy hg) (fun x e => ⟨(hr x e).1, fun o ho => by obtain ⟨_, o', ho', hc⟩ := hr x e; rw [ho] at ho'; cases ho'; exact hc⟩)
        case hAx =>
          intro x a' _ W W' row hs hg hr
          obtain ⟨Bx, h1, h2, h3⟩ := hs
          exact ⟨Bx, h1, h2.mod (mod_grownBy hg) (fun e => by obtain ⟨_, o, ho, hc⟩ := hr Bx e; rw [blk_cells h2 (by simp) ho] at hc; cases hc), h3⟩
        case h0 =>
          have hN4 := HN4.out
          have hN5 := HN5.out
          have hrow : ∀ x, RowB q1.Fc x → S x := fun x ⟨c, v, h1, h2, h3⟩ => HG9.out.srow c v x h1 h2 h3
          have hgr : GW w9 g (m + 5000000 + 0) D1 S (fun x => X x ∨ (w.heap.size ≤ x ∧ x < w9.heap.size)) q1 := HG9.out.grow HM9.out.size HSL.out
          refine ⟨⟨q1, hgr.lessS (fun x e => e.elim id (hrow x)) ⟨.inl HG9.out.sg.1, .inl HG9.out.sg.2.1, .inl HG9.out.sg.2.2.1, .inl HG9.out.sg.2.2.2.1, .inl HG9.out.sg.2.2.2.2.1, .inl HG9.out.sg.2.2.2.2.2⟩ (fun c v x h1 h2 h3 => .inr ⟨c, v, h1, h2, h3⟩), fun c _ => by simp, ⟨rfl, rfl, rfl, rfl, rfl, rfl⟩, fun x e => .inl (hrow x e)⟩, ⟨HP29.out, HP39.out, HP49.out, HP59.out, HP69.out⟩, ⟨by omega, hN4, hN5, HPA.out, HB9.out.lt, HSL.out⟩, Mod.refl _ _⟩
        case assign =>
          intro l pre x W K hI hK
          simp only [zip_one, fold_one]
          show Code.wpIn _ _ _ _ _ { tmps := fr.setIfInBounds 61 (cv x.1), defers := [] } W
          obtain ⟨fr', hfr'⟩ : ∃ fr', fr' = fr.setIfInBounds 61 (cv x.1) := ⟨_, rfl⟩
          rw [← hfr']
          rw [hfr] at hfr'
          simp only [List.setIfInBounds_toArray, List.set_cons_succ, List.set_cons_zero, cv] at hfr'
          rw [hfr']
          refine region_inRound (by kernel_rfl) (fun ⟨_, _, h⟩ => h) ?_
          go_wp2
          have hsW := hI.2.2.2.size
          have hBl := HB9.out.lt
          refine hK _ _ ((KeepsOthers.alloc _ _).from _) ⟨by simp, fun k hk => ?_⟩ (hI.mod ((Mod.refl (fun _ => False) W).alloc _) (fun _ e => e.elim)) ⟨W.heap.size, ?_, by apply Blk.at; simp, ?_⟩
          · exact heap_alloc_old W _ k (by omega)
          · omega
          · rw [hfr]
            simp only [List.setIfInBounds_toArray, List.set_cons_succ, List.set_cons_zero, cv]
        case done =>
          rintro D9 xs W hD9 hxs hI hK1
          obtain ⟨⟨q2, hG10, hL10, ⟨r1, r2, r3, r4, r5, r6⟩, hRB⟩, ⟨hP2, hP3, hP4, hP5, hP6⟩, ⟨a1, a2, a3, a4, a5, a6⟩, hM10⟩ := hI
          obtain ⟨w10, hw10⟩ : ∃ w10, w10 = W := ⟨_, rfl⟩
          rw [← hw10] at hG10 hP2 hP3 hP4 hP5 hP6 hM10 hK1
          rw [← hw10]
          clear hw10
          have hxs' : xs.map (·.1) = b.cells := hxs
          rw [hxs'] at hG10 hL10
          have HR6 : Hid (q2.mc = q1.mc ∧ q2.ml = q1.ml ∧ q2.mh = q1.mh ∧ q2.mb = q1.mb ∧ q2.mt = q1.mt ∧ q2.n = q1.n) := Lib.hid ⟨r1, r2, r3, r4, r5, r6⟩
          have HML : Hid (q2.ml < w.heap.size ∧ q2.mh < w.heap.size ∧ q2.mb < w.heap.size ∧ q2.mt < w.heap.size) := Lib.hid (by rw [r2, r3, r4, r5]; exact ⟨HSL.out _ HSM.out.2.1, HSL.out _ HSM.out.2.2.1, HSL.out _ HSM.out.2.2.2.1, HSL.out _ HSM.out.2.2.2.2.1⟩)
          have HG10 := Lib.hid (hG10.lessX (X' := X) (fun x e => .inl e))
          have HL10 := Lib.hid hL10
          have HRB := Lib.hid hRB
          have HP210 := Lib.hid hP2
          have HP310 := Lib.hid hP3
          have HP410 := Lib.hid hP4
          have HP510 := Lib.hid hP5
          have HP610 := Lib.hid hP6
          have HM10 := Lib.hid hM10
          have HKD := Lib.hid hK1
          have HCL := Lib.hid (cells_len b)
          have hcl := HCL.out
          clear hG10 hL10 hRB hP2 hP3 hP4 hP5 hP6 hM10 hK1 r1 r2 r3 r4 r5 r6 hxs hxs'
          simp only [hfr]
          go_upto_region 9 with fail
          have hd0 : Below w10.heap.size w10 w10.drew := ext_drew (Below.refl _ _)
          obtain ⟨n1, n2, n3, n4, n5, n6, n7, n8, n9, n10⟩ := HG10.out.ne
          obtain ⟨g1, g2, g3, g4, g5⟩ := HG10.out.gne
          obtain ⟨Fl9, hFl, hFlv⟩ := HG10.out.low
          obtain ⟨Fh9, hFh, hFhv⟩ := HG10.out.high
          obtain ⟨Fb9, hFb, hFbv⟩ := HG10.out.box
          obtain ⟨Ft9, hFt, hFtv⟩ := HG10.out.team
          have HFL9 := Lib.hid (And.intro hFl hFlv)
          have HFH9 := Lib.hid (And.intro hFh hFhv)
          have HFB9 := Lib.hid (And.intro hFb hFbv)
          have HFT9 := Lib.hid (And.intro hFt hFtv)
          have HNM : Hid ((m + 5000000 + b.cells.length) < maxLen) := Lib.hid (by unfold maxLen; omega)
          have HD0 := Lib.hid (Mod.of_below (S := fun _ => False) hd0)
          have hPS : PutS w.heap.size (w.heap.size + 1) p4 p5 g f b q2 w10 := ⟨HP210.out, HP310.out, HP410.out, HP510.out, HP610.out, HG10.out.blk⟩
          have HSX : Hid (∀ {T : Nat → Prop} {w' w'' : World}, PutS w.heap.size (w.heap.size + 1) p4 p5 g f b q2 w' → Mod T w' w'' → (∀ x, T x → x = q2.ml ∨ x = q2.mh ∨ x = q2.mb ∨ x = q2.mt) → PutS w.heap.size (w.heap.size + 1) p4 p5 g f b q2 w'') := Lib.hid (fun h k hT => h.mod k (fun e => by have := hT _ e; have := HML.out; omega) (fun e => by have := hT _ e; have := HML.out; omega) (fun e => by have := hT _ e; have := HML.out; have := HN4.out; omega) (fun e => by have := hT _ e; have := HML.out; have := HN4.out; have := HN5.out; omega) (fun e => by have := hT _ e; have := HML.out; have := HN4.out; have := HN5.out; omega) (fun e => by have := hT _ e; omega))
          have hS0 := HSX.out hPS HD0.out (fun _ e => e.elim)
          clear hFl hFlv hFh hFhv hFb hFbv hFt hFtv hd0 hPS
          refine Code.wp_mono (Q := NQ QQ) (fun e a w h => by obtain ⟨rfl, h⟩ := h; exact h) (wp_region_held_drew (S := PutS w.heap.size (w.heap.size + 1) p4 p5 g f b q2) (by kernel_rfl) hS0 (fun hHeld => ?_))
          clear hS0
          refine wpAnyH_take (i := 0) (v := .pointer (some ⟨g, 0, none⟩)) rfl (by kernel_rfl) (by kernel_rfl) (by kernel_rfl) (fun _ _ _ h => nomatch h.1) (Or.inl ⟨by kernel_rfl, ?ytr_0⟩) hHeld ?rtr_0
          case ytr_0 =>
            intro w hSw
            obtain ⟨⟨z2, c2, f2⟩, ⟨z3, c3, f3⟩, ⟨z4, c4, f4⟩, ⟨z5, c5, f5⟩, ⟨z6, c6, f6⟩, ⟨zg, cg, fg⟩⟩ := hSw
            go_simp
            try with_reducible rfl
          try simp only [Act.put, List.getElem_toArray, List.getElem_cons_zero, List.setIfInBounds_toArray, List.set_cons_zero, List.set_cons_succ]
          refine wpAnyH_take (i := 1) (v := .pointer (some ⟨g, 0, none⟩)) rfl (by kernel_rfl) (by kernel_rfl) (by kernel_rfl) (fun _ _ _ h => nomatch h.1) (Or.inl ⟨by kernel_rfl, ?ytr_1⟩) hHeld ?rtr_1
          case ytr_1 =>
            intro w hSw
            obtain ⟨⟨z2, c2, f2⟩, ⟨z3, c3, f3⟩, ⟨z4, c4, f4⟩, ⟨z5, c5, f5⟩, ⟨z6, c6, f6⟩, ⟨zg, cg, fg⟩⟩ := hSw
            go_simp
            try with_reducible rfl
          try simp only [Act.put, List.getElem_toArray, List.getElem_cons_zero, List.getElem_cons_succ, List.setIfInBounds_toArray, List.set_cons_zero, List.set_cons_succ]
          refine wpAnyH_take (i := 2) (v := .pointer (some ⟨g, 1, none⟩)) rfl (by kernel_rfl) (by kernel_rfl) (by kernel_rfl) (fun _ _ _ h => nomatch h.1) (Or.inl ⟨by kernel_rfl, ?ytr_2⟩) hHeld ?rtr_2
          case ytr_2 =>
            intro w hSw
            obtain ⟨⟨z2, c2, f2⟩, ⟨z3, c3, f3⟩, ⟨z4, c4, f4⟩, ⟨z5, c5, f5⟩, ⟨z6, c6, f6⟩, ⟨zg, cg, fg⟩⟩ := hSw
            go_simp
            try with_reducible rfl
          try simp only [Act.put, List.getElem_toArray, List.getElem_cons_zero, List.getElem_cons_succ, List.setIfInBounds_toArray, List.set_cons_zero, List.set_cons_succ]
          refine wpAnyH_take (i := 3) (v := .map (some q2.ml)) rfl (by kernel_rfl) (by kernel_rfl) (by kernel_rfl) (fun _ _ _ h => nomatch h.1) (Or.inl ⟨by kernel_rfl, ?ytr_3⟩) hHeld ?rtr_3
          case ytr_3 =>
            intro w hSw
            obtain ⟨⟨z2, c2, f2⟩, ⟨z3, c3, f3⟩, ⟨z4, c4, f4⟩, ⟨z5, c5, f5⟩, ⟨z6, c6, f6⟩, ⟨zg, cg, fg⟩⟩ := hSw
            go_simp
            try with_reducible rfl
          try simp only [Act.put, List.getElem_toArray, List.getElem_cons_zero, List.getElem_cons_succ, List.setIfInBounds_toArray, List.set_cons_zero, List.set_cons_succ]
          refine wpAnyH_take (i := 4) (v := .pointer (some ⟨w.heap.size + 1, 0, none⟩)) rfl (by kernel_rfl) (by kernel_rfl) (by kernel_rfl) (fun _ _ _ h => nomatch h.1) (Or.inl ⟨by kernel_rfl, ?ytr_4⟩) hHeld ?rtr_4
          case ytr_4 =>
            intro w hSw
            obtain ⟨⟨z2, c2, f2⟩, ⟨z3, c3, f3⟩, ⟨z4, c4, f4⟩, ⟨z5, c5, f5⟩, ⟨z6, c6, f6⟩, ⟨zg, cg, fg⟩⟩ := hSw
            go_simp
            try with_reducible rfl
          try simp only [Act.put, List.getElem_toArray, List.getElem_cons_zero, List.getElem_cons_succ, List.setIfInBounds_toArray, List.set_cons_zero, List.set_cons_succ]
          refine wpAnyH_take (i := 5) (v := .int .i64 (f 0)) rfl (by kernel_rfl) (by kernel_rfl) (by kernel_rfl) (fun _ _ _ h => nomatch h.1) (Or.inl ⟨by kernel_rfl, ?ytr_5⟩) hHeld ?rtr_5
          case ytr_5 =>
            intro w hSw
            obtain ⟨⟨z2, c2, f2⟩, ⟨z3, c3, f3⟩, ⟨z4, c4, f4⟩, ⟨z5, c5, f5⟩, ⟨z6, c6, f6⟩, ⟨zg, cg, fg⟩⟩ := hSw
            go_simp
            try with_reducible rfl
          try simp only [Act.put, List.getElem_toArray, List.getElem_cons_zero, List.getElem_cons_succ, List.setIfInBounds_toArray, List.set_cons_zero, List.set_cons_succ]
          refine wpAnyH_take (i := 6) (v := .pointer (some ⟨g, 0, none⟩)) rfl (by kernel_rfl) (by kernel_rfl) (by kernel_rfl) (fun _ _ _ h => nomatch h.1) (Or.inl ⟨by kernel_rfl, ?ytr_6⟩) hHeld ?rtr_6
          case ytr_6 =>
            intro w hSw
            obtain ⟨⟨z2, c2, f2⟩, ⟨z3, c3, f3⟩, ⟨z4, c4, f4⟩, ⟨z5, c5, f5⟩, ⟨z6, c6, f6⟩, ⟨zg, cg, fg⟩⟩ := hSw
            go_simp
            try with_reducible rfl
          try simp only [Act.put, List.getElem_toArray, List.getElem_cons_zero, List.getElem_cons_succ, List.setIfInBounds_toArray, List.set_cons_zero, List.set_cons_succ]
          refine wpAnyH_take (i := 7) (v := .pointer (some ⟨g, 0, none⟩)) rfl (by kernel_rfl) (by kernel_rfl) (by kernel_rfl) (fun _ _ _ h => nomatch h.1) (Or.inl ⟨by kernel_rfl, ?ytr_7⟩) hHeld ?rtr_7
          case ytr_7 =>
            intro w hSw
            obtain ⟨⟨z2, c2, f2⟩, ⟨z3, c3, f3⟩, ⟨z4, c4, f4⟩, ⟨z5, c5, f5⟩, ⟨z6, c6, f6⟩, ⟨zg, cg, fg⟩⟩ := hSw
            go_simp
            try with_reducible rfl
          try simp only [Act.put, List.getElem_toArray, List.getElem_cons_zero, List.getElem_cons_succ, List.setIfInBounds_toArray, List.set_cons_zero, List.set_cons_succ]
          refine wpAnyH_take (i := 8) (v := .pointer (some ⟨g, 2, none⟩)) rfl (by kernel_rfl) (by kernel_rfl) (by kernel_rfl) (fun _ _ _ h => nomatch h.1) (Or.inl ⟨by kernel_rfl, ?ytr_8⟩) hHeld ?rtr_8
          case ytr_8 =>
            intro w hSw
            obtain ⟨⟨z2, c2, f2⟩, ⟨z3, c3, f3⟩, ⟨z4, c4, f4⟩, ⟨z5, c5, f5⟩, ⟨z6, c6, f6⟩, ⟨zg, cg, fg⟩⟩ := hSw
            go_simp
            try with_reducible rfl
          try simp only [Act.put, List.getElem_toArray, List.getElem_cons_zero, List.getElem_cons_succ, List.setIfInBounds_toArray, List.set_cons_zero, List.set_cons_succ]
          refine wpAnyH_take (i := 9) (v := .map (some q2.mh)) rfl (by kernel_rfl) (by kernel_rfl) (by kernel_rfl) (fun _ _ _ h => nomatch h.1) (Or.inl ⟨by kernel_rfl, ?ytr_9⟩) hHeld ?rtr_9
          case ytr_9 =>
            intro w hSw
            obtain ⟨⟨z2, c2, f2⟩, ⟨z3, c3, f3⟩, ⟨z4, c4, f4⟩, ⟨z5, c5, f5⟩, ⟨z6, c6, f6⟩, ⟨zg, cg, fg⟩⟩ := hSw
            go_simp
            try with_reducible rfl
          try simp only [Act.put, List.getElem_toArray, List.getElem_cons_zero, List.getElem_cons_succ, List.setIfInBounds_toArray, List.set_cons_zero, List.set_cons_succ]
          refine wpAnyH_take (i := 10) (v := .pointer (some ⟨w.heap.size + 1, 0, none⟩)) rfl (by kernel_rfl) (by kernel_rfl) (by kernel_rfl) (fun _ _ _ h => nomatch h.1) (Or.inl ⟨by kernel_rfl, ?ytr_10⟩) hHeld ?rtr_10
          case ytr_10 =>
            intro w hSw
            obtain ⟨⟨z2, c2, f2⟩, ⟨z3, c3, f3⟩, ⟨z4, c4, f4⟩, ⟨z5, c5, f5⟩, ⟨z6, c6, f6⟩, ⟨zg, cg, fg⟩⟩ := hSw
            go_simp
            try with_reducible rfl
          try simp only [Act.put, List.getElem_toArray, List.getElem_cons_zero, List.getElem_cons_succ, List.setIfInBounds_toArray, List.set_cons_zero, List.set_cons_succ]
          refine wpAnyH_take (i := 11) (v := .int .i64 (f 0)) rfl (by kernel_rfl) (by kernel_rfl) (by kernel_rfl) (fun _ _ _ h => nomatch h.1) (Or.inl ⟨by kernel_rfl, ?ytr_11⟩) hHeld ?rtr_11
          case ytr_11 =>
            intro w hSw
            obtain ⟨⟨z2, c2, f2⟩, ⟨z3, c3, f3⟩, ⟨z4, c4, f4⟩, ⟨z5, c5, f5⟩, ⟨z6, c6, f6⟩, ⟨zg, cg, fg⟩⟩ := hSw
            go_simp
            try with_reducible rfl
          try simp only [Act.put, List.getElem_toArray, List.getElem_cons_zero, List.getElem_cons_succ, List.setIfInBounds_toArray, List.set_cons_zero, List.set_cons_succ]
          refine wpAnyH_take (i := 12) (v := .pointer (some ⟨g, 0, none⟩)) rfl (by kernel_rfl) (by kernel_rfl) (by kernel_rfl) (fun _ _ _ h => nomatch h.1) (Or.inl ⟨by kernel_rfl, ?ytr_12⟩) hHeld ?rtr_12
          case ytr_12 =>
            intro w hSw
            obtain ⟨⟨z2, c2, f2⟩, ⟨z3, c3, f3⟩, ⟨z4, c4, f4⟩, ⟨z5, c5, f5⟩, ⟨z6, c6, f6⟩, ⟨zg, cg, fg⟩⟩ := hSw
            go_simp
            try with_reducible rfl
          try simp only [Act.put, List.getElem_toArray, List.getElem_cons_zero, List.getElem_cons_succ, List.setIfInBounds_toArray, List.set_cons_zero, List.set_cons_succ]
          refine wpAnyH_take (i := 13) (v := .pointer (some ⟨g, 0, none⟩)) rfl (by kernel_rfl) (by kernel_rfl) (by kernel_rfl) (fun _ _ _ h => nomatch h.1) (Or.inl ⟨by kernel_rfl, ?ytr_13⟩) hHeld ?rtr_13
          case ytr_13 =>
            intro w hSw
            obtain ⟨⟨z2, c2, f2⟩, ⟨z3, c3, f3⟩, ⟨z4, c4, f4⟩, ⟨z5, c5, f5⟩, ⟨z6, c6, f6⟩, ⟨zg, cg, fg⟩⟩ := hSw
            go_simp
            try with_reducible rfl
          try simp only [Act.put, List.getElem_toArray, List.getElem_cons_zero, List.getElem_cons_succ, List.setIfInBounds_toArray, List.set_cons_zero, List.set_cons_succ]
          refine wpAnyH_take (i := 14) (v := .pointer (some ⟨g, 3, none⟩)) rfl (by kernel_rfl) (by kernel_rfl) (by kernel_rfl) (fun _ _ _ h => nomatch h.1) (Or.inl ⟨by kernel_rfl, ?ytr_14⟩) hHeld ?rtr_14
          case ytr_14 =>
            intro w hSw
            obtain ⟨⟨z2, c2, f2⟩, ⟨z3, c3, f3⟩, ⟨z4, c4, f4⟩, ⟨z5, c5, f5⟩, ⟨z6, c6, f6⟩, ⟨zg, cg, fg⟩⟩ := hSw
            go_simp
            try with_reducible rfl
          try simp only [Act.put, List.getElem_toArray, List.getElem_cons_zero, List.getElem_cons_succ, List.setIfInBounds_toArray, List.set_cons_zero, List.set_cons_succ]
          refine wpAnyH_take (i := 15) (v := .map (some q2.mb)) rfl (by kernel_rfl) (by kernel_rfl) (by kernel_rfl) (fun _ _ _ h => nomatch h.1) (Or.inl ⟨by kernel_rfl, ?ytr_15⟩) hHeld ?rtr_15
          case ytr_15 =>
            intro w hSw
            obtain ⟨⟨z2, c2, f2⟩, ⟨z3, c3, f3⟩, ⟨z4, c4, f4⟩, ⟨z5, c5, f5⟩, ⟨z6, c6, f6⟩, ⟨zg, cg, fg⟩⟩ := hSw
            go_simp
            try with_reducible rfl
          try simp only [Act.put, List.getElem_toArray, List.getElem_cons_zero, List.getElem_cons_succ, List.setIfInBounds_toArray, List.set_cons_zero, List.set_cons_succ]
          refine wpAnyH_take (i := 16) (v := .pointer (some ⟨w.heap.size + 1, 0, none⟩)) rfl (by kernel_rfl) (by kernel_rfl) (by kernel_rfl) (fun _ _ _ h => nomatch h.1) (Or.inl ⟨by kernel_rfl, ?ytr_16⟩) hHeld ?rtr_16
          case ytr_16 =>
            intro w hSw
            obtain ⟨⟨z2, c2, f2⟩, ⟨z3, c3, f3⟩, ⟨z4, c4, f4⟩, ⟨z5, c5, f5⟩, ⟨z6, c6, f6⟩, ⟨zg, cg, fg⟩⟩ := hSw
            go_simp
            try with_reducible rfl
          try simp only [Act.put, List.getElem_toArray, List.getElem_cons_zero, List.getElem_cons_succ, List.setIfInBounds_toArray, List.set_cons_zero, List.set_cons_succ]
          refine wpAnyH_take (i := 17) (v := .int .i64 (f 0)) rfl (by kernel_rfl) (by kernel_rfl) (by kernel_rfl) (fun _ _ _ h => nomatch h.1) (Or.inl ⟨by kernel_rfl, ?ytr_17⟩) hHeld ?rtr_17
          case ytr_17 =>
            intro w hSw
            obtain ⟨⟨z2, c2, f2⟩, ⟨z3, c3, f3⟩, ⟨z4, c4, f4⟩, ⟨z5, c5, f5⟩, ⟨z6, c6, f6⟩, ⟨zg, cg, fg⟩⟩ := hSw
            go_simp
            try with_reducible rfl
          try simp only [Act.put, List.getElem_toArray, List.getElem_cons_zero, List.getElem_cons_succ, List.setIfInBounds_toArray, List.set_cons_zero, List.set_cons_succ]
          refine wpAnyH_take (i := 18) (v := .pointer (some ⟨g, 0, none⟩)) rfl (by kernel_rfl) (by kernel_rfl) (by kernel_rfl) (fun _ _ _ h => nomatch h.1) (Or.inl ⟨by kernel_rfl, ?ytr_18⟩) hHeld ?rtr_18
          case ytr_18 =>
            intro w hSw
            obtain ⟨⟨z2, c2, f2⟩, ⟨z3, c3, f3⟩, ⟨z4, c4, f4⟩, ⟨z5, c5, f5⟩, ⟨z6, c6, f6⟩, ⟨zg, cg, fg⟩⟩ := hSw
            go_simp
            try with_reducible rfl
          try simp only [Act.put, List.getElem_toArray, List.getElem_cons_zero, List.getElem_cons_succ, List.setIfInBounds_toArray, List.set_cons_zero, List.set_cons_succ]
          refine wpAnyH_take (i := 19) (v := .pointer (some ⟨g, 0, none⟩)) rfl (by kernel_rfl) (by kernel_rfl) (by kernel_rfl) (fun _ _ _ h => nomatch h.1) (Or.inl ⟨by kernel_rfl, ?ytr_19⟩) hHeld ?rtr_19
          case ytr_19 =>
            intro w hSw
            obtain ⟨⟨z2, c2, f2⟩, ⟨z3, c3, f3⟩, ⟨z4, c4, f4⟩, ⟨z5, c5, f5⟩, ⟨z6, c6, f6⟩, ⟨zg, cg, fg⟩⟩ := hSw
            go_simp
            try with_reducible rfl
          try simp only [Act.put, List.getElem_toArray, List.getElem_cons_zero, List.getElem_cons_succ, List.setIfInBounds_toArray, List.set_cons_zero, List.set_cons_succ]
          refine wpAnyH_take (i := 20) (v := .pointer (some ⟨g, 4, none⟩)) rfl (by kernel_rfl) (by kernel_rfl) (by kernel_rfl) (fun _ _ _ h => nomatch h.1) (Or.inl ⟨by kernel_rfl, ?ytr_20⟩) hHeld ?rtr_20
          case ytr_20 =>
            intro w hSw
            obtain ⟨⟨z2, c2, f2⟩, ⟨z3, c3, f3⟩, ⟨z4, c4, f4⟩, ⟨z5, c5, f5⟩, ⟨z6, c6, f6⟩, ⟨zg, cg, fg⟩⟩ := hSw
            go_simp
            try with_reducible rfl
          try simp only [Act.put, List.getElem_toArray, List.getElem_cons_zero, List.getElem_cons_succ, List.setIfInBounds_toArray, List.set_cons_zero, List.set_cons_succ]
          refine wpAnyH_take (i := 21) (v := .map (some q2.mt)) rfl (by kernel_rfl) (by kernel_rfl) (by kernel_rfl) (fun _ _ _ h => nomatch h.1) (Or.inl ⟨by kernel_rfl, ?ytr_21⟩) hHeld ?rtr_21
          case ytr_21 =>
            intro w hSw
            obtain ⟨⟨z2, c2, f2⟩, ⟨z3, c3, f3⟩, ⟨z4, c4, f4⟩, ⟨z5, c5, f5⟩, ⟨z6, c6, f6⟩, ⟨zg, cg, fg⟩⟩ := hSw
            go_simp
            try with_reducible rfl
          try simp only [Act.put, List.getElem_toArray, List.getElem_cons_zero, List.getElem_cons_succ, List.setIfInBounds_toArray, List.set_cons_zero, List.set_cons_succ]
          refine wpAnyH_take (i := 22) (v := .pointer (some ⟨w.heap.size + 1, 0, none⟩)) rfl (by kernel_rfl) (by kernel_rfl) (by kernel_rfl) (fun _ _ _ h => nomatch h.1) (Or.inl ⟨by kernel_rfl, ?ytr_22⟩) hHeld ?rtr_22
          case ytr_22 =>
            intro w hSw
            obtain ⟨⟨z2, c2, f2⟩, ⟨z3, c3, f3⟩, ⟨z4, c4, f4⟩, ⟨z5, c5, f5⟩, ⟨z6, c6, f6⟩, ⟨zg, cg, fg⟩⟩ := hSw
            go_simp
            try with_reducible rfl
          try simp only [Act.put, List.getElem_toArray, List.getElem_cons_zero, List.getElem_cons_succ, List.setIfInBounds_toArray, List.set_cons_zero, List.set_cons_succ]
          refine wpAnyH_take (i := 23) (v := .int .i64 (f 0)) rfl (by kernel_rfl) (by kernel_rfl) (by kernel_rfl) (fun _ _ _ h => nomatch h.1) (Or.inl ⟨by kernel_rfl, ?ytr_23⟩) hHeld ?rtr_23
          case ytr_23 =>
            intro w hSw
            obtain ⟨⟨z2, c2, f2⟩, ⟨z3, c3, f3⟩, ⟨z4, c4, f4⟩, ⟨z5, c5, f5⟩, ⟨z6, c6, f6⟩, ⟨zg, cg, fg⟩⟩ := hSw
            go_simp
            try with_reducible rfl
          try simp only [Act.put, List.getElem_toArray, List.getElem_cons_zero, List.getElem_cons_succ, List.setIfInBounds_toArray, List.set_cons_zero, List.set_cons_succ]
          refine wpAnyH_take (i := 24) (v := .agg #[.int .i64 (kc b.a1), .int .i64 (kc b.a2), .int .i64 (kc b.a3)]) rfl (by kernel_rfl) (by kernel_rfl) (by kernel_rfl) (fun _ _ _ h => nomatch h.1) (Or.inl ⟨by kernel_rfl, ?ytr_24⟩) hHeld ?rtr_24
          case ytr_24 =>
            intro w hSw
            obtain ⟨⟨z2, c2, f2⟩, ⟨z3, c3, f3⟩, ⟨z4, c4, f4⟩, ⟨z5, c5, f5⟩, ⟨z6, c6, f6⟩, ⟨zg, cg, fg⟩⟩ := hSw
            go_simp
            try with_reducible rfl
          try simp only [Act.put, List.getElem_toArray, List.getElem_cons_zero, List.getElem_cons_succ, List.setIfInBounds_toArray, List.set_cons_zero, List.set_cons_succ]
          refine wpAnyH_take (i := 25) (v := .agg #[.int .i64 (kc b.b1), .int .i64 (kc b.b2), .int .i64 (kc b.b3)]) rfl (by kernel_rfl) (by kernel_rfl) (by kernel_rfl) (fun _ _ _ h => nomatch h.1) (Or.inl ⟨by kernel_rfl, ?ytr_25⟩) hHeld ?rtr_25
          case ytr_25 =>
            intro w hSw
            obtain ⟨⟨z2, c2, f2⟩, ⟨z3, c3, f3⟩, ⟨z4, c4, f4⟩, ⟨z5, c5, f5⟩, ⟨z6, c6, f6⟩, ⟨zg, cg, fg⟩⟩ := hSw
            go_simp
            try with_reducible rfl
          try simp only [Act.put, List.getElem_toArray, List.getElem_cons_zero, List.getElem_cons_succ, List.setIfInBounds_toArray, List.set_cons_zero, List.set_cons_succ]
          refine wpAnyH_take (i := 26) (v := .agg #[.int .i64 b.a1, .int .i64 b.a2, .int .i64 b.a3, .int .i64 b.b1, .int .i64 b.b2, .int .i64 b.b3]) rfl (by kernel_rfl) (by kernel_rfl) (by kernel_rfl) (fun _ _ _ h => nomatch h.1) (Or.inl ⟨by kernel_rfl, ?ytr_26⟩) hHeld ?rtr_26
          case ytr_26 =>
            intro w hSw
            obtain ⟨⟨z2, c2, f2⟩, ⟨z3, c3, f3⟩, ⟨z4, c4, f4⟩, ⟨z5, c5, f5⟩, ⟨z6, c6, f6⟩, ⟨zg, cg, fg⟩⟩ := hSw
            go_simp
            try with_reducible rfl
          try simp only [Act.put, List.getElem_toArray, List.getElem_cons_zero, List.getElem_cons_succ, List.setIfInBounds_toArray, List.set_cons_zero, List.set_cons_succ]
          refine wpAnyH_take (i := 27) (v := .pointer (some ⟨w.heap.size + 1, 16, none⟩)) rfl (by kernel_rfl) (by kernel_rfl) (by kernel_rfl) (fun _ _ _ h => nomatch h.1) (Or.inl ⟨by kernel_rfl, ?ytr_27⟩) hHeld ?rtr_27
          case ytr_27 =>
            intro w hSw
            obtain ⟨⟨z2, c2, f2⟩, ⟨z3, c3, f3⟩, ⟨z4, c4, f4⟩, ⟨z5, c5, f5⟩, ⟨z6, c6, f6⟩, ⟨zg, cg, fg⟩⟩ := hSw
            go_simp
            try with_reducible rfl
          try simp only [Act.put, List.getElem_toArray, List.getElem_cons_zero, List.getElem_cons_succ, List.setIfInBounds_toArray, List.set_cons_zero, List.set_cons_succ]
          refine wpAnyH_take (i := 28) (v := .int .i64 (f 16)) rfl (by kernel_rfl) (by kernel_rfl) (by kernel_rfl) (fun _ _ _ h => nomatch h.1) (Or.inl ⟨by kernel_rfl, ?ytr_28⟩) hHeld ?rtr_28
          case ytr_28 =>
            intro w hSw
            obtain ⟨⟨z2, c2, f2⟩, ⟨z3, c3, f3⟩, ⟨z4, c4, f4⟩, ⟨z5, c5, f5⟩, ⟨z6, c6, f6⟩, ⟨zg, cg, fg⟩⟩ := hSw
            go_simp
            try with_reducible rfl
          try simp only [Act.put, List.getElem_toArray, List.getElem_cons_zero, List.getElem_cons_succ, List.setIfInBounds_toArray, List.set_cons_zero, List.set_cons_succ]
          refine wpAnyH_ready (rs := [29]) (by kernel_rfl) (by simp) ?_
          refine AllReadyH.cons (o := _) rfl (fun K hK => ?_) AllReadyH.nil
          refine step_entry rfl (.tmp 77) (.tmp 79) rfl (int_keyed Try.underlying3) Try.underlying116 zero_cell' rfl (HFL9.out.1.mod HD0.out id) HNM.out (.int .i64 (f 0)) (.int .i64 (f 0)) rfl HK.out trivial ?_
          intro st1 v1 kv1 hO1
          refine hK.out _ _ (HSX.out hHeld kv1 (fun _ e => (.inl e))) (fun hHeld => ?_)
          clear hK K
          try simp only [Act.put, List.getElem_toArray, List.getElem_cons_zero, List.getElem_cons_succ, List.setIfInBounds_toArray, List.set_cons_zero, List.set_cons_succ]
          refine wpAnyH_take (i := 30) (v := goInt st1) rfl (by kernel_rfl) (by kernel_rfl) (by kernel_rfl) (fun _ _ _ h => nomatch h.1) (Or.inl ⟨by kernel_rfl, ?ytr_30⟩) hHeld ?rtr_30
          case ytr_30 =>
            intro w hSw
            obtain _ := hSw
            go_simp
            try with_reducible rfl
          try simp only [Act.put, List.getElem_toArray, List.getElem_cons_zero, List.getElem_cons_succ, List.setIfInBounds_toArray, List.set_cons_zero, List.set_cons_succ]
          refine wpAnyH_ready (rs := [31]) (by kernel_rfl) (by simp) ?_
          refine AllReadyH.cons (o := _) rfl (fun K hK => ?_) AllReadyH.nil
          refine step_store rfl (.tmp 77) (.tmp 104) (.tmp 98) rfl rfl rfl hO1 ?_
          intro y1 hy1 ky1
          refine hK.out _ _ (HSX.out hHeld ky1 (fun _ e => (.inl e))) (fun hHeld => ?_)
          clear hK K
          try simp only [Act.put, List.getElem_toArray, List.getElem_cons_zero, List.getElem_cons_succ]
          have HE1 : Hid (Mod (· = q2.ml) w10.drew y1) := Lib.hid (kv1.trans ky1)
          have HY1 := Lib.hid hy1
          clear kv1 ky1 hy1 hO1
          refine wpAnyH_ready (rs := [32]) (by kernel_rfl) (by simp) ?_
          refine AllReadyH.cons (o := _) rfl (fun K hK => ?_) AllReadyH.nil
          refine step_entry rfl (.tmp 83) (.tmp 85) rfl (int_keyed Try.underlying3) Try.underlying116 zero_cell' rfl ((HFH9.out.1.mod HD0.out id).mod HE1.out (by omega)) HNM.out (.int .i64 (f 0)) (.int .i64 (f 0)) rfl HK.out trivial ?_
          intro st2 v2 kv2 hO2
          refine hK.out _ _ (HSX.out hHeld kv2 (fun _ e => (.inr (.inl e)))) (fun hHeld => ?_)
          clear hK K
          try simp only [Act.put, List.getElem_toArray, List.getElem_cons_zero, List.getElem_cons_succ, List.setIfInBounds_toArray, List.set_cons_zero, List.set_cons_succ]
          refine wpAnyH_take (i := 33) (v := goInt st2) rfl (by kernel_rfl) (by kernel_rfl) (by kernel_rfl) (fun _ _ _ h => nomatch h.1) (Or.inl ⟨by kernel_rfl, ?ytr_33⟩) hHeld ?rtr_33
          case ytr_33 =>
            intro w hSw
            obtain _ := hSw
            go_simp
            try with_reducible rfl
          try simp only [Act.put, List.getElem_toArray, List.getElem_cons_zero, List.getElem_cons_succ, List.setIfInBounds_toArray, List.set_cons_zero, List.set_cons_succ]
          refine wpAnyH_ready (rs := [34]) (by kernel_rfl) (by simp) ?_
          refine AllReadyH.cons (o := _) rfl (fun K hK => ?_) AllReadyH.nil
          refine step_store rfl (.tmp 83) (.tmp 106) (.tmp 99) rfl rfl rfl hO2 ?_
          intro y2 hy2 ky2
          refine hK.out _ _ (HSX.out hHeld ky2 (fun _ e => (.inr (.inl e)))) (fun hHeld => ?_)
          clear hK K
          try simp only [Act.put, List.getElem_toArray, List.getElem_cons_zero, List.getElem_cons_succ]
          have HK2 : Hid (Mod (· = q2.mh) y1 y2) := Lib.hid (kv2.trans ky2)
          have HY2 := Lib.hid hy2
          clear kv2 ky2 hy2 hO2
          refine wpAnyH_ready (rs := [35]) (by kernel_rfl) (by simp) ?_
          refine AllReadyH.cons (o := _) rfl (fun K hK => ?_) AllReadyH.nil
          refine step_entry rfl (.tmp 89) (.tmp 91) rfl (int_keyed Try.underlying3) Try.underlying117 zero_box' rfl (((HFB9.out.1.mod HD0.out id).mod HE1.out (by omega)).mod HK2.out (by omega)) HNM.out (.int .i64 (f 0)) (.int .i64 (f 0)) rfl HK.out trivial ?_
          intro st3 v3 kv3 hO3
          refine hK.out _ _ (HSX.out hHeld kv3 (fun _ e => (.inr (.inr (.inl e))))) (fun hHeld => ?_)
          clear hK K
          try simp only [Act.put, List.getElem_toArray, List.getElem_cons_zero, List.getElem_cons_succ, List.setIfInBounds_toArray, List.set_cons_zero, List.set_cons_succ]
          refine wpAnyH_take (i := 36) (v := goInt st3) rfl (by kernel_rfl) (by kernel_rfl) (by kernel_rfl) (fun _ _ _ h => nomatch h.1) (Or.inl ⟨by kernel_rfl, ?ytr_36⟩) hHeld ?rtr_36
          case ytr_36 =>
            intro w hSw
            obtain _ := hSw
            go_simp
            try with_reducible rfl
          try simp only [Act.put, List.getElem_toArray, List.getElem_cons_zero, List.getElem_cons_succ, List.setIfInBounds_toArray, List.set_cons_zero, List.set_cons_succ]
          refine wpAnyH_ready (rs := [37]) (by kernel_rfl) (by simp) ?_
          refine AllReadyH.cons (o := _) rfl (fun K hK => ?_) AllReadyH.nil
          refine step_store rfl (.tmp 89) (.tmp 108) (.tmp 100) rfl rfl rfl hO3 ?_
          intro y3 hy3 ky3
          refine hK.out _ _ (HSX.out hHeld ky3 (fun _ e => (.inr (.inr (.inl e))))) (fun hHeld => ?_)
          clear hK K
          try simp only [Act.put, List.getElem_toArray, List.getElem_cons_zero, List.getElem_cons_succ]
          have HK3 : Hid (Mod (· = q2.mb) y2 y3) := Lib.hid (kv3.trans ky3)
          have HY3 := Lib.hid hy3
          clear kv3 ky3 hy3 hO3
          refine wpAnyH_ready (rs := [38]) (by kernel_rfl) (by simp) ?_
          refine AllReadyH.cons (o := _) rfl (fun K hK => ?_) AllReadyH.nil
          refine step_entry rfl (.tmp 95) (.tmp 97) rfl (int_keyed Try.underlying3) Try.underlying118 zero_int' rfl ((((HFT9.out.1.mod HD0.out id).mod HE1.out (by omega)).mod HK2.out (by omega)).mod HK3.out (by omega)) HNM.out (.int .i64 (f 0)) (.int .i64 (f 0)) rfl HK.out trivial ?_
          intro st4 v4 kv4 hO4
          refine hK.out _ _ (HSX.out hHeld kv4 (fun _ e => (.inr (.inr (.inr e))))) (fun hHeld => ?_)
          clear hK K
          try simp only [Act.put, List.getElem_toArray, List.getElem_cons_zero, List.getElem_cons_succ, List.setIfInBounds_toArray, List.set_cons_zero, List.set_cons_succ]
          refine wpAnyH_take (i := 39) (v := goInt st4) rfl (by kernel_rfl) (by kernel_rfl) (by kernel_rfl) (fun _ _ _ h => nomatch h.1) (Or.inl ⟨by kernel_rfl, ?ytr_39⟩) hHeld ?rtr_39
          case ytr_39 =>
            intro w hSw
            obtain _ := hSw
            go_simp
            try with_reducible rfl
          try simp only [Act.put, List.getElem_toArray, List.getElem_cons_zero, List.getElem_cons_succ, List.setIfInBounds_toArray, List.set_cons_zero, List.set_cons_succ]
          refine wpAnyH_ready (rs := [40]) (by kernel_rfl) (by simp) ?_
          refine AllReadyH.cons (o := _) rfl (fun K hK => ?_) AllReadyH.nil
          refine step_store rfl (.tmp 95) (.tmp 110) (.tmp 102) rfl rfl rfl hO4 ?_
          intro y4 hy4 ky4
          refine hK.out _ _ (HSX.out hHeld ky4 (fun _ e => (.inr (.inr (.inr e))))) (fun hHeld => ?_)
          clear hK K
          try simp only [Act.put, List.getElem_toArray, List.getElem_cons_zero, List.getElem_cons_succ]
          have HK4 : Hid (Mod (· = q2.mt) y3 y4) := Lib.hid (kv4.trans ky4)
          have HY4 := Lib.hid hy4
          clear kv4 ky4 hy4 hO4
          refine wpAnyH_done (by kernel_rfl) ?_ _
          clear hHeld
          refine ⟨rfl, ?_⟩
          try skip
          have hq1 := vi_put HFL9.out.2 HY1.out rfl (e0 := f.en) (Fm := fun e => cv e.bx.lo) (by rw [HB.out]; rfl)
          have hq2 := vi_put HFH9.out.2 HY2.out rfl (e0 := f.en) (Fm := fun e => cv e.bx.hi) (by rw [HB.out]; rfl)
          have hq3 := vi_put HFB9.out.2 HY3.out rfl (e0 := f.en) (Fm := fun e => e.bx.v) (by rw [HB.out]; rfl)
          have hq4 := vi_put HFT9.out.2 HY4.out rfl (e0 := f.en) (Fm := fun e => .int .i64 e.tm) rfl
          have HGF := Lib.hid ((HG10.out.modT HD0.out (fun _ e => e.elim)).put4 HE1.out hq1 HK2.out hq2 HK3.out hq3 HK4.out hq4)
          have HMF : Hid (Mod (fun x => x = q2.ml ∨ x = q2.mh ∨ x = q2.mb ∨ x = q2.mt) w10 y4) := Lib.hid ((((HD0.out.mono fun _ _ e => e.elim).trans (HE1.out.mono fun _ _ e => .inl e)).trans (HK2.out.mono fun _ _ e => .inr (.inl e))).trans (HK3.out.mono fun _ _ e => .inr (.inr (.inl e))) |>.trans (HK4.out.mono fun _ _ e => .inr (.inr (.inr e))))
          clear hq1 hq2 hq3 hq4 HFL9 HFH9 HFB9 HFT9 HY1 HY2 HY3 HY4 HE1 HK2 HK3 HK4

          go_wp2
          rw [HQ.out]
          have hml : ∀ x, (x = q2.ml ∨ x = q2.mh ∨ x = q2.mb ∨ x = q2.mt) → S x := fun x e => by
            rcases e with e | e | e | e
            · rw [e, HR6.out.2.1]; exact HSM.out.2.1
            · rw [e, HR6.out.2.2.1]; exact HSM.out.2.2.1
            · rw [e, HR6.out.2.2.2.1]; exact HSM.out.2.2.2.1
            · rw [e, HR6.out.2.2.2.2.1]; exact HSM.out.2.2.2.2.1
          have hD10 : D9 < w10.heap.size := by
            have := HKD.out
            rw [Array.getElem?_eq_some_iff] at this
            exact this.1
          refine ⟨by simp, .inl ⟨_, _, rfl, run_takeDeferred ?hdef, ?_⟩⟩
          case hdef =>
            rw [HMF.out.block D9 hD10 (fun e => by have := a6 _ (hml _ e); omega)]
            exact HKD.out
          have HDD : Hid ((fun k => if k = f 0 then some f.en else D1 k) = fun k => if k = f 0 then some f.en else D k) := Lib.hid (by
            funext k
            by_cases e : k = f 0
            · rw [if_pos e, if_pos e]
            · rw [if_neg e, if_neg e, HD1.out]
              exact if_neg e)
          have hgf := HGF.out
          rw [HDD.out] at hgf
          refine ⟨_, results_none rfl _ _ _, rfl, ⟨_, fun x => S x ∨ RowB q2.Fc x, ⟨(hgf.modT (mod_putObj y4 D9 _) (fun x e e' => ?dd)).more ?mm, ?ll⟩, fun x e => e.elim .inl (fun e => (HRB.out x e).imp id (fun e => by have := HM9.out.size; omega)), ?nn⟩, ?md⟩
          case dd =>
            rcases e' with e' | e'
            · have := a6 _ e'
              omega
            · obtain ⟨cs, t, fz, hcc⟩ := HG10.out.rowCells e'
              have := HKD.out
              rw [← e, hcc] at this
              cases this
          case mm => omega
          case ll =>
            rw [← HDD.out]
            refine lists_put HL1.out (by rw [HD1.out]; exact if_pos rfl) (fun k hk => HIDS.out.1 k (fun e => hk ?_)) HIDS.out.2.1 HIDS.out.2.2 (fun c hc => ?_)
            · rw [HD1.out]
              show (if k = f 0 then none else D k) = none
              rw [e]
              split <;> rfl
            · rw [HL10.out c hc, show f.en.bx.cells = b.cells by rw [HB.out]; rfl]
              by_cases hcm : c ∈ b.cells
              · rw [if_pos hcm, (cells_nodup b).count, if_pos hcm]
                rfl
              · rw [if_neg hcm, List.count_eq_zero_of_not_mem hcm]
                simp
          case nn =>
            have h1 : D1 (f 0) = none := by rw [HD1.out]; exact if_pos rfl
            have h2 := HR6.out.2.2.2.2.2
            have h3 := HN8.out
            show (if (D1 (f 0)).isSome = true then q2.n else q2.n + 1) = _
            rw [h1, h2, h3]
            cases hD : D (f 0) with
            | none => rfl
            | some e =>
              obtain ⟨Fq, hq1, hq2⟩ := HH.out.raw.box
              have := mapV_pos hq1 (k := .int .i64 (f 0)) trivial ((congrArg Option.isSome (hq2 (f 0))).trans (by simp only [hD]; rfl))
              simp only [Option.isSome_some, Option.isSome_none, if_true]
              show q.n - 1 + 1 = q.n
              omega
          case md =>
            have := HM9.out.size
            exact ((HM9.out.trans HM10.out).trans (HMF.out.mono fun x _ e => hml x e)).trans2 (mod_putObj y4 D9 _) (fun b hb e => by omega)
        case body =>
          rintro l pre x a' W hl _ hI ⟨Bx, hBx, hbx, rfl⟩ hpl
          obtain ⟨⟨q', hG6, hL6, ⟨r1, r2, r3, r4, r5, r6⟩, hRB⟩, ⟨hP2, hP3, hP4, hP5, hP6⟩, ⟨a1, a2, a3, a4, a5, a6⟩, hM6⟩ := hI
          have HR6 : Hid (q'.mc = q1.mc ∧ q'.ml = q1.ml ∧ q'.mh = q1.mh ∧ q'.mb = q1.mb ∧ q'.mt = q1.mt ∧ q'.n = q1.n) := Lib.hid ⟨r1, r2, r3, r4, r5, r6⟩
          clear r1 r2 r3 r4 r5 r6
          have HBX := Lib.hid hbx
          have HG := Lib.hid hG6
          have HL6 := Lib.hid hL6
          have HRB := Lib.hid hRB
          have HPP := Lib.hid (And.intro hP2 (And.intro hP3 (And.intro hP4 (And.intro hP5 hP6))))
          have HM6 := Lib.hid hM6
          clear hG6 hL6 hP2 hP3 hP4 hP5 hP6 hM6 hbx hRB
          have hxc : clOk x.1 := cells_ok (b := b) x.2
          have HPL : Hid (pre.length < b.cells.length) := Lib.hid hpl
          have HCL := Lib.hid (cells_len b)
          clear hpl
          simp only [hfr, List.setIfInBounds_toArray, List.set_cons_succ, List.set_cons_zero, cv]
          gi_wp2
          refine region_inRound_any (by kernel_rfl) (by kernel_rfl) (fun ⟨_, _, h⟩ => h) ?_
          have hd0 : Below W.heap.size W W.drew := ext_drew (Below.refl _ _)
          refine any_held_tailA (fun w' => Blk w' w.heap.size #[.pointer (some ⟨g, 0, none⟩)] ∧ Blk w' (w.heap.size + 1) #[.int .i64 (f 0), .int .i64 (f 1), .int .i64 (f 2), .int .i64 (f 3), .int .i64 (f 4), .int .i64 (f 5), .int .i64 (f 6), .int .i64 (f 7), .int .i64 (f 8), .int .i64 (f 9), .int .i64 (f 10), .int .i64 (f 11), .int .i64 (f 12), .int .i64 (f 13), .int .i64 (f 14), .int .i64 (f 15), .int .i64 (f 16)] ∧ Blk w' Bx #[.int .i64 x.1.1, .int .i64 x.1.2.1, .int .i64 x.1.2.2] ∧ Blk w' g #[.map (some q'.mc), .map (some q'.ml), .map (some q'.mh), .map (some q'.mb), .map (some q'.mt)]) 8 (by kernel_rfl) ⟨HPP.out.1.below hd0, HPP.out.2.1.below hd0, HBX.out.below hd0, HG.out.blk.below hd0⟩ (fun hHeld => ?_)
          clear hd0
          simp only [List.take_succ_cons, List.take_zero]
          refine wpAnyH_take (i := 0) (v := .pointer (some ⟨g, 0, none⟩)) rfl (by kernel_rfl) (by kernel_rfl) (by kernel_rfl) (fun _ _ _ h => h) (Or.inl ⟨by kernel_rfl, ?ybd_0⟩) hHeld ?rbd_0
          case ybd_0 =>
            intro w hSw
            obtain ⟨⟨z2, c2, f2⟩, ⟨z3, c3, f3⟩, ⟨z6, c6, f6⟩, ⟨zg, cg, fg⟩⟩ := hSw
            go_simp
            try with_reducible rfl
          try simp only [Act.put, List.getElem_toArray, List.getElem_cons_zero, List.setIfInBounds_toArray, List.set_cons_zero, List.set_cons_succ]
          refine wpAnyH_take (i := 1) (v := .pointer (some ⟨g, 0, none⟩)) rfl (by kernel_rfl) (by kernel_rfl) (by kernel_rfl) (fun _ _ _ h => h) (Or.inl ⟨by kernel_rfl, ?ybd_1⟩) hHeld ?rbd_1
          case ybd_1 =>
            intro w hSw
            obtain ⟨⟨z2, c2, f2⟩, ⟨z3, c3, f3⟩, ⟨z6, c6, f6⟩, ⟨zg, cg, fg⟩⟩ := hSw
            go_simp
            try with_reducible rfl
          try simp only [Act.put, List.getElem_toArray, List.getElem_cons_zero, List.getElem_cons_succ, List.setIfInBounds_toArray, List.set_cons_zero, List.set_cons_succ]
          refine wpAnyH_take (i := 2) (v := .pointer (some ⟨g, 0, none⟩)) rfl (by kernel_rfl) (by kernel_rfl) (by kernel_rfl) (fun _ _ _ h => h) (Or.inl ⟨by kernel_rfl, ?ybd_2⟩) hHeld ?rbd_2
          case ybd_2 =>
            intro w hSw
            obtain ⟨⟨z2, c2, f2⟩, ⟨z3, c3, f3⟩, ⟨z6, c6, f6⟩, ⟨zg, cg, fg⟩⟩ := hSw
            go_simp
            try with_reducible rfl
          try simp only [Act.put, List.getElem_toArray, List.getElem_cons_zero, List.getElem_cons_succ, List.setIfInBounds_toArray, List.set_cons_zero, List.set_cons_succ]
          refine wpAnyH_take (i := 3) (v := .map (some q'.mc)) rfl (by kernel_rfl) (by kernel_rfl) (by kernel_rfl) (fun _ _ _ h => h) (Or.inl ⟨by kernel_rfl, ?ybd_3⟩) hHeld ?rbd_3
          case ybd_3 =>
            intro w hSw
            obtain ⟨⟨z2, c2, f2⟩, ⟨z3, c3, f3⟩, ⟨z6, c6, f6⟩, ⟨zg, cg, fg⟩⟩ := hSw
            go_simp
            try with_reducible rfl
          try simp only [Act.put, List.getElem_toArray, List.getElem_cons_zero, List.getElem_cons_succ, List.setIfInBounds_toArray, List.set_cons_zero, List.set_cons_succ]
          refine wpAnyH_take (i := 4) (v := .agg #[.int .i64 x.1.1, .int .i64 x.1.2.1, .int .i64 x.1.2.2]) rfl (by kernel_rfl) (by kernel_rfl) (by kernel_rfl) (fun _ _ _ h => h) (Or.inl ⟨by kernel_rfl, ?ybd_4⟩) hHeld ?rbd_4
          case ybd_4 =>
            intro w hSw
            obtain ⟨⟨z2, c2, f2⟩, ⟨z3, c3, f3⟩, ⟨z6, c6, f6⟩, ⟨zg, cg, fg⟩⟩ := hSw
            go_simp
            try with_reducible rfl
          try simp only [Act.put, List.getElem_toArray, List.getElem_cons_zero, List.getElem_cons_succ, List.setIfInBounds_toArray, List.set_cons_zero, List.set_cons_succ]
          refine wpAnyH_take (i := 5) (v := .pointer (some ⟨w.heap.size + 1, 0, none⟩)) rfl (by kernel_rfl) (by kernel_rfl) (by kernel_rfl) (fun _ _ _ h => h) (Or.inl ⟨by kernel_rfl, ?ybd_5⟩) hHeld ?rbd_5
          case ybd_5 =>
            intro w hSw
            obtain ⟨⟨z2, c2, f2⟩, ⟨z3, c3, f3⟩, ⟨z6, c6, f6⟩, ⟨zg, cg, fg⟩⟩ := hSw
            go_simp
            try with_reducible rfl
          try simp only [Act.put, List.getElem_toArray, List.getElem_cons_zero, List.getElem_cons_succ, List.setIfInBounds_toArray, List.set_cons_zero, List.set_cons_succ]
          refine wpAnyH_take (i := 6) (v := .int .i64 (f 0)) rfl (by kernel_rfl) (by kernel_rfl) (by kernel_rfl) (fun _ _ _ h => h) (Or.inl ⟨by kernel_rfl, ?ybd_6⟩) hHeld ?rbd_6
          case ybd_6 =>
            intro w hSw
            obtain ⟨⟨z2, c2, f2⟩, ⟨z3, c3, f3⟩, ⟨z6, c6, f6⟩, ⟨zg, cg, fg⟩⟩ := hSw
            go_simp
            try with_reducible rfl
          try simp only [Act.put, List.getElem_toArray, List.getElem_cons_zero, List.getElem_cons_succ, List.setIfInBounds_toArray, List.set_cons_zero, List.set_cons_succ]
          refine wpAnyH_ready (rs := [7]) (by kernel_rfl) (by simp) ?_
          refine AllReadyH.cons (o := _) rfl (fun K hK => ?_) AllReadyH.nil
          go_simp
          try dsimp only
          refine hK.out _ _ ⟨hHeld.1.below (balloc _ _), hHeld.2.1.below (balloc _ _), hHeld.2.2.1.below (balloc _ _), hHeld.2.2.2.below (balloc _ _)⟩ (fun hHeld => ?_)
          clear hK K
          refine any_freshA ?_ hHeld
          clear hHeld
          rintro w7 hb7 hHeld
          try simp only [Act.put, List.getElem_toArray, List.getElem_cons_zero, List.getElem_cons_succ, List.setIfInBounds_toArray, List.set_cons_zero, List.set_cons_succ]
          have hv7 : Below W.heap.size W w7 := (by repeat (with_reducible (first | exact Below.refl _ _ | assumption | apply ext_drew | apply ext_drewN | apply ext_alloc | apply ext_more | (refine ext_setCell ?_ (by first | assumption | (simp <;> omega)) _) | (refine ext_below ?_ (by assumption)))))
          have hpb7 : Blk w7 W.heap.size #[.int .i64 (f 0)] := Blk.below (by repeat (with_reducible (first | assumption | (apply Blk.at; simp; done) | apply Blk.alloc | apply Blk.drew | apply Blk.drewN | apply Blk.more | apply Blk.put | (apply Blk.far; focus (first | assumption | (apply Ne.symm; assumption) | (simp; done) | (simp <;> omega)))))) hb7
          have HV7 := Lib.hid hv7
          have HPB7 := Lib.hid hpb7
          clear hb7 hv7 hpb7
          refine wpAnyH_done (by kernel_rfl) ?_ _
          clear hHeld
          simp only [TailA]
          refine wpAny_of_held (S := fun _ => True) _ _ _ _ ?_
          have hHeld : True := trivial
          obtain ⟨v, hv⟩ : ∃ v, v = (q'.Fc (ck x.1)).getD (.slice none 0 0) := ⟨_, rfl⟩
          have HVV := Lib.hid hv
          have hvr : W.ownsRow 0 3 1 v (q'.L x.1).length (ints (q'.L x.1)) := by
            rcases HG.out.rows.row _ hxc with ⟨e1, e2⟩ | ⟨v', e1, e2⟩
            · rw [hv, e1, e2]
              exact ⟨by simp [ints], .inl ⟨rfl, rfl⟩⟩
            · rw [hv, e1]
              exact e2
          have hvo : ∀ b, v.ownBlock = some b → ∃ v0, q'.Fc (ck x.1) = some v0 ∧ v0.ownBlock = some b := by
            intro b hb
            rw [hv] at hb
            cases hF : q'.Fc (ck x.1) with
            | none => rw [hF] at hb; cases hb
            | some v' => rw [hF] at hb; exact ⟨v', rfl, hb⟩
          have hlen : (q'.L x.1).length < 4000000 := by
            rw [HL6.out _ hxc, List.length_append, List.length_replicate]
            have h1 := HL1.out.len _ hxc
            have h2 := List.count_le_length (a := x.1) (l := pre.map (·.1))
            rw [List.length_map] at h2
            have := HPL.out
            have := HCL.out
            omega
          have HVR := Lib.hid hvr
          have HVO := Lib.hid hvo
          have HLN := Lib.hid hlen
          have HNM : Hid (m + 5000000 + (pre.map (·.1)).length < maxLen) := Lib.hid (by have := HPL.out; have := HCL.out; rw [List.length_map]; unfold maxLen; omega)
          clear hv hvr hvo hlen
          refine wpAnyH_ready (rs := [8]) (by kernel_rfl) (by simp) ?_
          refine AllReadyH.cons (o := _) rfl (fun K hK => ?_) AllReadyH.nil
          refine step_entry rfl (.tmp 65) (.tmp 66) rfl cell_keyed Try.underlying115 zero_ints' rfl (HG.out.cells.below HV7.out) HNM.out (cv x.1) (ck x.1) rfl (key_cell hxc) trivial ?_
          intro st8 w8 k8 hO8
          refine hK.out _ _ trivial (fun hHeld => ?_)
          clear hK K
          try simp only [Act.put, List.getElem_toArray, List.getElem_cons_zero, List.getElem_cons_succ, List.setIfInBounds_toArray, List.set_cons_zero, List.set_cons_succ]
          rw [← HVV.out]
          have HO8 := Lib.hid hO8
          have HK8 := Lib.hid k8
          clear k8 hO8
          refine wpAnyH_take (i := 9) (v := v) rfl (by kernel_rfl) (by kernel_rfl) (by kernel_rfl) (fun _ _ _ h => h) (Or.inl ⟨by kernel_rfl, ?ybe_9⟩) hHeld ?rbe_9
          case ybe_9 =>
            intro w hSw
            obtain _ := hSw
            go_simp
            try with_reducible rfl
          try simp only [Act.put, List.getElem_toArray, List.getElem_cons_zero, List.getElem_cons_succ, List.setIfInBounds_toArray, List.set_cons_zero, List.set_cons_succ]
          refine wpAnyH_take (i := 11) (v := goInt st8) rfl (by kernel_rfl) (by kernel_rfl) (by kernel_rfl) (fun _ _ _ h => h) (Or.inl ⟨by kernel_rfl, ?ybe_11⟩) hHeld ?rbe_11
          case ybe_11 =>
            intro w hSw
            obtain _ := hSw
            go_simp
            try with_reducible rfl
          try simp only [Act.put, List.getElem_toArray, List.getElem_cons_zero, List.getElem_cons_succ, List.setIfInBounds_toArray, List.set_cons_zero, List.set_cons_succ]
          have hne : ∀ b, v.ownBlock = some b → b ≠ g ∧ b ≠ q'.mc ∧ b ≠ q'.ml ∧ b ≠ q'.mh ∧ b ≠ q'.mb ∧ b ≠ q'.mt := fun b hb => by
            obtain ⟨v0, e1, e2⟩ := HVO.out b hb
            exact HG.out.rne _ _ _ hxc e1 e2
          have HNE := Lib.hid hne
          clear hne
          have HMC : Hid (q'.mc < W.heap.size) := Lib.hid HG.out.cells.lt
          refine wpAnyH_ready (rs := [10]) (by kernel_rfl) (by simp) ?_
          refine AllReadyH.cons (o := _) rfl (fun K hK => ?_) AllReadyH.nil
          refine step_num rfl (.tmp 67) (.tmp 70) rfl v (q'.L x.1) rfl (row_mod (row_below HVR.out HV7.out) HK8.out (fun b hb e => (HNE.out b hb).2.1 e)) rfl (HPB7.out.mod HK8.out (fun e => by have := HMC.out; omega)) HLN.out ?_
          intro v' w10 hr10 k10 h10
          refine hK.out _ _ trivial (fun hHeld => ?_)
          clear hK K
          try simp only [Act.put, List.getElem_toArray, List.getElem_cons_zero, List.getElem_cons_succ, List.setIfInBounds_toArray, List.set_cons_zero, List.set_cons_succ]
          have HK10 := Lib.hid k10
          have HR10 := Lib.hid hr10
          have HW10 := Lib.hid h10
          clear k10 hr10 h10
          refine wpAnyH_ready (rs := [12]) (by kernel_rfl) (by simp) ?_
          refine AllReadyH.cons (o := _) rfl (fun K hK => ?_) AllReadyH.nil
          refine step_store rfl (.tmp 65) (.tmp 73) (.tmp 72) rfl rfl rfl (HO8.out.mod HK10.out (fun e => (HNE.out _ e).2.1 rfl)) ?_
          intro w12 h12 k12
          refine hK.out _ _ trivial (fun hHeld => ?_)
          clear hK K
          try simp only [Act.put, List.getElem_toArray, List.getElem_cons_zero, List.getElem_cons_succ]
          have HK12 := Lib.hid k12
          have HM12 := Lib.hid h12
          clear k12 h12
          refine wpAnyH_done (by kernel_rfl) ?_ _
          clear hHeld
          gi_wp2
          have hsz7 := HV7.out.size
          have hsz8 := HK8.out.size
          have hv' : ∀ b, v'.ownBlock = some b → (∃ v, q'.Fc (ck x.1) = some v ∧ v.ownBlock = some b) ∨ W.heap.size ≤ b := fun b hb => by
            rcases HW10.out with e | e
            · rw [e] at hb
              exact .inl (HVO.out b hb)
            · rw [e] at hb
              cases hb
              exact .inr (by omega)
          have hnmc : ∀ b, v'.ownBlock = some b → ¬ b = q'.mc := fun b hb e => by
            rcases hv' b hb with ⟨v0, e1, e2⟩ | e1
            · exact (HG.out.rne _ _ _ hxc e1 e2).2.1 e
            · have := HMC.out; omega
          have hk : Mod (fun b => b = q'.mc ∨ ∃ v, q'.Fc (ck x.1) = some v ∧ v.ownBlock = some b) W w12 := (((Mod.of_below HV7.out).trans (HK8.out.mono fun _ _ e => .inl e)).trans (HK10.out.mono fun b _ e => .inr (HVO.out b e))).trans (HK12.out.mono fun _ _ e => .inl e)
          have hAR := HG.out.addRow (v' := v') (zs := q'.L x.1 ++ [f 0]) hxc hk HM12.out (Nat.le_succ _) (row_mod HR10.out HK12.out hnmc) hv'
          have hSm : S q1.mc := HSM.out.1
          have hks : Mod (fun b => S b ∨ w9.heap.size ≤ b) W w12 := hk.mono fun b _ e => by
            rcases e with e | ⟨v0, e1, e2⟩
            · exact .inl (by rw [e, HR6.out.1]; exact hSm)
            · exact HRB.out b ⟨_, _, hxc, e1, e2⟩
          have hls := hAR.lessS (S0 := fun y => S y ∨ RowB (putF q'.Fc (ck x.1) v') y) (fun y e => by
            rcases e with e | e
            · exact .inl (.inl e)
            · rcases e.put with e | e
              · exact .inl (.inr e)
              · exact .inr e) ⟨.inl HSM.out.2.2.2.2.2, .inl (by show S q'.mc; rw [HR6.out.1]; exact hSm), .inl (by show S q'.ml; rw [HR6.out.2.1]; exact HSM.out.2.1), .inl (by show S q'.mh; rw [HR6.out.2.2.1]; exact HSM.out.2.2.1), .inl (by show S q'.mb; rw [HR6.out.2.2.2.1]; exact HSM.out.2.2.2.1), .inl (by show S q'.mt; rw [HR6.out.2.2.2.2.1]; exact HSM.out.2.2.2.2.1)⟩ (fun c v x h1 h2 h3 => .inr ⟨c, v, h1, h2, h3⟩)
          have hloc : ∀ p, w.heap.size ≤ p → p < w9.heap.size → ¬ (S p ∨ w9.heap.size ≤ p) := fun p h1 h2 e => by
            rcases e with e | e
            · have := a6 p e; omega
            · omega
          refine ⟨⟨hks.size, fun kk o hB ho hc => ?kf⟩, ⟨hks.size, fun kk hkk => hks.block kk (by have := HM6.out.size; omega) (hloc kk (by omega) (by omega))⟩, ⟨{ q' with Fc := putF q'.Fc (ck x.1) v', nc := if (q'.Fc (ck x.1)).isSome then q'.nc else q'.nc + 1, L := fun y => if y = x.1 then q'.L x.1 ++ [f 0] else q'.L y }, hls.more ?mr, ?lst, HR6.out, ?rb⟩, ⟨HPP.out.1.mod hks (hloc _ (by omega) (by omega)), HPP.out.2.1.mod hks (hloc _ (by omega) (by omega)), HPP.out.2.2.1.mod hks (hloc _ (by omega) (by omega)), HPP.out.2.2.2.1.mod hks (hloc _ (by omega) (by omega)), HPP.out.2.2.2.2.mod hks (hloc _ (by omega) (by omega))⟩, ⟨a1, a2, a3, a4, a5, a6⟩, ?md⟩
          case kf =>
            rw [hk.block kk (by rw [Array.getElem?_eq_some_iff] at ho; exact ho.1) (fun e => ?_)]
            · exact ho
            · rcases e with e | ⟨v0, e1, e2⟩
              · have := a6 _ hSm
                rw [HR6.out.1] at e
                omega
              · obtain ⟨cs, t, fz, hcc⟩ := HG.out.rowCells ⟨_, _, hxc, e1, e2⟩
                rw [ho] at hcc
                cases hcc
                cases hc
          case mr =>
            simp only [List.length_map, List.length_append, List.length_singleton]
            omega
          case lst =>
            intro c hc
            simp only [List.map_append, List.map_cons, List.map_nil, List.count_append, List.count_singleton]
            by_cases e1 : c = x.1
            · subst e1
              simp only [if_true, beq_self_eq_true]
              rw [HL6.out _ hxc, ← List.replicate_append_replicate, List.append_assoc]
              rfl
            · have e2 : (x.1 == c) = false := by simpa using fun e => e1 e.symm
              simp only [e1, if_false, e2]
              exact HL6.out _ hc
          case rb =>
            intro y hy
            rcases hy.put with e | e
            · exact HRB.out y e
            · rcases hv' y e with ⟨v0, e1, e2⟩ | e1
              · exact HRB.out y ⟨_, _, hxc, e1, e2⟩
              · have := HM6.out.size
                exact .inr (by omega)
          case md => exact HM6.out.trans2 hks (fun y hy e => e.elim id (fun e => by omega))
end Go.Proofs.Ytefhmbmbhiehdaa
