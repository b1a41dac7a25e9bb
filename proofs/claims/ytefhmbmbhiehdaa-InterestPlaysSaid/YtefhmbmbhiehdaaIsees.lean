/- The contract of (*interest.Grid).Sees. Conditions: none but that there is not too much. -/
import Derived.Deep.CutRange
import Derived.Deep.CutBlock
import Derived.Test.YtefhmbmbhiehdaaIlook
import Derived.Test.YtefhmbmbhiehdaaBoxes2
import Derived.Test.YtefhmbmbhiehdaaIsort
import Derived.Test.YtefhmbmbhiehdaaMapR
import Derived.Maps.OwnSet
import Derived.Laws.EntriesVeiled
namespace Go.Proofs.Ytefhmbmbhiehdaa
open Go Go.Maps Go.RowKit Go.BigFrame Go.ChangeShapes Go.WideShapes Go.Shelf
def ISeesPost (w : World) (D : Int → Option En) (y : Ey) (e : Ending) (w' : World) : Prop :=
  ∃ v zs, e = .returned v ∧ w'.ownsRow 0 3 1 v (srt zs).length (ints (srt zs)) ∧ zs.Nodup ∧ (∀ id, id ∈ zs ↔ 0 ≤ y.far ∧ eyeD y D id = true) ∧ zs.length ≤ 1000 ∧ Below w.heap.size w w'
theorem fat_y (y : Ey) (z : Bx) (hz : y.bx = z) (w : World) : Calls Try.prog 52 #[.agg #[.int .i64 y.x, .int .i64 y.y, .int .i64 y.z, .int .i64 y.x, .int .i64 y.y, .int .i64 y.z], .int .i64 y.far] w fun e w' => e = .returned (.agg #[.int .i64 z.a1, .int .i64 z.a2, .int .i64 z.a3, .int .i64 z.b1, .int .i64 z.b2, .int .i64 z.b3]) ∧ Below w.heap.size w w' := by
  subst hz
  exact fat_c _ _ _ _ _ _ _ w
theorem wf_bd {x : Int} (h : (Lit.int .i64 x).wf = true) : -9223372036854775808 ≤ x ∧ x ≤ 9223372036854775807 := by
  simp [Lit.wf, IntKind.min, IntKind.max, IntKind.signed, IntKind.bits] at h
  exact h
theorem any_quiet_allI {P : Program} {Q : Exit → Act → World → Prop} {a : Act} {w : World} {l : List Oper} (hB : Region.lexB .any l.toArray = true)
    (h : wpQuiet P l.toArray (fun w' => ∃ m, w' = more w m) (fun a' => ∀ w', (∃ m, w' = more w m) → Q .normal a' w') l a) : wpAny P .any l.toArray Q l.toArray.size (Array.replicate l.toArray.size false) a { w with drawn := w.drawn + 1 } := by
  simp only [Region.lexB, Bool.and_eq_true] at hB
  refine wpAny_of_quiet (Q := fun a' => ∀ w', (∃ m, w' = more w m) → Q .normal a' w') (fun _ w' hw' h => h w' hw') _ _ _ _ (more_drew w) ?_
  have := wpAnyQ_lex (C := fun w' => ∃ m, w' = more w m) (md := .any) hB.1 l 0 (Array.replicate l.toArray.size false) a (by simp) (by simpa using hB.2) h
  simpa using this
theorem row_zeroI {w : World} {B0 size n : Nat} {e : TypeId} {v : Value} {xs : List Value} (h : w.ownsRow B0 e size v n xs) : w.ownsRow 0 e size v n xs := ⟨h.1, h.2.imp _root_.id (fun ⟨g, cap, cur, h1, _, h3⟩ => ⟨g, cap, cur, h1, Nat.zero_le _, h3⟩)⟩
/-- the variables of Sees -/
structure SeesL (g p2 p3 p5 p6 p7 p8 sb : Nat) (y : Ey) (z : Bx) (w : World) : Prop where
  b2 : Blk w p2 #[.pointer (some ⟨g, 0, none⟩)]
  b3 : Blk w p3 #[.int .i64 y.x, .int .i64 y.y, .int .i64 y.z, .int .i64 y.far, .int .i64 y.teams]
  b5 : Blk w p5 #[.int .i64 z.a1, .int .i64 z.a2, .int .i64 z.a3, .int .i64 z.b1, .int .i64 z.b2, .int .i64 z.b3]
  b6 : Blk w p6 #[.map (some sb)]
  b7 : Blk w p7 #[.func (.func 53) #[] #[.pointer (some ⟨p6, 0, none⟩), .pointer (some ⟨p2, 0, none⟩), .pointer (some ⟨p3, 0, none⟩), .pointer (some ⟨p5, 0, none⟩)]]
  b8 : Blk w p8 #[.int .i64 (kc z.a1), .int .i64 (kc z.a2), .int .i64 (kc z.a3)]
  b9 : Blk w (p8 + 1) #[.int .i64 (kc z.b1), .int .i64 (kc z.b2), .int .i64 (kc z.b3)]
/-- where they lie -/
def SeesO (w w8 : World) (p5 p6 p7 p8 sb : Nat) : Prop := w.heap.size + 1 < p5 ∧ p5 < sb ∧ sb < p6 ∧ p6 < p7 ∧ p7 < p8 ∧ p8 + 1 < w8.heap.size
theorem SeesL.mod {g p2 p3 p5 p6 p7 p8 sb : Nat} {y : Ey} {z : Bx} {w w' : World} {T : Nat → Prop} (h : SeesL g p2 p3 p5 p6 p7 p8 sb y z w) (k : Mod T w w') (h2 : ¬ T p2) (h3 : ¬ T p3) (h5 : ¬ T p5) (h6 : ¬ T p6) (h7 : ¬ T p7) (h8 : ¬ T p8) (h9 : ¬ T (p8 + 1)) : SeesL g p2 p3 p5 p6 p7 p8 sb y z w' :=
  ⟨h.b2.mod k h2, h.b3.mod k h3, h.b5.mod k h5, h.b6.mod k h6, h.b7.mod k h7, h.b8.mod k h8, h.b9.mod k h9⟩
theorem SeesL.below {g p2 p3 p5 p6 p7 p8 sb : Nat} {y : Ey} {z : Bx} {w w' : World} (h : SeesL g p2 p3 p5 p6 p7 p8 sb y z w) (k : Below w.heap.size w w') : SeesL g p2 p3 p5 p6 p7 p8 sb y z w' := h.mod (T := fun _ => False) (Mod.of_below k) id id id id id id id
/-- between two rounds of Sees' loop over cells -/
def SeesI (w9 : World) (g p2 p3 p5 p6 p7 p8 sb A : Nat) (D : Int → Option En) (y : Ey) (z : Bx) (q : GP) (pre : List Cl) (W : World) : Prop :=
  SV W sb (1000 * pre.length) (fun k => eyeD y D k && pre.any fun c => decide (k ∈ q.L c)) ∧ SeesL g p2 p3 p5 p6 p7 p8 sb y z W ∧ (p2 < p3 ∧ p3 < p5 ∧ p5 < sb ∧ sb < p6 ∧ p6 < p7 ∧ p7 < p8 ∧ p8 + 1 < A ∧ A + 1 < w9.heap.size) ∧ Mod (· = sb) w9 W
theorem SeesI.mod {w9 W W' : World} {g p2 p3 p5 p6 p7 p8 sb A : Nat} {D : Int → Option En} {y : Ey} {z : Bx} {q : GP} {pre : List Cl} {T : Nat → Prop} (h : SeesI w9 g p2 p3 p5 p6 p7 p8 sb A D y z q pre W) (k : Mod T W W') (hT : ∀ x, T x → w9.heap.size ≤ x) : SeesI w9 g p2 p3 p5 p6 p7 p8 sb A D y z q pre W' := by
  obtain ⟨h1, h2, ⟨a1, a2, a3, a4, a5, a6, a7, a8⟩, h4⟩ := h
  have n : ∀ p, p < w9.heap.size → ¬ T p := fun p hp e => by have := hT p e; omega
  exact ⟨h1.mod k (n _ (by omega)), h2.mod k (n _ (by omega)) (n _ (by omega)) (n _ (by omega)) (n _ (by omega)) (n _ (by omega)) (n _ (by omega)) (n _ (by omega)), ⟨a1, a2, a3, a4, a5, a6, a7, a8⟩, h4.trans2 k (fun x hx e => by have := hT x e; omega)⟩
set_option maxRecDepth 100000 in
set_option maxHeartbeats 16000000 in
theorem isees_c (w : World) (g m : Nat) (D : Int → Option En) (S X : Nat → Prop) (q : GP) (y : Ey) (ids : List Int) (h : GR w g m D S X q) (hm : m ≤ 1000000000) (hi : ∀ k, D k ≠ none → k ∈ ids) (hib : ∀ k ∈ ids, -9223372036854775808 ≤ k ∧ k ≤ 9223372036854775807) (hl : ids.length ≤ 1000) (hok : ∀ id e, D id = some e → e.bx.ok) :
    Calls Try.prog 23 #[.pointer (some ⟨g, 0, none⟩), .agg #[.int .i64 y.x, .int .i64 y.y, .int .i64 y.z, .int .i64 y.far, .int .i64 y.teams]] w (ISeesPost w D y) := by
  have HH := Lib.hid h
  have HIDS := Lib.hid (And.intro hi (And.intro hib (And.intro hl hok)))
  obtain ⟨z, hz⟩ : ∃ z, y.bx = z := ⟨_, rfl⟩
  have HZ := Lib.hid hz
  clear h hi hib hl hok hz
  refine (callsIn_wide (n := 9)).1 ?_
  refine callsIn_of_wp_marks Try.func23 rfl trivial ?_ rfl
  simp only [Try.ntmps23, List.size_toArray, List.length_cons, List.length_nil, Nat.reduceAdd, Nat.reduceSub, Array.replicate_succ, Array.replicate_zero, List.push_toArray, List.append_toArray, List.nil_append, List.cons_append]
  refine wpIn_wide.2 ?_
  obtain ⟨QQ, hQQ⟩ : ∃ QQ, QQ = bodyPostM Fence.wide 9 Try.prog Try.f23 (ISeesPost w D y) := ⟨_, rfl⟩
  rw [← hQQ]
  have HQ := Lib.hid hQQ
  clear hQQ
  go_upto_region 1 with fail
  refine wp_fresh ?_
  rintro w1 hb1
  have HP2 : Hid (Blk w1 w.heap.size #[.pointer (some ⟨g, 0, none⟩)]) := Lib.hid (Blk.below (by repeat (with_reducible (first | assumption | (apply Blk.at; simp; done) | apply Blk.alloc | apply Blk.drew | apply Blk.drewN | apply Blk.more | apply Blk.put | (apply Blk.far; focus (first | assumption | (apply Ne.symm; assumption) | (simp; done) | (simp <;> omega)))))) hb1)
  have HP3 : Hid (Blk w1 (w.heap.size + 1) #[.int .i64 y.x, .int .i64 y.y, .int .i64 y.z, .int .i64 y.far, .int .i64 y.teams]) := Lib.hid (Blk.below (by repeat (with_reducible (first | assumption | (apply Blk.at; simp; done) | apply Blk.alloc | apply Blk.drew | apply Blk.drewN | apply Blk.more | apply Blk.put | (apply Blk.far; focus (first | assumption | (apply Ne.symm; assumption) | (simp; done) | (simp <;> omega)))))) hb1)
  have hv1 : Below w.heap.size w w1 := (by repeat (with_reducible (first | exact Below.refl _ _ | assumption | apply ext_drew | apply ext_drewN | apply ext_alloc | apply ext_more | (refine ext_setCell ?_ (by first | assumption | (simp <;> omega)) _) | (refine ext_below ?_ (by assumption)))))
  have HG1 := Lib.hid (HH.out.raw.below hv1)
  have HV1 := Lib.hid hv1
  clear hb1 hv1
  obtain ⟨z3, c3, f3⟩ := id HP3.out
  by_cases hfar : y.far < 0
  · have dk : decide (y.far < 0) = true := decide_eq_true hfar
    go_wp2
    rw [HQ.out]
    refine ⟨_, results_tmp rfl _ _ _, _, [], rfl, ⟨by rw [srt_nil]; rfl, .inl ⟨rfl, by rw [srt_nil]; rfl⟩⟩, List.nodup_nil, fun id => ⟨fun h => (by cases h), fun h => absurd h.1 (by omega)⟩, Nat.zero_le _, HV1.out⟩
  have dk : decide (y.far < 0) = false := decide_eq_false hfar
  have HFAR : Hid (0 ≤ y.far) := Lib.hid (by omega)
  go_wp2_with fail
  refine (fat_y y z HZ.out _).mono ?_
  rintro e1 w2 ⟨rfl, hb2⟩
  have HV2 : Hid (Below w.heap.size w w2) := Lib.hid (HV1.out.trans (hb2.mono HV1.out.size))
  have HP22 := Lib.hid (HP2.out.below hb2)
  have HP32 := Lib.hid (HP3.out.below hb2)
  have HG2 := Lib.hid (HG1.out.below hb2)
  clear hb2 z3 c3 f3 HP2 HP3 HG1 HV1 dk hfar
  obtain ⟨p5, hp5⟩ : ∃ p5, p5 = w2.heap.size := ⟨_, rfl⟩
  have HN5 : Hid (w.heap.size + 1 < p5) := Lib.hid (by rw [hp5]; exact HP32.out.lt)
  go_upto_region 4 with fail
  refine wp_fresh ?_
  rintro w3 hb3
  have HP5 : Hid (Blk w3 w2.heap.size #[.int .i64 z.a1, .int .i64 z.a2, .int .i64 z.a3, .int .i64 z.b1, .int .i64 z.b2, .int .i64 z.b3]) := Lib.hid (Blk.below (by
    refine blk_as (cs := _) (by repeat (with_reducible (first | assumption | (apply Blk.at; simp; done) | apply Blk.alloc | apply Blk.drew | apply Blk.drewN | apply Blk.more | apply Blk.put | (apply Blk.far; focus (first | assumption | (apply Ne.symm; assumption) | (simp; done) | (simp <;> omega)))))) ?_
    simp only []) hb3)
  have hv3 : Below w2.heap.size w2 w3 := (by repeat (with_reducible (first | exact Below.refl _ _ | assumption | apply ext_drew | apply ext_drewN | apply ext_alloc | apply ext_more | (refine ext_setCell ?_ (by first | assumption | (simp <;> omega)) _) | (refine ext_below ?_ (by assumption)))))
  have HV3 : Hid (Below w.heap.size w w3) := Lib.hid (HV2.out.trans (hv3.mono HV2.out.size))
  have HP23 := Lib.hid (HP22.out.below hv3)
  have HP33 := Lib.hid (HP32.out.below hv3)
  have HG3 := Lib.hid (HG2.out.below hv3)
  rw [← hp5] at HP5
  rw [← hp5]
  clear hb3 hv3 HP22 HP32 HG2 HV2 hp5
  obtain ⟨sb, hsb⟩ : ∃ sb, sb = w3.heap.size := ⟨_, rfl⟩
  have HNS : Hid (p5 < sb) := Lib.hid (by rw [hsb]; exact HP5.out.lt)
  have hmk := @run_makeMap Try.prog
  go_upto_region 5 with fail
  clear hmk
  refine wp_fresh ?_
  rintro w4 hb4
  have HSV : Hid (SV w4 w3.heap.size 0 (fun _ => false)) := Lib.hid ⟨0, ⟨_, ((map_at w3 rfl).below (ialloc _ _)).below hb4, fun _ => rfl⟩⟩
  have HP6 : Hid (Blk w4 (w3.heap.size + 1) #[.map (some w3.heap.size)]) := Lib.hid (Blk.below (by repeat (with_reducible (first | assumption | (apply Blk.at; simp; done) | apply Blk.alloc | apply Blk.drew | apply Blk.drewN | apply Blk.more | apply Blk.put | (apply Blk.far; focus (first | assumption | (apply Ne.symm; assumption) | (simp; done) | (simp <;> omega)))))) hb4)
  have hv4 : Below w3.heap.size w3 w4 := (by repeat (with_reducible (first | exact Below.refl _ _ | assumption | apply ext_drew | apply ext_drewN | apply ext_alloc | apply ext_more | (refine ext_setCell ?_ (by first | assumption | (simp <;> omega)) _) | (refine ext_below ?_ (by assumption)))))
  have HV4 : Hid (Below w.heap.size w w4) := Lib.hid (HV3.out.trans (hv4.mono HV3.out.size))
  have HP24 := Lib.hid (HP23.out.below hv4)
  have HP34 := Lib.hid (HP33.out.below hv4)
  have HP54 := Lib.hid (HP5.out.below hv4)
  have HG4 := Lib.hid (HG3.out.below hv4)
  rw [← hsb] at HSV HP6
  rw [← hsb]
  clear hb4 hv4 HP23 HP33 HP5 HG3 HV3 hsb
  obtain ⟨p6, hp6⟩ : ∃ p6, p6 = sb + 1 := ⟨_, rfl⟩
  rw [← hp6] at HP6
  rw [← hp6]
  have HN6 : Hid (sb < p6) := Lib.hid (by omega)
  clear hp6
  obtain ⟨p7, hp7⟩ : ∃ p7, p7 = w4.heap.size := ⟨_, rfl⟩
  have HN7 : Hid (p6 < p7) := Lib.hid (by rw [hp7]; exact HP6.out.lt)
  go_upto_region 6 with fail
  refine wp_fresh ?_
  rintro w5 hb5
  have HP7 : Hid (Blk w5 w4.heap.size #[.func (.func 53) #[] #[.pointer (some ⟨p6, 0, none⟩), .pointer (some ⟨w.heap.size, 0, none⟩), .pointer (some ⟨w.heap.size + 1, 0, none⟩), .pointer (some ⟨p5, 0, none⟩)]]) := Lib.hid (Blk.below (by repeat (with_reducible (first | assumption | (apply Blk.at; simp; done) | apply Blk.alloc | apply Blk.drew | apply Blk.drewN | apply Blk.more | apply Blk.put | (apply Blk.far; focus (first | assumption | (apply Ne.symm; assumption) | (simp; done) | (simp <;> omega)))))) hb5)
  have hv5 : Below w4.heap.size w4 w5 := (by repeat (with_reducible (first | exact Below.refl _ _ | assumption | apply ext_drew | apply ext_drewN | apply ext_alloc | apply ext_more | (refine ext_setCell ?_ (by first | assumption | (simp <;> omega)) _) | (refine ext_below ?_ (by assumption)))))
  have HV5 : Hid (Below w.heap.size w w5) := Lib.hid (HV4.out.trans (hv5.mono HV4.out.size))
  have HP25 := Lib.hid (HP24.out.below hv5)
  have HP35 := Lib.hid (HP34.out.below hv5)
  have HP55 := Lib.hid (HP54.out.below hv5)
  have HP65 := Lib.hid (HP6.out.below hv5)
  have HSV5 := Lib.hid (HSV.out.mod (S := fun _ => False) (Mod.of_below hv5) _root_.id)
  have HG5 := Lib.hid (HG4.out.below hv5)
  rw [← hp7] at HP7
  rw [← hp7]
  clear hb5 hv5 HP24 HP34 HP54 HP6 HG4 HV4 HSV hp7
  obtain ⟨z5, c5, f5⟩ := id HP55.out
  go_wp2_with fail
  refine (corners_c _ _ _ _ _ _ _).mono ?_
  rintro e2 w6 ⟨rfl, hb6⟩
  have HV6 : Hid (Below w.heap.size w w6) := Lib.hid (HV5.out.trans (hb6.mono HV5.out.size))
  have HP26 := Lib.hid (HP25.out.below hb6)
  have HP36 := Lib.hid (HP35.out.below hb6)
  have HP56 := Lib.hid (HP55.out.below hb6)
  have HP66 := Lib.hid (HP65.out.below hb6)
  have HP76 := Lib.hid (HP7.out.below hb6)
  have HSV6 := Lib.hid (HSV5.out.mod (S := fun _ => False) (Mod.of_below hb6) _root_.id)
  have HG6 := Lib.hid (HG5.out.below hb6)
  clear hb6 z5 c5 f5 HP25 HP35 HP55 HP65 HP7 HG5 HV5 HSV5
  obtain ⟨p8, hp8⟩ : ∃ p8, p8 = w6.heap.size := ⟨_, rfl⟩
  have HN8 : Hid (p7 < p8) := Lib.hid (by rw [hp8]; exact HP76.out.lt)
  go_upto_region 7 with fail
  refine wp_fresh ?_
  rintro w7 hb7
  have HP8 : Hid (Blk w7 w6.heap.size #[.int .i64 (kc z.a1), .int .i64 (kc z.a2), .int .i64 (kc z.a3)]) := Lib.hid (Blk.below (by
    refine blk_as (cs := _) (by repeat (with_reducible (first | assumption | (apply Blk.at; simp; done) | apply Blk.alloc | apply Blk.drew | apply Blk.drewN | apply Blk.more | apply Blk.put | (apply Blk.far; focus (first | assumption | (apply Ne.symm; assumption) | (simp; done) | (simp <;> omega)))))) ?_
    simp only []) hb7)
  have HP9 : Hid (Blk w7 (w6.heap.size + 1) #[.int .i64 (kc z.b1), .int .i64 (kc z.b2), .int .i64 (kc z.b3)]) := Lib.hid (Blk.below (by
    refine blk_as (cs := _) (by repeat (with_reducible (first | assumption | (apply Blk.at; simp; done) | apply Blk.alloc | apply Blk.drew | apply Blk.drewN | apply Blk.more | apply Blk.put | (apply Blk.far; focus (first | assumption | (apply Ne.symm; assumption) | (simp; done) | (simp <;> omega)))))) ?_
    simp only []) hb7)
  have hv7 : Below w6.heap.size w6 w7 := (by repeat (with_reducible (first | exact Below.refl _ _ | assumption | apply ext_drew | apply ext_drewN | apply ext_alloc | apply ext_more | (refine ext_setCell ?_ (by first | assumption | (simp <;> omega)) _) | (refine ext_below ?_ (by assumption)))))
  have HV7 : Hid (Below w.heap.size w w7) := Lib.hid (HV6.out.trans (hv7.mono HV6.out.size))
  have HSV7 := Lib.hid (HSV6.out.mod (S := fun _ => False) (Mod.of_below hv7) _root_.id)
  have HG7 := Lib.hid (HG6.out.below hv7)
  rw [← hp8] at HP8 HP9
  rw [← hp8]
  have HL7 : Hid (SeesL g w.heap.size (w.heap.size + 1) p5 p6 p7 p8 sb y z w7) := Lib.hid ⟨HP26.out.below hv7, HP36.out.below hv7, HP56.out.below hv7, HP66.out.below hv7, HP76.out.below hv7, HP8.out, HP9.out⟩
  have HO7 : Hid (SeesO w w7 p5 p6 p7 p8 sb) := Lib.hid ⟨HN5.out, HNS.out, HN6.out, HN7.out, HN8.out, HP9.out.lt⟩
  clear hb7 hv7 hp8 HP26 HP36 HP56 HP66 HP76 HP8 HP9 HG6 HV6 HSV6 HN5 HNS HN6 HN7 HN8
  obtain ⟨z8, c8, f8⟩ := id HL7.out.b8
  obtain ⟨z9, c9, f9⟩ := id HL7.out.b9
  go_cut [54] from 34 to 53 (fun t wx => ∃ bb : Bool, t = .bool bb ∧ wx = w7)
  case first =>
    go_wp2
    go_meet
    exact ⟨_, rfl, rfl⟩
  case rest =>
    obtain ⟨bb, rfl, rfl⟩ := hcut
    clear z8 c8 f8 z9 c9 f9
    cases bb with
    | true =>
      have HOO := HO7.out
      obtain ⟨o1, o2, o3, o4, o5, o6⟩ := HOO
      obtain ⟨Fb, hFb, hFbv⟩ := HG7.out.box
      have HFB := Lib.hid hFb
      have HFBV := Lib.hid hFbv
      have hqn := hFb.le
      have HGS : Hid (∀ x, S x → x < w.heap.size) := Lib.hid (fun x e => (HH.out.raw.sl x e).1)
      have hqb : q.mb < w.heap.size := HGS.out _ HH.out.raw.sg.2.2.2.2.1
      clear hFb hFbv
      obtain ⟨z2, c2, f2⟩ := id HL7.out.b2
      obtain ⟨zg, cg, fg⟩ := id HG7.out.blk
      go_wp2_with (at_range; refine at_rangeV rfl (.tmp 58) rfl (int_keyed Try.underlying3) Try.underlying117 rfl HFB.out ?_; intro w9 hr9 hd9 hs9; have HR9 := Lib.hid hr9; have HD9 := Lib.hid hd9; have HS9 := Lib.hid hs9; clear hr9 hd9 hs9)
      try go_frame
      clear z2 c2 f2 zg cg fg
      go_loopw [] (fun wr => ∃ (L : Int → Bool) (cnt : Nat) (T : Int → Bool), RangeV Try.prog 3 wr q.mb wc.heap.size m Fb q.n L cnt ∧ SV wr sb (q.n - cnt) T ∧ cnt ≤ q.n ∧ (∀ k, T k = (!(L k) && eyeD y D k)) ∧ Mod (fun x => x = sb ∨ x = wc.heap.size) w9 wr) (fun wr => wr.rangeLeft q.mb wc.heap.size)
      case atStart =>
        refine ⟨_, q.n, _, HR9.out, (HSV7.out.mod HD9.out id).more (Nat.zero_le _), Nat.le_refl _, fun k => ?_, Mod.refl _ _⟩
        rw [HFBV.out k]
        unfold eyeD
        cases D k <;> simp
      case round =>
        obtain ⟨L, cnt, Tk, hrg, hsv, hcn, hTk, hmd⟩ := hrel
        have HRG := Lib.hid hrg
        have HSV := Lib.hid hsv
        have HTK := Lib.hid hTk
        have HMD := Lib.hid hmd
        have HLW : Hid (SeesL g w.heap.size (w.heap.size + 1) p5 p6 p7 p8 sb y z wr) := Lib.hid ((HL7.out.mod HD9.out id id id id id id id).mod hmd (by omega) (by omega) (by omega) (by omega) (by omega) (by omega) (by omega))
        have HGW : Hid (GW wr g m D S X q) := Lib.hid ((HG7.out.modT HD9.out (fun _ e => e.elim)).modT hmd (fun x e e' => by have := HGS.out x e'; omega))
        clear hrg hsv hTk hmd
        go_wp2_with (at_next; refine at_nextV rfl (.tmp 59) rfl (int_keyed Try.underlying3) Try.underlying3 rfl HRG.out ?_ ?_)
        · intro hL
          have HT : Hid (SV wr sb (q.n - cnt) (eyeD y D)) := Lib.hid (HSV.out.same fun k => by rw [HTK.out k, hL k]; simp)
          have HBW : Hid (Mod (fun b => ¬ b < w.heap.size) w wr) := Lib.hid (((Mod.of_below HV7.out).trans (HD9.out.mono fun _ _ e => e.elim)).trans (HMD.out.mono fun b _ e => by omega))
          obtain ⟨MM, hMM⟩ : ∃ MM, MM = q.n - cnt := ⟨_, rfl⟩
          rw [← hMM] at HT
          clear hL hMM
          obtain ⟨w19, hw19⟩ : ∃ w19, w19 = wr := ⟨_, rfl⟩
          rw [← hw19] at HT HBW HLW
          have HLZ := HLW
          rw [← hw19]
          clear HSV HRG HGW HMD HTK HLW hw19
          obtain ⟨ns, hsv⟩ := HT.out
          obtain ⟨Fs, hFs, hFsv⟩ := hsv
          have HFS := Lib.hid hFs
          have HFSV := Lib.hid hFsv
          clear hFs hFsv
          obtain ⟨z6, c6, f6⟩ := id HLZ.out.b6
          go_wp2_with (at_range; refine at_rangeV rfl (.tmp 86) rfl (int_keyed Try.underlying3) Try.underlying133 rfl HFS.out ?_; intro w20 hr20 hd20 hs20; have HR20 := Lib.hid hr20; have HD20 := Lib.hid hd20; have HS20 := Lib.hid hs20; clear hr20 hd20 hs20)
          try go_frame
          clear z6 c6 f6
          go_loopw [14] (fun v wr => ∃ (zs : List Int) (L : Int → Bool) (cnt : Nat), wr.ownsRow w20.heap.size 3 1 v zs.length (ints zs) ∧ zs.Nodup ∧ (∀ k, k ∈ zs ↔ (eyeD y D k = true ∧ L k = false)) ∧ RangeV Try.prog 3 wr sb w19.heap.size MM Fs ns L cnt ∧ Mod (· = w19.heap.size) w20 wr) (fun _ wr => wr.rangeLeft sb w19.heap.size)
          case atStart =>
            refine ⟨[], _, ns, ⟨rfl, .inl ⟨rfl, rfl⟩⟩, List.nodup_nil, fun k => ⟨fun h => (by cases h), fun h => ?_⟩, HR20.out, Mod.refl _ _⟩
            have h2 : (Fs (.int .i64 k)).isSome = false := h.2
            rw [HFSV.out k] at h2
            simp only [h.1, if_true] at h2
            cases h2
          case round =>
            obtain ⟨zs, L, cnt, hrow, hnd, hmem, hrg, hmd⟩ := hrel
            have hlen : zs.length ≤ 1000 := Nat.le_trans (List.Nodup.length_le_of_subset hnd fun k hk => HIDS.out.1 k (fun e => by have := ((hmem k).1 hk).1; unfold eyeD at this; rw [e] at this; cases this)) HIDS.out.2.2.1
            have HROW := Lib.hid hrow
            have HND := Lib.hid hnd
            have HMEM := Lib.hid hmem
            have HRG := Lib.hid hrg
            have HMD := Lib.hid hmd
            clear hrow hnd hmem hrg hmd
            go_wp2_with (at_next; refine at_nextV rfl (.tmp 87) rfl (int_keyed Try.underlying3) Try.underlying3 rfl HRG.out ?_ ?_)
            · intro hL
              have HLF := Lib.hid hL
              clear hL
              go_wp2_with fail
              refine (sort_c _ _ _ _ HROW.out (by omega)).mono ?_
              rintro e21 w21 ⟨rfl, hrow21, hm21⟩
              have HROW21 := Lib.hid hrow21
              have HM21 := Lib.hid hm21
              clear hrow21 hm21
              go_wp2
              have hfin : ∀ id, id ∈ zs ↔ 0 ≤ y.far ∧ eyeD y D id = true := fun id => by
                rw [HMEM.out id]
                exact ⟨fun h => ⟨HFAR.out, h.1⟩, fun h => ⟨h.2, HLF.out id⟩⟩
              have hbel : Below w.heap.size w w21 := ((HBW.out.trans (HD20.out.mono fun _ _ e => e.elim)).trans2 HMD.out (fun b hb e => by have := HBW.out.size; omega)).trans2 HM21.out (fun b hb e => by have := row_lt HROW.out e; have := HBW.out.size; have := HS20.out; omega) |>.toBelow (Nat.le_refl _) (fun _ hb e => e hb)
              rw [HQ.out]
              refine ⟨_, results_tmp rfl _ _ _, _, zs, rfl, ?_, HND.out, hfin, hlen, hbel⟩
              exact row_zeroI HROW21.out

            · intro x cv w22 cnt22 hwf hLx hFx hrg22 hlt hd22 hs22 hen
              have HRG22 := Lib.hid hrg22
              have HD22 := Lib.hid hd22
              have HLX := Lib.hid hLx
              have HLT := Lib.hid hlt
              have hex : eyeD y D x = true := by
                rw [HFSV.out x] at hFx
                split at hFx
                · assumption
                · cases hFx
              have HEX := Lib.hid hex
              have hrow22 := row_mod HROW.out hd22 (fun b hb e => by have := (row_lt HROW.out hb).2; have := HS20.out; omega)
              have HROW22 := Lib.hid hrow22
              have hb22 : w20.heap.size ≤ w22.heap.size := Nat.le_trans HMD.out.size hd22.size
              have HB22 := Lib.hid hb22
              clear hrg22 hd22 hLx hFx hwf hlt hs22 hex hrow22
              go_wp2_with (at_builtin; go_must (refine app_one rfl (.tmp 92) (.tmp 94) 71 rfl Try.underlying71 intInfo rfl (by decide) (by decide) w20.heap.size _ zs.length (ints zs) rfl HROW22.out #[.int .i64 x] rfl (by simp) rfl (one_int _ _) (by omega) HB22.out ?_; intro g' c' w23 hown hmod hwh hbg; have HOWN := Lib.hid hown; have HMOD := Lib.hid hmod; have HWH := Lib.hid hwh; clear hown hmod hwh hbg))
              go_roundw
              case rel =>
                refine ⟨zs ++ [x], _, cnt22, ?_, ?_, fun k => ?_, HRG22.out.mod HMOD.out ?_ ?_, ?_⟩
                · have := HOWN.out
                  rw [List.length_append, ints_app]
                  exact this
                · refine List.nodup_append.2 ⟨HND.out, by simp, ?_⟩
                  intro a ha b hb e
                  rw [List.mem_singleton] at hb
                  have := ((HMEM.out a).1 ha).2
                  rw [e, hb, HLX.out] at this
                  cases this
                · rw [List.mem_append, List.mem_singleton, HMEM.out k]
                  simp only [Bool.and_eq_false_iff, Bool.not_eq_false', decide_eq_true_eq]
                  constructor
                  · rintro (h | h)
                    · exact ⟨h.1, .inl h.2⟩
                    · exact ⟨h ▸ HEX.out, .inr h⟩
                  · rintro ⟨h1, h | h⟩
                    · exact .inl ⟨h1, h⟩
                    · exact .inr h
                · intro e
                  have := (row_lt HROW22.out e).2
                  have := HRG22.out.map.lt
                  have := HR20.out.map.lt
                  omega
                · intro e
                  have := (row_lt HROW22.out e).2
                  have := HS20.out
                  omega
                · exact ((HMD.out.trans HD22.out).trans2 HMOD.out (fun b hb e => by have := (row_lt HROW22.out e).2; omega))
              case measure =>
                rw [(HRG22.out.mod HMOD.out ?_ ?_).left, HRG.out.left]
                · exact HLT.out
                · intro e
                  have := (row_lt HROW22.out e).2
                  have := HR20.out.map.lt
                  omega
                · intro e
                  have := (row_lt HROW22.out e).2
                  have := HS20.out
                  omega

        · intro x cv w10 cnt10 hwf hLx hFx hrg10 hlt hd10 hs10 hen
          have HRG10 := Lib.hid hrg10
          have HD10 := Lib.hid hd10
          have HLX := Lib.hid hLx
          have HLT := Lib.hid hlt
          have HSV10 : Hid (SV w10 sb (q.n - cnt) Tk) := Lib.hid (HSV.out.mod hd10 (by omega))
          have HL10 : Hid (SeesL g w.heap.size (w.heap.size + 1) p5 p6 p7 p8 sb y z w10) := Lib.hid (HLW.out.mod hd10 (by omega) (by omega) (by omega) (by omega) (by omega) (by omega) (by omega))
          have HG10 : Hid (GW w10 g m D S X q) := Lib.hid (HGW.out.modT hd10 (fun x e e' => by have := HGS.out x e'; omega))
          obtain ⟨e, hDx⟩ : ∃ e, D x = some e := by
            rw [HFBV.out x] at hFx
            cases hD : D x with
            | none => rw [hD] at hFx; cases hFx
            | some e => exact ⟨e, rfl⟩
          have HDX := Lib.hid hDx
          have hbd := wf_bd hwf
          clear hrg10 hd10 hLx hFx hwf hs10 hDx HSV HLW HGW
          obtain ⟨z7, c7, f7⟩ := id HL10.out.b7
          go_wp2_with fail
          refine (ilook_c _ g m (q.n - cnt) _ _ _ _ sb D S X q y z HZ.out Tk x e hbd HG10.out HDX.out HSV10.out (by omega) HL10.out.b2 HL10.out.b3 HL10.out.b5 HL10.out.b6).mono ?_
          rintro e11 w11 ⟨rfl, hsv11, hm11⟩
          have HSV11 := Lib.hid hsv11
          have HM11 := Lib.hid hm11
          clear hsv11 hm11 z7 c7 f7
          go_wp2
          go_roundw
          case rel =>
            refine ⟨_, cnt10, _, HRG10.out.mod HM11.out (by omega) (by omega), HSV11.out.more (by omega), by omega, fun k => ?_, (HMD.out.trans (HD10.out.mono fun _ _ e => .inr e)).trans (HM11.out.mono fun _ _ e => .inl e)⟩
            by_cases ek : k = x
            · simp [ek, HTK.out x, HLX.out]
            · simp [ek, HTK.out k]
          case measure =>
            rw [(HRG10.out.mod HM11.out (by omega) (by omega)).left, HRG.out.left]
            exact hlt
    | false =>
      have HOO := HO7.out
      obtain ⟨o1, o2, o3, o4, o5, o6⟩ := HOO
      have HGS : Hid (∀ x, S x → x < w.heap.size) := Lib.hid (fun x e => (HH.out.raw.sl x e).1)
      obtain ⟨z8, c8, f8⟩ := id HL7.out.b8
      obtain ⟨z9, c9, f9⟩ := id HL7.out.b9
      go_wp2_with fail
      refine (ieach_c _ _ _ _ _ _ _).mono ?_
      rintro e1 w9 ⟨rfl, hA9, hB9, hb9⟩
      have HG9 := Lib.hid (HG7.out.below hb9)
      have HL9 := Lib.hid (HL7.out.below hb9)
      have HSV9 := Lib.hid (HSV7.out.mod (S := fun _ => False) (Mod.of_below hb9) _root_.id)
      have HV9 : Hid (Below w.heap.size w w9) := Lib.hid (HV7.out.trans (hb9.mono HV7.out.size))
      have hA8 := hA9.lt
      have HA9 := Lib.hid hA9
      have HB9 := Lib.hid hB9
      obtain ⟨A, hA⟩ : ∃ A, A = wc.heap.size := ⟨_, rfl⟩
      have hpA : p8 + 1 < A := by omega
      rw [← hA] at HA9 HB9
      rw [← hA]
      clear hA hb9 HG7 HL7 HSV7 HV7 hA9 hB9 hA8 z8 c8 f8 z9 c9 f9 o6 HO7
      have hB1 := HB9.out.lt
      go_wp2_with fail
      have hlo := lo_ok z
      have hhi := hi_ok z
      refine wp_frame_named ?_
      rintro fr hfr
      refine (wpIn_wide (n := 9)).1 (wpIn_rangeFunc_ownH (F := Fence.wide) rfl (by omega) (gf := 93) (lb := #[.pointer (some ⟨A, 0, none⟩), .pointer (some ⟨A + 1, 0, none⟩)]) (by rw [hfr]; rfl) trivial (enters_of Try.func93 (by kernel_rfl) rfl) (each_stops 8 (by omega) A (A + 1) _ _ _ _ _ _ hlo hhi w9 HA9.out HB9.out) (fun {_ _ _} h k => KpAB.trans h k) ?hKb (Below.refl _ _) (fun _ => rfl)
        (fun pre W => SeesI w9 g w.heap.size (w.heap.size + 1) p5 p6 p7 p8 sb A D y z q (pre.map (·.1)) W) (fun _ _ _ => False) ?hI (fun _ _ _ _ _ h _ _ => h) ?h0
        (fun x a' W => ∃ Bx, A + 1 < Bx ∧ Blk W Bx #[.int .i64 x.1.1, .int .i64 x.1.2.1, .int .i64 x.1.2.2] ∧ a' = { tmps := (fr.setIfInBounds 70 (cv x.1)).setIfInBounds 11 (.pointer (some ⟨Bx, 0, none⟩)), defers := [] }) ?hAx ?assign ?body ?done (fun _ _ _ _ _ _ h _ => h.elim))
      case hKb =>
        intro W l o o' hl _ _ _
        exact ⟨by simp, fun k hk => World.putObj_heap_other (fun e => by have := HA9.out.lt; have := HB9.out.lt; omega)⟩
      case hI => exact fun pre W W' row hs hg hr => SeesI.mod hs (mod_grownBy hg) (fun x e => (hr x e).1)
      case hAx =>
        intro x a' _ W W' row hs hg hr
        obtain ⟨Bx, h1, h2, h3⟩ := hs
        exact ⟨Bx, h1, h2.mod (mod_grownBy hg) (fun e => by obtain ⟨_, o, ho, hc⟩ := hr Bx e; rw [blk_cells h2 (by simp) ho] at hc; cases hc), h3⟩
      case h0 => exact ⟨HSV9.out.same fun k => by simp, HL9.out, ⟨by omega, by omega, by omega, by omega, by omega, by omega, by omega, by omega⟩, Mod.refl _ _⟩
      case assign =>
        intro l pre x W K hI hK
        simp only [zip_one, fold_one]
        show Code.wpIn _ _ _ _ _ { tmps := fr.setIfInBounds 70 (cv x.1), defers := [] } W
        obtain ⟨fr', hfr'⟩ : ∃ fr', fr' = fr.setIfInBounds 70 (cv x.1) := ⟨_, rfl⟩
        rw [← hfr']
        rw [hfr] at hfr'
        simp only [List.setIfInBounds_toArray, List.set_cons_succ, List.set_cons_zero, cv] at hfr'
        rw [hfr']
        refine region_inRound (by kernel_rfl) (fun ⟨_, _, h⟩ => h) ?_
        go_wp2
        have hsW := hI.2.2.2.size
        refine hK _ _ ((KeepsOthers.alloc _ _).from _) ⟨by simp, fun k hk => ?_⟩ (hI.mod ((Mod.refl (fun _ => False) W).alloc _) (fun _ e => e.elim)) ⟨W.heap.size, ?_, by apply Blk.at; simp, ?_⟩
        · exact heap_alloc_old W _ k (by omega)
        · omega
        · rw [hfr]
          simp only [List.setIfInBounds_toArray, List.set_cons_succ, List.set_cons_zero, cv]
      case done =>
        rintro D9 xs W hD9 hxs hI hK1
        obtain ⟨hsv, hlw, _, hmd⟩ := hI
        obtain ⟨w19, hw19⟩ : ∃ w19, w19 = W := ⟨_, rfl⟩
        rw [← hw19] at hsv hlw hmd hK1
        rw [← hw19]
        clear hw19
        have hxs' : xs.map (·.1) = z.cells := hxs
        rw [hxs'] at hsv
        obtain ⟨MM, hMM⟩ : ∃ MM, MM = 1000 * z.cells.length := ⟨_, rfl⟩
        rw [← hMM] at hsv
        have HT : Hid (SV w19 sb MM (eyeD y D)) := Lib.hid (hsv.same fun k => by
          cases hk : eyeD y D k with
          | false => rfl
          | true =>
            unfold eyeD at hk
            cases hDk : D k with
            | none => rw [hDk] at hk; cases hk
            | some e =>
              rw [hDk] at hk
              have hm : meetX y.bx e.bx = true := by
                unfold eyeB at hk
                simp only [Bool.and_eq_true] at hk
                exact hk.2
              obtain ⟨c, h1, h2⟩ := meet_cell hm (ey_ok HFAR.out) (HIDS.out.2.2.2 k e hDk)
              rw [HZ.out] at h1
              rw [Bool.true_and, List.any_eq_true]
              exact ⟨c, h1, decide_eq_true ((HH.out.lists.mem c (cells_ok h1) k).2 ⟨e, hDk, h2⟩)⟩)
        have HLZ := Lib.hid hlw
        have HKD := Lib.hid hK1
        have HBW : Hid (Mod (fun b => ¬ b < w.heap.size) w w19) := Lib.hid ((Mod.of_below HV9.out).trans (hmd.mono fun b _ e => by omega))
        have HD9W : Hid (w.heap.size ≤ D9) := Lib.hid (Nat.le_trans HV9.out.size hD9)
        clear hxs hxs' hMM hsv hlw hmd hK1
        simp only [hfr]
        obtain ⟨ns, hsv⟩ := HT.out
        obtain ⟨Fs, hFs, hFsv⟩ := hsv
        have HFS := Lib.hid hFs
        have HFSV := Lib.hid hFsv
        clear hFs hFsv
        obtain ⟨z6, c6, f6⟩ := id HLZ.out.b6
        go_wp2_with (at_range; refine at_rangeV rfl (.tmp 86) rfl (int_keyed Try.underlying3) Try.underlying133 rfl HFS.out ?_; intro w20 hr20 hd20 hs20; have HR20 := Lib.hid hr20; have HD20 := Lib.hid hd20; have HS20 := Lib.hid hs20; clear hr20 hd20 hs20)
        try go_frame
        clear z6 c6 f6
        go_loopw [14] (fun v wr => ∃ (zs : List Int) (L : Int → Bool) (cnt : Nat), wr.ownsRow w20.heap.size 3 1 v zs.length (ints zs) ∧ zs.Nodup ∧ (∀ k, k ∈ zs ↔ (eyeD y D k = true ∧ L k = false)) ∧ RangeV Try.prog 3 wr sb w19.heap.size MM Fs ns L cnt ∧ Mod (· = w19.heap.size) w20 wr) (fun _ wr => wr.rangeLeft sb w19.heap.size)
        case atStart =>
          refine ⟨[], _, ns, ⟨rfl, .inl ⟨rfl, rfl⟩⟩, List.nodup_nil, fun k => ⟨fun h => (by cases h), fun h => ?_⟩, HR20.out, Mod.refl _ _⟩
          have h2 : (Fs (.int .i64 k)).isSome = false := h.2
          rw [HFSV.out k] at h2
          simp only [h.1, if_true] at h2
          cases h2
        case round =>
          obtain ⟨zs, L, cnt, hrow, hnd, hmem, hrg, hmd⟩ := hrel
          have hlen : zs.length ≤ 1000 := Nat.le_trans (List.Nodup.length_le_of_subset hnd fun k hk => HIDS.out.1 k (fun e => by have := ((hmem k).1 hk).1; unfold eyeD at this; rw [e] at this; cases this)) HIDS.out.2.2.1
          have HROW := Lib.hid hrow
          have HND := Lib.hid hnd
          have HMEM := Lib.hid hmem
          have HRG := Lib.hid hrg
          have HMD := Lib.hid hmd
          clear hrow hnd hmem hrg hmd
          go_wp2_with (at_next; refine at_nextV rfl (.tmp 87) rfl (int_keyed Try.underlying3) Try.underlying3 rfl HRG.out ?_ ?_)
          · intro hL
            have HLF := Lib.hid hL
            clear hL
            go_wp2_with fail
            refine (sort_c _ _ _ _ HROW.out (by omega)).mono ?_
            rintro e21 w21 ⟨rfl, hrow21, hm21⟩
            have HROW21 := Lib.hid hrow21
            have HM21 := Lib.hid hm21
            clear hrow21 hm21
            go_wp2
            have hfin : ∀ id, id ∈ zs ↔ 0 ≤ y.far ∧ eyeD y D id = true := fun id => by
              rw [HMEM.out id]
              exact ⟨fun h => ⟨HFAR.out, h.1⟩, fun h => ⟨h.2, HLF.out id⟩⟩
            have hbel : Below w.heap.size w w21 := ((HBW.out.trans (HD20.out.mono fun _ _ e => e.elim)).trans2 HMD.out (fun b hb e => by have := HBW.out.size; omega)).trans2 HM21.out (fun b hb e => by have := row_lt HROW.out e; have := HBW.out.size; have := HS20.out; omega) |>.toBelow (Nat.le_refl _) (fun _ hb e => e hb)
            rw [HQ.out]
            have hD20 : D9 < w20.heap.size := by
              have := HKD.out
              rw [Array.getElem?_eq_some_iff] at this
              have := this.1
              have := HS20.out
              omega
            have hkd : w21.heap[D9]? = some (.deferred (some [])) := by
              have h1 : D9 < w19.heap.size := by
                have := HKD.out
                rw [Array.getElem?_eq_some_iff] at this
                exact this.1
              have e1 := HD20.out.block D9 h1 _root_.id
              have e2 := HMD.out.block D9 hD20 (fun e => by omega)
              have e3 := HM21.out.block D9 (Nat.lt_of_lt_of_le hD20 HMD.out.size) (fun e => by have := (row_lt HROW.out e).2; omega)
              rw [e3, e2, e1]
              exact HKD.out
            refine ⟨by simp, .inl ⟨_, _, rfl, run_takeDeferred hkd, ?_⟩⟩
            refine ⟨_, results_tmp rfl _ _ _, _, zs, rfl, ?_, HND.out, hfin, hlen, ?_⟩
            · exact row_zeroI (row_mod HROW21.out (mod_putObj w21 D9 _) (fun b hb e => by have := (row_lt HROW21.out hb).2; omega))
            · exact hbel.trans ((mod_putObj w21 D9 _).toBelow hbel.size (fun b hb e => by have := HD9W.out; omega))

          · intro x cv w22 cnt22 hwf hLx hFx hrg22 hlt hd22 hs22 hen
            have HRG22 := Lib.hid hrg22
            have HD22 := Lib.hid hd22
            have HLX := Lib.hid hLx
            have HLT := Lib.hid hlt
            have hex : eyeD y D x = true := by
              rw [HFSV.out x] at hFx
              split at hFx
              · assumption
              · cases hFx
            have HEX := Lib.hid hex
            have hrow22 := row_mod HROW.out hd22 (fun b hb e => by have := (row_lt HROW.out hb).2; have := HS20.out; omega)
            have HROW22 := Lib.hid hrow22
            have hb22 : w20.heap.size ≤ w22.heap.size := Nat.le_trans HMD.out.size hd22.size
            have HB22 := Lib.hid hb22
            clear hrg22 hd22 hLx hFx hwf hlt hs22 hex hrow22
            go_wp2_with (at_builtin; go_must (refine app_one rfl (.tmp 92) (.tmp 94) 71 rfl Try.underlying71 intInfo rfl (by decide) (by decide) w20.heap.size _ zs.length (ints zs) rfl HROW22.out #[.int .i64 x] rfl (by simp) rfl (one_int _ _) (by omega) HB22.out ?_; intro g' c' w23 hown hmod hwh hbg; have HOWN := Lib.hid hown; have HMOD := Lib.hid hmod; have HWH := Lib.hid hwh; clear hown hmod hwh hbg))
            go_roundw
            case rel =>
              refine ⟨zs ++ [x], _, cnt22, ?_, ?_, fun k => ?_, HRG22.out.mod HMOD.out ?_ ?_, ?_⟩
              · have := HOWN.out
                rw [List.length_append, ints_app]
                exact this
              · refine List.nodup_append.2 ⟨HND.out, by simp, ?_⟩
                intro a ha b hb e
                rw [List.mem_singleton] at hb
                have := ((HMEM.out a).1 ha).2
                rw [e, hb, HLX.out] at this
                cases this
              · rw [List.mem_append, List.mem_singleton, HMEM.out k]
                simp only [Bool.and_eq_false_iff, Bool.not_eq_false', decide_eq_true_eq]
                constructor
                · rintro (h | h)
                  · exact ⟨h.1, .inl h.2⟩
                  · exact ⟨h ▸ HEX.out, .inr h⟩
                · rintro ⟨h1, h | h⟩
                  · exact .inl ⟨h1, h⟩
                  · exact .inr h
              · intro e
                have := (row_lt HROW22.out e).2
                have := HRG22.out.map.lt
                have := HR20.out.map.lt
                omega
              · intro e
                have := (row_lt HROW22.out e).2
                have := HS20.out
                omega
              · exact ((HMD.out.trans HD22.out).trans2 HMOD.out (fun b hb e => by have := (row_lt HROW22.out e).2; omega))
            case measure =>
              rw [(HRG22.out.mod HMOD.out ?_ ?_).left, HRG.out.left]
              · exact HLT.out
              · intro e
                have := (row_lt HROW22.out e).2
                have := HR20.out.map.lt
                omega
              · intro e
                have := (row_lt HROW22.out e).2
                have := HS20.out
                omega

      case body =>
        rintro l pre x a' W hl _ hI ⟨Bx, hBx, hbx, rfl⟩ hpl
        obtain ⟨hsv, hlw, ⟨a1, a2, a3, a4, a5, a6, a7, a8⟩, hmd⟩ := hI
        have HSV := Lib.hid hsv
        have HLW := Lib.hid hlw
        have HMD := Lib.hid hmd
        have HBX := Lib.hid hbx
        have HGW : Hid (GW W g m D S X q) := Lib.hid (HG9.out.modT hmd (fun x e e' => by have := HGS.out x e'; omega))
        have hxc : clOk x.1 := cells_ok (b := z) x.2
        have HPL : Hid (pre.length < z.cells.length) := Lib.hid hpl
        have HCL := Lib.hid (cells_len z)
        clear hsv hlw hmd hbx hpl
        simp only [hfr, List.setIfInBounds_toArray, List.set_cons_succ, List.set_cons_zero, cv]
        obtain ⟨A', c', hvf, hvr⟩ : ∃ A' c', (q.Fc (ck x.1)).getD (.slice none 0 0) = .slice A' (q.L x.1).length c' ∧ W.ownsRow 0 3 1 (.slice A' (q.L x.1).length c') (q.L x.1).length (ints (q.L x.1)) := by
          rcases HGW.out.rows.row _ hxc with ⟨e1, e2⟩ | ⟨v', e1, e2⟩
          · refine ⟨none, 0, by rw [e1, e2]; rfl, ?_⟩
            rw [e2]
            exact ⟨by simp [ints], .inl ⟨rfl, rfl⟩⟩
          · have hv : ∃ A' c', v' = .slice A' (q.L x.1).length c' := by
              rcases e2.2 with ⟨e3, e4⟩ | ⟨g', cap, cur, e3, _⟩
              · exact ⟨none, 0, by rw [e3, e4]⟩
              · exact ⟨_, cap, e3⟩
            obtain ⟨A', c', rfl⟩ := hv
            exact ⟨A', c', by rw [e1]; rfl, e2⟩
        have HVS : Hid (∀ b, (Value.slice A' (q.L x.1).length c').ownBlock = some b → b < w.heap.size) := Lib.hid (fun b hb => by
          cases hF : q.Fc (ck x.1) with
          | none => rw [hF] at hvf; simp only [Option.getD_none] at hvf; rw [← hvf] at hb; cases hb
          | some v' => rw [hF] at hvf; simp only [Option.getD_some] at hvf; rw [← hvf] at hb; exact HGS.out _ (HGW.out.srow _ _ _ hxc hF hb))
        have HVF := Lib.hid hvf
        have HVR := Lib.hid hvr
        have hln := HH.out.lists.len _ hxc
        clear hvf hvr
        obtain ⟨z2, c2, f2⟩ := id HLW.out.b2
        obtain ⟨z6, c6, f6⟩ := id HBX.out
        obtain ⟨zg, cg, fg⟩ := id HGW.out.blk
        gi_wp2
        have hmc := more_cell
        refine region_inRound_any (by kernel_rfl) (by kernel_rfl) (fun ⟨_, _, h⟩ => h) ?_
        refine any_quiet_allI (by kernel_rfl) ?_
        repeat (go_big_quiet_step (fail))
        go_big_quiet_want
        refine qlook1 (.tmp 74) (.tmp 75) rfl cell_keyed Try.underlying115 zero_ints rfl (by rintro _ ⟨mm, rfl⟩; exact HGW.out.cells.below (more_below W mm)) (cv x.1) (ck x.1) rfl (key_cell hxc) trivial ?_
        simp only [Act.put, List.setIfInBounds_toArray, List.set_cons_zero, List.set_cons_succ]
        rw [HVF.out]
        go_big_quiet_on
        repeat (go_big_quiet_step (fail))
        refine wpQuiet_nil ?_
        rintro w10 hw10
        have hb10 := after_below hw10
        clear hw10 hmc z2 c2 f2 z6 c6 f6 zg cg fg
        have HB10 := Lib.hid hb10
        clear hb10
        have hsem := Oper.semAt_some l
        gi_wp2
        gi_loopw [78] (fun v wr => ∃ j : Nat, j ≤ (q.L x.1).length ∧ v = .int .i64 j ∧ SV wr sb (1000 * (pre.map (·.1)).length + j) (fun k => eyeD y D k && ((pre.map (·.1)).any (fun c => decide (k ∈ q.L c)) || decide (k ∈ (q.L x.1).take j))) ∧ Mod (· = sb) W wr) (fun v _ => (q.L x.1).length - (intOf v).toNat)
        case atStart => exact ⟨0, by omega, rfl, (HSV.out.mod (S := fun _ => False) (Mod.of_below HB10.out) _root_.id).same fun k => by simp, (Mod.of_below HB10.out)⟩
        case round =>
          obtain ⟨j, hj, rfl, hsv, hmd⟩ := hrel
          have HSVR := Lib.hid hsv
          have HMDR := Lib.hid hmd
          clear hsv hmd
          by_cases hlt : j < (q.L x.1).length
          · have dlt : decide ((j : Int) < ((q.L x.1).length : Int)) = true := decide_eq_true (by omega)
            have hrr := row_mod HVR.out HMDR.out (fun b hb e => by have := HVS.out b hb; omega)
            obtain ⟨gr, cr, hgr, _, hgl, _⟩ := row_at hrr (by omega)
            cases hgr
            obtain ⟨id, hid, hcid⟩ := row_num hrr hlt
            have hmem : id ∈ q.L x.1 := List.mem_of_getElem? hid
            obtain ⟨e, hDe, _⟩ := (HH.out.lists.mem _ hxc id).1 hmem
            have hbd := HIDS.out.2.1 id (HIDS.out.1 id (by rw [hDe]; exact Option.some_ne_none _))
            have HL11 : Hid (SeesL g w.heap.size (w.heap.size + 1) p5 p6 p7 p8 sb y z wr) := Lib.hid (HLW.out.mod HMDR.out (by omega) (by omega) (by omega) (by omega) (by omega) (by omega) (by omega))
            have HG11 : Hid (GW wr g m D S X q) := Lib.hid (HGW.out.modT HMDR.out (fun x e e' => by have := HGS.out x e'; omega))
            have HID := Lib.hid hid
            have HDE := Lib.hid hDe
            obtain ⟨z7, c7, f7⟩ := _root_.id HL11.out.b7
            clear hid hmem hDe hrr
            gi_wp2
            refine ⟨trivial, ?_⟩
            refine (CallsIn.inRound l (callsIn_wide.2 (ilook_c _ g m (1000 * (pre.map (·.1)).length + j) _ _ _ _ sb D S X q y z HZ.out _ id e hbd HG11.out HDE.out HSVR.out (by have := HPL.out; have := HCL.out; rw [List.length_map]; omega) HL11.out.b2 HL11.out.b3 HL11.out.b5 HL11.out.b6))).mono ?_
            rintro e11 w11 ⟨rfl, hsv11, hm11⟩
            have HSV11 := Lib.hid hsv11
            have HM11 := Lib.hid hm11
            clear hsv11 hm11 z7 c7 f7
            gi_wp2
            go_roundw
            case rel =>
              refine ⟨j + 1, by omega, by go_num, HSV11.out.same fun k => ?_, HMDR.out.trans HM11.out⟩
              rw [take_succ_get HID.out]
              simp only [List.mem_append, List.mem_singleton]
              by_cases ek : k = id
              · cases hy1 : eyeD y D id <;> simp [ek, hy1]
              · simp [ek]
            case measure => simp [intOf]; omega
          · have dlt : decide ((j : Int) < ((q.L x.1).length : Int)) = false := decide_eq_false (by omega)
            have hjn : j = (q.L x.1).length := by omega
            gi_wp2
            have hM : Mod (· = sb) W wr := HMDR.out
            refine ⟨keepsFrom_mod hM (fun x e => by omega), ⟨hM.size, fun k hk => hM.block k ?_ (by omega)⟩, (HSVR.out.more ?_).same fun k => ?_, HLW.out.mod hM (by omega) (by omega) (by omega) (by omega) (by omega) (by omega) (by omega), ⟨a1, a2, a3, a4, a5, a6, a7, a8⟩, HMD.out.trans hM⟩
            · have := HMD.out.size
              omega
            · simp only [List.length_map, List.length_append, List.length_singleton]
              omega
            · rw [hjn, List.take_length]
              simp
end Go.Proofs.Ytefhmbmbhiehdaa
