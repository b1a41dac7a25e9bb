/- The contracts of snap.vec and of the closures of snap.change and snap.Delta. Conditions: none. -/
import Derived.Test.YtnkinnfpebploaaDoorSnap5
import Derived.Test.YtnkinnfpebploaaDoorSnap1
namespace Go.Proofs.YtnkinnfpebploaaDoor
open Go.ChangeShapes Go.WideShapes Go.ChangeAt Go.RowKit Go.BigFrame
open B

theorem Blk.eqs {w : World} {b : Nat} {cs cs' : Array Value} (h : Blk w b cs) (e : cs = cs') : Blk w b cs' := e ▸ h
set_option maxRecDepth 100000 in
set_option maxHeartbeats 4000000 in
theorem vec_k (S : Nat → Prop) (p : Nat) (L : List Nat) (x1 x2 x3 y1 y2 y3 : Int) (w : World) (h : Wf S w p L) (i1 : In40 x1) (i2 : In40 x2) (i3 : In40 x3) (j1 : In40 y1) (j2 : In40 y2) (j3 : In40 y3) :
    Calls Tryd.prog 75 #[.pointer (some ⟨p, 0, none⟩), .agg #[.int .i64 x1, .int .i64 x2, .int .i64 x3], .agg #[.int .i64 y1, .int .i64 y2, .int .i64 y3]] w fun e w' => e = .returned (.tuple #[]) ∧ WfPost S p (L ++ vec3L (x1 - y1) (x2 - y2) (x3 - y3)) w w' := by
  have HH := Lib.hid h
  unfold In40 at i1 i2 i3 j1 j2 j3
  clear h
  go_enter Tryd.func75, Tryd.ntmps75
  go_wp2_with fail
  refine calls_fresh ?_
  rintro w1 hb1
  have hv1 : Below w.heap.size w w1 := (by repeat (with_reducible (first | exact Below.refl _ _ | assumption | apply ext_drew | apply ext_drewN | apply ext_alloc | apply ext_more | (refine ext_setCell ?_ (by first | assumption | (simp <;> omega)) _) | (refine ext_below ?_ (by assumption)))))
  have C1 : Blk w1 w.heap.size #[.int .i64 x1, .int .i64 x2, .int .i64 x3] := Blk.below (by repeat (with_reducible (first | assumption | (apply Blk.at; simp; done) | apply Blk.alloc | apply Blk.drew | apply Blk.drewN | apply Blk.more | apply Blk.put | (apply Blk.far; focus (first | assumption | (apply Ne.symm; assumption) | (simp; done) | (simp <;> omega)))))) hb1
  have D1 : Blk w1 (w.heap.size + 1) #[.int .i64 y1, .int .i64 y2, .int .i64 y3] := Blk.below (by repeat (with_reducible (first | assumption | (apply Blk.at; simp; done) | apply Blk.alloc | apply Blk.drew | apply Blk.drewN | apply Blk.more | apply Blk.put | (apply Blk.far; focus (first | assumption | (apply Ne.symm; assumption) | (simp; done) | (simp <;> omega)))))) hb1
  obtain ⟨S1, hS1⟩ : ∃ S1, S1 = fun b => S b ∨ (w.heap.size ≤ b ∧ b < w1.heap.size) := ⟨_, rfl⟩
  have H1 : Wf S1 w1 p L := by rw [hS1]; exact HH.out.fresh hv1
  have HSS : Hid (∀ b, S b → S1 b) := Lib.hid (fun b hb => by rw [hS1]; exact .inl hb)
  have HC : Hid (S1 w.heap.size ∧ S1 (w.heap.size + 1)) := Lib.hid (by rw [hS1]; exact ⟨.inr ⟨Nat.le_refl _, C1.lt⟩, .inr ⟨by omega, D1.lt⟩⟩)
  have HMM : Hid (Mod (fun b => ¬ S b) w w1) := Lib.hid (Mod.of_below hv1)
  clear hS1 hb1 HH hv1
  refine (int_k S1 p (L) w1 (x1 - y1) H1 (by omega) (by omega)).mono ?_
  rintro e w2 ⟨⟨ev1, rfl⟩, H2, hm2⟩
  have C2 := C1.mod hm2 (fun hn => hn HC.out.1)
  have D2 := D1.mod hm2 (fun hn => hn HC.out.2)
  have HM2 := Lib.hid hm2
  clear hm2 H1 C1 D1
  obtain ⟨zx2, cx2, fx2⟩ := id C2
  obtain ⟨zy2, cy2, fy2⟩ := id D2
  go_wp2_with fail
  refine (int_k S1 p (L ++ intL (x1 - y1)) w2 (x2 - y2) H2 (by omega) (by omega)).mono ?_
  rintro e w3 ⟨⟨ev2, rfl⟩, H3, hm3⟩
  have C3 := C2.mod hm3 (fun hn => hn HC.out.1)
  have D3 := D2.mod hm3 (fun hn => hn HC.out.2)
  have HM3 := Lib.hid hm3
  clear hm3 H2 C2 D2 zx2 cx2 fx2 zy2 cy2 fy2
  obtain ⟨zx3, cx3, fx3⟩ := id C3
  obtain ⟨zy3, cy3, fy3⟩ := id D3
  go_wp2_with fail
  refine (int_k S1 p (L ++ intL (x1 - y1) ++ intL (x2 - y2)) w3 (x3 - y3) H3 (by omega) (by omega)).mono ?_
  rintro e w4 ⟨⟨ev3, rfl⟩, H4, hm4⟩
  have C4 := C3.mod hm4 (fun hn => hn HC.out.1)
  have D4 := D3.mod hm4 (fun hn => hn HC.out.2)
  have HM4 := Lib.hid hm4
  clear hm4 H3 C3 D3 zx3 cx3 fx3 zy3 cy3 fy3
  go_wp2
  go_end0
  refine ⟨rfl, ?_⟩
  have e : L ++ intL (x1 - y1) ++ intL (x2 - y2) ++ intL (x3 - y3) = L ++ vec3L (x1 - y1) (x2 - y2) (x3 - y3) := by unfold vec3L; simp only [List.append_assoc]
  rw [← e]
  exact WfPost.back ⟨H4, (HM2.out.trans HM3.out).trans HM4.out⟩ HSS.out HMM.out

theorem flag_k (S : Nat → Prop) (p q : Nat) (L : List Nat) (y : Bool) (w : World) (h : Wf S w p L) (hq : w.cell? ⟨q, 0, none⟩ = some (.pointer (some ⟨p, 0, none⟩))) :
    Calls Tryd.prog 93 #[.bool y, .pointer (some ⟨q, 0, none⟩)] w fun e w' => e = .returned (.bool y) ∧ WfPost S p (L ++ bit y) w w' := by
  have HH := Lib.hid h
  clear h
  cases y with
  | false =>
    go_enter Tryd.func93, Tryd.ntmps93
    go_wp2_with fail
    refine (put_k S p L w _ _ 0 1 HH.out rfl rfl (by decide) (by decide)).mono ?_
    rintro e w' ⟨⟨v, rfl⟩, hp⟩
    have HP := Lib.hid hp
    clear hp
    go_wp2
    go_ret
    exact ⟨rfl, HP.out⟩
  | true =>
    go_enter Tryd.func93, Tryd.ntmps93
    go_wp2_with fail
    refine (put_k S p L w _ _ 1 1 HH.out rfl rfl (by decide) (by decide)).mono ?_
    rintro e w' ⟨⟨v, rfl⟩, hp⟩
    have HP := Lib.hid hp
    clear hp
    go_wp2
    go_ret
    exact ⟨rfl, HP.out⟩

theorem head_k (S : Nat → Prop) (p q1 q2 what : Nat) (wi ix last : Int) (L : List Nat) (w : World) (h : Wf S w p L) (hw : wi = what) (hwhat : what < 4) (hq1 : Blk w q1 #[.pointer (some ⟨p, 0, none⟩)]) (hq2 : Blk w q2 #[.int .i64 last]) (s1 : S q1) (s2 : S q2) (hid : last < ix ∧ ix ≤ 1099511627776 ∧ 0 ≤ last) :
    Calls Tryd.prog 74 #[.int .i64 wi, .int .i64 ix, .pointer (some ⟨q1, 0, none⟩), .pointer (some ⟨q2, 0, none⟩)] w fun e w' => e = .returned (.tuple #[]) ∧ Wf S w' p (L ++ headL what ix last) ∧ Blk w' q2 #[.int .i64 ix] ∧ Mod (fun b => ¬ S b ∨ b = q2) w w' := by
  have HH := Lib.hid h
  have HS : Hid (S q1 ∧ S q2) := Lib.hid ⟨s1, s2⟩
  have HW := Lib.hid hw
  obtain ⟨d1, d2, d3⟩ := hid
  clear h s1 s2 hw
  obtain ⟨zq, cq, fq⟩ := id hq1
  go_enter Tryd.func74, Tryd.ntmps74
  go_wp2_with fail
  refine (put_k S p L w _ _ what 2 HH.out HW.out rfl (by decide) (by omega)).mono ?_
  rintro e w1 ⟨⟨v, rfl⟩, H1, hm1⟩
  have A1 := hq1.mod hm1 (fun hn => hn HS.out.1)
  have B1 := hq2.mod hm1 (fun hn => hn HS.out.2)
  have HM1 := Lib.hid hm1
  clear hm1 hq1 hq2 zq cq fq
  obtain ⟨za, ca, fa⟩ := id A1
  obtain ⟨zb, cb, fb⟩ := id B1
  go_wp2_with fail
  refine (var_k S p (L ++ bitsOf 2 what) w1 _ (ix - last - 1).toNat H1 (by omega) (by omega)).mono ?_
  rintro e w2 ⟨⟨v, rfl⟩, H2, hm2⟩
  have B2 := B1.mod hm2 (fun hn => hn HS.out.2)
  have HM2 := Lib.hid hm2
  clear hm2 A1 B1 za ca fa zb cb fb
  obtain ⟨zb, cb, fb⟩ := id B2
  go_wp2
  go_end0
  have e : L ++ bitsOf 2 what ++ varL (ix - last - 1).toNat = L ++ headL what ix last := by unfold headL; rw [List.append_assoc]
  rw [e] at H2
  refine ⟨rfl, H2.low (T := fun b => b = q2) ((Mod.refl _ _).set (.inl rfl)) (fun b hb => by rw [hb]; exact HS.out.2), Blk.eqs (B2.put (i := 0) (v := .int .i64 ix)) rfl, ?_⟩
  exact Mod.set ((HM1.out.trans HM2.out).mono fun b _ hb => .inl hb) (.inl (.inr rfl))

end Go.Proofs.YtnkinnfpebploaaDoor
