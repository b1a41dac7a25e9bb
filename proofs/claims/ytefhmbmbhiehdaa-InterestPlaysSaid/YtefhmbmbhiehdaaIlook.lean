/- The contract of (*interest.Grid).Sees$1: is a body seen. Conditions: none. -/
import Derived.Test.YtefhmbmbhiehdaaIputS
import Derived.Test.YtefhmbmbhiehdaaIseeP
import Derived.Test.YtefhmbmbhiehdaaBoxes
import Derived.Maps.OwnOps
namespace Go.Proofs.Ytefhmbmbhiehdaa
open Go Go.Maps Go.RowKit Go.BigFrame Go.ChangeShapes Go.WideShapes Go.Shelf
/-- the numbers that T says are the keys of the map at b -/
def SV (w : World) (b m : Nat) (T : Int → Bool) : Prop := ∃ n, VI w b m n (fun k => if T k = true then some (.bool true) else none)
section
variable {w w' : World} {b m : Nat} {T : Int → Bool}
theorem SV.mod {S : Nat → Prop} (h : SV w b m T) (k : Mod S w w') (hb : ¬ S b) : SV w' b m T := by
  obtain ⟨n, h⟩ := h
  exact ⟨n, h.mod k hb⟩
theorem SV.more (h : SV w b m T) {m' : Nat} (hm : m ≤ m') : SV w b m' T := by
  obtain ⟨n, h⟩ := h
  exact ⟨n, h.more hm⟩
theorem SV.lt (h : SV w b m T) : b < w.heap.size := by
  obtain ⟨n, h⟩ := h
  exact h.lt
theorem SV.same {T' : Int → Bool} (h : SV w b m T) (e : ∀ k, T k = T' k) : SV w b m T' := by
  obtain rfl : T = T' := funext e
  exact h
end
theorem zero_bool : ∀ w : World, (zeroValue 4).run Try.prog w = .ok (.bool false) w := fun w => by kernel_rfl
theorem meet_x (a b : Bx) (w : World) : Calls Try.prog 54 #[.agg #[.int .i64 a.a1, .int .i64 a.a2, .int .i64 a.a3, .int .i64 a.b1, .int .i64 a.b2, .int .i64 a.b3], .agg #[.int .i64 b.a1, .int .i64 b.a2, .int .i64 b.a3, .int .i64 b.b1, .int .i64 b.b2, .int .i64 b.b3]] w fun e w' => e = .returned (.bool (meetX a b)) ∧ Below w.heap.size w w' := meet_c _ _ _ _ _ _ _ _ _ _ _ _ w
set_option maxRecDepth 100000 in
set_option maxHeartbeats 4000000 in
theorem ilook_c (w : World) (g m m2 p2 p3 p5 p6 sb : Nat) (D : Int → Option En) (S X : Nat → Prop) (q : GP) (y : Ey) (z : Bx) (hz : y.bx = z) (T : Int → Bool) (id : Int) (e : En) (hid : -9223372036854775808 ≤ id ∧ id ≤ 9223372036854775807) (hG : GW w g m D S X q) (hD : D id = some e) (hS : SV w sb m2 T) (hm2 : m2 ≤ 1000000000000)
    (h2 : Blk w p2 #[.pointer (some ⟨g, 0, none⟩)]) (h3 : Blk w p3 #[.int .i64 y.x, .int .i64 y.y, .int .i64 y.z, .int .i64 y.far, .int .i64 y.teams]) (h5 : Blk w p5 #[.int .i64 z.a1, .int .i64 z.a2, .int .i64 z.a3, .int .i64 z.b1, .int .i64 z.b2, .int .i64 z.b3]) (h6 : Blk w p6 #[.map (some sb)]) :
    Calls Try.prog 53 #[.int .i64 id, .pointer (some ⟨p6, 0, none⟩), .pointer (some ⟨p2, 0, none⟩), .pointer (some ⟨p3, 0, none⟩), .pointer (some ⟨p5, 0, none⟩)] w fun e w' => e = .returned (.tuple #[]) ∧ SV w' sb (m2 + 1) (fun k => T k || (decide (k = id) && eyeD y D id)) ∧ Mod (· = sb) w w' := by
  have hkk : keyOf Try.prog 3 (.int .i64 id) = some (.int .i64 id) := int_wf_key Try.underlying3 (intKey_wf hid.1 hid.2)
  have HK := Lib.hid hkk
  have HG := Lib.hid hG
  have HS := Lib.hid hS
  obtain ⟨ns, Fs, hFs, hFsv⟩ := hS
  have HFS := Lib.hid hFs
  have HFSV : Hid (Fs (.int .i64 id) = if T id = true then some (.bool true) else none) := Lib.hid (hFsv id)
  obtain ⟨Ft, hFt, hFtv⟩ := hG.team
  have HFT := Lib.hid hFt
  have HFTV : Hid (Ft (.int .i64 id) = some (.int .i64 e.tm)) := Lib.hid ((hFtv id).trans (by simp only [hD]; rfl))
  obtain ⟨Fb, hFb, hFbv⟩ := hG.box
  have HFB := Lib.hid hFb
  have HFBV : Hid (Fb (.int .i64 id) = some e.bx.v) := Lib.hid ((hFbv id).trans (by simp only [hD]; rfl))
  have HEY : Hid (eyeD y D id = eyeB y e) := Lib.hid (eyeD_some hD)
  have HZ := Lib.hid hz
  have HF2 := Lib.hid (And.intro hFs hFsv)
  have HP6 := Lib.hid h6
  clear hkk hFs hFsv hFt hFtv hFb hFbv hD hz
  obtain ⟨z2, c2, f2⟩ := _root_.id h2
  obtain ⟨z3, c3, f3⟩ := _root_.id h3
  obtain ⟨z5, c5, f5⟩ := _root_.id h5
  obtain ⟨z6, c6, f6⟩ := _root_.id h6
  obtain ⟨zg, cg, fg⟩ := _root_.id hG.blk
  clear hG h2 h3 h5 h6
  cases hT : T id with
  | true =>
    go_enter Try.func53, Try.ntmps53
    have hmc := more_cell
    go_upto_region 0 with fail
    refine region_quiet_all (by kernel_rfl) (by kernel_rfl) ?_
    repeat (go_big_quiet_step (fail))
    go_big_quiet_want
    refine qlook1 (.tmp 6) (.tmp 7) rfl (int_keyed Try.underlying3) Try.underlying133 zero_bool rfl (by rintro _ ⟨mm, rfl⟩; exact HFS.out.below (more_below w mm)) (.int .i64 id) (.int .i64 id) rfl HK.out trivial ?_
    simp only [Act.put, List.setIfInBounds_toArray, List.set_cons_zero, List.set_cons_succ]
    rw [HFSV.out, hT]
    simp only [if_true, Option.getD_some]
    go_big_quiet_on
    repeat (go_big_quiet_step (fail))
    refine wpQuiet_nil ?_
    rintro w1 hw1
    have hb1 := after_below hw1
    clear hw1 hmc
    go_wp2
    go_end0
    refine ⟨rfl, (HS.out.mod (S := fun _ => False) (Mod.of_below hb1) fun h => h).more (Nat.le_succ _) |>.same fun k => ?_, Mod.of_below hb1⟩
    by_cases ek : k = id
    · simp [ek, hT]
    · simp [ek]

  | false =>
    cases hb : (bits .and .i64 e.tm y.teams != 0) with
    | false =>
      go_enter Try.func53, Try.ntmps53
      have hmc := more_cell
      go_upto_region 0 with fail
      refine region_quiet_all (by kernel_rfl) (by kernel_rfl) ?_
      repeat (go_big_quiet_step (fail))
      go_big_quiet_want
      refine qlook1 (.tmp 6) (.tmp 7) rfl (int_keyed Try.underlying3) Try.underlying133 zero_bool rfl (by rintro _ ⟨mm, rfl⟩; exact HFS.out.below (more_below w mm)) (.int .i64 id) (.int .i64 id) rfl HK.out trivial ?_
      simp only [Act.put, List.setIfInBounds_toArray, List.set_cons_zero, List.set_cons_succ]
      rw [HFSV.out, hT]
      simp only [Bool.false_eq_true, if_false, Option.getD_none]
      go_big_quiet_on
      repeat (go_big_quiet_step (fail))
      go_big_quiet_want
      refine qlook1 (.tmp 14) (.tmp 15) rfl (int_keyed Try.underlying3) Try.underlying118 zero_int' rfl (by rintro _ ⟨mm, rfl⟩; exact HFT.out.below (more_below w mm)) (.int .i64 id) (.int .i64 id) rfl HK.out trivial ?_
      simp only [Act.put, List.setIfInBounds_toArray, List.set_cons_zero, List.set_cons_succ]
      rw [HFTV.out]
      simp only [Option.getD_some]
      go_big_quiet_on
      repeat (go_big_quiet_step (fail))
      refine wpQuiet_nil ?_
      rintro w1 hw1
      have hb1 := after_below hw1
      clear hw1 hmc
      go_wp2
      go_end0
      refine ⟨rfl, (HS.out.mod (S := fun _ => False) (Mod.of_below hb1) fun h => h).more (Nat.le_succ _) |>.same fun k => ?_, Mod.of_below hb1⟩
      by_cases ek : k = id
      · have he : eyeB y e = false := by unfold eyeB; rw [HZ.out]; simp [hb]
        simp [HEY.out, he]
      · simp [ek]

    | true =>
      cases hx : meetX z e.bx with
      | false =>
        go_enter Try.func53, Try.ntmps53
        have hmc := more_cell
        go_upto_region 0 with fail
        refine region_quiet_all (by kernel_rfl) (by kernel_rfl) ?_
        repeat (go_big_quiet_step (fail))
        go_big_quiet_want
        refine qlook1 (.tmp 6) (.tmp 7) rfl (int_keyed Try.underlying3) Try.underlying133 zero_bool rfl (by rintro _ ⟨mm, rfl⟩; exact HFS.out.below (more_below w mm)) (.int .i64 id) (.int .i64 id) rfl HK.out trivial ?_
        simp only [Act.put, List.setIfInBounds_toArray, List.set_cons_zero, List.set_cons_succ]
        rw [HFSV.out, hT]
        simp only [Bool.false_eq_true, if_false, Option.getD_none]
        go_big_quiet_on
        repeat (go_big_quiet_step (fail))
        go_big_quiet_want
        refine qlook1 (.tmp 14) (.tmp 15) rfl (int_keyed Try.underlying3) Try.underlying118 zero_int' rfl (by rintro _ ⟨mm, rfl⟩; exact HFT.out.below (more_below w mm)) (.int .i64 id) (.int .i64 id) rfl HK.out trivial ?_
        simp only [Act.put, List.setIfInBounds_toArray, List.set_cons_zero, List.set_cons_succ]
        rw [HFTV.out]
        simp only [Option.getD_some]
        go_big_quiet_on
        repeat (go_big_quiet_step (fail))
        go_big_quiet_want
        refine qlook1 (.tmp 27) (.tmp 28) rfl (int_keyed Try.underlying3) Try.underlying117 zero_box' rfl (by rintro _ ⟨mm, rfl⟩; exact HFB.out.below (more_below w mm)) (.int .i64 id) (.int .i64 id) rfl HK.out trivial ?_
        simp only [Act.put, List.setIfInBounds_toArray, List.set_cons_zero, List.set_cons_succ]
        rw [HFBV.out]
        simp only [Option.getD_some, Bx.v]
        go_big_quiet_on
        repeat (go_big_quiet_step ((go_at_call 54; exact calls_after (meet_x z e.bx _))))
        refine wpQuiet_nil ?_
        rintro w1 hw1
        have hb1 := after_below hw1
        clear hw1 hmc
        go_wp2
        go_end0
        refine ⟨rfl, (HS.out.mod (S := fun _ => False) (Mod.of_below hb1) fun h => h).more (Nat.le_succ _) |>.same fun k => ?_, Mod.of_below hb1⟩
        by_cases ek : k = id
        · have he : eyeB y e = false := by unfold eyeB; rw [HZ.out]; simp [hb, hx]
          simp [HEY.out, he]
        · simp [ek]

      | true =>
        go_enter Try.func53, Try.ntmps53
        have hmc := more_cell
        go_upto_region 0 with fail
        refine region_quiet_all (by kernel_rfl) (by kernel_rfl) ?_
        repeat (go_big_quiet_step (fail))
        go_big_quiet_want
        refine qlook1 (.tmp 6) (.tmp 7) rfl (int_keyed Try.underlying3) Try.underlying133 zero_bool rfl (by rintro _ ⟨mm, rfl⟩; exact HFS.out.below (more_below w mm)) (.int .i64 id) (.int .i64 id) rfl HK.out trivial ?_
        simp only [Act.put, List.setIfInBounds_toArray, List.set_cons_zero, List.set_cons_succ]
        rw [HFSV.out, hT]
        simp only [Bool.false_eq_true, if_false, Option.getD_none]
        go_big_quiet_on
        repeat (go_big_quiet_step (fail))
        go_big_quiet_want
        refine qlook1 (.tmp 14) (.tmp 15) rfl (int_keyed Try.underlying3) Try.underlying118 zero_int' rfl (by rintro _ ⟨mm, rfl⟩; exact HFT.out.below (more_below w mm)) (.int .i64 id) (.int .i64 id) rfl HK.out trivial ?_
        simp only [Act.put, List.setIfInBounds_toArray, List.set_cons_zero, List.set_cons_succ]
        rw [HFTV.out]
        simp only [Option.getD_some]
        go_big_quiet_on
        repeat (go_big_quiet_step (fail))
        go_big_quiet_want
        refine qlook1 (.tmp 27) (.tmp 28) rfl (int_keyed Try.underlying3) Try.underlying117 zero_box' rfl (by rintro _ ⟨mm, rfl⟩; exact HFB.out.below (more_below w mm)) (.int .i64 id) (.int .i64 id) rfl HK.out trivial ?_
        simp only [Act.put, List.setIfInBounds_toArray, List.set_cons_zero, List.set_cons_succ]
        rw [HFBV.out]
        simp only [Option.getD_some, Bx.v]
        go_big_quiet_on
        repeat (go_big_quiet_step ((go_at_call 54; exact calls_after (meet_x z e.bx _))))
        refine wpQuiet_nil ?_
        rintro w1 hw1
        have hb1 := after_below hw1
        clear hw1 hmc
        have HF1 := Lib.hid (HF2.out.1.below hb1)
        obtain ⟨y6, d6, g6⟩   := _root_.id (HP6.out.below hb1)
        go_wp2_with (at_mapUpdate; refine at_update rfl (.tmp 32) (.tmp 33) (.const (.bool true)) rfl (int_keyed Try.underlying3) Try.underlying133 rfl HF1.out (by unfold maxLen; omega) (.int .i64 id) (.bool true) (.int .i64 id) rfl rfl HK.out trivial ?_; rintro w2 h2 k2)
        go_end0
        refine ⟨rfl, ⟨_, _, h2, fun k => ?_⟩, (Mod.of_below hb1).trans k2⟩
        unfold putF
        rw [HEY.out]
        have he : eyeB y e = true := by unfold eyeB; rw [HZ.out, hb, hx]; rfl
        by_cases ek : k = id
        · simp [ek, he]
        · rw [if_neg (fun e' => ek (by injection e')), HF2.out.2 k]
          simp [ek]
end Go.Proofs.Ytefhmbmbhiehdaa
