/- The contracts of solve.Speeds and gyreref.Speeds where the law is not Right, and of solve.Speeds for every law. Conditions: none but that there are not too many. -/
import Derived.Test.YtfagkbmphohelaaSolve13
namespace Go.Proofs.Ytfagkbmphohelaa
open Go.ChangeShapes Go.WideShapes Go.ChangeAt Go.RowKit Go.BigFrame

set_option maxRecDepth 100000 in
set_option maxHeartbeats 4000000 in
theorem speeds_0 (M _T : Nat → Nat → Int) (B1 B2 : Option Addr) (n cap0 m cap2 : Nat) (bo ru ro : Int) (w : World) (hR : Reads w B1 n 17 M) (hA0 : B1 = none → n = 0 ∧ cap0 = 0) (hn : n ≤ 1000000) (HR : Hid (¬ RightL bo ru ro)) :
    Calls Try.prog 80 #[.slice B1 n cap0, .slice B2 m cap2, .agg #[.int .i64 bo, .int .i64 ru, .int .i64 ro]] w fun e w' => ∃ A cap, e = .returned (.slice A n cap) ∧ OwnB w.heap.size w' A n M ∧ Below w.heap.size w w' := by
  go_enter Try.func80, Try.ntmps80
  go_wp2_with fail
  refine (clone_c M B1 n cap0 _ (hR.below (below_alloc _ _)) hA0 hn).mono ?_
  rintro e w1 ⟨A, cap, rfl, hO1, hb1⟩
  have L1 : Blk w1 w.heap.size #[.int .i64 bo, .int .i64 ru, .int .i64 ro] := (Blk.fresh _ _ _).below hb1
  obtain ⟨zl, cl, fl⟩ := id L1
  simp only [World.size_alloc] at hO1
  have hB1 : Below w.heap.size w w1 := (by repeat (with_reducible (first | exact Below.refl _ _ | assumption | apply ext_drew | apply ext_drewN | apply ext_alloc | apply ext_more | (refine ext_setCell ?_ (by simp <;> omega) _) | (refine ext_below ?_ (by assumption)))))
  go_wp2_with fail
  refine (right_c bo ru ro _).mono ?_
  rintro e w2 ⟨rfl, hb2⟩
  rw [decide_eq_false HR.out]
  have hO2 := hO1.below hb2
  have hB2 : Below w.heap.size w w2 := hB1.trans (hb2.mono hB1.size)
  go_wp2
  go_ret
  exact ⟨A, cap, rfl, hO2.mono (by omega), hB2⟩

set_option maxRecDepth 100000 in
set_option maxHeartbeats 4000000 in
theorem rspeeds_0 (M _T : Nat → Nat → Int) (B1 B2 : Option Addr) (n cap0 m cap2 : Nat) (bo ru ro : Int) (w : World) (hR : Reads w B1 n 17 M) (hA0 : B1 = none → n = 0 ∧ cap0 = 0) (hn : n ≤ 1000000) (HR : Hid (¬ RightL bo ru ro)) :
    Calls Try.prog 81 #[.slice B1 n cap0, .slice B2 m cap2, .agg #[.int .i64 bo, .int .i64 ru, .int .i64 ro]] w fun e w' => ∃ A cap, e = .returned (.slice A n cap) ∧ OwnB w.heap.size w' A n M ∧ Below w.heap.size w w' := by
  go_enter Try.func81, Try.ntmps81
  go_wp2_with (at_builtin; go_must (refine append_bodies rfl (.tmp 24) (.tmp 25) rfl (w.alloc (.cells #[.int .i64 bo, .int .i64 ru, .int .i64 ro] 96)) (by show Value.slice (some ⟨w.heap.size + 1, 0, none⟩) 0 0 = _; simp) M B1 n cap0 rfl (hR.below (below_alloc _ _)) hA0 hn ?_))
  rintro A cap w1 hO1 hb1
  have hb1 : Below (w.alloc (.cells #[.int .i64 bo, .int .i64 ru, .int .i64 ro] 96)).heap.size (w.alloc (.cells #[.int .i64 bo, .int .i64 ru, .int .i64 ro] 96)) w1 := by simpa using hb1
  have L1 : Blk w1 w.heap.size #[.int .i64 bo, .int .i64 ru, .int .i64 ro] := (Blk.fresh _ _ _).below hb1
  obtain ⟨zl, cl, fl⟩ := id L1
  try simp only [World.size_alloc] at hO1
  have hB1 : Below w.heap.size w w1 := (by repeat (with_reducible (first | exact Below.refl _ _ | assumption | apply ext_drew | apply ext_drewN | apply ext_alloc | apply ext_more | (refine ext_setCell ?_ (by simp <;> omega) _) | (refine ext_below ?_ (by assumption)))))
  go_wp2_with fail
  refine calls_here ?_
  rintro w2 hb2
  have L2 : Blk w2 w.heap.size #[.int .i64 bo, .int .i64 ru, .int .i64 ro] := Blk.below (by repeat (with_reducible (first | assumption | (apply Blk.at; simp; done) | apply Blk.alloc | apply Blk.drew | apply Blk.drewN | apply Blk.more | apply Blk.put | (apply Blk.far; focus (first | assumption | (apply Ne.symm; assumption) | (simp; done) | (simp <;> omega)))))) hb2
  have P2 : Blk w2 w1.heap.size #[.slice A n cap] := Blk.below (by repeat (with_reducible (first | assumption | (apply Blk.at; simp; done) | apply Blk.alloc | apply Blk.drew | apply Blk.drewN | apply Blk.more | apply Blk.put | (apply Blk.far; focus (first | assumption | (apply Ne.symm; assumption) | (simp; done) | (simp <;> omega)))))) hb2
  obtain ⟨zl2, cl2, fl2⟩ := id L2
  obtain ⟨zp2, cp2, fp2⟩ := id P2
  have hB2 : Below w.heap.size w w2 := (by repeat (with_reducible (first | exact Below.refl _ _ | assumption | apply ext_drew | apply ext_drewN | apply ext_alloc | apply ext_more | (refine ext_setCell ?_ (by simp <;> omega) _) | (refine ext_below ?_ (by assumption)))))
  have hO2 : OwnB (w.heap.size + 1) w2 A n M := hO1.below ((below_alloc w1 _).trans (hb2.mono (by simp)))
  refine (rright_c bo ru ro _).mono ?_
  rintro e w3 ⟨rfl, hb3⟩
  rw [decide_eq_false HR.out]
  have P3 : Blk w3 w1.heap.size #[.slice A n cap] := P2.below hb3
  obtain ⟨zp3, cp3, fp3⟩ := id P3
  have hO3 := hO2.below hb3
  have hB3 : Below w.heap.size w w3 := hB2.trans (hb3.mono hB2.size)
  clear L1 L2 P2 zl cl fl zl2 cl2 fl2 zp2 cp2 fp2 hO1 hO2 hB1 hB2 hb1 hb2
  go_wp2
  go_ret
  exact ⟨A, cap, rfl, hO3.mono (by omega), hB3⟩

theorem speeds_c (M T : Nat → Nat → Int) (B1 B2 : Option Addr) (n cap0 m cap2 : Nat) (bo ru ro : Int) (w : World) (hR : Reads w B1 n 17 M) (hA0 : B1 = none → n = 0 ∧ cap0 = 0) (hn : n ≤ 1000000) (hRT : Reads w B2 m 6 T) (hm : m ≤ 1000000) :
    Calls Try.prog 80 #[.slice B1 n cap0, .slice B2 m cap2, .agg #[.int .i64 bo, .int .i64 ru, .int .i64 ro]] w fun e w' => ∃ A cap, e = .returned (.slice A n cap) ∧ OwnB w.heap.size w' A n (speedsF M T n m bo ru ro) ∧ Below w.heap.size w w' := by
  by_cases hr : RightL bo ru ro
  · obtain ⟨R, rfl⟩ : ∃ R : Nat, ro = R := ⟨ro.toNat, by have := hr.2.2.1; omega⟩
    unfold speedsF
    rw [if_pos hr, Int.toNat_natCast]
    exact speeds_1 M T B1 B2 n cap0 m cap2 R bo ru w hR hA0 hn hRT hm (Lib.hid hr) hr.1 (by have := hr.2.2.2; omega)
  · unfold speedsF
    rw [if_neg hr]
    exact speeds_0 M T B1 B2 n cap0 m cap2 bo ru ro w hR hA0 hn (Lib.hid hr)

end Go.Proofs.Ytfagkbmphohelaa
