/- The contract of gyreref.out. Conditions: none. -/
import Derived.Test.YtfagkbmphohelaaTouch5
import Derived.Test.YtfagkbmphohelaaBoxes
import Derived.LoopN
import Derived.Deep.RegionHeld3
import Derived.Deep.DeepCutAuto
import Derived.Outline
import Derived.Test.YtfagkbmphohelaaMod
import Derived.LoopTactic
namespace Go.Proofs.Ytfagkbmphohelaa
open Go.ChangeShapes Go.WideShapes Go.ChangeAt Go.RowKit Go.BigFrame

/-! ### the six tries, one behind the other -/
def rStep (s : Bool × Int × Int × Int × Int) (t : Int × Int × Int × Int) : Bool × Int × Int × Int × Int := (true, if !s.1 || decide (t.2.2.2 < s.2.2.2.2) then t else s.2)
def rTries (a1 a2 a3 a4 a5 a6 b1 b2 b3 b4 b5 b6 : Int) : List (Int × Int × Int × Int) := [(65536, 0, 0, sub a4 b1), (-65536, 0, 0, sub b4 a1), (0, 65536, 0, sub a5 b2), (0, -65536, 0, sub b5 a2), (0, 0, 65536, sub a6 b3), (0, 0, -65536, sub b6 a3)]
def rSt (a1 a2 a3 a4 a5 a6 b1 b2 b3 b4 b5 b6 : Int) (n : Nat) : Bool × Int × Int × Int × Int := ((rTries a1 a2 a3 a4 a5 a6 b1 b2 b3 b4 b5 b6).take n).foldl rStep (false, 0, 0, 0, 0)
theorem tryS_if (v1 v2 v3 d : Int) (s : Int × Int × Int × Int) : tryS v1 v2 v3 d s = if d < s.2.2.2 then (v1, v2, v3, d) else s := by unfold tryS pk; split <;> rfl
theorem rStep_s {b : Bool} {s : Int × Int × Int × Int} {v1 v2 v3 d : Int} (hb : b = true) : rStep (b, s) (v1, v2, v3, d) = (true, tryS v1 v2 v3 d s) := by
  subst hb; unfold rStep; rw [tryS_if]; simp
theorem rSt_out (a1 a2 a3 a4 a5 a6 b1 b2 b3 b4 b5 b6 : Int) : (rSt a1 a2 a3 a4 a5 a6 b1 b2 b3 b4 b5 b6 6).2 = outT a1 a2 a3 a4 a5 a6 b1 b2 b3 b4 b5 b6 := by
  show (rStep (rStep (rStep (rStep (rStep (rStep (false, 0, 0, 0, 0) (65536, 0, 0, sub a4 b1)) (-65536, 0, 0, sub b4 a1)) (0, 65536, 0, sub a5 b2)) (0, -65536, 0, sub b5 a2)) (0, 0, 65536, sub a6 b3)) (0, 0, -65536, sub b6 a3)).2 = _
  have h1 : rStep (false, 0, 0, 0, 0) (65536, 0, 0, sub a4 b1) = (true, tryS 65536 0 0 (sub a4 b1) (0, 0, 0, 70368744177665)) := by
    rw [tryS_if, if_pos (by have := (sub_bd a4 b1).2; simp only; omega)]; rfl
  rw [h1, rStep_s rfl, rStep_s rfl, rStep_s rfl, rStep_s rfl, rStep_s rfl]
  rfl

theorem calls_fresh {P : Program} {f : FuncId} {args : Array Value} {w : World} {Q : Ending → World → Prop} (h : ∀ w', Below w.heap.size w w' → Calls P f args w' Q) : Calls P f args w Q := h w (Below.refl _ _)
theorem Blk.eq {w : World} {b : Nat} {cs cs' : Array Value} (h : Blk w b cs) (e : cs = cs') : Blk w b cs' := e ▸ h

theorem keep3 {w w0 w1 : World} {cs cs' cs'' : Array Value} (h : (∀ o, w0.cell? ⟨w.heap.size, o, none⟩ = cs[o]?) ∧ (∀ o, w0.cell? ⟨w.heap.size + 1, o, none⟩ = cs'[o]?) ∧ w.heap.size + 1 + 1 < w0.heap.size ∧ Blk w0 (w.heap.size + 1 + 1) cs'' ∧ Below w.heap.size w w0) (hb : Below w0.heap.size w0 w1) :
    (∀ o, w1.cell? ⟨w.heap.size, o, none⟩ = cs[o]?) ∧ (∀ o, w1.cell? ⟨w.heap.size + 1, o, none⟩ = cs'[o]?) ∧ w.heap.size + 1 + 1 < w1.heap.size ∧ Blk w1 (w.heap.size + 1 + 1) cs'' ∧ Below w.heap.size w w1 :=
  ⟨fun o => (hb.cell (p := ⟨w.heap.size, o, none⟩) (by have := h.2.2.1; simp only; omega)).trans (h.1 o), fun o => (hb.cell (p := ⟨w.heap.size + 1, o, none⟩) (by have := h.2.2.1; simp only; omega)).trans (h.2.1 o), Nat.lt_of_lt_of_le h.2.2.1 hb.size, h.2.2.2.1.below hb, ext_below h.2.2.2.2 hb⟩

set_option maxHeartbeats 2000000 in
theorem of_c (a1 a2 a3 : Int) (b : Nat) (w : World) (B : Blk w b #[.int .i64 a1, .int .i64 a2, .int .i64 a3]) : Calls Try.prog 124 #[.slice (some ⟨b, 0, none⟩) 3 3] w fun e w' => e = .returned (.agg #[.int .i64 a1, .int .i64 a2, .int .i64 a3]) ∧ Below w.heap.size w w' := by
  obtain ⟨zb, cb, fb⟩ := id B
  have hmc := more_cell
  have hmf := more_frozen
  have hml := more_lt
  go_enter Try.func124, Try.ntmps124
  go_wp2_with fail
  refine wp_fresh ?_
  rintro w1 hb1
  have B1_0 : Blk w1 (b) _ := Blk.below (by repeat (with_reducible (first | assumption | (apply Blk.at; simp; done) | apply Blk.alloc | apply Blk.drew | apply Blk.drewN | apply Blk.more | apply Blk.put | (apply Blk.far; focus (first | assumption | (apply Ne.symm; assumption) | (simp; done) | (simp <;> omega)))))) hb1
  obtain ⟨z1_0, c1_0, f1_0⟩ := id B1_0
  have B1_1 : Blk w1 (w.heap.size) _ := Blk.below (by repeat (with_reducible (first | assumption | (apply Blk.at; simp; done) | apply Blk.alloc | apply Blk.drew | apply Blk.drewN | apply Blk.more | apply Blk.put | (apply Blk.far; focus (first | assumption | (apply Ne.symm; assumption) | (simp; done) | (simp <;> omega)))))) hb1
  obtain ⟨z1_1, c1_1, f1_1⟩ := id B1_1
  refine region_quiet_but 10 (by kernel_rfl) (by kernel_rfl) ?_
  simp only [List.take_succ_cons, List.take_zero, List.drop_succ_cons, List.drop_zero]
  repeat (go_big_quiet_step ((fail)))
  refine wpQuiet_nil ?_
  rintro w2 hw2
  have hb2 := after_below hw2
  clear hw2
  have B2_0 : Blk w2 (b) _ := Blk.below (by repeat (with_reducible (first | assumption | (apply Blk.at; simp; done) | apply Blk.alloc | apply Blk.drew | apply Blk.drewN | apply Blk.more | apply Blk.put | (apply Blk.far; focus (first | assumption | (apply Ne.symm; assumption) | (simp; done) | (simp <;> omega)))))) hb2
  obtain ⟨z2_0, c2_0, f2_0⟩ := id B2_0
  have B2_1 : Blk w2 (w.heap.size) _ := Blk.below (by repeat (with_reducible (first | assumption | (apply Blk.at; simp; done) | apply Blk.alloc | apply Blk.drew | apply Blk.drewN | apply Blk.more | apply Blk.put | (apply Blk.far; focus (first | assumption | (apply Ne.symm; assumption) | (simp; done) | (simp <;> omega)))))) hb2
  obtain ⟨z2_1, c2_1, f2_1⟩ := id B2_1
  go_wp2
  exact bodyPost_ret (v := .agg #[.int .i64 a1, .int .i64 a2, .int .i64 a3]) (by simp [results, Try.results124, go_sem, *]) rfl ⟨rfl, (by repeat (with_reducible (first | exact Below.refl _ _ | assumption | apply ext_drew | apply ext_drewN | apply ext_alloc | apply ext_more | (refine ext_setCell ?_ (by simp <;> omega) _) | (refine ext_below ?_ (by assumption)))))⟩

set_option maxRecDepth 100000 in
set_option maxHeartbeats 4000000 in
theorem rout_c (a1 a2 a3 a4 a5 a6 b1 b2 b3 b4 b5 b6 : Int) (w : World) : Calls Try.prog 113 #[.agg #[.int .i64 a1, .int .i64 a2, .int .i64 a3, .int .i64 a4, .int .i64 a5, .int .i64 a6], .agg #[.int .i64 b1, .int .i64 b2, .int .i64 b3, .int .i64 b4, .int .i64 b5, .int .i64 b6]] w fun e w' => e = .returned (.tuple #[.agg #[.int .i64 (outT a1 a2 a3 a4 a5 a6 b1 b2 b3 b4 b5 b6).1, .int .i64 (outT a1 a2 a3 a4 a5 a6 b1 b2 b3 b4 b5 b6).2.1, .int .i64 (outT a1 a2 a3 a4 a5 a6 b1 b2 b3 b4 b5 b6).2.2.1], .int .i64 (outT a1 a2 a3 a4 a5 a6 b1 b2 b3 b4 b5 b6).2.2.2]) ∧ Below w.heap.size w w' := by
  have hmc := more_cell
  have hmf := more_frozen
  have hml := more_lt
  go_enter Try.func113, Try.ntmps113
  go_wp2
  go_region_held3 (fun w' => (∀ o, w'.cell? ⟨w.heap.size, o, none⟩ = (#[.int .i64 a1, .int .i64 a2, .int .i64 a3, .int .i64 a4, .int .i64 a5, .int .i64 a6] : Array Value)[o]?) ∧ (∀ o, w'.cell? ⟨w.heap.size + 1, o, none⟩ = (#[.int .i64 b1, .int .i64 b2, .int .i64 b3, .int .i64 b4, .int .i64 b5, .int .i64 b6] : Array Value)[o]?) ∧ w.heap.size + 1 + 1 < w'.heap.size ∧ Blk w' (w.heap.size + 1 + 1) #[.int .i64 0, .int .i64 0, .int .i64 0] ∧ Below w.heap.size w w')
    (first | assumption | exact ⟨fun o => by simp [go_sem], fun o => by simp [go_sem], by simp <;> omega, (by repeat (with_reducible (first | assumption | (apply Blk.at; simp; done) | apply Blk.alloc | apply Blk.drew | apply Blk.drewN | apply Blk.more | apply Blk.put | (apply Blk.far; focus (first | assumption | (apply Ne.symm; assumption) | (simp; done) | (simp <;> omega)))))), (by repeat (with_reducible (first | exact Below.refl _ _ | assumption | apply ext_drew | apply ext_drewN | apply ext_alloc | apply ext_more | (refine ext_setCell ?_ (by simp <;> omega) _) | (refine ext_below ?_ (by assumption)))))⟩)
    (first
      | (go_at_call_of 87 (Value.agg #[Value.int IntKind.i64 a1, Value.int IntKind.i64 a2, Value.int IntKind.i64 a3]); refine (parts_c _ _ _ _).mono ?_; rintro e w1 ⟨rfl, B1, hb1⟩; have hS1 := keep3 (by assumption) hb1)
      | (go_at_call_of 87 (Value.agg #[Value.int IntKind.i64 a4, Value.int IntKind.i64 a5, Value.int IntKind.i64 a6]); refine (parts_c _ _ _ _).mono ?_; rintro e w2 ⟨rfl, B2, hb2⟩; have hS2 := keep3 (by assumption) hb2)
      | (go_at_call_of 87 (Value.agg #[Value.int IntKind.i64 b1, Value.int IntKind.i64 b2, Value.int IntKind.i64 b3]); refine (parts_c _ _ _ _).mono ?_; rintro e w3 ⟨rfl, B3, hb3⟩; have hS3 := keep3 (by assumption) hb3)
      | (go_at_call_of 87 (Value.agg #[Value.int IntKind.i64 b4, Value.int IntKind.i64 b5, Value.int IntKind.i64 b6]); refine (parts_c _ _ _ _).mono ?_; rintro e w4 ⟨rfl, B4, hb4⟩; have hS4 := keep3 (by assumption) hb4))
  simp only [World.size_alloc, World.size_drew] at B1
  have C1 := ((B1.below hb2).below hb3).below hb4
  have C2 := (B2.below hb3).below hb4
  have C3 := B3.below hb4
  have C4 := B4
  have C5 := hS4.2.2.2.1
  have hB4 := hS4.2.2.2.2
  clear hS1 hS2 hS3 hS4
  go_wp2
  refine wp_fresh ?_
  rintro w5 hb5
  have D1 : Blk w5 (w.heap.size + 1 + 1 + 1 + 1) #[.int .i64 a1, .int .i64 a2, .int .i64 a3] := Blk.below ((C1).alloc _) hb5
  have D2 : Blk w5 (w1.heap.size + 1) #[.int .i64 a4, .int .i64 a5, .int .i64 a6] := Blk.below ((C2).alloc _) hb5
  have D3 : Blk w5 (w2.heap.size + 1) #[.int .i64 b1, .int .i64 b2, .int .i64 b3] := Blk.below ((C3).alloc _) hb5
  have D4 : Blk w5 (w3.heap.size + 1) #[.int .i64 b4, .int .i64 b5, .int .i64 b6] := Blk.below ((C4).alloc _) hb5
  have D5 : Blk w5 (w.heap.size + 1 + 1) #[.int .i64 0, .int .i64 0, .int .i64 0] := Blk.below ((C5).alloc _) hb5
  have D6 : Blk w5 (w4.heap.size) #[.int .i64 0, .int .i64 0, .int .i64 0] := Blk.below (Blk.fresh _ _ _) hb5
  have hB5 : Below w.heap.size w w5 := ext_below (ext_alloc hB4 _) hb5
  have n1 : w.heap.size + 1 + 1 + 1 + 1 ≠ w4.heap.size := by have := (C1).lt; omega
  have n2 : w1.heap.size + 1 ≠ w4.heap.size := by have := (C2).lt; omega
  have n3 : w2.heap.size + 1 ≠ w4.heap.size := by have := (C3).lt; omega
  have n4 : w3.heap.size + 1 ≠ w4.heap.size := by have := (C4).lt; omega
  have n5 : w.heap.size + 1 + 1 ≠ w4.heap.size := by have := (C5).lt; omega
  have hgw : w.heap.size ≤ w4.heap.size := hB4.size
  clear C1 C2 C3 C4 C5 B1 B2 B3 B4 hb1 hb2 hb3 hb4 hb5 hB4
  go_loopw [11, 12, 30] (fun best some i wr => ∃ k n : Nat, n = 2 * k ∧ k ≤ 3 ∧ i = .int .i64 k ∧ best = .int .i64 (rSt a1 a2 a3 a4 a5 a6 b1 b2 b3 b4 b5 b6 n).2.2.2.2 ∧ some = .bool (rSt a1 a2 a3 a4 a5 a6 b1 b2 b3 b4 b5 b6 n).1 ∧ Blk wr (w4.heap.size) #[.int .i64 (rSt a1 a2 a3 a4 a5 a6 b1 b2 b3 b4 b5 b6 n).2.1, .int .i64 (rSt a1 a2 a3 a4 a5 a6 b1 b2 b3 b4 b5 b6 n).2.2.1, .int .i64 (rSt a1 a2 a3 a4 a5 a6 b1 b2 b3 b4 b5 b6 n).2.2.2.1] ∧ Mod (· = w4.heap.size) w5 wr) (fun _ _ i _ => 3 - (intOf i).toNat)
  case atStart => exact ⟨0, 0, rfl, by omega, rfl, rfl, rfl, D6, Mod.refl _ _⟩
  case round =>
    obtain ⟨k, n, hn, hk, rfl, rfl, rfl, hW, hM⟩ := hrel
    obtain ⟨wo, rfl⟩ : ∃ wo : World, wo = wr := ⟨_, rfl⟩
    by_cases hlt : k < 3
    · rcases (show k = 0 ∨ k = 1 ∨ k = 2 by omega) with rfl | rfl | rfl
      · obtain rfl : n = 0 := by omega
        clear hn hk hlt
        go_wp2_with fail
        go_loopw [11, 12, 35] (fun best some j wr => ∃ m n : Nat, n = 0 + m ∧ m ≤ 2 ∧ j = .int .i64 m ∧ best = .int .i64 (rSt a1 a2 a3 a4 a5 a6 b1 b2 b3 b4 b5 b6 n).2.2.2.2 ∧ some = .bool (rSt a1 a2 a3 a4 a5 a6 b1 b2 b3 b4 b5 b6 n).1 ∧ Blk wr (w4.heap.size) #[.int .i64 (rSt a1 a2 a3 a4 a5 a6 b1 b2 b3 b4 b5 b6 n).2.1, .int .i64 (rSt a1 a2 a3 a4 a5 a6 b1 b2 b3 b4 b5 b6 n).2.2.1, .int .i64 (rSt a1 a2 a3 a4 a5 a6 b1 b2 b3 b4 b5 b6 n).2.2.2.1] ∧ Mod (· = w4.heap.size) w5 wr ∧ Blk wr (wo.heap.size) #[.bool true, .bool false]) (fun _ _ j _ => 2 - (intOf j).toNat)
        case atStart => exact ⟨0, 0, rfl, by omega, rfl, rfl, rfl, hW.alloc _, hM.alloc _, Blk.fresh _ _ _⟩
        case round =>
          obtain ⟨m, n, hn, hm, rfl, rfl, rfl, hW2, hM2, hG⟩ := hrel
          have E1 : Blk wr (w.heap.size + 1 + 1 + 1 + 1) #[.int .i64 a1, .int .i64 a2, .int .i64 a3] := D1.mod hM2 n1
          have E2 : Blk wr (w1.heap.size + 1) #[.int .i64 a4, .int .i64 a5, .int .i64 a6] := D2.mod hM2 n2
          have E3 : Blk wr (w2.heap.size + 1) #[.int .i64 b1, .int .i64 b2, .int .i64 b3] := D3.mod hM2 n3
          have E4 : Blk wr (w3.heap.size + 1) #[.int .i64 b4, .int .i64 b5, .int .i64 b6] := D4.mod hM2 n4
          obtain ⟨zz0, cc0, ff0⟩ := id E1
          obtain ⟨zz1, cc1, ff1⟩ := id E2
          obtain ⟨zz2, cc2, ff2⟩ := id E3
          obtain ⟨zz3, cc3, ff3⟩ := id E4
          obtain ⟨zz4, cc4, ff4⟩ := id hW2
          obtain ⟨zz5, cc5, ff5⟩ := id hG
          have hsz : w5.heap.size ≤ wr.heap.size := hM2.size
          have ng : wo.heap.size ≠ w4.heap.size := by have := hW.lt; omega
          by_cases hlt2 : m < 2
          · rcases (show m = 0 ∨ m = 1 by omega) with rfl | rfl
            · obtain rfl : n = 0 := by omega
              clear hn hm hlt2
              have hs1 : (rSt a1 a2 a3 a4 a5 a6 b1 b2 b3 b4 b5 b6 0).1 = false := rfl
              have HR : Hid ((rSt a1 a2 a3 a4 a5 a6 b1 b2 b3 b4 b5 b6 1) = (true, 65536, 0, 0, (sub a4 b1))) := by
                show rStep (rSt a1 a2 a3 a4 a5 a6 b1 b2 b3 b4 b5 b6 0) (65536, 0, 0, (sub a4 b1)) = _
                unfold rStep
                rw [hs1]
                simp
              go_wp2_with fail
              refine wp_fresh ?_
              rintro w10 hb10
              have B10_0 : Blk w10 (w.heap.size + 1 + 1 + 1 + 1) _ := Blk.below (by repeat (with_reducible (first | assumption | (apply Blk.at; simp; done) | apply Blk.alloc | apply Blk.drew | apply Blk.drewN | apply Blk.more | apply Blk.put | (apply Blk.far; focus (first | assumption | (apply Ne.symm; assumption) | (simp; done) | (simp <;> omega)))))) hb10
              obtain ⟨z10_0, c10_0, f10_0⟩ := id B10_0
              have B10_1 : Blk w10 (w1.heap.size + 1) _ := Blk.below (by repeat (with_reducible (first | assumption | (apply Blk.at; simp; done) | apply Blk.alloc | apply Blk.drew | apply Blk.drewN | apply Blk.more | apply Blk.put | (apply Blk.far; focus (first | assumption | (apply Ne.symm; assumption) | (simp; done) | (simp <;> omega)))))) hb10
              obtain ⟨z10_1, c10_1, f10_1⟩ := id B10_1
              have B10_2 : Blk w10 (w2.heap.size + 1) _ := Blk.below (by repeat (with_reducible (first | assumption | (apply Blk.at; simp; done) | apply Blk.alloc | apply Blk.drew | apply Blk.drewN | apply Blk.more | apply Blk.put | (apply Blk.far; focus (first | assumption | (apply Ne.symm; assumption) | (simp; done) | (simp <;> omega)))))) hb10
              obtain ⟨z10_2, c10_2, f10_2⟩ := id B10_2
              have B10_3 : Blk w10 (w3.heap.size + 1) _ := Blk.below (by repeat (with_reducible (first | assumption | (apply Blk.at; simp; done) | apply Blk.alloc | apply Blk.drew | apply Blk.drewN | apply Blk.more | apply Blk.put | (apply Blk.far; focus (first | assumption | (apply Ne.symm; assumption) | (simp; done) | (simp <;> omega)))))) hb10
              obtain ⟨z10_3, c10_3, f10_3⟩ := id B10_3
              have B10_4 : Blk w10 (w4.heap.size) _ := Blk.below (by repeat (with_reducible (first | assumption | (apply Blk.at; simp; done) | apply Blk.alloc | apply Blk.drew | apply Blk.drewN | apply Blk.more | apply Blk.put | (apply Blk.far; focus (first | assumption | (apply Ne.symm; assumption) | (simp; done) | (simp <;> omega)))))) hb10
              obtain ⟨z10_4, c10_4, f10_4⟩ := id B10_4
              have B10_5 : Blk w10 (wo.heap.size) _ := Blk.below (by repeat (with_reducible (first | assumption | (apply Blk.at; simp; done) | apply Blk.alloc | apply Blk.drew | apply Blk.drewN | apply Blk.more | apply Blk.put | (apply Blk.far; focus (first | assumption | (apply Ne.symm; assumption) | (simp; done) | (simp <;> omega)))))) hb10
              obtain ⟨z10_5, c10_5, f10_5⟩ := id B10_5
              have B10_6 : Blk w10 (wr.heap.size) _ := Blk.below (by repeat (with_reducible (first | assumption | (apply Blk.at; simp; done) | apply Blk.alloc | apply Blk.drew | apply Blk.drewN | apply Blk.more | apply Blk.put | (apply Blk.far; focus (first | assumption | (apply Ne.symm; assumption) | (simp; done) | (simp <;> omega)))))) hb10
              obtain ⟨z10_6, c10_6, f10_6⟩ := id B10_6
              refine region_quiet_but 12 (by kernel_rfl) (by kernel_rfl) ?_
              simp only [List.take_succ_cons, List.take_zero, List.drop_succ_cons, List.drop_zero]
              repeat (go_big_quiet_step ((go_at_call 53; exact calls_after_same (rsub_c _ _ _))))
              refine wpQuiet_nil ?_
              rintro w11 hw11
              have hb11 := after_below hw11
              clear hw11
              have B11_0 : Blk w11 (w.heap.size + 1 + 1 + 1 + 1) _ := Blk.below (by repeat (with_reducible (first | assumption | (apply Blk.at; simp; done) | apply Blk.alloc | apply Blk.drew | apply Blk.drewN | apply Blk.more | apply Blk.put | (apply Blk.far; focus (first | assumption | (apply Ne.symm; assumption) | (simp; done) | (simp <;> omega)))))) hb11
              obtain ⟨z11_0, c11_0, f11_0⟩ := id B11_0
              have B11_1 : Blk w11 (w1.heap.size + 1) _ := Blk.below (by repeat (with_reducible (first | assumption | (apply Blk.at; simp; done) | apply Blk.alloc | apply Blk.drew | apply Blk.drewN | apply Blk.more | apply Blk.put | (apply Blk.far; focus (first | assumption | (apply Ne.symm; assumption) | (simp; done) | (simp <;> omega)))))) hb11
              obtain ⟨z11_1, c11_1, f11_1⟩ := id B11_1
              have B11_2 : Blk w11 (w2.heap.size + 1) _ := Blk.below (by repeat (with_reducible (first | assumption | (apply Blk.at; simp; done) | apply Blk.alloc | apply Blk.drew | apply Blk.drewN | apply Blk.more | apply Blk.put | (apply Blk.far; focus (first | assumption | (apply Ne.symm; assumption) | (simp; done) | (simp <;> omega)))))) hb11
              obtain ⟨z11_2, c11_2, f11_2⟩ := id B11_2
              have B11_3 : Blk w11 (w3.heap.size + 1) _ := Blk.below (by repeat (with_reducible (first | assumption | (apply Blk.at; simp; done) | apply Blk.alloc | apply Blk.drew | apply Blk.drewN | apply Blk.more | apply Blk.put | (apply Blk.far; focus (first | assumption | (apply Ne.symm; assumption) | (simp; done) | (simp <;> omega)))))) hb11
              obtain ⟨z11_3, c11_3, f11_3⟩ := id B11_3
              have B11_4 : Blk w11 (w4.heap.size) _ := Blk.below (by repeat (with_reducible (first | assumption | (apply Blk.at; simp; done) | apply Blk.alloc | apply Blk.drew | apply Blk.drewN | apply Blk.more | apply Blk.put | (apply Blk.far; focus (first | assumption | (apply Ne.symm; assumption) | (simp; done) | (simp <;> omega)))))) hb11
              obtain ⟨z11_4, c11_4, f11_4⟩ := id B11_4
              have B11_5 : Blk w11 (wo.heap.size) _ := Blk.below (by repeat (with_reducible (first | assumption | (apply Blk.at; simp; done) | apply Blk.alloc | apply Blk.drew | apply Blk.drewN | apply Blk.more | apply Blk.put | (apply Blk.far; focus (first | assumption | (apply Ne.symm; assumption) | (simp; done) | (simp <;> omega)))))) hb11
              obtain ⟨z11_5, c11_5, f11_5⟩ := id B11_5
              have B11_6 : Blk w11 (wr.heap.size) _ := Blk.below (by repeat (with_reducible (first | assumption | (apply Blk.at; simp; done) | apply Blk.alloc | apply Blk.drew | apply Blk.drewN | apply Blk.more | apply Blk.put | (apply Blk.far; focus (first | assumption | (apply Ne.symm; assumption) | (simp; done) | (simp <;> omega)))))) hb11
              obtain ⟨z11_6, c11_6, f11_6⟩ := id B11_6
              go_wp2_with fail
              go_wp2_with fail
              refine calls_fresh ?_
              rintro w12 hb12
              have B12_0 : Blk w12 (w.heap.size + 1 + 1 + 1 + 1) _ := Blk.below (by repeat (with_reducible (first | assumption | (apply Blk.at; simp; done) | apply Blk.alloc | apply Blk.drew | apply Blk.drewN | apply Blk.more | apply Blk.put | (apply Blk.far; focus (first | assumption | (apply Ne.symm; assumption) | (simp; done) | (simp <;> omega)))))) hb12
              obtain ⟨z12_0, c12_0, f12_0⟩ := id B12_0
              have B12_1 : Blk w12 (w1.heap.size + 1) _ := Blk.below (by repeat (with_reducible (first | assumption | (apply Blk.at; simp; done) | apply Blk.alloc | apply Blk.drew | apply Blk.drewN | apply Blk.more | apply Blk.put | (apply Blk.far; focus (first | assumption | (apply Ne.symm; assumption) | (simp; done) | (simp <;> omega)))))) hb12
              obtain ⟨z12_1, c12_1, f12_1⟩ := id B12_1
              have B12_2 : Blk w12 (w2.heap.size + 1) _ := Blk.below (by repeat (with_reducible (first | assumption | (apply Blk.at; simp; done) | apply Blk.alloc | apply Blk.drew | apply Blk.drewN | apply Blk.more | apply Blk.put | (apply Blk.far; focus (first | assumption | (apply Ne.symm; assumption) | (simp; done) | (simp <;> omega)))))) hb12
              obtain ⟨z12_2, c12_2, f12_2⟩ := id B12_2
              have B12_3 : Blk w12 (w3.heap.size + 1) _ := Blk.below (by repeat (with_reducible (first | assumption | (apply Blk.at; simp; done) | apply Blk.alloc | apply Blk.drew | apply Blk.drewN | apply Blk.more | apply Blk.put | (apply Blk.far; focus (first | assumption | (apply Ne.symm; assumption) | (simp; done) | (simp <;> omega)))))) hb12
              obtain ⟨z12_3, c12_3, f12_3⟩ := id B12_3
              have B12_4 : Blk w12 (w4.heap.size) _ := Blk.below (by repeat (with_reducible (first | assumption | (apply Blk.at; simp; done) | apply Blk.alloc | apply Blk.drew | apply Blk.drewN | apply Blk.more | apply Blk.put | (apply Blk.far; focus (first | assumption | (apply Ne.symm; assumption) | (simp; done) | (simp <;> omega)))))) hb12
              obtain ⟨z12_4, c12_4, f12_4⟩ := id B12_4
              have B12_5 : Blk w12 (wo.heap.size) _ := Blk.below (by repeat (with_reducible (first | assumption | (apply Blk.at; simp; done) | apply Blk.alloc | apply Blk.drew | apply Blk.drewN | apply Blk.more | apply Blk.put | (apply Blk.far; focus (first | assumption | (apply Ne.symm; assumption) | (simp; done) | (simp <;> omega)))))) hb12
              obtain ⟨z12_5, c12_5, f12_5⟩ := id B12_5
              have B12_6 : Blk w12 (wr.heap.size) _ := Blk.below (by repeat (with_reducible (first | assumption | (apply Blk.at; simp; done) | apply Blk.alloc | apply Blk.drew | apply Blk.drewN | apply Blk.more | apply Blk.put | (apply Blk.far; focus (first | assumption | (apply Ne.symm; assumption) | (simp; done) | (simp <;> omega)))))) hb12
              try simp only [List.setIfInBounds_toArray, List.set_cons_zero] at B12_6
              obtain ⟨z12_6, c12_6, f12_6⟩ := id B12_6
              refine (of_c _ _ _ _ _ B12_6).mono ?_
              rintro e w13 ⟨rfl, hb13⟩
              have B13_0 : Blk w13 (w.heap.size + 1 + 1 + 1 + 1) _ := Blk.below (by repeat (with_reducible (first | assumption | (apply Blk.at; simp; done) | apply Blk.alloc | apply Blk.drew | apply Blk.drewN | apply Blk.more | apply Blk.put | (apply Blk.far; focus (first | assumption | (apply Ne.symm; assumption) | (simp; done) | (simp <;> omega)))))) hb13
              obtain ⟨z13_0, c13_0, f13_0⟩ := id B13_0
              have B13_1 : Blk w13 (w1.heap.size + 1) _ := Blk.below (by repeat (with_reducible (first | assumption | (apply Blk.at; simp; done) | apply Blk.alloc | apply Blk.drew | apply Blk.drewN | apply Blk.more | apply Blk.put | (apply Blk.far; focus (first | assumption | (apply Ne.symm; assumption) | (simp; done) | (simp <;> omega)))))) hb13
              obtain ⟨z13_1, c13_1, f13_1⟩ := id B13_1
              have B13_2 : Blk w13 (w2.heap.size + 1) _ := Blk.below (by repeat (with_reducible (first | assumption | (apply Blk.at; simp; done) | apply Blk.alloc | apply Blk.drew | apply Blk.drewN | apply Blk.more | apply Blk.put | (apply Blk.far; focus (first | assumption | (apply Ne.symm; assumption) | (simp; done) | (simp <;> omega)))))) hb13
              obtain ⟨z13_2, c13_2, f13_2⟩ := id B13_2
              have B13_3 : Blk w13 (w3.heap.size + 1) _ := Blk.below (by repeat (with_reducible (first | assumption | (apply Blk.at; simp; done) | apply Blk.alloc | apply Blk.drew | apply Blk.drewN | apply Blk.more | apply Blk.put | (apply Blk.far; focus (first | assumption | (apply Ne.symm; assumption) | (simp; done) | (simp <;> omega)))))) hb13
              obtain ⟨z13_3, c13_3, f13_3⟩ := id B13_3
              have B13_4 : Blk w13 (w4.heap.size) _ := Blk.below (by repeat (with_reducible (first | assumption | (apply Blk.at; simp; done) | apply Blk.alloc | apply Blk.drew | apply Blk.drewN | apply Blk.more | apply Blk.put | (apply Blk.far; focus (first | assumption | (apply Ne.symm; assumption) | (simp; done) | (simp <;> omega)))))) hb13
              obtain ⟨z13_4, c13_4, f13_4⟩ := id B13_4
              have B13_5 : Blk w13 (wo.heap.size) _ := Blk.below (by repeat (with_reducible (first | assumption | (apply Blk.at; simp; done) | apply Blk.alloc | apply Blk.drew | apply Blk.drewN | apply Blk.more | apply Blk.put | (apply Blk.far; focus (first | assumption | (apply Ne.symm; assumption) | (simp; done) | (simp <;> omega)))))) hb13
              obtain ⟨z13_5, c13_5, f13_5⟩ := id B13_5
              have B13_6 : Blk w13 (wr.heap.size) _ := Blk.below (by repeat (with_reducible (first | assumption | (apply Blk.at; simp; done) | apply Blk.alloc | apply Blk.drew | apply Blk.drewN | apply Blk.more | apply Blk.put | (apply Blk.far; focus (first | assumption | (apply Ne.symm; assumption) | (simp; done) | (simp <;> omega)))))) hb13
              obtain ⟨z13_6, c13_6, f13_6⟩ := id B13_6
              go_wp2_with fail
              go_roundw
              case rel =>
                repeat apply Exists.intro
                refine ⟨?_, rfl⟩
                refine ⟨1, 1, rfl, by omega, rfl, ?_, ?_, ?_, ?_, ?_⟩
                · rw [HR.out]
                · rw [HR.out]
                · rw [HR.out]; apply Blk.eq; exact (by repeat (with_reducible (first | assumption | (apply Blk.at; simp; done) | apply Blk.alloc | apply Blk.drew | apply Blk.drewN | apply Blk.more | apply Blk.put | (apply Blk.far; focus (first | assumption | (apply Ne.symm; assumption) | (simp; done) | (simp <;> omega)))))); first | rfl | simp
                · exact (by repeat (with_reducible (first | assumption | apply Mod.alloc | apply Mod.drew | apply Mod.drewN | apply Mod.more | (apply Mod.set; rotate_left; focus (first | (left; exact rfl) | (right; assumption))) | (apply Mod.below; rotate_left; focus assumption))))
                · exact (by repeat (with_reducible (first | assumption | (apply Blk.at; simp; done) | apply Blk.alloc | apply Blk.drew | apply Blk.drewN | apply Blk.more | apply Blk.put | (apply Blk.far; focus (first | assumption | (apply Ne.symm; assumption) | (simp; done) | (simp <;> omega))))))
              case measure => simp [intOf]
            · obtain rfl : n = 1 := by omega
              clear hn hm hlt2
              have hs1 : (rSt a1 a2 a3 a4 a5 a6 b1 b2 b3 b4 b5 b6 1).1 = true := rfl
              by_cases hd : (sub b4 a1) < (rSt a1 a2 a3 a4 a5 a6 b1 b2 b3 b4 b5 b6 1).2.2.2.2
              · have HR : Hid ((rSt a1 a2 a3 a4 a5 a6 b1 b2 b3 b4 b5 b6 2) = (true, -65536, 0, 0, (sub b4 a1))) := by
                  show rStep (rSt a1 a2 a3 a4 a5 a6 b1 b2 b3 b4 b5 b6 1) (-65536, 0, 0, (sub b4 a1)) = _
                  unfold rStep
                  rw [hs1]
                  simp [hd]
                go_wp2_with fail
                refine wp_fresh ?_
                rintro w10 hb10
                have B10_0 : Blk w10 (w.heap.size + 1 + 1 + 1 + 1) _ := Blk.below (by repeat (with_reducible (first | assumption | (apply Blk.at; simp; done) | apply Blk.alloc | apply Blk.drew | apply Blk.drewN | apply Blk.more | apply Blk.put | (apply Blk.far; focus (first | assumption | (apply Ne.symm; assumption) | (simp; done) | (simp <;> omega)))))) hb10
                obtain ⟨z10_0, c10_0, f10_0⟩ := id B10_0
                have B10_1 : Blk w10 (w1.heap.size + 1) _ := Blk.below (by repeat (with_reducible (first | assumption | (apply Blk.at; simp; done) | apply Blk.alloc | apply Blk.drew | apply Blk.drewN | apply Blk.more | apply Blk.put | (apply Blk.far; focus (first | assumption | (apply Ne.symm; assumption) | (simp; done) | (simp <;> omega)))))) hb10
                obtain ⟨z10_1, c10_1, f10_1⟩ := id B10_1
                have B10_2 : Blk w10 (w2.heap.size + 1) _ := Blk.below (by repeat (with_reducible (first | assumption | (apply Blk.at; simp; done) | apply Blk.alloc | apply Blk.drew | apply Blk.drewN | apply Blk.more | apply Blk.put | (apply Blk.far; focus (first | assumption | (apply Ne.symm; assumption) | (simp; done) | (simp <;> omega)))))) hb10
                obtain ⟨z10_2, c10_2, f10_2⟩ := id B10_2
                have B10_3 : Blk w10 (w3.heap.size + 1) _ := Blk.below (by repeat (with_reducible (first | assumption | (apply Blk.at; simp; done) | apply Blk.alloc | apply Blk.drew | apply Blk.drewN | apply Blk.more | apply Blk.put | (apply Blk.far; focus (first | assumption | (apply Ne.symm; assumption) | (simp; done) | (simp <;> omega)))))) hb10
                obtain ⟨z10_3, c10_3, f10_3⟩ := id B10_3
                have B10_4 : Blk w10 (w4.heap.size) _ := Blk.below (by repeat (with_reducible (first | assumption | (apply Blk.at; simp; done) | apply Blk.alloc | apply Blk.drew | apply Blk.drewN | apply Blk.more | apply Blk.put | (apply Blk.far; focus (first | assumption | (apply Ne.symm; assumption) | (simp; done) | (simp <;> omega)))))) hb10
                obtain ⟨z10_4, c10_4, f10_4⟩ := id B10_4
                have B10_5 : Blk w10 (wo.heap.size) _ := Blk.below (by repeat (with_reducible (first | assumption | (apply Blk.at; simp; done) | apply Blk.alloc | apply Blk.drew | apply Blk.drewN | apply Blk.more | apply Blk.put | (apply Blk.far; focus (first | assumption | (apply Ne.symm; assumption) | (simp; done) | (simp <;> omega)))))) hb10
                obtain ⟨z10_5, c10_5, f10_5⟩ := id B10_5
                have B10_6 : Blk w10 (wr.heap.size) _ := Blk.below (by repeat (with_reducible (first | assumption | (apply Blk.at; simp; done) | apply Blk.alloc | apply Blk.drew | apply Blk.drewN | apply Blk.more | apply Blk.put | (apply Blk.far; focus (first | assumption | (apply Ne.symm; assumption) | (simp; done) | (simp <;> omega)))))) hb10
                obtain ⟨z10_6, c10_6, f10_6⟩ := id B10_6
                refine region_quiet_but 12 (by kernel_rfl) (by kernel_rfl) ?_
                simp only [List.take_succ_cons, List.take_zero, List.drop_succ_cons, List.drop_zero]
                repeat (go_big_quiet_step ((go_at_call 53; exact calls_after_same (rsub_c _ _ _))))
                refine wpQuiet_nil ?_
                rintro w11 hw11
                have hb11 := after_below hw11
                clear hw11
                have B11_0 : Blk w11 (w.heap.size + 1 + 1 + 1 + 1) _ := Blk.below (by repeat (with_reducible (first | assumption | (apply Blk.at; simp; done) | apply Blk.alloc | apply Blk.drew | apply Blk.drewN | apply Blk.more | apply Blk.put | (apply Blk.far; focus (first | assumption | (apply Ne.symm; assumption) | (simp; done) | (simp <;> omega)))))) hb11
                obtain ⟨z11_0, c11_0, f11_0⟩ := id B11_0
                have B11_1 : Blk w11 (w1.heap.size + 1) _ := Blk.below (by repeat (with_reducible (first | assumption | (apply Blk.at; simp; done) | apply Blk.alloc | apply Blk.drew | apply Blk.drewN | apply Blk.more | apply Blk.put | (apply Blk.far; focus (first | assumption | (apply Ne.symm; assumption) | (simp; done) | (simp <;> omega)))))) hb11
                obtain ⟨z11_1, c11_1, f11_1⟩ := id B11_1
                have B11_2 : Blk w11 (w2.heap.size + 1) _ := Blk.below (by repeat (with_reducible (first | assumption | (apply Blk.at; simp; done) | apply Blk.alloc | apply Blk.drew | apply Blk.drewN | apply Blk.more | apply Blk.put | (apply Blk.far; focus (first | assumption | (apply Ne.symm; assumption) | (simp; done) | (simp <;> omega)))))) hb11
                obtain ⟨z11_2, c11_2, f11_2⟩ := id B11_2
                have B11_3 : Blk w11 (w3.heap.size + 1) _ := Blk.below (by repeat (with_reducible (first | assumption | (apply Blk.at; simp; done) | apply Blk.alloc | apply Blk.drew | apply Blk.drewN | apply Blk.more | apply Blk.put | (apply Blk.far; focus (first | assumption | (apply Ne.symm; assumption) | (simp; done) | (simp <;> omega)))))) hb11
                obtain ⟨z11_3, c11_3, f11_3⟩ := id B11_3
                have B11_4 : Blk w11 (w4.heap.size) _ := Blk.below (by repeat (with_reducible (first | assumption | (apply Blk.at; simp; done) | apply Blk.alloc | apply Blk.drew | apply Blk.drewN | apply Blk.more | apply Blk.put | (apply Blk.far; focus (first | assumption | (apply Ne.symm; assumption) | (simp; done) | (simp <;> omega)))))) hb11
                obtain ⟨z11_4, c11_4, f11_4⟩ := id B11_4
                have B11_5 : Blk w11 (wo.heap.size) _ := Blk.below (by repeat (with_reducible (first | assumption | (apply Blk.at; simp; done) | apply Blk.alloc | apply Blk.drew | apply Blk.drewN | apply Blk.more | apply Blk.put | (apply Blk.far; focus (first | assumption | (apply Ne.symm; assumption) | (simp; done) | (simp <;> omega)))))) hb11
                obtain ⟨z11_5, c11_5, f11_5⟩ := id B11_5
                have B11_6 : Blk w11 (wr.heap.size) _ := Blk.below (by repeat (with_reducible (first | assumption | (apply Blk.at; simp; done) | apply Blk.alloc | apply Blk.drew | apply Blk.drewN | apply Blk.more | apply Blk.put | (apply Blk.far; focus (first | assumption | (apply Ne.symm; assumption) | (simp; done) | (simp <;> omega)))))) hb11
                obtain ⟨z11_6, c11_6, f11_6⟩ := id B11_6
                go_wp2_with fail
                go_wp2_with fail
                refine calls_fresh ?_
                rintro w12 hb12
                have B12_0 : Blk w12 (w.heap.size + 1 + 1 + 1 + 1) _ := Blk.below (by repeat (with_reducible (first | assumption | (apply Blk.at; simp; done) | apply Blk.alloc | apply Blk.drew | apply Blk.drewN | apply Blk.more | apply Blk.put | (apply Blk.far; focus (first | assumption | (apply Ne.symm; assumption) | (simp; done) | (simp <;> omega)))))) hb12
                obtain ⟨z12_0, c12_0, f12_0⟩ := id B12_0
                have B12_1 : Blk w12 (w1.heap.size + 1) _ := Blk.below (by repeat (with_reducible (first | assumption | (apply Blk.at; simp; done) | apply Blk.alloc | apply Blk.drew | apply Blk.drewN | apply Blk.more | apply Blk.put | (apply Blk.far; focus (first | assumption | (apply Ne.symm; assumption) | (simp; done) | (simp <;> omega)))))) hb12
                obtain ⟨z12_1, c12_1, f12_1⟩ := id B12_1
                have B12_2 : Blk w12 (w2.heap.size + 1) _ := Blk.below (by repeat (with_reducible (first | assumption | (apply Blk.at; simp; done) | apply Blk.alloc | apply Blk.drew | apply Blk.drewN | apply Blk.more | apply Blk.put | (apply Blk.far; focus (first | assumption | (apply Ne.symm; assumption) | (simp; done) | (simp <;> omega)))))) hb12
                obtain ⟨z12_2, c12_2, f12_2⟩ := id B12_2
                have B12_3 : Blk w12 (w3.heap.size + 1) _ := Blk.below (by repeat (with_reducible (first | assumption | (apply Blk.at; simp; done) | apply Blk.alloc | apply Blk.drew | apply Blk.drewN | apply Blk.more | apply Blk.put | (apply Blk.far; focus (first | assumption | (apply Ne.symm; assumption) | (simp; done) | (simp <;> omega)))))) hb12
                obtain ⟨z12_3, c12_3, f12_3⟩ := id B12_3
                have B12_4 : Blk w12 (w4.heap.size) _ := Blk.below (by repeat (with_reducible (first | assumption | (apply Blk.at; simp; done) | apply Blk.alloc | apply Blk.drew | apply Blk.drewN | apply Blk.more | apply Blk.put | (apply Blk.far; focus (first | assumption | (apply Ne.symm; assumption) | (simp; done) | (simp <;> omega)))))) hb12
                obtain ⟨z12_4, c12_4, f12_4⟩ := id B12_4
                have B12_5 : Blk w12 (wo.heap.size) _ := Blk.below (by repeat (with_reducible (first | assumption | (apply Blk.at; simp; done) | apply Blk.alloc | apply Blk.drew | apply Blk.drewN | apply Blk.more | apply Blk.put | (apply Blk.far; focus (first | assumption | (apply Ne.symm; assumption) | (simp; done) | (simp <;> omega)))))) hb12
                obtain ⟨z12_5, c12_5, f12_5⟩ := id B12_5
                have B12_6 : Blk w12 (wr.heap.size) _ := Blk.below (by repeat (with_reducible (first | assumption | (apply Blk.at; simp; done) | apply Blk.alloc | apply Blk.drew | apply Blk.drewN | apply Blk.more | apply Blk.put | (apply Blk.far; focus (first | assumption | (apply Ne.symm; assumption) | (simp; done) | (simp <;> omega)))))) hb12
                try simp only [List.setIfInBounds_toArray, List.set_cons_zero] at B12_6
                obtain ⟨z12_6, c12_6, f12_6⟩ := id B12_6
                refine (of_c _ _ _ _ _ B12_6).mono ?_
                rintro e w13 ⟨rfl, hb13⟩
                have B13_0 : Blk w13 (w.heap.size + 1 + 1 + 1 + 1) _ := Blk.below (by repeat (with_reducible (first | assumption | (apply Blk.at; simp; done) | apply Blk.alloc | apply Blk.drew | apply Blk.drewN | apply Blk.more | apply Blk.put | (apply Blk.far; focus (first | assumption | (apply Ne.symm; assumption) | (simp; done) | (simp <;> omega)))))) hb13
                obtain ⟨z13_0, c13_0, f13_0⟩ := id B13_0
                have B13_1 : Blk w13 (w1.heap.size + 1) _ := Blk.below (by repeat (with_reducible (first | assumption | (apply Blk.at; simp; done) | apply Blk.alloc | apply Blk.drew | apply Blk.drewN | apply Blk.more | apply Blk.put | (apply Blk.far; focus (first | assumption | (apply Ne.symm; assumption) | (simp; done) | (simp <;> omega)))))) hb13
                obtain ⟨z13_1, c13_1, f13_1⟩ := id B13_1
                have B13_2 : Blk w13 (w2.heap.size + 1) _ := Blk.below (by repeat (with_reducible (first | assumption | (apply Blk.at; simp; done) | apply Blk.alloc | apply Blk.drew | apply Blk.drewN | apply Blk.more | apply Blk.put | (apply Blk.far; focus (first | assumption | (apply Ne.symm; assumption) | (simp; done) | (simp <;> omega)))))) hb13
                obtain ⟨z13_2, c13_2, f13_2⟩ := id B13_2
                have B13_3 : Blk w13 (w3.heap.size + 1) _ := Blk.below (by repeat (with_reducible (first | assumption | (apply Blk.at; simp; done) | apply Blk.alloc | apply Blk.drew | apply Blk.drewN | apply Blk.more | apply Blk.put | (apply Blk.far; focus (first | assumption | (apply Ne.symm; assumption) | (simp; done) | (simp <;> omega)))))) hb13
                obtain ⟨z13_3, c13_3, f13_3⟩ := id B13_3
                have B13_4 : Blk w13 (w4.heap.size) _ := Blk.below (by repeat (with_reducible (first | assumption | (apply Blk.at; simp; done) | apply Blk.alloc | apply Blk.drew | apply Blk.drewN | apply Blk.more | apply Blk.put | (apply Blk.far; focus (first | assumption | (apply Ne.symm; assumption) | (simp; done) | (simp <;> omega)))))) hb13
                obtain ⟨z13_4, c13_4, f13_4⟩ := id B13_4
                have B13_5 : Blk w13 (wo.heap.size) _ := Blk.below (by repeat (with_reducible (first | assumption | (apply Blk.at; simp; done) | apply Blk.alloc | apply Blk.drew | apply Blk.drewN | apply Blk.more | apply Blk.put | (apply Blk.far; focus (first | assumption | (apply Ne.symm; assumption) | (simp; done) | (simp <;> omega)))))) hb13
                obtain ⟨z13_5, c13_5, f13_5⟩ := id B13_5
                have B13_6 : Blk w13 (wr.heap.size) _ := Blk.below (by repeat (with_reducible (first | assumption | (apply Blk.at; simp; done) | apply Blk.alloc | apply Blk.drew | apply Blk.drewN | apply Blk.more | apply Blk.put | (apply Blk.far; focus (first | assumption | (apply Ne.symm; assumption) | (simp; done) | (simp <;> omega)))))) hb13
                obtain ⟨z13_6, c13_6, f13_6⟩ := id B13_6
                go_wp2_with fail
                go_roundw
                case rel =>
                  repeat apply Exists.intro
                  refine ⟨?_, rfl⟩
                  refine ⟨2, 2, rfl, by omega, rfl, ?_, ?_, ?_, ?_, ?_⟩
                  · rw [HR.out]
                  · rw [HR.out]
                  · rw [HR.out]; apply Blk.eq; exact (by repeat (with_reducible (first | assumption | (apply Blk.at; simp; done) | apply Blk.alloc | apply Blk.drew | apply Blk.drewN | apply Blk.more | apply Blk.put | (apply Blk.far; focus (first | assumption | (apply Ne.symm; assumption) | (simp; done) | (simp <;> omega)))))); first | rfl | simp
                  · exact (by repeat (with_reducible (first | assumption | apply Mod.alloc | apply Mod.drew | apply Mod.drewN | apply Mod.more | (apply Mod.set; rotate_left; focus (first | (left; exact rfl) | (right; assumption))) | (apply Mod.below; rotate_left; focus assumption))))
                  · exact (by repeat (with_reducible (first | assumption | (apply Blk.at; simp; done) | apply Blk.alloc | apply Blk.drew | apply Blk.drewN | apply Blk.more | apply Blk.put | (apply Blk.far; focus (first | assumption | (apply Ne.symm; assumption) | (simp; done) | (simp <;> omega))))))
                case measure => simp [intOf]
              · have HR : Hid ((rSt a1 a2 a3 a4 a5 a6 b1 b2 b3 b4 b5 b6 2) = (true, (rSt a1 a2 a3 a4 a5 a6 b1 b2 b3 b4 b5 b6 1).2)) := by
                  show rStep (rSt a1 a2 a3 a4 a5 a6 b1 b2 b3 b4 b5 b6 1) (-65536, 0, 0, (sub b4 a1)) = _
                  unfold rStep
                  rw [hs1]
                  simp [hd]
                go_wp2_with fail
                refine wp_fresh ?_
                rintro w10 hb10
                have B10_0 : Blk w10 (w.heap.size + 1 + 1 + 1 + 1) _ := Blk.below (by repeat (with_reducible (first | assumption | (apply Blk.at; simp; done) | apply Blk.alloc | apply Blk.drew | apply Blk.drewN | apply Blk.more | apply Blk.put | (apply Blk.far; focus (first | assumption | (apply Ne.symm; assumption) | (simp; done) | (simp <;> omega)))))) hb10
                obtain ⟨z10_0, c10_0, f10_0⟩ := id B10_0
                have B10_1 : Blk w10 (w1.heap.size + 1) _ := Blk.below (by repeat (with_reducible (first | assumption | (apply Blk.at; simp; done) | apply Blk.alloc | apply Blk.drew | apply Blk.drewN | apply Blk.more | apply Blk.put | (apply Blk.far; focus (first | assumption | (apply Ne.symm; assumption) | (simp; done) | (simp <;> omega)))))) hb10
                obtain ⟨z10_1, c10_1, f10_1⟩ := id B10_1
                have B10_2 : Blk w10 (w2.heap.size + 1) _ := Blk.below (by repeat (with_reducible (first | assumption | (apply Blk.at; simp; done) | apply Blk.alloc | apply Blk.drew | apply Blk.drewN | apply Blk.more | apply Blk.put | (apply Blk.far; focus (first | assumption | (apply Ne.symm; assumption) | (simp; done) | (simp <;> omega)))))) hb10
                obtain ⟨z10_2, c10_2, f10_2⟩ := id B10_2
                have B10_3 : Blk w10 (w3.heap.size + 1) _ := Blk.below (by repeat (with_reducible (first | assumption | (apply Blk.at; simp; done) | apply Blk.alloc | apply Blk.drew | apply Blk.drewN | apply Blk.more | apply Blk.put | (apply Blk.far; focus (first | assumption | (apply Ne.symm; assumption) | (simp; done) | (simp <;> omega)))))) hb10
                obtain ⟨z10_3, c10_3, f10_3⟩ := id B10_3
                have B10_4 : Blk w10 (w4.heap.size) _ := Blk.below (by repeat (with_reducible (first | assumption | (apply Blk.at; simp; done) | apply Blk.alloc | apply Blk.drew | apply Blk.drewN | apply Blk.more | apply Blk.put | (apply Blk.far; focus (first | assumption | (apply Ne.symm; assumption) | (simp; done) | (simp <;> omega)))))) hb10
                obtain ⟨z10_4, c10_4, f10_4⟩ := id B10_4
                have B10_5 : Blk w10 (wo.heap.size) _ := Blk.below (by repeat (with_reducible (first | assumption | (apply Blk.at; simp; done) | apply Blk.alloc | apply Blk.drew | apply Blk.drewN | apply Blk.more | apply Blk.put | (apply Blk.far; focus (first | assumption | (apply Ne.symm; assumption) | (simp; done) | (simp <;> omega)))))) hb10
                obtain ⟨z10_5, c10_5, f10_5⟩ := id B10_5
                have B10_6 : Blk w10 (wr.heap.size) _ := Blk.below (by repeat (with_reducible (first | assumption | (apply Blk.at; simp; done) | apply Blk.alloc | apply Blk.drew | apply Blk.drewN | apply Blk.more | apply Blk.put | (apply Blk.far; focus (first | assumption | (apply Ne.symm; assumption) | (simp; done) | (simp <;> omega)))))) hb10
                obtain ⟨z10_6, c10_6, f10_6⟩ := id B10_6
                refine region_quiet_but 12 (by kernel_rfl) (by kernel_rfl) ?_
                simp only [List.take_succ_cons, List.take_zero, List.drop_succ_cons, List.drop_zero]
                repeat (go_big_quiet_step ((go_at_call 53; exact calls_after_same (rsub_c _ _ _))))
                refine wpQuiet_nil ?_
                rintro w11 hw11
                have hb11 := after_below hw11
                clear hw11
                have B11_0 : Blk w11 (w.heap.size + 1 + 1 + 1 + 1) _ := Blk.below (by repeat (with_reducible (first | assumption | (apply Blk.at; simp; done) | apply Blk.alloc | apply Blk.drew | apply Blk.drewN | apply Blk.more | apply Blk.put | (apply Blk.far; focus (first | assumption | (apply Ne.symm; assumption) | (simp; done) | (simp <;> omega)))))) hb11
                obtain ⟨z11_0, c11_0, f11_0⟩ := id B11_0
                have B11_1 : Blk w11 (w1.heap.size + 1) _ := Blk.below (by repeat (with_reducible (first | assumption | (apply Blk.at; simp; done) | apply Blk.alloc | apply Blk.drew | apply Blk.drewN | apply Blk.more | apply Blk.put | (apply Blk.far; focus (first | assumption | (apply Ne.symm; assumption) | (simp; done) | (simp <;> omega)))))) hb11
                obtain ⟨z11_1, c11_1, f11_1⟩ := id B11_1
                have B11_2 : Blk w11 (w2.heap.size + 1) _ := Blk.below (by repeat (with_reducible (first | assumption | (apply Blk.at; simp; done) | apply Blk.alloc | apply Blk.drew | apply Blk.drewN | apply Blk.more | apply Blk.put | (apply Blk.far; focus (first | assumption | (apply Ne.symm; assumption) | (simp; done) | (simp <;> omega)))))) hb11
                obtain ⟨z11_2, c11_2, f11_2⟩ := id B11_2
                have B11_3 : Blk w11 (w3.heap.size + 1) _ := Blk.below (by repeat (with_reducible (first | assumption | (apply Blk.at; simp; done) | apply Blk.alloc | apply Blk.drew | apply Blk.drewN | apply Blk.more | apply Blk.put | (apply Blk.far; focus (first | assumption | (apply Ne.symm; assumption) | (simp; done) | (simp <;> omega)))))) hb11
                obtain ⟨z11_3, c11_3, f11_3⟩ := id B11_3
                have B11_4 : Blk w11 (w4.heap.size) _ := Blk.below (by repeat (with_reducible (first | assumption | (apply Blk.at; simp; done) | apply Blk.alloc | apply Blk.drew | apply Blk.drewN | apply Blk.more | apply Blk.put | (apply Blk.far; focus (first | assumption | (apply Ne.symm; assumption) | (simp; done) | (simp <;> omega)))))) hb11
                obtain ⟨z11_4, c11_4, f11_4⟩ := id B11_4
                have B11_5 : Blk w11 (wo.heap.size) _ := Blk.below (by repeat (with_reducible (first | assumption | (apply Blk.at; simp; done) | apply Blk.alloc | apply Blk.drew | apply Blk.drewN | apply Blk.more | apply Blk.put | (apply Blk.far; focus (first | assumption | (apply Ne.symm; assumption) | (simp; done) | (simp <;> omega)))))) hb11
                obtain ⟨z11_5, c11_5, f11_5⟩ := id B11_5
                have B11_6 : Blk w11 (wr.heap.size) _ := Blk.below (by repeat (with_reducible (first | assumption | (apply Blk.at; simp; done) | apply Blk.alloc | apply Blk.drew | apply Blk.drewN | apply Blk.more | apply Blk.put | (apply Blk.far; focus (first | assumption | (apply Ne.symm; assumption) | (simp; done) | (simp <;> omega)))))) hb11
                obtain ⟨z11_6, c11_6, f11_6⟩ := id B11_6
                go_wp2_with fail
                go_roundw
                case rel =>
                  repeat apply Exists.intro
                  refine ⟨?_, rfl⟩
                  refine ⟨2, 2, rfl, by omega, rfl, ?_, ?_, ?_, ?_, ?_⟩
                  · rw [HR.out]
                  · rw [HR.out]
                  · rw [HR.out]; apply Blk.eq; exact (by repeat (with_reducible (first | assumption | (apply Blk.at; simp; done) | apply Blk.alloc | apply Blk.drew | apply Blk.drewN | apply Blk.more | apply Blk.put | (apply Blk.far; focus (first | assumption | (apply Ne.symm; assumption) | (simp; done) | (simp <;> omega)))))); first | rfl | simp
                  · exact (by repeat (with_reducible (first | assumption | apply Mod.alloc | apply Mod.drew | apply Mod.drewN | apply Mod.more | (apply Mod.set; rotate_left; focus (first | (left; exact rfl) | (right; assumption))) | (apply Mod.below; rotate_left; focus assumption))))
                  · exact (by repeat (with_reducible (first | assumption | (apply Blk.at; simp; done) | apply Blk.alloc | apply Blk.drew | apply Blk.drewN | apply Blk.more | apply Blk.put | (apply Blk.far; focus (first | assumption | (apply Ne.symm; assumption) | (simp; done) | (simp <;> omega))))))
                case measure => simp [intOf]
          · obtain rfl : n = 2 := by omega
            go_wp2_with fail
            go_roundw
            case rel =>
              exact ⟨1, 2, by omega, by omega, rfl, rfl, rfl, hW2, hM2⟩
            case measure => simp [intOf]
      · obtain rfl : n = 2 := by omega
        clear hn hk hlt
        go_wp2_with fail
        go_loopw [11, 12, 35] (fun best some j wr => ∃ m n : Nat, n = 2 + m ∧ m ≤ 2 ∧ j = .int .i64 m ∧ best = .int .i64 (rSt a1 a2 a3 a4 a5 a6 b1 b2 b3 b4 b5 b6 n).2.2.2.2 ∧ some = .bool (rSt a1 a2 a3 a4 a5 a6 b1 b2 b3 b4 b5 b6 n).1 ∧ Blk wr (w4.heap.size) #[.int .i64 (rSt a1 a2 a3 a4 a5 a6 b1 b2 b3 b4 b5 b6 n).2.1, .int .i64 (rSt a1 a2 a3 a4 a5 a6 b1 b2 b3 b4 b5 b6 n).2.2.1, .int .i64 (rSt a1 a2 a3 a4 a5 a6 b1 b2 b3 b4 b5 b6 n).2.2.2.1] ∧ Mod (· = w4.heap.size) w5 wr ∧ Blk wr (wo.heap.size) #[.bool true, .bool false]) (fun _ _ j _ => 2 - (intOf j).toNat)
        case atStart => exact ⟨0, 2, rfl, by omega, rfl, rfl, rfl, hW.alloc _, hM.alloc _, Blk.fresh _ _ _⟩
        case round =>
          obtain ⟨m, n, hn, hm, rfl, rfl, rfl, hW2, hM2, hG⟩ := hrel
          have E1 : Blk wr (w.heap.size + 1 + 1 + 1 + 1) #[.int .i64 a1, .int .i64 a2, .int .i64 a3] := D1.mod hM2 n1
          have E2 : Blk wr (w1.heap.size + 1) #[.int .i64 a4, .int .i64 a5, .int .i64 a6] := D2.mod hM2 n2
          have E3 : Blk wr (w2.heap.size + 1) #[.int .i64 b1, .int .i64 b2, .int .i64 b3] := D3.mod hM2 n3
          have E4 : Blk wr (w3.heap.size + 1) #[.int .i64 b4, .int .i64 b5, .int .i64 b6] := D4.mod hM2 n4
          obtain ⟨zz0, cc0, ff0⟩ := id E1
          obtain ⟨zz1, cc1, ff1⟩ := id E2
          obtain ⟨zz2, cc2, ff2⟩ := id E3
          obtain ⟨zz3, cc3, ff3⟩ := id E4
          obtain ⟨zz4, cc4, ff4⟩ := id hW2
          obtain ⟨zz5, cc5, ff5⟩ := id hG
          have hsz : w5.heap.size ≤ wr.heap.size := hM2.size
          have ng : wo.heap.size ≠ w4.heap.size := by have := hW.lt; omega
          by_cases hlt2 : m < 2
          · rcases (show m = 0 ∨ m = 1 by omega) with rfl | rfl
            · obtain rfl : n = 2 := by omega
              clear hn hm hlt2
              have hs1 : (rSt a1 a2 a3 a4 a5 a6 b1 b2 b3 b4 b5 b6 2).1 = true := rfl
              by_cases hd : (sub a5 b2) < (rSt a1 a2 a3 a4 a5 a6 b1 b2 b3 b4 b5 b6 2).2.2.2.2
              · have HR : Hid ((rSt a1 a2 a3 a4 a5 a6 b1 b2 b3 b4 b5 b6 3) = (true, 0, 65536, 0, (sub a5 b2))) := by
                  show rStep (rSt a1 a2 a3 a4 a5 a6 b1 b2 b3 b4 b5 b6 2) (0, 65536, 0, (sub a5 b2)) = _
                  unfold rStep
                  rw [hs1]
                  simp [hd]
                go_wp2_with fail
                refine wp_fresh ?_
                rintro w10 hb10
                have B10_0 : Blk w10 (w.heap.size + 1 + 1 + 1 + 1) _ := Blk.below (by repeat (with_reducible (first | assumption | (apply Blk.at; simp; done) | apply Blk.alloc | apply Blk.drew | apply Blk.drewN | apply Blk.more | apply Blk.put | (apply Blk.far; focus (first | assumption | (apply Ne.symm; assumption) | (simp; done) | (simp <;> omega)))))) hb10
                obtain ⟨z10_0, c10_0, f10_0⟩ := id B10_0
                have B10_1 : Blk w10 (w1.heap.size + 1) _ := Blk.below (by repeat (with_reducible (first | assumption | (apply Blk.at; simp; done) | apply Blk.alloc | apply Blk.drew | apply Blk.drewN | apply Blk.more | apply Blk.put | (apply Blk.far; focus (first | assumption | (apply Ne.symm; assumption) | (simp; done) | (simp <;> omega)))))) hb10
                obtain ⟨z10_1, c10_1, f10_1⟩ := id B10_1
                have B10_2 : Blk w10 (w2.heap.size + 1) _ := Blk.below (by repeat (with_reducible (first | assumption | (apply Blk.at; simp; done) | apply Blk.alloc | apply Blk.drew | apply Blk.drewN | apply Blk.more | apply Blk.put | (apply Blk.far; focus (first | assumption | (apply Ne.symm; assumption) | (simp; done) | (simp <;> omega)))))) hb10
                obtain ⟨z10_2, c10_2, f10_2⟩ := id B10_2
                have B10_3 : Blk w10 (w3.heap.size + 1) _ := Blk.below (by repeat (with_reducible (first | assumption | (apply Blk.at; simp; done) | apply Blk.alloc | apply Blk.drew | apply Blk.drewN | apply Blk.more | apply Blk.put | (apply Blk.far; focus (first | assumption | (apply Ne.symm; assumption) | (simp; done) | (simp <;> omega)))))) hb10
                obtain ⟨z10_3, c10_3, f10_3⟩ := id B10_3
                have B10_4 : Blk w10 (w4.heap.size) _ := Blk.below (by repeat (with_reducible (first | assumption | (apply Blk.at; simp; done) | apply Blk.alloc | apply Blk.drew | apply Blk.drewN | apply Blk.more | apply Blk.put | (apply Blk.far; focus (first | assumption | (apply Ne.symm; assumption) | (simp; done) | (simp <;> omega)))))) hb10
                obtain ⟨z10_4, c10_4, f10_4⟩ := id B10_4
                have B10_5 : Blk w10 (wo.heap.size) _ := Blk.below (by repeat (with_reducible (first | assumption | (apply Blk.at; simp; done) | apply Blk.alloc | apply Blk.drew | apply Blk.drewN | apply Blk.more | apply Blk.put | (apply Blk.far; focus (first | assumption | (apply Ne.symm; assumption) | (simp; done) | (simp <;> omega)))))) hb10
                obtain ⟨z10_5, c10_5, f10_5⟩ := id B10_5
                have B10_6 : Blk w10 (wr.heap.size) _ := Blk.below (by repeat (with_reducible (first | assumption | (apply Blk.at; simp; done) | apply Blk.alloc | apply Blk.drew | apply Blk.drewN | apply Blk.more | apply Blk.put | (apply Blk.far; focus (first | assumption | (apply Ne.symm; assumption) | (simp; done) | (simp <;> omega)))))) hb10
                obtain ⟨z10_6, c10_6, f10_6⟩ := id B10_6
                refine region_quiet_but 12 (by kernel_rfl) (by kernel_rfl) ?_
                simp only [List.take_succ_cons, List.take_zero, List.drop_succ_cons, List.drop_zero]
                repeat (go_big_quiet_step ((go_at_call 53; exact calls_after_same (rsub_c _ _ _))))
                refine wpQuiet_nil ?_
                rintro w11 hw11
                have hb11 := after_below hw11
                clear hw11
                have B11_0 : Blk w11 (w.heap.size + 1 + 1 + 1 + 1) _ := Blk.below (by repeat (with_reducible (first | assumption | (apply Blk.at; simp; done) | apply Blk.alloc | apply Blk.drew | apply Blk.drewN | apply Blk.more | apply Blk.put | (apply Blk.far; focus (first | assumption | (apply Ne.symm; assumption) | (simp; done) | (simp <;> omega)))))) hb11
                obtain ⟨z11_0, c11_0, f11_0⟩ := id B11_0
                have B11_1 : Blk w11 (w1.heap.size + 1) _ := Blk.below (by repeat (with_reducible (first | assumption | (apply Blk.at; simp; done) | apply Blk.alloc | apply Blk.drew | apply Blk.drewN | apply Blk.more | apply Blk.put | (apply Blk.far; focus (first | assumption | (apply Ne.symm; assumption) | (simp; done) | (simp <;> omega)))))) hb11
                obtain ⟨z11_1, c11_1, f11_1⟩ := id B11_1
                have B11_2 : Blk w11 (w2.heap.size + 1) _ := Blk.below (by repeat (with_reducible (first | assumption | (apply Blk.at; simp; done) | apply Blk.alloc | apply Blk.drew | apply Blk.drewN | apply Blk.more | apply Blk.put | (apply Blk.far; focus (first | assumption | (apply Ne.symm; assumption) | (simp; done) | (simp <;> omega)))))) hb11
                obtain ⟨z11_2, c11_2, f11_2⟩ := id B11_2
                have B11_3 : Blk w11 (w3.heap.size + 1) _ := Blk.below (by repeat (with_reducible (first | assumption | (apply Blk.at; simp; done) | apply Blk.alloc | apply Blk.drew | apply Blk.drewN | apply Blk.more | apply Blk.put | (apply Blk.far; focus (first | assumption | (apply Ne.symm; assumption) | (simp; done) | (simp <;> omega)))))) hb11
                obtain ⟨z11_3, c11_3, f11_3⟩ := id B11_3
                have B11_4 : Blk w11 (w4.heap.size) _ := Blk.below (by repeat (with_reducible (first | assumption | (apply Blk.at; simp; done) | apply Blk.alloc | apply Blk.drew | apply Blk.drewN | apply Blk.more | apply Blk.put | (apply Blk.far; focus (first | assumption | (apply Ne.symm; assumption) | (simp; done) | (simp <;> omega)))))) hb11
                obtain ⟨z11_4, c11_4, f11_4⟩ := id B11_4
                have B11_5 : Blk w11 (wo.heap.size) _ := Blk.below (by repeat (with_reducible (first | assumption | (apply Blk.at; simp; done) | apply Blk.alloc | apply Blk.drew | apply Blk.drewN | apply Blk.more | apply Blk.put | (apply Blk.far; focus (first | assumption | (apply Ne.symm; assumption) | (simp; done) | (simp <;> omega)))))) hb11
                obtain ⟨z11_5, c11_5, f11_5⟩ := id B11_5
                have B11_6 : Blk w11 (wr.heap.size) _ := Blk.below (by repeat (with_reducible (first | assumption | (apply Blk.at; simp; done) | apply Blk.alloc | apply Blk.drew | apply Blk.drewN | apply Blk.more | apply Blk.put | (apply Blk.far; focus (first | assumption | (apply Ne.symm; assumption) | (simp; done) | (simp <;> omega)))))) hb11
                obtain ⟨z11_6, c11_6, f11_6⟩ := id B11_6
                go_wp2_with fail
                go_wp2_with fail
                refine calls_fresh ?_
                rintro w12 hb12
                have B12_0 : Blk w12 (w.heap.size + 1 + 1 + 1 + 1) _ := Blk.below (by repeat (with_reducible (first | assumption | (apply Blk.at; simp; done) | apply Blk.alloc | apply Blk.drew | apply Blk.drewN | apply Blk.more | apply Blk.put | (apply Blk.far; focus (first | assumption | (apply Ne.symm; assumption) | (simp; done) | (simp <;> omega)))))) hb12
                obtain ⟨z12_0, c12_0, f12_0⟩ := id B12_0
                have B12_1 : Blk w12 (w1.heap.size + 1) _ := Blk.below (by repeat (with_reducible (first | assumption | (apply Blk.at; simp; done) | apply Blk.alloc | apply Blk.drew | apply Blk.drewN | apply Blk.more | apply Blk.put | (apply Blk.far; focus (first | assumption | (apply Ne.symm; assumption) | (simp; done) | (simp <;> omega)))))) hb12
                obtain ⟨z12_1, c12_1, f12_1⟩ := id B12_1
                have B12_2 : Blk w12 (w2.heap.size + 1) _ := Blk.below (by repeat (with_reducible (first | assumption | (apply Blk.at; simp; done) | apply Blk.alloc | apply Blk.drew | apply Blk.drewN | apply Blk.more | apply Blk.put | (apply Blk.far; focus (first | assumption | (apply Ne.symm; assumption) | (simp; done) | (simp <;> omega)))))) hb12
                obtain ⟨z12_2, c12_2, f12_2⟩ := id B12_2
                have B12_3 : Blk w12 (w3.heap.size + 1) _ := Blk.below (by repeat (with_reducible (first | assumption | (apply Blk.at; simp; done) | apply Blk.alloc | apply Blk.drew | apply Blk.drewN | apply Blk.more | apply Blk.put | (apply Blk.far; focus (first | assumption | (apply Ne.symm; assumption) | (simp; done) | (simp <;> omega)))))) hb12
                obtain ⟨z12_3, c12_3, f12_3⟩ := id B12_3
                have B12_4 : Blk w12 (w4.heap.size) _ := Blk.below (by repeat (with_reducible (first | assumption | (apply Blk.at; simp; done) | apply Blk.alloc | apply Blk.drew | apply Blk.drewN | apply Blk.more | apply Blk.put | (apply Blk.far; focus (first | assumption | (apply Ne.symm; assumption) | (simp; done) | (simp <;> omega)))))) hb12
                obtain ⟨z12_4, c12_4, f12_4⟩ := id B12_4
                have B12_5 : Blk w12 (wo.heap.size) _ := Blk.below (by repeat (with_reducible (first | assumption | (apply Blk.at; simp; done) | apply Blk.alloc | apply Blk.drew | apply Blk.drewN | apply Blk.more | apply Blk.put | (apply Blk.far; focus (first | assumption | (apply Ne.symm; assumption) | (simp; done) | (simp <;> omega)))))) hb12
                obtain ⟨z12_5, c12_5, f12_5⟩ := id B12_5
                have B12_6 : Blk w12 (wr.heap.size) _ := Blk.below (by repeat (with_reducible (first | assumption | (apply Blk.at; simp; done) | apply Blk.alloc | apply Blk.drew | apply Blk.drewN | apply Blk.more | apply Blk.put | (apply Blk.far; focus (first | assumption | (apply Ne.symm; assumption) | (simp; done) | (simp <;> omega)))))) hb12
                try simp only [List.setIfInBounds_toArray, List.set_cons_zero, List.set_cons_succ] at B12_6
                obtain ⟨z12_6, c12_6, f12_6⟩ := id B12_6
                refine (of_c _ _ _ _ _ B12_6).mono ?_
                rintro e w13 ⟨rfl, hb13⟩
                have B13_0 : Blk w13 (w.heap.size + 1 + 1 + 1 + 1) _ := Blk.below (by repeat (with_reducible (first | assumption | (apply Blk.at; simp; done) | apply Blk.alloc | apply Blk.drew | apply Blk.drewN | apply Blk.more | apply Blk.put | (apply Blk.far; focus (first | assumption | (apply Ne.symm; assumption) | (simp; done) | (simp <;> omega)))))) hb13
                obtain ⟨z13_0, c13_0, f13_0⟩ := id B13_0
                have B13_1 : Blk w13 (w1.heap.size + 1) _ := Blk.below (by repeat (with_reducible (first | assumption | (apply Blk.at; simp; done) | apply Blk.alloc | apply Blk.drew | apply Blk.drewN | apply Blk.more | apply Blk.put | (apply Blk.far; focus (first | assumption | (apply Ne.symm; assumption) | (simp; done) | (simp <;> omega)))))) hb13
                obtain ⟨z13_1, c13_1, f13_1⟩ := id B13_1
                have B13_2 : Blk w13 (w2.heap.size + 1) _ := Blk.below (by repeat (with_reducible (first | assumption | (apply Blk.at; simp; done) | apply Blk.alloc | apply Blk.drew | apply Blk.drewN | apply Blk.more | apply Blk.put | (apply Blk.far; focus (first | assumption | (apply Ne.symm; assumption) | (simp; done) | (simp <;> omega)))))) hb13
                obtain ⟨z13_2, c13_2, f13_2⟩ := id B13_2
                have B13_3 : Blk w13 (w3.heap.size + 1) _ := Blk.below (by repeat (with_reducible (first | assumption | (apply Blk.at; simp; done) | apply Blk.alloc | apply Blk.drew | apply Blk.drewN | apply Blk.more | apply Blk.put | (apply Blk.far; focus (first | assumption | (apply Ne.symm; assumption) | (simp; done) | (simp <;> omega)))))) hb13
                obtain ⟨z13_3, c13_3, f13_3⟩ := id B13_3
                have B13_4 : Blk w13 (w4.heap.size) _ := Blk.below (by repeat (with_reducible (first | assumption | (apply Blk.at; simp; done) | apply Blk.alloc | apply Blk.drew | apply Blk.drewN | apply Blk.more | apply Blk.put | (apply Blk.far; focus (first | assumption | (apply Ne.symm; assumption) | (simp; done) | (simp <;> omega)))))) hb13
                obtain ⟨z13_4, c13_4, f13_4⟩ := id B13_4
                have B13_5 : Blk w13 (wo.heap.size) _ := Blk.below (by repeat (with_reducible (first | assumption | (apply Blk.at; simp; done) | apply Blk.alloc | apply Blk.drew | apply Blk.drewN | apply Blk.more | apply Blk.put | (apply Blk.far; focus (first | assumption | (apply Ne.symm; assumption) | (simp; done) | (simp <;> omega)))))) hb13
                obtain ⟨z13_5, c13_5, f13_5⟩ := id B13_5
                have B13_6 : Blk w13 (wr.heap.size) _ := Blk.below (by repeat (with_reducible (first | assumption | (apply Blk.at; simp; done) | apply Blk.alloc | apply Blk.drew | apply Blk.drewN | apply Blk.more | apply Blk.put | (apply Blk.far; focus (first | assumption | (apply Ne.symm; assumption) | (simp; done) | (simp <;> omega)))))) hb13
                obtain ⟨z13_6, c13_6, f13_6⟩ := id B13_6
                go_wp2_with fail
                go_roundw
                case rel =>
                  repeat apply Exists.intro
                  refine ⟨?_, rfl⟩
                  refine ⟨1, 3, rfl, by omega, rfl, ?_, ?_, ?_, ?_, ?_⟩
                  · rw [HR.out]
                  · rw [HR.out]
                  · rw [HR.out]; apply Blk.eq; exact (by repeat (with_reducible (first | assumption | (apply Blk.at; simp; done) | apply Blk.alloc | apply Blk.drew | apply Blk.drewN | apply Blk.more | apply Blk.put | (apply Blk.far; focus (first | assumption | (apply Ne.symm; assumption) | (simp; done) | (simp <;> omega)))))); first | rfl | simp
                  · exact (by repeat (with_reducible (first | assumption | apply Mod.alloc | apply Mod.drew | apply Mod.drewN | apply Mod.more | (apply Mod.set; rotate_left; focus (first | (left; exact rfl) | (right; assumption))) | (apply Mod.below; rotate_left; focus assumption))))
                  · exact (by repeat (with_reducible (first | assumption | (apply Blk.at; simp; done) | apply Blk.alloc | apply Blk.drew | apply Blk.drewN | apply Blk.more | apply Blk.put | (apply Blk.far; focus (first | assumption | (apply Ne.symm; assumption) | (simp; done) | (simp <;> omega))))))
                case measure => simp [intOf]
              · have HR : Hid ((rSt a1 a2 a3 a4 a5 a6 b1 b2 b3 b4 b5 b6 3) = (true, (rSt a1 a2 a3 a4 a5 a6 b1 b2 b3 b4 b5 b6 2).2)) := by
                  show rStep (rSt a1 a2 a3 a4 a5 a6 b1 b2 b3 b4 b5 b6 2) (0, 65536, 0, (sub a5 b2)) = _
                  unfold rStep
                  rw [hs1]
                  simp [hd]
                go_wp2_with fail
                refine wp_fresh ?_
                rintro w10 hb10
                have B10_0 : Blk w10 (w.heap.size + 1 + 1 + 1 + 1) _ := Blk.below (by repeat (with_reducible (first | assumption | (apply Blk.at; simp; done) | apply Blk.alloc | apply Blk.drew | apply Blk.drewN | apply Blk.more | apply Blk.put | (apply Blk.far; focus (first | assumption | (apply Ne.symm; assumption) | (simp; done) | (simp <;> omega)))))) hb10
                obtain ⟨z10_0, c10_0, f10_0⟩ := id B10_0
                have B10_1 : Blk w10 (w1.heap.size + 1) _ := Blk.below (by repeat (with_reducible (first | assumption | (apply Blk.at; simp; done) | apply Blk.alloc | apply Blk.drew | apply Blk.drewN | apply Blk.more | apply Blk.put | (apply Blk.far; focus (first | assumption | (apply Ne.symm; assumption) | (simp; done) | (simp <;> omega)))))) hb10
                obtain ⟨z10_1, c10_1, f10_1⟩ := id B10_1
                have B10_2 : Blk w10 (w2.heap.size + 1) _ := Blk.below (by repeat (with_reducible (first | assumption | (apply Blk.at; simp; done) | apply Blk.alloc | apply Blk.drew | apply Blk.drewN | apply Blk.more | apply Blk.put | (apply Blk.far; focus (first | assumption | (apply Ne.symm; assumption) | (simp; done) | (simp <;> omega)))))) hb10
                obtain ⟨z10_2, c10_2, f10_2⟩ := id B10_2
                have B10_3 : Blk w10 (w3.heap.size + 1) _ := Blk.below (by repeat (with_reducible (first | assumption | (apply Blk.at; simp; done) | apply Blk.alloc | apply Blk.drew | apply Blk.drewN | apply Blk.more | apply Blk.put | (apply Blk.far; focus (first | assumption | (apply Ne.symm; assumption) | (simp; done) | (simp <;> omega)))))) hb10
                obtain ⟨z10_3, c10_3, f10_3⟩ := id B10_3
                have B10_4 : Blk w10 (w4.heap.size) _ := Blk.below (by repeat (with_reducible (first | assumption | (apply Blk.at; simp; done) | apply Blk.alloc | apply Blk.drew | apply Blk.drewN | apply Blk.more | apply Blk.put | (apply Blk.far; focus (first | assumption | (apply Ne.symm; assumption) | (simp; done) | (simp <;> omega)))))) hb10
                obtain ⟨z10_4, c10_4, f10_4⟩ := id B10_4
                have B10_5 : Blk w10 (wo.heap.size) _ := Blk.below (by repeat (with_reducible (first | assumption | (apply Blk.at; simp; done) | apply Blk.alloc | apply Blk.drew | apply Blk.drewN | apply Blk.more | apply Blk.put | (apply Blk.far; focus (first | assumption | (apply Ne.symm; assumption) | (simp; done) | (simp <;> omega)))))) hb10
                obtain ⟨z10_5, c10_5, f10_5⟩ := id B10_5
                have B10_6 : Blk w10 (wr.heap.size) _ := Blk.below (by repeat (with_reducible (first | assumption | (apply Blk.at; simp; done) | apply Blk.alloc | apply Blk.drew | apply Blk.drewN | apply Blk.more | apply Blk.put | (apply Blk.far; focus (first | assumption | (apply Ne.symm; assumption) | (simp; done) | (simp <;> omega)))))) hb10
                obtain ⟨z10_6, c10_6, f10_6⟩ := id B10_6
                refine region_quiet_but 12 (by kernel_rfl) (by kernel_rfl) ?_
                simp only [List.take_succ_cons, List.take_zero, List.drop_succ_cons, List.drop_zero]
                repeat (go_big_quiet_step ((go_at_call 53; exact calls_after_same (rsub_c _ _ _))))
                refine wpQuiet_nil ?_
                rintro w11 hw11
                have hb11 := after_below hw11
                clear hw11
                have B11_0 : Blk w11 (w.heap.size + 1 + 1 + 1 + 1) _ := Blk.below (by repeat (with_reducible (first | assumption | (apply Blk.at; simp; done) | apply Blk.alloc | apply Blk.drew | apply Blk.drewN | apply Blk.more | apply Blk.put | (apply Blk.far; focus (first | assumption | (apply Ne.symm; assumption) | (simp; done) | (simp <;> omega)))))) hb11
                obtain ⟨z11_0, c11_0, f11_0⟩ := id B11_0
                have B11_1 : Blk w11 (w1.heap.size + 1) _ := Blk.below (by repeat (with_reducible (first | assumption | (apply Blk.at; simp; done) | apply Blk.alloc | apply Blk.drew | apply Blk.drewN | apply Blk.more | apply Blk.put | (apply Blk.far; focus (first | assumption | (apply Ne.symm; assumption) | (simp; done) | (simp <;> omega)))))) hb11
                obtain ⟨z11_1, c11_1, f11_1⟩ := id B11_1
                have B11_2 : Blk w11 (w2.heap.size + 1) _ := Blk.below (by repeat (with_reducible (first | assumption | (apply Blk.at; simp; done) | apply Blk.alloc | apply Blk.drew | apply Blk.drewN | apply Blk.more | apply Blk.put | (apply Blk.far; focus (first | assumption | (apply Ne.symm; assumption) | (simp; done) | (simp <;> omega)))))) hb11
                obtain ⟨z11_2, c11_2, f11_2⟩ := id B11_2
                have B11_3 : Blk w11 (w3.heap.size + 1) _ := Blk.below (by repeat (with_reducible (first | assumption | (apply Blk.at; simp; done) | apply Blk.alloc | apply Blk.drew | apply Blk.drewN | apply Blk.more | apply Blk.put | (apply Blk.far; focus (first | assumption | (apply Ne.symm; assumption) | (simp; done) | (simp <;> omega)))))) hb11
                obtain ⟨z11_3, c11_3, f11_3⟩ := id B11_3
                have B11_4 : Blk w11 (w4.heap.size) _ := Blk.below (by repeat (with_reducible (first | assumption | (apply Blk.at; simp; done) | apply Blk.alloc | apply Blk.drew | apply Blk.drewN | apply Blk.more | apply Blk.put | (apply Blk.far; focus (first | assumption | (apply Ne.symm; assumption) | (simp; done) | (simp <;> omega)))))) hb11
                obtain ⟨z11_4, c11_4, f11_4⟩ := id B11_4
                have B11_5 : Blk w11 (wo.heap.size) _ := Blk.below (by repeat (with_reducible (first | assumption | (apply Blk.at; simp; done) | apply Blk.alloc | apply Blk.drew | apply Blk.drewN | apply Blk.more | apply Blk.put | (apply Blk.far; focus (first | assumption | (apply Ne.symm; assumption) | (simp; done) | (simp <;> omega)))))) hb11
                obtain ⟨z11_5, c11_5, f11_5⟩ := id B11_5
                have B11_6 : Blk w11 (wr.heap.size) _ := Blk.below (by repeat (with_reducible (first | assumption | (apply Blk.at; simp; done) | apply Blk.alloc | apply Blk.drew | apply Blk.drewN | apply Blk.more | apply Blk.put | (apply Blk.far; focus (first | assumption | (apply Ne.symm; assumption) | (simp; done) | (simp <;> omega)))))) hb11
                obtain ⟨z11_6, c11_6, f11_6⟩ := id B11_6
                go_wp2_with fail
                go_roundw
                case rel =>
                  repeat apply Exists.intro
                  refine ⟨?_, rfl⟩
                  refine ⟨1, 3, rfl, by omega, rfl, ?_, ?_, ?_, ?_, ?_⟩
                  · rw [HR.out]
                  · rw [HR.out]
                  · rw [HR.out]; apply Blk.eq; exact (by repeat (with_reducible (first | assumption | (apply Blk.at; simp; done) | apply Blk.alloc | apply Blk.drew | apply Blk.drewN | apply Blk.more | apply Blk.put | (apply Blk.far; focus (first | assumption | (apply Ne.symm; assumption) | (simp; done) | (simp <;> omega)))))); first | rfl | simp
                  · exact (by repeat (with_reducible (first | assumption | apply Mod.alloc | apply Mod.drew | apply Mod.drewN | apply Mod.more | (apply Mod.set; rotate_left; focus (first | (left; exact rfl) | (right; assumption))) | (apply Mod.below; rotate_left; focus assumption))))
                  · exact (by repeat (with_reducible (first | assumption | (apply Blk.at; simp; done) | apply Blk.alloc | apply Blk.drew | apply Blk.drewN | apply Blk.more | apply Blk.put | (apply Blk.far; focus (first | assumption | (apply Ne.symm; assumption) | (simp; done) | (simp <;> omega))))))
                case measure => simp [intOf]
            · obtain rfl : n = 3 := by omega
              clear hn hm hlt2
              have hs1 : (rSt a1 a2 a3 a4 a5 a6 b1 b2 b3 b4 b5 b6 3).1 = true := rfl
              by_cases hd : (sub b5 a2) < (rSt a1 a2 a3 a4 a5 a6 b1 b2 b3 b4 b5 b6 3).2.2.2.2
              · have HR : Hid ((rSt a1 a2 a3 a4 a5 a6 b1 b2 b3 b4 b5 b6 4) = (true, 0, -65536, 0, (sub b5 a2))) := by
                  show rStep (rSt a1 a2 a3 a4 a5 a6 b1 b2 b3 b4 b5 b6 3) (0, -65536, 0, (sub b5 a2)) = _
                  unfold rStep
                  rw [hs1]
                  simp [hd]
                go_wp2_with fail
                refine wp_fresh ?_
                rintro w10 hb10
                have B10_0 : Blk w10 (w.heap.size + 1 + 1 + 1 + 1) _ := Blk.below (by repeat (with_reducible (first | assumption | (apply Blk.at; simp; done) | apply Blk.alloc | apply Blk.drew | apply Blk.drewN | apply Blk.more | apply Blk.put | (apply Blk.far; focus (first | assumption | (apply Ne.symm; assumption) | (simp; done) | (simp <;> omega)))))) hb10
                obtain ⟨z10_0, c10_0, f10_0⟩ := id B10_0
                have B10_1 : Blk w10 (w1.heap.size + 1) _ := Blk.below (by repeat (with_reducible (first | assumption | (apply Blk.at; simp; done) | apply Blk.alloc | apply Blk.drew | apply Blk.drewN | apply Blk.more | apply Blk.put | (apply Blk.far; focus (first | assumption | (apply Ne.symm; assumption) | (simp; done) | (simp <;> omega)))))) hb10
                obtain ⟨z10_1, c10_1, f10_1⟩ := id B10_1
                have B10_2 : Blk w10 (w2.heap.size + 1) _ := Blk.below (by repeat (with_reducible (first | assumption | (apply Blk.at; simp; done) | apply Blk.alloc | apply Blk.drew | apply Blk.drewN | apply Blk.more | apply Blk.put | (apply Blk.far; focus (first | assumption | (apply Ne.symm; assumption) | (simp; done) | (simp <;> omega)))))) hb10
                obtain ⟨z10_2, c10_2, f10_2⟩ := id B10_2
                have B10_3 : Blk w10 (w3.heap.size + 1) _ := Blk.below (by repeat (with_reducible (first | assumption | (apply Blk.at; simp; done) | apply Blk.alloc | apply Blk.drew | apply Blk.drewN | apply Blk.more | apply Blk.put | (apply Blk.far; focus (first | assumption | (apply Ne.symm; assumption) | (simp; done) | (simp <;> omega)))))) hb10
                obtain ⟨z10_3, c10_3, f10_3⟩ := id B10_3
                have B10_4 : Blk w10 (w4.heap.size) _ := Blk.below (by repeat (with_reducible (first | assumption | (apply Blk.at; simp; done) | apply Blk.alloc | apply Blk.drew | apply Blk.drewN | apply Blk.more | apply Blk.put | (apply Blk.far; focus (first | assumption | (apply Ne.symm; assumption) | (simp; done) | (simp <;> omega)))))) hb10
                obtain ⟨z10_4, c10_4, f10_4⟩ := id B10_4
                have B10_5 : Blk w10 (wo.heap.size) _ := Blk.below (by repeat (with_reducible (first | assumption | (apply Blk.at; simp; done) | apply Blk.alloc | apply Blk.drew | apply Blk.drewN | apply Blk.more | apply Blk.put | (apply Blk.far; focus (first | assumption | (apply Ne.symm; assumption) | (simp; done) | (simp <;> omega)))))) hb10
                obtain ⟨z10_5, c10_5, f10_5⟩ := id B10_5
                have B10_6 : Blk w10 (wr.heap.size) _ := Blk.below (by repeat (with_reducible (first | assumption | (apply Blk.at; simp; done) | apply Blk.alloc | apply Blk.drew | apply Blk.drewN | apply Blk.more | apply Blk.put | (apply Blk.far; focus (first | assumption | (apply Ne.symm; assumption) | (simp; done) | (simp <;> omega)))))) hb10
                obtain ⟨z10_6, c10_6, f10_6⟩ := id B10_6
                refine region_quiet_but 12 (by kernel_rfl) (by kernel_rfl) ?_
                simp only [List.take_succ_cons, List.take_zero, List.drop_succ_cons, List.drop_zero]
                repeat (go_big_quiet_step ((go_at_call 53; exact calls_after_same (rsub_c _ _ _))))
                refine wpQuiet_nil ?_
                rintro w11 hw11
                have hb11 := after_below hw11
                clear hw11
                have B11_0 : Blk w11 (w.heap.size + 1 + 1 + 1 + 1) _ := Blk.below (by repeat (with_reducible (first | assumption | (apply Blk.at; simp; done) | apply Blk.alloc | apply Blk.drew | apply Blk.drewN | apply Blk.more | apply Blk.put | (apply Blk.far; focus (first | assumption | (apply Ne.symm; assumption) | (simp; done) | (simp <;> omega)))))) hb11
                obtain ⟨z11_0, c11_0, f11_0⟩ := id B11_0
                have B11_1 : Blk w11 (w1.heap.size + 1) _ := Blk.below (by repeat (with_reducible (first | assumption | (apply Blk.at; simp; done) | apply Blk.alloc | apply Blk.drew | apply Blk.drewN | apply Blk.more | apply Blk.put | (apply Blk.far; focus (first | assumption | (apply Ne.symm; assumption) | (simp; done) | (simp <;> omega)))))) hb11
                obtain ⟨z11_1, c11_1, f11_1⟩ := id B11_1
                have B11_2 : Blk w11 (w2.heap.size + 1) _ := Blk.below (by repeat (with_reducible (first | assumption | (apply Blk.at; simp; done) | apply Blk.alloc | apply Blk.drew | apply Blk.drewN | apply Blk.more | apply Blk.put | (apply Blk.far; focus (first | assumption | (apply Ne.symm; assumption) | (simp; done) | (simp <;> omega)))))) hb11
                obtain ⟨z11_2, c11_2, f11_2⟩ := id B11_2
                have B11_3 : Blk w11 (w3.heap.size + 1) _ := Blk.below (by repeat (with_reducible (first | assumption | (apply Blk.at; simp; done) | apply Blk.alloc | apply Blk.drew | apply Blk.drewN | apply Blk.more | apply Blk.put | (apply Blk.far; focus (first | assumption | (apply Ne.symm; assumption) | (simp; done) | (simp <;> omega)))))) hb11
                obtain ⟨z11_3, c11_3, f11_3⟩ := id B11_3
                have B11_4 : Blk w11 (w4.heap.size) _ := Blk.below (by repeat (with_reducible (first | assumption | (apply Blk.at; simp; done) | apply Blk.alloc | apply Blk.drew | apply Blk.drewN | apply Blk.more | apply Blk.put | (apply Blk.far; focus (first | assumption | (apply Ne.symm; assumption) | (simp; done) | (simp <;> omega)))))) hb11
                obtain ⟨z11_4, c11_4, f11_4⟩ := id B11_4
                have B11_5 : Blk w11 (wo.heap.size) _ := Blk.below (by repeat (with_reducible (first | assumption | (apply Blk.at; simp; done) | apply Blk.alloc | apply Blk.drew | apply Blk.drewN | apply Blk.more | apply Blk.put | (apply Blk.far; focus (first | assumption | (apply Ne.symm; assumption) | (simp; done) | (simp <;> omega)))))) hb11
                obtain ⟨z11_5, c11_5, f11_5⟩ := id B11_5
                have B11_6 : Blk w11 (wr.heap.size) _ := Blk.below (by repeat (with_reducible (first | assumption | (apply Blk.at; simp; done) | apply Blk.alloc | apply Blk.drew | apply Blk.drewN | apply Blk.more | apply Blk.put | (apply Blk.far; focus (first | assumption | (apply Ne.symm; assumption) | (simp; done) | (simp <;> omega)))))) hb11
                obtain ⟨z11_6, c11_6, f11_6⟩ := id B11_6
                go_wp2_with fail
                go_wp2_with fail
                refine calls_fresh ?_
                rintro w12 hb12
                have B12_0 : Blk w12 (w.heap.size + 1 + 1 + 1 + 1) _ := Blk.below (by repeat (with_reducible (first | assumption | (apply Blk.at; simp; done) | apply Blk.alloc | apply Blk.drew | apply Blk.drewN | apply Blk.more | apply Blk.put | (apply Blk.far; focus (first | assumption | (apply Ne.symm; assumption) | (simp; done) | (simp <;> omega)))))) hb12
                obtain ⟨z12_0, c12_0, f12_0⟩ := id B12_0
                have B12_1 : Blk w12 (w1.heap.size + 1) _ := Blk.below (by repeat (with_reducible (first | assumption | (apply Blk.at; simp; done) | apply Blk.alloc | apply Blk.drew | apply Blk.drewN | apply Blk.more | apply Blk.put | (apply Blk.far; focus (first | assumption | (apply Ne.symm; assumption) | (simp; done) | (simp <;> omega)))))) hb12
                obtain ⟨z12_1, c12_1, f12_1⟩ := id B12_1
                have B12_2 : Blk w12 (w2.heap.size + 1) _ := Blk.below (by repeat (with_reducible (first | assumption | (apply Blk.at; simp; done) | apply Blk.alloc | apply Blk.drew | apply Blk.drewN | apply Blk.more | apply Blk.put | (apply Blk.far; focus (first | assumption | (apply Ne.symm; assumption) | (simp; done) | (simp <;> omega)))))) hb12
                obtain ⟨z12_2, c12_2, f12_2⟩ := id B12_2
                have B12_3 : Blk w12 (w3.heap.size + 1) _ := Blk.below (by repeat (with_reducible (first | assumption | (apply Blk.at; simp; done) | apply Blk.alloc | apply Blk.drew | apply Blk.drewN | apply Blk.more | apply Blk.put | (apply Blk.far; focus (first | assumption | (apply Ne.symm; assumption) | (simp; done) | (simp <;> omega)))))) hb12
                obtain ⟨z12_3, c12_3, f12_3⟩ := id B12_3
                have B12_4 : Blk w12 (w4.heap.size) _ := Blk.below (by repeat (with_reducible (first | assumption | (apply Blk.at; simp; done) | apply Blk.alloc | apply Blk.drew | apply Blk.drewN | apply Blk.more | apply Blk.put | (apply Blk.far; focus (first | assumption | (apply Ne.symm; assumption) | (simp; done) | (simp <;> omega)))))) hb12
                obtain ⟨z12_4, c12_4, f12_4⟩ := id B12_4
                have B12_5 : Blk w12 (wo.heap.size) _ := Blk.below (by repeat (with_reducible (first | assumption | (apply Blk.at; simp; done) | apply Blk.alloc | apply Blk.drew | apply Blk.drewN | apply Blk.more | apply Blk.put | (apply Blk.far; focus (first | assumption | (apply Ne.symm; assumption) | (simp; done) | (simp <;> omega)))))) hb12
                obtain ⟨z12_5, c12_5, f12_5⟩ := id B12_5
                have B12_6 : Blk w12 (wr.heap.size) _ := Blk.below (by repeat (with_reducible (first | assumption | (apply Blk.at; simp; done) | apply Blk.alloc | apply Blk.drew | apply Blk.drewN | apply Blk.more | apply Blk.put | (apply Blk.far; focus (first | assumption | (apply Ne.symm; assumption) | (simp; done) | (simp <;> omega)))))) hb12
                try simp only [List.setIfInBounds_toArray, List.set_cons_zero, List.set_cons_succ] at B12_6
                obtain ⟨z12_6, c12_6, f12_6⟩ := id B12_6
                refine (of_c _ _ _ _ _ B12_6).mono ?_
                rintro e w13 ⟨rfl, hb13⟩
                have B13_0 : Blk w13 (w.heap.size + 1 + 1 + 1 + 1) _ := Blk.below (by repeat (with_reducible (first | assumption | (apply Blk.at; simp; done) | apply Blk.alloc | apply Blk.drew | apply Blk.drewN | apply Blk.more | apply Blk.put | (apply Blk.far; focus (first | assumption | (apply Ne.symm; assumption) | (simp; done) | (simp <;> omega)))))) hb13
                obtain ⟨z13_0, c13_0, f13_0⟩ := id B13_0
                have B13_1 : Blk w13 (w1.heap.size + 1) _ := Blk.below (by repeat (with_reducible (first | assumption | (apply Blk.at; simp; done) | apply Blk.alloc | apply Blk.drew | apply Blk.drewN | apply Blk.more | apply Blk.put | (apply Blk.far; focus (first | assumption | (apply Ne.symm; assumption) | (simp; done) | (simp <;> omega)))))) hb13
                obtain ⟨z13_1, c13_1, f13_1⟩ := id B13_1
                have B13_2 : Blk w13 (w2.heap.size + 1) _ := Blk.below (by repeat (with_reducible (first | assumption | (apply Blk.at; simp; done) | apply Blk.alloc | apply Blk.drew | apply Blk.drewN | apply Blk.more | apply Blk.put | (apply Blk.far; focus (first | assumption | (apply Ne.symm; assumption) | (simp; done) | (simp <;> omega)))))) hb13
                obtain ⟨z13_2, c13_2, f13_2⟩ := id B13_2
                have B13_3 : Blk w13 (w3.heap.size + 1) _ := Blk.below (by repeat (with_reducible (first | assumption | (apply Blk.at; simp; done) | apply Blk.alloc | apply Blk.drew | apply Blk.drewN | apply Blk.more | apply Blk.put | (apply Blk.far; focus (first | assumption | (apply Ne.symm; assumption) | (simp; done) | (simp <;> omega)))))) hb13
                obtain ⟨z13_3, c13_3, f13_3⟩ := id B13_3
                have B13_4 : Blk w13 (w4.heap.size) _ := Blk.below (by repeat (with_reducible (first | assumption | (apply Blk.at; simp; done) | apply Blk.alloc | apply Blk.drew | apply Blk.drewN | apply Blk.more | apply Blk.put | (apply Blk.far; focus (first | assumption | (apply Ne.symm; assumption) | (simp; done) | (simp <;> omega)))))) hb13
                obtain ⟨z13_4, c13_4, f13_4⟩ := id B13_4
                have B13_5 : Blk w13 (wo.heap.size) _ := Blk.below (by repeat (with_reducible (first | assumption | (apply Blk.at; simp; done) | apply Blk.alloc | apply Blk.drew | apply Blk.drewN | apply Blk.more | apply Blk.put | (apply Blk.far; focus (first | assumption | (apply Ne.symm; assumption) | (simp; done) | (simp <;> omega)))))) hb13
                obtain ⟨z13_5, c13_5, f13_5⟩ := id B13_5
                have B13_6 : Blk w13 (wr.heap.size) _ := Blk.below (by repeat (with_reducible (first | assumption | (apply Blk.at; simp; done) | apply Blk.alloc | apply Blk.drew | apply Blk.drewN | apply Blk.more | apply Blk.put | (apply Blk.far; focus (first | assumption | (apply Ne.symm; assumption) | (simp; done) | (simp <;> omega)))))) hb13
                obtain ⟨z13_6, c13_6, f13_6⟩ := id B13_6
                go_wp2_with fail
                go_roundw
                case rel =>
                  repeat apply Exists.intro
                  refine ⟨?_, rfl⟩
                  refine ⟨2, 4, rfl, by omega, rfl, ?_, ?_, ?_, ?_, ?_⟩
                  · rw [HR.out]
                  · rw [HR.out]
                  · rw [HR.out]; apply Blk.eq; exact (by repeat (with_reducible (first | assumption | (apply Blk.at; simp; done) | apply Blk.alloc | apply Blk.drew | apply Blk.drewN | apply Blk.more | apply Blk.put | (apply Blk.far; focus (first | assumption | (apply Ne.symm; assumption) | (simp; done) | (simp <;> omega)))))); first | rfl | simp
                  · exact (by repeat (with_reducible (first | assumption | apply Mod.alloc | apply Mod.drew | apply Mod.drewN | apply Mod.more | (apply Mod.set; rotate_left; focus (first | (left; exact rfl) | (right; assumption))) | (apply Mod.below; rotate_left; focus assumption))))
                  · exact (by repeat (with_reducible (first | assumption | (apply Blk.at; simp; done) | apply Blk.alloc | apply Blk.drew | apply Blk.drewN | apply Blk.more | apply Blk.put | (apply Blk.far; focus (first | assumption | (apply Ne.symm; assumption) | (simp; done) | (simp <;> omega))))))
                case measure => simp [intOf]
              · have HR : Hid ((rSt a1 a2 a3 a4 a5 a6 b1 b2 b3 b4 b5 b6 4) = (true, (rSt a1 a2 a3 a4 a5 a6 b1 b2 b3 b4 b5 b6 3).2)) := by
                  show rStep (rSt a1 a2 a3 a4 a5 a6 b1 b2 b3 b4 b5 b6 3) (0, -65536, 0, (sub b5 a2)) = _
                  unfold rStep
                  rw [hs1]
                  simp [hd]
                go_wp2_with fail
                refine wp_fresh ?_
                rintro w10 hb10
                have B10_0 : Blk w10 (w.heap.size + 1 + 1 + 1 + 1) _ := Blk.below (by repeat (with_reducible (first | assumption | (apply Blk.at; simp; done) | apply Blk.alloc | apply Blk.drew | apply Blk.drewN | apply Blk.more | apply Blk.put | (apply Blk.far; focus (first | assumption | (apply Ne.symm; assumption) | (simp; done) | (simp <;> omega)))))) hb10
                obtain ⟨z10_0, c10_0, f10_0⟩ := id B10_0
                have B10_1 : Blk w10 (w1.heap.size + 1) _ := Blk.below (by repeat (with_reducible (first | assumption | (apply Blk.at; simp; done) | apply Blk.alloc | apply Blk.drew | apply Blk.drewN | apply Blk.more | apply Blk.put | (apply Blk.far; focus (first | assumption | (apply Ne.symm; assumption) | (simp; done) | (simp <;> omega)))))) hb10
                obtain ⟨z10_1, c10_1, f10_1⟩ := id B10_1
                have B10_2 : Blk w10 (w2.heap.size + 1) _ := Blk.below (by repeat (with_reducible (first | assumption | (apply Blk.at; simp; done) | apply Blk.alloc | apply Blk.drew | apply Blk.drewN | apply Blk.more | apply Blk.put | (apply Blk.far; focus (first | assumption | (apply Ne.symm; assumption) | (simp; done) | (simp <;> omega)))))) hb10
                obtain ⟨z10_2, c10_2, f10_2⟩ := id B10_2
                have B10_3 : Blk w10 (w3.heap.size + 1) _ := Blk.below (by repeat (with_reducible (first | assumption | (apply Blk.at; simp; done) | apply Blk.alloc | apply Blk.drew | apply Blk.drewN | apply Blk.more | apply Blk.put | (apply Blk.far; focus (first | assumption | (apply Ne.symm; assumption) | (simp; done) | (simp <;> omega)))))) hb10
                obtain ⟨z10_3, c10_3, f10_3⟩ := id B10_3
                have B10_4 : Blk w10 (w4.heap.size) _ := Blk.below (by repeat (with_reducible (first | assumption | (apply Blk.at; simp; done) | apply Blk.alloc | apply Blk.drew | apply Blk.drewN | apply Blk.more | apply Blk.put | (apply Blk.far; focus (first | assumption | (apply Ne.symm; assumption) | (simp; done) | (simp <;> omega)))))) hb10
                obtain ⟨z10_4, c10_4, f10_4⟩ := id B10_4
                have B10_5 : Blk w10 (wo.heap.size) _ := Blk.below (by repeat (with_reducible (first | assumption | (apply Blk.at; simp; done) | apply Blk.alloc | apply Blk.drew | apply Blk.drewN | apply Blk.more | apply Blk.put | (apply Blk.far; focus (first | assumption | (apply Ne.symm; assumption) | (simp; done) | (simp <;> omega)))))) hb10
                obtain ⟨z10_5, c10_5, f10_5⟩ := id B10_5
                have B10_6 : Blk w10 (wr.heap.size) _ := Blk.below (by repeat (with_reducible (first | assumption | (apply Blk.at; simp; done) | apply Blk.alloc | apply Blk.drew | apply Blk.drewN | apply Blk.more | apply Blk.put | (apply Blk.far; focus (first | assumption | (apply Ne.symm; assumption) | (simp; done) | (simp <;> omega)))))) hb10
                obtain ⟨z10_6, c10_6, f10_6⟩ := id B10_6
                refine region_quiet_but 12 (by kernel_rfl) (by kernel_rfl) ?_
                simp only [List.take_succ_cons, List.take_zero, List.drop_succ_cons, List.drop_zero]
                repeat (go_big_quiet_step ((go_at_call 53; exact calls_after_same (rsub_c _ _ _))))
                refine wpQuiet_nil ?_
                rintro w11 hw11
                have hb11 := after_below hw11
                clear hw11
                have B11_0 : Blk w11 (w.heap.size + 1 + 1 + 1 + 1) _ := Blk.below (by repeat (with_reducible (first | assumption | (apply Blk.at; simp; done) | apply Blk.alloc | apply Blk.drew | apply Blk.drewN | apply Blk.more | apply Blk.put | (apply Blk.far; focus (first | assumption | (apply Ne.symm; assumption) | (simp; done) | (simp <;> omega)))))) hb11
                obtain ⟨z11_0, c11_0, f11_0⟩ := id B11_0
                have B11_1 : Blk w11 (w1.heap.size + 1) _ := Blk.below (by repeat (with_reducible (first | assumption | (apply Blk.at; simp; done) | apply Blk.alloc | apply Blk.drew | apply Blk.drewN | apply Blk.more | apply Blk.put | (apply Blk.far; focus (first | assumption | (apply Ne.symm; assumption) | (simp; done) | (simp <;> omega)))))) hb11
                obtain ⟨z11_1, c11_1, f11_1⟩ := id B11_1
                have B11_2 : Blk w11 (w2.heap.size + 1) _ := Blk.below (by repeat (with_reducible (first | assumption | (apply Blk.at; simp; done) | apply Blk.alloc | apply Blk.drew | apply Blk.drewN | apply Blk.more | apply Blk.put | (apply Blk.far; focus (first | assumption | (apply Ne.symm; assumption) | (simp; done) | (simp <;> omega)))))) hb11
                obtain ⟨z11_2, c11_2, f11_2⟩ := id B11_2
                have B11_3 : Blk w11 (w3.heap.size + 1) _ := Blk.below (by repeat (with_reducible (first | assumption | (apply Blk.at; simp; done) | apply Blk.alloc | apply Blk.drew | apply Blk.drewN | apply Blk.more | apply Blk.put | (apply Blk.far; focus (first | assumption | (apply Ne.symm; assumption) | (simp; done) | (simp <;> omega)))))) hb11
                obtain ⟨z11_3, c11_3, f11_3⟩ := id B11_3
                have B11_4 : Blk w11 (w4.heap.size) _ := Blk.below (by repeat (with_reducible (first | assumption | (apply Blk.at; simp; done) | apply Blk.alloc | apply Blk.drew | apply Blk.drewN | apply Blk.more | apply Blk.put | (apply Blk.far; focus (first | assumption | (apply Ne.symm; assumption) | (simp; done) | (simp <;> omega)))))) hb11
                obtain ⟨z11_4, c11_4, f11_4⟩ := id B11_4
                have B11_5 : Blk w11 (wo.heap.size) _ := Blk.below (by repeat (with_reducible (first | assumption | (apply Blk.at; simp; done) | apply Blk.alloc | apply Blk.drew | apply Blk.drewN | apply Blk.more | apply Blk.put | (apply Blk.far; focus (first | assumption | (apply Ne.symm; assumption) | (simp; done) | (simp <;> omega)))))) hb11
                obtain ⟨z11_5, c11_5, f11_5⟩ := id B11_5
                have B11_6 : Blk w11 (wr.heap.size) _ := Blk.below (by repeat (with_reducible (first | assumption | (apply Blk.at; simp; done) | apply Blk.alloc | apply Blk.drew | apply Blk.drewN | apply Blk.more | apply Blk.put | (apply Blk.far; focus (first | assumption | (apply Ne.symm; assumption) | (simp; done) | (simp <;> omega)))))) hb11
                obtain ⟨z11_6, c11_6, f11_6⟩ := id B11_6
                go_wp2_with fail
                go_roundw
                case rel =>
                  repeat apply Exists.intro
                  refine ⟨?_, rfl⟩
                  refine ⟨2, 4, rfl, by omega, rfl, ?_, ?_, ?_, ?_, ?_⟩
                  · rw [HR.out]
                  · rw [HR.out]
                  · rw [HR.out]; apply Blk.eq; exact (by repeat (with_reducible (first | assumption | (apply Blk.at; simp; done) | apply Blk.alloc | apply Blk.drew | apply Blk.drewN | apply Blk.more | apply Blk.put | (apply Blk.far; focus (first | assumption | (apply Ne.symm; assumption) | (simp; done) | (simp <;> omega)))))); first | rfl | simp
                  · exact (by repeat (with_reducible (first | assumption | apply Mod.alloc | apply Mod.drew | apply Mod.drewN | apply Mod.more | (apply Mod.set; rotate_left; focus (first | (left; exact rfl) | (right; assumption))) | (apply Mod.below; rotate_left; focus assumption))))
                  · exact (by repeat (with_reducible (first | assumption | (apply Blk.at; simp; done) | apply Blk.alloc | apply Blk.drew | apply Blk.drewN | apply Blk.more | apply Blk.put | (apply Blk.far; focus (first | assumption | (apply Ne.symm; assumption) | (simp; done) | (simp <;> omega))))))
                case measure => simp [intOf]
          · obtain rfl : n = 4 := by omega
            go_wp2_with fail
            go_roundw
            case rel =>
              exact ⟨2, 4, by omega, by omega, rfl, rfl, rfl, hW2, hM2⟩
            case measure => simp [intOf]
      · obtain rfl : n = 4 := by omega
        clear hn hk hlt
        go_wp2_with fail
        go_loopw [11, 12, 35] (fun best some j wr => ∃ m n : Nat, n = 4 + m ∧ m ≤ 2 ∧ j = .int .i64 m ∧ best = .int .i64 (rSt a1 a2 a3 a4 a5 a6 b1 b2 b3 b4 b5 b6 n).2.2.2.2 ∧ some = .bool (rSt a1 a2 a3 a4 a5 a6 b1 b2 b3 b4 b5 b6 n).1 ∧ Blk wr (w4.heap.size) #[.int .i64 (rSt a1 a2 a3 a4 a5 a6 b1 b2 b3 b4 b5 b6 n).2.1, .int .i64 (rSt a1 a2 a3 a4 a5 a6 b1 b2 b3 b4 b5 b6 n).2.2.1, .int .i64 (rSt a1 a2 a3 a4 a5 a6 b1 b2 b3 b4 b5 b6 n).2.2.2.1] ∧ Mod (· = w4.heap.size) w5 wr ∧ Blk wr (wo.heap.size) #[.bool true, .bool false]) (fun _ _ j _ => 2 - (intOf j).toNat)
        case atStart => exact ⟨0, 4, rfl, by omega, rfl, rfl, rfl, hW.alloc _, hM.alloc _, Blk.fresh _ _ _⟩
        case round =>
          obtain ⟨m, n, hn, hm, rfl, rfl, rfl, hW2, hM2, hG⟩ := hrel
          have E1 : Blk wr (w.heap.size + 1 + 1 + 1 + 1) #[.int .i64 a1, .int .i64 a2, .int .i64 a3] := D1.mod hM2 n1
          have E2 : Blk wr (w1.heap.size + 1) #[.int .i64 a4, .int .i64 a5, .int .i64 a6] := D2.mod hM2 n2
          have E3 : Blk wr (w2.heap.size + 1) #[.int .i64 b1, .int .i64 b2, .int .i64 b3] := D3.mod hM2 n3
          have E4 : Blk wr (w3.heap.size + 1) #[.int .i64 b4, .int .i64 b5, .int .i64 b6] := D4.mod hM2 n4
          obtain ⟨zz0, cc0, ff0⟩ := id E1
          obtain ⟨zz1, cc1, ff1⟩ := id E2
          obtain ⟨zz2, cc2, ff2⟩ := id E3
          obtain ⟨zz3, cc3, ff3⟩ := id E4
          obtain ⟨zz4, cc4, ff4⟩ := id hW2
          obtain ⟨zz5, cc5, ff5⟩ := id hG
          have hsz : w5.heap.size ≤ wr.heap.size := hM2.size
          have ng : wo.heap.size ≠ w4.heap.size := by have := hW.lt; omega
          by_cases hlt2 : m < 2
          · rcases (show m = 0 ∨ m = 1 by omega) with rfl | rfl
            · obtain rfl : n = 4 := by omega
              clear hn hm hlt2
              have hs1 : (rSt a1 a2 a3 a4 a5 a6 b1 b2 b3 b4 b5 b6 4).1 = true := rfl
              by_cases hd : (sub a6 b3) < (rSt a1 a2 a3 a4 a5 a6 b1 b2 b3 b4 b5 b6 4).2.2.2.2
              · have HR : Hid ((rSt a1 a2 a3 a4 a5 a6 b1 b2 b3 b4 b5 b6 5) = (true, 0, 0, 65536, (sub a6 b3))) := by
                  show rStep (rSt a1 a2 a3 a4 a5 a6 b1 b2 b3 b4 b5 b6 4) (0, 0, 65536, (sub a6 b3)) = _
                  unfold rStep
                  rw [hs1]
                  simp [hd]
                go_wp2_with fail
                refine wp_fresh ?_
                rintro w10 hb10
                have B10_0 : Blk w10 (w.heap.size + 1 + 1 + 1 + 1) _ := Blk.below (by repeat (with_reducible (first | assumption | (apply Blk.at; simp; done) | apply Blk.alloc | apply Blk.drew | apply Blk.drewN | apply Blk.more | apply Blk.put | (apply Blk.far; focus (first | assumption | (apply Ne.symm; assumption) | (simp; done) | (simp <;> omega)))))) hb10
                obtain ⟨z10_0, c10_0, f10_0⟩ := id B10_0
                have B10_1 : Blk w10 (w1.heap.size + 1) _ := Blk.below (by repeat (with_reducible (first | assumption | (apply Blk.at; simp; done) | apply Blk.alloc | apply Blk.drew | apply Blk.drewN | apply Blk.more | apply Blk.put | (apply Blk.far; focus (first | assumption | (apply Ne.symm; assumption) | (simp; done) | (simp <;> omega)))))) hb10
                obtain ⟨z10_1, c10_1, f10_1⟩ := id B10_1
                have B10_2 : Blk w10 (w2.heap.size + 1) _ := Blk.below (by repeat (with_reducible (first | assumption | (apply Blk.at; simp; done) | apply Blk.alloc | apply Blk.drew | apply Blk.drewN | apply Blk.more | apply Blk.put | (apply Blk.far; focus (first | assumption | (apply Ne.symm; assumption) | (simp; done) | (simp <;> omega)))))) hb10
                obtain ⟨z10_2, c10_2, f10_2⟩ := id B10_2
                have B10_3 : Blk w10 (w3.heap.size + 1) _ := Blk.below (by repeat (with_reducible (first | assumption | (apply Blk.at; simp; done) | apply Blk.alloc | apply Blk.drew | apply Blk.drewN | apply Blk.more | apply Blk.put | (apply Blk.far; focus (first | assumption | (apply Ne.symm; assumption) | (simp; done) | (simp <;> omega)))))) hb10
                obtain ⟨z10_3, c10_3, f10_3⟩ := id B10_3
                have B10_4 : Blk w10 (w4.heap.size) _ := Blk.below (by repeat (with_reducible (first | assumption | (apply Blk.at; simp; done) | apply Blk.alloc | apply Blk.drew | apply Blk.drewN | apply Blk.more | apply Blk.put | (apply Blk.far; focus (first | assumption | (apply Ne.symm; assumption) | (simp; done) | (simp <;> omega)))))) hb10
                obtain ⟨z10_4, c10_4, f10_4⟩ := id B10_4
                have B10_5 : Blk w10 (wo.heap.size) _ := Blk.below (by repeat (with_reducible (first | assumption | (apply Blk.at; simp; done) | apply Blk.alloc | apply Blk.drew | apply Blk.drewN | apply Blk.more | apply Blk.put | (apply Blk.far; focus (first | assumption | (apply Ne.symm; assumption) | (simp; done) | (simp <;> omega)))))) hb10
                obtain ⟨z10_5, c10_5, f10_5⟩ := id B10_5
                have B10_6 : Blk w10 (wr.heap.size) _ := Blk.below (by repeat (with_reducible (first | assumption | (apply Blk.at; simp; done) | apply Blk.alloc | apply Blk.drew | apply Blk.drewN | apply Blk.more | apply Blk.put | (apply Blk.far; focus (first | assumption | (apply Ne.symm; assumption) | (simp; done) | (simp <;> omega)))))) hb10
                obtain ⟨z10_6, c10_6, f10_6⟩ := id B10_6
                refine region_quiet_but 12 (by kernel_rfl) (by kernel_rfl) ?_
                simp only [List.take_succ_cons, List.take_zero, List.drop_succ_cons, List.drop_zero]
                repeat (go_big_quiet_step ((go_at_call 53; exact calls_after_same (rsub_c _ _ _))))
                refine wpQuiet_nil ?_
                rintro w11 hw11
                have hb11 := after_below hw11
                clear hw11
                have B11_0 : Blk w11 (w.heap.size + 1 + 1 + 1 + 1) _ := Blk.below (by repeat (with_reducible (first | assumption | (apply Blk.at; simp; done) | apply Blk.alloc | apply Blk.drew | apply Blk.drewN | apply Blk.more | apply Blk.put | (apply Blk.far; focus (first | assumption | (apply Ne.symm; assumption) | (simp; done) | (simp <;> omega)))))) hb11
                obtain ⟨z11_0, c11_0, f11_0⟩ := id B11_0
                have B11_1 : Blk w11 (w1.heap.size + 1) _ := Blk.below (by repeat (with_reducible (first | assumption | (apply Blk.at; simp; done) | apply Blk.alloc | apply Blk.drew | apply Blk.drewN | apply Blk.more | apply Blk.put | (apply Blk.far; focus (first | assumption | (apply Ne.symm; assumption) | (simp; done) | (simp <;> omega)))))) hb11
                obtain ⟨z11_1, c11_1, f11_1⟩ := id B11_1
                have B11_2 : Blk w11 (w2.heap.size + 1) _ := Blk.below (by repeat (with_reducible (first | assumption | (apply Blk.at; simp; done) | apply Blk.alloc | apply Blk.drew | apply Blk.drewN | apply Blk.more | apply Blk.put | (apply Blk.far; focus (first | assumption | (apply Ne.symm; assumption) | (simp; done) | (simp <;> omega)))))) hb11
                obtain ⟨z11_2, c11_2, f11_2⟩ := id B11_2
                have B11_3 : Blk w11 (w3.heap.size + 1) _ := Blk.below (by repeat (with_reducible (first | assumption | (apply Blk.at; simp; done) | apply Blk.alloc | apply Blk.drew | apply Blk.drewN | apply Blk.more | apply Blk.put | (apply Blk.far; focus (first | assumption | (apply Ne.symm; assumption) | (simp; done) | (simp <;> omega)))))) hb11
                obtain ⟨z11_3, c11_3, f11_3⟩ := id B11_3
                have B11_4 : Blk w11 (w4.heap.size) _ := Blk.below (by repeat (with_reducible (first | assumption | (apply Blk.at; simp; done) | apply Blk.alloc | apply Blk.drew | apply Blk.drewN | apply Blk.more | apply Blk.put | (apply Blk.far; focus (first | assumption | (apply Ne.symm; assumption) | (simp; done) | (simp <;> omega)))))) hb11
                obtain ⟨z11_4, c11_4, f11_4⟩ := id B11_4
                have B11_5 : Blk w11 (wo.heap.size) _ := Blk.below (by repeat (with_reducible (first | assumption | (apply Blk.at; simp; done) | apply Blk.alloc | apply Blk.drew | apply Blk.drewN | apply Blk.more | apply Blk.put | (apply Blk.far; focus (first | assumption | (apply Ne.symm; assumption) | (simp; done) | (simp <;> omega)))))) hb11
                obtain ⟨z11_5, c11_5, f11_5⟩ := id B11_5
                have B11_6 : Blk w11 (wr.heap.size) _ := Blk.below (by repeat (with_reducible (first | assumption | (apply Blk.at; simp; done) | apply Blk.alloc | apply Blk.drew | apply Blk.drewN | apply Blk.more | apply Blk.put | (apply Blk.far; focus (first | assumption | (apply Ne.symm; assumption) | (simp; done) | (simp <;> omega)))))) hb11
                obtain ⟨z11_6, c11_6, f11_6⟩ := id B11_6
                go_wp2_with fail
                go_wp2_with fail
                refine calls_fresh ?_
                rintro w12 hb12
                have B12_0 : Blk w12 (w.heap.size + 1 + 1 + 1 + 1) _ := Blk.below (by repeat (with_reducible (first | assumption | (apply Blk.at; simp; done) | apply Blk.alloc | apply Blk.drew | apply Blk.drewN | apply Blk.more | apply Blk.put | (apply Blk.far; focus (first | assumption | (apply Ne.symm; assumption) | (simp; done) | (simp <;> omega)))))) hb12
                obtain ⟨z12_0, c12_0, f12_0⟩ := id B12_0
                have B12_1 : Blk w12 (w1.heap.size + 1) _ := Blk.below (by repeat (with_reducible (first | assumption | (apply Blk.at; simp; done) | apply Blk.alloc | apply Blk.drew | apply Blk.drewN | apply Blk.more | apply Blk.put | (apply Blk.far; focus (first | assumption | (apply Ne.symm; assumption) | (simp; done) | (simp <;> omega)))))) hb12
                obtain ⟨z12_1, c12_1, f12_1⟩ := id B12_1
                have B12_2 : Blk w12 (w2.heap.size + 1) _ := Blk.below (by repeat (with_reducible (first | assumption | (apply Blk.at; simp; done) | apply Blk.alloc | apply Blk.drew | apply Blk.drewN | apply Blk.more | apply Blk.put | (apply Blk.far; focus (first | assumption | (apply Ne.symm; assumption) | (simp; done) | (simp <;> omega)))))) hb12
                obtain ⟨z12_2, c12_2, f12_2⟩ := id B12_2
                have B12_3 : Blk w12 (w3.heap.size + 1) _ := Blk.below (by repeat (with_reducible (first | assumption | (apply Blk.at; simp; done) | apply Blk.alloc | apply Blk.drew | apply Blk.drewN | apply Blk.more | apply Blk.put | (apply Blk.far; focus (first | assumption | (apply Ne.symm; assumption) | (simp; done) | (simp <;> omega)))))) hb12
                obtain ⟨z12_3, c12_3, f12_3⟩ := id B12_3
                have B12_4 : Blk w12 (w4.heap.size) _ := Blk.below (by repeat (with_reducible (first | assumption | (apply Blk.at; simp; done) | apply Blk.alloc | apply Blk.drew | apply Blk.drewN | apply Blk.more | apply Blk.put | (apply Blk.far; focus (first | assumption | (apply Ne.symm; assumption) | (simp; done) | (simp <;> omega)))))) hb12
                obtain ⟨z12_4, c12_4, f12_4⟩ := id B12_4
                have B12_5 : Blk w12 (wo.heap.size) _ := Blk.below (by repeat (with_reducible (first | assumption | (apply Blk.at; simp; done) | apply Blk.alloc | apply Blk.drew | apply Blk.drewN | apply Blk.more | apply Blk.put | (apply Blk.far; focus (first | assumption | (apply Ne.symm; assumption) | (simp; done) | (simp <;> omega)))))) hb12
                obtain ⟨z12_5, c12_5, f12_5⟩ := id B12_5
                have B12_6 : Blk w12 (wr.heap.size) _ := Blk.below (by repeat (with_reducible (first | assumption | (apply Blk.at; simp; done) | apply Blk.alloc | apply Blk.drew | apply Blk.drewN | apply Blk.more | apply Blk.put | (apply Blk.far; focus (first | assumption | (apply Ne.symm; assumption) | (simp; done) | (simp <;> omega)))))) hb12
                try simp only [List.setIfInBounds_toArray, List.set_cons_zero, List.set_cons_succ] at B12_6
                obtain ⟨z12_6, c12_6, f12_6⟩ := id B12_6
                refine (of_c _ _ _ _ _ B12_6).mono ?_
                rintro e w13 ⟨rfl, hb13⟩
                have B13_0 : Blk w13 (w.heap.size + 1 + 1 + 1 + 1) _ := Blk.below (by repeat (with_reducible (first | assumption | (apply Blk.at; simp; done) | apply Blk.alloc | apply Blk.drew | apply Blk.drewN | apply Blk.more | apply Blk.put | (apply Blk.far; focus (first | assumption | (apply Ne.symm; assumption) | (simp; done) | (simp <;> omega)))))) hb13
                obtain ⟨z13_0, c13_0, f13_0⟩ := id B13_0
                have B13_1 : Blk w13 (w1.heap.size + 1) _ := Blk.below (by repeat (with_reducible (first | assumption | (apply Blk.at; simp; done) | apply Blk.alloc | apply Blk.drew | apply Blk.drewN | apply Blk.more | apply Blk.put | (apply Blk.far; focus (first | assumption | (apply Ne.symm; assumption) | (simp; done) | (simp <;> omega)))))) hb13
                obtain ⟨z13_1, c13_1, f13_1⟩ := id B13_1
                have B13_2 : Blk w13 (w2.heap.size + 1) _ := Blk.below (by repeat (with_reducible (first | assumption | (apply Blk.at; simp; done) | apply Blk.alloc | apply Blk.drew | apply Blk.drewN | apply Blk.more | apply Blk.put | (apply Blk.far; focus (first | assumption | (apply Ne.symm; assumption) | (simp; done) | (simp <;> omega)))))) hb13
                obtain ⟨z13_2, c13_2, f13_2⟩ := id B13_2
                have B13_3 : Blk w13 (w3.heap.size + 1) _ := Blk.below (by repeat (with_reducible (first | assumption | (apply Blk.at; simp; done) | apply Blk.alloc | apply Blk.drew | apply Blk.drewN | apply Blk.more | apply Blk.put | (apply Blk.far; focus (first | assumption | (apply Ne.symm; assumption) | (simp; done) | (simp <;> omega)))))) hb13
                obtain ⟨z13_3, c13_3, f13_3⟩ := id B13_3
                have B13_4 : Blk w13 (w4.heap.size) _ := Blk.below (by repeat (with_reducible (first | assumption | (apply Blk.at; simp; done) | apply Blk.alloc | apply Blk.drew | apply Blk.drewN | apply Blk.more | apply Blk.put | (apply Blk.far; focus (first | assumption | (apply Ne.symm; assumption) | (simp; done) | (simp <;> omega)))))) hb13
                obtain ⟨z13_4, c13_4, f13_4⟩ := id B13_4
                have B13_5 : Blk w13 (wo.heap.size) _ := Blk.below (by repeat (with_reducible (first | assumption | (apply Blk.at; simp; done) | apply Blk.alloc | apply Blk.drew | apply Blk.drewN | apply Blk.more | apply Blk.put | (apply Blk.far; focus (first | assumption | (apply Ne.symm; assumption) | (simp; done) | (simp <;> omega)))))) hb13
                obtain ⟨z13_5, c13_5, f13_5⟩ := id B13_5
                have B13_6 : Blk w13 (wr.heap.size) _ := Blk.below (by repeat (with_reducible (first | assumption | (apply Blk.at; simp; done) | apply Blk.alloc | apply Blk.drew | apply Blk.drewN | apply Blk.more | apply Blk.put | (apply Blk.far; focus (first | assumption | (apply Ne.symm; assumption) | (simp; done) | (simp <;> omega)))))) hb13
                obtain ⟨z13_6, c13_6, f13_6⟩ := id B13_6
                go_wp2_with fail
                go_roundw
                case rel =>
                  repeat apply Exists.intro
                  refine ⟨?_, rfl⟩
                  refine ⟨1, 5, rfl, by omega, rfl, ?_, ?_, ?_, ?_, ?_⟩
                  · rw [HR.out]
                  · rw [HR.out]
                  · rw [HR.out]; apply Blk.eq; exact (by repeat (with_reducible (first | assumption | (apply Blk.at; simp; done) | apply Blk.alloc | apply Blk.drew | apply Blk.drewN | apply Blk.more | apply Blk.put | (apply Blk.far; focus (first | assumption | (apply Ne.symm; assumption) | (simp; done) | (simp <;> omega)))))); first | rfl | simp
                  · exact (by repeat (with_reducible (first | assumption | apply Mod.alloc | apply Mod.drew | apply Mod.drewN | apply Mod.more | (apply Mod.set; rotate_left; focus (first | (left; exact rfl) | (right; assumption))) | (apply Mod.below; rotate_left; focus assumption))))
                  · exact (by repeat (with_reducible (first | assumption | (apply Blk.at; simp; done) | apply Blk.alloc | apply Blk.drew | apply Blk.drewN | apply Blk.more | apply Blk.put | (apply Blk.far; focus (first | assumption | (apply Ne.symm; assumption) | (simp; done) | (simp <;> omega))))))
                case measure => simp [intOf]
              · have HR : Hid ((rSt a1 a2 a3 a4 a5 a6 b1 b2 b3 b4 b5 b6 5) = (true, (rSt a1 a2 a3 a4 a5 a6 b1 b2 b3 b4 b5 b6 4).2)) := by
                  show rStep (rSt a1 a2 a3 a4 a5 a6 b1 b2 b3 b4 b5 b6 4) (0, 0, 65536, (sub a6 b3)) = _
                  unfold rStep
                  rw [hs1]
                  simp [hd]
                go_wp2_with fail
                refine wp_fresh ?_
                rintro w10 hb10
                have B10_0 : Blk w10 (w.heap.size + 1 + 1 + 1 + 1) _ := Blk.below (by repeat (with_reducible (first | assumption | (apply Blk.at; simp; done) | apply Blk.alloc | apply Blk.drew | apply Blk.drewN | apply Blk.more | apply Blk.put | (apply Blk.far; focus (first | assumption | (apply Ne.symm; assumption) | (simp; done) | (simp <;> omega)))))) hb10
                obtain ⟨z10_0, c10_0, f10_0⟩ := id B10_0
                have B10_1 : Blk w10 (w1.heap.size + 1) _ := Blk.below (by repeat (with_reducible (first | assumption | (apply Blk.at; simp; done) | apply Blk.alloc | apply Blk.drew | apply Blk.drewN | apply Blk.more | apply Blk.put | (apply Blk.far; focus (first | assumption | (apply Ne.symm; assumption) | (simp; done) | (simp <;> omega)))))) hb10
                obtain ⟨z10_1, c10_1, f10_1⟩ := id B10_1
                have B10_2 : Blk w10 (w2.heap.size + 1) _ := Blk.below (by repeat (with_reducible (first | assumption | (apply Blk.at; simp; done) | apply Blk.alloc | apply Blk.drew | apply Blk.drewN | apply Blk.more | apply Blk.put | (apply Blk.far; focus (first | assumption | (apply Ne.symm; assumption) | (simp; done) | (simp <;> omega)))))) hb10
                obtain ⟨z10_2, c10_2, f10_2⟩ := id B10_2
                have B10_3 : Blk w10 (w3.heap.size + 1) _ := Blk.below (by repeat (with_reducible (first | assumption | (apply Blk.at; simp; done) | apply Blk.alloc | apply Blk.drew | apply Blk.drewN | apply Blk.more | apply Blk.put | (apply Blk.far; focus (first | assumption | (apply Ne.symm; assumption) | (simp; done) | (simp <;> omega)))))) hb10
                obtain ⟨z10_3, c10_3, f10_3⟩ := id B10_3
                have B10_4 : Blk w10 (w4.heap.size) _ := Blk.below (by repeat (with_reducible (first | assumption | (apply Blk.at; simp; done) | apply Blk.alloc | apply Blk.drew | apply Blk.drewN | apply Blk.more | apply Blk.put | (apply Blk.far; focus (first | assumption | (apply Ne.symm; assumption) | (simp; done) | (simp <;> omega)))))) hb10
                obtain ⟨z10_4, c10_4, f10_4⟩ := id B10_4
                have B10_5 : Blk w10 (wo.heap.size) _ := Blk.below (by repeat (with_reducible (first | assumption | (apply Blk.at; simp; done) | apply Blk.alloc | apply Blk.drew | apply Blk.drewN | apply Blk.more | apply Blk.put | (apply Blk.far; focus (first | assumption | (apply Ne.symm; assumption) | (simp; done) | (simp <;> omega)))))) hb10
                obtain ⟨z10_5, c10_5, f10_5⟩ := id B10_5
                have B10_6 : Blk w10 (wr.heap.size) _ := Blk.below (by repeat (with_reducible (first | assumption | (apply Blk.at; simp; done) | apply Blk.alloc | apply Blk.drew | apply Blk.drewN | apply Blk.more | apply Blk.put | (apply Blk.far; focus (first | assumption | (apply Ne.symm; assumption) | (simp; done) | (simp <;> omega)))))) hb10
                obtain ⟨z10_6, c10_6, f10_6⟩ := id B10_6
                refine region_quiet_but 12 (by kernel_rfl) (by kernel_rfl) ?_
                simp only [List.take_succ_cons, List.take_zero, List.drop_succ_cons, List.drop_zero]
                repeat (go_big_quiet_step ((go_at_call 53; exact calls_after_same (rsub_c _ _ _))))
                refine wpQuiet_nil ?_
                rintro w11 hw11
                have hb11 := after_below hw11
                clear hw11
                have B11_0 : Blk w11 (w.heap.size + 1 + 1 + 1 + 1) _ := Blk.below (by repeat (with_reducible (first | assumption | (apply Blk.at; simp; done) | apply Blk.alloc | apply Blk.drew | apply Blk.drewN | apply Blk.more | apply Blk.put | (apply Blk.far; focus (first | assumption | (apply Ne.symm; assumption) | (simp; done) | (simp <;> omega)))))) hb11
                obtain ⟨z11_0, c11_0, f11_0⟩ := id B11_0
                have B11_1 : Blk w11 (w1.heap.size + 1) _ := Blk.below (by repeat (with_reducible (first | assumption | (apply Blk.at; simp; done) | apply Blk.alloc | apply Blk.drew | apply Blk.drewN | apply Blk.more | apply Blk.put | (apply Blk.far; focus (first | assumption | (apply Ne.symm; assumption) | (simp; done) | (simp <;> omega)))))) hb11
                obtain ⟨z11_1, c11_1, f11_1⟩ := id B11_1
                have B11_2 : Blk w11 (w2.heap.size + 1) _ := Blk.below (by repeat (with_reducible (first | assumption | (apply Blk.at; simp; done) | apply Blk.alloc | apply Blk.drew | apply Blk.drewN | apply Blk.more | apply Blk.put | (apply Blk.far; focus (first | assumption | (apply Ne.symm; assumption) | (simp; done) | (simp <;> omega)))))) hb11
                obtain ⟨z11_2, c11_2, f11_2⟩ := id B11_2
                have B11_3 : Blk w11 (w3.heap.size + 1) _ := Blk.below (by repeat (with_reducible (first | assumption | (apply Blk.at; simp; done) | apply Blk.alloc | apply Blk.drew | apply Blk.drewN | apply Blk.more | apply Blk.put | (apply Blk.far; focus (first | assumption | (apply Ne.symm; assumption) | (simp; done) | (simp <;> omega)))))) hb11
                obtain ⟨z11_3, c11_3, f11_3⟩ := id B11_3
                have B11_4 : Blk w11 (w4.heap.size) _ := Blk.below (by repeat (with_reducible (first | assumption | (apply Blk.at; simp; done) | apply Blk.alloc | apply Blk.drew | apply Blk.drewN | apply Blk.more | apply Blk.put | (apply Blk.far; focus (first | assumption | (apply Ne.symm; assumption) | (simp; done) | (simp <;> omega)))))) hb11
                obtain ⟨z11_4, c11_4, f11_4⟩ := id B11_4
                have B11_5 : Blk w11 (wo.heap.size) _ := Blk.below (by repeat (with_reducible (first | assumption | (apply Blk.at; simp; done) | apply Blk.alloc | apply Blk.drew | apply Blk.drewN | apply Blk.more | apply Blk.put | (apply Blk.far; focus (first | assumption | (apply Ne.symm; assumption) | (simp; done) | (simp <;> omega)))))) hb11
                obtain ⟨z11_5, c11_5, f11_5⟩ := id B11_5
                have B11_6 : Blk w11 (wr.heap.size) _ := Blk.below (by repeat (with_reducible (first | assumption | (apply Blk.at; simp; done) | apply Blk.alloc | apply Blk.drew | apply Blk.drewN | apply Blk.more | apply Blk.put | (apply Blk.far; focus (first | assumption | (apply Ne.symm; assumption) | (simp; done) | (simp <;> omega)))))) hb11
                obtain ⟨z11_6, c11_6, f11_6⟩ := id B11_6
                go_wp2_with fail
                go_roundw
                case rel =>
                  repeat apply Exists.intro
                  refine ⟨?_, rfl⟩
                  refine ⟨1, 5, rfl, by omega, rfl, ?_, ?_, ?_, ?_, ?_⟩
                  · rw [HR.out]
                  · rw [HR.out]
                  · rw [HR.out]; apply Blk.eq; exact (by repeat (with_reducible (first | assumption | (apply Blk.at; simp; done) | apply Blk.alloc | apply Blk.drew | apply Blk.drewN | apply Blk.more | apply Blk.put | (apply Blk.far; focus (first | assumption | (apply Ne.symm; assumption) | (simp; done) | (simp <;> omega)))))); first | rfl | simp
                  · exact (by repeat (with_reducible (first | assumption | apply Mod.alloc | apply Mod.drew | apply Mod.drewN | apply Mod.more | (apply Mod.set; rotate_left; focus (first | (left; exact rfl) | (right; assumption))) | (apply Mod.below; rotate_left; focus assumption))))
                  · exact (by repeat (with_reducible (first | assumption | (apply Blk.at; simp; done) | apply Blk.alloc | apply Blk.drew | apply Blk.drewN | apply Blk.more | apply Blk.put | (apply Blk.far; focus (first | assumption | (apply Ne.symm; assumption) | (simp; done) | (simp <;> omega))))))
                case measure => simp [intOf]
            · obtain rfl : n = 5 := by omega
              clear hn hm hlt2
              have hs1 : (rSt a1 a2 a3 a4 a5 a6 b1 b2 b3 b4 b5 b6 5).1 = true := rfl
              by_cases hd : (sub b6 a3) < (rSt a1 a2 a3 a4 a5 a6 b1 b2 b3 b4 b5 b6 5).2.2.2.2
              · have HR : Hid ((rSt a1 a2 a3 a4 a5 a6 b1 b2 b3 b4 b5 b6 6) = (true, 0, 0, -65536, (sub b6 a3))) := by
                  show rStep (rSt a1 a2 a3 a4 a5 a6 b1 b2 b3 b4 b5 b6 5) (0, 0, -65536, (sub b6 a3)) = _
                  unfold rStep
                  rw [hs1]
                  simp [hd]
                go_wp2_with fail
                refine wp_fresh ?_
                rintro w10 hb10
                have B10_0 : Blk w10 (w.heap.size + 1 + 1 + 1 + 1) _ := Blk.below (by repeat (with_reducible (first | assumption | (apply Blk.at; simp; done) | apply Blk.alloc | apply Blk.drew | apply Blk.drewN | apply Blk.more | apply Blk.put | (apply Blk.far; focus (first | assumption | (apply Ne.symm; assumption) | (simp; done) | (simp <;> omega)))))) hb10
                obtain ⟨z10_0, c10_0, f10_0⟩ := id B10_0
                have B10_1 : Blk w10 (w1.heap.size + 1) _ := Blk.below (by repeat (with_reducible (first | assumption | (apply Blk.at; simp; done) | apply Blk.alloc | apply Blk.drew | apply Blk.drewN | apply Blk.more | apply Blk.put | (apply Blk.far; focus (first | assumption | (apply Ne.symm; assumption) | (simp; done) | (simp <;> omega)))))) hb10
                obtain ⟨z10_1, c10_1, f10_1⟩ := id B10_1
                have B10_2 : Blk w10 (w2.heap.size + 1) _ := Blk.below (by repeat (with_reducible (first | assumption | (apply Blk.at; simp; done) | apply Blk.alloc | apply Blk.drew | apply Blk.drewN | apply Blk.more | apply Blk.put | (apply Blk.far; focus (first | assumption | (apply Ne.symm; assumption) | (simp; done) | (simp <;> omega)))))) hb10
                obtain ⟨z10_2, c10_2, f10_2⟩ := id B10_2
                have B10_3 : Blk w10 (w3.heap.size + 1) _ := Blk.below (by repeat (with_reducible (first | assumption | (apply Blk.at; simp; done) | apply Blk.alloc | apply Blk.drew | apply Blk.drewN | apply Blk.more | apply Blk.put | (apply Blk.far; focus (first | assumption | (apply Ne.symm; assumption) | (simp; done) | (simp <;> omega)))))) hb10
                obtain ⟨z10_3, c10_3, f10_3⟩ := id B10_3
                have B10_4 : Blk w10 (w4.heap.size) _ := Blk.below (by repeat (with_reducible (first | assumption | (apply Blk.at; simp; done) | apply Blk.alloc | apply Blk.drew | apply Blk.drewN | apply Blk.more | apply Blk.put | (apply Blk.far; focus (first | assumption | (apply Ne.symm; assumption) | (simp; done) | (simp <;> omega)))))) hb10
                obtain ⟨z10_4, c10_4, f10_4⟩ := id B10_4
                have B10_5 : Blk w10 (wo.heap.size) _ := Blk.below (by repeat (with_reducible (first | assumption | (apply Blk.at; simp; done) | apply Blk.alloc | apply Blk.drew | apply Blk.drewN | apply Blk.more | apply Blk.put | (apply Blk.far; focus (first | assumption | (apply Ne.symm; assumption) | (simp; done) | (simp <;> omega)))))) hb10
                obtain ⟨z10_5, c10_5, f10_5⟩ := id B10_5
                have B10_6 : Blk w10 (wr.heap.size) _ := Blk.below (by repeat (with_reducible (first | assumption | (apply Blk.at; simp; done) | apply Blk.alloc | apply Blk.drew | apply Blk.drewN | apply Blk.more | apply Blk.put | (apply Blk.far; focus (first | assumption | (apply Ne.symm; assumption) | (simp; done) | (simp <;> omega)))))) hb10
                obtain ⟨z10_6, c10_6, f10_6⟩ := id B10_6
                refine region_quiet_but 12 (by kernel_rfl) (by kernel_rfl) ?_
                simp only [List.take_succ_cons, List.take_zero, List.drop_succ_cons, List.drop_zero]
                repeat (go_big_quiet_step ((go_at_call 53; exact calls_after_same (rsub_c _ _ _))))
                refine wpQuiet_nil ?_
                rintro w11 hw11
                have hb11 := after_below hw11
                clear hw11
                have B11_0 : Blk w11 (w.heap.size + 1 + 1 + 1 + 1) _ := Blk.below (by repeat (with_reducible (first | assumption | (apply Blk.at; simp; done) | apply Blk.alloc | apply Blk.drew | apply Blk.drewN | apply Blk.more | apply Blk.put | (apply Blk.far; focus (first | assumption | (apply Ne.symm; assumption) | (simp; done) | (simp <;> omega)))))) hb11
                obtain ⟨z11_0, c11_0, f11_0⟩ := id B11_0
                have B11_1 : Blk w11 (w1.heap.size + 1) _ := Blk.below (by repeat (with_reducible (first | assumption | (apply Blk.at; simp; done) | apply Blk.alloc | apply Blk.drew | apply Blk.drewN | apply Blk.more | apply Blk.put | (apply Blk.far; focus (first | assumption | (apply Ne.symm; assumption) | (simp; done) | (simp <;> omega)))))) hb11
                obtain ⟨z11_1, c11_1, f11_1⟩ := id B11_1
                have B11_2 : Blk w11 (w2.heap.size + 1) _ := Blk.below (by repeat (with_reducible (first | assumption | (apply Blk.at; simp; done) | apply Blk.alloc | apply Blk.drew | apply Blk.drewN | apply Blk.more | apply Blk.put | (apply Blk.far; focus (first | assumption | (apply Ne.symm; assumption) | (simp; done) | (simp <;> omega)))))) hb11
                obtain ⟨z11_2, c11_2, f11_2⟩ := id B11_2
                have B11_3 : Blk w11 (w3.heap.size + 1) _ := Blk.below (by repeat (with_reducible (first | assumption | (apply Blk.at; simp; done) | apply Blk.alloc | apply Blk.drew | apply Blk.drewN | apply Blk.more | apply Blk.put | (apply Blk.far; focus (first | assumption | (apply Ne.symm; assumption) | (simp; done) | (simp <;> omega)))))) hb11
                obtain ⟨z11_3, c11_3, f11_3⟩ := id B11_3
                have B11_4 : Blk w11 (w4.heap.size) _ := Blk.below (by repeat (with_reducible (first | assumption | (apply Blk.at; simp; done) | apply Blk.alloc | apply Blk.drew | apply Blk.drewN | apply Blk.more | apply Blk.put | (apply Blk.far; focus (first | assumption | (apply Ne.symm; assumption) | (simp; done) | (simp <;> omega)))))) hb11
                obtain ⟨z11_4, c11_4, f11_4⟩ := id B11_4
                have B11_5 : Blk w11 (wo.heap.size) _ := Blk.below (by repeat (with_reducible (first | assumption | (apply Blk.at; simp; done) | apply Blk.alloc | apply Blk.drew | apply Blk.drewN | apply Blk.more | apply Blk.put | (apply Blk.far; focus (first | assumption | (apply Ne.symm; assumption) | (simp; done) | (simp <;> omega)))))) hb11
                obtain ⟨z11_5, c11_5, f11_5⟩ := id B11_5
                have B11_6 : Blk w11 (wr.heap.size) _ := Blk.below (by repeat (with_reducible (first | assumption | (apply Blk.at; simp; done) | apply Blk.alloc | apply Blk.drew | apply Blk.drewN | apply Blk.more | apply Blk.put | (apply Blk.far; focus (first | assumption | (apply Ne.symm; assumption) | (simp; done) | (simp <;> omega)))))) hb11
                obtain ⟨z11_6, c11_6, f11_6⟩ := id B11_6
                go_wp2_with fail
                go_wp2_with fail
                refine calls_fresh ?_
                rintro w12 hb12
                have B12_0 : Blk w12 (w.heap.size + 1 + 1 + 1 + 1) _ := Blk.below (by repeat (with_reducible (first | assumption | (apply Blk.at; simp; done) | apply Blk.alloc | apply Blk.drew | apply Blk.drewN | apply Blk.more | apply Blk.put | (apply Blk.far; focus (first | assumption | (apply Ne.symm; assumption) | (simp; done) | (simp <;> omega)))))) hb12
                obtain ⟨z12_0, c12_0, f12_0⟩ := id B12_0
                have B12_1 : Blk w12 (w1.heap.size + 1) _ := Blk.below (by repeat (with_reducible (first | assumption | (apply Blk.at; simp; done) | apply Blk.alloc | apply Blk.drew | apply Blk.drewN | apply Blk.more | apply Blk.put | (apply Blk.far; focus (first | assumption | (apply Ne.symm; assumption) | (simp; done) | (simp <;> omega)))))) hb12
                obtain ⟨z12_1, c12_1, f12_1⟩ := id B12_1
                have B12_2 : Blk w12 (w2.heap.size + 1) _ := Blk.below (by repeat (with_reducible (first | assumption | (apply Blk.at; simp; done) | apply Blk.alloc | apply Blk.drew | apply Blk.drewN | apply Blk.more | apply Blk.put | (apply Blk.far; focus (first | assumption | (apply Ne.symm; assumption) | (simp; done) | (simp <;> omega)))))) hb12
                obtain ⟨z12_2, c12_2, f12_2⟩ := id B12_2
                have B12_3 : Blk w12 (w3.heap.size + 1) _ := Blk.below (by repeat (with_reducible (first | assumption | (apply Blk.at; simp; done) | apply Blk.alloc | apply Blk.drew | apply Blk.drewN | apply Blk.more | apply Blk.put | (apply Blk.far; focus (first | assumption | (apply Ne.symm; assumption) | (simp; done) | (simp <;> omega)))))) hb12
                obtain ⟨z12_3, c12_3, f12_3⟩ := id B12_3
                have B12_4 : Blk w12 (w4.heap.size) _ := Blk.below (by repeat (with_reducible (first | assumption | (apply Blk.at; simp; done) | apply Blk.alloc | apply Blk.drew | apply Blk.drewN | apply Blk.more | apply Blk.put | (apply Blk.far; focus (first | assumption | (apply Ne.symm; assumption) | (simp; done) | (simp <;> omega)))))) hb12
                obtain ⟨z12_4, c12_4, f12_4⟩ := id B12_4
                have B12_5 : Blk w12 (wo.heap.size) _ := Blk.below (by repeat (with_reducible (first | assumption | (apply Blk.at; simp; done) | apply Blk.alloc | apply Blk.drew | apply Blk.drewN | apply Blk.more | apply Blk.put | (apply Blk.far; focus (first | assumption | (apply Ne.symm; assumption) | (simp; done) | (simp <;> omega)))))) hb12
                obtain ⟨z12_5, c12_5, f12_5⟩ := id B12_5
                have B12_6 : Blk w12 (wr.heap.size) _ := Blk.below (by repeat (with_reducible (first | assumption | (apply Blk.at; simp; done) | apply Blk.alloc | apply Blk.drew | apply Blk.drewN | apply Blk.more | apply Blk.put | (apply Blk.far; focus (first | assumption | (apply Ne.symm; assumption) | (simp; done) | (simp <;> omega)))))) hb12
                try simp only [List.setIfInBounds_toArray, List.set_cons_zero, List.set_cons_succ] at B12_6
                obtain ⟨z12_6, c12_6, f12_6⟩ := id B12_6
                refine (of_c _ _ _ _ _ B12_6).mono ?_
                rintro e w13 ⟨rfl, hb13⟩
                have B13_0 : Blk w13 (w.heap.size + 1 + 1 + 1 + 1) _ := Blk.below (by repeat (with_reducible (first | assumption | (apply Blk.at; simp; done) | apply Blk.alloc | apply Blk.drew | apply Blk.drewN | apply Blk.more | apply Blk.put | (apply Blk.far; focus (first | assumption | (apply Ne.symm; assumption) | (simp; done) | (simp <;> omega)))))) hb13
                obtain ⟨z13_0, c13_0, f13_0⟩ := id B13_0
                have B13_1 : Blk w13 (w1.heap.size + 1) _ := Blk.below (by repeat (with_reducible (first | assumption | (apply Blk.at; simp; done) | apply Blk.alloc | apply Blk.drew | apply Blk.drewN | apply Blk.more | apply Blk.put | (apply Blk.far; focus (first | assumption | (apply Ne.symm; assumption) | (simp; done) | (simp <;> omega)))))) hb13
                obtain ⟨z13_1, c13_1, f13_1⟩ := id B13_1
                have B13_2 : Blk w13 (w2.heap.size + 1) _ := Blk.below (by repeat (with_reducible (first | assumption | (apply Blk.at; simp; done) | apply Blk.alloc | apply Blk.drew | apply Blk.drewN | apply Blk.more | apply Blk.put | (apply Blk.far; focus (first | assumption | (apply Ne.symm; assumption) | (simp; done) | (simp <;> omega)))))) hb13
                obtain ⟨z13_2, c13_2, f13_2⟩ := id B13_2
                have B13_3 : Blk w13 (w3.heap.size + 1) _ := Blk.below (by repeat (with_reducible (first | assumption | (apply Blk.at; simp; done) | apply Blk.alloc | apply Blk.drew | apply Blk.drewN | apply Blk.more | apply Blk.put | (apply Blk.far; focus (first | assumption | (apply Ne.symm; assumption) | (simp; done) | (simp <;> omega)))))) hb13
                obtain ⟨z13_3, c13_3, f13_3⟩ := id B13_3
                have B13_4 : Blk w13 (w4.heap.size) _ := Blk.below (by repeat (with_reducible (first | assumption | (apply Blk.at; simp; done) | apply Blk.alloc | apply Blk.drew | apply Blk.drewN | apply Blk.more | apply Blk.put | (apply Blk.far; focus (first | assumption | (apply Ne.symm; assumption) | (simp; done) | (simp <;> omega)))))) hb13
                obtain ⟨z13_4, c13_4, f13_4⟩ := id B13_4
                have B13_5 : Blk w13 (wo.heap.size) _ := Blk.below (by repeat (with_reducible (first | assumption | (apply Blk.at; simp; done) | apply Blk.alloc | apply Blk.drew | apply Blk.drewN | apply Blk.more | apply Blk.put | (apply Blk.far; focus (first | assumption | (apply Ne.symm; assumption) | (simp; done) | (simp <;> omega)))))) hb13
                obtain ⟨z13_5, c13_5, f13_5⟩ := id B13_5
                have B13_6 : Blk w13 (wr.heap.size) _ := Blk.below (by repeat (with_reducible (first | assumption | (apply Blk.at; simp; done) | apply Blk.alloc | apply Blk.drew | apply Blk.drewN | apply Blk.more | apply Blk.put | (apply Blk.far; focus (first | assumption | (apply Ne.symm; assumption) | (simp; done) | (simp <;> omega)))))) hb13
                obtain ⟨z13_6, c13_6, f13_6⟩ := id B13_6
                go_wp2_with fail
                go_roundw
                case rel =>
                  repeat apply Exists.intro
                  refine ⟨?_, rfl⟩
                  refine ⟨2, 6, rfl, by omega, rfl, ?_, ?_, ?_, ?_, ?_⟩
                  · rw [HR.out]
                  · rw [HR.out]
                  · rw [HR.out]; apply Blk.eq; exact (by repeat (with_reducible (first | assumption | (apply Blk.at; simp; done) | apply Blk.alloc | apply Blk.drew | apply Blk.drewN | apply Blk.more | apply Blk.put | (apply Blk.far; focus (first | assumption | (apply Ne.symm; assumption) | (simp; done) | (simp <;> omega)))))); first | rfl | simp
                  · exact (by repeat (with_reducible (first | assumption | apply Mod.alloc | apply Mod.drew | apply Mod.drewN | apply Mod.more | (apply Mod.set; rotate_left; focus (first | (left; exact rfl) | (right; assumption))) | (apply Mod.below; rotate_left; focus assumption))))
                  · exact (by repeat (with_reducible (first | assumption | (apply Blk.at; simp; done) | apply Blk.alloc | apply Blk.drew | apply Blk.drewN | apply Blk.more | apply Blk.put | (apply Blk.far; focus (first | assumption | (apply Ne.symm; assumption) | (simp; done) | (simp <;> omega))))))
                case measure => simp [intOf]
              · have HR : Hid ((rSt a1 a2 a3 a4 a5 a6 b1 b2 b3 b4 b5 b6 6) = (true, (rSt a1 a2 a3 a4 a5 a6 b1 b2 b3 b4 b5 b6 5).2)) := by
                  show rStep (rSt a1 a2 a3 a4 a5 a6 b1 b2 b3 b4 b5 b6 5) (0, 0, -65536, (sub b6 a3)) = _
                  unfold rStep
                  rw [hs1]
                  simp [hd]
                go_wp2_with fail
                refine wp_fresh ?_
                rintro w10 hb10
                have B10_0 : Blk w10 (w.heap.size + 1 + 1 + 1 + 1) _ := Blk.below (by repeat (with_reducible (first | assumption | (apply Blk.at; simp; done) | apply Blk.alloc | apply Blk.drew | apply Blk.drewN | apply Blk.more | apply Blk.put | (apply Blk.far; focus (first | assumption | (apply Ne.symm; assumption) | (simp; done) | (simp <;> omega)))))) hb10
                obtain ⟨z10_0, c10_0, f10_0⟩ := id B10_0
                have B10_1 : Blk w10 (w1.heap.size + 1) _ := Blk.below (by repeat (with_reducible (first | assumption | (apply Blk.at; simp; done) | apply Blk.alloc | apply Blk.drew | apply Blk.drewN | apply Blk.more | apply Blk.put | (apply Blk.far; focus (first | assumption | (apply Ne.symm; assumption) | (simp; done) | (simp <;> omega)))))) hb10
                obtain ⟨z10_1, c10_1, f10_1⟩ := id B10_1
                have B10_2 : Blk w10 (w2.heap.size + 1) _ := Blk.below (by repeat (with_reducible (first | assumption | (apply Blk.at; simp; done) | apply Blk.alloc | apply Blk.drew | apply Blk.drewN | apply Blk.more | apply Blk.put | (apply Blk.far; focus (first | assumption | (apply Ne.symm; assumption) | (simp; done) | (simp <;> omega)))))) hb10
                obtain ⟨z10_2, c10_2, f10_2⟩ := id B10_2
                have B10_3 : Blk w10 (w3.heap.size + 1) _ := Blk.below (by repeat (with_reducible (first | assumption | (apply Blk.at; simp; done) | apply Blk.alloc | apply Blk.drew | apply Blk.drewN | apply Blk.more | apply Blk.put | (apply Blk.far; focus (first | assumption | (apply Ne.symm; assumption) | (simp; done) | (simp <;> omega)))))) hb10
                obtain ⟨z10_3, c10_3, f10_3⟩ := id B10_3
                have B10_4 : Blk w10 (w4.heap.size) _ := Blk.below (by repeat (with_reducible (first | assumption | (apply Blk.at; simp; done) | apply Blk.alloc | apply Blk.drew | apply Blk.drewN | apply Blk.more | apply Blk.put | (apply Blk.far; focus (first | assumption | (apply Ne.symm; assumption) | (simp; done) | (simp <;> omega)))))) hb10
                obtain ⟨z10_4, c10_4, f10_4⟩ := id B10_4
                have B10_5 : Blk w10 (wo.heap.size) _ := Blk.below (by repeat (with_reducible (first | assumption | (apply Blk.at; simp; done) | apply Blk.alloc | apply Blk.drew | apply Blk.drewN | apply Blk.more | apply Blk.put | (apply Blk.far; focus (first | assumption | (apply Ne.symm; assumption) | (simp; done) | (simp <;> omega)))))) hb10
                obtain ⟨z10_5, c10_5, f10_5⟩ := id B10_5
                have B10_6 : Blk w10 (wr.heap.size) _ := Blk.below (by repeat (with_reducible (first | assumption | (apply Blk.at; simp; done) | apply Blk.alloc | apply Blk.drew | apply Blk.drewN | apply Blk.more | apply Blk.put | (apply Blk.far; focus (first | assumption | (apply Ne.symm; assumption) | (simp; done) | (simp <;> omega)))))) hb10
                obtain ⟨z10_6, c10_6, f10_6⟩ := id B10_6
                refine region_quiet_but 12 (by kernel_rfl) (by kernel_rfl) ?_
                simp only [List.take_succ_cons, List.take_zero, List.drop_succ_cons, List.drop_zero]
                repeat (go_big_quiet_step ((go_at_call 53; exact calls_after_same (rsub_c _ _ _))))
                refine wpQuiet_nil ?_
                rintro w11 hw11
                have hb11 := after_below hw11
                clear hw11
                have B11_0 : Blk w11 (w.heap.size + 1 + 1 + 1 + 1) _ := Blk.below (by repeat (with_reducible (first | assumption | (apply Blk.at; simp; done) | apply Blk.alloc | apply Blk.drew | apply Blk.drewN | apply Blk.more | apply Blk.put | (apply Blk.far; focus (first | assumption | (apply Ne.symm; assumption) | (simp; done) | (simp <;> omega)))))) hb11
                obtain ⟨z11_0, c11_0, f11_0⟩ := id B11_0
                have B11_1 : Blk w11 (w1.heap.size + 1) _ := Blk.below (by repeat (with_reducible (first | assumption | (apply Blk.at; simp; done) | apply Blk.alloc | apply Blk.drew | apply Blk.drewN | apply Blk.more | apply Blk.put | (apply Blk.far; focus (first | assumption | (apply Ne.symm; assumption) | (simp; done) | (simp <;> omega)))))) hb11
                obtain ⟨z11_1, c11_1, f11_1⟩ := id B11_1
                have B11_2 : Blk w11 (w2.heap.size + 1) _ := Blk.below (by repeat (with_reducible (first | assumption | (apply Blk.at; simp; done) | apply Blk.alloc | apply Blk.drew | apply Blk.drewN | apply Blk.more | apply Blk.put | (apply Blk.far; focus (first | assumption | (apply Ne.symm; assumption) | (simp; done) | (simp <;> omega)))))) hb11
                obtain ⟨z11_2, c11_2, f11_2⟩ := id B11_2
                have B11_3 : Blk w11 (w3.heap.size + 1) _ := Blk.below (by repeat (with_reducible (first | assumption | (apply Blk.at; simp; done) | apply Blk.alloc | apply Blk.drew | apply Blk.drewN | apply Blk.more | apply Blk.put | (apply Blk.far; focus (first | assumption | (apply Ne.symm; assumption) | (simp; done) | (simp <;> omega)))))) hb11
                obtain ⟨z11_3, c11_3, f11_3⟩ := id B11_3
                have B11_4 : Blk w11 (w4.heap.size) _ := Blk.below (by repeat (with_reducible (first | assumption | (apply Blk.at; simp; done) | apply Blk.alloc | apply Blk.drew | apply Blk.drewN | apply Blk.more | apply Blk.put | (apply Blk.far; focus (first | assumption | (apply Ne.symm; assumption) | (simp; done) | (simp <;> omega)))))) hb11
                obtain ⟨z11_4, c11_4, f11_4⟩ := id B11_4
                have B11_5 : Blk w11 (wo.heap.size) _ := Blk.below (by repeat (with_reducible (first | assumption | (apply Blk.at; simp; done) | apply Blk.alloc | apply Blk.drew | apply Blk.drewN | apply Blk.more | apply Blk.put | (apply Blk.far; focus (first | assumption | (apply Ne.symm; assumption) | (simp; done) | (simp <;> omega)))))) hb11
                obtain ⟨z11_5, c11_5, f11_5⟩ := id B11_5
                have B11_6 : Blk w11 (wr.heap.size) _ := Blk.below (by repeat (with_reducible (first | assumption | (apply Blk.at; simp; done) | apply Blk.alloc | apply Blk.drew | apply Blk.drewN | apply Blk.more | apply Blk.put | (apply Blk.far; focus (first | assumption | (apply Ne.symm; assumption) | (simp; done) | (simp <;> omega)))))) hb11
                obtain ⟨z11_6, c11_6, f11_6⟩ := id B11_6
                go_wp2_with fail
                go_roundw
                case rel =>
                  repeat apply Exists.intro
                  refine ⟨?_, rfl⟩
                  refine ⟨2, 6, rfl, by omega, rfl, ?_, ?_, ?_, ?_, ?_⟩
                  · rw [HR.out]
                  · rw [HR.out]
                  · rw [HR.out]; apply Blk.eq; exact (by repeat (with_reducible (first | assumption | (apply Blk.at; simp; done) | apply Blk.alloc | apply Blk.drew | apply Blk.drewN | apply Blk.more | apply Blk.put | (apply Blk.far; focus (first | assumption | (apply Ne.symm; assumption) | (simp; done) | (simp <;> omega)))))); first | rfl | simp
                  · exact (by repeat (with_reducible (first | assumption | apply Mod.alloc | apply Mod.drew | apply Mod.drewN | apply Mod.more | (apply Mod.set; rotate_left; focus (first | (left; exact rfl) | (right; assumption))) | (apply Mod.below; rotate_left; focus assumption))))
                  · exact (by repeat (with_reducible (first | assumption | (apply Blk.at; simp; done) | apply Blk.alloc | apply Blk.drew | apply Blk.drewN | apply Blk.more | apply Blk.put | (apply Blk.far; focus (first | assumption | (apply Ne.symm; assumption) | (simp; done) | (simp <;> omega))))))
                case measure => simp [intOf]
          · obtain rfl : n = 6 := by omega
            go_wp2_with fail
            go_roundw
            case rel =>
              exact ⟨3, 6, by omega, by omega, rfl, rfl, rfl, hW2, hM2⟩
            case measure => simp [intOf]
    · obtain rfl : n = 6 := by omega
      have E5 : Blk wo (w.heap.size + 1 + 1) #[.int .i64 0, .int .i64 0, .int .i64 0] := D5.mod hM n5
      obtain ⟨ze, ce, fe⟩ := id E5
      obtain ⟨zw, cw, fw⟩ := id hW
      have hBo : Below w.heap.size w wo := hB5.trans (hM.toBelow hB5.size (fun b hb e => by omega))
      go_wp2
      rw [← rSt_out]
      exact bodyPost_ret (v := .tuple #[.agg #[.int .i64 (rSt a1 a2 a3 a4 a5 a6 b1 b2 b3 b4 b5 b6 6).2.1, .int .i64 (rSt a1 a2 a3 a4 a5 a6 b1 b2 b3 b4 b5 b6 6).2.2.1, .int .i64 (rSt a1 a2 a3 a4 a5 a6 b1 b2 b3 b4 b5 b6 6).2.2.2.1], .int .i64 (rSt a1 a2 a3 a4 a5 a6 b1 b2 b3 b4 b5 b6 6).2.2.2.2]) (by simp [results, Try.results113, go_sem, *]) rfl ⟨rfl, (by repeat (with_reducible (first | exact Below.refl _ _ | assumption | apply ext_drew | apply ext_drewN | apply ext_alloc | apply ext_more | (refine ext_setCell ?_ (by simp <;> omega) _) | (refine ext_below ?_ (by assumption)))))⟩

end Go.Proofs.Ytfagkbmphohelaa
