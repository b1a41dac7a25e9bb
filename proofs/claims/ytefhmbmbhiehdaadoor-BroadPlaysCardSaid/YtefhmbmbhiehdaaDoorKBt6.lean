/- more, in of broad.Tree. Conditions: none. -/
import Derived.Deep.CutRange
import Derived.Deep.CutBlock
import Derived.Test.YtefhmbmbhiehdaaDoorKBt5
namespace Go.Proofs.YtefhmbmbhiehdaaDoor
open Go Go.Maps Go.RowKit Go.BigFrame Go.ChangeShapes Go.WideShapes
theorem size_c (a1 a2 a3 a4 a5 a6 : Int) : ∃ z : Int, ∀ w, Calls Tryd.prog 43 #[.agg #[.int .i64 a1, .int .i64 a2, .int .i64 a3, .int .i64 a4, .int .i64 a5, .int .i64 a6]] w fun e w' => e = .returned (.int .i64 z) ∧ Below w.heap.size w w' := by
  refine ⟨wrap64 (wrap64 (wrap64 (wrap64 (wrap64 (a4 - a1) + a5) - a2) + a6) - a3), fun w => ?_⟩
  go_enter Tryd.func43, Tryd.ntmps43
  go_wp2
  go_ret
  refine ⟨rfl, ?_⟩
  exact (by repeat (with_reducible (first | exact Below.refl _ _ | assumption | apply ext_drew | apply ext_drewN | apply ext_alloc | apply ext_more | (refine ext_setCell ?_ (by first | assumption | (simp <;> omega)) _) | (refine ext_below ?_ (by assumption)))))
set_option maxRecDepth 100000 in
set_option maxHeartbeats 4000000 in
theorem more_c (w : World) (t : Nat) (s : BT) (M : Nat → Nat → Int) (n k : Nat) (hB : Blk w t s.cs) (hN : NT w s.nb s.cap s.nn M) (hn : n < s.nn) (hk : k < s.nn) :
    ∃ z : Int, Calls Tryd.prog 33 #[.pointer (some ⟨t, 0, none⟩), .int .i64 (n : Int), .int .i64 (k : Int)] w fun e w' => e = .returned (.int .i64 z) ∧ Below w.heap.size w w' := by
  obtain ⟨z1, h1⟩ := size_c (min (M n 0) (M k 0)) (min (M n 1) (M k 1)) (min (M n 2) (M k 2)) (max (M n 3) (M k 3)) (max (M n 4) (M k 4)) (max (M n 5) (M k 5))
  obtain ⟨z2, h2⟩ := size_c (M n 0) (M n 1) (M n 2) (M n 3) (M n 4) (M n 5)
  have H1 := Lib.hid h1
  have H2 := Lib.hid h2
  refine ⟨wrap64 (z1 - z2), ?_⟩
  have HB : Hid (Blk w t #[.slice (some ⟨s.nb, 0, none⟩) s.nn s.cap, s.fv, .int .i64 s.root, .bool s.som, .map (some s.lf), .map (some s.bx), .int .i64 s.fat]) := Lib.hid hB
  have hbl : s.nb < w.heap.size := hN.lt
  have q0 := hN.cell hn (j := 0) (by decide)
  have r0 := hN.cell hk (j := 0) (by decide)
  have q1 := hN.cell hn (j := 1) (by decide)
  have r1 := hN.cell hk (j := 1) (by decide)
  have q2 := hN.cell hn (j := 2) (by decide)
  have r2 := hN.cell hk (j := 2) (by decide)
  have q3 := hN.cell hn (j := 3) (by decide)
  have r3 := hN.cell hk (j := 3) (by decide)
  have q4 := hN.cell hn (j := 4) (by decide)
  have r4 := hN.cell hk (j := 4) (by decide)
  have q5 := hN.cell hn (j := 5) (by decide)
  have r5 := hN.cell hk (j := 5) (by decide)
  simp only [Nat.add_zero] at q0 r0
  clear hB hN h1 h2
  obtain ⟨zt, ct, ft⟩ := id HB.out
  go_enter Tryd.func33, Tryd.ntmps33
  go_upto_region 1 with fail
  have hmc := more_cell
  refine region_quiet_but 28 (by kernel_rfl) (by kernel_rfl) ?_
  simp only [List.take_succ_cons, List.take_zero, List.drop_succ_cons, List.drop_zero]
  repeat (go_big_quiet_step (first | (go_at_call 44; exact calls_after (both_c _ _ _ _ _ _ _ _ _ _ _ _ _)) | (go_at_call 43; first | (with_reducible exact calls_after (H2.out _)) | (with_reducible exact calls_after (H1.out _)))))
  refine wpQuiet_nil ?_
  rintro w1 hw1
  have hb1 := after_below hw1
  clear hw1 hmc zt ct ft
  go_wp2_with fail
  go_ret
  exact ⟨rfl, hb1⟩
/-- a new node -/
structure NodePost (w : World) (t : Nat) (s : BT) (M : Nat → Nat → Int) (F : List Nat) (m n : Nat) (f : Int → Option Nat) (x : Nat → Int) (w' : World) (i nb' cap' nn' : Nat) (fv' : Value) (F' : List Nat) : Prop where
  tw : TW w' t { s with nb := nb', cap := cap', nn := nn', fv := fv' } (setRow M i x) F' m n f
  way : (F = [] ∧ F' = [] ∧ i = s.nn ∧ nn' = s.nn + 1) ∨ (F = F' ++ [i] ∧ nn' = s.nn)
  fv : FvPost w w' s.fv fv'
  nb : nb' = s.nb ∨ w.heap.size ≤ nb'
  mod : Mod (TB t s) w w'
theorem row_nil {w : World} {v : Value} {xs : List Value} (h : w.ownsRow 0 3 1 v 0 xs) : ∃ A C, v = .slice A 0 C := by
  rcases h.2 with ⟨e, _⟩ | ⟨g, cap, cur, e, _⟩
  · exact ⟨none, 0, e⟩
  · exact ⟨_, cap, e⟩
set_option maxHeartbeats 4000000 in
theorem node_c (w : World) (t : Nat) (s : BT) (M : Nat → Nat → Int) (F : List Nat) (m n : Nat) (f : Int → Option Nat) (x : Nat → Int) (hW : TW w t s M F m n f) (hF : ∀ y ∈ F, y < s.nn) (hnn : s.nn < 900000) :
    Calls Tryd.prog 22 #[.pointer (some ⟨t, 0, none⟩), .agg #[.int .i64 (x 0), .int .i64 (x 1), .int .i64 (x 2), .int .i64 (x 3), .int .i64 (x 4), .int .i64 (x 5), .int .i64 (x 6), .int .i64 (x 7), .int .i64 (x 8), .int .i64 (x 9), .int .i64 (x 10)]] w fun e w' => ∃ (i nb' cap' nn' : Nat) (fv' : Value) (F' : List Nat), e = .returned (.int .i64 (i : Int)) ∧ NodePost w t s M F m n f x w' i nb' cap' nn' fv' F' := by
  have htl := hW.blk.lt
  have hll := hW.lfm.lt
  have hfl : ∀ b, s.fv.ownBlock = some b → b < w.heap.size := fun b e => (row_lt hW.free e).1
  have hnl := hW.nt.lt
  rcases List.eq_nil_or_concat F with rfl | ⟨F', i, rfl⟩
  · obtain ⟨A, C, hfv⟩ := row_nil hW.free
    have hB : Blk w t #[.slice (some ⟨s.nb, 0, none⟩) s.nn s.cap, s.fv, .int .i64 s.root, .bool s.som, .map (some s.lf), .map (some s.bx), .int .i64 s.fat] := hW.blk
    rw [hfv] at hB
    refine (node_app w t _ A C s.nn s.root s.som (some s.lf) (some s.bx) s.fat M x hB hW.nt (fun e => hW.tn (Option.some.inj e).symm) hnn).mono ?_
    rintro e w' ⟨rfl, b, cap, hB', hN', hb, hM⟩
    have hb' : b = s.nb ∨ w.heap.size ≤ b := hb.imp (fun e => (Option.some.inj e).symm) id
    have hM' : Mod (fun y => y = t ∨ y = s.nb) w w' := hM.mono fun _ _ e => e.imp id (fun e => (Option.some.inj e).symm)
    have hne : ∀ y, y < w.heap.size → s.nb ≠ y → b ≠ y := fun y h1 h2 e => hb'.elim (fun h => h2 (h ▸ e)) (fun h => by omega)
    refine ⟨s.nn, b, cap, s.nn + 1, s.fv, [], rfl, ⟨⟨?_, hN', row_mod hW.free hM' (fun c e e' => e'.elim (fun e2 => hW.ft (e2 ▸ e)) (fun e2 => hW.fn (e2 ▸ e))), hW.lfm.mod hM' (fun e' => e'.elim hW.lt hW.ln), (hne t htl (fun e => hW.tn e.symm)).symm, hW.ft, fun e => hne b (hfl b e) (fun e' => hW.fn (e' ▸ e)) rfl, hW.lt, (hne s.lf hll (fun e => hW.ln e.symm)).symm, hW.lv⟩, .inl ⟨rfl, rfl, rfl, rfl⟩, .inl rfl, hb', hM'.mono fun _ _ e => e.elim .inl (fun e => .inr (.inl e))⟩⟩
    rw [hfv] at *
    exact hB'
  · rw [List.concat_eq_append] at *
    have hfr := hW.free
    rw [List.length_append, List.map_append] at hfr
    obtain ⟨g, C, hfv, -, -, -, -, -, -, -⟩ := row_at hfr (by simp)
    have hB : Blk w t #[.slice (some ⟨s.nb, 0, none⟩) s.nn s.cap, s.fv, .int .i64 s.root, .bool s.som, .map (some s.lf), .map (some s.bx), .int .i64 s.fat] := hW.blk
    rw [hfv] at hB hfr
    have hgt : s.fv.ownBlock = some g := by rw [hfv]; rfl
    refine (node_free w t s.nb s.cap s.nn g F'.length C (F'.map fun (x : Nat) => (x : Int)) s.root s.som (some s.lf) (some s.bx) s.fat M i x (by simp) hB hW.nt hfr (hF i (by simp)) hW.tn (fun e => hW.ft (e ▸ hgt)) (fun e => hW.fn (e ▸ hgt))).mono ?_
    rintro e w' ⟨rfl, hB', hN', hF', hM⟩
    refine ⟨i, s.nb, s.cap, s.nn, .slice (some ⟨g, 0, none⟩) F'.length C, F', rfl, ⟨⟨hB', hN', hF', hW.lfm.mod hM (fun e' => e'.elim hW.lt hW.ln), hW.tn, fun e => hW.ft (hgt.trans e), fun e => hW.fn (hgt.trans e), hW.lt, hW.ln, fun e => hW.lv (hgt.trans e)⟩, .inr ⟨rfl, rfl⟩, .inl hgt.symm, .inl rfl, hM.mono fun _ _ e => e.elim .inl (fun e => .inr (.inl e))⟩⟩
end Go.Proofs.YtefhmbmbhiehdaaDoor
