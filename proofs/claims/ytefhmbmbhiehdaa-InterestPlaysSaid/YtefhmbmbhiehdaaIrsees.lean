/- The contract of gyreref.Sees. Bodies in a row. Conditions: none but that there are not too many. -/
import Derived.Test.YtefhmbmbhiehdaaIseeP
import Derived.Test.YtefhmbmbhiehdaaBoxes
import Derived.Test.YtefhmbmbhiehdaaBoxes2
import Derived.Test.YtefhmbmbhiehdaaIsort
import Derived.Test.YtefhmbmbhiehdaaApp
import Derived.Test.YtefhmbmbhiehdaaHeldA
namespace Go.Proofs.Ytefhmbmbhiehdaa
open Go Go.RowKit Go.BigFrame Go.ChangeShapes Go.WideShapes
/-- a body's cells -/
def bodyV (f : Bo) : List Value := (List.range 17).map fun j => .int .i64 (f j)
def bodies (bs : List Bo) : List Value := bs.flatMap bodyV
theorem bodyV_len (f : Bo) : (bodyV f).length = 17 := by simp [bodyV]
theorem bodyV_is (f : Bo) : bodyV f = (#[.int .i64 (f 0), .int .i64 (f 1), .int .i64 (f 2), .int .i64 (f 3), .int .i64 (f 4), .int .i64 (f 5), .int .i64 (f 6), .int .i64 (f 7), .int .i64 (f 8), .int .i64 (f 9), .int .i64 (f 10), .int .i64 (f 11), .int .i64 (f 12), .int .i64 (f 13), .int .i64 (f 14), .int .i64 (f 15), .int .i64 (f 16)] : Array Value).toList := rfl
theorem bodies_snoc (bs : List Bo) (f : Bo) : bodies (bs ++ [f]) = bodies bs ++ bodyV f := by simp [bodies]
theorem bodies_len (bs : List Bo) : (bodies bs).length = bs.length * 17 := by
  induction bs with
  | nil => rfl
  | cons f bs ih =>
    unfold bodies at ih ⊢
    rw [List.flatMap_cons, List.length_append, ih, bodyV_len, List.length_cons]
    omega
theorem bodies_get : ∀ {bs : List Bo} {k : Nat} {f : Bo}, bs[k]? = some f → ∀ {j : Nat}, j < 17 → (bodies bs)[k * 17 + j]? = some (.int .i64 (f j)) := by
  intro bs
  induction bs with
  | nil => intro k f h; simp at h
  | cons g bs ih =>
    intro k f h j hj
    have e : bodies (g :: bs) = bodyV g ++ bodies bs := by simp [bodies]
    rw [e]
    cases k with
    | zero =>
      simp only [List.getElem?_cons_zero, Option.some.injEq] at h
      subst h
      rw [List.getElem?_append_left (by rw [bodyV_len]; omega)]
      simp [bodyV, hj]
    | succ k =>
      rw [List.getElem?_append_right (by rw [bodyV_len]; omega), bodyV_len, show (k + 1) * 17 + j - 17 = k * 17 + j by omega]
      exact ih h hj
theorem body_cell {w : World} {base n g cap k : Nat} {bs : List Bo} {f : Bo} (h : w.ownsRow base 61 17 (.slice (some ⟨g, 0, none⟩) n cap) n (bodies bs)) (hk : bs[k]? = some f) {j : Nat} (hj : j < 17) : w.cell? ⟨g, k * 17 + j, none⟩ = some (.int .i64 (f j)) := by
  have hlt := (List.getElem?_eq_some_iff.1 hk).1
  have hl := h.1
  rw [bodies_len] at hl
  rcases h.2 with ⟨e1, _⟩ | ⟨g', cap', cur, e1, _, e3, _, _, _, e7⟩
  · cases e1
  · cases e1
    unfold World.cell?
    rw [e3]
    have h1 : (cur.toList.take (n * 17))[k * 17 + j]? = (bodies bs)[k * 17 + j]? := by rw [e7]
    rw [List.getElem?_take_of_lt (by omega), bodies_get hk hj] at h1
    simpa using h1
/-- the numbers that the document's Sees takes -/
def rsL (y : Ey) (bs : List Bo) : List Int := (bs.filter fun f => decide (0 ≤ y.far) && eyeB y f.en).map (· 0)
theorem rsL_snoc (y : Ey) (bs : List Bo) (f : Bo) : rsL y (bs ++ [f]) = rsL y bs ++ (if (decide (0 ≤ y.far) && eyeB y f.en) = true then [f 0] else []) := by
  unfold rsL
  rw [List.filter_append, List.map_append]
  cases h : (decide (0 ≤ y.far) && eyeB y f.en) with
  | true => simp [h]
  | false => simp [h]
theorem take_succ_some {α : Type} {l : List α} {k : Nat} {x : α} (h : l[k]? = some x) : l.take (k + 1) = l.take k ++ [x] := by
  rw [List.take_add_one, h]
  rfl
theorem rfat_y (y : Ey) (w : World) : Calls Try.prog 57 #[.agg #[.int .i64 y.x, .int .i64 y.y, .int .i64 y.z, .int .i64 y.x, .int .i64 y.y, .int .i64 y.z], .int .i64 y.far] w fun e w' => e = .returned (.agg #[.int .i64 y.bx.a1, .int .i64 y.bx.a2, .int .i64 y.bx.a3, .int .i64 y.bx.b1, .int .i64 y.bx.b2, .int .i64 y.bx.b3]) ∧ Below w.heap.size w w' := rfat_c _ _ _ _ _ _ _ w
theorem raround_f (f : Bo) (w : World) : Calls Try.prog 58 #[.agg #[.int .i64 (f 2), .int .i64 (f 3), .int .i64 (f 4), .int .i64 (f 5)], .agg #[.int .i64 (f 6), .int .i64 (f 7), .int .i64 (f 8)]] w fun e w' => e = .returned (.agg #[.int .i64 f.bx.a1, .int .i64 f.bx.a2, .int .i64 f.bx.a3, .int .i64 f.bx.b1, .int .i64 f.bx.b2, .int .i64 f.bx.b3]) ∧ Below w.heap.size w w' := raround_c _ _ _ _ _ _ _ w
theorem rmeet_x (a b : Bx) (w : World) : Calls Try.prog 56 #[.agg #[.int .i64 a.a1, .int .i64 a.a2, .int .i64 a.a3, .int .i64 a.b1, .int .i64 a.b2, .int .i64 a.b3], .agg #[.int .i64 b.a1, .int .i64 b.a2, .int .i64 b.a3, .int .i64 b.b1, .int .i64 b.b2, .int .i64 b.b3]] w fun e w' => e = .returned (.bool (meetX a b)) ∧ Below w.heap.size w w' := rmeet_c _ _ _ _ _ _ _ _ _ _ _ _ w
theorem intInfoR : (Try.prog.info? 3).map (fun i => (i.zero, i.size, i.bytes)) = some (some (.int .i64 0), 1, 8) := by kernel_rfl
theorem blk_asR {w : World} {b : Nat} {cs cs' : Array Value} (h : Blk w b cs) (e : cs = cs') : Blk w b cs' := e ▸ h
theorem row_zeroR {w : World} {B0 size n : Nat} {e : TypeId} {v : Value} {xs : List Value} (h : w.ownsRow B0 e size v n xs) : w.ownsRow 0 e size v n xs := ⟨h.1, h.2.imp _root_.id (fun ⟨g, cap, cur, h1, _, h3⟩ => ⟨g, cap, cur, h1, Nat.zero_le _, h3⟩)⟩
set_option maxRecDepth 100000 in
set_option maxHeartbeats 4000000 in
theorem rsees_c (w : World) (v : Value) (bs : List Bo) (y : Ey) (base : Nat) (hrow : w.ownsRow base 61 17 v bs.length (bodies bs)) (hbs : bs.length ≤ 1000) :
    Calls Try.prog 24 #[v, .agg #[.int .i64 y.x, .int .i64 y.y, .int .i64 y.z], .int .i64 y.far, .int .i64 y.teams] w fun e w' => ∃ v', e = .returned v' ∧ w'.ownsRow 0 3 1 v' (srt (rsL y bs)).length (ints (srt (rsL y bs))) ∧ Below w.heap.size w w' := by
  obtain ⟨A, cp, rfl⟩ : ∃ A cp, v = .slice A bs.length cp := by
    rcases hrow.2 with ⟨e1, e2⟩ | ⟨g, cap, cur, e1, _⟩
    · exact ⟨none, 0, by rw [e1, e2]⟩
    · exact ⟨_, cap, e1⟩
  have HROW := Lib.hid hrow
  clear hrow
  have HFX : Hid (∀ f : Bo, (decide (0 ≤ y.far) && eyeB y f.en) = (decide (0 ≤ y.far) && ((bits .and .i64 (f 16) y.teams != 0) && meetX y.bx f.bx))) := Lib.hid (fun f => rfl)
  go_enter Try.func24, Try.ntmps24
  go_upto_region 2 with fail
  refine wp_fresh ?_
  rintro w1 hb1
  have HP5 : Hid (Blk w1 w.heap.size #[.int .i64 y.x, .int .i64 y.y, .int .i64 y.z]) := Lib.hid (Blk.below (by repeat (with_reducible (first | assumption | (apply Blk.at; simp; done) | apply Blk.alloc | apply Blk.drew | apply Blk.drewN | apply Blk.more | apply Blk.put | (apply Blk.far; focus (first | assumption | (apply Ne.symm; assumption) | (simp; done) | (simp <;> omega)))))) hb1)
  have HV1 : Hid (Below w.heap.size w w1) := Lib.hid (by repeat (with_reducible (first | exact Below.refl _ _ | assumption | apply ext_drew | apply ext_drewN | apply ext_alloc | apply ext_more | (refine ext_setCell ?_ (by first | assumption | (simp <;> omega)) _) | (refine ext_below ?_ (by assumption)))))
  clear hb1
  have hw1 := HP5.out.lt
  go_wp2
  go_loopw [9, 14] (fun v i wr => ∃ (k : Nat), k ≤ bs.length ∧ i = .int .i64 k ∧ wr.ownsRow (w.heap.size + 1) 3 1 v (rsL y (bs.take k)).length (ints (rsL y (bs.take k))) ∧ Blk wr w.heap.size #[.int .i64 y.x, .int .i64 y.y, .int .i64 y.z] ∧ Below w.heap.size w wr) (fun _ i _ => bs.length - (intOf i).toNat)
  case atStart => exact ⟨0, by omega, rfl, ⟨rfl, .inl ⟨rfl, rfl⟩⟩, HP5.out, HV1.out⟩
  case round =>
    obtain ⟨k, hk, rfl, hr, hp, hb⟩ := hrel
    have HR := Lib.hid hr
    have HP := Lib.hid hp
    have HBE := Lib.hid hb
    have hlk : (rsL y (bs.take k)).length ≤ 1000 := by
      unfold rsL
      rw [List.length_map]
      refine Nat.le_trans (List.length_filter_le _ _) ?_
      rw [List.length_take]
      omega
    clear hr hp hb
    by_cases hlt : k < bs.length
    · have dlt : decide ((k : Int) < (bs.length : Int)) = true := decide_eq_true (by omega)
      have hrr := row_below HROW.out HBE.out
      obtain ⟨g, cr, hgr, _, hgl, _⟩ := row_at hrr (by omega)
      cases hgr
      obtain ⟨f, hf⟩ : ∃ f, bs[k]? = some f := ⟨_, List.getElem?_eq_getElem hlt⟩
      have HF := Lib.hid hf
      have q0 := body_cell hrr hf (j := 0) (by decide)
      have q1 := body_cell hrr hf (j := 1) (by decide)
      have q2 := body_cell hrr hf (j := 2) (by decide)
      have q3 := body_cell hrr hf (j := 3) (by decide)
      have q4 := body_cell hrr hf (j := 4) (by decide)
      have q5 := body_cell hrr hf (j := 5) (by decide)
      have q6 := body_cell hrr hf (j := 6) (by decide)
      have q7 := body_cell hrr hf (j := 7) (by decide)
      have q8 := body_cell hrr hf (j := 8) (by decide)
      have q9 := body_cell hrr hf (j := 9) (by decide)
      have q10 := body_cell hrr hf (j := 10) (by decide)
      have q11 := body_cell hrr hf (j := 11) (by decide)
      have q12 := body_cell hrr hf (j := 12) (by decide)
      have q13 := body_cell hrr hf (j := 13) (by decide)
      have q14 := body_cell hrr hf (j := 14) (by decide)
      have q15 := body_cell hrr hf (j := 15) (by decide)
      have q16 := body_cell hrr hf (j := 16) (by decide)
      simp only [Nat.add_zero] at q0
      clear hrr hf
      go_upto_region 5 with fail
      refine wp_fresh ?_
      rintro w3 hb3
      have HP11 : Hid (Blk w3 wr.heap.size #[.int .i64 (f 0), .int .i64 (f 1), .int .i64 (f 2), .int .i64 (f 3), .int .i64 (f 4), .int .i64 (f 5), .int .i64 (f 6), .int .i64 (f 7), .int .i64 (f 8), .int .i64 (f 9), .int .i64 (f 10), .int .i64 (f 11), .int .i64 (f 12), .int .i64 (f 13), .int .i64 (f 14), .int .i64 (f 15), .int .i64 (f 16)]) := Lib.hid (Blk.below (by
        refine blk_asR (cs := _) (by repeat (with_reducible (first | assumption | (apply Blk.at; simp; done) | apply Blk.alloc | apply Blk.drew | apply Blk.drewN | apply Blk.more | apply Blk.put | (apply Blk.far; focus (first | assumption | (apply Ne.symm; assumption) | (simp; done) | (simp <;> omega)))))) ?_
        simp only []) hb3)
      have hv3 : Below wr.heap.size wr w3 := (by repeat (with_reducible (first | exact Below.refl _ _ | assumption | apply ext_drew | apply ext_drewN | apply ext_alloc | apply ext_more | (refine ext_setCell ?_ (by first | assumption | (simp <;> omega)) _) | (refine ext_below ?_ (by assumption)))))
      have HV3 := Lib.hid hv3
      have HP3 := Lib.hid (HP.out.below hv3)
      have HR3 := Lib.hid (row_below HR.out hv3)
      have HBE3 : Hid (Below w.heap.size w w3) := Lib.hid (HBE.out.trans (hv3.mono HBE.out.size))
      clear hb3 hv3 q0 q1 q2 q3 q4 q5 q6 q7 q8 q9 q10 q11 q12 q13 q14 q15 q16 HP HR
      have hsz := HBE.out.size
      have hs3 := HP11.out.lt
      obtain ⟨pb, hpb⟩ : ∃ pb, pb = wr.heap.size := ⟨_, rfl⟩
      rw [← hpb] at HP11 hs3
      rw [← hpb]
      clear hpb HV3 HBE hsz
      by_cases hfar : 0 ≤ y.far
      · have df : decide (0 ≤ y.far) = true := decide_eq_true hfar
        cases db : (bits .and .i64 (f 16) y.teams != 0) with
        | false =>
          obtain ⟨z5, c5, f5⟩ := id HP3.out
          obtain ⟨z11, c11, f11⟩ := id HP11.out
          have hmc := more_cell
          refine region_quiet_all (by kernel_rfl) (by kernel_rfl) ?_
          repeat (go_big_quiet_step (first | (go_at_call 57; exact calls_after (rfat_y y _)) | (go_at_call 58; exact calls_after (raround_f f _)) | (go_at_call 56; exact calls_after (rmeet_x y.bx f.bx _))))
          refine wpQuiet_nil ?_
          rintro w7 hw7
          have hb7 := after_below hw7
          clear hw7 hmc z5 c5 f5 z11 c11 f11
          have HV7 : Hid (Below w.heap.size w w7) := Lib.hid (HBE3.out.trans (hb7.mono HBE3.out.size))
          have HR7 := Lib.hid (row_below HR3.out hb7)
          have HP7 := Lib.hid (HP3.out.below hb7)
          clear hb7
          go_wp2
          go_roundw
          case rel =>
            refine ⟨k + 1, by omega, by go_num, ?_, HP7.out, HV7.out⟩
            rw [take_succ_some HF.out, rsL_snoc, HFX.out f]
            simp only [df, db, Bool.false_and, Bool.and_false, Bool.false_eq_true, if_false, List.append_nil]
            exact HR7.out
          case measure => simp [intOf]; omega

        | true =>
          cases hx : meetX y.bx f.bx with
          | false =>
            obtain ⟨z5, c5, f5⟩ := id HP3.out
            obtain ⟨z11, c11, f11⟩ := id HP11.out
            have hmc := more_cell
            refine region_quiet_all (by kernel_rfl) (by kernel_rfl) ?_
            repeat (go_big_quiet_step (first | (go_at_call 57; exact calls_after (rfat_y y _)) | (go_at_call 58; exact calls_after (raround_f f _)) | (go_at_call 56; exact calls_after (rmeet_x y.bx f.bx _))))
            refine wpQuiet_nil ?_
            rintro w7 hw7
            have hb7 := after_below hw7
            clear hw7 hmc z5 c5 f5 z11 c11 f11
            have HV7 : Hid (Below w.heap.size w w7) := Lib.hid (HBE3.out.trans (hb7.mono HBE3.out.size))
            have HR7 := Lib.hid (row_below HR3.out hb7)
            have HP7 := Lib.hid (HP3.out.below hb7)
            clear hb7
            go_wp2
            go_roundw
            case rel =>
              refine ⟨k + 1, by omega, by go_num, ?_, HP7.out, HV7.out⟩
              rw [take_succ_some HF.out, rsL_snoc, HFX.out f]
              simp only [df, db, hx, Bool.and_false, Bool.false_eq_true, if_false, List.append_nil]
              exact HR7.out
            case measure => simp [intOf]; omega

          | true =>
            obtain ⟨z5, c5, f5⟩ := id HP3.out
            obtain ⟨z11, c11, f11⟩ := id HP11.out
            have hmc := more_cell
            refine region_quiet_all (by kernel_rfl) (by kernel_rfl) ?_
            repeat (go_big_quiet_step (first | (go_at_call 57; exact calls_after (rfat_y y _)) | (go_at_call 58; exact calls_after (raround_f f _)) | (go_at_call 56; exact calls_after (rmeet_x y.bx f.bx _))))
            refine wpQuiet_nil ?_
            rintro w7 hw7
            have hb7 := after_below hw7
            clear hw7 hmc z5 c5 f5 z11 c11 f11
            have HV7 : Hid (Below w.heap.size w w7) := Lib.hid (HBE3.out.trans (hb7.mono HBE3.out.size))
            have HR7 := Lib.hid (row_below HR3.out hb7)
            have HP7 := Lib.hid (HP3.out.below hb7)
            have HP117 := Lib.hid (HP11.out.below hb7)
            have hs7 : w.heap.size + 1 ≤ w7.heap.size := by have := HP7.out.lt; omega
            clear hb7
            obtain ⟨z11, c11, f11⟩ := id HP117.out
            go_wp2_with (at_builtin; go_must (refine app_one rfl (.tmp 40) (.tmp 43) 71 rfl Try.underlying71 intInfoR rfl (by decide) (by decide) (w.heap.size + 1) _ _ (ints (rsL y (bs.take k))) rfl HR7.out #[.int .i64 (f 0)] rfl (by simp) rfl (one_int _ _) (by omega) hs7 ?_; intro g' c' w8 hown hmod hwh hbg; have HOWN := Lib.hid hown; have HMOD := Lib.hid hmod; clear hown hmod hwh hbg))
            go_roundw
            case rel =>
              refine ⟨k + 1, by omega, by go_num, ?_, HP7.out.mod HMOD.out (fun e => by have := (row_lt HR7.out e).2; omega), HV7.out.trans (HMOD.out.toBelow HV7.out.size (fun b hb e => by have := (row_lt HR7.out e).2; omega))⟩
              rw [take_succ_some HF.out, rsL_snoc, HFX.out f]
              simp only [df, db, hx, Bool.and_self, if_true]
              rw [List.length_append, ints_app]
              exact HOWN.out
            case measure => simp [intOf]; omega

      · have df : decide (0 ≤ y.far) = false := decide_eq_false hfar
        obtain ⟨z5, c5, f5⟩ := id HP3.out
        obtain ⟨z11, c11, f11⟩ := id HP11.out
        have hmc := more_cell
        refine region_quiet_all (by kernel_rfl) (by kernel_rfl) ?_
        repeat (go_big_quiet_step (first | (go_at_call 57; exact calls_after (rfat_y y _)) | (go_at_call 58; exact calls_after (raround_f f _)) | (go_at_call 56; exact calls_after (rmeet_x y.bx f.bx _))))
        refine wpQuiet_nil ?_
        rintro w7 hw7
        have hb7 := after_below hw7
        clear hw7 hmc z5 c5 f5 z11 c11 f11
        have HV7 : Hid (Below w.heap.size w w7) := Lib.hid (HBE3.out.trans (hb7.mono HBE3.out.size))
        have HR7 := Lib.hid (row_below HR3.out hb7)
        have HP7 := Lib.hid (HP3.out.below hb7)
        clear hb7
        go_wp2
        go_roundw
        case rel =>
          refine ⟨k + 1, by omega, by go_num, ?_, HP7.out, HV7.out⟩
          rw [take_succ_some HF.out, rsL_snoc, HFX.out f]
          simp only [df, Bool.false_and, Bool.false_eq_true, if_false, List.append_nil]
          exact HR7.out
        case measure => simp [intOf]; omega
    · have dlt : decide ((k : Int) < (bs.length : Int)) = false := decide_eq_false (by omega)
      have hkn : k = bs.length := by omega
      subst hkn
      rw [List.take_length] at HR hlk
      go_wp2_with fail
      refine (sortInts_c _ _ _ _ HR.out (by omega)).mono ?_
      rintro e4 w4 ⟨rfl, hr4, hm4⟩
      go_wp2
      go_ret
      refine ⟨_, rfl, row_zeroR hr4, HBE.out.trans (hm4.toBelow HBE.out.size (fun b hb e => by have := (row_lt HR.out e).2; omega))⟩
end Go.Proofs.Ytefhmbmbhiehdaa
