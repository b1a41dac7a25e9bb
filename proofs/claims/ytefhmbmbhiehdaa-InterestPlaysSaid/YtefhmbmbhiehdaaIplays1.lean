/- The loop of gyrelaw.InterestPlays that takes the others. Conditions: none. -/
import Derived.Test.YtefhmbmbhiehdaaIplays0
namespace Go.Proofs.Ytefhmbmbhiehdaa
open Go Go.Maps Go.RowKit Go.BigFrame Go.ChangeShapes Go.WideShapes
set_option maxRecDepth 100000 in
set_option maxHeartbeats 8000000 in
theorem left_way {Q : Exit → Act → World → Prop} {w6 : World} {p7 cv : Nat} {Av : Option Addr} {bs : List Bo} {f : Bo} {u0 u1 u2 u3 u5 u6 u10 u11 u12 u13 u14 u15 u16 u17 u18 u19 u20 u21 u22 u23 u24 u25 u26 u27 u28 u29 u30 u31 u32 u33 u34 u35 u36 u37 u38 u39 u40 u41 u42 u43 u44 u45 u46 u47 u48 u49 u50 u51 u52 u53 u54 u55 u56 u57 u58 u59 u60 u61 u62 u63 u64 u65 u66 u67 u68 u69 u70 u71 u72 u73 u74 u75 u76 u77 u78 u79 u80 u81 u82 u83 u84 u85 u86 u87 u88 u89 u90 u91 u92 u93 u94 u95 u96 u97 u98 : Value} (hle : bs.length ≤ 80) (HRA : Hid (w6.ownsRow 0 61 17 (.slice Av bs.length cv) bs.length (bodies bs))) (HP7 : Hid (Blk w6 p7 #[.int .i64 (f 0), .int .i64 (f 1), .int .i64 (f 2), .int .i64 (f 3), .int .i64 (f 4), .int .i64 (f 5), .int .i64 (f 6), .int .i64 (f 7), .int .i64 (f 8), .int .i64 (f 9), .int .i64 (f 10), .int .i64 (f 11), .int .i64 (f 12), .int .i64 (f 13), .int .i64 (f 14), .int .i64 (f 15), .int .i64 (f 16)]))
    (HQ : Hid (∀ (v8 v9 v32 v33 v34 v35 v36 v37 v38 v39 v40 v41 v42 v43 v44 v45 v46 v47 v48 v49 v50 v51 v52 : Value) (wx : World), wx.ownsRow w6.heap.size 61 17 v8 (leftL (f 0) bs).length (bodies (leftL (f 0) bs)) → Below w6.heap.size w6 wx → Q .normal { tmps := #[u0, u1, u2, u3, .slice Av bs.length cv, u5, u6, .pointer (some ⟨p7, 0, none⟩), v8, v9, u10, u11, u12, u13, u14, u15, u16, u17, u18, u19, u20, u21, u22, u23, u24, u25, u26, u27, u28, u29, u30, u31, v32, v33, v34, v35, v36, v37, v38, v39, v40, v41, v42, v43, v44, v45, v46, v47, v48, v49, v50, v51, v52, u53, u54, u55, u56, u57, u58, u59, u60, u61, u62, u63, u64, u65, u66, u67, u68, u69, u70, u71, u72, u73, u74, u75, u76, u77, u78, u79, u80, u81, u82, u83, u84, u85, u86, u87, u88, u89, u90, u91, u92, u93, u94, u95, u96, u97, u98], defers := [] } wx)) :
    Code.wp Try.prog (blockC Try.f4 2) Q { tmps := #[u0, u1, u2, u3, .slice Av bs.length cv, u5, u6, .pointer (some ⟨p7, 0, none⟩), .slice none 0 0, .int .i64 0, u10, u11, u12, u13, u14, u15, u16, u17, u18, u19, u20, u21, u22, u23, u24, u25, u26, u27, u28, u29, u30, u31, u32, u33, u34, u35, u36, u37, u38, u39, u40, u41, u42, u43, u44, u45, u46, u47, u48, u49, u50, u51, u52, u53, u54, u55, u56, u57, u58, u59, u60, u61, u62, u63, u64, u65, u66, u67, u68, u69, u70, u71, u72, u73, u74, u75, u76, u77, u78, u79, u80, u81, u82, u83, u84, u85, u86, u87, u88, u89, u90, u91, u92, u93, u94, u95, u96, u97, u98], defers := [] } w6 := by
  conv => arg 2; whnf
  dsimp only
  go_wp2
  go_loopw [8, 9] (fun v j wr => ∃ jj : Nat, jj ≤ bs.length ∧ j = .int .i64 jj ∧ wr.ownsRow w6.heap.size 61 17 v (leftL (f 0) (bs.take jj)).length (bodies (leftL (f 0) (bs.take jj))) ∧ Below w6.heap.size w6 wr) (fun _ j _ => bs.length - (intOf j).toNat)
  case atStart => exact ⟨0, by omega, rfl, ⟨rfl, .inl ⟨rfl, rfl⟩⟩, Below.refl _ _⟩
  case round =>
    obtain ⟨jj, hj, rfl, hrow, hb⟩ := hrel
    have HROW := Lib.hid hrow
    have HB2 := Lib.hid hb
    clear hrow hb
    by_cases hl2 : jj < bs.length
    · have dl2 : decide ((jj : Int) < (bs.length : Int)) = true := decide_eq_true (by omega)
      have hrr := row_below HRA.out HB2.out
      obtain ⟨ga, cr, hgr, _, hgl, _⟩ := row_at hrr (by omega)
      cases hgr
      obtain ⟨fb, hfb⟩ : ∃ fb, bs[jj]? = some fb := ⟨_, List.getElem?_eq_getElem hl2⟩
      have HFB := Lib.hid hfb
      have q0 := body_cell hrr hfb (j := 0) (by decide)
      have q1 := body_cell hrr hfb (j := 1) (by decide)
      have q2 := body_cell hrr hfb (j := 2) (by decide)
      have q3 := body_cell hrr hfb (j := 3) (by decide)
      have q4 := body_cell hrr hfb (j := 4) (by decide)
      have q5 := body_cell hrr hfb (j := 5) (by decide)
      have q6 := body_cell hrr hfb (j := 6) (by decide)
      have q7 := body_cell hrr hfb (j := 7) (by decide)
      have q8 := body_cell hrr hfb (j := 8) (by decide)
      have q9 := body_cell hrr hfb (j := 9) (by decide)
      have q10 := body_cell hrr hfb (j := 10) (by decide)
      have q11 := body_cell hrr hfb (j := 11) (by decide)
      have q12 := body_cell hrr hfb (j := 12) (by decide)
      have q13 := body_cell hrr hfb (j := 13) (by decide)
      have q14 := body_cell hrr hfb (j := 14) (by decide)
      have q15 := body_cell hrr hfb (j := 15) (by decide)
      have q16 := body_cell hrr hfb (j := 16) (by decide)
      simp only [Nat.add_zero] at q0
      obtain ⟨z7, c7, f7⟩ := id (HP7.out.below HB2.out)
      have hll : (leftL (f 0) (bs.take jj)).length ≤ 80 := by
        have := leftL_le (f 0) (bs.take jj)
        rw [List.length_take] at this
        omega
      clear hfb hrr
      go_upto_region 17 with fail
      have hmc := more_cell
      cases hne : (fb 0 != f 0) with
      | true =>
        refine region_quiet_all (by kernel_rfl) (by kernel_rfl) ?_
        repeat (go_big_quiet_step (fail))
        refine wpQuiet_nil ?_
        rintro w8 hw8
        have hb8 := after_below hw8
        have HQ8 : Hid (w8.cell? ⟨ga, jj * 17, none⟩ = some (.int .i64 (fb 0)) ∧ w8.cell? ⟨ga, jj * 17 + 1, none⟩ = some (.int .i64 (fb 1)) ∧ w8.cell? ⟨ga, jj * 17 + 2, none⟩ = some (.int .i64 (fb 2)) ∧ w8.cell? ⟨ga, jj * 17 + 3, none⟩ = some (.int .i64 (fb 3)) ∧ w8.cell? ⟨ga, jj * 17 + 4, none⟩ = some (.int .i64 (fb 4)) ∧ w8.cell? ⟨ga, jj * 17 + 5, none⟩ = some (.int .i64 (fb 5)) ∧ w8.cell? ⟨ga, jj * 17 + 6, none⟩ = some (.int .i64 (fb 6)) ∧ w8.cell? ⟨ga, jj * 17 + 7, none⟩ = some (.int .i64 (fb 7)) ∧ w8.cell? ⟨ga, jj * 17 + 8, none⟩ = some (.int .i64 (fb 8)) ∧ w8.cell? ⟨ga, jj * 17 + 9, none⟩ = some (.int .i64 (fb 9)) ∧ w8.cell? ⟨ga, jj * 17 + 10, none⟩ = some (.int .i64 (fb 10)) ∧ w8.cell? ⟨ga, jj * 17 + 11, none⟩ = some (.int .i64 (fb 11)) ∧ w8.cell? ⟨ga, jj * 17 + 12, none⟩ = some (.int .i64 (fb 12)) ∧ w8.cell? ⟨ga, jj * 17 + 13, none⟩ = some (.int .i64 (fb 13)) ∧ w8.cell? ⟨ga, jj * 17 + 14, none⟩ = some (.int .i64 (fb 14)) ∧ w8.cell? ⟨ga, jj * 17 + 15, none⟩ = some (.int .i64 (fb 15)) ∧ w8.cell? ⟨ga, jj * 17 + 16, none⟩ = some (.int .i64 (fb 16))) := Lib.hid ⟨(hb8.cell (p := ⟨ga, jj * 17, none⟩) hgl).trans q0, (hb8.cell (p := ⟨ga, jj * 17 + 1, none⟩) hgl).trans q1, (hb8.cell (p := ⟨ga, jj * 17 + 2, none⟩) hgl).trans q2, (hb8.cell (p := ⟨ga, jj * 17 + 3, none⟩) hgl).trans q3, (hb8.cell (p := ⟨ga, jj * 17 + 4, none⟩) hgl).trans q4, (hb8.cell (p := ⟨ga, jj * 17 + 5, none⟩) hgl).trans q5, (hb8.cell (p := ⟨ga, jj * 17 + 6, none⟩) hgl).trans q6, (hb8.cell (p := ⟨ga, jj * 17 + 7, none⟩) hgl).trans q7, (hb8.cell (p := ⟨ga, jj * 17 + 8, none⟩) hgl).trans q8, (hb8.cell (p := ⟨ga, jj * 17 + 9, none⟩) hgl).trans q9, (hb8.cell (p := ⟨ga, jj * 17 + 10, none⟩) hgl).trans q10, (hb8.cell (p := ⟨ga, jj * 17 + 11, none⟩) hgl).trans q11, (hb8.cell (p := ⟨ga, jj * 17 + 12, none⟩) hgl).trans q12, (hb8.cell (p := ⟨ga, jj * 17 + 13, none⟩) hgl).trans q13, (hb8.cell (p := ⟨ga, jj * 17 + 14, none⟩) hgl).trans q14, (hb8.cell (p := ⟨ga, jj * 17 + 15, none⟩) hgl).trans q15, (hb8.cell (p := ⟨ga, jj * 17 + 16, none⟩) hgl).trans q16⟩
        clear hw8 hmc q0 q1 q2 q3 q4 q5 q6 q7 q8 q9 q10 q11 q12 q13 q14 q15 q16 z7 c7 f7
        obtain ⟨q0, q1, q2, q3, q4, q5, q6, q7, q8, q9, q10, q11, q12, q13, q14, q15, q16⟩ := HQ8.out
        have HR8 := Lib.hid (row_below HROW.out hb8)
        have hs8 : w6.heap.size ≤ w8.heap.size := Nat.le_trans HB2.out.size hb8.size
        have hgl8 := Nat.lt_of_lt_of_le hgl hb8.size
        have HB8 : Hid (Below w6.heap.size w6 w8) := Lib.hid (HB2.out.trans (hb8.mono HB2.out.size))
        clear hb8
        go_wp2_with (at_builtin; go_must (refine app_one rfl (.tmp 46) (.tmp 51) 55 rfl Try.underlying55 bodyInfoI rfl (by decide) (by decide) w6.heap.size _ _ (bodies (leftL (f 0) (bs.take jj))) rfl HR8.out #[.int .i64 (fb 0), .int .i64 (fb 1), .int .i64 (fb 2), .int .i64 (fb 3), .int .i64 (fb 4), .int .i64 (fb 5), .int .i64 (fb 6), .int .i64 (fb 7), .int .i64 (fb 8), .int .i64 (fb 9), .int .i64 (fb 10), .int .i64 (fb 11), .int .i64 (fb 12), .int .i64 (fb 13), .int .i64 (fb 14), .int .i64 (fb 15), .int .i64 (fb 16)] rfl (by simp) rfl (one_body fb) (by omega) hs8 ?_; intro g' c' w9 hown hmod hwh hbg; have HOWN := Lib.hid hown; have HMOD := Lib.hid hmod; clear hown hmod hwh hbg))
        go_roundw
        case rel =>
          refine ⟨jj + 1, by omega, by go_num, ?_, HB8.out.trans (HMOD.out.toBelow HB8.out.size (fun x hx e => by have := (row_lt HR8.out e).2; omega))⟩
          rw [take_succ_some HFB.out, leftL_snoc, if_pos hne, List.length_append, bodies_snoc, bodyV_is]
          exact HOWN.out
        case measure => simp [intOf]; omega
      | false =>
        refine region_quiet_all (by kernel_rfl) (by kernel_rfl) ?_
        repeat (go_big_quiet_step (fail))
        refine wpQuiet_nil ?_
        rintro w8 hw8
        have hb8 := after_below hw8
        clear hw8 hmc q0 q1 q2 q3 q4 q5 q6 q7 q8 q9 q10 q11 q12 q13 q14 q15 q16 z7 c7 f7
        go_wp2
        go_roundw
        case rel =>
          refine ⟨jj + 1, by omega, by go_num, ?_, HB2.out.trans (hb8.mono HB2.out.size)⟩
          rw [take_succ_some HFB.out, leftL_snoc, if_neg (by rw [hne]; exact Bool.false_ne_true), List.append_nil]
          exact row_below HROW.out hb8
        case measure => simp [intOf]; omega
    · have dl2 : decide ((jj : Int) < (bs.length : Int)) = false := decide_eq_false (by omega)
      have hjj : jj = bs.length := by omega
      subst hjj
      rw [List.take_length] at HROW
      go_wp2
      exact HQ.out _ _ _ _ _ _ _ _ _ _ _ _ _ _ _ _ _ _ _ _ _ _ _ _ HROW.out HB2.out
end Go.Proofs.Ytefhmbmbhiehdaa
