/- The end of a round of gyrelaw.InterestPlays: as many, and the eye sees the same. Conditions: none. -/
import Derived.Test.YtefhmbmbhiehdaaIplays0
namespace Go.Proofs.Ytefhmbmbhiehdaa
open Go Go.Maps Go.RowKit Go.BigFrame Go.ChangeShapes Go.WideShapes
set_option maxRecDepth 100000 in
set_option maxHeartbeats 8000000 in
theorem ends_way {Q : Exit → Act → World → Prop} {w w8 : World} {g k k1 p6 cv : Nat} {Av : Option Addr} {bs : List Bo} {D : Int → Option En} {S : Nat → Prop} {q : GP} {M : Nat → Nat → Int} {u0 u1 u2 u5 u7 u8 u9 u10 u11 u12 u13 u14 u15 u16 u17 u18 u19 u20 u21 u22 u23 u24 u25 u26 u27 u28 u29 u30 u31 u32 u33 u34 u35 u36 u37 u38 u39 u40 u41 u42 u43 u44 u45 u46 u47 u48 u49 u50 u51 u52 u53 u54 u55 u56 u57 u58 u59 u60 u61 u62 u63 u64 u65 u66 u67 u68 u69 u70 u71 u72 u73 u74 u75 u76 u77 u78 u79 u80 u81 u82 u83 u84 u85 u86 u87 u88 u89 u90 u91 u92 u93 u94 u95 u96 u97 u98 : Value} (hk : k1 ≤ 80) (HP : Hid (PlI w w8 g k1 (.slice Av bs.length cv) bs D S q)) (HP6 : Hid (Blk w8 p6 #[.int .i64 (M k 0), .int .i64 (M k 1), .int .i64 (M k 2), .int .i64 (M k 3), .int .i64 (M k 4), .int .i64 (M k 5), .int .i64 (M k 6), .int .i64 (M k 7), .int .i64 (M k 8), .int .i64 (M k 9), .int .i64 (M k 10), .int .i64 (M k 11), .int .i64 (M k 12), .int .i64 (M k 13), .int .i64 (M k 14), .int .i64 (M k 15), .int .i64 (M k 16), .int .i64 (M k 17), .int .i64 (M k 18), .int .i64 (M k 19), .int .i64 (M k 20), .int .i64 (M k 21), .int .i64 (M k 22)]))
    (HQ : Hid (∀ (v75 v76 v77 v78 v79 v80 v81 v82 v83 v84 v85 v86 v87 v88 v89 v90 v91 v92 v93 v94 v95 v96 v97 : Value) (wx : World), Below w8.heap.size w8 wx → Q .normal { tmps := #[u0, u1, u2, .pointer (some ⟨g, 0, none⟩), .slice Av bs.length cv, u5, .pointer (some ⟨p6, 0, none⟩), u7, u8, u9, u10, u11, u12, u13, u14, u15, u16, u17, u18, u19, u20, u21, u22, u23, u24, u25, u26, u27, u28, u29, u30, u31, u32, u33, u34, u35, u36, u37, u38, u39, u40, u41, u42, u43, u44, u45, u46, u47, u48, u49, u50, u51, u52, u53, u54, u55, u56, u57, u58, u59, u60, u61, u62, u63, u64, u65, u66, u67, u68, u69, u70, u71, u72, u73, u74, v75, v76, v77, v78, v79, v80, v81, v82, v83, v84, v85, v86, v87, v88, v89, v90, v91, v92, v93, v94, v95, v96, v97, .bool false], defers := [] } wx)) :
    Code.wp Try.prog (regionC Try.f4 27) Q { tmps := #[u0, u1, u2, .pointer (some ⟨g, 0, none⟩), .slice Av bs.length cv, u5, .pointer (some ⟨p6, 0, none⟩), u7, u8, u9, u10, u11, u12, u13, u14, u15, u16, u17, u18, u19, u20, u21, u22, u23, u24, u25, u26, u27, u28, u29, u30, u31, u32, u33, u34, u35, u36, u37, u38, u39, u40, u41, u42, u43, u44, u45, u46, u47, u48, u49, u50, u51, u52, u53, u54, u55, u56, u57, u58, u59, u60, u61, u62, u63, u64, u65, u66, u67, u68, u69, u70, u71, u72, u73, u74, u75, u76, u77, u78, u79, u80, u81, u82, u83, u84, u85, u86, u87, u88, u89, u90, u91, u92, u93, u94, u95, u96, u97, u98], defers := [] } w8 := by
  conv => arg 2; whnf
  dsimp only
  have hle := HP.out.le
  have hmany : ∀ wx : World, Below w8.heap.size w8 wx → Calls Try.prog 21 #[.pointer (some ⟨g, 0, none⟩)] wx fun e w' => e = .returned (.int .i64 (bs.length : Int)) ∧ wx = w' := fun wx hb => by
    rw [← HP.out.cnt]
    exact imany_c _ _ _ _ _ _ _ (HP.out.below hb).gr
  refine Code.wp_mono (Q := NQ Q) (fun e a w h => by obtain ⟨rfl, h⟩ := h; exact h) (wp_region_held_drew (S := fun w' => Below w8.heap.size w8 w') (by kernel_rfl) (ext_drew (Below.refl _ _)) (fun hHeld => ?_))
  refine wpAnyH_take (i := 0) (v := .pointer (some ⟨g, 0, none⟩)) rfl (by kernel_rfl) (by kernel_rfl) (by kernel_rfl) (fun _ _ _ h => nomatch h.1) (Or.inl ⟨by kernel_rfl, ?ye_0⟩) hHeld ?re_0
  case ye_0 =>
    intro w hSw
    obtain ⟨z6, c6, f6⟩ := HP6.out.below hSw
    go_simp
    try with_reducible rfl
  try simp only [Act.put, List.getElem_toArray, List.getElem_cons_zero, List.setIfInBounds_toArray, List.set_cons_zero, List.set_cons_succ]
  refine wpAnyH_take (i := 2) (v := .slice Av bs.length cv) rfl (by kernel_rfl) (by kernel_rfl) (by kernel_rfl) (fun _ _ _ h => nomatch h.1) (Or.inl ⟨by kernel_rfl, ?ye_2⟩) hHeld ?re_2
  case ye_2 =>
    intro w hSw
    obtain ⟨z6, c6, f6⟩ := HP6.out.below hSw
    go_simp
    try with_reducible rfl
  try simp only [Act.put, List.getElem_toArray, List.getElem_cons_zero, List.getElem_cons_succ, List.setIfInBounds_toArray, List.set_cons_zero, List.set_cons_succ]
  refine wpAnyH_take (i := 3) (v := .int .i64 (bs.length : Int)) rfl (by kernel_rfl) (by kernel_rfl) (by kernel_rfl) (fun _ _ _ h => nomatch h.1) (Or.inl ⟨by kernel_rfl, ?ye_3⟩) hHeld ?re_3
  case ye_3 =>
    intro w hSw
    obtain ⟨z6, c6, f6⟩ := HP6.out.below hSw
    go_simp
    try with_reducible rfl
  try simp only [Act.put, List.getElem_toArray, List.getElem_cons_zero, List.getElem_cons_succ, List.setIfInBounds_toArray, List.set_cons_zero, List.set_cons_succ]
  refine wpAnyH_ready (rs := [1]) (by kernel_rfl) (by simp) ?_
  refine AllReadyH.cons (o := _) rfl (fun K hK => ?_) AllReadyH.nil
  go_simp
  refine (hmany _ hHeld).mono ?_
  rintro e9 w9 ⟨rfl, rfl⟩
  try dsimp only
  refine hK.out _ _ (hHeld) (fun hHeld => ?_)
  clear hK K
  try simp only [Act.put, List.getElem_toArray, List.getElem_cons_zero, List.getElem_cons_succ, List.setIfInBounds_toArray, List.set_cons_zero, List.set_cons_succ]
  refine wpAnyH_take (i := 4) (v := .bool false) rfl (by kernel_rfl) (by kernel_rfl) (by kernel_rfl) (fun _ _ _ h => nomatch h.1) (Or.inl ⟨by kernel_rfl, ?ye_4⟩) hHeld ?re_4
  case ye_4 =>
    intro w hSw
    obtain ⟨z6, c6, f6⟩ := HP6.out.below hSw
    go_simp
    try with_reducible rfl
  try simp only [Act.put, List.getElem_toArray, List.getElem_cons_zero, List.getElem_cons_succ, List.setIfInBounds_toArray, List.set_cons_zero, List.set_cons_succ]
  refine wpAnyH_take (i := 5) (v := .bool false) rfl (by kernel_rfl) (by kernel_rfl) (by kernel_rfl) (fun _ _ _ h => nomatch h.1) (Or.inl ⟨by kernel_rfl, ?ye_5⟩) hHeld ?re_5
  case ye_5 =>
    intro w hSw
    obtain ⟨z6, c6, f6⟩ := HP6.out.below hSw
    go_simp
    try with_reducible rfl
  try simp only [Act.put, List.getElem_toArray, List.getElem_cons_zero, List.getElem_cons_succ, List.setIfInBounds_toArray, List.set_cons_zero, List.set_cons_succ]
  refine wpAnyH_take (i := 6) (v := .pointer (some ⟨g, 0, none⟩)) rfl (by kernel_rfl) (by kernel_rfl) (by kernel_rfl) (fun _ _ _ h => nomatch h.1) (Or.inl ⟨by kernel_rfl, ?ye_6⟩) hHeld ?re_6
  case ye_6 =>
    intro w hSw
    obtain ⟨z6, c6, f6⟩ := HP6.out.below hSw
    go_simp
    try with_reducible rfl
  try simp only [Act.put, List.getElem_toArray, List.getElem_cons_zero, List.getElem_cons_succ, List.setIfInBounds_toArray, List.set_cons_zero, List.set_cons_succ]
  refine wpAnyH_take (i := 7) (v := .pointer (some ⟨p6, 18, none⟩)) rfl (by kernel_rfl) (by kernel_rfl) (by kernel_rfl) (fun _ _ _ h => nomatch h.1) (Or.inl ⟨by kernel_rfl, ?ye_7⟩) hHeld ?re_7
  case ye_7 =>
    intro w hSw
    obtain ⟨z6, c6, f6⟩ := HP6.out.below hSw
    go_simp
    try with_reducible rfl
  try simp only [Act.put, List.getElem_toArray, List.getElem_cons_zero, List.getElem_cons_succ, List.setIfInBounds_toArray, List.set_cons_zero, List.set_cons_succ]
  refine wpAnyH_take (i := 8) (v := .agg #[.int .i64 (M k 18), .int .i64 (M k 19), .int .i64 (M k 20), .int .i64 (M k 21), .int .i64 (M k 22)]) rfl (by kernel_rfl) (by kernel_rfl) (by kernel_rfl) (fun _ _ _ h => nomatch h.1) (Or.inl ⟨by kernel_rfl, ?ye_8⟩) hHeld ?re_8
  case ye_8 =>
    intro w hSw
    obtain ⟨z6, c6, f6⟩ := HP6.out.below hSw
    go_simp
    try with_reducible rfl
  try simp only [Act.put, List.getElem_toArray, List.getElem_cons_zero, List.getElem_cons_succ, List.setIfInBounds_toArray, List.set_cons_zero, List.set_cons_succ]
  refine wpAnyH_take (i := 10) (v := .slice Av bs.length cv) rfl (by kernel_rfl) (by kernel_rfl) (by kernel_rfl) (fun _ _ _ h => nomatch h.1) (Or.inl ⟨by kernel_rfl, ?ye_10⟩) hHeld ?re_10
  case ye_10 =>
    intro w hSw
    obtain ⟨z6, c6, f6⟩ := HP6.out.below hSw
    go_simp
    try with_reducible rfl
  try simp only [Act.put, List.getElem_toArray, List.getElem_cons_zero, List.getElem_cons_succ, List.setIfInBounds_toArray, List.set_cons_zero, List.set_cons_succ]
  refine wpAnyH_take (i := 11) (v := .pointer (some ⟨p6, 18, none⟩)) rfl (by kernel_rfl) (by kernel_rfl) (by kernel_rfl) (fun _ _ _ h => nomatch h.1) (Or.inl ⟨by kernel_rfl, ?ye_11⟩) hHeld ?re_11
  case ye_11 =>
    intro w hSw
    obtain ⟨z6, c6, f6⟩ := HP6.out.below hSw
    go_simp
    try with_reducible rfl
  try simp only [Act.put, List.getElem_toArray, List.getElem_cons_zero, List.getElem_cons_succ, List.setIfInBounds_toArray, List.set_cons_zero, List.set_cons_succ]
  refine wpAnyH_take (i := 12) (v := .pointer (some ⟨p6, 18, none⟩)) rfl (by kernel_rfl) (by kernel_rfl) (by kernel_rfl) (fun _ _ _ h => nomatch h.1) (Or.inl ⟨by kernel_rfl, ?ye_12⟩) hHeld ?re_12
  case ye_12 =>
    intro w hSw
    obtain ⟨z6, c6, f6⟩ := HP6.out.below hSw
    go_simp
    try with_reducible rfl
  try simp only [Act.put, List.getElem_toArray, List.getElem_cons_zero, List.getElem_cons_succ, List.setIfInBounds_toArray, List.set_cons_zero, List.set_cons_succ]
  refine wpAnyH_take (i := 13) (v := .agg #[.int .i64 (M k 18), .int .i64 (M k 19), .int .i64 (M k 20)]) rfl (by kernel_rfl) (by kernel_rfl) (by kernel_rfl) (fun _ _ _ h => nomatch h.1) (Or.inl ⟨by kernel_rfl, ?ye_13⟩) hHeld ?re_13
  case ye_13 =>
    intro w hSw
    obtain ⟨z6, c6, f6⟩ := HP6.out.below hSw
    go_simp
    try with_reducible rfl
  try simp only [Act.put, List.getElem_toArray, List.getElem_cons_zero, List.getElem_cons_succ, List.setIfInBounds_toArray, List.set_cons_zero, List.set_cons_succ]
  refine wpAnyH_take (i := 14) (v := .pointer (some ⟨p6, 18, none⟩)) rfl (by kernel_rfl) (by kernel_rfl) (by kernel_rfl) (fun _ _ _ h => nomatch h.1) (Or.inl ⟨by kernel_rfl, ?ye_14⟩) hHeld ?re_14
  case ye_14 =>
    intro w hSw
    obtain ⟨z6, c6, f6⟩ := HP6.out.below hSw
    go_simp
    try with_reducible rfl
  try simp only [Act.put, List.getElem_toArray, List.getElem_cons_zero, List.getElem_cons_succ, List.setIfInBounds_toArray, List.set_cons_zero, List.set_cons_succ]
  refine wpAnyH_take (i := 15) (v := .pointer (some ⟨p6, 21, none⟩)) rfl (by kernel_rfl) (by kernel_rfl) (by kernel_rfl) (fun _ _ _ h => nomatch h.1) (Or.inl ⟨by kernel_rfl, ?ye_15⟩) hHeld ?re_15
  case ye_15 =>
    intro w hSw
    obtain ⟨z6, c6, f6⟩ := HP6.out.below hSw
    go_simp
    try with_reducible rfl
  try simp only [Act.put, List.getElem_toArray, List.getElem_cons_zero, List.getElem_cons_succ, List.setIfInBounds_toArray, List.set_cons_zero, List.set_cons_succ]
  refine wpAnyH_take (i := 16) (v := .int .i64 (M k 21)) rfl (by kernel_rfl) (by kernel_rfl) (by kernel_rfl) (fun _ _ _ h => nomatch h.1) (Or.inl ⟨by kernel_rfl, ?ye_16⟩) hHeld ?re_16
  case ye_16 =>
    intro w hSw
    obtain ⟨z6, c6, f6⟩ := HP6.out.below hSw
    go_simp
    try with_reducible rfl
  try simp only [Act.put, List.getElem_toArray, List.getElem_cons_zero, List.getElem_cons_succ, List.setIfInBounds_toArray, List.set_cons_zero, List.set_cons_succ]
  refine wpAnyH_take (i := 17) (v := .pointer (some ⟨p6, 18, none⟩)) rfl (by kernel_rfl) (by kernel_rfl) (by kernel_rfl) (fun _ _ _ h => nomatch h.1) (Or.inl ⟨by kernel_rfl, ?ye_17⟩) hHeld ?re_17
  case ye_17 =>
    intro w hSw
    obtain ⟨z6, c6, f6⟩ := HP6.out.below hSw
    go_simp
    try with_reducible rfl
  try simp only [Act.put, List.getElem_toArray, List.getElem_cons_zero, List.getElem_cons_succ, List.setIfInBounds_toArray, List.set_cons_zero, List.set_cons_succ]
  refine wpAnyH_take (i := 18) (v := .pointer (some ⟨p6, 22, none⟩)) rfl (by kernel_rfl) (by kernel_rfl) (by kernel_rfl) (fun _ _ _ h => nomatch h.1) (Or.inl ⟨by kernel_rfl, ?ye_18⟩) hHeld ?re_18
  case ye_18 =>
    intro w hSw
    obtain ⟨z6, c6, f6⟩ := HP6.out.below hSw
    go_simp
    try with_reducible rfl
  try simp only [Act.put, List.getElem_toArray, List.getElem_cons_zero, List.getElem_cons_succ, List.setIfInBounds_toArray, List.set_cons_zero, List.set_cons_succ]
  refine wpAnyH_take (i := 19) (v := .int .i64 (M k 22)) rfl (by kernel_rfl) (by kernel_rfl) (by kernel_rfl) (fun _ _ _ h => nomatch h.1) (Or.inl ⟨by kernel_rfl, ?ye_19⟩) hHeld ?re_19
  case ye_19 =>
    intro w hSw
    obtain ⟨z6, c6, f6⟩ := HP6.out.below hSw
    go_simp
    try with_reducible rfl
  try simp only [Act.put, List.getElem_toArray, List.getElem_cons_zero, List.getElem_cons_succ, List.setIfInBounds_toArray, List.set_cons_zero, List.set_cons_succ]
  refine wpAnyH_ready (rs := [9]) (by kernel_rfl) (by simp) ?_
  refine AllReadyH.cons (o := _) rfl (fun K hK => ?_) AllReadyH.nil
  go_simp
  refine (isees_c _ g (10000000 * k1) D S (fun _ => False) q ⟨M k 18, M k 19, M k 20, M k 21, M k 22⟩ (bs.map (· 0)) (HP.out.below hHeld).gr (by omega) HP.out.ids HP.out.idb (by rw [List.length_map]; omega) HP.out.ok).mono ?_
  rintro e10 w10 ⟨v1, zs, rfl, hr1, hnd, hz, hl, hb10⟩
  try dsimp only
  refine hK.out _ _ (hHeld.trans (hb10.mono hHeld.size)) (fun hHeld => ?_)
  clear hK K
  try simp only [Act.put, List.getElem_toArray, List.getElem_cons_zero, List.getElem_cons_succ, List.setIfInBounds_toArray, List.set_cons_zero, List.set_cons_succ]
  have HR1 := Lib.hid hr1
  have HND := Lib.hid hnd
  have HZ := Lib.hid hz
  clear hr1 hnd hz hb10
  refine wpAnyH_ready (rs := [20]) (by kernel_rfl) (by simp) ?_
  refine AllReadyH.cons (o := _) rfl (fun K hK => ?_) AllReadyH.nil
  go_simp
  refine (rsees_c _ (.slice Av bs.length cv) bs ⟨M k 18, M k 19, M k 20, M k 21, M k 22⟩ 0 (HP.out.below hHeld).row (by omega)).mono ?_
  rintro e11 w11 ⟨v2, rfl, hr2, hb11⟩
  try dsimp only
  refine hK.out _ _ (hHeld.trans (hb11.mono hHeld.size)) (fun hHeld => ?_)
  clear hK K
  try simp only [Act.put, List.getElem_toArray, List.getElem_cons_zero, List.getElem_cons_succ, List.setIfInBounds_toArray, List.set_cons_zero, List.set_cons_succ]
  have HR2 := Lib.hid hr2
  have HR1b := Lib.hid (row_below HR1.out hb11)
  clear hr2 hb11
  refine wpAnyH_ready (rs := [21]) (by kernel_rfl) (by simp) ?_
  refine AllReadyH.cons (o := _) rfl (fun K hK => ?_) AllReadyH.nil
  go_simp
  refine (sameInts_c 0 0 v1 v2 (srt zs) _ HR1b.out (by rw [rs_same HP.out.go HND.out HZ.out]; exact HR2.out) (by rw [srt_len]; omega)).mono ?_
  rintro e12 w12 ⟨rfl, hb12⟩
  try dsimp only
  refine hK.out _ _ (hHeld.trans (hb12.mono hHeld.size)) (fun hHeld => ?_)
  clear hK K
  try simp only [Act.put, List.getElem_toArray, List.getElem_cons_zero, List.getElem_cons_succ, List.setIfInBounds_toArray, List.set_cons_zero, List.set_cons_succ]
  refine wpAnyH_take (i := 22) (v := .bool false) rfl (by kernel_rfl) (by kernel_rfl) (by kernel_rfl) (fun _ _ _ h => nomatch h.1) (Or.inl ⟨by kernel_rfl, ?ye_22⟩) hHeld ?re_22
  case ye_22 =>
    intro w hSw
    obtain ⟨z6, c6, f6⟩ := HP6.out.below hSw
    go_simp
    try with_reducible rfl
  try simp only [Act.put, List.getElem_toArray, List.getElem_cons_zero, List.getElem_cons_succ, List.setIfInBounds_toArray, List.set_cons_zero, List.set_cons_succ]
  refine wpAnyH_take (i := 23) (v := .bool false) rfl (by kernel_rfl) (by kernel_rfl) (by kernel_rfl) (fun _ _ _ h => nomatch h.1) (Or.inl ⟨by kernel_rfl, ?ye_23⟩) hHeld ?re_23
  case ye_23 =>
    intro w hSw
    obtain ⟨z6, c6, f6⟩ := HP6.out.below hSw
    go_simp
    try with_reducible rfl
  try simp only [Act.put, List.getElem_toArray, List.getElem_cons_zero, List.getElem_cons_succ, List.setIfInBounds_toArray, List.set_cons_zero, List.set_cons_succ]
  refine wpAnyH_done (by kernel_rfl) ?_ _
  refine ⟨rfl, ?_⟩
  try skip
  exact HQ.out _ _ _ _ _ _ _ _ _ _ _ _ _ _ _ _ _ _ _ _ _ _ _ _ hHeld
end Go.Proofs.Ytefhmbmbhiehdaa
