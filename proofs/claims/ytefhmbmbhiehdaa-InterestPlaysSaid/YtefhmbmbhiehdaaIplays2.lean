/- The switch of gyrelaw.InterestPlays: put, take away, or nothing. Conditions: none. -/
import Derived.Test.YtefhmbmbhiehdaaIplays0
namespace Go.Proofs.Ytefhmbmbhiehdaa
open Go Go.Maps Go.RowKit Go.BigFrame Go.ChangeShapes Go.WideShapes
set_option maxRecDepth 100000 in
set_option maxHeartbeats 8000000 in
theorem switch_way {Q : Exit → Act → World → Prop} {w w7 : World} {g k p6 p7 cv b0 : Nat} {Av : Option Addr} {bs : List Bo} {f : Bo} {D : Int → Option En} {S : Nat → Prop} {q : GP} {M : Nat → Nat → Int} {vl : Value} {wh : Int} {u0 u1 u2 u5 u6 u9 u10 u11 u12 u13 u14 u15 u16 u17 u18 u19 u20 u21 u22 u23 u24 u25 u26 u27 u28 u29 u30 u31 u32 u33 u34 u35 u36 u37 u38 u39 u40 u41 u42 u43 u44 u45 u46 u47 u48 u49 u50 u51 u52 u53 u55 u56 u57 u58 u59 u60 u61 u62 u63 u64 u65 u66 u67 u68 u69 u70 u71 u72 u73 u74 u75 u76 u77 u78 u79 u80 u81 u82 u83 u84 u85 u86 u87 u88 u89 u90 u91 u92 u93 u94 u95 u96 u97 u98 : Value} (hk : k < 80) (HP : Hid (PlI w w7 g k (.slice Av bs.length cv) bs D S q)) (HP7 : Hid (Blk w7 p7 #[.int .i64 (f 0), .int .i64 (f 1), .int .i64 (f 2), .int .i64 (f 3), .int .i64 (f 4), .int .i64 (f 5), .int .i64 (f 6), .int .i64 (f 7), .int .i64 (f 8), .int .i64 (f 9), .int .i64 (f 10), .int .i64 (f 11), .int .i64 (f 12), .int .i64 (f 13), .int .i64 (f 14), .int .i64 (f 15), .int .i64 (f 16)])) (HP6 : Hid (Blk w7 p6 #[.int .i64 (M k 0), .int .i64 (M k 1), .int .i64 (M k 2), .int .i64 (M k 3), .int .i64 (M k 4), .int .i64 (M k 5), .int .i64 (M k 6), .int .i64 (M k 7), .int .i64 (M k 8), .int .i64 (M k 9), .int .i64 (M k 10), .int .i64 (M k 11), .int .i64 (M k 12), .int .i64 (M k 13), .int .i64 (M k 14), .int .i64 (M k 15), .int .i64 (M k 16), .int .i64 (M k 17), .int .i64 (M k 18), .int .i64 (M k 19), .int .i64 (M k 20), .int .i64 (M k 21), .int .i64 (M k 22)]))
    (HL : Hid (w7.ownsRow b0 61 17 vl (leftL (f 0) bs).length (bodies (leftL (f 0) bs)))) (HO : Hid ((∀ x, S x → x < p6) ∧ p6 < p7 ∧ p7 < b0 ∧ b0 ≤ w7.heap.size ∧ w.heap.size ≤ p6)) (hbd : -9223372036854775808 ≤ f 0 ∧ f 0 ≤ 9223372036854775807)
    (HQN : Hid (∀ (v4 v55 v56 v57 v58 v59 v60 v61 v62 v63 v64 v65 v66 v67 v68 v69 v70 v71 v72 v73 v74 : Value) (wx : World) (bs' : List Bo) (D' : Int → Option En) (S' : Nat → Prop) (q' : GP), PlI w wx g (k + 1) v4 bs' D' S' q' → Blk wx p6 #[.int .i64 (M k 0), .int .i64 (M k 1), .int .i64 (M k 2), .int .i64 (M k 3), .int .i64 (M k 4), .int .i64 (M k 5), .int .i64 (M k 6), .int .i64 (M k 7), .int .i64 (M k 8), .int .i64 (M k 9), .int .i64 (M k 10), .int .i64 (M k 11), .int .i64 (M k 12), .int .i64 (M k 13), .int .i64 (M k 14), .int .i64 (M k 15), .int .i64 (M k 16), .int .i64 (M k 17), .int .i64 (M k 18), .int .i64 (M k 19), .int .i64 (M k 20), .int .i64 (M k 21), .int .i64 (M k 22)] → Q .normal { tmps := #[u0, u1, u2, .pointer (some ⟨g, 0, none⟩), v4, u5, u6, .pointer (some ⟨p7, 0, none⟩), vl, u9, u10, u11, u12, u13, u14, u15, u16, u17, u18, u19, u20, u21, u22, u23, u24, u25, u26, u27, u28, u29, u30, u31, u32, u33, u34, u35, u36, u37, u38, u39, u40, u41, u42, u43, u44, u45, u46, u47, u48, u49, u50, u51, u52, u53, .int .i64 wh, v55, v56, v57, v58, v59, v60, v61, v62, v63, v64, v65, v66, v67, v68, v69, v70, v71, v72, v73, v74, u75, u76, u77, u78, u79, u80, u81, u82, u83, u84, u85, u86, u87, u88, u89, u90, u91, u92, u93, u94, u95, u96, u97, u98], defers := [] } wx))
    (HQE : Hid (∀ (v55 v56 v57 v58 v59 v60 v61 v62 v63 v64 v65 v66 v67 v68 v69 v70 v71 v72 v73 v74 : Value) (wx : World), PlI w wx g (k + 1) (.slice Av bs.length cv) bs D S q → Q (.exit 1) { tmps := #[u0, u1, u2, .pointer (some ⟨g, 0, none⟩), .slice Av bs.length cv, u5, u6, .pointer (some ⟨p7, 0, none⟩), vl, u9, u10, u11, u12, u13, u14, u15, u16, u17, u18, u19, u20, u21, u22, u23, u24, u25, u26, u27, u28, u29, u30, u31, u32, u33, u34, u35, u36, u37, u38, u39, u40, u41, u42, u43, u44, u45, u46, u47, u48, u49, u50, u51, u52, u53, .int .i64 wh, v55, v56, v57, v58, v59, v60, v61, v62, v63, v64, v65, v66, v67, v68, v69, v70, v71, v72, v73, v74, u75, u76, u77, u78, u79, u80, u81, u82, u83, u84, u85, u86, u87, u88, u89, u90, u91, u92, u93, u94, u95, u96, u97, u98], defers := [] } wx)) :
    Code.wp Try.prog (blockC Try.f4 4) Q { tmps := #[u0, u1, u2, .pointer (some ⟨g, 0, none⟩), .slice Av bs.length cv, u5, u6, .pointer (some ⟨p7, 0, none⟩), vl, u9, u10, u11, u12, u13, u14, u15, u16, u17, u18, u19, u20, u21, u22, u23, u24, u25, u26, u27, u28, u29, u30, u31, u32, u33, u34, u35, u36, u37, u38, u39, u40, u41, u42, u43, u44, u45, u46, u47, u48, u49, u50, u51, u52, u53, .int .i64 wh, u55, u56, u57, u58, u59, u60, u61, u62, u63, u64, u65, u66, u67, u68, u69, u70, u71, u72, u73, u74, u75, u76, u77, u78, u79, u80, u81, u82, u83, u84, u85, u86, u87, u88, u89, u90, u91, u92, u93, u94, u95, u96, u97, u98], defers := [] } w7 := by
  conv => arg 2; whnf
  dsimp only
  have hle := HP.out.le
  have hlb := leftL_le (f 0) bs
  have HLL : Hid ((leftL (f 0) bs).length = if (D (f 0)).isSome then bs.length - 1 else bs.length) := Lib.hid (left_len HP.out.go (f 0))
  have HBS : Hid ((D (f 0)).isSome = true → 0 < bs.length) := Lib.hid (fun h => by
    obtain ⟨e, he⟩ := Option.isSome_iff_exists.1 h
    obtain ⟨x, hx, _⟩ := (HP.out.go.is _ _).1 he
    exact List.length_pos_of_mem hx)
  have HVL : Hid (∀ x, vl.ownBlock = some x → b0 ≤ x ∧ x < w7.heap.size) := Lib.hid (fun x e => ⟨(row_lt HL.out e).2, (row_lt HL.out e).1⟩)
  obtain ⟨z7, c7, f7⟩ := id HP7.out
  by_cases h0 : wh = 0
  · have d0 : (wh == 0) = true := by simpa using h0
    clear h0
    go_wp2_with fail
    refine (rright_f f _).mono ?_
    rintro e8 w8 ⟨rfl, hb8⟩
    have HP8 := Lib.hid (HP.out.below hb8)
    have HP78 := Lib.hid (HP7.out.below hb8)
    have HP68 := Lib.hid (HP6.out.below hb8)
    have HL8 := Lib.hid (row_below HL.out hb8)
    have hs8 := hb8.size
    clear hb8 z7 c7 f7
    cases hsh : shapeB (f 2) (f 3) (f 4) (f 5) with
    | false =>
      go_wp2
      exact HQE.out _ _ _ _ _ _ _ _ _ _ _ _ _ _ _ _ _ _ _ _ _ HP8.out.up
    | true =>
      obtain ⟨z7, c7, f7⟩ := id HP78.out
      go_wp2_with fail
      refine (iput_c _ g (10000000 * k) D S (fun _ => False) q f (f 0 :: bs.map (· 0)) hbd HP8.out.gr (by omega) (fun id hd => List.mem_cons_of_mem _ (HP8.out.ids id hd)) (List.mem_cons_self ..) (by simp only [List.length_cons, List.length_map]; omega)).mono ?_
      rintro e9 w9 ⟨rfl, ⟨q', S', hG', hS', hn'⟩, hM'⟩
      have HG := Lib.hid hG'
      have HS := Lib.hid hS'
      have HN := Lib.hid hn'
      have HM := Lib.hid hM'
      clear hG' hS' hn' hM' z7 c7 f7
      obtain ⟨o1, o2, o3, o4, o5⟩ := HO.out
      have HP79 := Lib.hid (HP78.out.mod HM.out (fun e => by have := o1 _ e; omega))
      have HP69 := Lib.hid (HP68.out.mod HM.out (fun e => by have := o1 _ e; omega))
      have HL9 := Lib.hid (row_mod HL8.out HM.out (fun b hb e => by have := o1 _ e; have := HVL.out b hb; omega))
      have hs9 : b0 ≤ w9.heap.size := by have := HM.out.size; omega
      obtain ⟨z7, c7, f7⟩ := id HP79.out
      go_wp2_with (at_builtin; go_must (refine app_one rfl (.tmp 64) (.tmp 66) 55 rfl Try.underlying55 bodyInfoI rfl (by decide) (by decide) b0 _ _ (bodies (leftL (f 0) bs)) rfl HL9.out #[.int .i64 (f 0), .int .i64 (f 1), .int .i64 (f 2), .int .i64 (f 3), .int .i64 (f 4), .int .i64 (f 5), .int .i64 (f 6), .int .i64 (f 7), .int .i64 (f 8), .int .i64 (f 9), .int .i64 (f 10), .int .i64 (f 11), .int .i64 (f 12), .int .i64 (f 13), .int .i64 (f 14), .int .i64 (f 15), .int .i64 (f 16)] rfl (by simp) rfl (one_body f) (by omega) hs9 ?_; intro g' c' w10 hown hmod hwh hbg; have HOWN := Lib.hid hown; have HMOD := Lib.hid hmod; have HWH := Lib.hid hwh; clear hown hmod hwh; clear z7 c7 f7))
      have hSn : ∀ x, S' x → x < p6 ∨ w8.heap.size ≤ x := fun x e => (HS.out x e).imp (o1 x) id
      have hg' : ∀ x, vl.ownBlock = some x → ¬ S' x := fun x e e' => by
        have := HVL.out x e
        have := hSn x e'
        omega
      refine HQN.out _ _ _ _ _ _ _ _ _ _ _ _ _ _ _ _ _ _ _ _ _ _ (leftL (f 0) bs ++ [f]) _ S' q' ⟨?_, HP8.out.go.put f (bo_ok hsh), ⟨(HG.out.raw.modT HMOD.out (fun x e => hg' x e)).more (by omega), HG.out.lists⟩, ?_, ?_, ?_, ?_, ?_, ?_⟩ (HP69.out.mod HMOD.out (fun e => by have := HVL.out _ e; omega))
      · rw [List.length_append, bodies_snoc, bodyV_is]
        exact row_zeroR HOWN.out
      · rw [List.length_append, List.length_singleton, HLL.out, HN.out, HP8.out.cnt]
        split
        · rename_i h
          have := HBS.out h
          omega
        · rfl
      · intro x hx
        rcases List.mem_append.1 hx with hx | hx
        · exact HP8.out.bd x (List.mem_filter.1 hx).1
        · rw [List.mem_singleton] at hx
          rw [hx]
          exact hbd
      · rw [List.length_append, List.length_singleton]
        omega
      · intro x hx
        have e : g' = x := by simpa [Value.ownBlock] using hx
        subst e
        refine ⟨fun e' => ?_, by omega⟩
        rcases HWH.out with h | h
        · exact hg' _ h e'
        · have := (HG.out.raw.sl _ e').1
          omega
      · intro x hx
        have h1 := HP8.out.bel.size
        rcases HS.out x hx with h | h
        · exact HP8.out.lo x h
        · omega
      · exact (HP8.out.bel.trans (HM.out.toBelow HP8.out.bel.size (fun b hb e => by have := HP8.out.lo b e; omega))).trans (HMOD.out.toBelow (Nat.le_trans HP8.out.bel.size HM.out.size) (fun b hb e => by have := HVL.out b e; omega))
  · have d0 : (wh == 0) = false := by simpa using h0
    clear h0
    by_cases h1 : wh = 1
    · have d1 : (wh == 1) = true := by simpa using h1
      clear h1
      go_wp2_with fail
      refine (iremove_c _ g (10000000 * k) D S (fun _ => False) q (f 0) hbd HP.out.gr (by omega)).mono ?_
      rintro e9 w9 ⟨rfl, ⟨q', hG', hn'⟩, hM'⟩
      have HG := Lib.hid hG'
      have HN := Lib.hid hn'
      have HM := Lib.hid hM'
      clear hG' hn' hM' z7 c7 f7
      obtain ⟨o1, o2, o3, o4, o5⟩ := HO.out
      go_wp2
      refine HQN.out _ _ _ _ _ _ _ _ _ _ _ _ _ _ _ _ _ _ _ _ _ _ (leftL (f 0) bs) _ S q' ⟨row_zeroR (row_mod HL.out HM.out (fun b hb e => by have := o1 _ e; have := HVL.out b hb; omega)), HP.out.go.out (f 0), ⟨HG.out.raw.more (by omega), HG.out.lists⟩, ?_, fun x hx => HP.out.bd x (List.mem_filter.1 hx).1, by omega, fun x hx => ⟨fun e => by have := o1 _ e; have := HVL.out x hx; omega, by have := HVL.out x hx; omega⟩, HP.out.lo, HP.out.bel.trans (HM.out.toBelow HP.out.bel.size (fun b hb e => by have := HP.out.lo b e; omega))⟩ (HP6.out.mod HM.out (fun e => by have := o1 _ e; omega))
      rw [HLL.out, HN.out, HP.out.cnt]
    · have d1 : (wh == 1) = false := by simpa using h1
      clear h1
      go_wp2
      exact HQN.out _ _ _ _ _ _ _ _ _ _ _ _ _ _ _ _ _ _ _ _ _ _ bs D S q HP.out.up HP6.out
end Go.Proofs.Ytefhmbmbhiehdaa
