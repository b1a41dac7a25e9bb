/- Where bodies of a world touch. Conditions: none. -/
import Derived.Test.YtniahipadfgkbaaGreatKV3
import Derived.Test.YtniahipadfgkbaaGreatKT2
namespace Go.Proofs.YtniahipadfgkbaaGreat
open Go Go.Maps Go.RowKit Go.BigFrame Go.ChangeShapes Go.WideShapes Go.ChangeAt
theorem touchR_c (M : Nat → Nat → Int) (i j : Nat) (hi : RowOk M i) (hj : RowOk M j) (w : World) :
    Calls Tryz.prog 28 #[.agg #[.int .i64 (M i 2), .int .i64 (M i 3), .int .i64 (M i 4), .int .i64 (M i 5)], .agg #[.int .i64 (M i 6), .int .i64 (M i 7), .int .i64 (M i 8)], .agg #[.int .i64 (M j 2), .int .i64 (M j 3), .int .i64 (M j 4), .int .i64 (M j 5)], .agg #[.int .i64 (M j 6), .int .i64 (M j 7), .int .i64 (M j 8)]] w fun e w' =>
      e = .returned (.tuple #[.agg #[.int .i64 (tx (tchR M i j)), .int .i64 (ty (tchR M i j)), .int .i64 (tz (tchR M i j))], .int .i64 (td (tchR M i j)), .bool (tk (tchR M i j))]) ∧ Below w.heap.size w w' :=
  touches_c _ _ _ _ _ _ _ _ _ _ _ _ _ _ hi.shape hj.shape w
theorem touchInfo : (Tryz.prog.info? 44).map (fun i => (i.zero, i.size, i.bytes)) = some (some (.agg #[.int .i64 0, .int .i64 0, .int .i64 0, .int .i64 0, .int .i64 0, .int .i64 0]), 6, 48) := by kernel_rfl
theorem touchM_app (M : Nat → Nat → Int) (l : List (Nat × Nat)) (p : Nat × Nat) : rowsL (touchM M (l ++ [p])) 6 (l ++ [p]).length = rowsL (touchM M l) 6 l.length ++ (List.range 6).map fun j => Value.int .i64 (touchRow M p j) := by
  rw [List.length_append, List.length_singleton, rowsL_succ _ (by decide)]
  congr 1
  · refine rowsL_congr (by decide) fun k hk j _ => ?_
    unfold touchM
    rw [List.getElem?_append_left hk]
  · refine List.map_congr_left fun j _ => ?_
    rw [touchM_at (p := p) (by simp)]
theorem row_any {w : World} {base : Nat} {e : TypeId} {size n : Nat} {v : Value} {xs : List Value} (h : w.ownsRow base e size v n xs) : ∃ A C, v = .slice A n C ∧ (A = none → n = 0 ∧ C = 0) := by
  obtain ⟨_, ⟨hv, h0⟩ | ⟨g, cap, cur, hv, _⟩⟩ := h
  · exact ⟨none, 0, by rw [hv, h0], fun _ => ⟨h0, rfl⟩⟩
  · exact ⟨_, cap, hv, fun e => by cases e⟩
theorem row_mono {w : World} {base base' : Nat} {e : TypeId} {size n : Nat} {v : Value} {xs : List Value} (h : w.ownsRow base e size v n xs) (k : base' ≤ base) : w.ownsRow base' e size v n xs := by
  obtain ⟨hl, hv | ⟨g, c, cur, hv, hg, hr⟩⟩ := h
  · exact ⟨hl, .inl hv⟩
  · exact ⟨hl, .inr ⟨g, _, cur, hv, Nat.le_trans k hg, hr⟩⟩
theorem touchL_take {M : Nat → Nat → Int} {ps : List (Nat × Nat)} {k : Nat} {p : Nat × Nat} (h : ps[k]? = some p) : (ps.take (k + 1)).filter (tchB M) = (ps.take k).filter (tchB M) ++ if tchB M p then [p] else [] := by
  rw [List.take_add_one, h, List.filter_append]
  congr 1
  simp [List.filter]
  split <;> simp_all
/-- the first k pairs looked at -/
def TouchI (w wr : World) (M : Nat → Nat → Int) (n k : Nat) (v : Value) : Prop :=
  Below w.heap.size w wr ∧ wr.ownsRow w.heap.size 44 6 v (((pairsR M n).take k).filter (tchB M)).length (rowsL (touchM M (((pairsR M n).take k).filter (tchB M))) 6 (((pairsR M n).take k).filter (tchB M)).length)
theorem one6 (a1 a2 a3 a4 a5 a6 : Int) : ∀ u ∈ (#[Value.int .i64 a1, .int .i64 a2, .int .i64 a3, .int .i64 a4, .int .i64 a5, .int .i64 a6]).toList, u.oneCell' = true := by
  intro u hu
  simp at hu
  rcases hu with rfl | rfl | rfl | rfl | rfl | rfl <;> rfl
set_option maxRecDepth 100000 in
set_option maxHeartbeats 8000000 in
theorem touchesW_c (w : World) (b : Nat) (c : Cf) (A : Option Addr) (cap t n : Nat) (M : Nat → Nat → Int) (nx st : Int) (p : Nat) (D : Int → Option Bx) (R S : Nat → Prop) (hW : WMem w b c A cap t n M nx st p D R S) (hp : p < 300000) :
    Calls Tryz.prog 14 #[.pointer (some ⟨b, 0, none⟩)] w fun e w' => ∃ v, e = .returned v ∧ Below w.heap.size w w' ∧ w'.ownsRow w.heap.size 44 6 v (touchL M n).length (rowsL (touchS M n) 6 (touchL M n).length) := by
  have HW := Lib.hid hW
  obtain ⟨zt, ct, ft⟩ := id hW.blk
  unfold wcells at ct
  have HP := Lib.hid hp
  clear hW hp
  go_enter Tryz.func14, Tryz.ntmps14
  go_wp2_with fail
  refine (pairs_c w t 65536 p D n R HW.out.tree HP.out HW.out.keys).mono ?_
  rintro e w1 ⟨pv, ps, rfl, hb1, hrow, hsort, hlen, hmem⟩
  have hps := pairs_rows HW.out.td HW.out.rise hsort hmem
  subst hps
  rw [List.length_map] at hrow hlen
  obtain ⟨PA, PC, rfl, hPA⟩ := row_any hrow
  have HROW := Lib.hid hrow
  have HLEN := Lib.hid hlen
  have HB1 := Lib.hid hb1
  have HI0 : Hid (TouchI w1 w1 M n 0 (.slice none 0 0)) := Lib.hid ⟨Below.refl _ _, by simp [rowsL], .inl ⟨rfl, by simp⟩⟩
  obtain ⟨L, hL⟩ : ∃ L, L = (pairsR M n).length := ⟨_, rfl⟩
  rw [← hL] at hrow hlen
  have HL := Lib.hid hL
  rw [← HL.out] at HROW HLEN
  clear hb1 hrow hsort hlen hmem hPA ct ft zt hL
  go_wp2
  rw [← HL.out]
  go_loopg [3, 19] L (fun k v3 vi wr => ∃ j : Nat, vi = .int .i64 (j : Int) ∧ j ≤ L ∧ k = L - j ∧ TouchI w1 wr M n j v3)
  case atStart => exact ⟨0, rfl, Nat.zero_le _, rfl, HI0.out⟩
  case round =>
    obtain ⟨j, rfl, hj, hk, hti⟩ := hrel
    have HTI := Lib.hid hti
    have HBW := Lib.hid hti.1
    have HK := Lib.hid hk
    clear hti hk
    by_cases hl : j < L
    · have d0 : decide ((j : Int) < (L : Int)) = true := decide_eq_true (by omega)
      have hw1 : wrap64 ((j : Int) + 1) = (j : Int) + 1 := by have := HLEN.out; unfold wrap64; omega
      obtain ⟨⟨i1, i2⟩, hp12⟩ : ∃ x, (pairsR M n)[j]? = some x := ⟨_, List.getElem?_eq_getElem (by rw [← HL.out]; exact hl)⟩
      obtain ⟨h12, hi2, _⟩ := mem_pairsR.1 (List.mem_of_getElem? hp12)
      have h12 : i1 < i2 := h12
      have hi2 : i2 < n := hi2
      have HPJ := Lib.hid hp12
      have HI1 : Hid (i1 < n) := Lib.hid (by omega)
      have HI2 := Lib.hid hi2
      obtain ⟨g, gc, e1, hgl, hgc⟩ := rowP_at HROW.out (by omega)
      cases e1
      obtain ⟨q0, q1⟩ := hgc j (M i1 0, M i2 0) (by rw [List.getElem?_map, HPJ.out]; rfl)
      have q0 := (HBW.out.cell (p := ⟨g, j * 2, none⟩) hgl).trans q0
      have q1 := (HBW.out.cell (p := ⟨g, j * 2 + 1, none⟩) hgl).trans q1
      have hgw : g < wr.heap.size := Nat.lt_of_lt_of_le hgl HBW.out.size
      clear hgc h12 hi2 hp12
      go_upto_region 5 with fail
      refine wp_named ?_
      rintro w2 hw2
      have HP2 : Hid (Blk w2 wr.heap.size #[.int .i64 (M i1 0), .int .i64 (M i2 0)]) := Lib.hid (by rw [hw2]; exact blk_as ((by repeat (with_reducible (first | assumption | (apply Blk.at; simp; done) | apply Blk.alloc | apply Blk.drew | apply Blk.drewN | apply Blk.more | apply Blk.put | (apply Blk.far; focus (first | assumption | (apply Ne.symm; assumption) | (simp; done) | (simp <;> omega))))))) (by simp))
      have HV2 : Hid (Below wr.heap.size wr w2) := Lib.hid (by rw [hw2]; exact (by repeat (with_reducible (first | exact Below.refl _ _ | assumption | apply ext_drew | apply ext_drewN | apply ext_alloc | apply ext_more | (refine ext_setCell ?_ (by first | assumption | (simp <;> omega)) _) | (refine ext_below ?_ (by assumption))))))
      have HE2 : Hid (Below w.heap.size w w2) := Lib.hid (HB1.out.trans ((HBW.out.trans (HV2.out.mono HBW.out.size)).mono HB1.out.size))
      clear hw2 q0 q1 hgw hgl
      obtain ⟨zp, cp, fp⟩ := id HP2.out
      go_wp2_with fail
      refine (body_yes c.f1 c.f2 c.f3 c.bo c.ru c.ro c.qu nx st A n cap (.pointer (some ⟨t, 0, none⟩)) M i1 HI1.out w2 b (HW.out.blk.below HE2.out) (by have := HW.out.few; omega) (HW.out.reads.below HE2.out) HW.out.rise).mono ?_
      rintro e w3 ⟨rfl, hb3⟩
      clear zp cp fp
      go_upto_region 6 with (refine at_store_blk (b := w3.heap.size) (c' := (rowL17 M i1).toArray) rfl 37 (.tmp 6) (.tmp 28) rfl rfl rfl (Blk.at _ _ _ _ rfl) rfl bodyInfoW (rowL17_one M i1) ?_; intro w4 hp4 hm4)
      have HV4 : Hid (Below w2.heap.size w2 w4) := Lib.hid (hb3.trans (((below_alloc _ _).trans (hm4.toBelow (by simp) (fun x h1 (h2 : x = w3.heap.size) => by omega))).mono hb3.size))
      have HA4 : Hid (Blk w4 w3.heap.size #[.int .i64 (M i1 0), .int .i64 (M i1 1), .int .i64 (M i1 2), .int .i64 (M i1 3), .int .i64 (M i1 4), .int .i64 (M i1 5), .int .i64 (M i1 6), .int .i64 (M i1 7), .int .i64 (M i1 8), .int .i64 (M i1 9), .int .i64 (M i1 10), .int .i64 (M i1 11), .int .i64 (M i1 12), .int .i64 (M i1 13), .int .i64 (M i1 14), .int .i64 (M i1 15), .int .i64 (M i1 16)]) := Lib.hid hp4
      have HP4 := Lib.hid (HP2.out.below HV4.out)
      have HE4 := Lib.hid (HE2.out.trans (HV4.out.mono HE2.out.size))
      have HX3 : Hid (w2.heap.size ≤ w3.heap.size) := Lib.hid hb3.size
      clear hp4 hm4 hb3
      obtain ⟨zp, cp, fp⟩ := id HP4.out
      go_wp2_with fail
      refine (body_yes c.f1 c.f2 c.f3 c.bo c.ru c.ro c.qu nx st A n cap (.pointer (some ⟨t, 0, none⟩)) M i2 HI2.out w4 b (HW.out.blk.below HE4.out) (by have := HW.out.few; omega) (HW.out.reads.below HE4.out) HW.out.rise).mono ?_
      rintro e w5 ⟨rfl, hb5⟩
      clear zp cp fp
      go_upto_region 7 with (refine at_store_blk (b := w5.heap.size) (c' := (rowL17 M i2).toArray) rfl 37 (.tmp 8) (.tmp 35) rfl rfl rfl (Blk.at _ _ _ _ rfl) rfl bodyInfoW (rowL17_one M i2) ?_; intro w6 hp6 hm6)
      have HV6 : Hid (Below w4.heap.size w4 w6) := Lib.hid (hb5.trans (((below_alloc _ _).trans (hm6.toBelow (by simp) (fun x h1 (h2 : x = w5.heap.size) => by omega))).mono hb5.size))
      have HB6 : Hid (Blk w6 w5.heap.size #[.int .i64 (M i2 0), .int .i64 (M i2 1), .int .i64 (M i2 2), .int .i64 (M i2 3), .int .i64 (M i2 4), .int .i64 (M i2 5), .int .i64 (M i2 6), .int .i64 (M i2 7), .int .i64 (M i2 8), .int .i64 (M i2 9), .int .i64 (M i2 10), .int .i64 (M i2 11), .int .i64 (M i2 12), .int .i64 (M i2 13), .int .i64 (M i2 14), .int .i64 (M i2 15), .int .i64 (M i2 16)]) := Lib.hid hp6
      have HA6 := Lib.hid (HA4.out.below HV6.out)
      have HE6 := Lib.hid (HE4.out.trans (HV6.out.mono HE4.out.size))
      clear hp6 hm6 hb5
      obtain ⟨za, ca, fa⟩ := id HA6.out
      obtain ⟨zb, cb, fb⟩ := id HB6.out
      go_wp2_with fail
      refine (touchR_c M i1 i2 (HW.out.ok _ HI1.out) (HW.out.ok _ HI2.out) _).mono ?_
      rintro e w7 ⟨rfl, hb7⟩
      have HA7 := Lib.hid (HA6.out.below hb7)
      have HB7 := Lib.hid (HB6.out.below hb7)
      have HE7 := Lib.hid (HE6.out.trans (hb7.mono HE6.out.size))
      have HV7 : Hid (Below wr.heap.size wr w7) := Lib.hid ((HV2.out.trans (HV4.out.mono HV2.out.size)).trans ((HV6.out.trans (hb7.mono HV6.out.size)).mono (Nat.le_trans HV2.out.size HV4.out.size)))
      clear za ca fa zb cb fb hb7
      obtain ⟨za, ca, fa⟩ := id HA7.out
      obtain ⟨zb, cb, fb⟩ := id HB7.out
      obtain ⟨bk, hbk⟩ : ∃ bk, bk = tk (tchR M i1 i2) := ⟨_, rfl⟩
      rw [← hbk]
      have HBK := Lib.hid hbk
      clear hbk
      go_upto_region 8 with fail
      refine wp_named ?_
      rintro w8 hw8
      have HC8 : Hid (Blk w8 w7.heap.size #[.int .i64 (tx (tchR M i1 i2)), .int .i64 (ty (tchR M i1 i2)), .int .i64 (tz (tchR M i1 i2))]) := Lib.hid (by rw [hw8]; exact blk_as ((by repeat (with_reducible (first | assumption | (apply Blk.at; simp; done) | apply Blk.alloc | apply Blk.drew | apply Blk.drewN | apply Blk.more | apply Blk.put | (apply Blk.far; focus (first | assumption | (apply Ne.symm; assumption) | (simp; done) | (simp <;> omega))))))) (by simp))
      have HV8 : Hid (Below w7.heap.size w7 w8) := Lib.hid (by rw [hw8]; exact (by repeat (with_reducible (first | exact Below.refl _ _ | assumption | apply ext_drew | apply ext_drewN | apply ext_alloc | apply ext_more | (refine ext_setCell ?_ (by first | assumption | (simp <;> omega)) _) | (refine ext_below ?_ (by assumption))))))
      have HA8 := Lib.hid (HA7.out.below HV8.out)
      have HB8 := Lib.hid (HB7.out.below HV8.out)
      have HE8 := Lib.hid (HE7.out.trans (HV8.out.mono HE7.out.size))
      have HW8 : Hid (Below wr.heap.size wr w8) := Lib.hid (HV7.out.trans (HV8.out.mono HV7.out.size))
      clear hw8 za ca fa zb cb fb
      obtain ⟨za, ca, fa⟩ := id HA8.out
      obtain ⟨zb, cb, fb⟩ := id HB8.out
      obtain ⟨zc, cc, fc⟩ := id HC8.out
      cases bk with
      | false =>
        go_wp2
        go_roundg (L - (j + 1))
        case measure => have := HK.out; omega
        case rel =>
          refine ⟨j + 1, by first | (simp; done) | (simp; exact hw1) | rfl, by omega, rfl, ⟨HBW.out.trans (HW8.out.mono HBW.out.size), ?_⟩⟩
          rw [touchL_take HPJ.out]
          have e : tchB M (i1, i2) = false := HBK.out.symm
          rw [e]
          simp only [Bool.false_eq_true, if_false, List.append_nil]
          exact row_below HTI.out.2 HW8.out
      | true =>
        have hrow8 := row_below HTI.out.2 HW8.out
        have hlt8 : (((pairsR M n).take j).filter (tchB M)).length < 1000000 := by
          have h1 := List.length_filter_le (tchB M) ((pairsR M n).take j)
          have h2 := HLEN.out
          rw [List.length_take] at h1
          omega
        obtain ⟨l8, hl8⟩ : ∃ l, l = ((pairsR M n).take j).filter (tchB M) := ⟨_, rfl⟩
        rw [← hl8] at hrow8 hlt8
        have HR8 := Lib.hid hrow8
        have HX8 : Hid (Below w1.heap.size w1 w8) := Lib.hid (HBW.out.trans (HW8.out.mono HBW.out.size))
        have HL8 := Lib.hid hl8
        have HN8 := Lib.hid hlt8
        clear hrow8 hlt8 hl8
        go_wp2_with (at_builtin; go_must (refine app_one rfl (.tmp 51) (.tmp 59) 41 rfl Tryz.underlying41 touchInfo rfl (by decide) (by decide) w1.heap.size _ l8.length _ rfl HR8.out #[.int .i64 (M i1 0), .int .i64 (M i2 0), .int .i64 (tx (tchR M i1 i2)), .int .i64 (ty (tchR M i1 i2)), .int .i64 (tz (tchR M i1 i2)), .int .i64 (td (tchR M i1 i2))] rfl rfl rfl (one6 _ _ _ _ _ _) HN8.out HX8.out.size ?_; intro g' c' w9 hown hmod hwh hbg; have HO9 := Lib.hid hown; have HM9 := Lib.hid hmod; clear hown hmod hwh hbg))
        have hE9 : Below w1.heap.size w1 w9 := HX8.out.trans (HM9.out.toBelow HX8.out.size fun x hx e => by have := (row_lt HR8.out e).2; omega)
        go_roundg (L - (j + 1))
        case measure => have := HK.out; omega
        case rel =>
          refine ⟨j + 1, by first | (simp; done) | (simp; exact hw1) | rfl, by omega, rfl, ⟨hE9, ?_⟩⟩
          rw [touchL_take HPJ.out]
          have e : tchB M (i1, i2) = true := HBK.out.symm
          rw [e]
          simp only [if_true, ← HL8.out]
          rw [touchM_app, List.length_append]
          exact HO9.out
    · have d0 : decide ((j : Int) < (L : Int)) = false := decide_eq_false (by omega)
      have ej : j = L := by omega
      subst ej
      go_wp2
      go_ret
      refine ⟨_, rfl, HB1.out.trans (HBW.out.mono HB1.out.size), ?_⟩
      have h := row_mono HTI.out.2 HB1.out.size
      rw [HL.out, List.take_length] at h
      exact h
end Go.Proofs.YtniahipadfgkbaaGreat
