/- BroadOrder: two trees side by side, in plain Lean. Conditions: none. -/
import Derived.Test.YtniahipadfgkbaaGreatKG7
import Derived.Test.YtniahipadfgkbaaGreatKA
namespace Go.Proofs.YtniahipadfgkbaaGreat
open Go Go.Maps Go.RowKit Go.BigFrame Go.ChangeShapes Go.WideShapes
/-- the bodies' numbers may be keys -/
def KeysOk (D : Int → Option Bx) : Prop := ∀ id, (D id).isSome = true → keyOf Tryz.prog 3 (.int .i64 id) = some (.int .i64 id)
theorem query_c (w : World) (t : Nat) (q : Bx) (fat : Int) (p : Nat) (D : Int → Option Bx) (n : Nat) (S : Nat → Prop) (hB : BW w t fat p D n S) (hp : p < 300000) (hwf : KeysOk D) :
    Calls Tryz.prog 51 #[.pointer (some ⟨t, 0, none⟩), bxV q] w (QPost D n q w) := by
  have nil : ∀ (nv fv : Value) (rt : Int) (lf bx : Nat) (fat : Int), Blk w t #[nv, fv, .int .i64 rt, .bool false, .map (some lf), .map (some bx), .int .i64 fat] → (∀ x, D x = none) → Calls Tryz.prog 51 #[.pointer (some ⟨t, 0, none⟩), bxV q] w (QPost D n q w) := by
    intro nv fv rt lf bx fat hb hD
    refine (query_none w t q nv fv rt lf bx fat hb).mono ?_
    rintro e w' ⟨rfl, hb⟩
    exact ⟨_, [], rfl, hb, row_nil0 _ _, List.Pairwise.nil, Nat.zero_le _, fun x => by simp [hD x]⟩
  obtain ⟨hB', hL⟩ := id hB
  rcases hB' with ⟨lf, bx, hF, hD, hn, hS⟩ | ⟨s, M, F, m, mb, f, o, hX, h1, h2, h3, h4, h5, h6⟩
  · exact nil _ _ _ _ _ _ hF.blk (fun x => by rw [hD])
  · cases o with
    | none =>
      obtain ⟨hs, hf, _⟩ := hX.tre.none_ rfl
      refine nil _ _ _ _ _ _ (by rw [← hs]; exact hX.tw.blk) (fun x => ?_)
      have h := hX.bxs.same x
      rw [hf] at h
      cases hd : D x with
      | none => rfl
      | some _ => rw [hd] at h; cases h
    | some T => exact query_some w t q s M F m mb n f T D hX h5 (by omega) hwf
/-- which two meet -/
def PairX (D : Int → Option Bx) (x y : Int) : Prop := x < y ∧ ∃ a b, D x = some a ∧ D y = some b ∧ meetX a b = true
theorem meetX_comm (a b : Bx) : meetX a b = meetX b a := by
  unfold meetX
  rw [Bool.eq_iff_iff]
  simp only [Bool.and_eq_true, decide_eq_true_eq]
  omega
/-- what Pairs answers -/
def PPost (D : Int → Option Bx) (w : World) (e : Ending) (w' : World) : Prop :=
  ∃ (v : Value) (ps : List (Int × Int)), e = .returned v ∧ Below w.heap.size w w' ∧ w'.ownsRow w.heap.size 71 2 v ps.length (cellsP ps) ∧ ps.Pairwise ltP ∧ ps.length < 100000 ∧ ∀ x y, (x, y) ∈ ps ↔ PairX D x y
/-- those found with the body id, the first j of zs looked at -/
def withP (id : Int) (zs : List Int) (j : Nat) : List (Int × Int) := ((zs.take j).filter fun o => decide (id < o)).map fun o => (id, o)
theorem withP_succ {id : Int} {zs : List Int} {j : Nat} {o : Int} (h : zs[j]? = some o) : withP id zs (j + 1) = withP id zs j ++ (if id < o then [(id, o)] else []) := by
  unfold withP
  rw [take_succ_get h, List.filter_append, List.map_append]
  by_cases e : id < o <;> simp [e]
theorem withP_len (id : Int) (zs : List Int) (j : Nat) : (withP id zs j).length ≤ zs.length := by
  unfold withP
  rw [List.length_map]
  refine Nat.le_trans (List.length_filter_le _ _) ?_
  rw [List.length_take]
  omega
theorem withP_mem {id : Int} {zs : List Int} {x y : Int} : (x, y) ∈ withP id zs zs.length ↔ x = id ∧ y ∈ zs ∧ id < y := by
  unfold withP
  rw [List.take_length]
  simp only [List.mem_map, List.mem_filter, decide_eq_true_eq, Prod.mk.injEq]
  constructor
  · rintro ⟨o, ⟨h1, h2⟩, rfl, rfl⟩; exact ⟨rfl, h1, h2⟩
  · rintro ⟨rfl, h1, h2⟩; exact ⟨y, ⟨h1, h2⟩, rfl, rfl⟩
theorem withP_nodup {id : Int} {zs : List Int} (h : zs.Pairwise (· < ·)) : (withP id zs zs.length).Nodup := by
  unfold withP
  rw [List.take_length]
  refine List.pairwise_map.2 ((h.filter _).imp ?_)
  intro a b hab e
  have e2 : a = b := (Prod.mk.injEq _ _ _ _ ▸ e).2
  omega
theorem cellsP_app (a b : List (Int × Int)) : cellsP (a ++ b) = cellsP a ++ cellsP b := List.flatMap_append
theorem pairInfo : (Tryz.prog.info? 71).map (fun i => (i.zero, i.size, i.bytes)) = some (some (.agg #[.int .i64 0, .int .i64 0]), 2, 16) := by kernel_rfl
theorem row_nilP (w : World) (base : Nat) : w.ownsRow base 71 2 (.slice none 0 0) 0 (cellsP []) := ⟨rfl, .inl ⟨rfl, rfl⟩⟩
theorem row_val {w : World} {base n : Nat} {v : Value} {zs : List Int} (h : w.ownsRow base 3 1 v n (ints zs)) : ∃ A C, v = .slice A n C := by
  have hl := h.1
  rcases h.2 with ⟨e1, e2⟩ | ⟨g, cap, cur, e1, _⟩
  · rw [e2] at hl
    have h0 : n = 0 := by simp at hl; omega
    exact ⟨none, 0, by rw [h0]; exact e1⟩
  · exact ⟨_, cap, e1⟩
/-- in a round, j of the others looked at -/
structure IR (w0 wr : World) (bx r mb n : Nat) (G : Lit → Option Value) (L : Int → Bool) (cnt : Nat) (qs : List (Int × Int)) (vo : Value) (base : Nat) (vz : Value) (zs : List Int) : Prop where
  ext : Below w0.heap.size w0 wr
  rng : RangeV Tryz.prog 3 wr bx r mb G n L cnt
  row : wr.ownsRow w0.heap.size 71 2 vo qs.length (cellsP qs)
  ne : vo.ownBlock ≠ some r
  zrow : wr.ownsRow base 3 1 vz zs.length (ints zs)
  nz : ∀ b, vo.ownBlock = some b → vz.ownBlock ≠ some b
/-- between two rounds of Pairs -/
structure PR (w0 wr : World) (bx r mb n : Nat) (D : Int → Option Bx) (G : Lit → Option Value) (L : Int → Bool) (cnt : Nat) (ps : List (Int × Int)) (vo : Value) : Prop where
  ext : Below w0.heap.size w0 wr
  rng : RangeV Tryz.prog 3 wr bx r mb G n L cnt
  row : wr.ownsRow w0.heap.size 71 2 vo ps.length (cellsP ps)
  ne : vo.ownBlock ≠ some r
  nodup : ps.Nodup
  mem : ∀ x y, (x, y) ∈ ps ↔ L x = false ∧ PairX D x y
  len : ps.length + 60 * cnt ≤ 3600
set_option maxRecDepth 100000 in
set_option maxHeartbeats 16000000 in
theorem pairs_w (w : World) (t : Nat) (fat : Int) (p : Nat) (D : Int → Option Bx) (n : Nat) (S : Nat → Prop) (hB : BW w t fat p D n S) (hp : p < 300000) (hwf : KeysOk D) (hn : n ≤ 60)
    (nv fv : Value) (rt : Int) (som : Bool) (lf bx mb : Nat) (fat2 : Int) (hb : Blk w t #[nv, fv, .int .i64 rt, .bool som, .map (some lf), .map (some bx), .int .i64 fat2]) (hv : VI w bx mb n (fun id => (D id).map bxV)) :
    Calls Tryz.prog 27 #[.pointer (some ⟨t, 0, none⟩)] w (PPost D w) := by
  obtain ⟨G, hG, hGv⟩ := hv
  have HG := Lib.hid hG
  have HGV := Lib.hid hGv
  have HB := Lib.hid hB
  have HT := Lib.hid hb
  have HP := Lib.hid hp
  have HWF := Lib.hid hwf
  have HN := Lib.hid hn
  have HBL := Lib.hid hG.lt
  clear hG hGv hB hb hp hwf hn
  obtain ⟨zt, ct, ft⟩ := id HT.out
  go_enter Tryz.func27, Tryz.ntmps27
  go_wp2_with (at_range; refine at_rangeV rfl (.tmp 11) rfl (int_keyed Tryz.underlying3) Tryz.underlying88 rfl HG.out ?_; intro w2 hr2 hd2 hs2; have HR2 := Lib.hid hr2; have HD2 := Lib.hid hd2; clear hr2 hd2 hs2)
  clear zt ct ft
  go_loopg [3] n (fun k vo wr => ∃ (ps : List (Int × Int)) (vo' : Value) (L : Int → Bool) (cnt : Nat), vo' = vo ∧ k = cnt ∧ PR w wr bx w.heap.size mb n D G L cnt ps vo')
  case atStart =>
    refine ⟨[], _, _, n, rfl, rfl, ⟨HD2.out.toBelow (Nat.le_refl _) (fun b _ h => h), HR2.out, row_nilP _ _, fun e => (by cases e), List.nodup_nil, fun x y => ?_, by have := HN.out; simp; omega⟩⟩
    constructor
    · intro h; cases h
    · rintro ⟨h1, _, a, b, h2, _⟩
      rw [HGV.out, h2] at h1
      cases h1
  case round =>
    obtain ⟨ps, vo, L, cnt, hv1, hk, hR⟩ := hrel
    subst hv1
    have HR := Lib.hid hR
    have HK := Lib.hid hk
    clear hR hk
    go_wp2_with (at_next; refine at_nextV rfl (.tmp 12) rfl (int_keyed Tryz.underlying3) Tryz.underlying3 rfl HR.out.rng ?_ ?_)
    · intro hL
      have HL := Lib.hid hL
      clear hL
      have hlen : ps.length < 1000000 := by have := HR.out.len; omega
      go_wp2_with fail
      refine (sortP_c w.heap.size vo ps wr HR.out.row hlen).mono ?_
      rintro e w3 ⟨rfl, hrow, hmod⟩
      have HROW := Lib.hid hrow
      have HMOD := Lib.hid hmod
      clear hrow hmod hlen
      go_wp2
      go_ret
      have hm1 : Mod (fun b => w.heap.size ≤ b) w w3 := (Mod.of_below HR.out.ext).trans (HMOD.out.mono fun b _ h => (row_lt HR.out.row h).2)
      refine ⟨vo, srtP ps, rfl, hm1.toBelow (Nat.le_refl _) (fun b h1 (h2 : w.heap.size ≤ b) => by omega), HROW.out, srtP_sorted HR.out.nodup, by rw [srtP_len]; have := HR.out.len; omega, fun x y => ?_⟩
      rw [srtP_mem, HR.out.mem x y]
      exact ⟨fun h => h.2, fun h => ⟨HL.out x, h⟩⟩
    · intro x cv w3 cnt3 hwfx hLx hGx hrg3 hlt hd3 hs3 hen
      have hD : ∃ b, D x = some b ∧ cv = bxV b := by
        rw [HGV.out] at hGx
        cases hd : D x with
        | none => rw [hd] at hGx; cases hGx
        | some b => rw [hd] at hGx; exact ⟨b, rfl, (Option.some.inj hGx).symm⟩
      obtain ⟨b, hDb, rfl⟩ := hD
      have HDB := Lib.hid hDb
      have HLX := Lib.hid hLx
      have HRG := Lib.hid hrg3
      have HLT := Lib.hid hlt
      have HE3 : Hid (Below w.heap.size w w3) := Lib.hid (HR.out.ext.trans (hd3.toBelow HR.out.ext.size (fun b h1 (h2 : b = w.heap.size) => by omega)))
      have HW3 := Lib.hid (row_mod HR.out.row hd3 (fun b e e2 => HR.out.ne (e2 ▸ e)))
      unfold bxV at hen
      clear hDb hLx hrg3 hlt hd3 hs3 hwfx hGx
      go_wp2_with fail
      have he4 : Below w.heap.size w (w3.alloc (.cells #[.int .i64 b.a1, .int .i64 b.a2, .int .i64 b.a3, .int .i64 b.b1, .int .i64 b.b2, .int .i64 b.b3] 67)) := ext_alloc HE3.out _
      refine (query_c _ t b fat p D n S (HB.out.below he4) HP.out HWF.out).mono ?_
      rintro e w5 ⟨vz, zs, rfl, hb5, hrow5, hsort, hzl, hmem⟩
      obtain ⟨A, C, hvz⟩ := row_val hrow5
      have hw4 : (w3.alloc (.cells #[.int .i64 b.a1, .int .i64 b.a2, .int .i64 b.a3, .int .i64 b.b1, .int .i64 b.b2, .int .i64 b.b3] 67)).heap.size = w3.heap.size + 1 := by simp
      rw [hw4] at hrow5
      have hb35 : Below w3.heap.size w3 w5 := (ballocT _ _).trans (hb5.mono (by rw [hw4]; omega))
      have HZM := Lib.hid (And.intro hsort (And.intro hzl hmem))
      have hIR : IR w w5 bx w.heap.size mb n G (fun z => L z && !decide (z = x)) cnt3 ps vo (w3.heap.size + 1) vz zs := ⟨HE3.out.trans (hb35.mono HE3.out.size), HRG.out.below hb35, row_below HW3.out hb35, HR.out.ne, hrow5, fun b e e2 => by
        have h1 := (row_lt HW3.out e).1
        have h2 := (row_lt hrow5 e2).2
        omega⟩
      have HIR := Lib.hid hIR
      clear he4 hb5 hrow5 hsort hzl hmem hw4 hb35 hIR hen
      subst hvz
      obtain ⟨r0, hr0⟩ : ∃ r0, r0 = w.heap.size := ⟨_, rfl⟩
      go_wp2_with fail
      go_loopg [3, 22] (zs.length) (fun k2 vo2 vi wr2 => ∃ (j : Nat) (vo' : Value), vo' = vo2 ∧ vi = .int .i64 (j : Int) ∧ j ≤ zs.length ∧ k2 = zs.length - j ∧ IR w wr2 bx w.heap.size mb n G (fun z => L z && !decide (z = x)) cnt3 (ps ++ withP x zs j) vo' (w3.heap.size + 1) (.slice A zs.length C) zs)
      case atStart => exact ⟨0, vo, rfl, rfl, Nat.zero_le _, rfl, by simpa [withP] using HIR.out⟩
      case round =>
        clear HIR
        obtain ⟨j, vo2, hv2, hvi, hj, hk2, hI⟩ := hrel
        subst hv2 hvi
        have HI := Lib.hid hI
        have HK2 := Lib.hid hk2
        clear hI hk2
        by_cases hjl : j < zs.length
        · have d1 : decide ((j : Int) < (zs.length : Int)) = true := decide_eq_true (by omega)
          obtain ⟨g, cap, hvg, -, hgl, -, -, fg, cg, -⟩ := row_at HI.out.zrow (by omega)
          injection hvg with eA _ eC
          subst eA eC
          obtain ⟨o, ho⟩ : ∃ o, zs[j]? = some o := ⟨_, List.getElem?_eq_getElem hjl⟩
          have qo : wr.cell? ⟨g, j, none⟩ = some (.int .i64 o) := cg j _ (ints_get ho)
          have HO := Lib.hid (And.intro ho hj)
          have hwj : wrap64 ((j : Int) + 1) = (j : Int) + 1 := by
            have := HZM.out.2.1
            have := HN.out
            unfold wrap64
            omega
          clear ho hj cg
          by_cases hxo : x < o
          · go_wp2_with (at_builtin; go_must (refine app_one rfl (.tmp 29) (.tmp 33) 69 rfl Tryz.underlying69 pairInfo rfl (by decide) (by decide) w.heap.size _ (ps ++ withP x zs j).length _ rfl HI.out.row #[.int .i64 x, .int .i64 o] rfl rfl rfl (by intro u hu; simp at hu; rcases hu with rfl | rfl <;> rfl) (by have h1 := HR.out.len; have h2 := withP_len x zs j; have h3 := HZM.out.2.1; have h4 := HN.out; rw [List.length_append]; omega) HI.out.ext.size ?_; intro g' c' w6 hown hmod hwh hbg; have HOWN := Lib.hid hown; have HMOD := Lib.hid hmod; have HWH := Lib.hid hwh; clear hown hmod hwh hbg))
            go_roundg (zs.length - (j + 1))
            case measure => have := HK2.out; omega
            case rel =>
              refine ⟨j + 1, _, rfl, by simp, by omega, rfl, ?_⟩
              have hI := HI.out
              have hrl := hI.rng.lt
              have hm := HMOD.out
              have hgn : ∀ b, vo2.ownBlock = some b → w.heap.size ≤ b := fun b e => (row_lt hI.row e).2
              have hzl : ∀ b, (Value.slice (some ⟨g, 0, none⟩) zs.length C).ownBlock = some b → b < wr.heap.size := fun b e => (row_lt hI.zrow e).1
              have e1 : ps ++ withP x zs (j + 1) = (ps ++ withP x zs j) ++ [(x, o)] := by rw [withP_succ HO.out.1, if_pos hxo, List.append_assoc]
              refine ⟨hI.ext.trans (hm.toBelow hI.ext.size (fun b h1 h2 => by have := hgn b h2; omega)), hI.rng.mod hm (fun e => by have := hgn _ e; have := HBL.out; omega) (fun e => hI.ne e), ?_, fun e => ?_, row_mod hI.zrow hm (fun b e e2 => hI.nz b e2 e), fun b e e2 => ?_⟩
              · have h := HOWN.out
                have e2 : (ps ++ withP x zs (j + 1)).length = ps.length + (withP x zs j).length + 1 := by
                  rw [e1, List.length_append, List.length_append]
                  rfl
                rw [List.length_append] at h
                rw [e2, e1, cellsP_app]
                exact h
              · have e' : g' = w.heap.size := Option.some.inj e
                rcases HWH.out with h | h
                · exact hI.ne (e' ▸ h)
                · omega
              · have e' : g' = b := Option.some.inj e
                rcases HWH.out with h | h
                · exact hI.nz g' h (e' ▸ e2)
                · have := hzl b e2
                  omega
          · have hxo' : o ≤ x := Int.not_lt.1 hxo
            go_wp2
            go_roundg (zs.length - (j + 1))
            case measure => have := HK2.out; omega
            case rel =>
              refine ⟨j + 1, _, rfl, by simp, by omega, rfl, ?_⟩
              have e1 : ps ++ withP x zs (j + 1) = ps ++ withP x zs j := by rw [withP_succ HO.out.1, if_neg (Int.not_lt.2 hxo'), List.append_nil]
              rw [e1]
              exact HI.out
        · have d1 : decide ((j : Int) < (zs.length : Int)) = false := decide_eq_false (by omega)
          have ej : j = zs.length := by omega
          subst ej
          go_wp2
          go_roundg cnt3
          case measure => have := HK.out; have := HLT.out; omega
          case rel =>
            have hI := HI.out
            have hZ := HZM.out
            refine ⟨_, vo2, _, cnt3, rfl, rfl, ⟨hI.ext, hI.rng, hI.row, hI.ne, ?_, fun a c => ?_, ?_⟩⟩
            · refine List.nodup_append.2 ⟨HR.out.nodup, withP_nodup hZ.1, fun y hy z hz e => ?_⟩
              subst e
              obtain ⟨y1, y2⟩ := y
              have h1 := ((HR.out.mem y1 y2).1 hy).1
              have h2 := (withP_mem.1 hz).1
              rw [h2, HLX.out] at h1
              cases h1
            · rw [List.mem_append, HR.out.mem a c, withP_mem, hZ.2.2 c]
              simp only [Bool.and_eq_false_iff, Bool.not_eq_false', decide_eq_true_eq]
              constructor
              · rintro (⟨h1, h2⟩ | ⟨rfl, ⟨c', h3, h4⟩, h5⟩)
                · exact ⟨.inl h1, h2⟩
                · exact ⟨.inr rfl, h5, b, c', HDB.out, h3, by rw [meetX_comm]; exact h4⟩
              · rintro ⟨h1 | h1, h2⟩
                · exact .inl ⟨h1, h2⟩
                · subst h1
                  obtain ⟨h5, a', c', h6, h7, h8⟩ := h2
                  rw [HDB.out] at h6
                  cases h6
                  exact .inr ⟨rfl, ⟨c', h7, by rw [meetX_comm]; exact h8⟩, h5⟩
            · have h1 := HR.out.len
              have h2 := withP_len x zs zs.length
              have h3 := HLT.out
              have h4 := hZ.2.1
              have h5 := HN.out
              rw [List.length_append]
              omega
theorem pairs_c (w : World) (t : Nat) (fat : Int) (p : Nat) (D : Int → Option Bx) (n : Nat) (S : Nat → Prop) (hB : BW w t fat p D n S) (hp : p < 300000) (hwf : KeysOk D) :
    Calls Tryz.prog 27 #[.pointer (some ⟨t, 0, none⟩)] w (PPost D w) := by
  obtain ⟨hB', hL⟩ := id hB
  rcases hB' with ⟨lf, bx, hF, hD, hn, hS⟩ | ⟨s, M, F, m, mb, f, o, hX, h1, h2, h3, h4, h5, h6⟩
  · refine pairs_w w t fat p D n S hB hp hwf (by omega) _ _ _ _ lf bx 0 _ hF.blk ?_
    rw [hn, hD]
    exact hF.bxm
  · exact pairs_w w t fat p D n S hB hp hwf h5 _ _ _ _ s.lf s.bx mb _ hX.tw.blk hX.bxm
/-- pairs of one map's are one list -/
theorem pairs_same {D : Int → Option Bx} {a b : List (Int × Int)} (ha : a.Pairwise ltP) (hb : b.Pairwise ltP) (ma : ∀ x y, (x, y) ∈ a ↔ PairX D x y) (mb : ∀ x y, (x, y) ∈ b ↔ PairX D x y) : a = b := by
  have na : a.Nodup := ha.imp (fun {x y} h e => by subst e; unfold ltP at h; omega)
  have nb : b.Nodup := hb.imp (fun {x y} h e => by subst e; unfold ltP at h; omega)
  exact ((List.perm_ext_iff_of_nodup na nb).2 fun x => by obtain ⟨u, v⟩ := x; rw [ma, mb]).eq_of_pairwise (le := fun x y => ltP x y) (fun x y _ _ h1 h2 => by unfold ltP at h1 h2; obtain ⟨x1, x2⟩ := x; obtain ⟨y1, y2⟩ := y; simp only at h1 h2; omega) ha hb
end Go.Proofs.YtniahipadfgkbaaGreat
namespace Go.Proofs.YtniahipadfgkbaaGreat
open Go Go.Maps Go.RowKit Go.BigFrame Go.ChangeShapes Go.WideShapes
section
variable {B : Nat → Bx} {n j k c : Nat} {M : Nat → Bool}
end
/-- two trees of the call's own, apart -/
def Two (w0 w : World) (ta tb : Nat) (fa : Int) (p : Nat) (Da : Int → Option Bx) (ca : Nat) (Db : Int → Option Bx) (cb : Nat) : Prop :=
  ∃ Sa Sb : Nat → Prop, BW w ta fa p Da ca Sa ∧ BW w tb 0 p Db cb Sb ∧ (∀ x, Sa x → ¬ Sb x) ∧ (∀ x, Sa x → w0.heap.size ≤ x) ∧ (∀ x, Sb x → w0.heap.size ≤ x) ∧ Below w0.heap.size w0 w
section
variable {w0 w w' : World} {ta tb : Nat} {fa : Int} {p p' : Nat} {Da Db : Int → Option Bx} {ca cb : Nat}
theorem Two.ext (h : Two w0 w ta tb fa p Da ca Db cb) : Below w0.heap.size w0 w := by obtain ⟨_, _, _, _, _, _, _, h⟩ := h; exact h
theorem Two.below (h : Two w0 w ta tb fa p Da ca Db cb) (k : Below w.heap.size w w') : Two w0 w' ta tb fa p Da ca Db cb := by
  obtain ⟨Sa, Sb, h1, h2, h3, h4, h5, h6⟩ := h
  exact ⟨Sa, Sb, h1.below k, h2.below k, h3, h4, h5, h6.trans (k.mono h6.size)⟩
theorem Two.le (h : Two w0 w ta tb fa p Da ca Db cb) (hp : p ≤ p') : Two w0 w ta tb fa p' Da ca Db cb := by
  obtain ⟨Sa, Sb, h1, h2, h3, h4, h5, h6⟩ := h
  exact ⟨Sa, Sb, h1.le hp, h2.le hp, h3, h4, h5, h6⟩
theorem Two.first {Sa Sb S' : Nat → Prop} {D' : Int → Option Bx} {c' : Nat} (_h1 : BW w ta fa p Da ca Sa) (h2 : BW w tb 0 p Db cb Sb) (h3 : ∀ x, Sa x → ¬ Sb x) (h4 : ∀ x, Sa x → w0.heap.size ≤ x) (h5 : ∀ x, Sb x → w0.heap.size ≤ x) (h6 : Below w0.heap.size w0 w)
    (hm : Mod Sa w w') (k1 : BW w' ta fa (p + 1) D' c' S') (k2 : ∀ x, S' x → Sa x ∨ w.heap.size ≤ x) : Two w0 w' ta tb fa (p + 1) D' c' Db cb :=
  ⟨S', Sb, k1, (h2.mod hm (fun x hx e => h3 x e hx)).le (by omega), fun x hx hb => (k2 x hx).elim (fun e => h3 x e hb) (fun e => by have := h2.2 x hb; omega), fun x hx => (k2 x hx).elim (h4 x) (fun e => Nat.le_trans h6.size e), h5, h6.trans (hm.toBelow h6.size (fun b h1 h2 => by have := h4 b h2; omega))⟩
end
/-- a row of pairs, cell by cell -/
theorem cellsP_at : ∀ (ps : List (Int × Int)) (j : Nat) (x : Int × Int), ps[j]? = some x → (cellsP ps)[j * 2]? = some (.int .i64 x.1) ∧ (cellsP ps)[j * 2 + 1]? = some (.int .i64 x.2) := by
  intro ps
  induction ps with
  | nil => intro j x h; simp at h
  | cons y ps ih =>
    intro j x h
    have e : cellsP (y :: ps) = .int .i64 y.1 :: .int .i64 y.2 :: cellsP ps := rfl
    rw [e]
    cases j with
    | zero =>
      have : y = x := by simpa using h
      subst this
      exact ⟨rfl, rfl⟩
    | succ j =>
      have h' : ps[j]? = some x := by simpa using h
      obtain ⟨h1, h2⟩ := ih j x h'
      have e1 : (j + 1) * 2 = j * 2 + 1 + 1 := by omega
      rw [e1]
      exact ⟨by simpa using h1, by simpa using h2⟩
theorem rowP_at {w : World} {base n : Nat} {v : Value} {ps : List (Int × Int)} (h : w.ownsRow base 71 2 v n (cellsP ps)) (hn : 0 < n) : ∃ g cap, v = .slice (some ⟨g, 0, none⟩) n cap ∧ g < w.heap.size ∧ ∀ j x, ps[j]? = some x → w.cell? ⟨g, j * 2, none⟩ = some (.int .i64 x.1) ∧ w.cell? ⟨g, j * 2 + 1, none⟩ = some (.int .i64 x.2) := by
  obtain ⟨g, cap, e, _, hl, _, _, _, cg, _⟩ := row_at h hn
  refine ⟨g, cap, e, hl, fun j x hx => ?_⟩
  obtain ⟨h1, h2⟩ := cellsP_at ps j x hx
  exact ⟨cg _ _ h1, cg _ _ h2⟩
end Go.Proofs.YtniahipadfgkbaaGreat
