/- The contract of (*client.Client).whole: all pieces are there. Conditions: none. -/
import Derived.Test.YtefhmbmbhiehdaaKClF
import Derived.Test.YtefhmbmbhiehdaaKApply3
namespace Go.Proofs.Ytefhmbmbhiehdaa
open Go.ChangeShapes Go.WideShapes Go.ChangeAt Go.RowKit Go.BigFrame Go.Maps
open B
theorem quiet_lookup2 {P : Program} {K E T : TypeId} {b m n : Nat} {F : Lit → Option Value} {C : World → Prop} {o : Oper} {a : Act} {k : Act → Prop} (mm x : Operand) (hop : o.op = Op.lookup T mm x true) (LK : Keyed P K) (ht : P.underlying T = some (.map K E)) {z : Value} (hz : ∀ u : World, (zeroValue E).run P u = .ok z u)
    (hm : a.eval mm = .map (some b)) (hown : ∀ w, C w → MapV P K w b m F n) (key : Value) (kl : Lit) (hx : a.eval x = key) (hkey : keyOf P K key = some kl) (hkl : WideAt.IsKeyLit kl) (h : k (a.put o.dst (.tuple #[(F kl).getD z, .bool (F kl).isSome]))) : o.quiet P a C k :=
  ⟨_, fun w hw => by
    obtain ⟨D, hown, hT, hf⟩ := hown w hw
    obtain ⟨v, ps, hrun, hv⟩ := hown.look_ok LK ht (hz w) (zd := .held z) (zp := []) rfl hkey
    rw [hf.at_ kl z hkl] at hv
    have e : v = (F kl).getD z := by
      unfold holdV at hv
      simp at hv
      exact hv.1
    subst e
    unfold Oper.quietAt
    simp [execOp, hop, hm, hx, hrun, Result.andThen]
    rw [← hf.has kl hkl]
    exact ⟨rfl, rfl⟩, h⟩
theorem pieceAt_len {got : List Pce} (h : ∀ p ∈ got, p.ok) (i : Nat) : ((pieceAt got i).getD []).length ≤ 100 ∧ ∀ b ∈ (pieceAt got i).getD [], b < 256 := by
  unfold pieceAt
  cases hf : got.find? (fun p => p.ix == i) with
  | none => simp
  | some q =>
    have := h q (List.mem_of_find?_eq_some hf)
    exact ⟨this.1.2.2.2.2.2.2, this.2⟩
theorem joinF_lt {f : Nat → List Nat} (h : ∀ i, ∀ b ∈ f i, b < 256) : ∀ n, ∀ b ∈ joinF f n, b < 256
  | 0 => fun b hb => by simp [joinF] at hb
  | n + 1 => fun b hb => by
    simp only [joinF, List.mem_append] at hb
    rcases hb with hb | hb
    · exact joinF_lt h n b hb
    · exact h n b hb
/-- the pieces as Concat reads them -/
theorem GatP.pieces {S Z : Nat → Prop} {w : World} {c ma : Nat} {got : List Pce} {st ba hv : Int} {PA : Option Addr} (h : GatP S Z w c got st ba PA ma hv) (h0 : got ≠ []) (ha : ∀ i, i < ma → pieceAt got i ≠ none) : Pieces w PA ma (fun i => (pieceAt got i).getD []) := fun hn => by
  rcases h with h | ⟨_, _, _, pb, vs, rfl, _, _, hb, hs, hc⟩
  · exact absurd h.1 h0
  · refine ⟨pb, 0, rfl, hb.lt, fun i hi => ?_⟩
    have hi' : i < vs.size := by omega
    refine ⟨vs[i], ?_, ?_⟩
    · rw [Nat.zero_add, hb.cell i]
      exact Array.getElem?_eq_getElem hi'
    · have := hc i vs[i] (Array.getElem?_eq_getElem hi')
      cases hp : pieceAt got i with
      | none => exact absurd hp (ha i hi)
      | some l =>
        rw [hp] at this
        simp only [hp, Option.getD_some]
        exact this.1.1
theorem ansF_bad {M : Nat → Nat → Int} {n : Nat} {l : List Nat} (h : ¬ RightV n M) : ansF M n l = none := by
  unfold ansF
  cases applyF (openL l) ((openL l).length + 1) 0 [] (rowsOf M n) 0 with
  | none => rfl
  | some o => exact ansV_no (fun hd => h (d_zero.1 hd.1).1)
/-- the client, when nothing is gathered -/
theorem CR.empty {w w' : World} {c m b n : Nat} {s s' : AS} {S X : Nat → Prop} {st ba hv ba' hv' : Int} {PA : Option Addr} {ma : Nat} (h : CR w c m s S X b n st ba PA ma hv) (k : Mod S w w') (hb : Blk w' c #[.map (some b), .int .i64 s'.newest, .int .i64 0, .int .i64 ba', .slice none 0 0, .int .i64 hv']) (hg : s'.got = []) {m' n' : Nat} (hv : VM (fun x => S x ∨ X x) w' b m' s'.V n') :
    CR w' c m' s' S X b n' 0 ba' none 0 hv' :=
  ⟨hb, hv, .inl ⟨hg, rfl, rfl, rfl⟩, h.sc, h.sb, h.ne, fun x hx => ⟨Nat.lt_of_lt_of_le (h.sl x hx).1 k.size, (h.sl x hx).2⟩, fun x hx => Nat.lt_of_lt_of_le (h.xl x hx) k.size⟩
set_option maxRecDepth 100000 in
set_option maxHeartbeats 8000000 in
theorem cwhole_c (w : World) (c m b n : Nat) (s : AS) (S X : Nat → Prop) (st ba hv : Int) (PA : Option Addr) (ma : Nat) (h : CR w c m s S X b n st ba PA ma hv) (p : Pce) (hp : p.ok) (hm : m ≤ 1000) (h0 : s.got ≠ []) (hst : st = p.st) (hba : ba = p.ba) (hma : ma = p.ma) (hpc : ∀ q ∈ s.got, q.ok) (hall : ∀ i, i < ma → pieceAt s.got i ≠ none) (hV : ∀ k R, s.V k = some R → 0 ≤ k ∧ k ≤ 70368744177664 ∧ R.length ≤ 60) :
    Calls Try.prog 41 #[.pointer (some ⟨c, 0, none⟩)] w fun e w' => e = .returned (.bool (s.whole p).1) ∧ (∃ n' ba' hv', CR w' c (m + 1) (s.whole p).2 S X b n' 0 ba' none 0 hv') ∧ Mod S w w' := by
  subst hst hba hma
  have HH := Lib.hid h
  have HP := Lib.hid hp
  have HV := Lib.hid hV
  have hP := h.gat.pieces h0 hall
  have HPC := Lib.hid (pieceAt_len hpc)
  have hma := hp.1.2.2.2.2.1
  have hb := h.blk
  obtain ⟨zc, cc, fc⟩ := id hb
  clear h hp hV hb hpc hall
  go_enter Try.func41, Try.ntmps41
  go_wp2_with fail
  refine (concat_c PA p.ma p.ma (fun i => (pieceAt s.got i).getD []) _ (by omega) (fun i => (HPC.out i).1) hP).mono ?_
  rintro e w1 ⟨v1, rfl, hs1, hn1, hb1⟩
  have HN1 := Lib.hid hn1
  obtain ⟨l, hl⟩ : ∃ l, l = joinG s.got p.ma := ⟨_, rfl⟩
  have HL := Lib.hid hl
  have HS1 : Hid (Src w1 v1 l) := Lib.hid (by rw [hl]; exact hs1)
  have HL8 : Hid ((∀ b ∈ l, b < 256) ∧ l.length ≤ 100000) := Lib.hid (by rw [hl]; exact ⟨joinF_lt (fun i => (HPC.out i).2) _, Nat.le_trans (joinF_len (fun i => (HPC.out i).1) _) (by omega)⟩)
  have hm1 : Mod S w w1 := Mod.of_below hb1
  have hb1' := HH.out.blk.below hb1
  obtain ⟨zc1, cc1, fc1⟩ := id hb1'
  obtain ⟨F, hF, hFV⟩ := HH.out.vm
  have HF := Lib.hid (hF.below hb1)
  have HFV := Lib.hid hFV
  have HM1 := Lib.hid hm1
  have HB1 := Lib.hid hb1
  clear hn1 zc cc fc hs1 hl hP hb1' hF hFV hm1 hb1
  have hwf : keyOf Try.prog 3 (.int .i64 p.ba) = some (.int .i64 p.ba) := int_key _ (intKey_wf (by omega) (by have := HP.out.1.2.1; have := HP.out.1.2.2.1; omega))
  have HK := Lib.hid hwf
  have hmc := more_cell
  clear hwf
  go_wp2_with fail
  refine region_quiet_all (by kernel_rfl) (by kernel_rfl) ?_
  repeat (go_big_quiet_step (fail))
  go_big_quiet_want
  refine quiet_lookup2 (.tmp 19) (.tmp 23) rfl (int_keyed Try.underlying3) Try.underlying91 zero_view rfl (by rintro _ ⟨mm, rfl⟩; exact HF.out.below (more_below w1 mm)) (.int .i64 p.ba) (.int .i64 p.ba) rfl HK.out trivial ?_
  simp only [Act.put, List.setIfInBounds_toArray, List.set_cons_zero, List.set_cons_succ]
  go_big_quiet_on
  repeat (go_big_quiet_step (fail))
  refine wpQuiet_nil ?_
  rintro w2 hw2
  have hb2 := after_below hw2
  have HF2 := Lib.hid (HF.out.below hb2)
  have HS2 := Lib.hid (HS1.out.below hb2)
  have HB2 : Hid (Below w.heap.size w w2) := Lib.hid (HB1.out.trans (hb2.mono HB1.out.size))
  have hbk := HH.out.blk.below HB2.out
  obtain ⟨zc2, cc2, fc2⟩ := id hbk
  have HBK := Lib.hid hbk
  clear hw2 hb2 zc1 cc1 fc1 HF HS1 HB1 HM1 hmc hbk
  go_upto_region 5 with fail
  refine wp_fresh ?_
  rintro w3 hb3
  have k3 : Mod (· = c) w2 w3 := Mod.below (((Mod.refl (· = c) w2).set (.inl rfl)).set (.inl rfl)) hb3
  have B2 := HBK.out
  have B3 : Blk w3 c _ := Blk.below (by repeat (with_reducible (first | assumption | (apply Blk.at; simp; done) | apply Blk.alloc | apply Blk.drew | apply Blk.drewN | apply Blk.more | apply Blk.put | (apply Blk.far; focus (first | assumption | (apply Ne.symm; assumption) | (simp; done) | (simp <;> omega)))))) hb3
  clear B2
  try simp only [List.setIfInBounds_toArray, List.set_cons_zero, List.set_cons_succ] at B3
  have hrb : RbZ (fun x => S x ∨ X x) w2 v1 l := RbZ.of HS2.out (fun _ x n c' e hz => by
    have h1 := HN1.out x n c' e
    rcases hz with hz | hz
    · have := (HH.out.sl _ hz).1; omega
    · have := HH.out.xl _ hz; omega)
  have HS3 := Lib.hid (hrb.mod (Z' := fun x => S x ∨ X x) k3 (fun x e => .inl (e ▸ HH.out.sc)) (fun x h => .inl h)).1
  have HF3 := Lib.hid (HF2.out.mod k3 (fun e => HH.out.ne e.symm))
  have HC3 : Hid (Mod (· = c) w w3) := Lib.hid ((Mod.of_below HB2.out).trans k3)
  have HM3 : Hid (Mod S w w3) := Lib.hid (HC3.out.mono (fun x _ e => e ▸ HH.out.sc))
  have HV3 : Hid (VM (fun x => S x ∨ X x) w3 b (m + 1) s.V n) := Lib.hid ((HH.out.vm.mod HC3.out (fun x e => .inl (e ▸ HH.out.sc)) (fun x h => .inl h) (fun e => HH.out.ne e.symm)).more (by omega))
  clear hb3 k3 hrb zc2 cc2 fc2 HF2 HS2 HBK HB2
  have HB3 := Lib.hid B3
  obtain ⟨zc, cc, fc⟩ := id B3
  clear B3
  have hk := HFV.out p.ba
  cases hv0 : s.V p.ba with
  | none =>
    have hF0 : F (.int .i64 p.ba) = none := by
      rw [hv0] at hk
      cases hf : F (.int .i64 p.ba) with
      | none => rfl
      | some v => rw [hf] at hk; exact hk.elim
    have HW : Hid (s.whole p = (false, { s with got := [] })) := Lib.hid (by unfold AS.whole; rw [hv0])
    rw [hF0]
    simp only [Option.isSome_none, Option.getD_none]
    clear hk hv0 hF0
    go_wp2
    go_ret
    rw [HW.out]
    exact ⟨rfl, ⟨n, _, _, HH.out.empty (s' := { s with got := [] }) HM3.out HB3.out rfl HV3.out⟩, HM3.out⟩
  | some R =>
    obtain ⟨v, hFv⟩ : ∃ v, F (.int .i64 p.ba) = some v := by
      rw [hv0] at hk
      cases hf : F (.int .i64 p.ba) with
      | none => rw [hf] at hk; exact hk.elim
      | some v => exact ⟨v, rfl⟩
    rw [hv0, hFv] at hk
    obtain ⟨A, cp, rfl, h1, h2, h3⟩ := hk
    have hRl := (HV.out _ _ hv0).2.2
    have HRd : Hid (Reads w3 A R.length 11 (mx R)) := Lib.hid ((h3.mod (Z' := fun x => S x ∨ X x) HC3.out (fun x e => .inl (e ▸ HH.out.sc)) (fun x h => .inl h)).reads)
    have H1 := Lib.hid h1
    have HV0 := Lib.hid hv0
    rw [hFv]
    simp only [Option.isSome_some, Option.getD_some]
    clear hFv h1 h3 hv0
    go_wp2_with fail
    refine (apply_f R.length A cp (mx R) v1 l w3 (by omega) h2 H1.out HRd.out HS3.out HL8.out.1 HL8.out.2).mono ?_
    rintro e w4 ⟨h, hb4⟩
    have HC4 : Hid (Mod (· = c) w w4) := Lib.hid (HC3.out.below hb4)
    have HM4 : Hid (Mod S w w4) := Lib.hid (HM3.out.below hb4)
    have B4 := HB3.out.below hb4
    have HB4 := Lib.hid B4
    clear zc cc fc
    obtain ⟨zc, cc, fc⟩ := id B4
    have HV4 : Hid (VM (fun x => S x ∨ X x) w4 b (m + 1) s.V n) := Lib.hid ((HH.out.vm.mod HC4.out (fun x e => .inl (e ▸ HH.out.sc)) (fun x h => .inl h) (fun e => HH.out.ne e.symm)).more (by omega))
    have hbad : ansF (mx R) R.length l = none → s.whole p = (false, { s with got := [] }) := fun hn => by
      unfold AS.whole
      rw [HV0.out]
      simp only
      rw [← HL.out, hn]
    have HBAD := Lib.hid hbad
    clear hbad B4
    rcases h with ⟨hr, rfl⟩ | ⟨_, hn, rfl⟩ | ⟨_, o, A', c', ho, rfl, g1, g2, g3, g4⟩
    · have HW := Lib.hid (HBAD.out (ansF_bad hr))
      clear hr hb4 HBAD
      go_wp2
      go_ret
      rw [HW.out]
      exact ⟨rfl, ⟨n, _, _, HH.out.empty (s' := { s with got := [] }) HM4.out HB4.out rfl HV4.out⟩, HM4.out⟩
    · have HW := Lib.hid (HBAD.out hn)
      clear hn hb4 HBAD
      go_wp2
      go_ret
      rw [HW.out]
      exact ⟨rfl, ⟨n, _, _, HH.out.empty (s' := { s with got := [] }) HM4.out HB4.out rfl HV4.out⟩, HM4.out⟩
    · have HW : Hid (s.whole p = (true, ⟨newV s.V p.st o, p.st, []⟩)) := Lib.hid (by
        unfold AS.whole
        rw [HV0.out]
        simp only
        rw [← HL.out, ho])
      have HRO : Hid (RdZ (fun x => S x ∨ X x) w4 A' o) := Lib.hid (RdZ.of g3 (fun _ x e hz => by
        have h1 := g4 x e
        have h2 := HC3.out.size
        rcases hz with hz | hz
        · have := (HH.out.sl _ hz).1; omega
        · have := HH.out.xl _ hz; omega))
      have HG1 := Lib.hid g1
      have HF4 := Lib.hid ((HF3.out.below hb4).mono (Nat.le_refl m))
      clear g1 g3 g4 ho hb4 HBAD HRd HS3
      go_upto_region 11 with fail
      refine wp_fresh ?_
      rintro w5 hb5
      have k5 : Mod (· = c) w4 w5 := Mod.below ((Mod.refl (· = c) w4).set (.inl rfl)) hb5
      have B4 := HB4.out
      have B5 : Blk w5 c _ := Blk.below (by repeat (with_reducible (first | assumption | (apply Blk.at; simp; done) | apply Blk.alloc | apply Blk.drew | apply Blk.drewN | apply Blk.more | apply Blk.put | (apply Blk.far; focus (first | assumption | (apply Ne.symm; assumption) | (simp; done) | (simp <;> omega)))))) hb5
      clear B4
      try simp only [List.setIfInBounds_toArray, List.set_cons_zero, List.set_cons_succ] at B5
      have HF5 := Lib.hid (HF4.out.mod k5 (fun e => HH.out.ne e.symm))
      have HC5 : Hid (Mod (· = c) w w5) := Lib.hid (HC4.out.trans k5)
      have HV5 : Hid (VM (fun x => S x ∨ X x) w5 b m s.V n) := Lib.hid (HH.out.vm.mod HC5.out (fun x e => .inl (e ▸ HH.out.sc)) (fun x h => .inl h) (fun e => HH.out.ne e.symm))
      have HRO5 : Hid (RdZ (fun x => S x ∨ X x) w5 A' o) := Lib.hid (HRO.out.mod k5 (fun x e => .inl (e ▸ HH.out.sc)) (fun x h => .inl h))
      have hst : keyOf Try.prog 3 (.int .i64 p.st) = some (.int .i64 p.st) := int_key _ (intKey_wf (by omega) (by have := HP.out.1.2.1; omega))
      have HKS := Lib.hid hst
      have HMX : Hid (m < maxLen) := Lib.hid (lt_maxLen (by omega))
      have HB5 := Lib.hid B5
      clear hb5 k5 zc cc fc HV4 HRO HF4 HM4 HC4 HB4 hst
      obtain ⟨zc, cc, fc⟩ := id B5
      clear B5
      go_upto_region 12 with (at_mapUpdate; refine at_update rfl (.tmp 54) (.tmp 55) (.tmp 56) rfl (int_keyed Try.underlying3) Try.underlying91 rfl HF5.out HMX.out (.int .i64 p.st) (.slice A' o.length c') (.int .i64 p.st) rfl rfl HKS.out trivial ?_; intro w6 hm6 hd6; have HM6 := Lib.hid hm6; have HD6 := Lib.hid hd6; clear hm6 hd6)
      obtain ⟨G, hG⟩ : ∃ G, G = putF F (.int .i64 p.st) (.slice A' o.length c') := ⟨_, rfl⟩
      obtain ⟨n6, hn6⟩ : ∃ n6, n6 = if (F (.int .i64 p.st)).isSome then n else n + 1 := ⟨_, rfl⟩
      have hm6 : MapV Try.prog 3 w6 b (m + 1) G n6 := by rw [hG, hn6]; exact HM6.out
      have HG := Lib.hid hG
      have hB6 := HB5.out.mod HD6.out HH.out.ne
      have HB6 := Lib.hid hB6
      have HM6' := Lib.hid hm6
      have hst1 := HP.out.1.1
      have hst2 := HP.out.1.2.1
      clear hG hn6 hm6 HM6 zc cc fc
      obtain ⟨zc, cc, fc⟩ := id hB6
      clear hB6
      go_wp2_with (first | (at_range; refine at_rangeV rfl (.tmp 60) rfl (int_keyed Try.underlying3) Try.underlying91 rfl HM6'.out ?_; intro w7 hr7 hd7 hs7; have HR7 := Lib.hid hr7; have HD7 := Lib.hid hd7; clear hr7 hd7 hs7))
      go_frame
      clear zc cc fc
      go_loopw [] (fun wr => ∃ (F' : Lit → Option Value) (n' : Nat) (L : Int → Bool) (cnt : Nat), RangeV Try.prog 3 wr b w6.heap.size (m + 1) F' n' L cnt ∧ (∀ x : Int, L x = true → F' (.int .i64 x) = G (.int .i64 x)) ∧ (∀ x : Int, L x = false → F' (.int .i64 x) = if 0 < x ∧ x ≤ (p.st : Int) - 32 then none else G (.int .i64 x)) ∧ Mod (fun x => x = b ∨ x = w6.heap.size) w6 wr) (fun wr => wr.rangeLeft b w6.heap.size)
      case atStart =>
        refine ⟨G, n6, _, n6, HR7.out, fun _ _ => rfl, fun x hx => ?_, HD7.out.mono (fun x _ h => h.elim)⟩
        have : G (.int .i64 x) = none := by simpa using hx
        rw [this]
        split <;> rfl
      case round =>
        obtain ⟨F', n', L, cnt, hrg, hy, hn, hmd⟩ := hrel
        have HY := Lib.hid hy
        have HN := Lib.hid hn
        have HRG := Lib.hid hrg
        have HMD := Lib.hid hmd
        have hB7 := HB6.out.mod hmd (fun h => h.elim HH.out.ne (fun e => by have := HB6.out.lt; omega))
        obtain ⟨zc, cc, fc⟩ := id hB7
        have HB7 := Lib.hid hB7
        clear hy hn hrg hmd hB7
        go_wp2_with (at_next; refine at_nextV rfl (.tmp 61) rfl (int_keyed Try.underlying3) Try.underlying3 rfl HRG.out ?_ ?_)
        · intro hL
          have HLF := Lib.hid hL
          clear hL
          go_wp2
          have hM5 : Mod S w5 wr := (HD6.out.mono (fun x _ e => e ▸ HH.out.sb)).trans2 HMD.out (fun x hx e => e.elim (fun e => e ▸ HH.out.sb) (fun e => by have := HD6.out.size; omega))
          have hMS : Mod S w wr := (HC5.out.mono (fun x _ e => e ▸ HH.out.sc)).trans hM5
          go_ret
          rw [HW.out]
          refine ⟨rfl, ⟨n', _, _, HH.out.empty (s' := ⟨newV s.V p.st o, p.st, []⟩) hMS HB7.out rfl ⟨F', HRG.out.map, fun k => ?_⟩⟩, hMS⟩
          rw [HN.out k (HLF.out k)]
          simp only [newV]
          by_cases e1 : k = (p.st : Int)
          · subst e1
            rw [if_pos rfl, if_neg (by omega), HG.out]
            simp only [putF, if_true]
            exact ⟨A', c', rfl, HG1.out, g2, HRO5.out.mod hM5 (fun x e => .inl e) (fun x h => .inl h)⟩
          · rw [if_neg e1]
            by_cases e2 : 0 < k ∧ k ≤ (p.st : Int) - 32
            · rw [if_pos e2, if_pos e2]
              trivial
            · rw [if_neg e2, if_neg e2, HG.out]
              have : putF F (.int .i64 p.st) (.slice A' o.length c') (.int .i64 k) = F (.int .i64 k) := by
                simp only [putF]
                rw [if_neg (fun h => by cases h; exact e1 rfl)]
              rw [this]
              exact (HFV.out k).mod hMS (fun x e => .inl e) (fun x h => .inl h)
        · intro x cv w8 cnt8 hwf hLx hFx hrg8 hlt hd8 hs8 hen
          have HRG8 := Lib.hid hrg8
          have HD8 := Lib.hid hd8
          have HLX := Lib.hid hLx
          have HWF := Lib.hid hwf
          have HB8 := Lib.hid (HB7.out.mod hd8 (fun e => by have := HB6.out.lt; omega))
          have HLT := Lib.hid hlt
          clear hrg8 hd8 hLx hFx hwf hlt hs8 zc cc fc
          by_cases hx1 : 0 < x
          · have dx1 : decide (0 < x) = true := decide_eq_true hx1
            by_cases hx2 : x ≤ (p.st : Int) - 32
            · have dx2 : decide (x ≤ (p.st : Int) - 32) = true := decide_eq_true hx2
              have hB8 := HB8.out
              obtain ⟨zc, cc, fc⟩ := id hB8
              clear hB8
              go_wp2_with (first | (at_delete; refine at_deleteV rfl (.tmp 77) (.tmp 78) rfl (int_keyed Try.underlying3) Try.underlying3 Try.underlying91 rfl HRG8.out x HWF.out rfl ?_; intro w9 cnt9 hrg9 hle9 hd9; have HRG9 := Lib.hid hrg9; have HLE9 := Lib.hid hle9; have HD9 := Lib.hid hd9; clear hrg9 hle9 hd9))
              clear zc cc fc
              go_roundw
              case rel =>
                (repeat apply Exists.intro)
                refine ⟨⟨_, _, _, cnt9, HRG9.out, fun z hz => ?_, fun z hz => ?_, ((HMD.out.trans (HD8.out.mono fun _ _ e => .inr e)).trans (HD9.out.mono fun _ _ e => .inl e))⟩, rfl⟩
                · simp only [Bool.and_eq_true, Bool.not_eq_true', decide_eq_false_iff_not] at hz
                  rw [delF, if_neg (fun e => by cases e; exact hz.2 rfl)]
                  exact HY.out z hz.1.1
                · by_cases e : z = x
                  · subst e
                    rw [delF, if_pos rfl, if_pos ⟨hx1, hx2⟩]
                  · rw [delF, if_neg (fun h => by cases h; exact e rfl)]
                    refine HN.out z ?_
                    simpa [e] using hz
              case measure =>
                rw [HRG9.out.left, HRG.out.left]
                have := HLT.out
                have := HLE9.out
                omega
            · have dx2 : decide (x ≤ (p.st : Int) - 32) = false := decide_eq_false hx2
              go_wp2
              go_roundw
              case rel =>
                refine ⟨F', n', _, cnt8, HRG8.out, fun z hz => ?_, fun z hz => ?_, HMD.out.trans (HD8.out.mono fun _ _ e => .inr e)⟩
                · simp only [Bool.and_eq_true] at hz
                  exact HY.out z hz.1
                · by_cases e : z = x
                  · subst e
                    rw [if_neg (fun h => hx2 h.2)]
                    exact HY.out z HLX.out
                  · refine HN.out z ?_
                    simpa [e] using hz
              case measure =>
                rw [HRG8.out.left, HRG.out.left]
                exact HLT.out
          · have dx1 : decide (0 < x) = false := decide_eq_false hx1
            go_wp2
            go_roundw
            case rel =>
              refine ⟨F', n', _, cnt8, HRG8.out, fun z hz => ?_, fun z hz => ?_, HMD.out.trans (HD8.out.mono fun _ _ e => .inr e)⟩
              · simp only [Bool.and_eq_true] at hz
                exact HY.out z hz.1
              · by_cases e : z = x
                · subst e
                  rw [if_neg (fun h => hx1 h.1)]
                  exact HY.out z HLX.out
                · refine HN.out z ?_
                  simpa [e] using hz
            case measure =>
              rw [HRG8.out.left, HRG.out.left]
              exact HLT.out
end Go.Proofs.Ytefhmbmbhiehdaa
