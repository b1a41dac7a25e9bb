/- The contract of (*gyreref.Client).Feed. Conditions: none but that there is not too much. -/
import Derived.Laws.MakeOwn
import Derived.WalkSpells
import Derived.Test.YtefhmbmbhiehdaaKCliF
import Derived.Test.YtefhmbmbhiehdaaKClF
import Derived.Test.YtefhmbmbhiehdaaKApply4
namespace Go.Proofs.Ytefhmbmbhiehdaa
open Go.ChangeShapes Go.WideShapes Go.ChangeAt Go.RowKit Go.BigFrame Go.Maps
open B
section
variable {T Y : Nat → Prop} {w w' : World} {r m b n B0 gc : Nat} {GA : Option Addr} {s : AS} {G : List (Pce × Value)}
theorem RC.zeroR (h : RC w r m B0 s T Y b n GA gc G) : RC w r m 0 s T Y b n GA gc G := ⟨h.blk, h.vm, row_zero h.own, h.gt, h.vals, h.gown, h.tr, h.tb, h.ne, h.tl, h.yl⟩
theorem RC.ownT (h : RC w r m B0 s T Y b n GA gc G) {x k : Nat} (e : (Value.slice GA k gc).ownBlock = some x) : T x := by
  cases hG : GA with
  | none => rw [hG] at e; cases e
  | some a =>
    rw [hG] at e
    have e' : a.block = x := Option.some.inj e
    exact e' ▸ (h.gown a hG).1
theorem RC.ownR (h : RC w r m B0 s T Y b n GA gc G) {k : Nat} (e : (Value.slice GA k gc).ownBlock = some r) : False := by
  cases hG : GA with
  | none => rw [hG] at e; cases e
  | some a =>
    rw [hG] at e
    have e' : a.block = r := Option.some.inj e
    exact (h.gown a hG).2.1 e'
end
theorem gotInfo : (Try.prog.info? 45).map (fun i => (i.zero, i.size, i.bytes)) = some (some (.agg #[.int .i64 0, .int .i64 0, .int .i64 0, .int .i64 0, .slice none 0 0]), 5, 56) := by kernel_rfl
/-- append(c.Got, p), in a region that draws -/
theorem step_piece {ops : Array Oper} {o : Oper} {a : Act} {w : World} {K : Act → World → Prop} {Q : Exit → Act → World → Prop} {E : Prop} (hg : o.guard = none) (s x : Operand) (ho : o.op = .call { callee := .builtin .append, args := #[s, x], argTypes := #[35, 35] })
    (v : Value) (G : List (Pce × Value)) (hs : a.eval s = v) (hown : w.ownsRow 0 45 5 v G.length (rowsP G)) (y : Pce × Value) (q : Nat) (hx : a.eval x = .slice (some ⟨q, 0, none⟩) 1 1) (hq : Blk w q (pceL y).toArray) (h1 : y.2.oneCell' = true) (hn : G.length < 1000000)
    (hK : ∀ g c w', w'.ownsRow 0 45 5 (.slice (some ⟨g, 0, none⟩) (G.length + 1) c) (G.length + 1) (rowsP (G ++ [y])) → Mod (fun b => v.ownBlock = some b) w w' → (v.ownBlock = some g ∨ w.heap.size ≤ g) → g < w'.heap.size → K (a.put o.dst (.slice (some ⟨g, 0, none⟩) (G.length + 1) c)) w') :
    if Region.wanted o (yielded ops a.tmps) = true then Oper.wp Try.prog o a w K Q else E := by
  obtain ⟨i, hi, hz, hsize, hbytes⟩ := info_three gotInfo
  refine step_append_own hg s x 35 ho 0 45 i _ 5 56 Try.underlying35 hi hz hsize hbytes rfl (by decide) v G.length (rowsP G) hs hown ⟨q, 0, none⟩ 1 1 (pceL y) hx rfl ?_ ?_ (by unfold maxLen; omega) (by omega) (Nat.zero_le _) ?_
  · intro j u hu
    rw [add_plainC, Nat.zero_add, hq.cell j]
    simpa using hu
  · intro u hu
    simp only [pceL, List.mem_cons, List.mem_nil_iff, or_false] at hu
    rcases hu with rfl | rfl | rfl | rfl | rfl
    · rfl
    · rfl
    · rfl
    · rfl
    · exact h1
  · intro v' w' hrow hgr _ hwh
    obtain ⟨g, c, rfl, _, hgl, _⟩ := row_at hrow (by omega)
    refine hK g c w' (by rw [rowsP_app]; exact hrow) ((mod_grown hgr).mono fun _ _ h => h) ?_ hgl
    rcases hwh with hw | hw
    · left; rw [← hw]; rfl
    · right
      have : g = w.heap.size := by simpa [Value.ownBlock] using hw
      omega
theorem zero_viewR (w : World) : (zeroValue 32).run Try.prog w = .ok (.slice none 0 0) w := by kernel_rfl
/-- an entry of a map literal, in a region that draws -/
theorem step_insert {P : Program} {KT E' T : TypeId} {w : World} {b m n : Nat} {F : Lit → Option Value} {ops : Array Oper} {o : Oper} {a : Act} {K : Act → World → Prop} {Q : Exit → Act → World → Prop} {E : Prop} (hg : o.guard = none) (mm x v : Operand) (hop : o.op = Op.insert T mm x v) (LK : Keyed P KT) (ht : P.underlying T = some (.map KT E'))
    (hm : a.eval mm = .map (some b)) (hown : MapV P KT w b m F n) (hmx : m < maxLen) (key val : Value) (kl : Lit) (hx : a.eval x = key) (hv : a.eval v = val) (hkey : keyOf P KT key = some kl) (hkl : WideAt.IsKeyLit kl)
    (hK : ∀ w', MapV P KT w' b (m + 1) (putF F kl val) (if (F kl).isSome then n else n + 1) → Mod (· = b) w w' → K (a.put o.dst undef) w') : if Region.wanted o (yielded ops a.tmps) = true then Oper.wp P o a w K Q else E := by
  have hw : Region.wanted o (yielded ops a.tmps) = true := by simp [Region.wanted, hg]
  rw [if_pos hw]
  obtain ⟨D, hown, hT, hf⟩ := hown
  obtain ⟨w', hrun, r1, r2⟩ := hown.update LK ht hmx hkey (val := val) (d := .held val) (ps := []) rfl
  unfold Oper.wp
  simp [execOp, hop, hm, hx, hv, hrun, Result.andThen]
  exact hK w' ⟨_, r1, hT.put hkl _, hf.put hT hkl val⟩ ((mod_grownBy r2).mono fun b' _ e => (Option.some.inj e).symm)
theorem innr_len {G : List (Pce × Value)} {i k : Nat} {l : List Pce} (h : l.Pairwise (fun p q => p.ix ≠ q.ix)) (e : G.map (·.1) = l) (hp : ∀ i, ((pieceAt l i).getD []).length ≤ 100) : (innr G i k).length ≤ 100 := by
  subst e
  have h1 := hp i
  rw [← innr_flat h] at h1
  have h2 : (G.flatMap fun x => if x.1.ix = i then x.1.l else []) = innr G i k ++ (G.drop k).flatMap fun x => if x.1.ix = i then x.1.l else [] := by
    unfold innr
    rw [← List.flatMap_append, List.take_append_drop]
  rw [h2, List.length_append] at h1
  omega
def RFeedPost (w : World) (r m : Nat) (T Y : Nat → Prop) (l : List Nat) (s : AS) (e : Ending) (w' : World) : Prop := ∃ res : Bool × AS, FeedTo l s res ∧ e = .returned (.bool res.1) ∧ (∃ T' b' n' GA' gc' G', RC w' r (m + 3) 0 res.2 T' Y b' n' GA' gc' G' ∧ ∀ x, T' x → T x ∨ w.heap.size ≤ x) ∧ Mod T w w'
theorem RFeedPost.mk {w w' : World} {r m : Nat} {T Y : Nat → Prop} {l : List Nat} {s : AS} {e : Ending} (h : ∃ res : Bool × AS, FeedTo l s res ∧ e = .returned (.bool res.1) ∧ (∃ T' b' n' GA' gc' G', RC w' r (m + 3) 0 res.2 T' Y b' n' GA' gc' G' ∧ ∀ x, T' x → T x ∨ w.heap.size ≤ x) ∧ Mod T w w') : RFeedPost w r m T Y l s e w' := h
set_option maxRecDepth 100000 in
set_option maxHeartbeats 16000000 in
theorem rfeed_c (w : World) (r m B0 b n gc : Nat) (s : AS) (T Y : Nat → Prop) (GA : Option Addr) (G : List (Pce × Value)) (h : RC w r m B0 s T Y b n GA gc G) (hs : s.ok) (hm : m ≤ 900) (v : Value) (l : List Nat) (hS : Src w v l) (h8 : ∀ b ∈ l, b < 256) (hl : l.length ≤ 100000) :
    Calls Try.prog 12 #[.pointer (some ⟨r, 0, none⟩), v] w (RFeedPost w r m T Y l s) := by
  have HH := Lib.hid h.zeroR
  have HOK := Lib.hid hs
  have hb := HH.out.blk
  have HB0 := Lib.hid hb
  clear h hs hb
  go_enter Try.func12, Try.ntmps12
  go_wp2_with fail
  refine (rtold_p v l _ hS h8 hl).mono ?_
  rintro e w1 ⟨h, hb1⟩
  have HW1 := Lib.hid hb1
  clear hS h8 hl hb1
  rcases h with ⟨p, A, cp, hT, rfl, hSp, hSn⟩ | ⟨hN, rfl⟩
  rotate_left
  · have HN := Lib.hid hN
    clear hN
    go_upto_region 2 with fail
    refine wp_fresh ?_
    rintro w2 hb2
    have hv2 : Below w1.heap.size w1 w2 := (by repeat (with_reducible (first | exact Below.refl _ _ | assumption | apply ext_drew | apply ext_drewN | apply ext_alloc | apply ext_more | (refine ext_setCell ?_ (by first | assumption | (simp <;> omega)) _) | (refine ext_below ?_ (by assumption)))))
    have HW2 : Hid (Below w.heap.size w w2) := Lib.hid (HW1.out.trans (hv2.mono HW1.out.size))
    clear hb2 hv2
    go_wp2_with fail
    refine region_quiet_all (by kernel_rfl) (by kernel_rfl) ?_
    repeat (go_big_quiet_step (fail))
    refine wpQuiet_nil ?_
    rintro w3 hw3
    have HW3 : Hid (Below w.heap.size w w3) := Lib.hid (HW2.out.trans ((after_below hw3).mono HW2.out.size))
    clear hw3
    go_wp2
    go_ret
    exact RFeedPost.mk ⟨(false, s), .inl ⟨HN.out, rfl⟩, rfl, ⟨T, b, n, GA, gc, G, (HH.out.belowR HW3.out).moreR (by omega), fun x hx => .inl hx⟩, Mod.of_below HW3.out⟩
  have HT := Lib.hid hT
  have HOP := Lib.hid (toldP_ok hT)
  have hst1 := (toldP_ok hT).1.1
  have hst2 := (toldP_ok hT).1.2.1
  have HA1 := Lib.hid hSp
  have hb1 := HB0.out.below HW1.out
  have HSN := Lib.hid hSn
  clear hT hSp hSn
  go_upto_region 2 with fail
  refine wp_fresh ?_
  rintro w2 hb2
  have HP2 : Hid (Blk w2 w1.heap.size #[.int .i64 p.st, .int .i64 p.ba, .int .i64 p.ix, .int .i64 p.ma, .slice A p.l.length cp]) := Lib.hid (Blk.below (by repeat (with_reducible (first | assumption | (apply Blk.at; simp; done) | apply Blk.alloc | apply Blk.drew | apply Blk.drewN | apply Blk.more | apply Blk.put | (apply Blk.far; focus (first | assumption | (apply Ne.symm; assumption) | (simp; done) | (simp <;> omega)))))) hb2)
  have hv2 : Below w1.heap.size w1 w2 := (by repeat (with_reducible (first | exact Below.refl _ _ | assumption | apply ext_drew | apply ext_drewN | apply ext_alloc | apply ext_more | (refine ext_setCell ?_ (by first | assumption | (simp <;> omega)) _) | (refine ext_below ?_ (by assumption)))))
  have HB2 := Lib.hid (hb1.below hv2)
  have HW2 : Hid (Below w.heap.size w w2) := Lib.hid (HW1.out.trans (hv2.mono HW1.out.size))
  have HA2 := Lib.hid (HA1.out.below hv2)
  obtain ⟨d, hd⟩ : ∃ d, d = w1.heap.size := ⟨_, rfl⟩
  rw [← hd] at HP2
  rw [← hd]
  have HDW : Hid (w.heap.size ≤ d) := Lib.hid (by rw [hd]; exact HW1.out.size)
  clear hd hb2 hv2 hb1 HA1
  have p_ := HP2.out
  have b_ := HB2.out
  obtain ⟨zd, cd, fd⟩ := id p_
  obtain ⟨zc, cc, fc⟩ := id b_
  clear p_ b_
  have hmc := more_cell
  by_cases h1 : p.st ≤ s.newest
  · have d1 : decide (p.st ≤ s.newest) = true := decide_eq_true h1
    have HF : Hid (s.feed p = (false, s)) := Lib.hid (by unfold AS.feed; rw [if_pos (.inl h1)])
    clear h1
    go_wp2_with fail
    refine region_quiet_all (by kernel_rfl) (by kernel_rfl) ?_
    repeat (go_big_quiet_step (fail))
    refine wpQuiet_nil ?_
    rintro w3 hw3
    have hb3 := after_below hw3
    clear hw3
    have HP3 := Lib.hid (HP2.out.below hb3)
    have HB3 := Lib.hid (HB2.out.below hb3)
    have HW3 : Hid (Below w.heap.size w w3) := Lib.hid (HW2.out.trans (hb3.mono HW2.out.size))
    have HA3 := Lib.hid (HA2.out.below hb3)
    clear hb3 zd cd fd zc cc fc HP2 HB2 HW2 HA2
    have p_ := HP3.out
    have b_ := HB3.out
    obtain ⟨zd, cd, fd⟩ := id p_
    obtain ⟨zc, cc, fc⟩ := id b_
    clear p_ b_
    go_wp2
    go_ret
    exact RFeedPost.mk ⟨(false, s), .inr ⟨p, HT.out, HF.out.symm⟩, rfl, ⟨T, b, n, GA, gc, G, (HH.out.belowR HW3.out).moreR (by omega), fun x hx => .inl hx⟩, Mod.of_below HW3.out⟩
  have d1 : decide (p.st ≤ s.newest) = false := decide_eq_false h1
  go_wp2_with fail
  refine region_quiet_all (by kernel_rfl) (by kernel_rfl) ?_
  repeat (go_big_quiet_step (fail))
  refine wpQuiet_nil ?_
  rintro w3 hw3
  have hb3 := after_below hw3
  clear hw3
  have HP3 := Lib.hid (HP2.out.below hb3)
  have HB3 := Lib.hid (HB2.out.below hb3)
  have HW3 : Hid (Below w.heap.size w w3) := Lib.hid (HW2.out.trans (hb3.mono HW2.out.size))
  have HA3 := Lib.hid (HA2.out.below hb3)
  clear hb3 zd cd fd zc cc fc HP2 HB2 HW2 HA2
  have p_ := HP3.out
  have b_ := HB3.out
  obtain ⟨zd, cd, fd⟩ := id p_
  obtain ⟨zc, cc, fc⟩ := id b_
  clear p_ b_
  go_upto_region 4 with fail
  go_cut [52] (fun c wx => ∃ bb : Bool, c = .bool bb ∧ (s.got.any fun q => decide (p.st < q.st)) = bb ∧ Below w3.heap.size w3 wx)
  case first =>
    by_cases h0 : G.length = 0
    · have d0 : decide ((0 : Int) < (G.length : Int)) = false := decide_eq_false (by omega)
      have d0' : decide (0 < G.length) = false := decide_eq_false (by omega)
      have HAN : Hid ((s.got.any fun q => decide (p.st < q.st)) = false) := Lib.hid (by rw [← HH.out.gt, List.length_eq_zero_iff.1 h0]; rfl)
      clear h0
      refine region_quiet_all (by kernel_rfl) (by kernel_rfl) ?_
      repeat (go_big_quiet_step (fail))
      refine wpQuiet_nil ?_
      rintro w4 hw4
      have hb4 := after_below hw4
      clear hw4
      go_wp2
      go_meet
      exact ⟨false, rfl, HAN.out, hb4⟩
    · have d0 : decide ((0 : Int) < (G.length : Int)) = true := decide_eq_true (by omega)
      have d0' : decide (0 < G.length) = true := decide_eq_true (by omega)
      have hpos : 0 < G.length := by omega
      obtain ⟨x0, hx0⟩ : ∃ x, G[0]? = some x := ⟨_, List.getElem?_eq_getElem hpos⟩
      obtain ⟨g, o, hGA, hgl, hcs⟩ := ((pcsAt HH.out.own).below HW3.out) hpos
      have q0 := hcs 0 x0 hx0 0 _ rfl
      rw [show o + (0 * 5 + 0) = o from by omega] at q0
      rw [hGA] at cc
      have HAN : Hid ((s.got.any fun q => decide (p.st < q.st)) = decide (p.st < x0.1.st)) := Lib.hid (any_lt HOK.out (by rw [← HH.out.gt]; exact List.mem_map.2 ⟨x0, List.mem_of_getElem? hx0, rfl⟩))
      clear h0 hcs hx0 hGA
      by_cases h2 : p.st < x0.1.st
      · have d2 : decide (p.st < x0.1.st) = true := decide_eq_true h2
        have HAT : Hid ((s.got.any fun q => decide (p.st < q.st)) = true) := Lib.hid (HAN.out.trans d2)
        clear h2
        refine region_quiet_all (by kernel_rfl) (by kernel_rfl) ?_
        repeat (go_big_quiet_step (fail))
        refine wpQuiet_nil ?_
        rintro w4 hw4
        have hb4 := after_below hw4
        clear hw4
        go_wp2
        go_meet
        exact ⟨true, rfl, HAT.out, hb4⟩
      · have d2 : decide (p.st < x0.1.st) = false := decide_eq_false h2
        have HAT : Hid ((s.got.any fun q => decide (p.st < q.st)) = false) := Lib.hid (HAN.out.trans d2)
        clear h2
        refine region_quiet_all (by kernel_rfl) (by kernel_rfl) ?_
        repeat (go_big_quiet_step (fail))
        refine wpQuiet_nil ?_
        rintro w4 hw4
        have hb4 := after_below hw4
        clear hw4
        go_wp2
        go_meet
        exact ⟨false, rfl, HAT.out, hb4⟩
  obtain ⟨bb, rfl, hbb, hb4⟩ := hcut
  obtain ⟨w4, hw4⟩ : ∃ w4, w4 = wc := ⟨_, rfl⟩
  rw [← hw4] at hb4
  rw [← hw4]
  clear hw4
  have HP4 := Lib.hid (HP3.out.below hb4)
  have HB4 := Lib.hid (HB3.out.below hb4)
  have HW4 : Hid (Below w.heap.size w w4) := Lib.hid (HW3.out.trans (hb4.mono HW3.out.size))
  have HA4 := Lib.hid (HA3.out.below hb4)
  clear hb4 zd cd fd zc cc fc HP3 HB3 HW3 HA3
  have p_ := HP4.out
  have b_ := HB4.out
  obtain ⟨zd, cd, fd⟩ := id p_
  obtain ⟨zc, cc, fc⟩ := id b_
  clear p_ b_
  cases bb with
  | true =>
    have HF : Hid (s.feed p = (false, s)) := Lib.hid (by unfold AS.feed; rw [if_pos (.inr hbb)])
    clear hbb
    go_wp2
    go_ret
    exact RFeedPost.mk ⟨(false, s), .inr ⟨p, HT.out, HF.out.symm⟩, rfl, ⟨T, b, n, GA, gc, G, (HH.out.belowR HW4.out).moreR (by omega), fun x hx => .inl hx⟩, Mod.of_below HW4.out⟩
  | false =>
    have HN1 : Hid (¬ (p.st ≤ s.newest ∨ (s.got.any fun q => decide (p.st < q.st)) = true)) := Lib.hid (by rw [hbb]; simp; omega)
    clear hbb
    go_upto_region 6 with fail
    go_cut [70] (fun c wx => ∃ bb : Bool, c = .bool bb ∧ (s.got.any fun q => decide (q.st < p.st)) = bb ∧ Below w4.heap.size w4 wx)
    case first =>
      by_cases h0 : G.length = 0
      · have d0 : decide ((0 : Int) < (G.length : Int)) = false := decide_eq_false (by omega)
        have d0' : decide (0 < G.length) = false := decide_eq_false (by omega)
        have HAN : Hid ((s.got.any fun q => decide (q.st < p.st)) = false) := Lib.hid (by rw [← HH.out.gt, List.length_eq_zero_iff.1 h0]; rfl)
        clear h0
        refine region_quiet_all (by kernel_rfl) (by kernel_rfl) ?_
        repeat (go_big_quiet_step (fail))
        refine wpQuiet_nil ?_
        rintro w5 hw5
        have hb5 := after_below hw5
        clear hw5
        go_wp2
        go_meet
        exact ⟨false, rfl, HAN.out, hb5⟩
      · have d0 : decide ((0 : Int) < (G.length : Int)) = true := decide_eq_true (by omega)
        have d0' : decide (0 < G.length) = true := decide_eq_true (by omega)
        have hpos : 0 < G.length := by omega
        obtain ⟨x0, hx0⟩ : ∃ x, G[0]? = some x := ⟨_, List.getElem?_eq_getElem hpos⟩
        obtain ⟨g, o, hGA, hgl, hcs⟩ := ((pcsAt HH.out.own).below HW4.out) hpos
        have q0 := hcs 0 x0 hx0 0 _ rfl
        rw [show o + (0 * 5 + 0) = o from by omega] at q0
        rw [hGA] at cc
        have HAN : Hid ((s.got.any fun q => decide (q.st < p.st)) = decide (x0.1.st < p.st)) := Lib.hid (any_gt HOK.out (by rw [← HH.out.gt]; exact List.mem_map.2 ⟨x0, List.mem_of_getElem? hx0, rfl⟩))
        clear h0 hcs hx0 hGA
        by_cases h2 : x0.1.st < p.st
        · have d2 : decide (x0.1.st < p.st) = true := decide_eq_true h2
          have HAT : Hid ((s.got.any fun q => decide (q.st < p.st)) = true) := Lib.hid (HAN.out.trans d2)
          clear h2
          refine region_quiet_all (by kernel_rfl) (by kernel_rfl) ?_
          repeat (go_big_quiet_step (fail))
          refine wpQuiet_nil ?_
          rintro w5 hw5
          have hb5 := after_below hw5
          clear hw5
          go_wp2
          go_meet
          exact ⟨true, rfl, HAT.out, hb5⟩
        · have d2 : decide (x0.1.st < p.st) = false := decide_eq_false h2
          have HAT : Hid ((s.got.any fun q => decide (q.st < p.st)) = false) := Lib.hid (HAN.out.trans d2)
          clear h2
          refine region_quiet_all (by kernel_rfl) (by kernel_rfl) ?_
          repeat (go_big_quiet_step (fail))
          refine wpQuiet_nil ?_
          rintro w5 hw5
          have hb5 := after_below hw5
          clear hw5
          go_wp2
          go_meet
          exact ⟨false, rfl, HAT.out, hb5⟩
    obtain ⟨bb, rfl, hbb, hb5⟩ := hcut
    obtain ⟨w5, hw5⟩ : ∃ w5, w5 = wc := ⟨_, rfl⟩
    rw [← hw5] at hb5
    rw [← hw5]
    clear hw5
    have HP5 := Lib.hid (HP4.out.below hb5)
    have HB5 := Lib.hid (HB4.out.below hb5)
    have HW5 : Hid (Below w.heap.size w w5) := Lib.hid (HW4.out.trans (hb5.mono HW4.out.size))
    have HA5 := Lib.hid (HA4.out.below hb5)
    clear hb5 zd cd fd zc cc fc HP4 HB4 HW4 HA4
    have p_ := HP5.out
    have b_ := HB5.out
    obtain ⟨zd, cd, fd⟩ := id p_
    obtain ⟨zc, cc, fc⟩ := id b_
    clear p_ b_
    have HKE : Hid (kept s.got p = if bb = true then [] else s.got) := Lib.hid (by rw [kept_as, hbb])
    clear hbb
    go_upto_if 70 with fail
    go_cut [] (fun wx => ∃ (GA' : Option Addr) (gc' : Nat) (G' : List (Pce × Value)), RC wx r m 0 { s with got := kept s.got p } T Y b n GA' gc' G' ∧ Blk wx d #[.int .i64 p.st, .int .i64 p.ba, .int .i64 p.ix, .int .i64 p.ma, .slice A p.l.length cp] ∧ Src wx (.slice A p.l.length cp) p.l ∧ Mod (· = r) w wx)
    case first =>
      have B5 := HB5.out
      have P5 := HP5.out
      have hrd : r ≠ d := by have := HDW.out; have := HH.out.blk.lt; omega
      cases bb with
      | true =>
        have HK2 : Hid (kept s.got p = []) := Lib.hid (HKE.out.trans (if_pos rfl))
        go_wp2
        go_meet
        refine ⟨none, 0, [], ?_, (by repeat (with_reducible (first | assumption | (apply Blk.at; simp; done) | apply Blk.alloc | apply Blk.drew | apply Blk.drewN | apply Blk.more | apply Blk.put | (apply Blk.far; focus (first | assumption | (apply Ne.symm; assumption) | (simp; done) | (simp <;> omega)))))), ?_, (Mod.of_below HW5.out).trans (by repeat (with_reducible (first | exact Mod.refl _ _ | apply Mod.alloc | apply Mod.drew | apply Mod.drewN | apply Mod.more | (refine Mod.set ?_ (.inl rfl)))))⟩
        · rw [HK2.out]
          refine (HH.out.belowR HW5.out).empty (by repeat (with_reducible (first | exact Mod.refl _ _ | apply Mod.alloc | apply Mod.drew | apply Mod.drewN | apply Mod.more | (refine Mod.set ?_ (.inl rfl))))) ?_
          refine Blk.as (cs := _) (by repeat (with_reducible (first | assumption | (apply Blk.at; simp; done) | apply Blk.alloc | apply Blk.drew | apply Blk.drewN | apply Blk.more | apply Blk.put | (apply Blk.far; focus (first | assumption | (apply Ne.symm; assumption) | (simp; done) | (simp <;> omega)))))) ?_
          simp only [List.setIfInBounds_toArray, List.set_cons_zero, List.set_cons_succ]
        · refine (RbZ.mod (Z := fun x => x = r) (Z' := fun x => x = r) (RbZ.of HA5.out (fun _ x n' c' e hz => by cases e; have := HSN.out _ rfl; have := HH.out.blk.lt; omega)) (S := fun x => x = r) (by repeat (with_reducible (first | exact Mod.refl _ _ | apply Mod.alloc | apply Mod.drew | apply Mod.drewN | apply Mod.more | (refine Mod.set ?_ (.inl rfl))))) (fun x e => e) (fun x h => .inl h)).1
      | false =>
        have HK2 : Hid (kept s.got p = s.got) := Lib.hid (HKE.out.trans (if_neg (by simp)))
        go_wp2
        go_meet
        refine ⟨GA, gc, G, ?_, P5, HA5.out, Mod.of_below HW5.out⟩
        rw [HK2.out]
        exact HH.out.belowR HW5.out
    obtain ⟨GA', gc', G', hR, hD, hA, hM⟩ := hcut
    obtain ⟨w6, hw6⟩ : ∃ w6, w6 = wc := ⟨_, rfl⟩
    rw [← hw6] at hR hD hA hM
    rw [← hw6]
    obtain ⟨g, hg⟩ : ∃ g, g = kept s.got p := ⟨_, rfl⟩
    rw [← hg] at hR
    have HG := Lib.hid hg
    have HR6 := Lib.hid hR
    have HD6 := Lib.hid hD
    have HA6 := Lib.hid hA
    have HM6 := Lib.hid hM
    have HN6 : Hid (w.heap.size ≤ w6.heap.size) := Lib.hid hM.size
    have HRB6 := Lib.hid (hR.blk)
    have HGL : Hid (G'.length ≤ 40) := Lib.hid (by
      have h1 := kept_len HOK.out p
      rw [← HG.out] at h1
      have h2 := HR6.out.gt
      simp only at h2
      rw [← h2, List.length_map] at h1
      exact h1)
    have hgl40 := HGL.out
    clear hw6 hg hR hD hA hM HP5 HB5 HA5 HW5 HKE zd cd fd zc cc fc
    obtain ⟨zd, cd, fd⟩ := id HD6.out
    obtain ⟨zc, cc, fc⟩ := id HRB6.out
    go_wp2
    go_loopw [79] (fun i wr => ∃ k : Nat, k ≤ G'.length ∧ i = .int .i64 k ∧ Below w6.heap.size w6 wr ∧ ∀ j x, j < k → G'[j]? = some x → fits p x.1) (fun i _ => G'.length - (intOf i).toNat)
    case atStart => exact ⟨0, by omega, rfl, Below.refl _ _, fun j x hj => by omega⟩
    obtain ⟨k, hk, rfl, hbw, hfit⟩ := hrel
    have HBW := Lib.hid hbw
    have HFI := Lib.hid hfit
    clear hbw hfit zd cd fd zc cc fc
    by_cases hin : k < G'.length
    · have dk : decide ((k : Int) < (G'.length : Int)) = true := decide_eq_true (by omega)
      obtain ⟨x, hx⟩ : ∃ x, G'[k]? = some x := ⟨_, List.getElem?_eq_getElem hin⟩
      obtain ⟨gb, go, rfl, hgl, hcs⟩ := ((pcsAt HR6.out.own).below HBW.out) (by omega)
      have q0 := hcs k x hx 0 _ rfl
      have q1 := hcs k x hx 1 _ rfl
      have q2 := hcs k x hx 2 _ rfl
      have q3 := hcs k x hx 3 _ rfl
      have q4 := hcs k x hx 4 _ rfl
      rw [← Nat.add_assoc] at q0 q1 q2 q3 q4
      rw [Nat.add_zero] at q0
      have HX := Lib.hid hx
      obtain ⟨xA, xc, hxv⟩ := src_form (HR6.out.vals x (List.mem_of_getElem? hx)).1
      rw [hxv] at q4
      clear hxv
      obtain ⟨zd, cd, fd⟩ := id (HD6.out.below HBW.out)
      have hmem : x.1 ∈ g := by
        have := HR6.out.gt
        simp only at this
        rw [← this]
        exact List.mem_map.2 ⟨x, List.mem_of_getElem? hx, rfl⟩
      have HMEM := Lib.hid hmem
      clear hcs hx hmem
      have HBAD : Hid (¬ fits p x.1 → s.feed p = (false, { s with got := g })) := Lib.hid (fun hf => by
        have hu : unfit (kept s.got p) p = true := by rw [← HG.out]; exact unfit_yes HMEM.out hf
        unfold AS.feed
        rw [if_neg HN1.out, if_pos hu]
        have : g = s.got := HG.out.trans (kept_of_unfit hu)
        rw [this])
      by_cases e1 : x.1.ba = p.ba
      · have f1 : ((x.1.ba : Int) != (p.ba : Int)) = false := by simp; omega
        by_cases e2 : x.1.ma = p.ma
        · have f2 : ((x.1.ma : Int) != (p.ma : Int)) = false := by simp; omega
          by_cases e3 : x.1.ix = p.ix
          · have f3 : ((x.1.ix : Int) == (p.ix : Int)) = true := by simp; omega
            have HF := Lib.hid (HBAD.out (fun h => h.2.2 e3))
            clear e1 e2 e3
            go_wp2
            go_ret
            have hbw := HBW.out
            exact RFeedPost.mk ⟨_, .inr ⟨p, HT.out, HF.out.symm⟩, rfl, ⟨T, b, n, _, gc', G', (HR6.out.belowR ((by repeat (with_reducible (first | exact Below.refl _ _ | assumption | apply ext_drew | apply ext_drewN | apply ext_alloc | apply ext_more | (refine ext_setCell ?_ (by first | assumption | (simp <;> omega)) _) | (refine ext_below ?_ (by assumption))))))).moreR (by omega), fun x hx => .inl hx⟩, (HM6.out.below ((by repeat (with_reducible (first | exact Below.refl _ _ | assumption | apply ext_drew | apply ext_drewN | apply ext_alloc | apply ext_more | (refine ext_setCell ?_ (by first | assumption | (simp <;> omega)) _) | (refine ext_below ?_ (by assumption))))))).mono (fun x _ e => e ▸ HH.out.tr)⟩
          · have f3 : ((x.1.ix : Int) == (p.ix : Int)) = false := by simp; omega
            have HFX : Hid (fits p x.1) := Lib.hid ⟨e1, e2, e3⟩
            clear e1 e2 e3
            go_wp2
            go_roundw
            case rel => exact ⟨k + 1, by omega, by go_num, (by have hbw := HBW.out; exact (by repeat (with_reducible (first | exact Below.refl _ _ | assumption | apply ext_drew | apply ext_drewN | apply ext_alloc | apply ext_more | (refine ext_setCell ?_ (by first | assumption | (simp <;> omega)) _) | (refine ext_below ?_ (by assumption)))))), fun j y hj hy => by
              rcases Nat.lt_or_ge j k with hjk | hjk
              · exact HFI.out j y hjk hy
              · obtain rfl : j = k := by omega
                rw [HX.out] at hy
                cases hy
                exact HFX.out⟩
            case measure => simp [intOf]; omega
        · have f2 : ((x.1.ma : Int) != (p.ma : Int)) = true := by simp; omega
          have HF := Lib.hid (HBAD.out (fun h => e2 h.2.1))
          clear e1 e2
          go_wp2
          go_ret
          have hbw := HBW.out
          exact RFeedPost.mk ⟨_, .inr ⟨p, HT.out, HF.out.symm⟩, rfl, ⟨T, b, n, _, gc', G', (HR6.out.belowR ((by repeat (with_reducible (first | exact Below.refl _ _ | assumption | apply ext_drew | apply ext_drewN | apply ext_alloc | apply ext_more | (refine ext_setCell ?_ (by first | assumption | (simp <;> omega)) _) | (refine ext_below ?_ (by assumption))))))).moreR (by omega), fun x hx => .inl hx⟩, (HM6.out.below ((by repeat (with_reducible (first | exact Below.refl _ _ | assumption | apply ext_drew | apply ext_drewN | apply ext_alloc | apply ext_more | (refine ext_setCell ?_ (by first | assumption | (simp <;> omega)) _) | (refine ext_below ?_ (by assumption))))))).mono (fun x _ e => e ▸ HH.out.tr)⟩
      · have f1 : ((x.1.ba : Int) != (p.ba : Int)) = true := by simp; omega
        have HF := Lib.hid (HBAD.out (fun h => e1 h.1))
        clear e1
        go_wp2
        go_ret
        have hbw := HBW.out
        exact RFeedPost.mk ⟨_, .inr ⟨p, HT.out, HF.out.symm⟩, rfl, ⟨T, b, n, _, gc', G', (HR6.out.belowR ((by repeat (with_reducible (first | exact Below.refl _ _ | assumption | apply ext_drew | apply ext_drewN | apply ext_alloc | apply ext_more | (refine ext_setCell ?_ (by first | assumption | (simp <;> omega)) _) | (refine ext_below ?_ (by assumption))))))).moreR (by omega), fun x hx => .inl hx⟩, (HM6.out.below ((by repeat (with_reducible (first | exact Below.refl _ _ | assumption | apply ext_drew | apply ext_drewN | apply ext_alloc | apply ext_more | (refine ext_setCell ?_ (by first | assumption | (simp <;> omega)) _) | (refine ext_below ?_ (by assumption))))))).mono (fun x _ e => e ▸ HH.out.tr)⟩
    have dk : decide ((k : Int) < (G'.length : Int)) = false := decide_eq_false (by omega)
    obtain rfl : k = G'.length := by omega
    have HFT : Hid (∀ q ∈ g, fits p q) := Lib.hid (fun q hq => by
      have := HR6.out.gt
      simp only at this
      rw [← this] at hq
      obtain ⟨x, hx, rfl⟩ := List.mem_map.1 hq
      obtain ⟨j, hj, hjx⟩ := List.mem_iff_getElem.1 hx
      exact HFI.out j x hj (by rw [← hjx]; exact List.getElem?_eq_getElem hj))
    have HU : Hid (¬ unfit (kept s.got p) p = true) := Lib.hid (by rw [← HG.out, unfit_not HFT.out]; simp)
    have HGA : Hid (Gath g p) := Lib.hid (by rw [HG.out]; exact gath HOK.out HOP.out (fun e => HN1.out (.inr e)) HU.out)
    have HFD : Hid (s.feed p = if (g ++ [p]).length < p.ma then (false, { s with got := g ++ [p] }) else AS.whole { s with got := g ++ [p] } p) := Lib.hid (by unfold AS.feed; rw [if_neg HN1.out, if_neg HU.out, HG.out])
    obtain ⟨w7, hw7⟩ : ∃ w7, w7 = wr := ⟨_, rfl⟩
    rw [← hw7] at HBW
    rw [← hw7]
    have HR7 := Lib.hid (HR6.out.belowR HBW.out)
    have HD7 := Lib.hid (HD6.out.below HBW.out)
    have HA7 := Lib.hid (HA6.out.below HBW.out)
    have HM7 : Hid (Mod (· = r) w w7) := Lib.hid (HM6.out.below HBW.out)
    have HRB7 := Lib.hid (HR7.out.blk)
    clear hw7 HBW HFI hin hk HR6 HD6 HA6 HM6 HRB6 HFT HU
    obtain ⟨zd, cd, fd⟩ := id HD7.out
    obtain ⟨zc, cc, fc⟩ := id HRB7.out
    go_upto_region 14 with fail
    have hgl := HGL.out
    have hd0 : Below w7.heap.size w7 w7.drew := ext_drew (Below.refl _ _)
    have P0 := HD7.out.below hd0
    have C0 := HRB7.out.below hd0
    have HP0 := Lib.hid P0
    have HC0 := Lib.hid C0
    refine region_held_tail (fun w' => Blk w' r #[.map (some b), .int .i64 s.newest, .slice GA' G'.length gc'] ∧ Blk w' d #[.int .i64 p.st, .int .i64 p.ba, .int .i64 p.ix, .int .i64 p.ma, .slice A p.l.length cp]) 8 (by kernel_rfl) (by kernel_rfl) ⟨C0, P0⟩ (fun hHeld => ?_)
    clear P0 C0
    simp only [List.take_succ_cons, List.take_zero]
    refine wpAnyH_take (i := 0) (v := .pointer (some ⟨r, 0, none⟩)) rfl (by kernel_rfl) (by kernel_rfl) (by kernel_rfl) (fun _ _ _ h => h) (Or.inl ⟨by kernel_rfl, ?yfa_0⟩) hHeld ?rfa_0
    case yfa_0 =>
      intro w hSw
      try dsimp only at hSw
      obtain ⟨⟨z1, c1, f1⟩, ⟨z2, c2, f2⟩⟩ := hSw
      go_simp
      try with_reducible rfl
    try simp only [Act.put, List.getElem_toArray, List.getElem_cons_zero, List.setIfInBounds_toArray, List.set_cons_zero, List.set_cons_succ]
    refine wpAnyH_take (i := 1) (v := .pointer (some ⟨r, 0, none⟩)) rfl (by kernel_rfl) (by kernel_rfl) (by kernel_rfl) (fun _ _ _ h => h) (Or.inl ⟨by kernel_rfl, ?yfa_1⟩) hHeld ?rfa_1
    case yfa_1 =>
      intro w hSw
      try dsimp only at hSw
      obtain ⟨⟨z1, c1, f1⟩, ⟨z2, c2, f2⟩⟩ := hSw
      go_simp
      try with_reducible rfl
    try simp only [Act.put, List.getElem_toArray, List.setIfInBounds_toArray]
    refine wpAnyH_take (i := 2) (v := .pointer (some ⟨r, 0, none⟩)) rfl (by kernel_rfl) (by kernel_rfl) (by kernel_rfl) (fun _ _ _ h => h) (Or.inl ⟨by kernel_rfl, ?yfa_2⟩) hHeld ?rfa_2
    case yfa_2 =>
      intro w hSw
      try dsimp only at hSw
      obtain ⟨⟨z1, c1, f1⟩, ⟨z2, c2, f2⟩⟩ := hSw
      go_simp
      try with_reducible rfl
    try simp only [Act.put, List.getElem_toArray]
    refine wpAnyH_take (i := 3) (v := .pointer (some ⟨r, 2, none⟩)) rfl (by kernel_rfl) (by kernel_rfl) (by kernel_rfl) (fun _ _ _ h => h) (Or.inl ⟨by kernel_rfl, ?yfa_3⟩) hHeld ?rfa_3
    case yfa_3 =>
      intro w hSw
      try dsimp only at hSw
      obtain ⟨⟨z1, c1, f1⟩, ⟨z2, c2, f2⟩⟩ := hSw
      go_simp
      try with_reducible rfl
    try simp only [Act.put, List.getElem_toArray]
    refine wpAnyH_take (i := 4) (v := .slice GA' G'.length gc') rfl (by kernel_rfl) (by kernel_rfl) (by kernel_rfl) (fun _ _ _ h => h) (Or.inl ⟨by kernel_rfl, ?yfa_4⟩) hHeld ?rfa_4
    case yfa_4 =>
      intro w hSw
      try dsimp only at hSw
      obtain ⟨⟨z1, c1, f1⟩, ⟨z2, c2, f2⟩⟩ := hSw
      go_simp
      try with_reducible rfl
    try simp only [Act.put, List.getElem_toArray]
    refine wpAnyH_take (i := 5) (v := .agg #[.int .i64 p.st, .int .i64 p.ba, .int .i64 p.ix, .int .i64 p.ma, .slice A p.l.length cp]) rfl (by kernel_rfl) (by kernel_rfl) (by kernel_rfl) (fun _ _ _ h => h) (Or.inl ⟨by kernel_rfl, ?yfa_5⟩) hHeld ?rfa_5
    case yfa_5 =>
      intro w hSw
      try dsimp only at hSw
      obtain ⟨⟨z1, c1, f1⟩, ⟨z2, c2, f2⟩⟩ := hSw
      go_simp
      try with_reducible rfl
    try simp only [Act.put, List.getElem_toArray]
    refine wpAnyH_ready (rs := [6]) (by kernel_rfl) (by simp) ?_
    refine AllReadyH.cons (o := _) rfl (fun K hK => ?_) AllReadyH.nil
    go_simp
    try dsimp only
    refine hK.out _ _ ⟨HC0.out.below (balloc _ _), HP0.out.below (balloc _ _)⟩ (fun hHeld => ?_)
    clear hK K
    have hB8 : Blk (w7.drew.alloc (.cells #[.int .i64 p.st, .int .i64 p.ba, .int .i64 p.ix, .int .i64 p.ma, .slice A p.l.length cp] 45)) w7.heap.size (pceL (p, .slice A p.l.length cp)).toArray := (by apply Blk.at; simp)
    have HB8 := Lib.hid hB8
    clear hB8
    refine any_fresh ?_ hHeld
    clear hHeld
    rintro w8 hb8 hHeld
    have hv8 : Below w7.heap.size w7 w8 := (by repeat (with_reducible (first | exact Below.refl _ _ | assumption | apply ext_drew | apply ext_drewN | apply ext_alloc | apply ext_more | (refine ext_setCell ?_ (by first | assumption | (simp <;> omega)) _) | (refine ext_below ?_ (by assumption)))))
    have HQ8 := Lib.hid (HB8.out.below hb8)
    have HV8 := Lib.hid hv8
    have HO8 := Lib.hid (row_below HR7.out.own hv8)
    clear hb8 hv8 HB8
    try simp only [Act.put, List.getElem_toArray, List.getElem_cons_zero, List.setIfInBounds_toArray, List.set_cons_zero, List.set_cons_succ]
    refine wpAnyH_ready (rs := [7]) (by kernel_rfl) (by simp) ?_
    refine AllReadyH.cons (o := _) rfl (fun K hK => ?_) AllReadyH.nil
    refine step_piece rfl (.tmp 107) (.tmp 109) rfl (.slice GA' G'.length gc') G' rfl HO8.out (p, .slice A p.l.length cp) w7.heap.size rfl HQ8.out rfl (by omega) ?_
    intro g9 c9' w9 own9 mod9 wh9 lt9
    have kT : Mod (fun x => T x) w7 w9 := (Mod.of_below HV8.out).trans2 (mod9.mono (fun x _ e => e)) (fun x _ e => HR7.out.ownT e)
    have hc9 : Blk w9 r #[.map (some b), .int .i64 s.newest, .slice GA' G'.length gc'] := (HRB7.out.below HV8.out).mod mod9 (fun e => HR7.out.ownR e)
    have hd9 : Blk w9 d #[.int .i64 p.st, .int .i64 p.ba, .int .i64 p.ix, .int .i64 p.ma, .slice A p.l.length cp] := (HD7.out.below HV8.out).mod mod9 (fun e => by have := HDW.out; have := HR7.out.ownT e; have := (HH.out.tl d this).1; omega)
    refine hK.out _ _ ⟨hc9, hd9⟩ (fun hHeld => ?_)
    clear hK K
    try simp only [Act.put, List.getElem_toArray, List.setIfInBounds_toArray]
    refine wpAnyH_done (by kernel_rfl) ?_ _
    clear hHeld
    simp only [TailQ, List.drop_succ_cons, List.drop_zero]
    have HOWN9 := Lib.hid own9
    have HK9 : Hid (Mod (fun x => x = r ∨ (Value.slice GA' G'.length gc').ownBlock = some x) w7 w9) := Lib.hid ((Mod.of_below HV8.out).trans (mod9.mono (fun x _ e => .inr e)))
    have HWH : Hid ((Value.slice GA' G'.length gc').ownBlock = some g9 ∨ w7.heap.size ≤ g9) := Lib.hid (wh9.imp id (fun e => Nat.le_trans HV8.out.size e))
    have HKT := Lib.hid kT
    have HC9 := Lib.hid hc9
    have HD9 := Lib.hid hd9
    have HLT9 := Lib.hid lt9
    clear own9 mod9 wh9 kT hc9 hd9 lt9 HQ8 HV8 HO8 HP0 HC0 hd0 zc cc fc zd cd fd
    have hGR : g9 ≠ r := fun e => HWH.out.elim (fun e' => HR7.out.ownR (e ▸ e')) (fun e' => by have := HR7.out.blk.lt; omega)
    obtain ⟨zc, cc, fc⟩ := id HC9.out
    go_upto_region 15 with fail
    refine wp_fresh ?_
    rintro w10 hb10
    have k10 : Mod (· = r) w9 w10 := Mod.below ((Mod.refl (· = r) w9).set (.inl rfl)) hb10
    have c9 := HC9.out
    have C10 : Blk w10 r _ := Blk.below (by repeat (with_reducible (first | assumption | (apply Blk.at; simp; done) | apply Blk.alloc | apply Blk.drew | apply Blk.drewN | apply Blk.more | apply Blk.put | (apply Blk.far; focus (first | assumption | (apply Ne.symm; assumption) | (simp; done) | (simp <;> omega)))))) hb10
    try simp only [List.setIfInBounds_toArray, List.set_cons_zero, List.set_cons_succ] at C10
    have HK10 : Hid (Mod (fun x => x = r ∨ (Value.slice GA' G'.length gc').ownBlock = some x) w7 w10) := Lib.hid (HK9.out.trans (k10.mono (fun x _ e => .inl e)))
    have HOWN10 := Lib.hid (row_mod HOWN9.out k10 (fun x hx e => hGR ((Option.some.inj hx).trans e)))
    have HV10 : Hid (RbZ (fun x => (T x ∨ x = g9) ∨ Y x) w10 (.slice A p.l.length cp) p.l) := Lib.hid (by
      have h0 : RbZ (fun x => T x ∨ Y x) w7 (.slice A p.l.length cp) p.l := RbZ.of HA7.out (fun _ x n' c' e hz => by
        cases e
        have h1 := HSN.out _ rfl
        rcases hz with hz | hz
        · have := (HH.out.tl _ hz).1; omega
        · have := HH.out.yl _ hz; omega)
      refine h0.mod HK10.out (fun x e => .inl (e.elim (fun e => e ▸ HH.out.tr) (fun e => HR7.out.ownT e))) (fun x e => ?_)
      rcases e with (e | e) | e
      · exact .inl (.inl e)
      · exact HWH.out.elim (fun e' => .inl (.inl (HR7.out.ownT (e ▸ e')))) (fun e' => .inr (e ▸ e'))
      · exact .inl (.inr e))
    have HR10 : Hid (RC w10 r m 0 { s with got := g ++ [p] } (fun x => T x ∨ x = g9) Y b n (some ⟨g9, 0, none⟩) c9' (G' ++ [(p, .slice A p.l.length cp)])) := Lib.hid (RC.put HR7.out HK10.out C10 HOWN10.out HWH.out (Nat.lt_of_lt_of_le HLT9.out k10.size) HV10.out)
    have HD10 := Lib.hid (HD9.out.mod k10 (fun e => by have := HDW.out; have := HH.out.blk.lt; omega))
    have HT10 : Hid (∀ x, (T x ∨ x = g9) → T x ∨ w.heap.size ≤ x) := Lib.hid (fun x e => e.elim .inl (fun e => HWH.out.elim (fun e' => .inl (HR7.out.ownT (e ▸ e'))) (fun e' => .inr (by have := HN6.out; have := HM7.out.size; omega))))
    have HM10 : Hid (Mod T w w10) := Lib.hid ((HM7.out.mono (fun x _ e => e ▸ HH.out.tr)).trans2 HK10.out (fun x _ e => e.elim (fun e => e ▸ HH.out.tr) (fun e => HR7.out.ownT e)))
    have HC10 := Lib.hid C10
    clear hb10 k10 c9 C10 HK9 HOWN9 HKT HC9 HD9 HLT9 zc cc fc HK10 HOWN10 HV10 HA7 HM7 HR7 HD7 HRB7
    obtain ⟨zc, cc, fc⟩ := id HC10.out
    obtain ⟨zd, cd, fd⟩ := id HD10.out
    have hmc := more_cell
    refine region_quiet_all (by kernel_rfl) (by kernel_rfl) ?_
    repeat (go_big_quiet_step (fail))
    refine wpQuiet_nil ?_
    rintro w11 hw11
    have hb11 := after_below hw11
    clear hw11
    have HR11 := Lib.hid (HR10.out.belowR hb11)
    have HD11 := Lib.hid (HD10.out.below hb11)
    have HC11 := Lib.hid (HC10.out.below hb11)
    have HM11 : Hid (Mod T w w11) := Lib.hid (HM10.out.below hb11)
    clear hb11 HR10 HD10 HC10 HM10 zc cc fc zd cd fd
    have hlen : g.length = G'.length := by
      have := HR11.out.gt
      simp only [List.map_append] at this
      have h2 := congrArg List.length this
      simpa using h2.symm
    by_cases hmore : G'.length + 1 < p.ma
    · have HW : Hid (s.feed p = (false, { s with got := g ++ [p] })) := Lib.hid (by rw [HFD.out, if_pos (by simp; omega)])
      have dm : decide (G'.length + 1 < p.ma) = true := decide_eq_true hmore
      have dm' : decide ((G'.length : Int) + 1 < (p.ma : Int)) = true := decide_eq_true (by omega)
      have dm'' : decide (((G'.length + 1 : Nat) : Int) < (p.ma : Int)) = true := decide_eq_true (by omega)
      clear hmore
      first | rw [dm'] | rw [dm'']
      go_wp2
      go_ret
      exact RFeedPost.mk ⟨_, .inr ⟨p, HT.out, HW.out.symm⟩, rfl, ⟨_, b, n, _, _, _, HR11.out.moreR (by omega), HT10.out⟩, HM11.out⟩
    have HAL : Hid (∀ i, i < p.ma → pieceAt (g ++ [p]) i ≠ none) := Lib.hid (HGA.out.all (by simp; omega))
    have HW : Hid (s.feed p = AS.whole { s with got := g ++ [p] } p) := Lib.hid (by rw [HFD.out, if_neg (by simp; omega)])
    have dm : decide (G'.length + 1 < p.ma) = false := decide_eq_false hmore
    have dm' : decide ((G'.length : Int) + 1 < (p.ma : Int)) = false := decide_eq_false (by omega)
    have dm'' : decide (((G'.length + 1 : Nat) : Int) < (p.ma : Int)) = false := decide_eq_false (by omega)
    first | rw [dm'] | rw [dm'']
    clear dm dm' dm''
    have hma := HOP.out.1.2.2.2.2.1
    obtain ⟨H, hH⟩ : ∃ H, H = G' ++ [(p, Value.slice A p.l.length cp)] := ⟨_, rfl⟩
    have hHl : H.length = G'.length + 1 := by rw [hH]; simp
    rw [← hH] at HR11
    have HHT : Hid (H.map (·.1) = g ++ [p]) := Lib.hid HR11.out.gt
    have HCB : Hid (Blk w11 r #[.map (some b), .int .i64 s.newest, .slice (some ⟨g9, 0, none⟩) H.length c9']) := Lib.hid HR11.out.blk
    have HPL := Lib.hid (pieceAt_len HGA.out.pcs)
    have HIX := Lib.hid HGA.out.ix
    have hHl2 : H.length ≤ 41 := by have := HGL.out; omega
    clear hmore HC11 hH hlen HFD HGL
    obtain ⟨zc, cc, fc⟩ := id HCB.out
    obtain ⟨zd, cd, fd⟩ := id HD11.out
    go_wp2
    go_loopw [9, 123] (fun va i wr => ∃ k : Nat, k ≤ p.ma ∧ i = .int .i64 k ∧ wr.ownsRow w11.heap.size 5 1 va (joinF (fun i => (pieceAt (g ++ [p]) i).getD []) k).length (u8s (joinF (fun i => (pieceAt (g ++ [p]) i).getD []) k)) ∧ Below w11.heap.size w11 wr) (fun _ i _ => p.ma - (intOf i).toNat)
    case atStart => exact ⟨0, by omega, rfl, ⟨rfl, .inl ⟨rfl, rfl⟩⟩, Below.refl _ _⟩
    obtain ⟨k, hk, rfl, hown, hbw⟩ := hrel
    have HBW := Lib.hid hbw
    have HOWN := Lib.hid hown
    clear hbw hown zc cc fc zd cd fd
    by_cases hin : k < p.ma
    · have dk : decide ((k : Int) < (p.ma : Int)) = true := decide_eq_true (by omega)
      obtain ⟨zc, cc, fc⟩ := id (HCB.out.below HBW.out)
      obtain ⟨zd, cd, fd⟩ := id (HD11.out.below HBW.out)
      go_wp2
      go_loopw [9, 131] (fun va j wq => ∃ k2 : Nat, k2 ≤ H.length ∧ j = .int .i64 k2 ∧ wq.ownsRow w11.heap.size 5 1 va (joinF (fun i => (pieceAt (g ++ [p]) i).getD []) k ++ innr H k k2).length (u8s (joinF (fun i => (pieceAt (g ++ [p]) i).getD []) k ++ innr H k k2)) ∧ Below w11.heap.size w11 wq) (fun _ j _ => H.length - (intOf j).toNat)
      case atStart => exact ⟨0, by omega, rfl, by rw [innr_zero, List.append_nil]; exact HOWN.out, HBW.out⟩
      clear HOWN HBW zc cc fc zd cd fd
      obtain ⟨k2, hk2, rfl, hown, hbw⟩ := hrel
      have HBW := Lib.hid hbw
      have HOWN := Lib.hid hown
      clear hbw hown
      have hjl := joinF_len (fun i => (HPL.out i).1) k
      have hil := innr_len (i := k) (k := k2) HIX.out HHT.out (fun i => (HPL.out i).1)
      by_cases hin2 : k2 < H.length
      · have dk2 : decide ((k2 : Int) < (H.length : Int)) = true := decide_eq_true (by omega)
        obtain ⟨x, hx⟩ : ∃ x, H[k2]? = some x := ⟨_, List.getElem?_eq_getElem hin2⟩
        obtain ⟨gb, go, hge, hgl, hcs⟩ := ((pcsAt HR11.out.own).below HBW.out) (by omega)
        cases hge
        have q0 := hcs k2 x hx 0 _ rfl
        have q1 := hcs k2 x hx 1 _ rfl
        have q2 := hcs k2 x hx 2 _ rfl
        have q3 := hcs k2 x hx 3 _ rfl
        have q4 := hcs k2 x hx 4 _ rfl
        simp only [Nat.zero_add, Nat.add_zero] at q0 q1 q2 q3 q4
        have HX := Lib.hid hx
        obtain ⟨xA, xc, hxv⟩ := src_form (HR11.out.vals x (List.mem_of_getElem? hx)).1
        have q4' := q4
        rw [hxv] at q4
        have HXE := Lib.hid hxv
        clear hxv q4'
        have HXV : Hid (Src wr (.slice xA x.1.l.length xc) x.1.l) := Lib.hid (HXE.out ▸ ((HR11.out.belowR HBW.out).vals x (List.mem_of_getElem? hx)).1)
        have hxl : x.1.l.length ≤ 100 := by
          have := HGA.out.pcs x.1 (by rw [← HHT.out]; exact List.mem_map.2 ⟨x, List.mem_of_getElem? hx, rfl⟩)
          exact this.1.2.2.2.2.2.2
        have hsz := HBW.out.size
        clear hcs hx
        by_cases e1 : x.1.ix = k
        · have f1 : ((x.1.ix : Int) == (k : Int)) = true := by simp; omega
          have HI2 : Hid (innr H k (k2 + 1) = innr H k k2 ++ x.1.l) := Lib.hid (by rw [innr_succ HX.out, if_pos e1])
          clear e1
          go_wp2_with (at_builtin; go_must (refine app_src rfl (.tmp 139) (.tmp 141) rfl w11.heap.size _ _ rfl (row_below HOWN.out ((by repeat (with_reducible (first | exact Below.refl _ _ | assumption | apply ext_drew | apply ext_drewN | apply ext_alloc | apply ext_more | (refine ext_setCell ?_ (by first | assumption | (simp <;> omega)) _) | (refine ext_below ?_ (by assumption))))))) rfl (HXV.out.below ((by repeat (with_reducible (first | exact Below.refl _ _ | assumption | apply ext_drew | apply ext_drewN | apply ext_alloc | apply ext_more | (refine ext_setCell ?_ (by first | assumption | (simp <;> omega)) _) | (refine ext_below ?_ (by assumption))))))) (by simp; omega) (by simp; omega) ?_; intro v4 w4 hown4 hmod4; have HO4 := Lib.hid hown4; have HM4 := Lib.hid hmod4; clear hown4 hmod4))
          go_roundw
          case rel =>
            refine ⟨k2 + 1, by omega, by go_num, ?_, ?_⟩
            · rw [HI2.out, ← List.append_assoc]
              exact HO4.out
            · refine Below.trans ?_ (HM4.out.toBelow (by have := HBW.out.size; simp; omega) (fun b hb e => by have := row_lt HOWN.out e; omega))
              have hbw := HBW.out
              exact (by repeat (with_reducible (first | exact Below.refl _ _ | assumption | apply ext_drew | apply ext_drewN | apply ext_alloc | apply ext_more | (refine ext_setCell ?_ (by first | assumption | (simp <;> omega)) _) | (refine ext_below ?_ (by assumption)))))
          case measure => simp [intOf]; omega
        · have f1 : ((x.1.ix : Int) == (k : Int)) = false := by simp; omega
          have HI2 : Hid (innr H k (k2 + 1) = innr H k k2) := Lib.hid (by rw [innr_succ HX.out, if_neg e1, List.append_nil])
          clear e1
          go_wp2
          go_roundw
          case rel =>
            refine ⟨k2 + 1, by omega, by go_num, ?_, (by have hbw := HBW.out; exact (by repeat (with_reducible (first | exact Below.refl _ _ | assumption | apply ext_drew | apply ext_drewN | apply ext_alloc | apply ext_more | (refine ext_setCell ?_ (by first | assumption | (simp <;> omega)) _) | (refine ext_below ?_ (by assumption))))))⟩
            rw [HI2.out]
            exact row_below HOWN.out ((by repeat (with_reducible (first | exact Below.refl _ _ | assumption | apply ext_drew | apply ext_drewN | apply ext_alloc | apply ext_more | (refine ext_setCell ?_ (by first | assumption | (simp <;> omega)) _) | (refine ext_below ?_ (by assumption))))))
          case measure => simp [intOf]; omega
      · have dk2 : decide ((k2 : Int) < (H.length : Int)) = false := decide_eq_false (by omega)
        obtain rfl : k2 = H.length := by omega
        have HJ : Hid (joinF (fun i => (pieceAt (g ++ [p]) i).getD []) (k + 1) = joinF (fun i => (pieceAt (g ++ [p]) i).getD []) k ++ innr H k H.length) := Lib.hid (by rw [joinF, innr_all (by rw [HHT.out]; exact HIX.out), HHT.out])
        clear hin2 hk2
        go_wp2
        go_roundw
        case rel => exact ⟨k + 1, by omega, by go_num, by rw [HJ.out]; exact HOWN.out, HBW.out⟩
        case measure => simp [intOf]; omega
    have dk : decide ((k : Int) < (p.ma : Int)) = false := decide_eq_false (by omega)
    obtain rfl : k = p.ma := by omega
    obtain ⟨w12, hw12⟩ : ∃ w12, w12 = wr := ⟨_, rfl⟩
    rw [← hw12] at HBW HOWN
    rw [← hw12]
    obtain ⟨L, hL⟩ : ∃ L, L = joinG (g ++ [p]) p.ma := ⟨_, rfl⟩
    have hrow := HOWN.out
    rw [show joinF (fun i => (pieceAt (g ++ [p]) i).getD []) p.ma = L from hL.symm] at hrow
    obtain ⟨va, ca, rfl⟩ := row_formV hrow
    have HL := Lib.hid hL
    have HS12 := Lib.hid (src_of_rowF hrow)
    have HN12 := Lib.hid (row_new hrow)
    have HL8 : Hid ((∀ b ∈ L, b < 256) ∧ L.length ≤ 100000) := Lib.hid (by rw [hL]; exact ⟨joinF_lt (fun i => (HPL.out i).2) _, Nat.le_trans (joinF_len (fun i => (HPL.out i).1) _) (by omega)⟩)
    have HR12 := Lib.hid (HR11.out.belowR HBW.out)
    have HD12 := Lib.hid (HD11.out.below HBW.out)
    have HC12 := Lib.hid (HCB.out.below HBW.out)
    have HM12 : Hid (Mod T w w12) := Lib.hid (HM11.out.below HBW.out)
    have HZ12 : Hid (w11.heap.size ≤ w12.heap.size) := Lib.hid HBW.out.size
    have HYL : Hid (∀ x, (T x ∨ x = g9) ∨ Y x → x < w11.heap.size) := Lib.hid (fun x e => e.elim (fun e => (HR11.out.tl x e).1) (fun e => HR11.out.yl x e))
    clear hw12 hL hrow HOWN HBW hk hin HD11 HCB HM11 HIX HHT HPL HAL hHl2
    obtain ⟨zc, cc, fc⟩ := id HC12.out
    obtain ⟨zd, cd, fd⟩ := id HD12.out
    go_upto_region 29 with fail
    refine wp_fresh ?_
    rintro w13 hb13
    have k13 : Mod (· = r) w12 w13 := Mod.below ((Mod.refl (· = r) w12).set (.inl rfl)) hb13
    have c12 := HC12.out
    have C13 : Blk w13 r _ := Blk.below (by repeat (with_reducible (first | assumption | (apply Blk.at; simp; done) | apply Blk.alloc | apply Blk.drew | apply Blk.drewN | apply Blk.more | apply Blk.put | (apply Blk.far; focus (first | assumption | (apply Ne.symm; assumption) | (simp; done) | (simp <;> omega)))))) hb13
    try simp only [List.setIfInBounds_toArray, List.set_cons_zero, List.set_cons_succ] at C13
    have HR13 : Hid (RC w13 r m 0 { s with got := [] } (fun x => T x ∨ x = g9) Y b n none 0 []) := Lib.hid (HR12.out.empty k13 C13)
    have HD13 := Lib.hid (HD12.out.mod k13 (fun e => by have := HDW.out; have := HH.out.blk.lt; omega))
    have HM13 : Hid (Mod T w w13) := Lib.hid (HM12.out.trans2 k13 (fun x _ e => e ▸ HH.out.tr))
    have HS13 : Hid (Src w13 (.slice va L.length ca) L) := Lib.hid (by
      have h0 : RbZ (fun x => (T x ∨ x = g9) ∨ Y x) w12 (.slice va L.length ca) L := RbZ.of HS12.out (fun _ x n' c' e hz => by
        have h1 := HN12.out x n' c' e
        have h2 := HYL.out _ hz
        omega)
      exact (h0.mod (Z' := fun x => (T x ∨ x = g9) ∨ Y x) k13 (fun x e => .inl (.inl (e ▸ HH.out.tr))) (fun x h => .inl h)).1)
    have HC13 := Lib.hid C13
    obtain ⟨F, hF, hFV⟩ := HR13.out.vm
    have HF13 := Lib.hid hF
    have HFV13 := Lib.hid hFV
    clear hb13 k13 c12 C13 hF hFV HR12 HR11 HD12 HC12 HM12 HS12 HN12 HZ12 HYL zc cc fc zd cd fd
    obtain ⟨zc, cc, fc⟩ := id HC13.out
    obtain ⟨zd, cd, fd⟩ := id HD13.out
    have hmc := more_cell
    have hba : keyOf Try.prog 3 (.int .i64 p.ba) = some (.int .i64 p.ba) := int_key _ (intKey_wf (by omega) (by have := HOP.out.1.2.1; have := HOP.out.1.2.2.1; omega))
    have HK := Lib.hid hba
    clear hba
    refine region_quiet_all (by kernel_rfl) (by kernel_rfl) ?_
    repeat (go_big_quiet_step (fail))
    go_big_quiet_want
    refine quiet_lookup2 (.tmp 152) (.tmp 154) rfl (int_keyed Try.underlying3) Try.underlying34 zero_viewR rfl (by rintro _ ⟨mm, rfl⟩; exact HF13.out.below (more_below w13 mm)) (.int .i64 p.ba) (.int .i64 p.ba) rfl HK.out trivial ?_
    simp only [Act.put, List.setIfInBounds_toArray, List.set_cons_zero, List.set_cons_succ]
    go_big_quiet_on
    repeat (go_big_quiet_step (fail))
    refine wpQuiet_nil ?_
    rintro w14 hw14
    have hb14 := after_below hw14
    have HR14 := Lib.hid (HR13.out.belowR hb14)
    have HD14 := Lib.hid (HD13.out.below hb14)
    have HC14 := Lib.hid (HC13.out.below hb14)
    have HM14 : Hid (Mod T w w14) := Lib.hid (HM13.out.below hb14)
    have HS14 := Lib.hid (HS13.out.below hb14)
    have HFV14 : Hid (∀ k : Int, VAt (fun x => (T x ∨ x = g9) ∨ Y x) w14 (F (.int .i64 k)) (s.V k)) := Lib.hid (fun k => (HFV13.out k).mod (S := fun _ => False) (Mod.of_below hb14) (fun _ e => e.elim) (fun x h => .inl h))
    have HF14 := Lib.hid (HF13.out.below hb14)
    clear hw14 hb14 hmc HK zc cc fc zd cd fd HR13 HD13 HC13 HM13 HS13 HF13 HFV13
    have hk := HFV14.out p.ba
    cases hv0 : s.V p.ba with
    | none =>
      have hF0 : F (.int .i64 p.ba) = none := by
        rw [hv0] at hk
        cases hf : F (.int .i64 p.ba) with
        | none => rfl
        | some v => rw [hf] at hk; exact hk.elim
      have HWW : Hid (s.feed p = (false, { s with got := [] })) := Lib.hid (by rw [HW.out]; unfold AS.whole; simp only [hv0])
      rw [hF0]
      simp only [Option.isSome_none, Option.getD_none]
      clear hk hv0 hF0
      go_wp2
      go_ret
      exact RFeedPost.mk ⟨_, .inr ⟨p, HT.out, HWW.out.symm⟩, rfl, ⟨_, b, n, _, _, _, HR14.out.moreR (by omega), HT10.out⟩, HM14.out⟩
    | some R =>
      obtain ⟨v, hFv⟩ : ∃ v, F (.int .i64 p.ba) = some v := by
        rw [hv0] at hk
        cases hf : F (.int .i64 p.ba) with
        | none => rw [hf] at hk; exact hk.elim
        | some v => exact ⟨v, rfl⟩
      rw [hv0, hFv] at hk
      obtain ⟨A1, c1, rfl, h1, h2, h3⟩ := hk
      have hRl := (HOK.out.views _ _ hv0).2.2
      have HRD := Lib.hid h3.reads
      have H1 := Lib.hid h1
      have HV0 := Lib.hid hv0
      rw [hFv]
      simp only [Option.isSome_some, Option.getD_some]
      clear hFv h1 h2 h3 hv0
      go_wp2_with fail
      refine (rapply_f R.length A1 c1 (mx R) (.slice va L.length ca) L w14 (by omega) H1.out HRD.out HS14.out HL8.out.1 HL8.out.2).mono ?_
      rintro e w15 ⟨h, hb15⟩
      have HR15 := Lib.hid (HR14.out.belowR hb15)
      have HD15 := Lib.hid (HD14.out.below hb15)
      have HC15 := Lib.hid (HC14.out.below hb15)
      have HM15 : Hid (Mod T w w15) := Lib.hid (HM14.out.below hb15)
      have HF15 := Lib.hid (HF14.out.below hb15)
      have HFV15 : Hid (∀ k : Int, VAt (fun x => (T x ∨ x = g9) ∨ Y x) w15 (F (.int .i64 k)) (s.V k)) := Lib.hid (fun k => (HFV14.out k).mod (S := fun _ => False) (Mod.of_below hb15) (fun _ e => e.elim) (fun x h => .inl h))
      have HBAD : Hid (ansF (mx R) R.length L = none → s.feed p = (false, { s with got := [] })) := Lib.hid (fun hn => by
        rw [HW.out]
        unfold AS.whole
        simp only [HV0.out]
        rw [← HL.out, hn])
      rcases h with ⟨hr, rfl⟩ | ⟨hr, hn, rfl⟩ | ⟨hr, o, A2, c2, ho, rfl, g1, g2, g3, g4⟩
      · have HWW := Lib.hid (HBAD.out (ansF_bad hr))
        clear hr hb15 HBAD
        go_wp2
        go_ret
        exact RFeedPost.mk ⟨_, .inr ⟨p, HT.out, HWW.out.symm⟩, rfl, ⟨_, b, n, _, _, _, HR15.out.moreR (by omega), HT10.out⟩, HM15.out⟩
      · have HWW := Lib.hid (HBAD.out ((ans_eq (mx R) L hr.2).symm.trans hn))
        clear hr hn hb15 HBAD
        go_wp2
        go_ret
        exact RFeedPost.mk ⟨_, .inr ⟨p, HT.out, HWW.out.symm⟩, rfl, ⟨_, b, n, _, _, _, HR15.out.moreR (by omega), HT10.out⟩, HM15.out⟩
      · have HWW : Hid (s.feed p = (true, ⟨newV s.V p.st o, p.st, []⟩)) := Lib.hid (by
          rw [HW.out]
          unfold AS.whole
          simp only [HV0.out]
          rw [← HL.out, ← ans_eq (mx R) L hr.2, ho])
        have HRO : Hid (RdZ (fun x => (T x ∨ x = g9) ∨ Y x) w15 A2 o) := Lib.hid (RdZ.of g3 (fun h0 x e hz => by
          have h1 := g4 h0 x e
          rcases hz with hz | hz
          · have := (HR14.out.tl x.block hz).1; omega
          · have := HR14.out.yl x.block hz; omega))
        have HG1 := Lib.hid g1
        have HG2 := Lib.hid g2
        clear hr g1 g2 g3 g4 ho hb15 HBAD HRD HS14 HR14 HD14 HC14 HM14 HF14 HFV14 HW HL HL8
        obtain ⟨zc, cc, fc⟩ := id HC15.out
        obtain ⟨zd, cd, fd⟩ := id HD15.out
        go_upto_region 36 with fail
        refine wp_fresh ?_
        rintro w16 hb16
        have k16 : Mod (· = r) w15 w16 := Mod.below ((Mod.refl (· = r) w15).set (.inl rfl)) hb16
        have c15 := HC15.out
        have C16 : Blk w16 r _ := Blk.below (by repeat (with_reducible (first | assumption | (apply Blk.at; simp; done) | apply Blk.alloc | apply Blk.drew | apply Blk.drewN | apply Blk.more | apply Blk.put | (apply Blk.far; focus (first | assumption | (apply Ne.symm; assumption) | (simp; done) | (simp <;> omega)))))) hb16
        try simp only [List.setIfInBounds_toArray, List.set_cons_zero, List.set_cons_succ] at C16
        have hbr : b ≠ r := Ne.symm HH.out.ne
        have HD16 := Lib.hid (HD15.out.mod k16 (fun e => by have := HDW.out; have := HH.out.blk.lt; omega))
        have HM16 : Hid (Mod T w w16) := Lib.hid (HM15.out.trans2 k16 (fun x _ e => e ▸ HH.out.tr))
        have HF16 := Lib.hid (HF15.out.mod k16 hbr)
        have HFV16 : Hid (∀ k : Int, VAt (fun x => (T x ∨ x = g9) ∨ Y x) w16 (F (.int .i64 k)) (s.V k)) := Lib.hid (fun k => (HFV15.out k).mod k16 (fun x e => .inl (.inl (e ▸ HH.out.tr))) (fun x h => .inl h))
        have HRO16 := Lib.hid (HRO.out.mod (Z' := fun x => (T x ∨ x = g9) ∨ Y x) k16 (fun x e => .inl (.inl (e ▸ HH.out.tr))) (fun x h => .inl h))
        have HLY : Hid (∀ x, (T x ∨ x = g9) ∨ Y x → x < w16.heap.size) := Lib.hid (fun x e => Nat.lt_of_lt_of_le (e.elim (fun e => (HR15.out.tl x e).1) (fun e => HR15.out.yl x e)) k16.size)
        have HNT : Hid (∀ x, Y x → ¬ T x) := Lib.hid (fun x hy ht => (HH.out.tl x ht).2 hy)
        have HC16 := Lib.hid C16
        have HTB : Hid (T b ∧ b < w16.heap.size ∧ r < w16.heap.size) := Lib.hid ⟨HH.out.tb, HLY.out b (.inl (.inl HH.out.tb)), HLY.out r (.inl (.inl HH.out.tr))⟩
        clear hb16 k16 c15 C16 hbr HR15 HD15 HC15 HM15 HF15 HFV15 HRO zc cc fc zd cd fd
        have hst : keyOf Try.prog 3 (.int .i64 p.st) = some (.int .i64 p.st) := int_key _ (intKey_wf (by omega) (by have := HOP.out.1.2.1; omega))
        have HKS := Lib.hid hst
        clear hst
        obtain ⟨zc, cc, fc⟩ := id HC16.out
        go_cut [16] (fun x wx => ∃ (lb n2 : Nat) (F2 : Lit → Option Value), x = .map (some lb) ∧ w16.heap.size ≤ lb ∧ MapV Try.prog 3 wx lb 2 F2 n2 ∧ (∀ k : Int, F2 (.int .i64 k) = if k = p.st then some (.slice A2 o.length c2) else if k = 0 then some (.slice none 0 0) else none) ∧ Below w16.heap.size w16 wx)
        case first =>
          have hd0 : Below w16.heap.size w16 w16.drew := ext_drew (Below.refl _ _)
          have P0 := HD16.out.below hd0
          have hmk := @run_makeMap Try.prog
          refine region_held_tail (fun w' => Blk w' d #[.int .i64 p.st, .int .i64 p.ba, .int .i64 p.ix, .int .i64 p.ma, .slice A p.l.length cp]) 6 (by kernel_rfl) (by kernel_rfl) P0 (fun hHeld => ?_)
          simp only [List.take_succ_cons, List.take_zero]
          refine wpAnyH_take (i := 2) (v := .pointer (some ⟨d, 0, none⟩)) rfl (by kernel_rfl) (by kernel_rfl) (by kernel_rfl) (fun _ _ _ h => h) (Or.inl ⟨by kernel_rfl, ?yfb_2⟩) hHeld ?rfb_2
          case yfb_2 =>
            intro w hSw
            try dsimp only at hSw
            obtain ⟨z2, c2, f2⟩ := hSw
            go_simp
            try with_reducible rfl
          try simp only [Act.put, List.getElem_toArray, List.setIfInBounds_toArray]
          refine wpAnyH_take (i := 3) (v := .int .i64 p.st) rfl (by kernel_rfl) (by kernel_rfl) (by kernel_rfl) (fun _ _ _ h => h) (Or.inl ⟨by kernel_rfl, ?yfb_3⟩) hHeld ?rfb_3
          case yfb_3 =>
            intro w hSw
            try dsimp only at hSw
            obtain ⟨z2, c2, f2⟩ := hSw
            go_simp
            try with_reducible rfl
          try simp only [Act.put, List.getElem_toArray]
          refine wpAnyH_take (i := 4) (v := .slice A2 o.length c2) rfl (by kernel_rfl) (by kernel_rfl) (by kernel_rfl) (fun _ _ _ h => h) (Or.inl ⟨by kernel_rfl, ?yfb_4⟩) hHeld ?rfb_4
          case yfb_4 =>
            intro w hSw
            try dsimp only at hSw
            obtain ⟨z2, c2, f2⟩ := hSw
            go_simp
            try with_reducible rfl
          try simp only [Act.put, List.getElem_toArray]
          refine wpAnyH_ready (rs := [0]) (by kernel_rfl) (by simp) ?_
          refine AllReadyH.cons (o := _) rfl (fun K hK => ?_) AllReadyH.nil
          go_simp
          try dsimp only
          refine hK.out _ _ (P0.below (balloc _ _)) (fun hHeld => ?_)
          clear hK K
          have hM0 : MapV Try.prog 3 (w16.alloc (.map #[] 0)).drew w16.heap.size 0 (fun _ => none) 0 := (mapV_made w16 _ _).below (ext_drew (Below.refl _ _))
          have hB0 : Below w16.heap.size w16 (w16.alloc (.map #[] 0)).drew := ext_drew (balloc w16 _)
          have hz0 : w16.heap.size < (w16.alloc (.map #[] 0)).drew.heap.size := by simp
          revert hHeld
          generalize (w16.alloc (.map #[] 0)).drew = w17 at hM0 hB0 hz0 ⊢
          intro hHeld
          have P1 := HD16.out.below hB0
          have hdm : d ≠ w16.heap.size := by have := HD16.out.lt; omega
          try simp only [Act.put, List.getElem_toArray, List.getElem_cons_zero, List.setIfInBounds_toArray, List.set_cons_zero, List.set_cons_succ]
          refine wpAnyH_ready (rs := [1, 5]) (by kernel_rfl) (by simp) ?_
          refine AllReadyH.cons (o := _) rfl (fun K hK => ?_) (AllReadyH.cons (o := _) rfl (fun K hK => ?_) AllReadyH.nil)
          · refine step_insert rfl (.tmp 173) (.const (.int .i64 0)) (.const (.slice none 0 0)) rfl (int_keyed Try.underlying3) Try.underlying34 rfl hM0 (lt_maxLen (Nat.zero_le _)) (.int .i64 0) (.slice none 0 0) (.int .i64 0) rfl rfl key0 trivial ?_
            intro w18 hm18 hd18
            refine hK.out _ _ (P1.mod hd18 hdm) (fun hHeld => ?_)
            clear hK K
            try simp only [Act.put, List.getElem_toArray, List.setIfInBounds_toArray]
            refine wpAnyH_ready (rs := [5]) (by kernel_rfl) (by simp) ?_
            refine AllReadyH.cons (o := _) rfl (fun K hK => ?_) AllReadyH.nil
            refine step_insert rfl (.tmp 173) (.tmp 175) (.tmp 176) rfl (int_keyed Try.underlying3) Try.underlying34 rfl hm18 (lt_maxLen (by omega)) (.int .i64 p.st) (.slice A2 o.length c2) (.int .i64 p.st) rfl rfl HKS.out trivial ?_
            intro w19 hm19 hd19
            refine hK.out _ _ ((P1.mod hd18 hdm).mod hd19 hdm) (fun hHeld => ?_)
            clear hK K
            try simp only [Act.put, List.getElem_toArray]
            refine wpAnyH_done (by kernel_rfl) ?_ _
            clear hHeld hmk
            simp only [TailQ, List.drop_succ_cons, List.drop_zero]
            go_wp2
            go_meet
            refine ⟨w16.heap.size, _, _, rfl, Nat.le_refl _, hm19, fun k => ?_, hB0.trans ((hd18.trans hd19).toBelow hB0.size (fun x hx e => by omega))⟩
            by_cases e1 : k = p.st
            · subst e1; rw [if_pos rfl]; simp [putF]
            · by_cases e2 : k = 0
              · subst e2
                rw [if_neg e1, if_pos rfl]
                simp [putF]
                try omega
              · rw [if_neg e1, if_neg e2]
                simp [putF, e1, e2]
          · refine step_insert rfl (.tmp 173) (.tmp 175) (.tmp 176) rfl (int_keyed Try.underlying3) Try.underlying34 rfl hM0 (lt_maxLen (Nat.zero_le _)) (.int .i64 p.st) (.slice A2 o.length c2) (.int .i64 p.st) rfl rfl HKS.out trivial ?_
            intro w18 hm18 hd18
            refine hK.out _ _ (P1.mod hd18 hdm) (fun hHeld => ?_)
            clear hK K
            try simp only [Act.put, List.getElem_toArray, List.setIfInBounds_toArray]
            refine wpAnyH_ready (rs := [1]) (by kernel_rfl) (by simp) ?_
            refine AllReadyH.cons (o := _) rfl (fun K hK => ?_) AllReadyH.nil
            refine step_insert rfl (.tmp 173) (.const (.int .i64 0)) (.const (.slice none 0 0)) rfl (int_keyed Try.underlying3) Try.underlying34 rfl hm18 (lt_maxLen (by omega)) (.int .i64 0) (.slice none 0 0) (.int .i64 0) rfl rfl key0 trivial ?_
            intro w19 hm19 hd19
            refine hK.out _ _ ((P1.mod hd18 hdm).mod hd19 hdm) (fun hHeld => ?_)
            clear hK K
            try simp only [Act.put, List.getElem_toArray]
            refine wpAnyH_done (by kernel_rfl) ?_ _
            clear hHeld hmk
            simp only [TailQ, List.drop_succ_cons, List.drop_zero]
            go_wp2
            go_meet
            refine ⟨w16.heap.size, _, _, rfl, Nat.le_refl _, hm19, fun k => ?_, hB0.trans ((hd18.trans hd19).toBelow hB0.size (fun x hx e => by omega))⟩
            by_cases e1 : k = p.st
            · subst e1; rw [if_pos rfl]; simp [putF]; try omega
            · by_cases e2 : k = 0
              · subst e2
                rw [if_neg e1, if_pos rfl]
                simp [putF]
              · rw [if_neg e1, if_neg e2]
                simp [putF, e1, e2]
        obtain ⟨lb, n2, F2, rfl, hlb, hM2, hF2, hb17⟩ := hcut
        obtain ⟨w17, hw17⟩ : ∃ w17, w17 = wc := ⟨_, rfl⟩
        rw [← hw17] at hM2 hb17
        rw [← hw17]
        have HLB := Lib.hid hlb
        have HWS := Lib.hid HM16.out.size
        have HM2 := Lib.hid hM2
        have HF2 := Lib.hid hF2
        have HD17 := Lib.hid (HD16.out.below hb17)
        have HC17 := Lib.hid (HC16.out.below hb17)
        have HM17 : Hid (Mod T w w17) := Lib.hid (HM16.out.below hb17)
        have HF17 := Lib.hid (HF16.out.below hb17)
        have HB17 := Lib.hid hb17
        have HMS : Hid (n ≤ 900) := Lib.hid (by have := HF17.out.le; omega)
        clear hw17 hlb hM2 hF2 hb17 HD16 HC16 HM16 HF16 zc cc fc
        obtain ⟨zc, cc, fc⟩ := id HC17.out
        obtain ⟨zd, cd, fd⟩ := id HD17.out
        go_wp2_with (first | (at_range; refine at_rangeV rfl (.tmp 181) rfl (int_keyed Try.underlying3) Try.underlying34 rfl HF17.out ?_; intro w18 hr18 hd18 hs18; have HR18 := Lib.hid hr18; have HD18 := Lib.hid hd18; clear hr18 hd18 hs18))
        go_frame
        clear zc cc fc zd cd fd
        have HM18 := Lib.hid (HM2.out.mod HD18.out id)
        have HLR : Hid (lb ≠ w17.heap.size ∧ lb ≠ b ∧ lb ≠ d ∧ lb ≠ r) := Lib.hid (by
          have h1 := HM2.out.lt
          have h2 := HLB.out
          have h3 := HTB.out
          exact ⟨by omega, by omega, fun e => blk_ne_map HD17.out (by simp) HM2.out e.symm, by omega⟩)
        have HDL : Hid (d < w17.heap.size ∧ r < w17.heap.size ∧ b < w17.heap.size) := Lib.hid ⟨HD17.out.lt, HC17.out.lt, HF17.out.lt⟩
        go_loopw [] (fun wr => ∃ (L' : Int → Bool) (cnt nl : Nat) (FL : Lit → Option Value), RangeV Try.prog 3 wr b w17.heap.size m F n L' cnt ∧ cnt ≤ n ∧ MapV Try.prog 3 wr lb (2 + (n - cnt)) FL nl ∧ (∀ x : Int, FL (.int .i64 x) = if L' x = false ∧ (F (.int .i64 x)).isSome = true ∧ (p.st : Int) - 32 < x then F (.int .i64 x) else F2 (.int .i64 x)) ∧ Mod (fun x => x = lb ∨ x = w17.heap.size) w17 wr) (fun wr => wr.rangeLeft b w17.heap.size)
        case atStart =>
          refine ⟨_, n, n2, F2, HR18.out, Nat.le_refl _, by rw [Nat.sub_self]; exact HM18.out, fun x => ?_, HD18.out.mono (fun x _ h => h.elim)⟩
          rw [if_neg (fun h => by simp [h.2.1] at h)]
        obtain ⟨L', cnt, nl, FL, hrg, hcn, hML, hFL, hmd⟩ := hrel
        have HRG := Lib.hid hrg
        have HML := Lib.hid hML
        have HFL := Lib.hid hFL
        have HMD := Lib.hid hmd
        have HCN := Lib.hid hcn
        have hlr := HLR.out
        have hdl := HDL.out
        have HBC := Lib.hid (HC17.out.mod hmd (fun h => h.elim (fun e => hlr.2.2.2 e.symm) (fun e => by omega)))
        have HBD := Lib.hid (HD17.out.mod hmd (fun h => h.elim (fun e => hlr.2.2.1 e.symm) (fun e => by omega)))
        clear hrg hML hFL hmd hcn
        obtain ⟨zd, cd, fd⟩ := id HBD.out
        go_wp2_with (at_next; refine at_nextV rfl (.tmp 182) rfl (int_keyed Try.underlying3) Try.underlying3 rfl HRG.out ?_ ?_)
        · intro hLF
          have HLF := Lib.hid hLF
          clear hLF
          have hmx : 2 + (n - cnt) < maxLen := lt_maxLen (by have := HMS.out; omega)
          obtain ⟨zc, cc, fc⟩ := id HBC.out
          go_upto_region 42 with fail
          go_upto_region 43 with (at_mapUpdate; refine at_update rfl (.tmp 196) (.tmp 198) (.tmp 199) rfl (int_keyed Try.underlying3) Try.underlying34 rfl HML.out hmx (.int .i64 p.st) (.slice A2 o.length c2) (.int .i64 p.st) rfl rfl HKS.out trivial ?_; intro w20 hm20 hd20; have HM20 := Lib.hid hm20; have HD20 := Lib.hid hd20; clear hm20 hd20)
          clear zc cc fc zd cd fd
          have C20 := HBC.out.mod HD20.out (fun e => hlr.2.2.2 e.symm)
          have HC20 := Lib.hid C20
          have HK20 : Hid (Mod (fun x => x = lb ∨ x = w17.heap.size) w17 w20) := Lib.hid (HMD.out.trans (HD20.out.mono (fun x _ e => .inl e)))
          obtain ⟨zc, cc, fc⟩ := id C20
          go_upto_region 44 with fail
          refine wp_fresh ?_
          rintro w21 hb21
          have k21 : Mod (· = r) w20 w21 := Mod.below ((Mod.refl (· = r) w20).set (.inl rfl)) hb21
          have HC21 : Blk w21 r _ := Blk.below (by repeat (with_reducible (first | assumption | (apply Blk.at; simp; done) | apply Blk.alloc | apply Blk.drew | apply Blk.drewN | apply Blk.more | apply Blk.put | (apply Blk.far; focus (first | assumption | (apply Ne.symm; assumption) | (simp; done) | (simp <;> omega)))))) hb21
          try simp only [List.setIfInBounds_toArray, List.set_cons_zero] at HC21
          clear hb21 C20 zc cc fc
          have hm21 := HM20.out.mod k21 (fun e => hlr.2.2.2 e)
          have k1721 : Mod (fun x => x = r ∨ (x = lb ∨ x = w17.heap.size)) w17 w21 := (HK20.out.mono (fun x _ e => .inr e)).trans (k21.mono (fun x _ e => .inl e))
          go_wp2
          go_ret
          have hszM := k1721.size
          have hsz17 := HM17.out.size
          have hsz1617 := HB17.out.size
          have hwlb : w.heap.size ≤ lb := Nat.le_trans HWS.out HLB.out
          refine RFeedPost.mk ⟨(true, ⟨newV s.V p.st o, p.st, []⟩), .inr ⟨p, HT.out, HWW.out.symm⟩, rfl, ⟨fun x => x = r ∨ x = lb, lb, _, none, 0, [], ⟨HC21, ⟨_, hm21.mono (by have := HF17.out.le; omega), fun k => ?_⟩, ⟨rfl, .inl ⟨rfl, rfl⟩⟩, rfl, fun x hx => (by cases hx), fun a e => (by cases e), .inl rfl, .inr rfl, Ne.symm hlr.2.2.2, ?_, ?_⟩, ?_⟩, ?_⟩
          · -- what stands at k
            have hz : ∀ x, (x = r ∨ x = lb) ∨ Y x → ((T x ∨ x = g9) ∨ Y x) ∨ w16.heap.size ≤ x := by
              rintro x ((rfl | rfl) | e)
              · exact .inl (.inl (.inl HH.out.tr))
              · exact .inr HLB.out
              · exact .inl (.inr e)
            have k1621 : Mod (fun x => x = r ∨ w16.heap.size ≤ x) w16 w21 := (Mod.of_below HB17.out).trans (k1721.mono (fun x _ e => e.elim .inl (fun e => e.elim (fun e => .inr (e ▸ HLB.out)) (fun e => .inr (by omega)))))
            have k1621' : Mod (fun x => x = r) w16 w21 := k1621.mono (fun x hx e => e.elim id (fun e => by omega))
            simp only [newV]
            by_cases e1 : k = (p.st : Int)
            · subst e1
              rw [if_pos rfl]
              simp only [putF, if_true]
              exact ⟨A2, c2, rfl, HG1.out, HG2.out, HRO16.out.mod k1621' (fun x e => .inl (.inl (e ▸ HH.out.tr))) hz⟩
            · rw [if_neg e1]
              have e0 : putF FL (.int .i64 p.st) (.slice A2 o.length c2) (.int .i64 k) = FL (.int .i64 k) := by
                simp only [putF]
                rw [if_neg (fun h => by cases h; exact e1 rfl)]
              rw [e0, HFL.out k]
              have hVk := HFV16.out k
              by_cases e2 : (F (.int .i64 k)).isSome = true ∧ (p.st : Int) - 32 < k
              · rw [if_pos ⟨HLF.out k, e2.1, e2.2⟩, if_neg (by omega)]
                exact hVk.mod k1621' (fun x e => .inl (.inl (e ▸ HH.out.tr))) hz
              · rw [if_neg (fun h => e2 h.2), HF2.out k, if_neg e1]
                by_cases e3 : k = 0
                · subst e3
                  rw [if_pos rfl, if_neg (by omega), HOK.out.zero]
                  exact ⟨none, 0, rfl, fun _ => ⟨rfl, rfl⟩, Nat.le_refl _, RdZ.nil⟩
                · rw [if_neg e3]
                  by_cases e4 : 0 < k ∧ k ≤ (p.st : Int) - 32
                  · rw [if_pos e4]; trivial
                  · rw [if_neg e4]
                    have hno : s.V k = none := by
                      cases hq : s.V k with
                      | none => rfl
                      | some R' =>
                        exfalso
                        have h0 := (HOK.out.views k R' hq).1
                        have h1 := hVk.some_iff
                        rw [hq] at h1
                        exact e2 ⟨by simpa using h1, by omega⟩
                    rw [hno]; trivial
          · rintro x (rfl | rfl)
            · exact ⟨Nat.lt_of_lt_of_le hdl.2.1 hszM, fun hy => HNT.out _ hy HH.out.tr⟩
            · exact ⟨hm21.lt, fun hy => by have := HLY.out _ (.inr hy); have := HLB.out; omega⟩
          · exact fun x hy => by have := HLY.out x (.inr hy); omega
          · rintro x (rfl | rfl)
            · exact .inl HH.out.tr
            · exact .inr hwlb
          · refine HM17.out.trans2 k1721 (fun x hx e => ?_)
            rcases e with rfl | rfl | rfl
            · exact HH.out.tr
            · omega
            · omega
        · intro x cv w19 cnt19 hwf hLx hFx hrg19 hlt hd19 hs19 hen
          have HRG19 := Lib.hid hrg19
          have HD19 := Lib.hid hd19
          have HLX := Lib.hid hLx
          have HFX := Lib.hid hFx
          have HBD19 := Lib.hid (HBD.out.mod hd19 (fun e => by omega))
          have HML19 := Lib.hid (HML.out.mod hd19 hlr.1)
          have HLT := Lib.hid hlt
          have hkx := int_key x hwf
          have HKX := Lib.hid hkx
          have hmx : 2 + (n - cnt) < maxLen := lt_maxLen (by have := HMS.out; omega)
          have hcn := HCN.out
          have hst1 := HOP.out.1.1
          have hst2 := HOP.out.1.2.1
          clear hrg19 hd19 hLx hFx hwf hlt hs19 hkx zd cd fd
          obtain ⟨zd, cd, fd⟩ := id HBD19.out
          by_cases hx1 : (p.st : Int) - 32 < x
          · have dx1 : decide ((p.st : Int) - 32 < x) = true := decide_eq_true hx1
            go_wp2_with (first | (at_mapUpdate; refine at_update rfl (.tmp 193) (.tmp 194) (.tmp 195) rfl (int_keyed Try.underlying3) Try.underlying34 rfl HML19.out hmx (.int .i64 x) cv (.int .i64 x) rfl rfl HKX.out trivial ?_; intro w20 hm20 hd20; have HM20 := Lib.hid hm20; have HD20 := Lib.hid hd20; clear hm20 hd20))
            clear zd cd fd
            go_roundw
            case rel =>
              (repeat apply Exists.intro)
              refine ⟨⟨_, cnt19, _, _, HRG19.out.mod HD20.out (Ne.symm hlr.2.1) (Ne.symm hlr.1), by have := HLT.out; omega, HM20.out.mono (by have := HLT.out; omega), fun z => ?_, ((HMD.out.trans (HD19.out.mono fun _ _ e => .inr e)).trans (HD20.out.mono fun _ _ e => .inl e))⟩, rfl⟩
              by_cases e : z = x
              · subst e
                rw [if_pos ⟨by simp, by rw [HFX.out]; rfl, hx1⟩, HFX.out]
                simp [putF]
              · have e0 : putF FL (.int .i64 x) cv (.int .i64 z) = FL (.int .i64 z) := by
                  simp only [putF]
                  rw [if_neg (fun h => by cases h; exact e rfl)]
                rw [e0, HFL.out z]
                simp [e]
            case measure =>
              rw [(HRG19.out.mod HD20.out (Ne.symm hlr.2.1) (Ne.symm hlr.1)).left, HRG.out.left]
              exact HLT.out
          · have dx1 : decide ((p.st : Int) - 32 < x) = false := decide_eq_false hx1
            go_wp2
            go_roundw
            case rel =>
              refine ⟨_, cnt19, nl, FL, HRG19.out, by have := HLT.out; omega, HML19.out.mono (by have := HLT.out; omega), fun z => ?_, HMD.out.trans (HD19.out.mono fun _ _ e => .inr e)⟩
              by_cases e : z = x
              · subst e
                rw [if_neg (fun h => hx1 h.2.2), HFL.out z, if_neg (fun h => hx1 h.2.2)]
              · rw [HFL.out z]
                simp [e]
            case measure =>
              rw [HRG19.out.left, HRG.out.left]
              exact HLT.out
end Go.Proofs.Ytefhmbmbhiehdaa
