/- Rows of pairs, sorted. Conditions: none. -/
import Derived.Test.YtniahipadfgkbaaGreatKG6
import Derived.Test.YtniahipadfgkbaaGreatKIsort
import Derived.Test.YtniahipadfgkbaaGreatKH
import Derived.Test.YtniahipadfgkbaaGreatKY2
import Derived.Test.YtniahipadfgkbaaGreatShelf
namespace Go.Proofs.YtniahipadfgkbaaGreat
open Go Go.Maps Go.RowKit Go.BigFrame Go.ChangeShapes Go.WideShapes
theorem zero_boxT (w : World) : (zeroValue 67).run Tryz.prog w = .ok (.agg #[.int .i64 0, .int .i64 0, .int .i64 0, .int .i64 0, .int .i64 0, .int .i64 0]) w := Tryz.zeroValue67 w
/-- a slice literal -/
theorem row_new {w : World} {base : Nat} {zs : List Int} (hb : base ≤ w.heap.size) (hl : zs.length ≤ 1000000) : (w.alloc (.cells (ints zs).toArray 3)).ownsRow base 3 1 (.slice (some ⟨w.heap.size, 0, none⟩) zs.length zs.length) zs.length (ints zs) := by
  have e : (ints zs).length = zs.length := ints_len zs
  refine ⟨by rw [e, Nat.mul_one], .inr ⟨w.heap.size, zs.length, (ints zs).toArray, rfl, hb, Array.getElem?_push_size, Nat.le_refl _, by unfold maxLen; omega, ?_, ?_⟩⟩
  · rw [List.size_toArray, e, Nat.mul_one]
  · rw [Nat.mul_one, ← e]
    exact List.take_length
/-- append(s, x, y) -/
theorem app_two {P : Program} {ops : Array Oper} {o : Oper} {rest : List Oper} {a : Act} {w0 : World} {Q : Exit → Act → World → Prop} (hg : o.guard = none) (s x : Operand) (t : TypeId) (ho : o.op = .call { callee := .builtin .append, args := #[s, x], argTypes := #[t, t] }) {e : TypeId} (ht : P.underlying t = some (.slice e))
    {z : Value} {size bytes : Nat} (hinfo : (P.info? e).map (fun i => (i.zero, i.size, i.bytes)) = some (some z, size, bytes)) (hzs : z.cells.size = size) (hsz : 0 < size) (hby : bytes ≤ 1000000)
    (base : Nat) (v : Value) (n : Nat) (xs : List Value) (hs : a.eval s = v) (hown : w0.ownsRow base e size v n xs) (cs : Array Value) {T : TypeId} {p : Nat} (hx : a.eval x = .slice (some ⟨p, 0, none⟩) 2 2) (hp : p = w0.heap.size) (hcs : cs.size = 2 * size)
    (h1 : ∀ u ∈ cs.toList, u.oneCell' = true) (hn : n + 1 < 1000000) (hbase : base ≤ p)
    (h : ∀ g c w', w'.ownsRow base e size (.slice (some ⟨g, 0, none⟩) (n + 2) c) (n + 2) (xs ++ cs.toList) → Mod (fun b => v.ownBlock = some b) w0 w' → (v.ownBlock = some g ∨ p < g) → base ≤ g →
      wpList P ops Q rest (a.put o.dst (.slice (some ⟨g, 0, none⟩) (n + 2) c)) w') : wpList P ops Q (o :: rest) a (w0.alloc (.cells cs T)) := by
  obtain ⟨i, hi, hz, hsize, hbytes⟩ := info_three hinfo
  subst hp
  have hb : Below w0.heap.size w0 (w0.alloc (.cells cs T)) := (Below.refl _ _).alloc (Nat.le_refl _) _
  refine wpList_append_own_at (P := P) (w := w0.alloc (.cells cs T)) hg s x t ho base e i z size bytes ht hi hz hsize hbytes hzs hsz v n xs hs (row_below hown hb) ⟨w0.heap.size, 0, none⟩ 2 2 cs.toList hx (by simp [hcs]) ?_ h1 (by unfold maxLen; omega) ?_ (by simp; omega) ?_
  · intro j u hu
    have e1 : (⟨w0.heap.size, 0, none⟩ : Addr).add j = ⟨w0.heap.size, j, none⟩ := by
      unfold Addr.add
      split
      · rename_i h; subst h; rfl
      · simp
    rw [e1, World.cell?_alloc_new]
    simpa using hu
  · exact Nat.le_trans (Nat.mul_le_mul (by omega) hby) (show 1000000 * 1000000 ≤ 140737488355328 by decide)
  · intro v' w' hrow hgr _ hwh
    obtain ⟨g, c, rfl, hbg, _⟩ := row_at hrow (by omega)
    refine h g c w' hrow ?_ ?_ hbg
    · exact (Mod.of_below hb).trans ((mod_grown hgr).mono fun _ _ h => h)
    · rcases hwh with hw | hw
      · left; rw [← hw]; rfl
      · right
        have : g = (w0.alloc (.cells cs T)).heap.size := by simpa [Value.ownBlock] using hw
        rw [this]; simp
/-- what Query answers: the bodies whose boxes meet this one, rising -/
def QPost (D : Int → Option Bx) (n : Nat) (q : Bx) (w : World) (e : Ending) (w' : World) : Prop :=
  ∃ (v : Value) (zs : List Int), e = .returned v ∧ Below w.heap.size w w' ∧ w'.ownsRow w.heap.size 3 1 v zs.length (ints zs) ∧ zs.Pairwise (· < ·) ∧ zs.length ≤ n ∧ ∀ x, x ∈ zs ↔ ∃ b, D x = some b ∧ meetX b q = true
theorem row_nilB {w : World} {base : Nat} {v : Value} {xs : List Value} (h : w.ownsRow base 3 1 v 0 xs) : ∃ A C, v = .slice A 0 C := by
  rcases h.2 with ⟨e, _⟩ | ⟨g, cap, cur, e, _⟩
  · exact ⟨none, 0, e⟩
  · exact ⟨_, cap, e⟩
theorem row_nil0 (w : World) (base : Nat) : w.ownsRow base 3 1 (.slice none 0 0) 0 (ints []) := ⟨by simp [ints], .inl ⟨rfl, by simp⟩⟩
/-- there are no boxes -/
theorem query_none (w : World) (t : Nat) (q : Bx) (nv fv : Value) (rt : Int) (lf bx : Nat) (fat : Int) (hB : Blk w t #[nv, fv, .int .i64 rt, .bool false, .map (some lf), .map (some bx), .int .i64 fat]) :
    Calls Tryz.prog 51 #[.pointer (some ⟨t, 0, none⟩), bxV q] w fun e w' => e = .returned (.slice none 0 0) ∧ Below w.heap.size w w' := by
  have HB := Lib.hid hB
  clear hB
  unfold bxV
  obtain ⟨zt, ct, ft⟩ := id HB.out
  go_enter Tryz.func51, Tryz.ntmps51
  go_wp2
  go_ret
  exact ⟨rfl, (by repeat (with_reducible (first | exact Below.refl _ _ | assumption | apply ext_drew | apply ext_drewN | apply ext_alloc | apply ext_more | (refine ext_setCell ?_ (by first | assumption | (simp <;> omega)) _) | (refine ext_below ?_ (by assumption)))))⟩
/-- the round's state: the trees still to do, the bodies found -/
structure QR (w0 wr : World) (nn : Nat) (M : Nat → Nat → Int) (D : Int → Option Bx) (q : Bx) (T0 : Tr) (st : List Tr) (os : List Int) (vt vo : Value) : Prop where
  ext : Below w0.heap.size w0 wr
  todo : wr.ownsRow w0.heap.size 3 1 vt st.length (ints (st.map fun T => (T.ix : Int)))
  out : wr.ownsRow w0.heap.size 3 1 vo os.length (ints os)
  ne : ∀ b, vt.ownBlock = some b → vo.ownBlock ≠ some b
  tr : ∀ T ∈ st, (∃ up, Rep M up T) ∧ (∀ k ∈ T.lvs, k ∈ T0.lvs) ∧ ∀ k ∈ T.all, k < nn
  len : (st.flatMap Tr.all).length ≤ 800000
  perm : (os ++ st.flatMap (qOf M D q)).Perm (qOf M D q T0)
theorem flat_len : ∀ st : List Tr, st.length ≤ (st.flatMap Tr.all).length := by
  intro st
  induction st with
  | nil => simp
  | cons T st ih =>
    have := List.length_pos_of_mem T.ix_mem
    simp only [List.length_cons, List.flatMap_cons, List.length_append]
    omega
set_option maxRecDepth 100000 in
set_option maxHeartbeats 16000000 in
theorem query_some (w : World) (t : Nat) (q : Bx) (s : BT) (M : Nat → Nat → Int) (F : List Nat) (m mb n : Nat) (f : Int → Option Nat) (T0 : Tr) (D : Int → Option Bx) (hX : BWx w t s M F m mb n f (some T0) D) (hn : n ≤ 60) (hnn : s.nn < 800000) (hwf : ∀ id, (D id).isSome = true → keyOf Tryz.prog 3 (.int .i64 id) = some (.int .i64 id)) :
    Calls Tryz.prog 51 #[.pointer (some ⟨t, 0, none⟩), bxV q] w (QPost D n q w) := by
  obtain ⟨hsom, hroot, hR, hbal, hid, hlen⟩ := hX.tre.some_ T0 rfl
  have HQ := Lib.hid (qOf_all (q := q) hX.tre hX.bxs)
  have HLV := Lib.hid (Bxs.leaf hX.tre hX.bxs)
  have HRT := Lib.hid hroot
  have HRP := Lib.hid hR
  have HID := Lib.hid hid
  have HN := Lib.hid hn
  have HWF := Lib.hid hwf
  have HAL : Hid ((∀ k ∈ T0.all, k < s.nn) ∧ T0.all.length ≤ 800000) := Lib.hid ⟨fun k hk => hX.tre.lt k (List.mem_append_left _ hk), by
    have := nodup_bound (l := T0.all) (List.nodup_append.1 hX.tre.nd).1 (fun k hk => hX.tre.lt k (List.mem_append_left _ hk))
    omega⟩
  have HX := Lib.hid hX
  have HB : Hid (Blk w t #[.slice (some ⟨s.nb, 0, none⟩) s.nn s.cap, s.fv, .int .i64 s.root, .bool true, .map (some s.lf), .map (some s.bx), .int .i64 s.fat]) := Lib.hid (by rw [← hsom]; exact hX.tw.blk)
  have HSM := Lib.hid hsom
  clear hX hroot hR hbal hid hlen hn hnn hwf hsom
  unfold bxV
  obtain ⟨zt, ct, ft⟩ := id HB.out
  go_enter Tryz.func51, Tryz.ntmps51
  go_upto_region 4 with fail
  refine wp_fresh ?_
  rintro w1 hb1
  have hB1 : Blk w1 w.heap.size #[.int .i64 q.a1, .int .i64 q.a2, .int .i64 q.a3, .int .i64 q.b1, .int .i64 q.b2, .int .i64 q.b3] := Blk.below (by repeat (with_reducible (first | assumption | (apply Blk.at; simp; done) | apply Blk.alloc | apply Blk.drew | apply Blk.drewN | apply Blk.more | apply Blk.put | (apply Blk.far; focus (first | assumption | (apply Ne.symm; assumption) | (simp; done) | (simp <;> omega)))))) hb1
  have hv1 : Below w.heap.size w w1 := (by repeat (with_reducible (first | exact Below.refl _ _ | assumption | apply ext_drew | apply ext_drewN | apply ext_alloc | apply ext_more | (refine ext_setCell ?_ (by first | assumption | (simp <;> omega)) _) | (refine ext_below ?_ (by assumption)))))
  obtain ⟨p, hp⟩ : ∃ p, p = w.heap.size := ⟨_, rfl⟩
  rw [← hp] at hB1
  rw [← hp]
  have HP := Lib.hid hp
  have HB1 := Lib.hid hB1
  have HV1 := Lib.hid hv1
  have HX1 := Lib.hid (HX.out.below hv1)
  have HT1 : Hid (Blk w1 t #[.slice (some ⟨s.nb, 0, none⟩) s.nn s.cap, s.fv, .int .i64 s.root, .bool true, .map (some s.lf), .map (some s.bx), .int .i64 s.fat]) := Lib.hid (HB.out.below hv1)
  clear hb1 hB1 hv1 hp zt ct ft
  obtain ⟨zt, ct, ft⟩ := id HT1.out
  go_wp2_with fail
  go_loopg [5, 6] (T0.all.length) (fun k vo vt wr => ∃ (st : List Tr) (os : List Int) (vt' vo' : Value), vt' = vt ∧ vo' = vo ∧ k = (st.flatMap Tr.all).length ∧ QR w1 wr s.nn M D q T0 st os vt' vo')
  case atStart =>
    refine ⟨[T0], [], _, _, rfl, rfl, by simp, ⟨ballocT _ _, ?_, row_nil0 _ _, fun b _ e => (by cases e), fun T hT => ?_, by simp; exact HAL.out.2, by simp⟩⟩
    · have h := row_new (w := w1) (base := w1.heap.size) (zs := [(T0.ix : Int)]) (Nat.le_refl _) (by simp)
      rw [HRT.out]
      exact h
    · have e : T = T0 := by simpa using hT
      subst e
      exact ⟨⟨_, HRP.out⟩, fun k hk => hk, HAL.out.1⟩
  case round =>
    clear zt ct ft
    obtain ⟨st, os, vt, vo, hv1, hv2, hk, hR⟩ := hrel
    subst hv1 hv2
    have HR := Lib.hid hR
    have HK := Lib.hid hk
    have HXr := Lib.hid (HX1.out.below hR.ext)
    have HBr := Lib.hid (HB1.out.below hR.ext)
    have HTr := Lib.hid (HT1.out.below hR.ext)
    have hw1r := hR.ext.size
    clear hR hk
    rcases List.eq_nil_or_concat st with rfl | ⟨st', T, rfl⟩
    · obtain ⟨A, C, hvt⟩ := row_nilB HR.out.todo
      subst hvt
      have hol : os.length < 1000000 := by
        have h1 := HR.out.perm.length_eq
        have h2 := HQ.out.2.1
        have h3 := HN.out
        simp only [List.flatMap_nil, List.append_nil] at h1
        omega
      go_wp2_with fail
      refine (sort_c w1.heap.size _ os wr HR.out.out hol).mono ?_
      rintro e w2 ⟨rfl, hrow, hmod⟩
      have HROW := Lib.hid hrow
      have HMOD := Lib.hid hmod
      clear hrow hmod
      go_wp2
      go_ret
      have hperm : os.Perm (qOf M D q T0) := by simpa using HR.out.perm
      have hm1 : Mod (fun b => w1.heap.size ≤ b) w1 w2 := (Mod.of_below HR.out.ext).trans (HMOD.out.mono fun b _ h => (row_lt HR.out.out h).2)
      have hb2 : Below w1.heap.size w1 w2 := hm1.toBelow (Nat.le_refl _) (fun b h1 h2 => by omega)
      have hsp := List.mergeSort_perm os fun x y => decide (x ≤ y)
      have hnd : (srt os).Nodup := hsp.nodup_iff.2 (hperm.nodup_iff.2 HQ.out.1)
      have hle : (srt os).Pairwise (· ≤ ·) := by
        have := List.pairwise_mergeSort (le := fun x y : Int => decide (x ≤ y)) (fun a b c h1 h2 => by simp only [decide_eq_true_eq] at *; omega) (fun a b => by simp only [Bool.or_eq_true, decide_eq_true_eq]; omega) os
        exact this.imp (fun h => by simpa using h)
      refine ⟨_, srt os, rfl, HV1.out.trans (hb2.mono HV1.out.size), ⟨HROW.out.1, ?_⟩, ?_, ?_, fun x => ?_⟩
      · rcases HROW.out.2 with h | ⟨g, cap, cur, h1, h2, h3⟩
        · exact .inl h
        · exact .inr ⟨g, cap, cur, h1, Nat.le_trans HV1.out.size h2, h3⟩
      · exact (hle.and hnd).imp (fun h => by omega)
      · rw [srt_len, hperm.length_eq]
        exact HQ.out.2.1
      · rw [← HQ.out.2.2 x, ← hperm.mem_iff]
        exact hsp.mem_iff
    · rw [List.concat_eq_append] at *
      obtain ⟨⟨up, hT⟩, hTl, hTa⟩ := HR.out.tr T (by simp)
      have hTx : T.ix < s.nn := hTa _ T.ix_mem
      have HT := Lib.hid hT
      have HTL := Lib.hid hTl
      have HTA := Lib.hid hTa
      clear hT hTl hTa
      have htodo := HR.out.todo
      rw [List.length_append, List.map_append] at htodo
      obtain ⟨j, hj⟩ : ∃ j, j = st'.length := ⟨_, rfl⟩
      rw [← hj] at htodo
      have htodo' : wr.ownsRow w1.heap.size 3 1 vt (j + 1) (ints (st'.map (fun T => (T.ix : Int)) ++ [(T.ix : Int)])) := htodo
      obtain ⟨g, C, hvt, hbg, hgl, hmC, hC, fg, cg, -⟩ := row_at htodo' (by omega)
      subst hvt
      have HTD := Lib.hid htodo'
      have qg : wr.cell? ⟨g, j, none⟩ = some (.int .i64 (T.ix : Int)) := by
        refine cg j _ ?_
        rw [hj]
        simp [ints]
      have hjm : j < 1000000 := by
        have h1 := HR.out.len
        have h2 := flat_len (st' ++ [T])
        rw [List.length_append] at h2
        simp only [List.length_cons, List.length_nil] at h2
        omega
      have HJ := Lib.hid (And.intro hj (And.intro hmC hjm))
      have hj0 : decide ((0 : Int) < (j : Int) + 1) = true := decide_eq_true (by omega)
      have hw1 : wrap64 ((j : Int) + 1 - 1) = j := by unfold wrap64; omega
      have hbl : s.nb < wr.heap.size := HXr.out.tw.nt.lt
      have q0 := HXr.out.tw.nt.cell hTx (j := 0) (by decide)
      have q1 := HXr.out.tw.nt.cell hTx (j := 1) (by decide)
      have q2 := HXr.out.tw.nt.cell hTx (j := 2) (by decide)
      have q3 := HXr.out.tw.nt.cell hTx (j := 3) (by decide)
      have q4 := HXr.out.tw.nt.cell hTx (j := 4) (by decide)
      have q5 := HXr.out.tw.nt.cell hTx (j := 5) (by decide)
      have q6 := HXr.out.tw.nt.cell hTx (j := 6) (by decide)
      have q7 := HXr.out.tw.nt.cell hTx (j := 7) (by decide)
      have q8 := HXr.out.tw.nt.cell hTx (j := 8) (by decide)
      have q9 := HXr.out.tw.nt.cell hTx (j := 9) (by decide)
      have q10 := HXr.out.tw.nt.cell hTx (j := 10) (by decide)
      simp only [Nat.add_zero] at q0
      clear htodo htodo' hj hC hbg cg
      obtain ⟨zt, ct, ft⟩ := id HTr.out
      obtain ⟨zp, cp, fp⟩ := id HBr.out
      obtain ⟨x, hx⟩ : ∃ x, x = T.ix := ⟨_, rfl⟩
      go_upto_region 6 with fail
      have HG := Lib.hid (And.intro qg hgl)
      have HTX := Lib.hid hTx
      clear zt ct ft q0 q1 q2 q3 q4 q5 q6 q7 q8 q9 q10 qg zp cp fp hgl fg hbl hTx
      refine region_grow (A := ?A1) 12 [7] (fun _ => #[.int .i64 0, .int .i64 0, .int .i64 0, .int .i64 0, .int .i64 0, .int .i64 0, .int .i64 0, .int .i64 0, .int .i64 0, .int .i64 0, .int .i64 0]) (by kernel_rfl) (by kernel_rfl) ?hrun ?hq ?htail
      case hq =>
        intro w0 hb0
        simp only [List.take_succ_cons, List.take_zero]
        have CT := HTr.out.below hb0
        have hN0 := HXr.out.tw.nt.below hb0
        have qg0 : w0.cell? ⟨g, j, none⟩ = some (.int .i64 (T.ix : Int)) := (hb0.cell (p := ⟨g, j, none⟩) HG.out.2).trans HG.out.1
        have hgl0 : g < w0.heap.size := Nat.lt_of_lt_of_le HG.out.2 hb0.size
        have hTx := HTX.out
        have hbl0 : s.nb < w0.heap.size := hN0.lt
        have q0 := hN0.cell hTx (j := 0) (by decide)
        have q1 := hN0.cell hTx (j := 1) (by decide)
        have q2 := hN0.cell hTx (j := 2) (by decide)
        have q3 := hN0.cell hTx (j := 3) (by decide)
        have q4 := hN0.cell hTx (j := 4) (by decide)
        have q5 := hN0.cell hTx (j := 5) (by decide)
        have q6 := hN0.cell hTx (j := 6) (by decide)
        have q7 := hN0.cell hTx (j := 7) (by decide)
        have q8 := hN0.cell hTx (j := 8) (by decide)
        have q9 := hN0.cell hTx (j := 9) (by decide)
        have q10 := hN0.cell hTx (j := 10) (by decide)
        simp only [Nat.add_zero] at q0
        obtain ⟨zt, ct, ft⟩ := id CT
        have hmc := more_cell
        repeat (go_big_quiet_step (fail))
        refine wpQuiet_nil ?_
        rfl
      case hrun =>
        intro j hj
        match j, hj with
        | 0, _ => exact ⟨_, _, rfl, fun a w => by simp [go_sem]; rfl⟩
      case htail =>
        intro gs w2 hb2 hblk hne
        obtain ⟨G0, hg0⟩ := hblk 0 (by decide)
        simp only [List.drop_succ_cons, List.drop_zero, List.length_cons, List.length_nil, laySlots]
        clear hblk hne
        generalize gs 0 = p7 at *
        have hp7 : wr.heap.size ≤ p7 := hg0
        clear hg0
        obtain ⟨zg, cg, fg⟩ := id G0
        have hTx := HTX.out
        have hN2 := HXr.out.tw.nt.below hb2
        go_upto_region 7 with fail
        refine wp_named ?_
        rintro w3 hw3
        have G3 : Blk w3 p7 #[.int .i64 (M T.ix 0), .int .i64 (M T.ix 1), .int .i64 (M T.ix 2), .int .i64 (M T.ix 3), .int .i64 (M T.ix 4), .int .i64 (M T.ix 5), .int .i64 (M T.ix 6), .int .i64 (M T.ix 7), .int .i64 (M T.ix 8), .int .i64 (M T.ix 9), .int .i64 (M T.ix 10)] := by
          rw [hw3]
          refine blk_asB (cs := _) (by repeat (with_reducible (first | assumption | (apply Blk.at; simp; done) | apply Blk.alloc | apply Blk.drew | apply Blk.drewN | apply Blk.more | apply Blk.put | (apply Blk.far; focus (first | assumption | (apply Ne.symm; assumption) | (simp; done) | (simp <;> omega)))))) ?_
          simp only [List.setIfInBounds_toArray, List.set_cons_zero, List.set_cons_succ]
        have hm3 : Mod (· = p7) w2 w3 := by
          rw [hw3]
          repeat (refine Mod.set (S := (· = p7)) ?_ (.inl rfl))
          exact Mod.refl _ _
        have hb3 : Below wr.heap.size wr w3 := hb2.trans (hm3.toBelow hb2.size (fun b h1 h2 => by omega))
        have HG3 := Lib.hid G3
        have HB3 := Lib.hid hb3
        have HBQ := Lib.hid (HBr.out.below hb3)
        have HP7 := Lib.hid hp7
        clear G3 hm3 hb3 hw3 zg cg fg hN2 G0 hp7 hb2
        have hmC1 : j + 1 ≤ C := HJ.out.2.1
        have hw2 : wrap64 (j : Int) = j := by unfold wrap64; have := HJ.out.2.2; omega
        obtain ⟨z7, c7, f7⟩ := id HG3.out
        obtain ⟨zp, cp, fp⟩ := id HBQ.out
        go_wp2_with fail
        refine (meet_c _ _ _ _ _ _ _ _ _ _ _ _ _).mono ?_
        rintro e w4 ⟨rfl, hb4⟩
        have HB4 : Hid (Below wr.heap.size wr w4) := Lib.hid (HB3.out.trans (hb4.mono HB3.out.size))
        have HG4 := Lib.hid (HG3.out.below hb4)
        have HTD4 : Hid (w4.ownsRow w1.heap.size 3 1 (.slice (some ⟨g, 0, none⟩) j C) j (ints (st'.map fun T => (T.ix : Int)))) := Lib.hid (by
          have h := row_take (row_below HTD.out HB4.out) (k := j) (by omega)
          rw [List.take_left' (by rw [List.length_map]; exact HJ.out.1.symm)] at h
          exact h)
        have HO4 := Lib.hid (row_below HR.out.out HB4.out)
        have HE4 : Hid (Below w1.heap.size w1 w4) := Lib.hid (HR.out.ext.trans (HB4.out.mono HR.out.ext.size))
        have HNE : Hid (vo.ownBlock ≠ some g) := Lib.hid (HR.out.ne g rfl)
        clear hb4 z7 c7 f7 zp cp fp hmC1 hw2
        obtain ⟨z7, c7, f7⟩ := id HG4.out
        have HXw4 := Lib.hid (HX1.out.below HE4.out)
        have HTt4 := Lib.hid (HT1.out.below HE4.out)
        have HBq4 := Lib.hid (HB1.out.below HE4.out)
        obtain ⟨me, hme⟩ : ∃ x, x = meetX (nodeBx M T.ix) q := ⟨_, rfl⟩
        have hme' : meetB (M T.ix 0) (M T.ix 1) (M T.ix 2) (M T.ix 3) (M T.ix 4) (M T.ix 5) q.a1 q.a2 q.a3 q.b1 q.b2 q.b3 = me := by rw [hme]; rfl
        rw [hme']
        have HME := Lib.hid hme
        clear hme hme'
        have HLE : Hid ((st'.flatMap Tr.all).length + T.all.length = gk ∧ gk ≤ 800000) := Lib.hid ⟨by rw [HK.out, List.flatMap_append, List.length_append]; simp, by rw [HK.out]; exact HR.out.len⟩
        have HPM : Hid ((os ++ (st'.flatMap (qOf M D q) ++ qOf M D q T)).Perm (qOf M D q T0)) := Lib.hid (by have h := HR.out.perm; rw [List.flatMap_append] at h; simpa using h)
        have HTR : Hid (∀ T ∈ st', (∃ up, Rep M up T) ∧ (∀ k ∈ T.lvs, k ∈ T0.lvs) ∧ ∀ k ∈ T.all, k < s.nn) := Lib.hid (fun T hT => HR.out.tr T (List.mem_append_left _ hT))
        cases me with
        | false =>
          go_wp2
          go_roundg ((st'.flatMap Tr.all).length)
          case measure =>
            have := List.length_pos_of_mem T.ix_mem
            have := HLE.out
            omega
          case rel =>
            have hq : qOf M D q T = [] := qOf_none HT.out (fun k hk => HLV.out k (HTL.out k hk)) HME.out.symm
            have hp := HPM.out
            rw [hq, List.append_nil] at hp
            exact ⟨st', os, _, _, rfl, rfl, rfl, ⟨HE4.out, by rw [← HJ.out.1]; exact HTD4.out, HO4.out, fun b e => by cases e; exact HNE.out, HTR.out, by have := HLE.out; omega, hp⟩⟩
        | true =>
          cases T with
          | nd k l r =>
            have h7 : M (Tr.nd k l r).ix 7 = (l.ix : Int) := HT.out.2.1
            have h8 : M (Tr.nd k l r).ix 8 = (r.ix : Int) := HT.out.2.2.1
            obtain ⟨li, hli⟩ : ∃ x : Nat, x = l.ix := ⟨_, rfl⟩
            obtain ⟨ri, hri⟩ : ∃ x : Nat, x = r.ix := ⟨_, rfl⟩
            rw [← hli] at h7
            rw [← hri] at h8
            rw [h7, h8] at c7
            have HLI := Lib.hid (And.intro hli hri)
            have d0 : decide ((0 : Int) ≤ (li : Int)) = true := decide_eq_true (by omega)
            clear h7 h8 hli hri
            go_wp2_with (at_builtin; go_must (refine app_two rfl (.tmp 48) (.tmp 53) 86 rfl Tryz.underlying86 intInfoT rfl (by decide) (by decide) w1.heap.size _ j _ rfl HTD4.out #[.int .i64 (li : Int), .int .i64 (ri : Int)] rfl rfl rfl (by intro u hu; simp at hu; rcases hu with rfl | rfl <;> rfl) (by have := HJ.out.2.2; have := HLE.out; have := flat_len st'; have := HJ.out.1; omega) HE4.out.size ?_; intro g' c' w5 hown hmod hwh hbg; have HOWN := Lib.hid hown; have HMOD := Lib.hid hmod; have HWH := Lib.hid hwh; clear hown hmod hwh hbg))
            go_roundg (((st' ++ [l, r]).flatMap Tr.all).length)
            case measure =>
              have := HLE.out
              simp only [List.flatMap_append, List.flatMap_cons, List.flatMap_nil, List.append_nil, List.length_append, Tr.all, List.length_cons] at this ⊢
              omega
            case rel =>
              have hmg : Mod (fun b => b = g) w4 w5 := HMOD.out.mono fun b _ e => (Option.some.inj e).symm
              have hbg : w1.heap.size ≤ g := (row_lt HTD.out (b := g) rfl).2
              have hbe : Below w1.heap.size w1 w5 := HE4.out.trans (hmg.toBelow HE4.out.size (fun b h1 (h2 : b = g) => by omega))
              have hp := HPM.out
              rw [qOf_nd] at hp
              refine ⟨st' ++ [l, r], os, _, _, rfl, rfl, rfl, ⟨hbe, ?_, row_mod HO4.out hmg (fun b e e2 => HNE.out (e2 ▸ e)), ?_, ?_, ?_, ?_⟩⟩
              · have h := HOWN.out
                rw [HLI.out.1, HLI.out.2] at h
                rw [List.length_append, ← HJ.out.1]
                have e : ints ((st' ++ [l, r]).map fun T => (T.ix : Int)) = ints (st'.map fun T => (T.ix : Int)) ++ (#[.int .i64 (l.ix : Int), .int .i64 (r.ix : Int)] : Array Value).toList := by simp [ints]
                rw [e]
                exact h
              · intro b e
                have e' : g' = b := Option.some.inj e
                subst e'
                rcases HWH.out with h | h
                · have h' : g = g' := Option.some.inj h
                  rw [← h']
                  exact HNE.out
                · intro h2
                  have := (row_lt HO4.out h2).1
                  omega
              · intro T hT'
                rcases List.mem_append.1 hT' with h | h
                · exact HTR.out T h
                · have hr := HT.out
                  obtain ⟨_, _, _, _, r1, r2⟩ := hr
                  have h' : T = l ∨ T = r := by simpa using h
                  rcases h' with e | e
                  · subst e
                    exact ⟨⟨_, r1⟩, fun x hx => HTL.out x (List.mem_append_left _ hx), fun x hx => HTA.out x (List.mem_cons_of_mem _ (List.mem_append_left _ hx))⟩
                  · subst e
                    exact ⟨⟨_, r2⟩, fun x hx => HTL.out x (List.mem_append_right _ hx), fun x hx => HTA.out x (List.mem_cons_of_mem _ (List.mem_append_right _ hx))⟩
              · have := HLE.out
                simp only [List.flatMap_append, List.flatMap_cons, List.flatMap_nil, List.append_nil, List.length_append, Tr.all, List.length_cons] at this ⊢
                omega
              · simpa [List.flatMap_append] using hp
          | lf k =>
            have h7 : M (Tr.lf k).ix 7 = -1 := HT.out.2.1
            have hkT : k ∈ T0.lvs := HTL.out k (by simp [Tr.lvs])
            have hf9 : f (M k 9) = some k := (HID.out (M k 9) k).2 ⟨hkT, rfl⟩
            obtain ⟨bb, hbb⟩ : ∃ bb, D (M k 9) = some bb := by
              have h := HX.out.bxs.same (M k 9)
              rw [hf9] at h
              exact Option.isSome_iff_exists.1 h.symm
            have hky := HWF.out (M k 9) (by rw [hbb]; rfl)
            simp only [Tr.ix] at c7 h7
            rw [h7] at c7
            obtain ⟨id9, hid9⟩ : ∃ x, x = M k 9 := ⟨_, rfl⟩
            rw [← hid9] at c7 hbb hky
            obtain ⟨Fb, hFb, hFv⟩ := HXw4.out.bxm
            have hFv9 : Fb (.int .i64 id9) = some (bxV bb) := by rw [hFv]; show Option.map bxV (D id9) = _; rw [hbb]; rfl
            have HFB := Lib.hid hFb
            have HFV := Lib.hid hFv9
            have HKY := Lib.hid hky
            have HBBX := Lib.hid (And.intro hbb hid9)
            clear hf9 h7 hbb hid9 hky hFb hFv hFv9
            have d0 : decide ((0 : Int) ≤ -1) = false := rfl
            go_upto_region 11 with fail
            obtain ⟨zt, ct, ft⟩ := id HTt4.out
            obtain ⟨zp, cp, fp⟩ := id HBq4.out
            have hmc := more_cell
            refine region_quiet_all (by kernel_rfl) (by kernel_rfl) ?_
            repeat (go_big_quiet_step (fail))
            go_big_quiet_want
            refine qlook1 (.tmp 59) (.tmp 61) rfl (int_keyed Tryz.underlying3) Tryz.underlying88 zero_boxT rfl (by rintro _ ⟨mm, rfl⟩; exact HFB.out.below (more_below _ mm)) (.int .i64 id9) (.int .i64 id9) rfl HKY.out trivial ?_
            rw [HFV.out]
            unfold bxV
            simp only [Act.put, List.setIfInBounds_toArray, List.set_cons_zero, List.set_cons_succ, Option.getD_some]
            go_big_quiet_on
            repeat (go_big_quiet_step (first | (go_at_call 77; exact calls_after (meet_c _ _ _ _ _ _ _ _ _ _ _ _ _))))
            refine wpQuiet_nil ?_
            rintro w5 hw5
            have hb5 := after_below hw5
            clear hw5 hmc zt ct ft zp cp fp z7 c7 f7
            have HO5 := Lib.hid (row_below HO4.out hb5)
            have HTD5 := Lib.hid (row_below HTD4.out hb5)
            have HG5 := Lib.hid (HG4.out.below hb5)
            have HE5 : Hid (Below w1.heap.size w1 w5) := Lib.hid (HE4.out.trans (hb5.mono HE4.out.size))
            clear hb5
            obtain ⟨me, hme⟩ : ∃ x, x = meetX bb q := ⟨_, rfl⟩
            have hme' : meetB bb.a1 bb.a2 bb.a3 bb.b1 bb.b2 bb.b3 q.a1 q.a2 q.a3 q.b1 q.b2 q.b3 = me := by rw [hme]; rfl
            rw [hme']
            have HMB := Lib.hid hme
            clear hme hme'
            have HQL : Hid (qOf M D q (.lf k) = if me then [id9] else []) := Lib.hid (by
              rw [qOf_lf, ← HBBX.out.2]
              unfold meetD
              rw [HBBX.out.1]
              show (if meetX bb q = true then _ else _) = _
              rw [HMB.out])
            cases me with
            | false =>
              go_wp2
              go_roundg ((st'.flatMap Tr.all).length)
              case measure =>
                have := List.length_pos_of_mem (Tr.lf k).ix_mem
                have := HLE.out
                omega
              case rel =>
                have hp := HPM.out
                rw [HQL.out] at hp
                simp only [Bool.false_eq_true, if_false, List.append_nil] at hp
                exact ⟨st', os, _, _, rfl, rfl, rfl, ⟨HE5.out, by rw [← HJ.out.1]; exact HTD5.out, HO5.out, fun b e => by cases e; exact HNE.out, HTR.out, by have := HLE.out; omega, hp⟩⟩
            | true =>
              obtain ⟨z7, c7, f7⟩ := id HG5.out
              simp only [Tr.ix] at c7
              rw [← HBBX.out.2] at c7
              go_wp2_with (at_builtin; go_must (refine app_one rfl (.tmp 65) (.tmp 68) 86 rfl Tryz.underlying86 intInfoT rfl (by decide) (by decide) w1.heap.size _ os.length _ rfl HO5.out #[.int .i64 id9] rfl rfl rfl (one_int _ _) (by have h1 := HPM.out.length_eq; have h2 := HQ.out.2.1; have h3 := HN.out; rw [List.length_append] at h1; omega) HE5.out.size ?_; intro g' c' w6 hown hmod hwh hbg; have HOWN := Lib.hid hown; have HMOD := Lib.hid hmod; have HWH := Lib.hid hwh; clear hown hmod hwh hbg))
              go_roundg ((st'.flatMap Tr.all).length)
              case measure =>
                have := List.length_pos_of_mem (Tr.lf k).ix_mem
                have := HLE.out
                omega
              case rel =>
                have hp := HPM.out
                rw [HQL.out] at hp
                simp only [if_true] at hp
                have hbe : Below w1.heap.size w1 w6 := HE5.out.trans (HMOD.out.toBelow HE5.out.size (fun b h1 h2 => by have := (row_lt HO5.out h2).2; omega))
                refine ⟨st', os ++ [id9], _, _, rfl, rfl, rfl, ⟨hbe, ?_, ?_, ?_, HTR.out, by have := HLE.out; omega, ?_⟩⟩
                · rw [← HJ.out.1]
                  exact row_mod HTD5.out HMOD.out (fun b e e2 => HNE.out (by cases e; exact e2))
                · rw [List.length_append]
                  have e : ints (os ++ [id9]) = ints os ++ (#[.int .i64 id9] : Array Value).toList := by simp [ints]
                  rw [e]
                  exact HOWN.out
                · intro b e e2
                  have e' : g = b := Option.some.inj e
                  subst e'
                  have e3 : g' = g := Option.some.inj e2
                  subst e3
                  rcases HWH.out with h | h
                  · exact HNE.out h
                  · have h5 : g' < w5.heap.size := (row_lt HTD5.out rfl).1
                    omega
                · refine List.Perm.trans ?_ hp
                  rw [List.append_assoc]
                  exact List.Perm.append_left os List.perm_append_comm
end Go.Proofs.YtniahipadfgkbaaGreat
namespace Go.Proofs.YtniahipadfgkbaaGreat
open Go Go.Maps Go.RowKit Go.BigFrame Go.ChangeShapes Go.WideShapes
/-- a region that draws its order: its first operations read or draw, the tail behind -/
theorem region_drew_but {P : Program} {id : Nat} {Q : Exit → Act → World → Prop} {a : Act} {w : World} {l : List Oper} (n : Nat) (hm : P.follows .mixedOrders = true) (hB : Region.lexTailB .any l.toArray n = true)
    (h : wpQuiet P l.toArray (fun w' => ∃ q, w' = w.drewN q) (fun a' => ∀ w', (∃ q, w' = w.drewN q) → wpList P l.toArray Q (l.drop n) a' w') (l.take n) a) : (Code.region id l.toArray true).wp P Q a w :=
  region_quiet_tail (C := fun w' => ∃ q, w' = w.drewN q) n hm hB ⟨1, rfl⟩ h
theorem cell_at {w : World} {g o : Nat} {cs : Array Value} {T : TypeId} (h : g = w.heap.size) : (w.alloc (.cells cs T)).cell? ⟨g, o, none⟩ = cs[o]? := by
  subst h
  exact World.cell?_alloc_new _ _ _ _
def cmpOr (a b : Int) : Int := if a = 0 then b else a
set_option maxRecDepth 100000 in
/-- cmp.Or of two -/
theorem or_c (a b : Int) (g : Nat) (w : World) (h0 : w.cell? ⟨g, 0, none⟩ = some (.int .i64 a)) (h1 : w.cell? ⟨g, 1, none⟩ = some (.int .i64 b)) : Calls Tryz.prog 54 #[.slice (some ⟨g, 0, none⟩) 2 2] w fun e w' => e = .returned (.int .i64 (cmpOr a b)) ∧ w = w' := by
  by_cases ha : a = 0
  · subst ha
    have e : cmpOr 0 b = b := rfl
    rw [e]
    by_cases hb : b = 0
    · subst hb
      go_enter Tryz.func54, Tryz.ntmps54
      go_wp2
      refine wp_loop_rounds 3 ?_
      rw [rounds_succ]
      go_wp2
      rw [rounds_succ]
      go_wp2
      rw [rounds_succ]
      go_wp2
      go_ret
      exact ⟨rfl, rfl⟩
    · have hb' : ((b : Int) == 0) = false := by simpa using hb
      go_enter Tryz.func54, Tryz.ntmps54
      go_wp2
      refine wp_loop_rounds 2 ?_
      rw [rounds_succ]
      go_wp2
      rw [rounds_succ]
      go_wp2
      go_ret
      exact ⟨rfl, rfl⟩
  · have e : cmpOr a b = a := if_neg ha
    rw [e]
    have ha' : ((a : Int) == 0) = false := by simpa using ha
    go_enter Tryz.func54, Tryz.ntmps54
    go_wp2
    refine wp_loop_rounds 1 ?_
    rw [rounds_succ]
    go_wp2
    go_ret
    exact ⟨rfl, rfl⟩
def encP (x : Int × Int) : List Value := [.int .i64 x.1, .int .i64 x.2]
def cfP (x y : Int × Int) : Int := cmpOr (Lib.compareInt x.1 y.1) (Lib.compareInt x.2 y.2)
set_option maxRecDepth 100000 in
set_option maxHeartbeats 2000000 in
/-- the closure -/
theorem pairs_less (x y : Int × Int) (w : World) : Calls Tryz.prog 53 #[.agg (encP x).toArray, .agg (encP y).toArray] w fun e w' => e = .returned (.int .i64 (cfP x y)) ∧ ∃ q os, w' = Sort.grow (w.drewN q) os := by
  obtain ⟨x1, x2⟩ := x
  obtain ⟨y1, y2⟩ := y
  unfold encP
  obtain ⟨r1, hr1⟩ : ∃ r, r = Lib.compareInt x1 y1 := ⟨_, rfl⟩
  obtain ⟨r2, hr2⟩ : ∃ r, r = Lib.compareInt x2 y2 := ⟨_, rfl⟩
  have hc1 : ∀ w', Calls Tryz.prog 55 #[.int .i64 x1, .int .i64 y1] w' fun e w'' => e = .returned (.int .i64 r1) ∧ w'' = w' := fun w' => by rw [hr1]; exact Tryz.cmp_Compare_int x1 y1 w'
  have hc2 : ∀ w', Calls Tryz.prog 55 #[.int .i64 x2, .int .i64 y2] w' fun e w'' => e = .returned (.int .i64 r2) ∧ w'' = w' := fun w' => by rw [hr2]; exact Tryz.cmp_Compare_int x2 y2 w'
  have ecf : cfP (x1, x2) (y1, y2) = cmpOr r1 r2 := by unfold cfP; rw [hr1, hr2]
  rw [ecf]
  have HC1 := Lib.hid hc1
  have HC2 := Lib.hid hc2
  clear hr1 hr2 ecf hc1 hc2
  go_enter Tryz.func53, Tryz.ntmps53
  go_upto_region 1 with fail
  refine region_drew_but 10 (by kernel_rfl) (by kernel_rfl) ?_
  simp only [List.take_succ_cons, List.take_zero, List.drop_succ_cons, List.drop_zero]
  repeat (go_big_quiet_step (first | (go_at_call 55; with_reducible refine (HC1.out _).mono ?_; exact fun _ _ h => ⟨h.1, _, h.2⟩) | (go_at_call 55; with_reducible refine (HC2.out _).mono ?_; exact fun _ _ h => ⟨h.1, _, h.2⟩)))
  refine wpQuiet_nil ?_
  rintro w1 ⟨q, rfl⟩
  go_wp2_with fail
  refine (or_c r1 r2 _ _ ?h0 ?h1).mono ?_
  case h0 =>
    refine (cell_at ?_).trans rfl
    simp
  case h1 =>
    refine (cell_at ?_).trans rfl
    simp
  rintro e w' ⟨rfl, rfl⟩
  go_wp2
  go_ret
  refine ⟨rfl, q, (#[.cells #[.int .i64 x1, .int .i64 x2] 71] ++ #[.cells #[.int .i64 y1, .int .i64 y2] 71]) ++ #[.cells #[.int .i64 r1, .int .i64 r2] 3], ?_⟩
  rw [Sort.alloc_eq_grow, Sort.alloc_eq_grow, Sort.alloc_eq_grow, Sort.grow_grow]
  exact Sort.grow_grow (w.drewN q) _ _
theorem cfP_lt (x y : Int × Int) : ltOf cfP x y = (decide (x.1 < y.1) || (decide (x.1 = y.1) && decide (x.2 < y.2))) := by
  unfold ltOf cfP cmpOr Lib.compareInt
  by_cases h1 : x.1 < y.1
  · simp [h1]
  · by_cases h2 : y.1 < x.1
    · have h3 : ¬ x.1 = y.1 := by omega
      simp [h1, h2, h3]
    · have h3 : x.1 = y.1 := by omega
      by_cases h4 : x.2 < y.2
      · simp [h3, h4]
      · by_cases h5 : y.2 < x.2 <;> simp [h3, h4, h5]
theorem cfP_swo : Go.Sort.SWO (ltOf cfP) where
  irrefl x := by rw [cfP_lt]; simp
  trans x y z h1 h2 := by
    rw [cfP_lt] at *
    simp only [Bool.or_eq_true, Bool.and_eq_true, decide_eq_true_eq] at *
    omega
  ntrans x y z h1 h2 := by
    rw [cfP_lt] at *
    simp only [Bool.or_eq_false_iff, Bool.and_eq_false_iff, decide_eq_false_iff_not] at *
    omega
theorem cfP_tot (x y : Int × Int) (h1 : ltOf cfP x y = false) (h2 : ltOf cfP y x = false) : x = y := by
  rw [cfP_lt] at *
  simp only [Bool.or_eq_false_iff, Bool.and_eq_false_iff, decide_eq_false_iff_not] at *
  obtain ⟨a, b⟩ := x
  obtain ⟨c, d⟩ := y
  simp only [Prod.mk.injEq] at *
  omega
/-- pairs in order -/
def ltP (x y : Int × Int) : Prop := x.1 < y.1 ∨ x.1 = y.1 ∧ x.2 < y.2
def srtP (ps : List (Int × Int)) : List (Int × Int) := ps.mergeSort fun x y => !(ltOf cfP) y x
theorem srtP_sorted {ps : List (Int × Int)} (h : ps.Nodup) : (srtP ps).Pairwise ltP := by
  have h1 := List.pairwise_mergeSort (le := fun x y => !(ltOf cfP) y x) (fun a b c h1 h2 => by
    simp only [cfP_lt, Bool.not_eq_true', Bool.or_eq_false_iff, Bool.and_eq_false_iff, decide_eq_false_iff_not] at *
    omega) (fun a b => by
    simp only [cfP_lt, Bool.or_eq_true, Bool.not_eq_true', Bool.or_eq_false_iff, Bool.and_eq_false_iff, decide_eq_false_iff_not]
    omega) ps
  have h2 : (srtP ps).Nodup := (List.mergeSort_perm _ _).nodup_iff.2 h
  refine (h1.and h2).imp ?_
  rintro ⟨a, b⟩ ⟨c, d⟩ ⟨h3, h4⟩
  simp only [cfP_lt, Bool.not_eq_true', Bool.or_eq_false_iff, Bool.and_eq_false_iff, decide_eq_false_iff_not, ne_eq, Prod.mk.injEq] at h3 h4
  unfold ltP
  simp only
  omega
theorem srtP_mem {ps : List (Int × Int)} {x : Int × Int} : x ∈ srtP ps ↔ x ∈ ps := (List.mergeSort_perm _ _).mem_iff
theorem srtP_len (ps : List (Int × Int)) : (srtP ps).length = ps.length := List.length_mergeSort _
/-- pairs as cells -/
def cellsP (ps : List (Int × Int)) : List Value := ps.flatMap encP
theorem cellsP_len (ps : List (Int × Int)) : (cellsP ps).length = ps.length * 2 := by
  induction ps with
  | nil => rfl
  | cons x ps ih =>
    have e : cellsP (x :: ps) = encP x ++ cellsP ps := rfl
    rw [e, List.length_append, ih]
    simp only [encP, List.length_cons, List.length_nil]
    omega
theorem cellsP_get : ∀ (ps : List (Int × Int)) (t : Nat), t < ps.length * 2 → (cellsP ps)[t]? = some ((encP (ps.toArray[t / 2]!))[t % 2]!) := by
  intro ps
  induction ps with
  | nil => intro t ht; simp at ht
  | cons x ps ih =>
    intro t ht
    have e : cellsP (x :: ps) = encP x ++ cellsP ps := rfl
    rw [e]
    match t with
    | 0 => simp [encP]
    | 1 => simp [encP]
    | t + 2 =>
      have h1 : (encP x ++ cellsP ps)[t + 2]? = (cellsP ps)[t]? := by
        rw [List.getElem?_append_right (by simp [encP])]
        simp [encP]
      have h2 : (t + 2) / 2 = t / 2 + 1 := by omega
      have h3 : (t + 2) % 2 = t % 2 := by omega
      rw [h1, ih t (by simp only [List.length_cons] at ht; omega), h2, h3]
      simp
theorem flatP (ps : List (Int × Int)) : (Go.Sort.flatK encP 2 ps.toArray).toList = cellsP ps := by
  apply List.ext_getElem?
  intro t
  by_cases ht : t < ps.length * 2
  · rw [cellsP_get ps t ht]
    unfold Go.Sort.flatK
    rw [Array.toList_map, List.getElem?_map]
    have h : (Array.range (ps.toArray.size * 2)).toList[t]? = some t := by
      rw [Array.toList_range, List.getElem?_range]
      simpa using ht
    rw [h]
    rfl
  · rw [List.getElem?_eq_none (by simp; omega), List.getElem?_eq_none (by rw [cellsP_len]; omega)]
theorem holdsP {w : World} {g : Nat} {cur : Array Value} {e : TypeId} {ps : List (Int × Int)} (hb : w.heap[g]? = some (.cells cur e (0, 0))) (ht : cur.toList.take (ps.length * 2) = cellsP ps) : Go.Sort.HoldsK encP 2 w g 0 ps.toArray := by
  intro j hj
  have hj' : j < ps.length * 2 := by simpa using hj
  refine ⟨?_, by simp [World.frozen?, hb]⟩
  have h1 : (cur.toList.take (ps.length * 2))[j]? = (cellsP ps)[j]? := by rw [ht]
  rw [List.getElem?_take_of_lt hj', ← flatP] at h1
  simp only [World.cell?, hb, Nat.zero_add, Option.isSome_none, Bool.false_eq_true, if_false]
  rw [← Array.getElem?_toList, h1, Array.getElem?_toList, Array.getElem?_eq_getElem hj, getElem!_pos _ j hj]
  rfl
theorem heapP {w : World} {g n : Nat} {os : Array Obj} {cur : Array Value} {e : TypeId} {fr : Nat × Nat} (d : Array Value) (hb : w.heap[g]? = some (.cells cur e fr)) :
    (Go.Sort.grow (Go.Sort.putRow id (Go.Sort.ahead w n) g 0 d) os).heap[g]? = some (.cells (Go.Sort.putCells id 0 d cur) e fr) := by
  have hg : g < w.heap.size := (Array.getElem?_eq_some_iff.1 hb).1
  rw [Go.Sort.heap_grow_old _ _ (by simpa using hg)]
  simp [Go.Sort.putRow, Go.Sort.mapBlock, Go.Sort.ahead, Array.getElem?_modify, hb, Go.Sort.onCells]
theorem modP {w : World} {g n : Nat} {os : Array Obj} (d : Array Value) : Mod (· = g) w (Go.Sort.grow (Go.Sort.putRow id (Go.Sort.ahead w n) g 0 d) os) := by
  refine ⟨rfl, rfl, rfl, by simp, fun k hk hne => ?_⟩
  rw [Go.Sort.heap_grow_old _ _ (by simpa using hk)]
  have : g ≠ k := fun e => hne e.symm
  simp [Go.Sort.putRow, Go.Sort.mapBlock, Go.Sort.ahead, Array.getElem?_modify, this]
theorem takeP (cur d : Array Value) (h : d.size ≤ cur.size) : (Go.Sort.putCells id 0 d cur).toList.take d.size = d.toList := by
  apply List.ext_getElem?
  intro j
  by_cases hj : j < d.size
  · rw [List.getElem?_take_of_lt hj, Array.getElem?_toList]
    simp [Go.Sort.putCells, hj, show j < cur.size by omega]
  · rw [List.getElem?_take_eq_none (by omega), List.getElem?_eq_none (by simp; omega)]
theorem sortP_c (base : Nat) (v : Value) (ps : List (Int × Int)) (w : World) (h : w.ownsRow base 71 2 v ps.length (cellsP ps)) (hl : ps.length < 1000000) :
    Calls Tryz.prog 52 #[v, .func (.func 53) #[] #[]] w fun e w' => e = .returned (.tuple #[]) ∧ w'.ownsRow base 71 2 v (srtP ps).length (cellsP (srtP ps)) ∧ Mod (fun b => v.ownBlock = some b) w w' := by
  have nilP : ∀ p c, v = .slice p 0 c → ps.length = 0 → Calls Tryz.prog 52 #[v, .func (.func 53) #[] #[]] w fun e w' => e = .returned (.tuple #[]) ∧ w'.ownsRow base 71 2 v (srtP ps).length (cellsP (srtP ps)) ∧ Mod (fun b => v.ownBlock = some b) w w' := by
    rintro p c rfl h0
    have hz := List.length_eq_zero_iff.1 h0
    subst hz
    exact (Tryz.slices_SortFunc_none (α := Int × Int) p c _ w).mono fun e w' ⟨he, hw⟩ => ⟨he, by subst hw; simpa [srtP] using h, by subst hw; exact Mod.refl _ _⟩
  rcases h.2 with ⟨e1, e2⟩ | ⟨g, cap, cur, e1, e2, e3, e4, e5, e6, e7⟩
  · refine nilP _ _ e1 ?_
    have := cellsP_len ps
    rw [e2] at this
    simp at this
    omega
  · rcases Nat.eq_zero_or_pos ps.length with h0 | h0
    · rw [h0] at e1
      exact nilP _ _ e1 h0
    · subst e1
      have hg : g < w.heap.size := (Array.getElem?_eq_some_iff.1 e3).1
      have eg : ∀ args w, (callFunc 53 args).run Tryz.prog w = .ok (.enter 53 args) w := enters_of Tryz.func53 (by kernel_rfl) rfl
      refine (Tryz.slices_SortFunc_total (α := Int × Int) 2 Tryz.isAgg71 Tryz.sizeOf71 encP (fun _ => rfl) (fun x v hv => by simp [encP] at hv; rcases hv with rfl | rfl <;> rfl) cfP cfP_swo 53 #[] g 0 cap ps.toArray w eg (fun _ _ _ _ x y => pairs_less x y _) (holdsP e3 e7) hg (by simp; omega) cfP_tot).mono ?_
      rintro e w' ⟨he, n, os, rfl⟩
      have hs := srtP_len ps
      have hF : (Go.Sort.flatK encP 2 (srtP ps).toArray).size = ps.length * 2 := by simp [hs]
      refine ⟨he, ⟨by rw [cellsP_len], .inr ⟨g, cap, _, by rw [hs], e2, heapP _ e3, by rw [hs]; exact e4, e5, by simp [Go.Sort.putCells, e6], ?_⟩⟩, (modP _).mono fun b _ e => by rw [e]; rfl⟩
      have ht := takeP cur (Go.Sort.flatK encP 2 (srtP ps).toArray) (by rw [hF, e6]; omega)
      rw [hF, flatP, ← hs] at ht
      exact ht
end Go.Proofs.YtniahipadfgkbaaGreat
