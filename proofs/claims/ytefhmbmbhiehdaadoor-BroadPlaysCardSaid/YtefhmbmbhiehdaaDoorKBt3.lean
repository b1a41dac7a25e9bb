/- mend of broad.Tree. Conditions: none. -/
import Derived.Deep.LoopGhost
import Derived.Test.YtefhmbmbhiehdaaDoorKBtP
namespace Go.Proofs.YtefhmbmbhiehdaaDoor
open Go Go.Maps Go.RowKit Go.BigFrame Go.ChangeShapes Go.WideShapes
/-- what mend keeps from round to round -/
structure MendR (w0 wr : World) (t : Nat) (s : BT) (M0 : Nat → Nat → Int) (T0 : Tr) (c0 : Cx) (all lvs : List Nat) (M : Nat → Nat → Int) (rt : Int) (T : Tr) (c : Cx) : Prop where
  blk : Blk wr t { s with root := rt }.cs
  nt : NT wr s.nb s.cap s.nn M
  rep : Rep M c.up T
  repc : RepC M rt T.ix c
  perm : (T.all ++ c.all).Perm all
  plv : (T.lvs ++ c.lvs).Perm lvs
  kept : Kept M0 M all lvs
  high : ∀ k, k < s.nn → 0 ≤ M k 10 ∧ M k 10 ≤ 1000000
  mod : Mod (fun x => x = t ∨ x = s.nb) w0 wr
  men : Mends T0 c0 T c
def MendPost (w0 : World) (t : Nat) (s : BT) (M0 : Nat → Nat → Int) (T0 : Tr) (c0 : Cx) (all lvs : List Nat) (e : Ending) (w' : World) : Prop :=
  e = .returned (.tuple #[]) ∧ ∃ (M : Nat → Nat → Int) (T : Tr), MendR w0 w' t s M0 T0 c0 all lvs M (T.ix : Int) T .top
set_option maxRecDepth 100000 in
set_option maxHeartbeats 8000000 in
theorem mend_c (w : World) (t : Nat) (s : BT) (M : Nat → Nat → Int) (T : Tr) (c : Cx) (all lvs : List Nat) (hne : t ≠ s.nb) (hnd : all.Nodup) (hall : ∀ k ∈ all, k < s.nn) (hlen : all.length ≤ 1000000) (hB : Blk w t s.cs) (hN : NT w s.nb s.cap s.nn M) (hT : Rep M c.up T) (hC : RepC M s.root T.ix c) (hp : (T.all ++ c.all).Perm all) (hq : (T.lvs ++ c.lvs).Perm lvs) (hh : ∀ k, k < s.nn → 0 ≤ M k 10 ∧ M k 10 ≤ 1000000) :
    Calls Tryd.prog 32 #[.pointer (some ⟨t, 0, none⟩), .int .i64 c.up] w (MendPost w t s M T c all lvs) := by
  have HR0 : Hid (MendR w w t s M T c all lvs M s.root T c) := Lib.hid ⟨hB, hN, hT, hC, hp, hq, ⟨fun _ _ _ => rfl, fun _ _ _ _ => rfl⟩, hh, Mod.refl _ _, .at0⟩
  have HND := Lib.hid hnd
  have HALL := Lib.hid hall
  have HLEN := Lib.hid hlen
  clear hB hN hT hC hp hq hh hnd hall hlen
  go_enter Tryd.func32, Tryd.ntmps32
  go_wp2
  go_loopg [1] (c.dep + 1) (fun k v wr => ∃ (u : Int) (M' : Nat → Nat → Int) (rt : Int) (T' : Tr) (c' : Cx), v = .int .i64 u ∧ u = c'.up ∧ k = c'.dep + 1 ∧ MendR w wr t s M T c all lvs M' rt T' c')
  case atStart => exact ⟨_, M, s.root, T, c, rfl, rfl, rfl, HR0.out⟩
  case round =>
    obtain ⟨u, M', rt, T', c', rfl, hu, hk, hR⟩ := hrel
    have HR := Lib.hid hR
    clear hR HR0
    by_cases h0 : u < 0
    · have hc : c' = .top := by
        cases c' with
        | top => rfl
        | lft k c r => simp only [Cx.up] at hu; omega
        | rgt k l c => simp only [Cx.up] at hu; omega
      subst hc
      have hu' : u = -1 := hu
      clear hu h0
      subst hu'
      have e : rt = (T'.ix : Int) := HR.out.repc.2
      subst e
      go_wp2
      go_end0
      exact ⟨rfl, M', T', HR.out⟩
    · obtain ⟨n, l, r, c2, hop, hun, h7, h8, hl, hr, hc2, hp2, hq2, hd⟩ := cx_open HR.out.rep HR.out.repc (by omega)
      have hP := hp2.trans HR.out.perm
      have hQ := hq2.trans HR.out.plv
      have hn : n < s.nn := HALL.out n (hP.mem_iff.1 (by simp))
      have hll : l.ix < s.nn := HALL.out _ (hP.mem_iff.1 (by simp [l.ix_mem]))
      have hrl : r.ix < s.nn := HALL.out _ (hP.mem_iff.1 (by simp [r.ix_mem]))
      have hnd2 := List.nodup_cons.1 (List.nodup_append.1 (hP.nodup_iff.2 HND.out)).1
      have hnl : n ≠ l.ix := fun e => hnd2.1 (by rw [e]; exact List.mem_append_left _ l.ix_mem)
      have hnr : n ≠ r.ix := fun e => hnd2.1 (by rw [e]; exact List.mem_append_right _ r.ix_mem)
      have hun' : u = (n : Int) := hu.trans hun
      have hkd : c2.dep + 1 < gk := by omega
      clear hu h0 hk hd hun
      subst hun'
      have H78 := Lib.hid (And.intro h7 h8)
      have HLR := Lib.hid (And.intro hl (And.intro hr hc2))
      have HPQ := Lib.hid (And.intro hP hQ)
      have HOP := Lib.hid hop
      have HN0 := Lib.hid (And.intro (And.intro hn (And.intro hll hrl)) (And.intro hnl hnr))
      have HKD := Lib.hid hkd
      have HNE := Lib.hid hne
      clear hop h7 h8 hl hr hc2 hp2 hq2 hP hQ hnd2 hn hll hrl hnl hnr hkd
      by_cases hrot : M' (kidM M' l.ix r.ix) 10 ≤ M' (othM M' l.ix r.ix) 10 + 1
      · have HRO := Lib.hid hrot
        clear hrot
        go_wp2_with fail
        refine (turn_no _ t { s with root := rt } M' n l.ix r.ix HR.out.blk HR.out.nt HNE.out HN0.out.1.1 H78.out.1 H78.out.2 HN0.out.1.2.1 HN0.out.1.2.2 HR.out.high HRO.out).mono ?_
        rintro e wa ⟨rfl, hba⟩
        have HBA := Lib.hid hba
        clear hba
        go_wp2_with fail
        refine (fit_c _ t { s with root := rt } M' n l.ix r.ix (HR.out.blk.below HBA.out) (HR.out.nt.below HBA.out) HNE.out HN0.out.1.1 H78.out.1 H78.out.2 HN0.out.1.2.1 HN0.out.1.2.2 HN0.out.2.1 HN0.out.2.2 ?hs).mono ?_
        case hs =>
          have a := HR.out.high _ HN0.out.1.2.1
          have b := HR.out.high _ HN0.out.1.2.2
          exact ⟨a.1, a.2, b.1, b.2⟩
        rintro e wb ⟨rfl, hB, hN, hM⟩
        obtain ⟨s1, s2, s3, s4, s5⟩ := mstep_no H78.out.1 H78.out.2 HLR.out.1 HLR.out.2.1 HLR.out.2.2 HPQ.out.1 HPQ.out.2 HND.out
        have hh2 : ∀ k, k < s.nn → 0 ≤ fitM M' n k 10 ∧ fitM M' n k 10 ≤ 1000000 := high_kept s1 s3 HLEN.out (fun x hx => fitM_row (fun e => hx (by rw [e]; simp [Tr.all])) 10) HR.out.high
        have q6 : wb.cell? ⟨s.nb, n * 11 + 6, none⟩ = some (.int .i64 c2.up) := by rw [← show fitM M' n n 6 = c2.up from s2.up]; exact hN.cell HN0.out.1.1 (j := 6) (by decide)
        have HR2 : Hid (MendR w wb t s M T c all lvs (fitM M' n) rt (.nd n l r) c2) := Lib.hid ⟨hB, hN, s1, s2, s3, s4, HR.out.kept.trans s5, hh2, (HR.out.mod.trans (Mod.of_below HBA.out)).trans (hM.mono fun _ _ e => .inr e), .no _ _ _ _ _ _ _ HR.out.men HOP.out HLR.out.1 HLR.out.2.1 HRO.out⟩
        have hnl := HN0.out.1.1
        clear hB hN hM s1 s2 s3 s4 s5 hh2
        have HB2 : Hid (Blk wb t #[.slice (some ⟨s.nb, 0, none⟩) s.nn s.cap, s.fv, .int .i64 rt, .bool s.som, .map (some s.lf), .map (some s.bx), .int .i64 s.fat]) := Lib.hid HR2.out.blk
        obtain ⟨zt, ct, ft⟩ := id HB2.out
        obtain ⟨u, hu⟩ : ∃ u, u = c2.up := ⟨_, rfl⟩
        rw [← hu] at q6
        have HU := Lib.hid hu
        clear hu
        go_wp2
        go_roundg (c2.dep + 1)
        case measure => exact HKD.out
        case rel => exact ⟨u, _, rt, _, c2, rfl, HU.out, rfl, HR2.out⟩
      · obtain ⟨kk, A, B, O, P, Q, ek, eo, k7, k8, eP, eQ, hO, hP, hQ, pa, pl, mA, mB, hTu⟩ := mend_yes HLR.out.1 HLR.out.2.1 hrot
        have hA : (n :: kk :: (O.all ++ (P.all ++ Q.all)) ++ c2.all).Perm all := (List.Perm.append_right _ (List.Perm.cons n pa)).trans HPQ.out.1
        have hL : (O.lvs ++ (P.lvs ++ Q.lvs) ++ c2.lvs).Perm lvs := (List.Perm.append_right _ pl).trans HPQ.out.2
        have hnd0 := hA.nodup_iff.2 HND.out
        obtain ⟨hnn, _, _⟩ := List.nodup_append.1 hnd0
        obtain ⟨h1, h2⟩ := List.nodup_cons.1 hnn
        obtain ⟨h3, _⟩ := List.nodup_cons.1 h2
        have hkn : kk ≠ n := fun e => h1 (by rw [e]; simp)
        have hkP : kk ≠ P.ix := fun e => h3 (by rw [e]; simp [P.ix_mem])
        have mAB : ∀ x ∈ P.all ++ Q.all, x < s.nn ∧ n ≠ x := fun x hx => ⟨HALL.out x (hA.mem_iff.1 (List.mem_append_left _ (List.mem_cons_of_mem _ (List.mem_cons_of_mem _ (List.mem_append_right _ hx))))), fun e => h1 (by rw [e]; exact List.mem_cons_of_mem _ (List.mem_append_right _ hx))⟩
        have hkk : kk < s.nn := HALL.out kk (hA.mem_iff.1 (by simp))
        have hup : M' n 6 < (s.nn : Int) := by
          rw [HLR.out.2.2.up]
          rcases Int.lt_or_le c2.up 0 with h | h
          · omega
          · have := HALL.out c2.up.toNat (hA.mem_iff.1 (List.mem_append_right _ (Cx.up_mem (by omega))))
            omega
        have hOn : n ≠ O.ix := fun e => h1 (by rw [e]; simp [O.ix_mem])
        have HRO := Lib.hid hrot
        have HX := Lib.hid (And.intro hA (And.intro hL (And.intro hkn (And.intro hkP (And.intro hkk (And.intro hup (And.intro hTu (And.intro hO (And.intro hP hQ)))))))))
        have H7 := Lib.hid (And.intro ek (And.intro eo (And.intro eP (And.intro eQ (And.intro k7 (And.intro k8 (And.intro hOn (And.intro (mAB _ mA) (mAB _ mB)))))))))
        obtain ⟨s7, s8, sP, sN, sC⟩ := step_turn hO hP hQ HLR.out.2.2 hnd0
        have HS := Lib.hid (And.intro s7 (And.intro s8 (And.intro sP sN)))
        clear hrot hA hL hkn hkP hkk hup hTu hO hP hQ ek eo eP eQ k7 k8 hOn mAB mA mB pa pl hnd0 hnn h1 h2 h3 s7 s8 sP sN sC
        go_wp2_with fail
        refine (turn_yes _ t { s with root := rt } M' n l.ix r.ix HR.out.blk HR.out.nt HNE.out HN0.out.1.1 H78.out.1 H78.out.2 HN0.out.1.2.1 HN0.out.1.2.2 HR.out.high A.ix B.ix (by rw [H7.out.1]; exact H7.out.2.2.2.2.1) (by rw [H7.out.1]; exact H7.out.2.2.2.2.2.1) H7.out.2.2.2.2.2.2.2.1.1 H7.out.2.2.2.2.2.2.2.2.1 HX.out.2.2.2.2.2.1 (by rw [H7.out.1]; exact fun e => HX.out.2.2.1 e.symm) (by rw [H7.out.2.1]; exact H7.out.2.2.2.2.2.2.1) H7.out.2.2.2.2.2.2.2.1.2 H7.out.2.2.2.2.2.2.2.2.2 (Int.not_le.2 HRO.out)).mono ?_
        rw [H7.out.1, H7.out.2.1, H7.out.2.2.1, H7.out.2.2.2.1]
        rintro e wa ⟨rfl, hB, hN, hM⟩
        have HA := Lib.hid (And.intro hB (And.intro hN hM))
        clear hB hN hM
        go_wp2_with fail
        refine (fit_c _ t { s with root := hangR rt (M' n 6) kk } (turnM M' n kk O.ix P.ix Q.ix) kk P.ix n HA.out.1 HA.out.2.1 HNE.out HX.out.2.2.2.2.1 HS.out.1 HS.out.2.1 ?hP HN0.out.1.1 HX.out.2.2.2.1 HX.out.2.2.1 ?hs).mono ?_
        case hP => exact HALL.out _ (HX.out.1.mem_iff.1 (by simp [P.ix_mem]))
        case hs =>
          have a := HS.out.2.2.1.height
          have b : 0 ≤ turnM M' n kk O.ix P.ix Q.ix n 10 ∧ turnM M' n kk O.ix P.ix Q.ix n 10 < (Tr.nd n O Q).all.length := HS.out.2.2.2.height
          have hle := HX.out.1.length_eq
          have hlen := HLEN.out
          simp only [Tr.all, List.cons_append, List.length_cons, List.length_append] at b hle
          refine ⟨a.1, ?_, b.1, ?_⟩ <;> omega
        rintro e wb ⟨rfl, hB, hN, hM⟩
        obtain ⟨s1, s2, s3, s4, s5⟩ := mstep_yes HX.out.2.2.2.2.2.2.2.1 HX.out.2.2.2.2.2.2.2.2.1 HX.out.2.2.2.2.2.2.2.2.2 HLR.out.2.2 HX.out.1 HX.out.2.1 HND.out
        have hh2 : ∀ k, k < s.nn → 0 ≤ fitM (turnM M' n kk O.ix P.ix Q.ix) kk k 10 ∧ fitM (turnM M' n kk O.ix P.ix Q.ix) kk k 10 ≤ 1000000 := high_kept s1 s3 HLEN.out (fun x hx => by
          have e1 : x ≠ kk := fun e => hx (by rw [e]; simp [Tr.all])
          have e2 : x ≠ n := fun e => hx (by rw [e]; simp [Tr.all])
          rw [fitM_row e1, turn_row e2 e1 (fun _ => by omega) (fun _ _ => by omega)]) HR.out.high
        have hkl := HX.out.2.2.2.2.1
        have q6 : wb.cell? ⟨s.nb, kk * 11 + 6, none⟩ = some (.int .i64 c2.up) := by rw [← show fitM (turnM M' n kk O.ix P.ix Q.ix) kk kk 6 = c2.up from s2.up]; exact hN.cell hkl (j := 6) (by decide)
        have HR2 : Hid (MendR w wb t s M T c all lvs (fitM (turnM M' n kk O.ix P.ix Q.ix) kk) (hangR rt (M' n 6) kk) (.nd kk P (.nd n O Q)) c2) := Lib.hid ⟨hB, hN, s1, s2, s3, s4, HR.out.kept.trans s5, hh2, (HR.out.mod.trans HA.out.2.2).trans (hM.mono fun _ _ e => .inr e), .yes _ _ _ _ _ _ _ _ _ _ _ HR.out.men HOP.out HLR.out.1 HLR.out.2.1 HX.out.2.2.2.2.2.2.1⟩
        clear hB hN hM s1 s2 s3 s4 s5 hh2
        obtain ⟨u, hu⟩ : ∃ u, u = c2.up := ⟨_, rfl⟩
        rw [← hu] at q6
        have HU := Lib.hid hu
        obtain ⟨rt2, hrt2⟩ : ∃ x, x = hangR rt (M' n 6) kk := ⟨_, rfl⟩
        rw [← hrt2] at HR2
        have HB2 : Hid (Blk wb t #[.slice (some ⟨s.nb, 0, none⟩) s.nn s.cap, s.fv, .int .i64 rt2, .bool s.som, .map (some s.lf), .map (some s.bx), .int .i64 s.fat]) := Lib.hid HR2.out.blk
        obtain ⟨zt, ct, ft⟩ := id HB2.out
        clear hu hrt2
        go_wp2
        go_roundg (c2.dep + 1)
        case measure => exact HKD.out
        case rel => exact ⟨u, _, rt2, _, c2, rfl, HU.out, rfl, HR2.out⟩
end Go.Proofs.YtefhmbmbhiehdaaDoor
