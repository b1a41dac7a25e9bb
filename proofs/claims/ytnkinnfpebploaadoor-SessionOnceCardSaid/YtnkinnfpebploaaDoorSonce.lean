/- The walk of gyrekeep.SessionOnce. Conditions: what the variable errors.errorType holds. -/
import Derived.Test.YtnkinnfpebploaaDoorSplays
import Derived.Test.YtnkinnfpebploaaDoorMapV
import Derived.Test.YtnkinnfpebploaaDoorPick
namespace Go.Proofs.YtnkinnfpebploaaDoor
open Go.ChangeShapes Go.WideShapes Go.ChangeAt Go.RowKit Go.BigFrame
open Go.Maps
theorem zero_bool (w : World) : (zeroValue 4).run Tryd.prog w = .ok (.bool false) w := by kernel_rfl
theorem take_v (p : Nat) (s s' : Sn) (t n x : Int) (v : Value) (w : World) (hB : Blk w p (snCells s)) (hs : SnOk s) (hn0 : -9223372036854775808 ≤ n) (hn1 : n ≤ 9223372036854775807) (hr : takeS s t n = (x, s')) (hv : errV x = v) :
    Calls Tryd.prog 22 #[.pointer (some ⟨p, 0, none⟩), .int .i64 t, .int .i64 n] w fun e w' => e = .returned v ∧ Blk w' p (snCells s') ∧ Mod (· = p) w w' := by
  subst hv
  refine (take_c p s t n w hB hs hn0 hn1).mono fun e w' h => ?_
  unfold TakePost at h
  rw [hr] at h
  exact h
theorem left_s (p : Nat) (s : Sn) (x : Int) (w : World) (hB : Blk w p (snCells s)) (hx : s.left = x) : Calls Tryd.prog 23 #[.pointer (some ⟨p, 0, none⟩)] w fun e w' => e = .returned (.int .i64 x) ∧ w = w' := by
  subst hx; exact sess_left_c p s w hB
set_option maxRecDepth 100000 in
set_option maxHeartbeats 4000000 in
theorem taken_c (w : World) (hH : Handle w) : Calls Tryd.prog 20 #[] w fun e w' => e = .returned (.bool true) ∧ Below w.heap.size w w' := by
  go_enter Tryd.func20, Tryd.ntmps20
  go_wp2_with fail
  refine (sess_new_c 7 2 0 _ (by decide) (by decide) (by decide) (by decide) (by decide) (by decide)).mono ?_
  rintro e w1 ⟨rfl, hs1, hb1⟩
  obtain ⟨p, hp⟩ : ∃ p, p = w.heap.size + 1 := ⟨_, rfl⟩
  rw [← hp] at hs1
  rw [← hp]
  have hbp : w.heap.size ≤ p := by omega
  clear hp
  go_wp2_with fail
  with_reducible refine (take_v p ⟨7, 2, 0, 2, -1, 0⟩ ⟨7, 2, 0, 1, 5, 1⟩ 7 5 0 .nilIface _ hs1 ⟨by decide, by decide, by decide, by decide, by decide⟩ (by decide) (by decide) rfl rfl).mono ?_
  rintro e w2 ⟨rfl, hs2, hm2⟩
  have hb2 := hb1.trans (mod_base hm2 hb1.size hbp)
  go_wp2_with fail
  with_reducible refine (take_v p ⟨7, 2, 0, 1, 5, 1⟩ ⟨7, 2, 0, 1, 5, 1⟩ 7 5 9 (.iface 25 (.int .i64 9)) _ hs2 ⟨by decide, by decide, by decide, by decide, by decide⟩ (by decide) (by decide) rfl rfl).mono ?_
  rintro e w3 ⟨rfl, hs3, hm3⟩
  have hb3 := hb2.trans (mod_base hm3 hb2.size hbp)
  go_wp2_with fail
  with_reducible refine (tell_hit 9 _ (hH.below hb3)).mono ?_
  rintro e w4 ⟨rfl, hb4⟩
  have hs4 := hs3.below hb4
  have hb4 := hb3.trans (hb4.mono hb3.size)
  go_wp2_with fail
  with_reducible refine (take_v p ⟨7, 2, 0, 1, 5, 1⟩ ⟨7, 2, 0, 1, 5, 1⟩ 8 6 5 (.iface 25 (.int .i64 5)) _ hs4 ⟨by decide, by decide, by decide, by decide, by decide⟩ (by decide) (by decide) rfl rfl).mono ?_
  rintro e w5 ⟨rfl, hs5, hm5⟩
  have hb5 := hb4.trans (mod_base hm5 hb4.size hbp)
  go_wp2_with fail
  with_reducible refine (tell_hit 5 _ (hH.below hb5)).mono ?_
  rintro e w6 ⟨rfl, hb6⟩
  have hs6 := hs5.below hb6
  have hb6 := hb5.trans (hb6.mono hb5.size)
  go_wp2_with fail
  with_reducible refine (left_s p ⟨7, 2, 0, 1, 5, 1⟩ 1 _ hs6 rfl).mono ?_
  rintro e w' ⟨rfl, rfl⟩
  go_wp2
  go_ret
  exact ⟨rfl, hb6⟩
/-- what is there is what came -/
def InMap (F : Lit → Option Value) (c : List Int) : Prop := ∀ x : Int, F (.int .i64 x) = if x ∈ c then some (.bool true) else none
/-- a session at p, a map at b; ticks t -/
structure SO (B p b : Nat) (most each : Nat) (w : World) (s : Sn) (k : Wk) (F : Lit → Option Value) (t : Nat) : Prop where
  se : Blk w p (snCells s)
  mp : MapV Tryd.prog 3 w b k.came.length F k.came.length
  im : InMap F k.came
  sr : SR s k
  ok : SnOk s
  tk : k.tok = 9
  em : k.most = most
  ee : k.each = each
  lm : k.left ≤ most
  cnt : k.came.length + k.left ≤ most + t * each
  pb : p ≠ b
theorem SO.below {B p b most each t : Nat} {w w' : World} {s : Sn} {k : Wk} {F : Lit → Option Value} (h : SO B p b most each w s k F t) (m : Below w.heap.size w w') : SO B p b most each w' s k F t :=
  ⟨h.se.below m, h.mp.below m, h.im, h.sr, h.ok, h.tk, h.em, h.ee, h.lm, h.cnt, h.pb⟩
theorem takeW_cases (k : Wk) (n : Int) : (∃ x : Int, takeW k k.tok n = (x, k) ∧ x ≠ 0) ∨ (takeW k k.tok n = (0, { k with left := k.left - 1, came := k.came ++ [n] }) ∧ n ∉ k.came) := by
  unfold takeW
  rw [if_neg (by simp)]
  split
  · exact .inl ⟨2, rfl, by decide⟩
  split
  · exact .inl ⟨10, rfl, by decide⟩
  split
  · exact .inl ⟨9, rfl, by decide⟩
  split
  · exact .inl ⟨4, rfl, by decide⟩
  · exact .inr ⟨rfl, by assumption⟩

set_option maxRecDepth 100000 in
set_option maxHeartbeats 4000000 in
theorem sessionOnce_w (most0 each0 : Int) (A : Option Addr) (n cap : Nat) (M : Nat → Nat → Int) (w : World) (hH : Handle w) (hn : n ≤ maxLen) (hA : Reads w A n 2 M) (hM : ∀ i j, -9223372036854775808 ≤ M i j ∧ M i j ≤ 9223372036854775807) :
    Calls Tryd.prog 4 #[.int .i64 most0, .int .i64 each0, .slice A n cap] w fun e w' => e = .returned (.bool true) ∧ Below w.heap.size w w' := by
  unfold maxLen at hn
  by_cases h200 : n > 200
  · go_enter Tryd.func4, Tryd.ntmps4
    go_wp2
    go_ret
    exact ⟨rfl, Below.refl _ _⟩
  have h200' : ¬ (n : Int) > 200 := by omega
  have hn2 : n ≤ 200 := by omega
  obtain ⟨most, hmo⟩ : ∃ m, m = pickP most0 20 := ⟨_, rfl⟩
  obtain ⟨each, hea⟩ : ∃ m, m = pickP each0 5 := ⟨_, rfl⟩
  have hm1 : most < 20 := by rw [hmo]; exact pickP_lt _ _ (by omega)
  have he1 : each < 5 := by rw [hea]; exact pickP_lt _ _ (by omega)
  have HMO : Hid ((pickP most0 20 : Int) = most) := Lib.hid (by rw [hmo])
  have HEA : Hid ((pickP each0 5 : Int) = each) := Lib.hid (by rw [hea])
  have HM := Lib.hid hM
  have hmk := @run_makeMap Tryd.prog
  clear h200 hmo hea hM
  go_enter Tryd.func4, Tryd.ntmps4
  go_wp2_with fail
  with_reducible refine (pick_v most0 20 20 most _ rfl (by decide) (by decide) HMO.out).mono ?_
  rintro e w' ⟨rfl, rfl⟩
  go_wp2_with fail
  with_reducible refine (pick_v each0 5 5 each _ rfl (by decide) (by decide) HEA.out).mono ?_
  rintro e w' ⟨rfl, rfl⟩
  go_wp2_with fail
  refine (sess_new_c 9 most each _ (by decide) (by decide) (by omega) (by omega) (by omega) (by omega)).mono ?_
  rintro e w1 ⟨rfl, hse, hb1⟩
  obtain ⟨p, hp⟩ : ∃ p, p = w.heap.size + 1 := ⟨_, rfl⟩
  rw [← hp] at hse
  rw [← hp]
  have hbp : w.heap.size ≤ p := by omega
  have hpl := hse.lt
  clear hp
  go_wp2_with fail
  with_reducible refine (taken_c _ (hH.below hb1)).mono ?_
  rintro e w2 ⟨rfl, hb2⟩
  have hse2 := hse.below hb2
  have hpl2 := hse2.lt
  go_wp2
  refine wp_fresh ?_
  intro w3 hb3
  have hb23 : Below w2.heap.size w2 w3 := ((Below.refl w2.heap.size w2).alloc (Nat.le_refl _) _).trans (hb3.mono (by simp))
  have hm3 := (mapV_made w2 Tryd.prog 3).below hb3
  have hB3 : Below w.heap.size w w3 := (hb1.trans (hb2.mono hb1.size)).trans (hb23.mono (by have := hb1.size; have := hb2.size; omega))
  have hS3 : SO w.heap.size p w2.heap.size most each w3 ⟨9, most, each, most, -1, 0⟩ ⟨9, most, each, most, []⟩ (fun _ => none) 0 :=
    ⟨hse2.below hb23, hm3, (fun x => by simp), sr_new _ _ _, ⟨by simp, by simp only; omega, by simp only; omega, by simp only; omega, by simp⟩, rfl, rfl, rfl, by simp, by simp, by omega⟩
  obtain ⟨b, hb⟩ : ∃ b, b = w2.heap.size := ⟨_, rfl⟩
  rw [← hb] at hS3
  rw [← hb]
  have hbb : w.heap.size ≤ b := by have := hb1.size; have := hb2.size; omega
  have HP := Lib.hid hbp
  have HB := Lib.hid hbb
  clear hb1 hse hpl hb2 hse2 hpl2 hb3 hb23 hm3 hbp hbb hb h200' HMO HEA hmk
  go_loopw [10, 11] (fun tt i wr => ∃ (j t : Nat) (s : Sn) (k : Wk) (F : Lit → Option Value), j ≤ n ∧ i = .int .i64 j ∧ tt = .int .i64 t ∧ t ≤ j ∧ SO w.heap.size p b most each wr s k F t ∧ k.came.length ≤ j ∧ Below w.heap.size w wr) (fun _ i _ => n - (intOf i).toNat)
  case atStart => exact ⟨0, 0, _, _, _, by omega, rfl, rfl, by omega, hS3, by simp, hB3⟩
  case round =>
    clear hS3 hB3
    obtain ⟨j, t, s, k, F, hj, rfl, rfl, htj, hS, hc, hB⟩ := hrel
    by_cases hlt : j < n
    · obtain ⟨ab, ao, rfl, hab, hcell⟩ := hA (by omega)
      have q0' := hcell j hlt 0 (by decide)
      have q1' := hcell j hlt 1 (by decide)
      simp only [Nat.add_zero] at q0'
      rw [← Nat.add_assoc] at q1'
      have QQ : Hid (∀ w', Below w.heap.size w w' → w'.cell? ⟨ab, ao + j * 2 + 1, none⟩ = some (.int .i64 (M j 1))) :=
        Lib.hid (fun w' hb => (hb.cell (p := ⟨ab, ao + j * 2 + 1, none⟩) hab).trans q1')
      have q0 := (hB.cell (p := ⟨ab, ao + j * 2, none⟩) hab).trans q0'
      clear hcell hab q0' q1'
      by_cases c0 : M j 0 = 0
      · have e0 : (M j 0 == 0) = true := by simpa using c0
        clear c0
        go_wp2_with fail
        with_reducible refine (tick_c p s _ hS.se hS.ok).mono ?_
        rintro e w3 ⟨rfl, hse3, hm3⟩
        have hts := tick_same hS.sr hS.ok
        have hS4 : SO w.heap.size p b most each w3 (tickS s) (tickW k) F (t + 1) := by
          refine ⟨hse3, hS.mp.mod hm3 (fun e => hS.pb e.symm), hS.im, hts.1, hts.2, hS.tk, hS.em, hS.ee, ?_, ?_, hS.pb⟩
          · have h1 := hS.em; have h2 := hS.lm
            unfold tickW; simp only; split <;> omega
          · have h1 := hS.cnt; have h2 := hS.ee; have h3 := hS.em
            have e1 : ((t + 1 : Nat) : Int) * (each : Int) = (t : Int) * each + each := by rw [Int.natCast_add, Int.add_mul]; omega
            rw [e1]
            show (k.came.length : Int) + (tickW k).left ≤ _
            unfold tickW
            simp only
            split <;> omega
        have hB4 := hB.trans (mod_base hm3 hB.size HP.out)
        clear hts
        go_wp2
        go_roundw
        case rel => exact ⟨j + 1, t + 1, _, _, F, by omega, by go_num, by go_num, by omega, hS4, by show k.came.length ≤ j + 1; omega, hB4⟩
        case measure => first | (simp [intOf]; done) | (simp [intOf]; omega)
      · have e0 : (M j 0 == 0) = false := by simpa using c0
        clear c0
        have q1 := QQ.out _ hB
        have htk := take_same hS.sr hS.ok 9 (M j 1)
        have hk9 := hS.tk
        have hcs := takeW_cases k (M j 1)
        rw [hk9] at hcs
        obtain ⟨z, hz⟩ : ∃ z : Nat, z = t * each := ⟨_, rfl⟩
        have hzz : (t : Int) * (each : Int) = (z : Int) := by rw [hz]; simp
        have hz1 : z ≤ 1000 := by rw [hz]; exact Nat.le_trans (Nat.mul_le_mul (show t ≤ 200 by omega) (show each ≤ 5 by omega)) (by decide)
        have HZ := Lib.hid hz
        clear hz hk9
        rcases hcs with ⟨x, hx, hx0⟩ | ⟨hx, hno⟩
        · obtain ⟨s', hs'⟩ : ∃ s', s' = (takeS s 9 (M j 1)).2 := ⟨_, rfl⟩
          have hS' : SR s' k ∧ SnOk s' := by rw [hs']; rw [hx] at htk; exact htk.2
          have hts : takeS s 9 (M j 1) = (x, s') := by rw [hs']; rw [hx] at htk; exact Prod.ext htk.1 rfl
          have hle := hS.cnt
          have hl0 := hS'.2.lf
          have hl1 := hS'.1.left
          have hl2 := hS.lm
          have HX0 := Lib.hid hx0
          clear htk hx hs' hx0
          go_wp2_with fail
          with_reducible refine (take_v p s s' 9 (M j 1) x (.iface 25 (.int .i64 x)) _ hS.se hS.ok (HM.out j 1).1 (HM.out j 1).2 hts (errV_n HX0.out)).mono ?_
          rintro e w3 ⟨rfl, hse3, hm3⟩
          have hmp3 := hS.mp.mod hm3 (fun e => hS.pb e.symm)
          have hB3 := hB.trans (mod_base hm3 hB.size HP.out)
          have hS3 : SO w.heap.size p b most each w3 s' k F t := ⟨hse3, hmp3, hS.im, hS'.1, hS'.2, hS.tk, hS.em, hS.ee, hS.lm, hS.cnt, hS.pb⟩
          obtain ⟨N, hN⟩ : ∃ N, N = k.came.length := ⟨_, rfl⟩
          have HN := Lib.hid hN
          have hNz : ¬ (N : Int) > (most : Int) + z := by have := hS.ok.lf; have := hS.sr.left; omega
          have hLL : s'.left = k.left := hS'.1.left
          obtain ⟨ll, hll⟩ : ∃ ll, ll = s'.left := ⟨_, rfl⟩
          have HLL : Hid (s'.left = ll) := Lib.hid hll.symm
          have hlb : ¬ ll < 0 := by omega
          have hlc : ¬ ll > (most : Int) := by omega
          rw [← hN] at hmp3
          clear hN hle hl0 hl1 hl2 hLL hll hts hS'
          go_wp2_with (at_len; refine at_len1 rfl _ rfl Tryd.underlying47 rfl hmp3 ?_)
          go_wp2_with fail
          with_reducible refine (left_s p s' ll _ hse3 HLL.out).mono ?_
          rintro e w' ⟨rfl, rfl⟩
          go_wp2_with fail
          with_reducible refine (left_s p s' ll _ hse3 HLL.out).mono ?_
          rintro e w' ⟨rfl, rfl⟩
          go_wp2
          go_roundw
          case rel => exact ⟨j + 1, t, _, _, F, by omega, by go_num, rfl, by omega, hS3, by have := HN.out; omega, hB3⟩
          case measure => first | (simp [intOf]; done) | (simp [intOf]; omega)
        · obtain ⟨s', hs'⟩ : ∃ s', s' = (takeS s 9 (M j 1)).2 := ⟨_, rfl⟩
          have hS' : SR s' ⟨9, k.most, k.each, k.left - 1, k.came ++ [M j 1]⟩ ∧ SnOk s' := by rw [hs']; rw [hx] at htk; exact htk.2
          have hts : takeS s 9 (M j 1) = (0, s') := by rw [hs']; rw [hx] at htk; exact Prod.ext htk.1 rfl
          have hle := hS.cnt
          have hl0 := hS'.2.lf
          have hl1 : s'.left = k.left - 1 := hS'.1.left
          have hl2 := hS.lm
          have hno2 : F (.int .i64 (M j 1)) = none := by rw [hS.im (M j 1), if_neg hno]
          have HF := Lib.hid hno2
          clear htk hx hs' hno2
          go_wp2_with fail
          with_reducible refine (take_v p s s' 9 (M j 1) 0 .nilIface _ hS.se hS.ok (HM.out j 1).1 (HM.out j 1).2 hts rfl).mono ?_
          rintro e w3 ⟨rfl, hse3, hm3⟩
          have hmp3 := hS.mp.mod hm3 (fun e => hS.pb e.symm)
          have hB3 := hB.trans (mod_base hm3 hB.size HP.out)
          have q13 := QQ.out _ hB3
          obtain ⟨N, hN⟩ : ∃ N, N = k.came.length := ⟨_, rfl⟩
          have HN := Lib.hid hN
          have hkw : (Lit.int .i64 (M j 1)).wf = true := intKey_wf (HM.out j 1).1 (HM.out j 1).2
          have HKW := Lib.hid (keyOf_int_mk Tryd.underlying3 hkw)
          have hNz : ¬ ((N : Int) + 1 > (most : Int) + z) := by omega
          obtain ⟨ll, hll⟩ : ∃ ll, ll = s'.left := ⟨_, rfl⟩
          have HLL : Hid (s'.left = ll) := Lib.hid hll.symm
          have hlb : ¬ ll < 0 := by omega
          have hlc : ¬ ll > (most : Int) := by omega
          have HCN : Hid ((N : Int) + 1 + ll ≤ most + z) := Lib.hid (by omega)
          have HLM : Hid (ll ≤ most) := Lib.hid (by omega)
          have hN200 : N < 200 := by omega
          have HS' := Lib.hid hS'
          have HNO := Lib.hid hno
          rw [← hN] at hmp3
          have HMP := Lib.hid hmp3
          have HSE := Lib.hid hse3
          have HNM : Hid (N < maxLen) := Lib.hid (by unfold maxLen; omega)
          clear hN hle hl0 hl1 hl2 hll hts hS' hkw hno hmp3 hse3
          go_wp2_with (first | (at_lookup; refine at_lookup1 rfl _ _ rfl (int_keyed Tryd.underlying3) Tryd.underlying47 (zero_bool _) rfl HMP.out _ (.int .i64 (M j 1)) rfl HKW.out trivial ?_; rw [HF.out]) | (at_mapUpdate; refine at_update rfl _ _ _ rfl (int_keyed Tryd.underlying3) Tryd.underlying47 rfl HMP.out HNM.out _ (.bool true) (.int .i64 (M j 1)) rfl rfl HKW.out trivial ?_; intro w4 hmp4 hm4; rw [HF.out] at hmp4; simp only [Option.isSome_none, Bool.false_eq_true, if_false] at hmp4) | (at_len; refine at_len1 rfl _ rfl Tryd.underlying47 rfl hmp4 ?_))
          have hse4 := HSE.out.mod hm4 (fun e => hS.pb e)
          have hB4 := hB3.trans (mod_base hm4 hB3.size HB.out)
          have hS4 : SO w.heap.size p b most each w4 s' ⟨9, k.most, k.each, k.left - 1, k.came ++ [M j 1]⟩ (putF F (.int .i64 (M j 1)) (.bool true)) t := by
            refine ⟨hse4, ?_, ?_, HS'.out.1, HS'.out.2, rfl, hS.em, hS.ee, ?_, ?_, hS.pb⟩
            · have e : (k.came ++ [M j 1]).length = N + 1 := by rw [List.length_append, ← HN.out]; rfl
              show MapV _ _ _ _ (k.came ++ [M j 1]).length _ (k.came ++ [M j 1]).length
              rw [e]
              exact hmp4
            · intro x
              unfold putF
              by_cases e : x = M j 1
              · subst e; simp
              · rw [if_neg (by simpa using e), hS.im x]; simp [e]
            · have := HLM.out; have h2 : s'.left = k.left - 1 := HS'.out.1.left; have := HLL.out; show k.left - 1 ≤ _; omega
            · have := HCN.out; have h2 : s'.left = k.left - 1 := HS'.out.1.left; have := HLL.out; have hz' := HZ.out; have := HN.out
              have e1 : (t : Int) * (each : Int) = (z : Int) := by rw [hz']; simp
              rw [e1]
              show (((k.came ++ [M j 1]).length : Nat) : Int) + (k.left - 1) ≤ _
              rw [List.length_append]
              simp
              omega
          clear hm4
          with_reducible refine (left_s p s' ll _ hse4 HLL.out).mono ?_
          rintro e w' ⟨rfl, rfl⟩
          go_wp2_with fail
          with_reducible refine (left_s p s' ll _ hse4 HLL.out).mono ?_
          rintro e w' ⟨rfl, rfl⟩
          go_wp2
          go_roundw
          case rel => exact ⟨j + 1, t, _, _, _, by omega, by go_num, rfl, by omega, hS4, by show (k.came ++ [M j 1]).length ≤ j + 1; rw [List.length_append]; simp; omega, hB4⟩
          case measure => first | (simp [intOf]; done) | (simp [intOf]; omega)
    · obtain rfl : j = n := by omega
      go_wp2
      go_ret
      exact ⟨rfl, hB⟩

end Go.Proofs.YtnkinnfpebploaaDoor
