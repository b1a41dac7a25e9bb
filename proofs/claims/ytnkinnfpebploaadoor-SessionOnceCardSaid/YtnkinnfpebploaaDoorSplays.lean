/- The walk of gyrelaw.SessionPlays. Conditions: what the variable errors.errorType holds. -/
import Derived.Test.YtnkinnfpebploaaDoorWick
import Derived.Test.YtnkinnfpebploaaDoorBare
import Derived.Test.YtnkinnfpebploaaDoorTab
import Derived.Tactics
import Derived.Tactics2
import Derived.Outline
import Derived.Deep.CutBlock
import Derived.Deep.DeepCutAuto
import Derived.Deep.RegionHeld3
namespace Go.Proofs.YtnkinnfpebploaaDoor
open Go.ChangeShapes Go.WideShapes Go.ChangeAt Go.RowKit Go.BigFrame
theorem balloc (w : World) (o : Obj) : Below w.heap.size w (w.alloc o) := (Below.refl _ _).alloc (Nat.le_refl _) o
theorem sess_newest_c (p : Nat) (s : Sn) (w : World) (hB : Blk w p (snCells s)) : Calls Tryd.prog 25 #[.pointer (some ⟨p, 0, none⟩)] w fun e w' => e = .returned (.int .i64 s.newest) ∧ w = w' := by
  have k4 : w.cell? ⟨p, 4, none⟩ = some (.int .i64 s.newest) := hB.cell 4
  clear hB
  go_enter Tryd.func25, Tryd.ntmps25
  go_wp2
  go_ret
  exact ⟨rfl, rfl⟩
/-- the limits that may not be -/
def badL (tok most each : Int) : Prop := tok < 0 ∨ 70368744177664 < tok ∨ most < 0 ∨ 1000 < most ∨ each < 0 ∨ 1000 < each
theorem sess_new_bad (tok most each : Int) (w : World) (h : badL tok most each) : Calls Tryd.prog 19 #[.int .i64 tok, .agg #[.int .i64 most, .int .i64 each]] w fun e w' =>
    e = .returned (.tuple #[.pointer none, .iface 25 (.int .i64 2)]) ∧ Below w.heap.size w w' := by
  have hp : (tok < 0) ∨ (¬ tok < 0 ∧ tok > 70368744177664) ∨ (¬ tok < 0 ∧ ¬ tok > 70368744177664 ∧ most < 0) ∨ (¬ tok < 0 ∧ ¬ tok > 70368744177664 ∧ ¬ most < 0 ∧ most > 1000) ∨ (¬ tok < 0 ∧ ¬ tok > 70368744177664 ∧ ¬ most < 0 ∧ ¬ most > 1000 ∧ each < 0) ∨ (¬ tok < 0 ∧ ¬ tok > 70368744177664 ∧ ¬ most < 0 ∧ ¬ most > 1000 ∧ ¬ each < 0 ∧ each > 1000) := by unfold badL at h; omega
  clear h
  rcases hp with h1 | ⟨h1, h2⟩ | ⟨h1, h2, h3⟩ | ⟨h1, h2, h3, h4⟩ | ⟨h1, h2, h3, h4, h5⟩ | ⟨h1, h2, h3, h4, h5, h6⟩
  all_goals
    go_enter Tryd.func19, Tryd.ntmps19
    go_wp2
    go_ret2
    exact ⟨rfl, balloc _ _⟩
theorem takeW_keep (k : Wk) (t n : Int) : (takeW k t n).2.came.length ≤ k.came.length + 1 ∧ (takeW k t n).2.most = k.most ∧ (takeW k t n).2.each = k.each := by
  unfold takeW
  repeat' split
  all_goals simp
/-- a session at p, the document's at q -/
structure SS (B p q : Nat) (most each : Int) (w : World) (s : Sn) (k : Wk) (rv : Value) : Prop where
  se : Blk w p (snCells s)
  wk : Wt w B q rv k
  sr : SR s k
  ok : SnOk s
  pq : p ≠ q
  d : rv.ownBlock ≠ some p
  em : k.most = most
  ee : k.each = each
theorem SS.below {B p q : Nat} {most each : Int} {w w' : World} {s : Sn} {k : Wk} {rv : Value} (h : SS B p q most each w s k rv) (m : Below w.heap.size w w') : SS B p q most each w' s k rv :=
  ⟨h.se.below m, h.wk.below m, h.sr, h.ok, h.pq, h.d, h.em, h.ee⟩
theorem SS.wk1 {B p q : Nat} {most each : Int} {w w' : World} {s : Sn} {k : Wk} {rv : Value} (h : SS B p q most each w s k rv) (m : Mod (· = p) w w') : Wt w' B q rv k :=
  h.wk.mod m (fun e => h.pq e.symm) (fun _ hb e => h.d (e ▸ hb))
theorem SS.took {B p q : Nat} {most each : Int} {w w1 w' : World} {s s' : Sn} {k k' : Wk} {rv rv' : Value} (h : SS B p q most each w s k rv) (hb : Blk w1 p (snCells s')) (hW : Wt w' B q rv' k') (hT : Turn (· = q) w1 rv w' rv') (hr : SR s' k') (ho : SnOk s') (e1 : k'.most = k.most) (e2 : k'.each = k.each) : SS B p q most each w' s' k' rv' := by
  refine ⟨hb.mod hT.mod (fun e => ?_), hW, hr, ho, h.pq, fun e => ?_, e1.trans h.em, e2.trans h.ee⟩
  · rcases e with e | e
    · exact h.pq e
    · exact h.d e
  · rcases hT.own with e2 | e2
    · rw [e2] at e; exact h.d e
    · have := e2 _ e; have := hb.lt; omega

theorem wt_base {w w' : World} {base q : Nat} {rv rv' : Value} {k : Wk} (h : Wt w base q rv k) (m : Turn (· = q) w rv w' rv') (hb : base ≤ w.heap.size) (hq : base ≤ q) : Below base w w' :=
  m.mod.toBelow hb fun b hlt e => by
    rcases e with e | e
    · omega
    · have := (row_lt h.row e).2; omega

set_option maxRecDepth 100000 in
set_option maxHeartbeats 4000000 in
theorem sessionPlays_w (tok most each : Int) (A : Option Addr) (n cap : Nat) (M : Nat → Nat → Int) (w : World) (hH : Handle w) (hn : n ≤ maxLen) (hA : Reads w A n 3 M) (hM : ∀ i j, -9223372036854775808 ≤ M i j ∧ M i j ≤ 9223372036854775807) :
    Calls Tryd.prog 5 #[.int .i64 tok, .int .i64 most, .int .i64 each, .slice A n cap] w fun e w' => e = .returned (.bool true) ∧ Below w.heap.size w w' := by
  unfold maxLen at hn
  by_cases h150 : n > 150
  · go_enter Tryd.func5, Tryd.ntmps5
    go_wp2
    go_ret
    exact ⟨rfl, Below.refl _ _⟩
  have h150' : ¬ (n : Int) > 150 := by omega
  have hn2 : n ≤ 150 := by omega
  clear h150
  by_cases hbad : badL tok most each
  · have HB := Lib.hid hbad
    have hp : (tok < 0) ∨ (¬ tok < 0 ∧ tok > 70368744177664) ∨ (¬ tok < 0 ∧ ¬ tok > 70368744177664 ∧ most < 0) ∨ (¬ tok < 0 ∧ ¬ tok > 70368744177664 ∧ ¬ most < 0 ∧ most > 1000) ∨ (¬ tok < 0 ∧ ¬ tok > 70368744177664 ∧ ¬ most < 0 ∧ ¬ most > 1000 ∧ each < 0) ∨ (¬ tok < 0 ∧ ¬ tok > 70368744177664 ∧ ¬ most < 0 ∧ ¬ most > 1000 ∧ ¬ each < 0 ∧ each > 1000) := by unfold badL at hbad; omega
    clear hbad
    rcases hp with h1 | ⟨h1, h2⟩ | ⟨h1, h2, h3⟩ | ⟨h1, h2, h3, h4⟩ | ⟨h1, h2, h3, h4, h5⟩ | ⟨h1, h2, h3, h4, h5, h6⟩
    all_goals
      go_enter Tryd.func5, Tryd.ntmps5
      go_wp2_with fail
      refine (sess_new_bad tok most each _ HB.out).mono ?_
      rintro e w1 ⟨rfl, hb1⟩
      go_wp2_with fail
      refine (lbare_hit 2 2 true _ (hH.below hb1) rfl).mono ?_
      rintro e w2 ⟨rfl, hb2⟩
      go_wp2
      go_ret
      exact ⟨rfl, hb1.trans (hb2.mono hb1.size)⟩
  · have hp : 0 ≤ tok ∧ tok ≤ 70368744177664 ∧ 0 ≤ most ∧ most ≤ 1000 ∧ 0 ≤ each ∧ each ≤ 1000 := by unfold badL at hbad; omega
    obtain ⟨h1, h2, h3, h4, h5, h6⟩ := hp
    clear hbad
    have HM := Lib.hid hM
    clear hM
    go_enter Tryd.func5, Tryd.ntmps5
    go_wp2_with fail
    refine (sess_new_c tok most each _ h1 h2 h3 h4 h5 h6).mono ?_
    rintro e w1 ⟨rfl, hse, hb1⟩
    obtain ⟨p, hp⟩ : ∃ p, p = w.heap.size + 1 := ⟨_, rfl⟩
    rw [← hp] at hse
    rw [← hp]
    have hpl := hse.lt
    have hbp : w.heap.size ≤ p := by omega
    clear hp
    go_wp2
    refine wp_fresh ?_
    intro w2 hb2
    have hb12 : Below w1.heap.size w1 w2 := (balloc w1 _).trans (hb2.mono (by simp))
    have hQ2 := (Blk.fresh w1 #[.int .i64 tok, .int .i64 most, .int .i64 each, .int .i64 most, .slice none 0 0] 57).below hb2
    have hB2 : Below w.heap.size w w2 := hb1.trans (hb12.mono hb1.size)
    have hS2 : SS w.heap.size p w1.heap.size most each w2 ⟨tok, most, each, most, -1, 0⟩ ⟨tok, most, each, most, []⟩ (.slice none 0 0) :=
      ⟨hse.below hb12, ⟨hQ2, ⟨rfl, .inl ⟨rfl, rfl⟩⟩, by simp [Value.ownBlock], by simp⟩, sr_new _ _ _, ⟨by simp, ⟨h3, h4⟩, ⟨h3, h4⟩, ⟨h5, h6⟩, by simp⟩, by omega, by simp [Value.ownBlock], rfl, rfl⟩
    obtain ⟨q, hq⟩ : ∃ q, q = w1.heap.size := ⟨_, rfl⟩
    rw [← hq] at hS2
    rw [← hq]
    have hbq : w.heap.size ≤ q := by have := hb1.size; omega
    have HP := Lib.hid hbp
    have HQ := Lib.hid hbq
    clear hb1 hse hpl hb2 hb12 hQ2 hq hbp hbq h150'
    go_loopw [12] (fun i wr => ∃ (j : Nat) (s : Sn) (k : Wk) (rv : Value), j ≤ n ∧ i = .int .i64 j ∧ SS w.heap.size p q most each wr s k rv ∧ k.came.length ≤ j ∧ Below w.heap.size w wr) (fun i _ => n - (intOf i).toNat)
    case atStart => exact ⟨0, _, _, _, by omega, rfl, hS2, by simp, hB2⟩
    case round =>
      clear hS2 hB2
      obtain ⟨j, s, k, rv, hj, rfl, hS, hc, hB⟩ := hrel
      by_cases hlt : j < n
      · obtain ⟨ab, ao, rfl, hab, hcell⟩ := hA (by omega)
        have q0' := hcell j hlt 0 (by decide)
        have q1' := hcell j hlt 1 (by decide)
        have q2' := hcell j hlt 2 (by decide)
        simp only [Nat.add_zero] at q0'
        rw [← Nat.add_assoc] at q1' q2'
        have QQ : Hid (∀ w', Below w.heap.size w w' → w'.cell? ⟨ab, ao + j * 3 + 1, none⟩ = some (.int .i64 (M j 1)) ∧ w'.cell? ⟨ab, ao + j * 3 + 2, none⟩ = some (.int .i64 (M j 2))) :=
          Lib.hid (fun w' hb => ⟨(hb.cell (p := ⟨ab, ao + j * 3 + 1, none⟩) hab).trans q1', (hb.cell (p := ⟨ab, ao + j * 3 + 2, none⟩) hab).trans q2'⟩)
        have q0 := (hB.cell (p := ⟨ab, ao + j * 3, none⟩) hab).trans q0'
        clear hcell hab q0' q1' q2'
        go_upto_block 2 with fail
        go_cut [] (fun wx => (∃ (s : Sn) (k : Wk) (rv : Value), SS w.heap.size p q most each wx s k rv ∧ k.came.length ≤ j + 1) ∧ Below w.heap.size w wx)
        case first =>
          by_cases c0 : M j 0 = 0
          · have e0 : (M j 0 == 0) = true := by simpa using c0
            clear c0
            go_wp2_with fail
            with_reducible refine (tick_c p s _ hS.se hS.ok).mono ?_
            rintro e w3 ⟨rfl, hse3, hm3⟩
            have hwk3 := hS.wk1 hm3
            have hB3 := hB.trans (mod_base hm3 hB.size HP.out)
            have k3 : w3.cell? ⟨q, 3, none⟩ = some (.int .i64 k.left) := hwk3.blk.cell 3
            have fq := hwk3.blk.free
            have hts := tick_same hS.sr hS.ok
            have hlf := hS.ok.lf
            rw [hS.sr.left] at hlf
            obtain ⟨lf0, lf1⟩ := hlf
            have hem := hS.em
            have hee := hS.ee
            obtain ⟨kl, hkl⟩ : ∃ x, x = k.left := ⟨_, rfl⟩
            rw [← hkl] at k3 lf0 lf1
            have HKL := Lib.hid hkl
            have HEM := Lib.hid hem
            have HEE := Lib.hid hee
            have HTS := Lib.hid hts
            clear hts hkl hem hee
            have fin : ∀ x : Int, x = (tickW k).left → SS w.heap.size p q most each (w3.setCell ⟨q, 3, none⟩ (.int .i64 x)) (tickS s) (tickW k) rv := by
              intro x hx
              subst hx
              refine ⟨Blk.far (fun e => hS.pq e.symm) hse3, ⟨?_, row_far hwk3.row hwk3.ne, hwk3.ne, hwk3.len⟩, HTS.out.1, HTS.out.2, hS.pq, hS.d, HEM.out, HEE.out⟩
              have h4 := hwk3.blk.put (i := 3) (v := .int .i64 (tickW k).left)
              simp only [List.setIfInBounds_toArray, List.set_cons_zero, List.set_cons_succ] at h4
              exact h4
            have FIN := Lib.hid fin
            clear fin
            by_cases hmm : kl + each < most
            · have hx : kl + each = (tickW k).left := by
                have := HKL.out; have h2 := HEM.out; have h3 := HEE.out
                unfold tickW; simp only; rw [h2, h3, ← this, if_neg (by omega)]
              have HX := Lib.hid hx
              clear hx
              go_wp2
              go_meet
              refine ⟨⟨tickS s, tickW k, rv, ?_, ?_⟩, ?_⟩
              · first | with_reducible exact FIN.out _ HX.out | (simp only [hmm, if_true]; with_reducible exact FIN.out _ HX.out)
              · show k.came.length ≤ j + 1; omega
              · with_reducible exact hB3.setCell HQ.out _
            · have hx : most = (tickW k).left := by
                have := HKL.out; have h2 := HEM.out; have h3 := HEE.out
                unfold tickW; simp only; rw [h2, h3, ← this]; split <;> omega
              have HX := Lib.hid hx
              clear hx
              go_wp2
              go_meet
              refine ⟨⟨tickS s, tickW k, rv, ?_, ?_⟩, ?_⟩
              · first | with_reducible exact FIN.out _ HX.out | (simp only [hmm, if_false]; with_reducible exact FIN.out _ HX.out)
              · show k.came.length ≤ j + 1; omega
              · with_reducible exact hB3.setCell HQ.out _
          · by_cases c1 : M j 0 = 1
            · have e0 : (M j 0 == 0) = false := by simpa using c0
              have e1 : (M j 0 == 1) = true := by simpa using c1
              clear c0 c1
              have hlf := hS.ok.lf
              rw [hS.sr.left] at hlf
              have HLF := Lib.hid hlf
              have hts := take_same hS.sr hS.ok (M j 1) (M j 2)
              have HTS := Lib.hid hts
              clear hlf hts
              go_wp2
              go_region_held3 (fun w' => w'.cell? ⟨ab, ao + j * 3 + 1, none⟩ = some (.int .i64 (M j 1)) ∧ w'.cell? ⟨ab, ao + j * 3 + 2, none⟩ = some (.int .i64 (M j 2))) (exact QQ.out _ (by repeat (with_reducible (first | exact Below.refl _ _ | assumption | apply ext_drew | apply ext_drewN))))
                (first
                  | (go_at_call 22; refine (take_c p s (M j 1) (M j 2) _ (hS.below (w' := _) (by repeat (with_reducible (first | exact Below.refl _ _ | assumption | apply ext_drew | apply ext_drewN)))).se hS.ok (HM.out j 2).1 (HM.out j 2).2).mono ?_; rintro e w3 ⟨rfl, hse3, hm3⟩; have hwk3 := (hS.below (ext_drew (Below.refl _ _))).wk1 hm3; have hB3 := (ext_drew hB).trans (mod_base hm3 (by have := hB.size; simpa using this) HP.out))
                  | (go_at_call 24; refine (wtake_c w.heap.size q rv k (M j 1) (M j 2) _ hwk3 hS.sr.bnd HLF.out (by omega) hB3.size).mono ?_; rintro e w4 ⟨rfl, rv4, hwk4, hT4⟩; have hB4 := hB3.trans (wt_base hwk3 hT4 hB3.size HQ.out))
                  | (go_at_call 16; refine (lbare_eq (takeS s (M j 1) (M j 2)).1 (takeW k (M j 1) (M j 2)).1 _ (hH.below hB4) HTS.out.1).mono ?_; rintro e w5 ⟨rfl, hb5⟩; have hB5 := hB4.trans (hb5.mono hB4.size)))
              all_goals
                go_wp2
                go_meet
                exact ⟨⟨_, _, rv4, (((hS.below (ext_drew (Below.refl _ _))).took hse3 hwk4 hT4 HTS.out.2.1 HTS.out.2.2 (takeW_keep k _ _).2.1 (takeW_keep k _ _).2.2).below hb5), by have := (takeW_keep k (M j 1) (M j 2)).1; omega⟩, hB5⟩
            · have e0 : (M j 0 == 0) = false := by simpa using c0
              have e1 : (M j 0 == 1) = false := by simpa using c1
              clear c0 c1
              go_wp2
              go_meet
              exact ⟨⟨s, k, rv, hS, by omega⟩, hB⟩
        case rest =>
          clear hS hB q0 QQ hc
          obtain ⟨⟨s, k, rv, hS, hc⟩, hB⟩ := hcut
          have hlf : s.left = k.left := hS.sr.left
          have hnw : s.newest = newW k.came := hS.sr.new
          obtain ⟨z3, c3, f3⟩ := id hS.wk.blk
          have k3 : wc.cell? ⟨q, 3, none⟩ = some (.int .i64 s.left) := by rw [hlf]; exact c3 3
          have HNW := Lib.hid hnw
          clear c3 hlf hnw
          have hmc := more_cell
          have hmf := more_frozen
          have hml := more_lt
          go_wp2
          refine region_quiet_all (by kernel_rfl) (by kernel_rfl) ?_
          repeat (go_big_quiet_step (first | (go_at_call 23; exact calls_after_same (sess_left_c p s _ (hS.se.more _))) | (go_at_call 25; exact calls_after_same (sess_newest_c p s _ (hS.se.more _))) | (go_at_call 26; exact calls_after_same (HNW.out ▸ wnew_c w.heap.size q rv k _ (hS.wk.below (more_below _ _))))))
          refine wpQuiet_nil ?_
          rintro w6 hw6
          have hb6 := after_below hw6
          clear hw6
          go_wp2
          go_roundw
          case rel => exact ⟨j + 1, s, k, rv, by omega, by go_num, hS.below hb6, hc, hB.trans (hb6.mono hB.size)⟩
          case measure => first | (simp [intOf]; done) | (simp [intOf]; omega)
      · obtain rfl : j = n := by omega
        go_wp2
        go_ret
        exact ⟨rfl, hB⟩

end Go.Proofs.YtnkinnfpebploaaDoor
