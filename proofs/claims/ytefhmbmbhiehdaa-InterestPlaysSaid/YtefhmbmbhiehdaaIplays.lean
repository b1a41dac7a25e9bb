/- The walk of gyrelaw.InterestPlays. Conditions: none. -/
import Derived.Test.YtefhmbmbhiehdaaIplays1
import Derived.Test.YtefhmbmbhiehdaaIplays2
import Derived.Test.YtefhmbmbhiehdaaIplays3
import Derived.Test.YtefhmbmbhiehdaaIplays4
namespace Go.Proofs.Ytefhmbmbhiehdaa
open Go Go.Maps Go.RowKit Go.BigFrame Go.ChangeShapes Go.WideShapes
set_option maxRecDepth 100000 in
set_option maxHeartbeats 8000000 in
theorem interestPlays_w (A : Option Addr) (n c : Nat) (M : Nat → Nat → Int) (w : World) (_hn : n ≤ maxLen) (hR : Reads w A n 23 M) (hM : ∀ i j, -9223372036854775808 ≤ M i j ∧ M i j ≤ 9223372036854775807) (_hZ : A = none → n = 0 ∧ c = 0) :
    Calls Try.prog 4 #[.slice A n c] w fun e w' => e = .returned (.bool true) ∧ Below w.heap.size w w' := by
  by_cases h80 : 80 < n
  · have d80 : decide ((n : Int) > 80) = true := decide_eq_true (by omega)
    go_enter Try.func4, Try.ntmps4
    go_wp2
    go_ret
    exact ⟨rfl, Below.refl _ _⟩
  have d80 : decide ((n : Int) > 80) = false := decide_eq_false (by omega)
  go_enter Try.func4, Try.ntmps4
  go_wp2_with fail
  refine (inew0_c _ (fun _ => False) (fun _ h => h.elim)).mono ?_
  rintro e w1 ⟨g, q1, S1, rfl, hn1, hG1, hS1, hb1⟩
  have HG1 := Lib.hid hG1
  have HS1 := Lib.hid hS1
  clear hG1 hS1
  go_wp2
  go_loopw [4, 5] (fun v i wr => ∃ (k : Nat) (bs : List Bo) (D : Int → Option En) (S : Nat → Prop) (q : GP), k ≤ n ∧ i = .int .i64 k ∧ PlI w wr g k v bs D S q) (fun _ i _ => n - (intOf i).toNat)
  case atStart => exact ⟨0, [], fun _ => none, S1, q1, by omega, rfl, ⟨rfl, .inl ⟨rfl, rfl⟩⟩, gridOf_nil, HG1.out, hn1, fun f h => (by cases h), Nat.le_refl _, fun x h => (by cases h), HS1.out, hb1⟩
  case round =>
    obtain ⟨k, bs, D, S, q, hk, rfl, hP⟩ := hrel
    by_cases hlt : k < n
    · have dlt : decide ((k : Int) < (n : Int)) = true := decide_eq_true (by omega)
      obtain ⟨bl, ol, hA, hbl, hcl⟩ := hR.below hP.bel (by omega)
      subst hA
      obtain ⟨Av, cv, rfl⟩ : ∃ Av cv, u4 = .slice Av bs.length cv := by
        rcases hP.row.2 with ⟨e1, e2⟩ | ⟨g, cap, cur, e1, _⟩
        · exact ⟨none, 0, by rw [e1, e2]⟩
        · exact ⟨_, cap, e1⟩
      have HP := Lib.hid hP
      have hMb := hM k 1
      go_upto_region 10 with fail
      refine look_way hlt hcl (Lib.hid ?_)
      clear hcl hbl
      intro v22 v23 v24 v25 w3 hp6 hv3
      have HP6 := Lib.hid hp6
      clear hp6
      have HP3 := Lib.hid (HP.out.below hv3)
      have HSW : Hid (∀ x, S x → x < wr.heap.size) := Lib.hid (fun x e => (HP.out.gr.raw.sl x e).1)
      obtain ⟨p6, hp6⟩ : ∃ p6, p6 = wr.heap.size := ⟨_, rfl⟩
      rw [← hp6] at HP6 HSW
      rw [← hp6]
      have HVB : Hid (∀ x, (Value.slice Av bs.length cv).ownBlock = some x → x < p6) := Lib.hid (fun x e => by rw [hp6]; exact (row_lt HP.out.row e).1)
      have HWP : Hid (w.heap.size ≤ p6) := Lib.hid (by rw [hp6]; exact HP.out.bel.size)
      clear hv3 HP hp6
      obtain ⟨z6, c6, f6⟩ := id HP6.out
      go_upto_region 12 with fail
      refine wp_fresh ?_
      rintro w4 hb4
      have HP7 : Hid (Blk w4 w3.heap.size #[.int .i64 (M k 1), .int .i64 (M k 2), .int .i64 (M k 3), .int .i64 (M k 4), .int .i64 (M k 5), .int .i64 (M k 6), .int .i64 (M k 7), .int .i64 (M k 8), .int .i64 (M k 9), .int .i64 (M k 10), .int .i64 (M k 11), .int .i64 (M k 12), .int .i64 (M k 13), .int .i64 (M k 14), .int .i64 (M k 15), .int .i64 (M k 16), .int .i64 (M k 17)]) := Lib.hid (Blk.below (by
        refine blk_asR (cs := _) (by repeat (with_reducible (first | assumption | (apply Blk.at; simp; done) | apply Blk.alloc | apply Blk.drew | apply Blk.drewN | apply Blk.more | apply Blk.put | (apply Blk.far; focus (first | assumption | (apply Ne.symm; assumption) | (simp; done) | (simp <;> omega)))))) ?_
        simp only []) hb4)
      have hv4 : Below w3.heap.size w3 w4 := (by repeat (with_reducible (first | exact Below.refl _ _ | assumption | apply ext_drew | apply ext_drewN | apply ext_alloc | apply ext_more | (refine ext_setCell ?_ (by first | assumption | (simp <;> omega)) _) | (refine ext_below ?_ (by assumption)))))
      have HP4 := Lib.hid (HP3.out.below hv4)
      have HP64 := Lib.hid (HP6.out.below hv4)
      obtain ⟨p7, hp7⟩ : ∃ p7, p7 = w3.heap.size := ⟨_, rfl⟩
      have HN7 : Hid (p6 < p7) := Lib.hid (by rw [hp7]; exact HP6.out.lt)
      rw [← hp7] at HP7
      rw [← hp7]
      clear hb4 hv4 z6 c6 f6 HP3 HP6 hp7
      obtain ⟨z7, c7, f7⟩ := id HP7.out
      go_wp2_with fail
      refine (rclamp_c _ _ _ 65536000 (by decide) _).mono ?_
      rintro e5 w5 ⟨rfl, hb5⟩
      have HP75 := Lib.hid (HP7.out.below hb5)
      have HP5 := Lib.hid (HP4.out.below hb5)
      have HP65 := Lib.hid (HP64.out.below hb5)
      clear hb5 z7 c7 f7 HP4 HP64 HP7
      obtain ⟨z7, c7, f7⟩ := id HP75.out
      go_upto_region 14 with fail
      refine wp_fresh ?_
      rintro w6 hb6
      obtain ⟨f, hf, hf0⟩ : ∃ f : Bo, (#[.int .i64 (f 0), .int .i64 (f 1), .int .i64 (f 2), .int .i64 (f 3), .int .i64 (f 4), .int .i64 (f 5), .int .i64 (f 6), .int .i64 (f 7), .int .i64 (f 8), .int .i64 (f 9), .int .i64 (f 10), .int .i64 (f 11), .int .i64 (f 12), .int .i64 (f 13), .int .i64 (f 14), .int .i64 (f 15), .int .i64 (f 16)] : Array Value) = #[.int .i64 (M k 1), .int .i64 (M k 2), .int .i64 (M k 3), .int .i64 (M k 4), .int .i64 (M k 5), .int .i64 (M k 6), .int .i64 (clamp 65536000 (M k 7)), .int .i64 (clamp 65536000 (M k 8)), .int .i64 (clamp 65536000 (M k 9)), .int .i64 (M k 10), .int .i64 (M k 11), .int .i64 (M k 12), .int .i64 (M k 13), .int .i64 (M k 14), .int .i64 (M k 15), .int .i64 (M k 16), .int .i64 (M k 17)] ∧ f 0 = M k 1 := ⟨fun j => ([M k 1, M k 2, M k 3, M k 4, M k 5, M k 6, clamp 65536000 (M k 7), clamp 65536000 (M k 8), clamp 65536000 (M k 9), M k 10, M k 11, M k 12, M k 13, M k 14, M k 15, M k 16, M k 17] : List Int).getD j 0, rfl, rfl⟩
      have b75 := HP75.out
      have HP76 : Hid (Blk w6 p7 #[.int .i64 (f 0), .int .i64 (f 1), .int .i64 (f 2), .int .i64 (f 3), .int .i64 (f 4), .int .i64 (f 5), .int .i64 (f 6), .int .i64 (f 7), .int .i64 (f 8), .int .i64 (f 9), .int .i64 (f 10), .int .i64 (f 11), .int .i64 (f 12), .int .i64 (f 13), .int .i64 (f 14), .int .i64 (f 15), .int .i64 (f 16)]) := Lib.hid (by
        rw [hf]
        exact Blk.below (by
          refine blk_asR (cs := _) (by repeat (with_reducible (first | assumption | (apply Blk.at; simp; done) | apply Blk.alloc | apply Blk.drew | apply Blk.drewN | apply Blk.more | apply Blk.put | (apply Blk.far; focus (first | assumption | (apply Ne.symm; assumption) | (simp; done) | (simp <;> omega)))))) ?_
          simp only [List.setIfInBounds_toArray, List.set_cons_zero, List.set_cons_succ]) hb6)
      have hv6 : Mod (· = p7) w5 w6 := Mod.trans2 (((((Mod.refl (· = p7) w5).set (.inl rfl)).set (.inl rfl)).set (.inl rfl))) (Mod.of_below (S := fun _ => False) hb6) (fun _ _ e => e.elim)
      have HP66 := Lib.hid (HP65.out.mod hv6 (fun e => by have := HN7.out; omega))
      have HPL := Lib.hid (HP5.out.mod hv6 (fun x e => ⟨fun e' => by have := HSW.out x e'; have := HN7.out; omega, fun e' => by have := HVB.out x e'; have := HN7.out; omega, by have := HWP.out; have := HN7.out; omega⟩))
      have HN6 : Hid (p7 < w6.heap.size) := Lib.hid HP76.out.lt
      have HF0 := Lib.hid hf0
      have hle := HPL.out.le
      clear hb6 hf hf0 hv6 b75 HP5 HP65 HP75 z7 c7 f7
      go_upto_block 2 with fail
      refine left_way (by omega) (Lib.hid HPL.out.row) HP76 (Lib.hid ?_)
      intro v8 v9 v32 v33 v34 v35 v36 v37 v38 v39 v40 v41 v42 v43 v44 v45 v46 v47 v48 v49 v50 v51 v52 w7 hrow hb
      have HROW := Lib.hid hrow
      have HB2 := Lib.hid hb
      clear hrow hb
      have HPL7 := Lib.hid (HPL.out.below HB2.out)
      have HP77 := Lib.hid (HP76.out.below HB2.out)
      have HP67 := Lib.hid (HP66.out.below HB2.out)
      have hs7 := HB2.out.size
      clear HPL HP76 HP66
      obtain ⟨z6, c6, f6⟩ := id HP67.out
      go_upto_block 4 with fail
      refine switch_way (by omega) HPL7 HP77 HP67 HROW (Lib.hid ⟨HSW.out, HN7.out, HN6.out, hs7, HWP.out⟩) (by rw [HF0.out]; exact hMb) (Lib.hid ?qn) (Lib.hid ?qe)
      case qn =>
        intro v4 v55 v56 v57 v58 v59 v60 v61 v62 v63 v64 v65 v66 v67 v68 v69 v70 v71 v72 v73 v74 w8 bs' D' S' q' hP8 hP68
        obtain ⟨Av', cv', rfl⟩ : ∃ Av' cv', v4 = .slice Av' bs'.length cv' := by
          rcases hP8.row.2 with ⟨e1, e2⟩ | ⟨g, cap, cur, e1, _⟩
          · exact ⟨none, 0, by rw [e1, e2]⟩
          · exact ⟨_, cap, e1⟩
        have HP8 := Lib.hid hP8
        have HP68 := Lib.hid hP68
        clear hP8 hP68 z6 c6 f6 HPL7 HP77 HP67 HROW
        go_upto_region 27 with fail
        refine ends_way (by omega) HP8 HP68 (Lib.hid ?_)
        intro v75 v76 v77 v78 v79 v80 v81 v82 v83 v84 v85 v86 v87 v88 v89 v90 v91 v92 v93 v94 v95 v96 v97 w9 hb9
        have HP9 := Lib.hid (HP8.out.below hb9)
        clear hb9 HP8 HP68
        go_wp2
        go_roundw
        case rel => exact ⟨k + 1, bs', D', S', q', by omega, by go_num, HP9.out⟩
        case measure => simp [intOf]; omega
      case qe =>
        intro v55 v56 v57 v58 v59 v60 v61 v62 v63 v64 v65 v66 v67 v68 v69 v70 v71 v72 v73 v74 w8 hP8
        have HP8 := Lib.hid hP8
        clear hP8 z6 c6 f6 HPL7 HP77 HP67 HROW
        go_wp2
        go_roundw
        case rel => exact ⟨k + 1, bs, D, S, q, by omega, by go_num, HP8.out⟩
        case measure => simp [intOf]; omega
    · have dlt : decide ((k : Int) < (n : Int)) = false := decide_eq_false (by omega)
      have hb := hP.bel
      go_wp2
      go_ret
      exact ⟨rfl, hb⟩
end Go.Proofs.Ytefhmbmbhiehdaa
