/- A new world. Conditions: none. -/
import Derived.Test.YtniahipadfgkbaaGreatKV1
import Derived.Test.YtniahipadfgkbaaGreatKG8
import Derived.Test.YtniahipadfgkbaaGreatKS4
namespace Go.Proofs.YtniahipadfgkbaaGreat
open Go Go.Maps Go.RowKit Go.BigFrame Go.ChangeShapes Go.WideShapes Go.ChangeAt
def rowL17 (M : Nat → Nat → Int) (i : Nat) : List Value := (List.range 17).map fun j => .int .i64 (M i j)
def rowV (M : Nat → Nat → Int) (i : Nat) : Value := .agg (rowL17 M i).toArray
theorem rowV_lit (M : Nat → Nat → Int) (i : Nat) : rowV M i = .agg #[.int .i64 (M i 0), .int .i64 (M i 1), .int .i64 (M i 2), .int .i64 (M i 3), .int .i64 (M i 4), .int .i64 (M i 5), .int .i64 (M i 6), .int .i64 (M i 7), .int .i64 (M i 8), .int .i64 (M i 9), .int .i64 (M i 10), .int .i64 (M i 11), .int .i64 (M i 12), .int .i64 (M i 13), .int .i64 (M i 14), .int .i64 (M i 15), .int .i64 (M i 16)] := rfl
theorem rowL17_one (M : Nat → Nat → Int) (i : Nat) : (rowL17 M i).toArray.all (·.oneCell') = true := by
  rw [← Array.all_toList, List.all_eq_true]
  intro v hv
  simp only [rowL17, List.mem_map] at hv
  obtain ⟨j, _, rfl⟩ := hv
  rfl
theorem results_cell_tmp {P : Program} {fn : Func} {tmps : Array Value} {w : World} {a t : Nat} {ty : TypeId} {p : Addr} {v u : Value} (hr : fn.results = #[.cell a ty, .tmp t]) (hp : tmps.getD a undef = .pointer (some p)) (ht : tmps.getD t undef = u)
    (hl : (loadVar ty p).run P w = .ok v w) : (results fn tmps).run P w = .ok (.tuple #[v, u]) w := by
  have ha : (asAddr (.pointer (some p))).run P w = .ok p w := rfl
  have hp' : tmps[a]?.getD undef = .pointer (some p) := by simpa using hp
  have ht' : tmps[t]?.getD undef = u := by simpa using ht
  simp [results, hr, hp', ht', hl, ha, Sem.run_bind, Array.mapM_eq_mapM_toList]
/-- a speed, or 0 -/
def stopD (a b s : Int) : Int := if a ≠ b then 0 else s
theorem stopped_c (a b s : Int) (w : World) : Calls Tryz.prog 21 #[.int .i64 a, .int .i64 b, .int .i64 s] w fun e w' => e = .returned (.int .i64 (stopD a b s)) ∧ w = w' := by
  unfold stopD
  by_cases h : a = b
  · subst h
    rw [if_neg (fun h => h rfl)]
    go_enter Tryz.func21, Tryz.ntmps21
    go_wp2
    go_ret
    exact ⟨rfl, rfl⟩
  · rw [if_pos h]
    have h' : (a != b) = true := by simpa using h
    have h2 : (a == b) = false := by simpa using h
    go_enter Tryz.func21, Tryz.ntmps21
    go_wp2
    go_ret
    exact ⟨rfl, rfl⟩
theorem find_c (f1 f2 f3 bo ru ro qu nx st : Int) (A : Option Addr) (n cap : Nat) (tv : Value) (M : Nat → Nat → Int) (x : Int) (w : World) (b : Nat) (hW : Blk w b #[.int .i64 f1, .int .i64 f2, .int .i64 f3, .int .i64 bo, .int .i64 ru, .int .i64 ro, .int .i64 qu, .slice A n cap, tv, .int .i64 nx, .int .i64 st]) (hn : n ≤ 1000000) (hR : Reads w A n 17 M) (hs : Rise M n) :
    Calls Tryz.prog 33 #[.pointer (some ⟨b, 0, none⟩), .int .i64 x] w fun e w' => ∃ k : Nat, e = .returned (.tuple #[.int .i64 (k : Int), .bool (decide (k < n) && (M k 0 == x))]) ∧ At M n x k ∧ Below w.heap.size w w' := by
  obtain ⟨zt, ct, ft⟩ := id hW
  clear hW
  have HR := Lib.hid hR
  have HS := Lib.hid hs
  clear hR hs
  go_enter Tryz.func33, Tryz.ntmps33
  go_wp2_with fail
  refine (bsearch_c M A n cap x w hn HR.out HS.out).mono ?_
  rintro e w2 ⟨k, rfl, hat, hb2⟩
  clear ct ft zt
  obtain ⟨bv, hbv⟩ : ∃ bv, bv = (decide (k < n) && (M k 0 == x)) := ⟨_, rfl⟩
  rw [← hbv]
  have HE := Lib.hid hbv
  clear hbv
  go_wp2
  exact bodyPost_ret (v := .tuple #[.int .i64 (k : Int), .bool bv]) (by simp [results, Tryz.results33, go_sem]) rfl ⟨k, by rw [HE.out], hat, hb2⟩
theorem At.yes {M : Nat → Nat → Int} {n i k : Nat} (h : At M n (M i 0) k) (hs : Rise M n) (hi : i < n) : k = i := by
  obtain ⟨h1, h2, h3⟩ := h
  rcases Nat.lt_trichotomy k i with h | h | h
  · have := h3 k (Nat.le_refl _) (by omega)
    have := hs k i h hi
    omega
  · exact h
  · have := h2 i h
    omega
set_option maxRecDepth 100000 in
set_option maxHeartbeats 4000000 in
theorem body_yes (f1 f2 f3 bo ru ro qu nx st : Int) (A : Option Addr) (n cap : Nat) (tv : Value) (M : Nat → Nat → Int) (i : Nat) (hi : i < n) (w : World) (b : Nat) (hW : Blk w b #[.int .i64 f1, .int .i64 f2, .int .i64 f3, .int .i64 bo, .int .i64 ru, .int .i64 ro, .int .i64 qu, .slice A n cap, tv, .int .i64 nx, .int .i64 st]) (hn : n ≤ 1000000) (hR : Reads w A n 17 M) (hs : Rise M n) :
    Calls Tryz.prog 17 #[.pointer (some ⟨b, 0, none⟩), .int .i64 (M i 0)] w fun e w' => e = .returned (.tuple #[rowV M i, .bool true]) ∧ Below w.heap.size w w' := by
  have HW := Lib.hid hW
  have HR := Lib.hid hR
  have HS := Lib.hid hs
  clear hW hR hs
  go_enter Tryz.func17, Tryz.ntmps17
  go_wp2_with fail
  have hv0 : Below w.heap.size w (w.alloc (.cells #[.int .i64 0, .int .i64 0, .int .i64 0, .int .i64 0, .int .i64 0, .int .i64 0, .int .i64 0, .int .i64 0, .int .i64 0, .int .i64 0, .int .i64 0, .int .i64 0, .int .i64 0, .int .i64 0, .int .i64 0, .int .i64 0, .int .i64 0] 37)) := below_alloc _ _
  refine (find_c f1 f2 f3 bo ru ro qu nx st A n cap tv M (M i 0) _ b (HW.out.below hv0) hn (HR.out.below hv0) HS.out).mono ?_
  rintro e w2 ⟨k, rfl, hat, hb2⟩
  have hk : k = i := hat.yes HS.out hi
  subst hk
  have hd : (decide (k < n) && (M k 0 == M k 0)) = true := by simp [hi]
  rw [hd]
  have HP : Hid (Blk w2 w.heap.size #[.int .i64 0, .int .i64 0, .int .i64 0, .int .i64 0, .int .i64 0, .int .i64 0, .int .i64 0, .int .i64 0, .int .i64 0, .int .i64 0, .int .i64 0, .int .i64 0, .int .i64 0, .int .i64 0, .int .i64 0, .int .i64 0, .int .i64 0]) := Lib.hid ((Blk.at w w.heap.size _ _ rfl).below hb2)
  have HB : Hid (Below w.heap.size w w2) := Lib.hid (hv0.trans (hb2.mono hv0.size))
  clear hat hd hb2 hv0
  obtain ⟨bb, oo, eA, hbb, hcl⟩ := HR.out (by omega)
  subst eA
  have HRG : Hid (w2.rangeAt bb (oo + k * 17) (rowL17 M k)) := Lib.hid (reads_range HB.out hbb hcl hi)
  clear hcl hbb
  have HW2 := HW.out.below HB.out
  obtain ⟨zt, ct, ft⟩ := HW2
  go_wp2_with (first | (refine wpList_load_mid rfl 37 (.tmp 20) rfl bb (oo + k * 17) rfl (rowL17 M k) _ HRG.out Tryz.underlying37 rfl bodyInfoW ?_) | (refine at_store_blk (b := w.heap.size) (c' := (rowL17 M k).toArray) rfl 37 (.tmp 4) (.tmp 21) rfl rfl rfl HP.out rfl bodyInfoW (rowL17_one M k) ?_; intro w5 hp5 hm5; have HP5 := Lib.hid (And.intro hp5 hm5); clear hp5 hm5 zt ct ft))
  exact bodyPost_ret (v := .tuple #[rowV M k, .bool true]) (results_cell_tmp Tryz.results17 rfl rfl (run_loadVar_mid w5 w.heap.size 0 37 (rowL17 M k) _ (blk_range HP5.out.1) Tryz.underlying37 rfl bodyInfoW)) rfl ⟨rfl, HB.out.trans (HP5.out.2.toBelow HB.out.size (fun b h1 (h2 : b = w.heap.size) => by omega))⟩
/-- how many an owner has, of the first k -/
def ownsN (M : Nat → Nat → Int) (o : Int) : Nat → Nat
  | 0 => 0
  | k + 1 => if M k 1 = o then ownsN M o k + 1 else ownsN M o k
theorem ownsN_le (M : Nat → Nat → Int) (o : Int) : ∀ k, ownsN M o k ≤ k := by
  intro k
  induction k with
  | zero => exact Nat.le_refl _
  | succ k ih => unfold ownsN; split <;> omega
set_option maxRecDepth 100000 in
theorem owns_c (f1 f2 f3 bo ru ro qu nx st : Int) (A : Option Addr) (n cap : Nat) (tv : Value) (M : Nat → Nat → Int) (o : Int) (w : World) (b : Nat) (hW : Blk w b #[.int .i64 f1, .int .i64 f2, .int .i64 f3, .int .i64 bo, .int .i64 ru, .int .i64 ro, .int .i64 qu, .slice A n cap, tv, .int .i64 nx, .int .i64 st]) (hn : n ≤ 1000000) (hR : Reads w A n 17 M) :
    Calls Tryz.prog 32 #[.pointer (some ⟨b, 0, none⟩), .int .i64 o] w fun e w' => e = .returned (.int .i64 (ownsN M o n : Nat)) ∧ Below w.heap.size w w' := by
  obtain ⟨zt, ct, ft⟩ := id hW
  have HR := Lib.hid hR
  clear hW hR
  go_enter Tryz.func32, Tryz.ntmps32
  go_wp2
  clear ct ft zt
  go_loopg [5, 13] n (fun k vn vi wr => ∃ j : Nat, vi = .int .i64 (j : Int) ∧ vn = .int .i64 ((ownsN M o j : Nat) : Int) ∧ j ≤ n ∧ k = n - j ∧ Below w.heap.size w wr)
  case atStart => exact ⟨0, rfl, rfl, Nat.zero_le _, rfl, Below.refl _ _⟩
  case round =>
    obtain ⟨j, rfl, rfl, hj, hk, hb⟩ := hrel
    have HB := Lib.hid hb
    have HK := Lib.hid hk
    clear hb hk
    by_cases hl : j < n
    · have d0 : decide ((j : Int) < (n : Int)) = true := decide_eq_true (by omega)
      have hw1 : wrap64 ((j : Int) + 1) = (j : Int) + 1 := by unfold wrap64; omega
      obtain ⟨bb, oo, eA, hbb, hcl⟩ := HR.out (by omega)
      subst eA
      have HRG : Hid (wr.rangeAt bb (oo + j * 17) (rowL17 M j)) := Lib.hid (reads_range HB.out hbb hcl hl)
      have hle := ownsN_le M o j
      obtain ⟨c, hc⟩ : ∃ c, c = ownsN M o j := ⟨_, rfl⟩
      rw [← hc] at hle ⊢
      have hw2 : wrap64 ((c : Int) + 1) = (c : Int) + 1 := by unfold wrap64; omega
      have HC := Lib.hid hc
      clear hcl hbb hle hc
      by_cases he : M j 1 = o
      · have he' : (M j 1 == o) = true := by simpa using he
        have HE : Hid (ownsN M o (j + 1) = c + 1) := Lib.hid (by rw [HC.out]; exact if_pos he)
        clear he
        go_wp2_with (first | (refine wpList_load_mid rfl 37 (.tmp 15) rfl bb (oo + j * 17) rfl (rowL17 M j) _ HRG.out Tryz.underlying37 rfl bodyInfoW ?_; show wpList _ _ _ _ (Act.put _ _ (rowV M j)) _; rw [rowV_lit]))
        go_roundg (n - (j + 1))
        case measure => have := HK.out; omega
        case rel => exact ⟨j + 1, by first | (simp; done) | (simp; exact hw1) | rfl, by rw [HE.out]; first | rfl | (rw [hw2]; rfl) | (simp; done), by omega, rfl, ext_below HB.out (by repeat (with_reducible (first | exact Below.refl _ _ | assumption | apply ext_drew | apply ext_drewN | apply ext_alloc | apply ext_more | (refine ext_setCell ?_ (by first | assumption | (simp <;> omega)) _) | (refine ext_below ?_ (by assumption)))))⟩
      · have he' : (M j 1 == o) = false := by simpa using he
        have HE : Hid (ownsN M o (j + 1) = c) := Lib.hid (by rw [HC.out]; exact if_neg he)
        clear he
        go_wp2_with (first | (refine wpList_load_mid rfl 37 (.tmp 15) rfl bb (oo + j * 17) rfl (rowL17 M j) _ HRG.out Tryz.underlying37 rfl bodyInfoW ?_; show wpList _ _ _ _ (Act.put _ _ (rowV M j)) _; rw [rowV_lit]))
        go_roundg (n - (j + 1))
        case measure => have := HK.out; omega
        case rel => exact ⟨j + 1, by first | (simp; done) | (simp; exact hw1) | rfl, by rw [HE.out], by omega, rfl, ext_below HB.out (by repeat (with_reducible (first | exact Below.refl _ _ | assumption | apply ext_drew | apply ext_drewN | apply ext_alloc | apply ext_more | (refine ext_setCell ?_ (by first | assumption | (simp <;> omega)) _) | (refine ext_below ?_ (by assumption)))))⟩
    · have d0 : decide ((j : Int) < (n : Int)) = false := decide_eq_false (by omega)
      have ej : j = n := by omega
      subst ej
      go_wp2
      go_ret
      exact ⟨rfl, HB.out⟩
end Go.Proofs.YtniahipadfgkbaaGreat
namespace Go.Proofs.YtniahipadfgkbaaGreat
open Go Go.Maps Go.RowKit Go.BigFrame Go.ChangeShapes Go.WideShapes Go.ChangeAt
def eq3 (x1 x2 x3 y1 y2 y3 : Int) : Bool := x1 == y1 && x2 == y2 && x3 == y3
theorem run_equalIn_vec (d : Nat) (x1 x2 x3 y1 y2 y3 : Int) (w : World) : (Op.equalIn (d + 2) 24 (.agg #[.int .i64 x1, .int .i64 x2, .int .i64 x3]) (.agg #[.int .i64 y1, .int .i64 y2, .int .i64 y3])).run Tryz.prog w = .ok (eq3 x1 x2 x3 y1 y2 y3) w := by
  rw [run_equalIn_struct w (d + 1) _ _ _ (by kernel_rfl) (by kernel_rfl)]
  simp only [Program.fieldsOf, Tryz.underlying24]
  simp only [Op.eqFields]
  unfold eq3
  cases h1 : (x1 == y1) <;> cases h2 : (x2 == y2) <;> cases h3 : (x3 == y3) <;> simp [go_sem, Tryz.underlying3, h1, h2, h3]
theorem run_neq_vec (x1 x2 x3 y1 y2 y3 : Int) (w : World) : (binOp .neq 24 (.agg #[.int .i64 x1, .int .i64 x2, .int .i64 x3]) (.agg #[.int .i64 y1, .int .i64 y2, .int .i64 y3])).run Tryz.prog w = .ok (.bool (!(eq3 x1 x2 x3 y1 y2 y3))) w := by
  rw [run_neq_struct, run_equalIn_vec 9998]
  rfl
set_option maxRecDepth 100000 in
set_option maxHeartbeats 4000000 in
theorem newW_c (f1 f2 f3 bo ru ro qu : Int) (w : World) (hf : (-6553600 ≤ f1 ∧ f1 ≤ 6553600) ∧ (-6553600 ≤ f2 ∧ f2 ≤ 6553600) ∧ (-6553600 ≤ f3 ∧ f3 ≤ 6553600)) (hq : 0 ≤ qu ∧ qu ≤ 60) (hr : RightL bo ru ro) :
    Calls Tryz.prog 15 #[.agg #[.int .i64 f1, .int .i64 f2, .int .i64 f3, .int .i64 bo, .int .i64 ru, .int .i64 ro, .int .i64 qu]] w fun e w' => ∃ b t S, e = .returned (.tuple #[.pointer (some ⟨b, 0, none⟩), .nilIface]) ∧ Below w.heap.size w w' ∧ w.heap.size ≤ b ∧ ¬ S b ∧ Blk w' b #[.int .i64 f1, .int .i64 f2, .int .i64 f3, .int .i64 bo, .int .i64 ru, .int .i64 ro, .int .i64 qu, .slice none 0 0, .pointer (some ⟨t, 0, none⟩), .int .i64 1, .int .i64 0] ∧ BW w' t 65536 0 (fun _ => none) 0 S ∧ ∀ x, S x → w.heap.size ≤ x := by
  have HCL : Hid (∀ w, Calls Tryz.prog 12 #[.agg #[.int .i64 f1, .int .i64 f2, .int .i64 f3], .int .i64 6553600] w fun e w' => e = .returned (.agg #[.int .i64 f1, .int .i64 f2, .int .i64 f3]) ∧ Below w.heap.size w w') := Lib.hid (fun w => by
    have h := clamp_c f1 f2 f3 6553600 (by decide) w
    rw [clamp_in9 (by decide) hf.1, clamp_in9 (by decide) hf.2.1, clamp_in9 (by decide) hf.2.2] at h
    exact h)
  have HQ := Lib.hid hq
  have HRL := Lib.hid hr
  have d1 : decide (qu < 0) = false := decide_eq_false (by omega)
  have d2 : decide (60 < qu) = false := decide_eq_false (by omega)
  have hneq : ∀ w, (binOp .neq 24 (.agg #[.int .i64 f1, .int .i64 f2, .int .i64 f3]) (.agg #[.int .i64 f1, .int .i64 f2, .int .i64 f3])).run Tryz.prog w = .ok (.bool false) w := fun w => by rw [run_neq_vec]; simp [eq3]
  clear hf hq hr
  go_enter Tryz.func15, Tryz.ntmps15
  go_upto_region 1 with fail
  have hmc := more_cell
  refine region_quiet_all (by kernel_rfl) (by kernel_rfl) ?_
  repeat (go_big_quiet_step (first | (go_at_call 12; exact calls_after (HCL.out _))))
  refine wpQuiet_nil ?_
  rintro w1 hw1
  have hb1 := after_below hw1
  clear hw1 hmc
  have hp1 := (Blk.at w w.heap.size _ _ rfl).below hb1
  have HP1 := Lib.hid hp1
  have HB1 := Lib.hid ((below_alloc w _).trans (hb1.mono (by simp)))
  clear hb1
  obtain ⟨zp, cp, fp⟩ := hp1
  go_wp2_with fail
  refine (lawright_c bo ru ro _).mono ?_
  rintro e w2 ⟨rfl, hb2⟩
  rw [decide_eq_true HRL.out]
  have HP2 := Lib.hid (HP1.out.below hb2)
  have HB2 := Lib.hid (HB1.out.trans (hb2.mono HB1.out.size))
  clear hb2 zp cp fp
  obtain ⟨zp, cp, fp⟩ := id HP2.out
  go_wp2_with fail
  refine (bnew_c 65536 (by decide) w2).mono ?_
  rintro e w3 ⟨t, S, rfl, hb3, hB3, hS3⟩
  have HP3 := Lib.hid (HP2.out.below hb3)
  have HB3 := Lib.hid (HB2.out.trans (hb3.mono HB2.out.size))
  have HT := Lib.hid (And.intro hB3 (fun x hx => Nat.le_trans HB2.out.size (hS3 x hx)))
  clear hb3 hB3 hS3 zp cp fp
  obtain ⟨zp, cp, fp⟩ := id HP3.out
  go_wp2
  exact bodyPost_ret (v := .tuple #[.pointer (some ⟨w3.heap.size, 0, none⟩), .nilIface]) (by simp [results, Tryz.results15, go_sem]) rfl ⟨w3.heap.size, t, S, rfl, HB3.out.trans ((below_alloc _ _).mono HB3.out.size), HB3.out.size, fun h => by have := HT.out.1.2 _ h; omega, Blk.at w3 _ _ _ rfl, HT.out.1.below (below_alloc _ _), HT.out.2⟩
end Go.Proofs.YtniahipadfgkbaaGreat
