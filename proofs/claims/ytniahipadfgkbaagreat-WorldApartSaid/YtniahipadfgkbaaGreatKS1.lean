/- The contract of slices.Clone over bodies. Conditions: none but that there are not too many. -/
import Derived.Test.YtniahipadfgkbaaGreatKA
import Derived.Test.YtniahipadfgkbaaGreatKB
import Derived.LoopTactic
import Derived.WalkSpells
import Derived.LaidEqlPtr
import Derived.Lib.Builder
import Derived.Test.YtniahipadfgkbaaGreatKY2
import Derived.Deep.RegionHeld3
namespace Go.Proofs.YtniahipadfgkbaaGreat
open Go.ChangeShapes Go.WideShapes Go.ChangeAt Go.RowKit Go.BigFrame
/-- the first row from k on, of f rows, that begins with x -/
def idxF (M : Nat → Nat → Int) (x : Int) (k : Nat) : Nat → Int
  | 0 => -1
  | f + 1 => if M k 0 = x then (k : Int) else idxF M x (k + 1) f
def idx (M : Nat → Nat → Int) (n : Nat) (x : Int) : Int := idxF M x 0 n
theorem idxF_bd (M : Nat → Nat → Int) (x : Int) : ∀ f k : Nat, idxF M x k f = -1 ∨ ((k : Int) ≤ idxF M x k f ∧ idxF M x k f < k + f) := by
  intro f
  induction f with
  | zero => intro k; exact .inl rfl
  | succ f ih =>
    intro k
    unfold idxF
    split
    · right; omega
    · rcases ih (k + 1) with h | h
      · exact .inl h
      · right; omega
theorem idx_bd (M : Nat → Nat → Int) (n : Nat) (x : Int) : idx M n x = -1 ∨ (0 ≤ idx M n x ∧ idx M n x < n) := by
  have := idxF_bd M x n 0
  unfold idx
  omega
theorem idxF_yes {M : Nat → Nat → Int} {x : Int} {k f : Nat} (h : M k 0 = x) (hf : 0 < f) : idxF M x k f = k := by
  cases f with
  | zero => omega
  | succ f => unfold idxF; rw [if_pos h]
theorem idxF_no {M : Nat → Nat → Int} {x : Int} {k f : Nat} (h : M k 0 ≠ x) (hf : 0 < f) : idxF M x k f = idxF M x (k + 1) (f - 1) := by
  cases f with
  | zero => omega
  | succ f => rw [idxF, if_neg h]; rfl

theorem eqid_c (id ow kd s1 s2 s3 a1 a2 a3 v1 v2 v3 p1 p2 p3 ms tm x : Int) (p : Addr) (w : World) (hc : w.cell? p = some (.int .i64 x)) (hp : p.block < w.heap.size) :
    Calls Tryz.prog 65 #[.agg #[.int .i64 (id), .int .i64 (ow), .int .i64 (kd), .int .i64 (s1), .int .i64 (s2), .int .i64 (s3), .int .i64 (a1), .int .i64 (a2), .int .i64 (a3), .int .i64 (v1), .int .i64 (v2), .int .i64 (v3), .int .i64 (p1), .int .i64 (p2), .int .i64 (p3), .int .i64 (ms), .int .i64 (tm)], .pointer (some p)] w fun e w' => e = .returned (.bool (id == x)) ∧ Below w.heap.size w w' := by
  go_enter Tryz.func65, Tryz.ntmps65
  go_wp2
  go_ret
  exact ⟨rfl, (Below.refl _ _).alloc (Nat.le_refl _) _⟩

set_option maxRecDepth 100000 in
set_option maxHeartbeats 4000000 in
theorem indexFunc_c (M : Nat → Nat → Int) (b n cap : Nat) (x : Int) (p : Addr) (w : World) (hn : n ≤ 9223372036854775807) (hR : Tab w b n 17 M) (hc : w.cell? p = some (.int .i64 x)) (hp : p.block < w.heap.size) :
    Calls Tryz.prog 64 #[.slice (some ⟨b, 0, none⟩) n cap, .func (.func 65) #[] #[.pointer (some p)]] w fun e w' => e = .returned (.int .i64 (idx M n x)) ∧ Below w.heap.size w w' := by
  go_enter Tryz.func64, Tryz.ntmps64
  go_wp2
  go_loopw [8] (fun i wr => ∃ k : Nat, k ≤ n ∧ i = .int .i64 k ∧ idx M n x = idxF M x k (n - k) ∧ Below w.heap.size w wr) (fun i _ => n - (intOf i).toNat)
  case atStart => exact ⟨0, by omega, rfl, rfl, Below.refl _ _⟩
  case round =>
    obtain ⟨k, hk, rfl, hi, hb⟩ := hrel
    have HI := Lib.hid hi
    clear hi
    by_cases hlt : k < n
    · have hR2 := hR.below hb
      have q0 := hR2.cell hlt (j := 0) (by decide)
      have q1 := hR2.cell hlt (j := 1) (by decide)
      have q2 := hR2.cell hlt (j := 2) (by decide)
      have q3 := hR2.cell hlt (j := 3) (by decide)
      have q4 := hR2.cell hlt (j := 4) (by decide)
      have q5 := hR2.cell hlt (j := 5) (by decide)
      have q6 := hR2.cell hlt (j := 6) (by decide)
      have q7 := hR2.cell hlt (j := 7) (by decide)
      have q8 := hR2.cell hlt (j := 8) (by decide)
      have q9 := hR2.cell hlt (j := 9) (by decide)
      have q10 := hR2.cell hlt (j := 10) (by decide)
      have q11 := hR2.cell hlt (j := 11) (by decide)
      have q12 := hR2.cell hlt (j := 12) (by decide)
      have q13 := hR2.cell hlt (j := 13) (by decide)
      have q14 := hR2.cell hlt (j := 14) (by decide)
      have q15 := hR2.cell hlt (j := 15) (by decide)
      have q16 := hR2.cell hlt (j := 16) (by decide)
      simp only [Nat.add_zero] at q0
      have hcw : wr.cell? p = some (.int .i64 x) := (hb.cell hp).trans hc
      have hpw : p.block < wr.heap.size := Nat.lt_of_lt_of_le hp hb.size
      by_cases hx : M k 0 = x
      · have hx' : (M k 0 == x) = true := by simpa using hx
        have HX := Lib.hid hx
        clear hx
        go_wp2_with (go_at_call 65; refine (eqid_c (M k 0) (M k 1) (M k 2) (M k 3) (M k 4) (M k 5) (M k 6) (M k 7) (M k 8) (M k 9) (M k 10) (M k 11) (M k 12) (M k 13) (M k 14) (M k 15) (M k 16) x p _ hcw hpw).mono ?_; rintro e w2 ⟨rfl, hb2⟩)
        go_ret
        exact ⟨ri (by rw [HI.out, idxF_yes HX.out (by omega)]), ext_below hb hb2⟩
      · have hx' : (M k 0 == x) = false := by simpa using hx
        go_wp2_with (go_at_call 65; refine (eqid_c (M k 0) (M k 1) (M k 2) (M k 3) (M k 4) (M k 5) (M k 6) (M k 7) (M k 8) (M k 9) (M k 10) (M k 11) (M k 12) (M k 13) (M k 14) (M k 15) (M k 16) x p _ hcw hpw).mono ?_; rintro e w2 ⟨rfl, hb2⟩)
        go_roundw
        case rel =>
          exact ⟨k + 1, by omega, by go_num, by rw [HI.out, idxF_no hx (by omega), show n - k - 1 = n - (k + 1) by omega], ext_below hb hb2⟩
        case measure => simp [intOf]; omega
    · have hkn : n - k = 0 := by omega
      go_wp2
      go_ret
      exact ⟨ri (by rw [HI.out, hkn]; rfl), hb⟩

theorem indexFunc_0 (f : Value) (A : Option Addr) (cap : Nat) (w : World) : Calls Tryz.prog 64 #[.slice A 0 cap, f] w fun e w' => e = .returned (.int .i64 (-1)) ∧ w = w' := by
  go_enter Tryz.func64, Tryz.ntmps64
  go_wp2
  refine wp_loop_rounds 1 ?_
  rw [rounds_succ]
  go_wp2
  go_ret
  exact ⟨rfl, rfl⟩

/-- the slice (A, n, _) is n bodies, all in one block of the call's own -/
def Own (w : World) (A : Option Addr) (n : Nat) (M : Nat → Nat → Int) : Prop := 0 < n → ∃ b, A = some ⟨b, 0, none⟩ ∧ Tab w b n 17 M
theorem Own.below {w w' : World} {A : Option Addr} {n : Nat} {M : Nat → Nat → Int} (h : Own w A n M) (k : Below w.heap.size w w') : Own w' A n M := fun hn => by
  obtain ⟨b, e, h⟩ := h hn
  exact ⟨b, e, h.below k⟩
theorem indexFunc_o (M : Nat → Nat → Int) (A : Option Addr) (n cap : Nat) (x v : Int) (p : Addr) (w : World) (hn : n ≤ 9223372036854775807) (hR : Own w A n M) (hc : w.cell? p = some (.int .i64 x)) (hp : p.block < w.heap.size) (hv : idx M n x = v) :
    Calls Tryz.prog 64 #[.slice A n cap, .func (.func 65) #[] #[.pointer (some p)]] w fun e w' => e = .returned (.int .i64 v) ∧ Below w.heap.size w w' := by
  subst hv
  rcases Nat.eq_zero_or_pos n with rfl | h
  · exact (indexFunc_0 _ A cap w).mono fun e w' ⟨he, hw⟩ => ⟨he, by subst hw; exact Below.refl _ _⟩
  · obtain ⟨b, rfl, hT⟩ := hR h
    exact indexFunc_c M b n cap x p w hn hT hc hp

end Go.Proofs.YtniahipadfgkbaaGreat
namespace Go.Proofs.YtniahipadfgkbaaGreat
open Go.ChangeShapes Go.WideShapes Go.ChangeAt Go.RowKit Go.BigFrame
section
variable {w w' : World} {A : Option Addr} {n : Nat} {M : Nat → Nat → Int}
theorem Own.alloc (h : Own w A n M) (o : Obj) : Own (w.alloc o) A n M := h.below ((Below.refl _ _).alloc (Nat.le_refl _) o)
theorem Own.drew (h : Own w A n M) : Own w.drew A n M := h.below (Below.refl _ _).drew
theorem Own.drewN (h : Own w A n M) (k : Nat) : Own (w.drewN k) A n M := h.below (ext_drewN (Below.refl _ _) k)
theorem Own.more (h : Own w A n M) (m : More) : Own (more w m) A n M := h.below (more_below w m)
end
theorem Own.of_tab {w : World} {b n : Nat} {M : Nat → Nat → Int} (h : Tab w b n 17 M) : Own w (some ⟨b, 0, none⟩) n M := fun _ => ⟨b, rfl, h⟩
theorem below_alloc (w : World) (o : Obj) : Below w.heap.size w (w.alloc o) := (Below.refl _ _).alloc (Nat.le_refl _) o

set_option maxHeartbeats 4000000 in
theorem find_no (M : Nat → Nat → Int) (n cap lp : Nat) (x : Int) (A : Option Addr) (H : Hid (idx M n x = -1)) (w : World) (hR : Own w A n M) (hn : n ≤ 9223372036854775807) (B : Blk w lp #[.slice A n cap]) :
    Calls Tryz.prog 63 #[.int .i64 x, .pointer (some ⟨lp, 0, none⟩)] w fun e w' => e = .returned (.pointer none) ∧ Below w.heap.size w w' := by
  obtain ⟨zb, cb, fb⟩ := id B
  have hmc := more_cell
  have hmf := more_frozen
  have hml := more_lt
  go_enter Tryz.func63, Tryz.ntmps63
  go_wp2_with fail
  go_wp2_with fail
  refine (indexFunc_o M A n cap x (-1) _ _ hn (hR.below (below_alloc _ _)) (by simp) (by simp) H.out).mono ?_
  rintro e w1 ⟨rfl, hb1⟩
  have B1_0 : Blk w1 (lp) _ := Blk.below (by repeat (with_reducible (first | assumption | (apply Blk.at; simp; done) | apply Blk.alloc | apply Blk.drew | apply Blk.drewN | apply Blk.more | apply Blk.put | (apply Blk.far; focus (first | assumption | (apply Ne.symm; assumption) | (simp; done) | (simp <;> omega)))))) hb1
  obtain ⟨z1_0, c1_0, f1_0⟩ := id B1_0
  have B1_1 : Blk w1 (w.heap.size) _ := Blk.below (by repeat (with_reducible (first | assumption | (apply Blk.at; simp; done) | apply Blk.alloc | apply Blk.drew | apply Blk.drewN | apply Blk.more | apply Blk.put | (apply Blk.far; focus (first | assumption | (apply Ne.symm; assumption) | (simp; done) | (simp <;> omega)))))) hb1
  obtain ⟨z1_1, c1_1, f1_1⟩ := id B1_1
  go_wp2
  exact bodyPost_ret (v := .pointer none) (by simp [results, Tryz.results63, go_sem, *]) rfl ⟨rfl, (by repeat (with_reducible (first | exact Below.refl _ _ | assumption | apply ext_drew | apply ext_drewN | apply ext_alloc | apply ext_more | (refine ext_setCell ?_ (by simp <;> omega) _) | (refine ext_below ?_ (by assumption)))))⟩

set_option maxHeartbeats 4000000 in
theorem find_yes (M : Nat → Nat → Int) (n cap lp : Nat) (x : Int) (b i : Nat) (hi : i < n) (H : Hid (idx M n x = (i : Int))) (w : World) (hT : Tab w b n 17 M) (hn : n ≤ 9223372036854775807) (B : Blk w lp #[.slice (some ⟨b, 0, none⟩) n cap]) :
    Calls Tryz.prog 63 #[.int .i64 x, .pointer (some ⟨lp, 0, none⟩)] w fun e w' => e = .returned (.pointer (some ⟨b, i * 17, none⟩)) ∧ Below w.heap.size w w' := by
  obtain ⟨zb, cb, fb⟩ := id B
  have hmc := more_cell
  have hmf := more_frozen
  have hml := more_lt
  go_enter Tryz.func63, Tryz.ntmps63
  go_wp2_with fail
  go_wp2_with fail
  refine (indexFunc_o M (some ⟨b, 0, none⟩) n cap x i _ _ hn ((Own.of_tab hT).below (below_alloc _ _)) (by simp) (by simp) H.out).mono ?_
  rintro e w1 ⟨rfl, hb1⟩
  have B1_0 : Blk w1 (lp) _ := Blk.below (by repeat (with_reducible (first | assumption | (apply Blk.at; simp; done) | apply Blk.alloc | apply Blk.drew | apply Blk.drewN | apply Blk.more | apply Blk.put | (apply Blk.far; focus (first | assumption | (apply Ne.symm; assumption) | (simp; done) | (simp <;> omega)))))) hb1
  obtain ⟨z1_0, c1_0, f1_0⟩ := id B1_0
  have B1_1 : Blk w1 (w.heap.size) _ := Blk.below (by repeat (with_reducible (first | assumption | (apply Blk.at; simp; done) | apply Blk.alloc | apply Blk.drew | apply Blk.drewN | apply Blk.more | apply Blk.put | (apply Blk.far; focus (first | assumption | (apply Ne.symm; assumption) | (simp; done) | (simp <;> omega)))))) hb1
  obtain ⟨z1_1, c1_1, f1_1⟩ := id B1_1
  go_wp2
  exact bodyPost_ret (v := .pointer (some ⟨b, i * 17, none⟩)) (by simp [results, Tryz.results63, go_sem, *]) rfl ⟨rfl, (by repeat (with_reducible (first | exact Below.refl _ _ | assumption | apply ext_drew | apply ext_drewN | apply ext_alloc | apply ext_more | (refine ext_setCell ?_ (by simp <;> omega) _) | (refine ext_below ?_ (by assumption)))))⟩

def light (m : Int) : Int := if m ≤ 0 then 0 else div 65536 m
theorem light_c (b o : Nat) (m : Int) (w : World) (hc : w.cell? ⟨b, o + 15, none⟩ = some (.int .i64 m)) : Calls Tryz.prog 36 #[.pointer (some ⟨b, o, none⟩)] w fun e w' => e = .returned (.int .i64 (light m)) ∧ ∃ q, w' = w.drewN q := by
  unfold light
  by_cases h : m ≤ 0
  · rw [if_pos h]
    go_enter Tryz.func36, Tryz.ntmps36
    go_wp2
    go_ret
    exact ⟨rfl, 0, rfl⟩
  · rw [if_neg h]
    go_enter Tryz.func36, Tryz.ntmps36
    go_wp2_with fail
    refine (div_c _ _ _).mono ?_
    rintro e w1 ⟨rfl, q, rfl⟩
    go_wp2
    go_ret
    exact ⟨rfl, q, rfl⟩

theorem bodyInfo : (Tryz.prog.info? 37).map (fun i => (i.zero, i.size, i.bytes)) = some (some (.agg #[.int .i64 0, .int .i64 0, .int .i64 0, .int .i64 0, .int .i64 0, .int .i64 0, .int .i64 0, .int .i64 0, .int .i64 0, .int .i64 0, .int .i64 0, .int .i64 0, .int .i64 0, .int .i64 0, .int .i64 0, .int .i64 0, .int .i64 0]), 17, 136) := by kernel_rfl

set_option maxRecDepth 100000 in
set_option maxHeartbeats 4000000 in
theorem both_yes (M : Nat → Nat → Int) (n cap : Nat) (tA tB g1 g2 g3 dp : Int) (w : World) (b i k : Nat) (hT0 : Tab w b n 17 M) (hi : i < n) (hk : k < n) (HA : Hid (idx M n tA = (i : Int))) (HB : Hid (idx M n tB = (k : Int))) (hne : i ≠ k) (hn : n ≤ 9223372036854775807) :
    Calls Tryz.prog 34 #[.slice (some ⟨b, 0, none⟩) n cap, .agg #[.int .i64 tA, .int .i64 tB, .int .i64 g1, .int .i64 g2, .int .i64 g3, .int .i64 dp]] w fun e w' => e = .returned (.tuple #[.pointer (some ⟨b, i * 17, none⟩), .pointer (some ⟨b, k * 17, none⟩), .bool true]) ∧ Below w.heap.size w w' := by
  have hmc := more_cell
  have hmf := more_frozen
  have hml := more_lt
  obtain ⟨i0, hi0, hz0, hz1, hz2⟩ := info_parts bodyInfo
  have HZ := Lib.hid hz0
  have HS : i0.size ≠ 0 := by rw [hz1]; decide
  clear hz0 hz1 hz2
  go_enter Tryz.func34, Tryz.ntmps34
  go_wp2_with fail
  refine wp_fresh ?_
  rintro w1 hb1
  have B1_0 : Blk w1 (w.heap.size) _ := Blk.below (by repeat (with_reducible (first | assumption | (apply Blk.at; simp; done) | apply Blk.alloc | apply Blk.drew | apply Blk.drewN | apply Blk.more | apply Blk.put | (apply Blk.far; focus (first | assumption | (apply Ne.symm; assumption) | (simp; done) | (simp <;> omega)))))) hb1
  obtain ⟨z1_0, c1_0, f1_0⟩ := id B1_0
  have B1_1 : Blk w1 (w.heap.size + 1) _ := Blk.below (by repeat (with_reducible (first | assumption | (apply Blk.at; simp; done) | apply Blk.alloc | apply Blk.drew | apply Blk.drewN | apply Blk.more | apply Blk.put | (apply Blk.far; focus (first | assumption | (apply Ne.symm; assumption) | (simp; done) | (simp <;> omega)))))) hb1
  obtain ⟨z1_1, c1_1, f1_1⟩ := id B1_1
  have hT1 : Tab w1 b n 17 M := ((show Tab _ b n 17 M from (by repeat (with_reducible (first | assumption | apply Tab.alloc | apply Tab.drew | apply Tab.drewN | apply Tab.more | (apply Tab.far; focus (first | assumption | (apply Ne.symm; assumption) | (simp; done) | (simp <;> omega)))))))).below hb1
  refine region_quiet_but 8 (by kernel_rfl) (by kernel_rfl) ?_
  simp only [List.take_succ_cons, List.take_zero, List.drop_succ_cons, List.drop_zero]
  repeat (go_big_quiet_step (first | (go_at_call_of 63 (Value.int IntKind.i64 tA); exact calls_after (find_yes M n cap _ tA b i hi HA _ (hT1.more _) hn (B1_0.more _))) | (go_at_call_of 63 (Value.int IntKind.i64 tB); exact calls_after (find_yes M n cap _ tB b k hk HB _ (hT1.more _) hn (B1_0.more _)))))
  refine wpQuiet_nil ?_
  rintro w2 hw2
  have hb2 := after_below hw2
  clear hw2
  have B2_0 : Blk w2 (w.heap.size) _ := Blk.below (by repeat (with_reducible (first | assumption | (apply Blk.at; simp; done) | apply Blk.alloc | apply Blk.drew | apply Blk.drewN | apply Blk.more | apply Blk.put | (apply Blk.far; focus (first | assumption | (apply Ne.symm; assumption) | (simp; done) | (simp <;> omega)))))) hb2
  obtain ⟨z2_0, c2_0, f2_0⟩ := id B2_0
  have B2_1 : Blk w2 (w.heap.size + 1) _ := Blk.below (by repeat (with_reducible (first | assumption | (apply Blk.at; simp; done) | apply Blk.alloc | apply Blk.drew | apply Blk.drewN | apply Blk.more | apply Blk.put | (apply Blk.far; focus (first | assumption | (apply Ne.symm; assumption) | (simp; done) | (simp <;> omega)))))) hb2
  obtain ⟨z2_1, c2_1, f2_1⟩ := id B2_1
  have hT2 : Tab w2 b n 17 M := ((show Tab _ b n 17 M from (by repeat (with_reducible (first | assumption | apply Tab.alloc | apply Tab.drew | apply Tab.drewN | apply Tab.more | (apply Tab.far; focus (first | assumption | (apply Ne.symm; assumption) | (simp; done) | (simp <;> omega)))))))).below hb2
  obtain ⟨cs0, T0, hh0, _⟩ := id hT2
  have hq := neq_ptr (P := Tryz.prog) w2 Tryz.underlying61 hi0 HS (p := ⟨b, i * 17, none⟩) (q := ⟨b, k * 17, none⟩) (by intro h; injection h with _ h; omega) hh0 hh0
  clear hh0
  go_wp2
  exact bodyPost_ret (v := .tuple #[.pointer (some ⟨b, i * 17, none⟩), .pointer (some ⟨b, k * 17, none⟩), .bool true]) (by simp [results, Tryz.results34, go_sem, *]) rfl ⟨rfl, (by repeat (with_reducible (first | exact Below.refl _ _ | assumption | apply ext_drew | apply ext_drewN | apply ext_alloc | apply ext_more | (refine ext_setCell ?_ (by simp <;> omega) _) | (refine ext_below ?_ (by assumption)))))⟩

set_option maxRecDepth 100000 in
set_option maxHeartbeats 4000000 in
theorem both_same (M : Nat → Nat → Int) (n cap : Nat) (tA tB g1 g2 g3 dp : Int) (w : World) (b i : Nat) (hT0 : Tab w b n 17 M) (hi : i < n) (HA : Hid (idx M n tA = (i : Int))) (HB : Hid (idx M n tB = (i : Int))) (hn : n ≤ 9223372036854775807) :
    Calls Tryz.prog 34 #[.slice (some ⟨b, 0, none⟩) n cap, .agg #[.int .i64 tA, .int .i64 tB, .int .i64 g1, .int .i64 g2, .int .i64 g3, .int .i64 dp]] w fun e w' => e = .returned (.tuple #[.pointer (some ⟨b, i * 17, none⟩), .pointer (some ⟨b, i * 17, none⟩), .bool false]) ∧ Below w.heap.size w w' := by
  have hmc := more_cell
  have hmf := more_frozen
  have hml := more_lt
  obtain ⟨i0, hi0, hz0, hz1, hz2⟩ := info_parts bodyInfo
  have HZ := Lib.hid hz0
  have HS : i0.size ≠ 0 := by rw [hz1]; decide
  clear hz0 hz1 hz2
  go_enter Tryz.func34, Tryz.ntmps34
  go_wp2_with fail
  refine wp_fresh ?_
  rintro w1 hb1
  have B1_0 : Blk w1 (w.heap.size) _ := Blk.below (by repeat (with_reducible (first | assumption | (apply Blk.at; simp; done) | apply Blk.alloc | apply Blk.drew | apply Blk.drewN | apply Blk.more | apply Blk.put | (apply Blk.far; focus (first | assumption | (apply Ne.symm; assumption) | (simp; done) | (simp <;> omega)))))) hb1
  obtain ⟨z1_0, c1_0, f1_0⟩ := id B1_0
  have B1_1 : Blk w1 (w.heap.size + 1) _ := Blk.below (by repeat (with_reducible (first | assumption | (apply Blk.at; simp; done) | apply Blk.alloc | apply Blk.drew | apply Blk.drewN | apply Blk.more | apply Blk.put | (apply Blk.far; focus (first | assumption | (apply Ne.symm; assumption) | (simp; done) | (simp <;> omega)))))) hb1
  obtain ⟨z1_1, c1_1, f1_1⟩ := id B1_1
  have hT1 : Tab w1 b n 17 M := ((show Tab _ b n 17 M from (by repeat (with_reducible (first | assumption | apply Tab.alloc | apply Tab.drew | apply Tab.drewN | apply Tab.more | (apply Tab.far; focus (first | assumption | (apply Ne.symm; assumption) | (simp; done) | (simp <;> omega)))))))).below hb1
  refine region_quiet_but 8 (by kernel_rfl) (by kernel_rfl) ?_
  simp only [List.take_succ_cons, List.take_zero, List.drop_succ_cons, List.drop_zero]
  repeat (go_big_quiet_step (first | (go_at_call_of 63 (Value.int IntKind.i64 tA); exact calls_after (find_yes M n cap _ tA b i hi HA _ (hT1.more _) hn (B1_0.more _))) | (go_at_call_of 63 (Value.int IntKind.i64 tB); exact calls_after (find_yes M n cap _ tB b i hi HB _ (hT1.more _) hn (B1_0.more _)))))
  refine wpQuiet_nil ?_
  rintro w2 hw2
  have hb2 := after_below hw2
  clear hw2
  have B2_0 : Blk w2 (w.heap.size) _ := Blk.below (by repeat (with_reducible (first | assumption | (apply Blk.at; simp; done) | apply Blk.alloc | apply Blk.drew | apply Blk.drewN | apply Blk.more | apply Blk.put | (apply Blk.far; focus (first | assumption | (apply Ne.symm; assumption) | (simp; done) | (simp <;> omega)))))) hb2
  obtain ⟨z2_0, c2_0, f2_0⟩ := id B2_0
  have B2_1 : Blk w2 (w.heap.size + 1) _ := Blk.below (by repeat (with_reducible (first | assumption | (apply Blk.at; simp; done) | apply Blk.alloc | apply Blk.drew | apply Blk.drewN | apply Blk.more | apply Blk.put | (apply Blk.far; focus (first | assumption | (apply Ne.symm; assumption) | (simp; done) | (simp <;> omega)))))) hb2
  obtain ⟨z2_1, c2_1, f2_1⟩ := id B2_1
  have hT2 : Tab w2 b n 17 M := ((show Tab _ b n 17 M from (by repeat (with_reducible (first | assumption | apply Tab.alloc | apply Tab.drew | apply Tab.drewN | apply Tab.more | (apply Tab.far; focus (first | assumption | (apply Ne.symm; assumption) | (simp; done) | (simp <;> omega)))))))).below hb2
  have hq := Lib.run_neq_ptr_same (P := Tryz.prog) (w := w2) (⟨b, i * 17, none⟩ : Addr) Tryz.underlying61 hi0
  go_wp2
  exact bodyPost_ret (v := .tuple #[.pointer (some ⟨b, i * 17, none⟩), .pointer (some ⟨b, i * 17, none⟩), .bool false]) (by simp [results, Tryz.results34, go_sem, *]) rfl ⟨rfl, (by repeat (with_reducible (first | exact Below.refl _ _ | assumption | apply ext_drew | apply ext_drewN | apply ext_alloc | apply ext_more | (refine ext_setCell ?_ (by simp <;> omega) _) | (refine ext_below ?_ (by assumption)))))⟩

set_option maxRecDepth 100000 in
set_option maxHeartbeats 4000000 in
theorem both_yn (M : Nat → Nat → Int) (n cap : Nat) (tA tB g1 g2 g3 dp : Int) (w : World) (b i : Nat) (hT0 : Tab w b n 17 M) (hi : i < n) (HA : Hid (idx M n tA = (i : Int))) (HB : Hid (idx M n tB = -1)) (hn : n ≤ 9223372036854775807) :
    Calls Tryz.prog 34 #[.slice (some ⟨b, 0, none⟩) n cap, .agg #[.int .i64 tA, .int .i64 tB, .int .i64 g1, .int .i64 g2, .int .i64 g3, .int .i64 dp]] w fun e w' => e = .returned (.tuple #[.pointer (some ⟨b, i * 17, none⟩), .pointer none, .bool false]) ∧ Below w.heap.size w w' := by
  have hmc := more_cell
  have hmf := more_frozen
  have hml := more_lt
  obtain ⟨i0, hi0, hz0, hz1, hz2⟩ := info_parts bodyInfo
  have HZ := Lib.hid hz0
  have HS : i0.size ≠ 0 := by rw [hz1]; decide
  clear hz0 hz1 hz2
  go_enter Tryz.func34, Tryz.ntmps34
  go_wp2_with fail
  refine wp_fresh ?_
  rintro w1 hb1
  have B1_0 : Blk w1 (w.heap.size) _ := Blk.below (by repeat (with_reducible (first | assumption | (apply Blk.at; simp; done) | apply Blk.alloc | apply Blk.drew | apply Blk.drewN | apply Blk.more | apply Blk.put | (apply Blk.far; focus (first | assumption | (apply Ne.symm; assumption) | (simp; done) | (simp <;> omega)))))) hb1
  obtain ⟨z1_0, c1_0, f1_0⟩ := id B1_0
  have B1_1 : Blk w1 (w.heap.size + 1) _ := Blk.below (by repeat (with_reducible (first | assumption | (apply Blk.at; simp; done) | apply Blk.alloc | apply Blk.drew | apply Blk.drewN | apply Blk.more | apply Blk.put | (apply Blk.far; focus (first | assumption | (apply Ne.symm; assumption) | (simp; done) | (simp <;> omega)))))) hb1
  obtain ⟨z1_1, c1_1, f1_1⟩ := id B1_1
  have hT1 : Tab w1 b n 17 M := ((show Tab _ b n 17 M from (by repeat (with_reducible (first | assumption | apply Tab.alloc | apply Tab.drew | apply Tab.drewN | apply Tab.more | (apply Tab.far; focus (first | assumption | (apply Ne.symm; assumption) | (simp; done) | (simp <;> omega)))))))).below hb1
  refine region_quiet_but 8 (by kernel_rfl) (by kernel_rfl) ?_
  simp only [List.take_succ_cons, List.take_zero, List.drop_succ_cons, List.drop_zero]
  repeat (go_big_quiet_step (first | (go_at_call_of 63 (Value.int IntKind.i64 tA); exact calls_after (find_yes M n cap _ tA b i hi HA _ (hT1.more _) hn (B1_0.more _))) | (go_at_call_of 63 (Value.int IntKind.i64 tB); exact calls_after (find_no M n cap _ tB (some ⟨b, 0, none⟩) HB _ (Own.of_tab (hT1.more _)) hn (B1_0.more _)))))
  refine wpQuiet_nil ?_
  rintro w2 hw2
  have hb2 := after_below hw2
  clear hw2
  have B2_0 : Blk w2 (w.heap.size) _ := Blk.below (by repeat (with_reducible (first | assumption | (apply Blk.at; simp; done) | apply Blk.alloc | apply Blk.drew | apply Blk.drewN | apply Blk.more | apply Blk.put | (apply Blk.far; focus (first | assumption | (apply Ne.symm; assumption) | (simp; done) | (simp <;> omega)))))) hb2
  obtain ⟨z2_0, c2_0, f2_0⟩ := id B2_0
  have B2_1 : Blk w2 (w.heap.size + 1) _ := Blk.below (by repeat (with_reducible (first | assumption | (apply Blk.at; simp; done) | apply Blk.alloc | apply Blk.drew | apply Blk.drewN | apply Blk.more | apply Blk.put | (apply Blk.far; focus (first | assumption | (apply Ne.symm; assumption) | (simp; done) | (simp <;> omega)))))) hb2
  obtain ⟨z2_1, c2_1, f2_1⟩ := id B2_1
  have hT2 : Tab w2 b n 17 M := ((show Tab _ b n 17 M from (by repeat (with_reducible (first | assumption | apply Tab.alloc | apply Tab.drew | apply Tab.drewN | apply Tab.more | (apply Tab.far; focus (first | assumption | (apply Ne.symm; assumption) | (simp; done) | (simp <;> omega)))))))).below hb2
  go_wp2
  exact bodyPost_ret (v := .tuple #[.pointer (some ⟨b, i * 17, none⟩), .pointer none, .bool false]) (by simp [results, Tryz.results34, go_sem, *]) rfl ⟨rfl, (by repeat (with_reducible (first | exact Below.refl _ _ | assumption | apply ext_drew | apply ext_drewN | apply ext_alloc | apply ext_more | (refine ext_setCell ?_ (by simp <;> omega) _) | (refine ext_below ?_ (by assumption)))))⟩

set_option maxRecDepth 100000 in
set_option maxHeartbeats 4000000 in
theorem both_ny (M : Nat → Nat → Int) (n cap : Nat) (tA tB g1 g2 g3 dp : Int) (w : World) (b k : Nat) (hT0 : Tab w b n 17 M) (hk : k < n) (HA : Hid (idx M n tA = -1)) (HB : Hid (idx M n tB = (k : Int))) (hn : n ≤ 9223372036854775807) :
    Calls Tryz.prog 34 #[.slice (some ⟨b, 0, none⟩) n cap, .agg #[.int .i64 tA, .int .i64 tB, .int .i64 g1, .int .i64 g2, .int .i64 g3, .int .i64 dp]] w fun e w' => e = .returned (.tuple #[.pointer none, .pointer (some ⟨b, k * 17, none⟩), .bool false]) ∧ Below w.heap.size w w' := by
  have hmc := more_cell
  have hmf := more_frozen
  have hml := more_lt
  obtain ⟨i0, hi0, hz0, hz1, hz2⟩ := info_parts bodyInfo
  have HZ := Lib.hid hz0
  have HS : i0.size ≠ 0 := by rw [hz1]; decide
  clear hz0 hz1 hz2
  go_enter Tryz.func34, Tryz.ntmps34
  go_wp2_with fail
  refine wp_fresh ?_
  rintro w1 hb1
  have B1_0 : Blk w1 (w.heap.size) _ := Blk.below (by repeat (with_reducible (first | assumption | (apply Blk.at; simp; done) | apply Blk.alloc | apply Blk.drew | apply Blk.drewN | apply Blk.more | apply Blk.put | (apply Blk.far; focus (first | assumption | (apply Ne.symm; assumption) | (simp; done) | (simp <;> omega)))))) hb1
  obtain ⟨z1_0, c1_0, f1_0⟩ := id B1_0
  have B1_1 : Blk w1 (w.heap.size + 1) _ := Blk.below (by repeat (with_reducible (first | assumption | (apply Blk.at; simp; done) | apply Blk.alloc | apply Blk.drew | apply Blk.drewN | apply Blk.more | apply Blk.put | (apply Blk.far; focus (first | assumption | (apply Ne.symm; assumption) | (simp; done) | (simp <;> omega)))))) hb1
  obtain ⟨z1_1, c1_1, f1_1⟩ := id B1_1
  have hT1 : Tab w1 b n 17 M := ((show Tab _ b n 17 M from (by repeat (with_reducible (first | assumption | apply Tab.alloc | apply Tab.drew | apply Tab.drewN | apply Tab.more | (apply Tab.far; focus (first | assumption | (apply Ne.symm; assumption) | (simp; done) | (simp <;> omega)))))))).below hb1
  refine region_quiet_but 8 (by kernel_rfl) (by kernel_rfl) ?_
  simp only [List.take_succ_cons, List.take_zero, List.drop_succ_cons, List.drop_zero]
  repeat (go_big_quiet_step (first | (go_at_call_of 63 (Value.int IntKind.i64 tA); exact calls_after (find_no M n cap _ tA (some ⟨b, 0, none⟩) HA _ (Own.of_tab (hT1.more _)) hn (B1_0.more _))) | (go_at_call_of 63 (Value.int IntKind.i64 tB); exact calls_after (find_yes M n cap _ tB b k hk HB _ (hT1.more _) hn (B1_0.more _)))))
  refine wpQuiet_nil ?_
  rintro w2 hw2
  have hb2 := after_below hw2
  clear hw2
  have B2_0 : Blk w2 (w.heap.size) _ := Blk.below (by repeat (with_reducible (first | assumption | (apply Blk.at; simp; done) | apply Blk.alloc | apply Blk.drew | apply Blk.drewN | apply Blk.more | apply Blk.put | (apply Blk.far; focus (first | assumption | (apply Ne.symm; assumption) | (simp; done) | (simp <;> omega)))))) hb2
  obtain ⟨z2_0, c2_0, f2_0⟩ := id B2_0
  have B2_1 : Blk w2 (w.heap.size + 1) _ := Blk.below (by repeat (with_reducible (first | assumption | (apply Blk.at; simp; done) | apply Blk.alloc | apply Blk.drew | apply Blk.drewN | apply Blk.more | apply Blk.put | (apply Blk.far; focus (first | assumption | (apply Ne.symm; assumption) | (simp; done) | (simp <;> omega)))))) hb2
  obtain ⟨z2_1, c2_1, f2_1⟩ := id B2_1
  have hT2 : Tab w2 b n 17 M := ((show Tab _ b n 17 M from (by repeat (with_reducible (first | assumption | apply Tab.alloc | apply Tab.drew | apply Tab.drewN | apply Tab.more | (apply Tab.far; focus (first | assumption | (apply Ne.symm; assumption) | (simp; done) | (simp <;> omega)))))))).below hb2
  go_wp2
  exact bodyPost_ret (v := .tuple #[.pointer none, .pointer (some ⟨b, k * 17, none⟩), .bool false]) (by simp [results, Tryz.results34, go_sem, *]) rfl ⟨rfl, (by repeat (with_reducible (first | exact Below.refl _ _ | assumption | apply ext_drew | apply ext_drewN | apply ext_alloc | apply ext_more | (refine ext_setCell ?_ (by simp <;> omega) _) | (refine ext_below ?_ (by assumption)))))⟩

set_option maxRecDepth 100000 in
set_option maxHeartbeats 4000000 in
theorem both_nn (M : Nat → Nat → Int) (n cap : Nat) (tA tB g1 g2 g3 dp : Int) (w : World) (A : Option Addr) (hO0 : Own w A n M) (HA : Hid (idx M n tA = -1)) (HB : Hid (idx M n tB = -1)) (hn : n ≤ 9223372036854775807) :
    Calls Tryz.prog 34 #[.slice A n cap, .agg #[.int .i64 tA, .int .i64 tB, .int .i64 g1, .int .i64 g2, .int .i64 g3, .int .i64 dp]] w fun e w' => e = .returned (.tuple #[.pointer none, .pointer none, .bool false]) ∧ Below w.heap.size w w' := by
  have hmc := more_cell
  have hmf := more_frozen
  have hml := more_lt
  obtain ⟨i0, hi0, hz0, hz1, hz2⟩ := info_parts bodyInfo
  have HZ := Lib.hid hz0
  have HS : i0.size ≠ 0 := by rw [hz1]; decide
  clear hz0 hz1 hz2
  go_enter Tryz.func34, Tryz.ntmps34
  go_wp2_with fail
  refine wp_fresh ?_
  rintro w1 hb1
  have B1_0 : Blk w1 (w.heap.size) _ := Blk.below (by repeat (with_reducible (first | assumption | (apply Blk.at; simp; done) | apply Blk.alloc | apply Blk.drew | apply Blk.drewN | apply Blk.more | apply Blk.put | (apply Blk.far; focus (first | assumption | (apply Ne.symm; assumption) | (simp; done) | (simp <;> omega)))))) hb1
  obtain ⟨z1_0, c1_0, f1_0⟩ := id B1_0
  have B1_1 : Blk w1 (w.heap.size + 1) _ := Blk.below (by repeat (with_reducible (first | assumption | (apply Blk.at; simp; done) | apply Blk.alloc | apply Blk.drew | apply Blk.drewN | apply Blk.more | apply Blk.put | (apply Blk.far; focus (first | assumption | (apply Ne.symm; assumption) | (simp; done) | (simp <;> omega)))))) hb1
  obtain ⟨z1_1, c1_1, f1_1⟩ := id B1_1
  have hO1 : Own w1 A n M := ((show Own _ A n M from (by repeat (with_reducible (first | assumption | apply Own.alloc | apply Own.drew | apply Own.drewN | apply Own.more | (apply Own.far; focus (first | assumption | (apply Ne.symm; assumption) | (simp; done) | (simp <;> omega)))))))).below hb1
  refine region_quiet_but 8 (by kernel_rfl) (by kernel_rfl) ?_
  simp only [List.take_succ_cons, List.take_zero, List.drop_succ_cons, List.drop_zero]
  repeat (go_big_quiet_step (first | (go_at_call_of 63 (Value.int IntKind.i64 tA); exact calls_after (find_no M n cap _ tA A HA _ (hO1.below (more_below _ _)) hn (B1_0.more _))) | (go_at_call_of 63 (Value.int IntKind.i64 tB); exact calls_after (find_no M n cap _ tB A HB _ (hO1.below (more_below _ _)) hn (B1_0.more _)))))
  refine wpQuiet_nil ?_
  rintro w2 hw2
  have hb2 := after_below hw2
  clear hw2
  have B2_0 : Blk w2 (w.heap.size) _ := Blk.below (by repeat (with_reducible (first | assumption | (apply Blk.at; simp; done) | apply Blk.alloc | apply Blk.drew | apply Blk.drewN | apply Blk.more | apply Blk.put | (apply Blk.far; focus (first | assumption | (apply Ne.symm; assumption) | (simp; done) | (simp <;> omega)))))) hb2
  obtain ⟨z2_0, c2_0, f2_0⟩ := id B2_0
  have B2_1 : Blk w2 (w.heap.size + 1) _ := Blk.below (by repeat (with_reducible (first | assumption | (apply Blk.at; simp; done) | apply Blk.alloc | apply Blk.drew | apply Blk.drewN | apply Blk.more | apply Blk.put | (apply Blk.far; focus (first | assumption | (apply Ne.symm; assumption) | (simp; done) | (simp <;> omega)))))) hb2
  obtain ⟨z2_1, c2_1, f2_1⟩ := id B2_1
  have hO2 : Own w2 A n M := ((show Own _ A n M from (by repeat (with_reducible (first | assumption | apply Own.alloc | apply Own.drew | apply Own.drewN | apply Own.more | (apply Own.far; focus (first | assumption | (apply Ne.symm; assumption) | (simp; done) | (simp <;> omega)))))))).below hb2
  go_wp2
  exact bodyPost_ret (v := .tuple #[.pointer none, .pointer none, .bool false]) (by simp [results, Tryz.results34, go_sem, *]) rfl ⟨rfl, (by repeat (with_reducible (first | exact Below.refl _ _ | assumption | apply ext_drew | apply ext_drewN | apply ext_alloc | apply ext_more | (refine ext_setCell ?_ (by simp <;> omega) _) | (refine ext_below ?_ (by assumption)))))⟩

end Go.Proofs.YtniahipadfgkbaaGreat
namespace Go.Proofs.YtniahipadfgkbaaGreat
open Go.ChangeShapes Go.WideShapes Go.ChangeAt Go.RowKit Go.BigFrame
theorem bodyInfo2 : (Tryz.prog.info? 37).map (fun i => (i.zero, i.size, i.bytes)) = some (some (.agg #[.int .i64 0, .int .i64 0, .int .i64 0, .int .i64 0, .int .i64 0, .int .i64 0, .int .i64 0, .int .i64 0, .int .i64 0, .int .i64 0, .int .i64 0, .int .i64 0, .int .i64 0, .int .i64 0, .int .i64 0, .int .i64 0, .int .i64 0]), 17, 136) := by kernel_rfl

end Go.Proofs.YtniahipadfgkbaaGreat
