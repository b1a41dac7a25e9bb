/- The contracts of what finds a body among bodies (package solve, and the document's answer). Conditions: none. -/
import Derived.Test.YtfagkbmphohelaaTab
import Derived.Test.YtfagkbmphohelaaVec
import Derived.LoopTactic
import Derived.WalkSpells
import Derived.LaidEqlPtr
namespace Go.Proofs.Ytfagkbmphohelaa
open Go.ChangeShapes Go.WideShapes Go.ChangeAt Go.RowKit Go.BigFrame
/-- the first row from k on, of f rows, that begins with x -/
def idxF (M : Nat → Nat → Int) (x : Int) (k : Nat) : Nat → Int
  | 0 => -1
  | f + 1 => if M k 0 = x then (k : Int) else idxF M x (k + 1) f
def idx (M : Nat → Nat → Int) (n : Nat) (x : Int) : Int := idxF M x 0 n
theorem idxF_bd (M : Nat → Nat → Int) (x : Int) : ∀ f k : Nat, idxF M x k f = -1 ∨ ((k : Int) ≤ idxF M x k f ∧ idxF M x k f < k + f) := by
  intro f
  induction f with
  | zero => intro k; exact .inl rfl
  | succ f ih =>
    intro k
    unfold idxF
    split
    · right; omega
    · rcases ih (k + 1) with h | h
      · exact .inl h
      · right; omega
theorem idx_bd (M : Nat → Nat → Int) (n : Nat) (x : Int) : idx M n x = -1 ∨ (0 ≤ idx M n x ∧ idx M n x < n) := by
  have := idxF_bd M x n 0
  unfold idx
  omega
theorem idxF_yes {M : Nat → Nat → Int} {x : Int} {k f : Nat} (h : M k 0 = x) (hf : 0 < f) : idxF M x k f = k := by
  cases f with
  | zero => omega
  | succ f => unfold idxF; rw [if_pos h]
theorem idxF_no {M : Nat → Nat → Int} {x : Int} {k f : Nat} (h : M k 0 ≠ x) (hf : 0 < f) : idxF M x k f = idxF M x (k + 1) (f - 1) := by
  cases f with
  | zero => omega
  | succ f => rw [idxF, if_neg h]; rfl

theorem eqid_c (id ow kd s1 s2 s3 a1 a2 a3 v1 v2 v3 p1 p2 p3 ms tm x : Int) (p : Addr) (w : World) (hc : w.cell? p = some (.int .i64 x)) (hp : p.block < w.heap.size) :
    Calls Try.prog 122 #[.agg #[.int .i64 (id), .int .i64 (ow), .int .i64 (kd), .int .i64 (s1), .int .i64 (s2), .int .i64 (s3), .int .i64 (a1), .int .i64 (a2), .int .i64 (a3), .int .i64 (v1), .int .i64 (v2), .int .i64 (v3), .int .i64 (p1), .int .i64 (p2), .int .i64 (p3), .int .i64 (ms), .int .i64 (tm)], .pointer (some p)] w fun e w' => e = .returned (.bool (id == x)) ∧ Below w.heap.size w w' := by
  go_enter Try.func122, Try.ntmps122
  go_wp2
  go_ret
  exact ⟨rfl, (Below.refl _ _).alloc (Nat.le_refl _) _⟩

set_option maxRecDepth 100000 in
set_option maxHeartbeats 4000000 in
theorem indexFunc_c (M : Nat → Nat → Int) (b n cap : Nat) (x : Int) (p : Addr) (w : World) (hn : n ≤ 9223372036854775807) (hR : Tab w b n 17 M) (hc : w.cell? p = some (.int .i64 x)) (hp : p.block < w.heap.size) :
    Calls Try.prog 121 #[.slice (some ⟨b, 0, none⟩) n cap, .func (.func 122) #[] #[.pointer (some p)]] w fun e w' => e = .returned (.int .i64 (idx M n x)) ∧ Below w.heap.size w w' := by
  go_enter Try.func121, Try.ntmps121
  go_wp2
  go_loopw [8] (fun i wr => ∃ k : Nat, k ≤ n ∧ i = .int .i64 k ∧ idx M n x = idxF M x k (n - k) ∧ Below w.heap.size w wr) (fun i _ => n - (intOf i).toNat)
  case atStart => exact ⟨0, by omega, rfl, rfl, Below.refl _ _⟩
  case round =>
    obtain ⟨k, hk, rfl, hi, hb⟩ := hrel
    have HI := Lib.hid hi
    clear hi
    by_cases hlt : k < n
    · have hR2 := hR.below hb
      have q0 := hR2.cell hlt (j := 0) (by decide)
      have q1 := hR2.cell hlt (j := 1) (by decide)
      have q2 := hR2.cell hlt (j := 2) (by decide)
      have q3 := hR2.cell hlt (j := 3) (by decide)
      have q4 := hR2.cell hlt (j := 4) (by decide)
      have q5 := hR2.cell hlt (j := 5) (by decide)
      have q6 := hR2.cell hlt (j := 6) (by decide)
      have q7 := hR2.cell hlt (j := 7) (by decide)
      have q8 := hR2.cell hlt (j := 8) (by decide)
      have q9 := hR2.cell hlt (j := 9) (by decide)
      have q10 := hR2.cell hlt (j := 10) (by decide)
      have q11 := hR2.cell hlt (j := 11) (by decide)
      have q12 := hR2.cell hlt (j := 12) (by decide)
      have q13 := hR2.cell hlt (j := 13) (by decide)
      have q14 := hR2.cell hlt (j := 14) (by decide)
      have q15 := hR2.cell hlt (j := 15) (by decide)
      have q16 := hR2.cell hlt (j := 16) (by decide)
      simp only [Nat.add_zero] at q0
      have hcw : wr.cell? p = some (.int .i64 x) := (hb.cell hp).trans hc
      have hpw : p.block < wr.heap.size := Nat.lt_of_lt_of_le hp hb.size
      by_cases hx : M k 0 = x
      · have hx' : (M k 0 == x) = true := by simpa using hx
        have HX := Lib.hid hx
        clear hx
        go_wp2_with (go_at_call 122; refine (eqid_c (M k 0) (M k 1) (M k 2) (M k 3) (M k 4) (M k 5) (M k 6) (M k 7) (M k 8) (M k 9) (M k 10) (M k 11) (M k 12) (M k 13) (M k 14) (M k 15) (M k 16) x p _ hcw hpw).mono ?_; rintro e w2 ⟨rfl, hb2⟩)
        go_ret
        exact ⟨ri (by rw [HI.out, idxF_yes HX.out (by omega)]), ext_below hb hb2⟩
      · have hx' : (M k 0 == x) = false := by simpa using hx
        go_wp2_with (go_at_call 122; refine (eqid_c (M k 0) (M k 1) (M k 2) (M k 3) (M k 4) (M k 5) (M k 6) (M k 7) (M k 8) (M k 9) (M k 10) (M k 11) (M k 12) (M k 13) (M k 14) (M k 15) (M k 16) x p _ hcw hpw).mono ?_; rintro e w2 ⟨rfl, hb2⟩)
        go_roundw
        case rel =>
          exact ⟨k + 1, by omega, by go_num, by rw [HI.out, idxF_no hx (by omega), show n - k - 1 = n - (k + 1) by omega], ext_below hb hb2⟩
        case measure => simp [intOf]; omega
    · have hkn : n - k = 0 := by omega
      go_wp2
      go_ret
      exact ⟨ri (by rw [HI.out, hkn]; rfl), hb⟩

theorem indexFunc_0 (f : Value) (A : Option Addr) (cap : Nat) (w : World) : Calls Try.prog 121 #[.slice A 0 cap, f] w fun e w' => e = .returned (.int .i64 (-1)) ∧ w = w' := by
  go_enter Try.func121, Try.ntmps121
  go_wp2
  refine wp_loop_rounds 1 ?_
  rw [rounds_succ]
  go_wp2
  go_ret
  exact ⟨rfl, rfl⟩

/-- the slice (A, n, _) is n bodies, all in one block of the call's own -/
def Own (w : World) (A : Option Addr) (n : Nat) (M : Nat → Nat → Int) : Prop := 0 < n → ∃ b, A = some ⟨b, 0, none⟩ ∧ Tab w b n 17 M
theorem Own.below {w w' : World} {A : Option Addr} {n : Nat} {M : Nat → Nat → Int} (h : Own w A n M) (k : Below w.heap.size w w') : Own w' A n M := fun hn => by
  obtain ⟨b, e, h⟩ := h hn
  exact ⟨b, e, h.below k⟩
theorem indexFunc_o (M : Nat → Nat → Int) (A : Option Addr) (n cap : Nat) (x v : Int) (p : Addr) (w : World) (hn : n ≤ 9223372036854775807) (hR : Own w A n M) (hc : w.cell? p = some (.int .i64 x)) (hp : p.block < w.heap.size) (hv : idx M n x = v) :
    Calls Try.prog 121 #[.slice A n cap, .func (.func 122) #[] #[.pointer (some p)]] w fun e w' => e = .returned (.int .i64 v) ∧ Below w.heap.size w w' := by
  subst hv
  rcases Nat.eq_zero_or_pos n with rfl | h
  · exact (indexFunc_0 _ A cap w).mono fun e w' ⟨he, hw⟩ => ⟨he, by subst hw; exact Below.refl _ _⟩
  · obtain ⟨b, rfl, hT⟩ := hR h
    exact indexFunc_c M b n cap x p w hn hT hc hp

end Go.Proofs.Ytfagkbmphohelaa
