/- The walk of gyrekeep.BitsBack. Conditions: none. -/
import Derived.Test.YtfagkbmphohelaaBits4
import Derived.Test.YtfagkbmphohelaaOpen
namespace Go.Proofs.Ytfagkbmphohelaa
open Go.ChangeShapes Go.WideShapes Go.ChangeAt Go.RowKit Go.BigFrame
open B
def NoPost (w : World) (e : Ending) (w' : World) : Prop := ∃ x : Int, e = .returned (.iface 112 (.int .i64 x)) ∧ w = w'
/-- it may be written, and there is room -/
def fits (L : List Nat) (m : Mk) : Prop := ∃ b, enc m = some b ∧ L.length + b.length ≤ 32000
theorem enc_0 (n wd : Int) : enc ⟨0, n, wd⟩ = if 0 ≤ wd ∧ wd ≤ 62 ∧ 0 ≤ n ∧ n < 2 ^ wd.toNat then some (bitsOf wd.toNat n.toNat) else none := if_pos rfl
theorem enc_1 (n wd : Int) : enc ⟨1, n, wd⟩ = if 0 ≤ n ∧ n < 4611686018427387904 then some (varL n.toNat) else none := (if_neg (show ¬ (1 : Int) = 0 by decide)).trans (if_pos rfl)
theorem enc_2 (n wd : Int) : enc ⟨2, n, wd⟩ = if -1152921504606846976 ≤ n ∧ n ≤ 1152921504606846976 then some (intL n) else none := (if_neg (show ¬ (2 : Int) = 0 by decide)).trans (if_neg (show ¬ (2 : Int) = 1 by decide))
theorem enc0 {n wd : Int} (h1 : 0 ≤ wd) (h2 : wd ≤ 62) (h3 : 0 ≤ n) (h4 : n < 2 ^ wd.toNat) : enc ⟨0, n, wd⟩ = some (bitsOf wd.toNat n.toNat) := by
  rw [enc_0, if_pos ⟨h1, h2, h3, h4⟩]
theorem toNat_lt_pow {n : Int} {k : Nat} (h0 : 0 ≤ n) (h : n < 2 ^ k) : n.toNat < 2 ^ k := by
  obtain ⟨m, rfl⟩ := Int.eq_ofNat_of_zero_le h0
  have e : (2 : Int) ^ k = ((2 ^ k : Nat) : Int) := by simp
  rw [e] at h
  simp only [Int.toNat_natCast]
  omega
theorem put0_ok {base p : Nat} {n wd : Int} {v : Value} {L b : List Nat} {w : World} (h : Wr w base p v L) (hb : base ≤ w.heap.size) (he : enc ⟨0, n, wd⟩ = some b) (hl : L.length + b.length ≤ 32000) :
    Calls Try.prog 35 #[.pointer (some ⟨p, 0, none⟩), .int .i64 n, .int .i64 wd] w fun e w' => e = .returned .nilIface ∧ PutPost base p v (L ++ b) w w' := by
  rw [enc_0] at he
  split at he
  · rename_i h1
    obtain rfl := Option.some.inj he
    rw [bitsOf_length] at hl
    exact put_i base p n wd n.toNat wd.toNat v L w h hb (by omega) (by omega) (by omega) (toNat_lt_pow h1.2.2.1 h1.2.2.2) hl
  · cases he
theorem put0_no {base p : Nat} {n wd : Int} {v : Value} {L : List Nat} {w : World} (h : Wr w base p v L) (hf : ¬ fits L ⟨0, n, wd⟩) : Calls Try.prog 35 #[.pointer (some ⟨p, 0, none⟩), .int .i64 n, .int .i64 wd] w (NoPost w) := by
  by_cases h1 : wd < 0 ∨ 62 < wd ∨ n < 0
  · exact (put_bad1 n wd _ w h1).mono fun e w' ⟨a, b⟩ => ⟨_, a, b⟩
  · by_cases h2 : n < 2 ^ wd.toNat
    · have he := enc0 (n := n) (wd := wd) (by omega) (by omega) (by omega) h2
      have h3 : 32000 < L.length + wd.toNat := by
        rcases Nat.lt_or_ge 32000 (L.length + wd.toNat) with h3 | h3
        · exact h3
        · exact absurd ⟨_, he, by rw [bitsOf_length]; exact h3⟩ hf
      have := put_full base p n.toNat wd.toNat v L w h (by omega) (toNat_lt_pow (by omega) h2) h3
      rw [Int.toNat_of_nonneg (by omega), Int.toNat_of_nonneg (by omega)] at this
      exact this.mono fun e w' ⟨a, b⟩ => ⟨_, a, b⟩
    · exact (put_bad2 n wd _ w (by omega) (by omega) (by omega) (by omega)).mono fun e w' ⟨a, b⟩ => ⟨_, a, b⟩
theorem enc1 {n wd : Int} (h1 : 0 ≤ n) (h2 : n < 4611686018427387904) : enc ⟨1, n, wd⟩ = some (varL n.toNat) := by
  rw [enc_1, if_pos ⟨h1, h2⟩]
theorem enc1' {n wd : Int} {b : List Nat} (he : enc ⟨1, n, wd⟩ = some b) : 0 ≤ n ∧ n < 4611686018427387904 ∧ b = varL n.toNat := by
  rw [enc_1] at he
  split at he
  · rename_i h
    exact ⟨h.1, h.2, (Option.some.inj he).symm⟩
  · cases he
theorem enc2 {n wd : Int} (h1 : -1152921504606846976 ≤ n) (h2 : n ≤ 1152921504606846976) : enc ⟨2, n, wd⟩ = some (intL n) := by
  rw [enc_2, if_pos ⟨h1, h2⟩]
theorem enc2' {n wd : Int} {b : List Nat} (he : enc ⟨2, n, wd⟩ = some b) : -1152921504606846976 ≤ n ∧ n ≤ 1152921504606846976 ∧ b = intL n := by
  rw [enc_2] at he
  split at he
  · rename_i h
    exact ⟨h.1, h.2, (Option.some.inj he).symm⟩
  · cases he
theorem enc0' {n wd : Int} {b : List Nat} (he : enc ⟨0, n, wd⟩ = some b) : 0 ≤ wd ∧ wd ≤ 62 ∧ 0 ≤ n ∧ n < 2 ^ wd.toNat ∧ b = bitsOf wd.toNat n.toNat := by
  rw [enc_0] at he
  split at he
  · rename_i h
    exact ⟨h.1, h.2.1, h.2.2.1, h.2.2.2, (Option.some.inj he).symm⟩
  · cases he
theorem put1_ok {base p : Nat} {n wd : Int} {v : Value} {L b : List Nat} {w : World} (h : Wr w base p v L) (hb : base ≤ w.heap.size) (he : enc ⟨1, n, wd⟩ = some b) (hl : L.length + b.length ≤ 32000) :
    Calls Try.prog 36 #[.pointer (some ⟨p, 0, none⟩), .int .i64 n] w fun e w' => e = .returned .nilIface ∧ PutPost base p v (L ++ b) w w' := by
  obtain ⟨h1, h2, rfl⟩ := enc1' he
  rw [varL_length] at hl
  exact var_i base p n.toNat n v L w h hb (by omega) (by omega) hl
theorem put1_no {base p : Nat} {n wd : Int} {v : Value} {L : List Nat} {w : World} (h : Wr w base p v L) (hf : ¬ fits L ⟨1, n, wd⟩) : Calls Try.prog 36 #[.pointer (some ⟨p, 0, none⟩), .int .i64 n] w (NoPost w) := by
  by_cases h1 : n < 0 ∨ 4611686018427387904 ≤ n
  · exact (var_bad n _ w h1).mono fun e w' ⟨a, b⟩ => ⟨_, a, b⟩
  · have he := enc1 (n := n) (wd := wd) (by omega) (by omega)
    have h3 : 32000 < L.length + 6 * pieces n.toNat := by
      rcases Nat.lt_or_ge 32000 (L.length + 6 * pieces n.toNat) with h3 | h3
      · exact h3
      · exact absurd ⟨_, he, by rw [varL_length]; exact h3⟩ hf
    exact (var_fi base p n.toNat n v L w h (by omega) (by omega) h3).mono fun e w' ⟨a, b⟩ => ⟨_, a, b⟩
theorem put2_ok {base p : Nat} {n wd : Int} {v : Value} {L b : List Nat} {w : World} (h : Wr w base p v L) (hb : base ≤ w.heap.size) (he : enc ⟨2, n, wd⟩ = some b) (hl : L.length + b.length ≤ 32000) :
    Calls Try.prog 37 #[.pointer (some ⟨p, 0, none⟩), .int .i64 n] w fun e w' => e = .returned .nilIface ∧ PutPost base p v (L ++ b) w w' := by
  obtain ⟨h1, h2, rfl⟩ := enc2' he
  have e : (intL n).length = 6 * pieces (zig n) := varL_length _
  rw [e] at hl
  exact int_ok base p n v L w h hb h1 h2 hl
theorem put2_no {base p : Nat} {n wd : Int} {v : Value} {L : List Nat} {w : World} (h : Wr w base p v L) (hf : ¬ fits L ⟨2, n, wd⟩) : Calls Try.prog 37 #[.pointer (some ⟨p, 0, none⟩), .int .i64 n] w (NoPost w) := by
  by_cases h1 : n < -1152921504606846976 ∨ 1152921504606846976 < n
  · exact (int_bad n _ w h1).mono fun e w' ⟨a, b⟩ => ⟨_, a, b⟩
  · have he := enc2 (n := n) (wd := wd) (by omega) (by omega)
    have e : (intL n).length = 6 * pieces (zig n) := varL_length _
    have h3 : 32000 < L.length + 6 * pieces (zig n) := by
      rcases Nat.lt_or_ge 32000 (L.length + 6 * pieces (zig n)) with h3 | h3
      · exact h3
      · exact absurd ⟨_, he, by rw [e]; exact h3⟩ hf
    exact (int_full base p n v L w h (by omega) (by omega) h3).mono fun e w' ⟨a, b⟩ => ⟨_, a, b⟩

/-! ### marks in memory -/
def mkCells (D : List Mk) : List Value := D.flatMap fun m => [.int .i64 m.what, .int .i64 m.n, .int .i64 m.width]
theorem mkCells_length (D : List Mk) : (mkCells D).length = D.length * 3 := by
  induction D with
  | nil => rfl
  | cons m D ih =>
    have e : mkCells (m :: D) = [.int .i64 m.what, .int .i64 m.n, .int .i64 m.width] ++ mkCells D := rfl
    rw [e, List.length_append, ih]; simp; omega
theorem mkCells_snoc (D : List Mk) (m : Mk) : mkCells (D ++ [m]) = mkCells D ++ [.int .i64 m.what, .int .i64 m.n, .int .i64 m.width] := by simp [mkCells]
theorem mkCells_get {D : List Mk} {k : Nat} {m : Mk} (h : D[k]? = some m) : (mkCells D)[k * 3]? = some (.int .i64 m.what) ∧ (mkCells D)[k * 3 + 1]? = some (.int .i64 m.n) ∧ (mkCells D)[k * 3 + 2]? = some (.int .i64 m.width) := by
  induction D generalizing k with
  | nil => simp at h
  | cons m0 D ih =>
    have e : mkCells (m0 :: D) = [.int .i64 m0.what, .int .i64 m0.n, .int .i64 m0.width] ++ mkCells D := rfl
    cases k with
    | zero =>
      simp at h
      subst h
      rw [e]
      exact ⟨rfl, rfl, rfl⟩
    | succ k =>
      have := ih (k := k) (by simpa using h)
      rw [e, List.getElem?_append_right (by simp; omega), List.getElem?_append_right (by simp; omega), List.getElem?_append_right (by simp; omega)]
      simp only [List.length_cons, List.length_nil]
      rw [show (k + 1) * 3 - (0 + 1 + 1 + 1) = k * 3 by omega, show (k + 1) * 3 + 1 - (0 + 1 + 1 + 1) = k * 3 + 1 by omega, show (k + 1) * 3 + 2 - (0 + 1 + 1 + 1) = k * 3 + 2 by omega]
      exact this
/-- the writer at P, and the marks that were written -/
structure St (B P : Nat) (w : World) (dv v : Value) (D : List Mk) : Prop where
  wrt : Wr w B P v (allL D)
  row : w.ownsRow B 61 3 dv D.length (mkCells D)
  ne1 : dv.ownBlock ≠ some P
  ne2 : ∀ b, dv.ownBlock = some b → v.ownBlock ≠ some b
  ok : ∀ m ∈ D, ∃ b, enc m = some b
  tri : ∀ m ∈ D, m.what = 0 ∨ m.what = 1 ∨ m.what = 2
theorem St.below {B P : Nat} {w w' : World} {dv v : Value} {D : List Mk} (h : St B P w dv v D) (k : Below w.heap.size w w') : St B P w' dv v D :=
  ⟨wr_of_below h.wrt k, row_below h.row k, h.ne1, h.ne2, h.ok, h.tri⟩
theorem markInfo : (Try.prog.info? 61).map (fun i => (i.zero, i.size, i.bytes)) = some (some (.agg #[.int .i64 0, .int .i64 0, .int .i64 0]), 3, 24) := by kernel_rfl
/-- behind a write, and the append: w1 is the world ahead of the write, w2 behind it, w3 behind the append -/
theorem st_step {B P : Nat} {w1 w2 w3 : World} {o : Obj} {dv dv' v v' : Value} {D : List Mk} {m : Mk} {b : List Nat} (h : St B P w1 dv v D) (he : enc m = some b) (h2 : Wr w2 B P v' (allL D ++ b)) (hT : Turn (· = P) w1 v w2 v')
    (hrow : w3.ownsRow B 61 3 dv' (D.length + 1) (mkCells D ++ [.int .i64 m.what, .int .i64 m.n, .int .i64 m.width])) (hg : (w2.alloc o).grownBy w3 dv.ownBlock) (hw : dv'.ownBlock = dv.ownBlock ∨ dv'.ownBlock = some (w2.heap.size + 1))
    (htri : m.what = 0 ∨ m.what = 1 ∨ m.what = 2) : St B P w3 dv' v' (D ++ [m]) := by
  have hv' : ∀ b, dv.ownBlock = some b → v'.ownBlock ≠ some b := by
    intro b hb e
    rcases hT.own with e2 | e2
    · rw [e2] at e; exact h.ne2 b hb e
    · have := e2 b e
      have := (row_lt h.row hb).1
      omega
  refine ⟨?_, ?_, ?_, ?_, ?_, ?_⟩
  · rw [allL_snoc, show encD m = b by unfold encD; rw [he]; rfl]
    exact wr_mod (wr_of_below h2 (balloc _ o)) (mod_grown hg) h.ne1 (fun b hb e => hv' b e hb)
  · rw [List.length_append, mkCells_snoc]
    exact hrow
  · rcases hw with e | e
    · rw [e]; exact h.ne1
    · rw [e]
      intro e2
      have := Option.some.inj e2
      have := h2.blk.lt
      omega
  · intro b hb e
    rcases hw with e2 | e2
    · rw [e2] at hb; exact hv' b hb e
    · rw [e2] at hb
      have := Option.some.inj hb
      have := (row_lt h2.row e).1
      omega
  · intro x hx
    rw [List.mem_append] at hx
    rcases hx with hx | hx
    · exact h.ok x hx
    · simp at hx; subst hx; exact ⟨b, he⟩
  · intro x hx
    rw [List.mem_append] at hx
    rcases hx with hx | hx
    · exact h.tri x hx
    · simp at hx; subst hx; exact htri
theorem st_below {B P : Nat} {w1 w2 w3 : World} {o : Obj} {dv v v' : Value} {D : List Mk} (h : St B P w1 dv v D) (hB : B ≤ w1.heap.size) (hP : B ≤ P) (hT : Turn (· = P) w1 v w2 v') (hg : (w2.alloc o).grownBy w3 dv.ownBlock) : Below B w1 w3 := by
  have h1 := wr_below h.wrt hP hB hT
  refine (h1.trans ((balloc w2 o).mono (Nat.le_trans hB h1.size))).trans ((mod_grown hg).toBelow (by simp; exact Nat.le_succ_of_le (Nat.le_trans hB h1.size)) fun b hb e => ?_)
  have := (row_lt h.row e).2
  omega

theorem get_v (base p a k : Nat) (n x : Int) (v : Value) (l : List Nat) (w : World) (h : Rd w base p v l a) (hk : n = k) (hn : k ≤ 62) (hl : a + k ≤ 8 * l.length) (hx : ((getV (openL l) a k : Nat) : Int) = x) :
    Calls Try.prog 40 #[.pointer (some ⟨p, 0, none⟩), .int .i64 n] w fun e w' => e = .returned (.tuple #[.int .i64 x, .nilIface]) ∧ RdPost base p v l (a + k) w w' := by
  subst hk hx
  exact get_ok base p a k v l w h hn hl
theorem rvar_v (base p a : Nat) (x : Int) (a' : Nat) (v : Value) (l : List Nat) (w : World) (h : Rd w base p v l a) (hv : varG (openL l) a = .ok (x.toNat, a')) (hx : 0 ≤ x) : Calls Try.prog 41 #[.pointer (some ⟨p, 0, none⟩)] w fun e w' => e = .returned (.tuple #[.int .i64 x, .nilIface]) ∧ RdPost base p v l a' w w' := by
  have := rvar_yes base p a _ a' v l w h hv
  rw [Int.toNat_of_nonneg hx] at this
  exact this
theorem allL_le (D : List Mk) (k : Nat) : (allL (D.take k)).length ≤ (allL D).length := by
  have e : allL D = allL (D.take k) ++ allL (D.drop k) := by
    unfold allL
    rw [← List.flatMap_append, List.take_append_drop]
  rw [e, List.length_append]
  omega
theorem pick_v (a n : Int) (k : Nat) (x : Int) (w : World) (hk : n = k) (h0 : 0 < k) (h1 : k ≤ 9223372036854775807) (hx : (pickP a k : Int) = x) : Calls Try.prog 34 #[.int .i64 a, .int .i64 n] w fun e w' => e = .returned (.int .i64 x) ∧ w = w' := by
  subst hx
  exact pick_c a n k w hk h0 h1
set_option maxHeartbeats 4000000 in
theorem bitsBack_w (A : Option Addr) (n cap : Nat) (M : Nat → Nat → Int) (w : World) (hn : n ≤ maxLen) (hA : Reads w A n 3 M) (_hM : ∀ i j, -9223372036854775808 ≤ M i j ∧ M i j ≤ 9223372036854775807) : Calls Try.prog 6 #[.slice A n cap] w fun e w' => e = .returned (.bool true) ∧ Below w.heap.size w w' := by
  by_cases h100 : n > 100
  · unfold maxLen at hn
    go_enter Try.func6, Try.ntmps6
    go_wp2
    go_ret
    exact ⟨rfl, Below.refl _ _⟩
  have hn100 : n ≤ 100 := by omega
  clear h100 hn
  go_enter Try.func6, Try.ntmps6
  go_wp2_with fail
  refine (written_c _).mono ?_
  rintro e w1 ⟨rfl, hb1⟩
  go_wp2_with fail
  refine wp_fresh ?_
  intro w2 hb2
  obtain ⟨P, hP⟩ : ∃ P, P = w1.heap.size := ⟨_, rfl⟩
  have hW0 := wr_new (base := w.heap.size) hP hb2
  have hB2 : Below w.heap.size w w2 := hb1.trans (((balloc w1 _).mono hb1.size).trans (hb2.mono (by have := hb1.size; simp; omega)))
  have hBP : w.heap.size ≤ P := by have := hb1.size; omega
  rw [← hP]
  clear hb2 hb1 hP
  go_loopw [4, 5] (fun dv i wr => ∃ (k : Nat) (D : List Mk) (v : Value) (dA : Option Addr) (N dC : Nat), k ≤ n ∧ i = .int .i64 k ∧ D.length ≤ k ∧ dv = .slice dA N dC ∧ N = D.length ∧ St w.heap.size P wr (.slice dA N dC) v D ∧ Below w.heap.size w wr) (fun _ i _ => n - (intOf i).toNat)
  case atStart => exact ⟨0, [], _, none, 0, 0, by omega, rfl, by simp, rfl, rfl, ⟨hW0, ⟨rfl, .inl ⟨rfl, rfl⟩⟩, by simp [Value.ownBlock], by simp [Value.ownBlock], by simp, by simp⟩, hB2⟩
  case round =>
    obtain ⟨k, D, v, dA, _, dC, hk, rfl, hDk, rfl, rfl, hS, hB⟩ := hrel
    have hBs := hB.size
    by_cases hlt : k < n
    · obtain ⟨ab, ao, rfl, hab, hcell⟩ := (hA.below hB) (by omega)
      have q0 := hcell k hlt 0 (by decide)
      have q1 := hcell k hlt 1 (by decide)
      have q2 := hcell k hlt 2 (by decide)
      simp only [Nat.add_zero] at q0
      clear hcell
      rw [← Nat.add_assoc] at q1 q2
      clear hA hab
      have hlim := hS.wrt.lim
      have HLIM := Lib.hid hlim
      clear hlim
      obtain ⟨t, ht⟩ : ∃ t, t = pickP (M k 0) 3 := ⟨_, rfl⟩
      have ht3 : t < 3 := by rw [ht]; exact Nat.mod_lt _ (by decide)
      have HT := Lib.hid ht
      clear ht
      have hcase : t = 0 ∨ t = 1 ∨ t = 2 := by omega
      rcases hcase with h0 | h0 | h0
      · have hpx : ((pickP (M k 0) 3 : Nat) : Int) = 0 := by rw [← HT.out]; omega
        have HPX := Lib.hid hpx
        clear hpx h0 ht3 HT
        go_wp2_with fail
        refine (pick_v (M k 0) 3 3 0 _ rfl (by omega) (by omega) HPX.out).mono ?_
        rintro e w3 ⟨rfl, rfl⟩
        go_wp2_with fail
        refine calls_anew ?_
        intro w4 hb4
        have hS4 := (hS.below (balloc wr (.cells #[.int .i64 0, .int .i64 (M k 1), .int .i64 (M k 2)] 61))).below hb4
        have hB4 := (hB.trans ((balloc wr (.cells #[.int .i64 0, .int .i64 (M k 1), .int .i64 (M k 2)] 61)).mono hBs)).trans (hb4.mono (by simp; omega))
        have hX4 := (Blk.fresh wr #[.int .i64 0, .int .i64 (M k 1), .int .i64 (M k 2)] 61).below hb4
        have hBs4 := hB4.size
        have hPl := hS.wrt.blk.lt
        have hvl : ∀ b, v.ownBlock = some b → b < wr.heap.size := fun b hb => (row_lt hS.wrt.row hb).1
        have HVL := Lib.hid hvl
        obtain ⟨x0, hx0⟩ : ∃ x0, x0 = wr.heap.size := ⟨_, rfl⟩
        rw [← hx0] at hX4
        rw [← hx0]
        have HX0 := Lib.hid hx0
        clear hb4 hS hB hvl hx0 q0 q1 q2 hBs
        by_cases hf : fits (allL D) ⟨0, M k 1, M k 2⟩
        · obtain ⟨b, he, hl⟩ := hf
          have HE := Lib.hid he
          clear he
          refine (put0_ok (wd := M k 2) hS4.wrt hBs4 HE.out hl).mono ?_
          rintro e w5 ⟨rfl, v5, hW5, hT5⟩
          have hX5 : Blk w5 x0 #[.int .i64 0, .int .i64 (M k 1), .int .i64 (M k 2)] := hX4.mod hT5.mod (by
            rintro (e | e)
            · have := HX0.out; omega
            · have := HVL.out _ e; have := HX0.out; omega)
          obtain ⟨zx, cx, fx⟩ := id hX5
          have m0 : w5.cell? ⟨x0, 0, none⟩ = some (.int .i64 0) := cx 0
          have m1 : w5.cell? ⟨x0, 1, none⟩ = some (.int .i64 (M k 1)) := cx 1
          have m2 : w5.cell? ⟨x0, 2, none⟩ = some (.int .i64 (M k 2)) := cx 2
          clear cx
          have hrow5 : w5.ownsRow w.heap.size 61 3 (.slice dA D.length dC) D.length (mkCells D) := row_mod hS4.row hT5.mod (by
            intro b hb e
            rcases e with e | e
            · exact hS4.ne1 (by rw [hb, e])
            · exact hS4.ne2 b hb e)
          obtain ⟨i0, hi, hz0, hz1, hz2⟩ := info_parts markInfo
          have HI := Lib.hid hi
          have HZ0 := Lib.hid hz0
          have HZ1 := Lib.hid hz1
          have HZ2 := Lib.hid hz2
          clear hi hz0 hz1 hz2
          go_wp2_with (at_builtin; refine wpList_append_own_at _ rfl (.tmp 50) (.tmp 52) 55 rfl w.heap.size 61 i0 (.agg #[.int .i64 0, .int .i64 0, .int .i64 0]) 3 24 Try.underlying55 HI.out HZ0.out HZ1.out HZ2.out rfl (by decide) (.slice dA D.length dC) D.length (mkCells D) rfl (row_below hrow5 (balloc _ _)) ⟨w5.heap.size, 0, none⟩ 1 1 [.int .i64 0, .int .i64 (M k 1), .int .i64 (M k 2)] rfl rfl ?c1 ?c2 ?c3 ?c4 ?c5 ?_)
          case c1 =>
            intro j u hu
            match j with
            | 0 => simp at hu; subst hu; simp [Addr.add]
            | 1 => simp at hu; subst hu; simp [Addr.add]
            | 2 => simp at hu; subst hu; simp [Addr.add]
            | j + 3 => simp at hu
          case c2 => intro u hu; simp at hu; rcases hu with rfl | rfl | rfl <;> rfl
          case c3 => unfold maxLen; omega
          case c4 => omega
          case c5 => have := hT5.mod.size; simp; omega
          intro dv' w6 hown hgrow _ hwhere
          have hSt := st_step (m := ⟨0, M k 1, M k 2⟩) hS4 HE.out hW5 hT5 hown hgrow hwhere (by simp)
          have hB6 := hB4.trans (st_below hS4 hBs4 hBP hT5 hgrow)
          have hdv : ∃ A' c', dv' = .slice A' (D.length + 1) c' := by
            rcases hown.2 with ⟨h1, h2⟩ | ⟨g, cap, cur, h1, _⟩
            · omega
            · exact ⟨_, _, h1⟩
          obtain ⟨dA', dC', rfl⟩ := hdv
          clear HI HZ0 HZ1 HZ2 hown hgrow hwhere m0 m1 m2 fx zx
          go_wp2
          go_roundw
          case rel => exact ⟨k + 1, D ++ [⟨0, M k 1, M k 2⟩], v5, dA', D.length + 1, dC', by omega, by go_num, by simp; omega, by simp, by simp, hSt, hB6⟩
          case measure => simp [intOf]; omega
        · refine (put0_no hS4.wrt hf).mono ?_
          rintro e w5 ⟨x, rfl, rfl⟩
          go_wp2
          go_roundw
          case rel => exact ⟨k + 1, D, v, dA, D.length, dC, by omega, by go_num, by omega, rfl, rfl, hS4, hB4⟩
          case measure => simp [intOf]; omega
      · have hpx : ((pickP (M k 0) 3 : Nat) : Int) = 1 := by rw [← HT.out]; omega
        have HPX := Lib.hid hpx
        clear hpx h0 ht3 HT
        go_wp2_with fail
        refine (pick_v (M k 0) 3 3 1 _ rfl (by omega) (by omega) HPX.out).mono ?_
        rintro e w3 ⟨rfl, rfl⟩
        go_wp2_with fail
        refine calls_anew ?_
        intro w4 hb4
        have hS4 := (hS.below (balloc wr (.cells #[.int .i64 1, .int .i64 (M k 1), .int .i64 (M k 2)] 61))).below hb4
        have hB4 := (hB.trans ((balloc wr (.cells #[.int .i64 1, .int .i64 (M k 1), .int .i64 (M k 2)] 61)).mono hBs)).trans (hb4.mono (by simp; omega))
        have hX4 := (Blk.fresh wr #[.int .i64 1, .int .i64 (M k 1), .int .i64 (M k 2)] 61).below hb4
        have hBs4 := hB4.size
        have hPl := hS.wrt.blk.lt
        have hvl : ∀ b, v.ownBlock = some b → b < wr.heap.size := fun b hb => (row_lt hS.wrt.row hb).1
        have HVL := Lib.hid hvl
        obtain ⟨x0, hx0⟩ : ∃ x0, x0 = wr.heap.size := ⟨_, rfl⟩
        rw [← hx0] at hX4
        rw [← hx0]
        have HX0 := Lib.hid hx0
        clear hb4 hS hB hvl hx0 q0 q1 q2 hBs
        by_cases hf : fits (allL D) ⟨1, M k 1, M k 2⟩
        · obtain ⟨b, he, hl⟩ := hf
          have HE := Lib.hid he
          clear he
          refine (put1_ok (wd := M k 2) hS4.wrt hBs4 HE.out hl).mono ?_
          rintro e w5 ⟨rfl, v5, hW5, hT5⟩
          have hX5 : Blk w5 x0 #[.int .i64 1, .int .i64 (M k 1), .int .i64 (M k 2)] := hX4.mod hT5.mod (by
            rintro (e | e)
            · have := HX0.out; omega
            · have := HVL.out _ e; have := HX0.out; omega)
          obtain ⟨zx, cx, fx⟩ := id hX5
          have m0 : w5.cell? ⟨x0, 0, none⟩ = some (.int .i64 1) := cx 0
          have m1 : w5.cell? ⟨x0, 1, none⟩ = some (.int .i64 (M k 1)) := cx 1
          have m2 : w5.cell? ⟨x0, 2, none⟩ = some (.int .i64 (M k 2)) := cx 2
          clear cx
          have hrow5 : w5.ownsRow w.heap.size 61 3 (.slice dA D.length dC) D.length (mkCells D) := row_mod hS4.row hT5.mod (by
            intro b hb e
            rcases e with e | e
            · exact hS4.ne1 (by rw [hb, e])
            · exact hS4.ne2 b hb e)
          obtain ⟨i0, hi, hz0, hz1, hz2⟩ := info_parts markInfo
          have HI := Lib.hid hi
          have HZ0 := Lib.hid hz0
          have HZ1 := Lib.hid hz1
          have HZ2 := Lib.hid hz2
          clear hi hz0 hz1 hz2
          go_wp2_with (at_builtin; refine wpList_append_own_at _ rfl (.tmp 50) (.tmp 52) 55 rfl w.heap.size 61 i0 (.agg #[.int .i64 0, .int .i64 0, .int .i64 0]) 3 24 Try.underlying55 HI.out HZ0.out HZ1.out HZ2.out rfl (by decide) (.slice dA D.length dC) D.length (mkCells D) rfl (row_below hrow5 (balloc _ _)) ⟨w5.heap.size, 0, none⟩ 1 1 [.int .i64 1, .int .i64 (M k 1), .int .i64 (M k 2)] rfl rfl ?c1 ?c2 ?c3 ?c4 ?c5 ?_)
          case c1 =>
            intro j u hu
            match j with
            | 0 => simp at hu; subst hu; simp [Addr.add]
            | 1 => simp at hu; subst hu; simp [Addr.add]
            | 2 => simp at hu; subst hu; simp [Addr.add]
            | j + 3 => simp at hu
          case c2 => intro u hu; simp at hu; rcases hu with rfl | rfl | rfl <;> rfl
          case c3 => unfold maxLen; omega
          case c4 => omega
          case c5 => have := hT5.mod.size; simp; omega
          intro dv' w6 hown hgrow _ hwhere
          have hSt := st_step (m := ⟨1, M k 1, M k 2⟩) hS4 HE.out hW5 hT5 hown hgrow hwhere (by simp)
          have hB6 := hB4.trans (st_below hS4 hBs4 hBP hT5 hgrow)
          have hdv : ∃ A' c', dv' = .slice A' (D.length + 1) c' := by
            rcases hown.2 with ⟨h1, h2⟩ | ⟨g, cap, cur, h1, _⟩
            · omega
            · exact ⟨_, _, h1⟩
          obtain ⟨dA', dC', rfl⟩ := hdv
          clear HI HZ0 HZ1 HZ2 hown hgrow hwhere m0 m1 m2 fx zx
          go_wp2
          go_roundw
          case rel => exact ⟨k + 1, D ++ [⟨1, M k 1, M k 2⟩], v5, dA', D.length + 1, dC', by omega, by go_num, by simp; omega, by simp, by simp, hSt, hB6⟩
          case measure => simp [intOf]; omega
        · refine (put1_no hS4.wrt hf).mono ?_
          rintro e w5 ⟨x, rfl, rfl⟩
          go_wp2
          go_roundw
          case rel => exact ⟨k + 1, D, v, dA, D.length, dC, by omega, by go_num, by omega, rfl, rfl, hS4, hB4⟩
          case measure => simp [intOf]; omega
      · have hpx : ((pickP (M k 0) 3 : Nat) : Int) = 2 := by rw [← HT.out]; omega
        have HPX := Lib.hid hpx
        clear hpx h0 ht3 HT
        go_wp2_with fail
        refine (pick_v (M k 0) 3 3 2 _ rfl (by omega) (by omega) HPX.out).mono ?_
        rintro e w3 ⟨rfl, rfl⟩
        go_wp2_with fail
        refine calls_anew ?_
        intro w4 hb4
        have hS4 := (hS.below (balloc wr (.cells #[.int .i64 2, .int .i64 (M k 1), .int .i64 (M k 2)] 61))).below hb4
        have hB4 := (hB.trans ((balloc wr (.cells #[.int .i64 2, .int .i64 (M k 1), .int .i64 (M k 2)] 61)).mono hBs)).trans (hb4.mono (by simp; omega))
        have hX4 := (Blk.fresh wr #[.int .i64 2, .int .i64 (M k 1), .int .i64 (M k 2)] 61).below hb4
        have hBs4 := hB4.size
        have hPl := hS.wrt.blk.lt
        have hvl : ∀ b, v.ownBlock = some b → b < wr.heap.size := fun b hb => (row_lt hS.wrt.row hb).1
        have HVL := Lib.hid hvl
        obtain ⟨x0, hx0⟩ : ∃ x0, x0 = wr.heap.size := ⟨_, rfl⟩
        rw [← hx0] at hX4
        rw [← hx0]
        have HX0 := Lib.hid hx0
        clear hb4 hS hB hvl hx0 q0 q1 q2 hBs
        by_cases hf : fits (allL D) ⟨2, M k 1, M k 2⟩
        · obtain ⟨b, he, hl⟩ := hf
          have HE := Lib.hid he
          clear he
          refine (put2_ok (wd := M k 2) hS4.wrt hBs4 HE.out hl).mono ?_
          rintro e w5 ⟨rfl, v5, hW5, hT5⟩
          have hX5 : Blk w5 x0 #[.int .i64 2, .int .i64 (M k 1), .int .i64 (M k 2)] := hX4.mod hT5.mod (by
            rintro (e | e)
            · have := HX0.out; omega
            · have := HVL.out _ e; have := HX0.out; omega)
          obtain ⟨zx, cx, fx⟩ := id hX5
          have m0 : w5.cell? ⟨x0, 0, none⟩ = some (.int .i64 2) := cx 0
          have m1 : w5.cell? ⟨x0, 1, none⟩ = some (.int .i64 (M k 1)) := cx 1
          have m2 : w5.cell? ⟨x0, 2, none⟩ = some (.int .i64 (M k 2)) := cx 2
          clear cx
          have hrow5 : w5.ownsRow w.heap.size 61 3 (.slice dA D.length dC) D.length (mkCells D) := row_mod hS4.row hT5.mod (by
            intro b hb e
            rcases e with e | e
            · exact hS4.ne1 (by rw [hb, e])
            · exact hS4.ne2 b hb e)
          obtain ⟨i0, hi, hz0, hz1, hz2⟩ := info_parts markInfo
          have HI := Lib.hid hi
          have HZ0 := Lib.hid hz0
          have HZ1 := Lib.hid hz1
          have HZ2 := Lib.hid hz2
          clear hi hz0 hz1 hz2
          go_wp2_with (at_builtin; refine wpList_append_own_at _ rfl (.tmp 50) (.tmp 52) 55 rfl w.heap.size 61 i0 (.agg #[.int .i64 0, .int .i64 0, .int .i64 0]) 3 24 Try.underlying55 HI.out HZ0.out HZ1.out HZ2.out rfl (by decide) (.slice dA D.length dC) D.length (mkCells D) rfl (row_below hrow5 (balloc _ _)) ⟨w5.heap.size, 0, none⟩ 1 1 [.int .i64 2, .int .i64 (M k 1), .int .i64 (M k 2)] rfl rfl ?c1 ?c2 ?c3 ?c4 ?c5 ?_)
          case c1 =>
            intro j u hu
            match j with
            | 0 => simp at hu; subst hu; simp [Addr.add]
            | 1 => simp at hu; subst hu; simp [Addr.add]
            | 2 => simp at hu; subst hu; simp [Addr.add]
            | j + 3 => simp at hu
          case c2 => intro u hu; simp at hu; rcases hu with rfl | rfl | rfl <;> rfl
          case c3 => unfold maxLen; omega
          case c4 => omega
          case c5 => have := hT5.mod.size; simp; omega
          intro dv' w6 hown hgrow _ hwhere
          have hSt := st_step (m := ⟨2, M k 1, M k 2⟩) hS4 HE.out hW5 hT5 hown hgrow hwhere (by simp)
          have hB6 := hB4.trans (st_below hS4 hBs4 hBP hT5 hgrow)
          have hdv : ∃ A' c', dv' = .slice A' (D.length + 1) c' := by
            rcases hown.2 with ⟨h1, h2⟩ | ⟨g, cap, cur, h1, _⟩
            · omega
            · exact ⟨_, _, h1⟩
          obtain ⟨dA', dC', rfl⟩ := hdv
          clear HI HZ0 HZ1 HZ2 hown hgrow hwhere m0 m1 m2 fx zx
          go_wp2
          go_roundw
          case rel => exact ⟨k + 1, D ++ [⟨2, M k 1, M k 2⟩], v5, dA', D.length + 1, dC', by omega, by go_num, by simp; omega, by simp, by simp, hSt, hB6⟩
          case measure => simp [intOf]; omega
        · refine (put2_no hS4.wrt hf).mono ?_
          rintro e w5 ⟨x, rfl, rfl⟩
          go_wp2
          go_roundw
          case rel => exact ⟨k + 1, D, v, dA, D.length, dC, by omega, by go_num, by omega, rfl, rfl, hS4, hB4⟩
          case measure => simp [intOf]; omega

    · obtain rfl : k = n := by omega
      have hPl := hS.wrt.blk.lt
      have hvl : ∀ b, v.ownBlock = some b → b < wr.heap.size := fun b hb => (row_lt hS.wrt.row hb).1
      have hdl : ∀ b, (Value.slice dA D.length dC).ownBlock = some b → b < wr.heap.size := fun b hb => (row_lt hS.row hb).1
      have HVL := Lib.hid hvl
      have HDL := Lib.hid hdl
      have hlim := hS.wrt.lim
      have HLIM := Lib.hid hlim
      have HOP := Lib.hid (open_pack hS.wrt.bin)
      clear hlt hvl hdl hlim
      go_wp2_with fail
      refine (bytes_c _ _ _ _ _ hS.wrt).mono ?_
      rintro e w5 ⟨vb, rfl, hBs5, hb5⟩
      have hS5 := hS.below hb5
      have hB5 := hB.trans (hb5.mono hBs)
      have hz5 := hB5.size
      go_wp2_with fail
      refine (read_c vb _ _ (Src.of_bs hBs5) (pack_lt hS.wrt.bin) (by rw [pack_length]; unfold bytesOf; have := HLIM.out; omega)).mono ?_
      rintro e w6 ⟨p, v6, rfl, hp, hR6, hb6⟩
      have hS6 := hS5.below hb6
      have hB6 := hB5.trans (hb6.mono hz5)
      have hz6 := hB6.size
      have hpr : wr.heap.size ≤ p := Nat.le_trans hb5.size hp
      clear hb6 hb5 hBs5 hS5 hB5 hS hB hp
      go_wp2_with fail
      go_loopw [9] (fun i wq => ∃ j : Nat, j ≤ D.length ∧ i = .int .i64 j ∧ Rd wq w5.heap.size p v6 (pack (allL D)) (allL (D.take j)).length ∧ Mod (· = p) w6 wq) (fun i _ => D.length - (intOf i).toNat)
      case atStart => exact ⟨0, by omega, rfl, hR6, Mod.refl _ _⟩
      case round =>
        obtain ⟨wq, rfl⟩ : ∃ wq : World, wq = wr := ⟨_, rfl⟩
        obtain ⟨j, hj, rfl, hRq, hMq⟩ := hrel
        have hSq1 : wq.ownsRow w.heap.size 61 3 (.slice dA D.length dC) D.length (mkCells D) := row_mod hS6.row hMq (fun b hb e => by have := HDL.out b hb; omega)
        by_cases hlt : j < D.length
        · obtain ⟨m, hm⟩ : ∃ m, D[j]? = some m := ⟨_, List.getElem?_eq_getElem hlt⟩
          have hmem := List.mem_of_getElem? hm
          obtain ⟨b, hb⟩ := hS6.ok m hmem
          have htri := hS6.tri m hmem
          have hdrop := drop_at hm HOP.out hb
          have htake := allL_take_succ hm
          rw [show encD m = b by unfold encD; rw [hb]; rfl] at htake
          obtain ⟨m0, m1, m2⟩ := mkCells_get hm
          obtain ⟨wh, mn, mw⟩ := m
          simp only at m0 m1 m2 htri
          obtain ⟨g, cap', he, g1, g2, g3, g4, g5, g6, _⟩ := row_at hSq1 (by omega)
          injection he with he1 he2 he3
          subst he1 he3
          have q0 := g6 _ _ m0
          have q1 := g6 _ _ m1
          have q2 := g6 _ _ m2
          have hgp : g ≠ p := by have := HDL.out g rfl; omega
          obtain ⟨ac, hac⟩ : ∃ ac, ac = (allL (D.take j)).length := ⟨_, rfl⟩
          rw [← hac] at hdrop hRq
          have HAC := Lib.hid hac
          have HTK := Lib.hid htake
          have HDR := Lib.hid hdrop
          have HB' := Lib.hid hb
          clear hm hmem hb g5 g6 m0 m1 m2 hac htake hdrop
          have hqm : ∀ (wz : World), Mod (· = p) wq wz → wz.cell? ⟨g, j * 3 + 1, none⟩ = some (.int .i64 mn) := fun wz hz => (hz.cell g2 hgp).trans q1
          have HQM := Lib.hid hqm
          clear hqm
          have hD100 : D.length ≤ 100 := by omega
          rcases htri with rfl | rfl | rfl
          · obtain ⟨r1, r2, r3, r4, rfl⟩ := enc0' HB'.out
            have hv : ((getV (openL (pack (allL D))) ac mw.toNat : Nat) : Int) = mn := by
              rw [getV_bits HDR.out (toNat_lt_pow r3 r4)]; omega
            have hend : ac + mw.toNat = (allL (D.take (j + 1))).length := by rw [HTK.out, List.length_append, bitsOf_length, HAC.out]
            have hle : ac + mw.toNat ≤ 8 * (pack (allL D)).length := by
              have h1 := allL_le D (j + 1)
              rw [pack_length, hend]
              unfold bytesOf
              omega
            have HV := Lib.hid hv
            have HE := Lib.hid hend
            clear r4 hv hend
            go_wp2_with fail
            refine (get_v _ _ ac mw.toNat mw mn _ _ _ hRq (by omega) (by omega) hle HV.out).mono ?_
            rintro e wz ⟨rfl, hRz, hMz⟩
            have qz := HQM.out wz hMz
            go_wp2
            go_roundw
            case rel => exact ⟨j + 1, by omega, by go_num, by rw [← HE.out]; exact hRz, hMq.trans hMz⟩
            case measure => simp [intOf]; omega
          · obtain ⟨r1, r2, rfl⟩ := enc1' HB'.out
            have hv : varG (openL (pack (allL D))) ac = .ok (mn.toNat, (allL (D.take (j + 1))).length) := by
              rw [varG_back HDR.out (by omega), HTK.out, List.length_append, HAC.out]
            have HV := Lib.hid hv
            clear hv
            go_wp2_with fail
            refine (rvar_v _ _ ac mn _ _ _ _ hRq HV.out r1).mono ?_
            rintro e wz ⟨rfl, hRz, hMz⟩
            have qz := HQM.out wz hMz
            go_wp2
            go_roundw
            case rel => exact ⟨j + 1, by omega, by go_num, hRz, hMq.trans hMz⟩
            case measure => simp [intOf]; omega
          · obtain ⟨r1, r2, rfl⟩ := enc2' HB'.out
            have hv : intG (openL (pack (allL D))) ac = .ok (mn, (allL (D.take (j + 1))).length) := by
              rw [intG_back HDR.out r1 r2, HTK.out, List.length_append, HAC.out]
            have HV := Lib.hid hv
            clear hv
            go_wp2_with fail
            refine (rint_yes _ _ ac _ mn _ _ _ hRq HV.out).mono ?_
            rintro e wz ⟨rfl, hRz, hMz⟩
            have qz := HQM.out wz hMz
            go_wp2
            go_roundw
            case rel => exact ⟨j + 1, by omega, by go_num, hRz, hMq.trans hMz⟩
            case measure => simp [intOf]; omega
        · obtain rfl : j = D.length := by omega
          rw [List.take_length] at hRq
          have hBq : Below w.heap.size w wq := hB6.trans (hMq.toBelow hz6 fun b hb e => by omega)
          have hzq := hBq.size
          have hWq : Wr wq w.heap.size P v (allL D) := wr_mod hS6.wrt hMq (by omega) (fun b hb e => by have := HVL.out b hb; omega)
          clear hS6 hB6 hMq hSq1 hR6 hlt
          have hpl : (pack (allL D)).length = bytesOf (allL D) := pack_length _
          have hb8 : (8 * ((pack (allL D)).length : Int) - ((allL D).length : Int)) < 8 := by rw [hpl]; unfold bytesOf; omega
          have HPL := Lib.hid hpl
          clear hpl
          go_wp2_with fail
          refine (left_c _ _ _ _ _ _ hRq).mono ?_
          rintro e w7 ⟨rfl, hb7⟩
          have hW7 := wr_of_below hWq hb7
          have hB7 := hBq.trans (hb7.mono hzq)
          have hz7 := hB7.size
          go_wp2_with fail
          refine (bytes_c _ _ _ _ _ hW7).mono ?_
          rintro e w8 ⟨vc, rfl, hBs8, hb8'⟩
          have hW8 := wr_of_below hW7 hb8'
          have hB8 := hB7.trans (hb8'.mono hz7)
          obtain ⟨cA, cC, rfl⟩ : ∃ cA cC, vc = .slice cA (bytesOf (allL D)) cC := by
            rcases hBs8.row.2 with ⟨h1, _⟩ | ⟨g, cap, cur, h1, _⟩
            · exact absurd h1 hBs8.nn
            · rw [HPL.out] at h1; exact ⟨_, _, h1⟩
          clear hBs8 hb8' hb7 hWq hBq
          go_wp2_with fail
          refine (many_c _ _ _ _ _ hW8).mono ?_
          rintro e w9 ⟨rfl, rfl⟩
          have hfin : ((bytesOf (allL D) : Int) == ((allL D).length + 7) / 8) = true := by unfold bytesOf; simp
          have HL9 := HLIM.out
          go_wp2
          go_ret
          exact ⟨rfl, hB8⟩

end Go.Proofs.Ytfagkbmphohelaa
