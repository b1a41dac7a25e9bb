/- The contracts of bits.Writer, the second half. Conditions: none. -/
import Derived.Test.YtnkinnfpebploaaDoorBits1
import Derived.Test.YtnkinnfpebploaaDoorOwnTab
import Derived.Laws.AppendOwnNone
namespace Go.Proofs.YtnkinnfpebploaaDoor
open Go.ChangeShapes Go.WideShapes Go.ChangeAt Go.RowKit Go.BigFrame
open B

theorem put_bad2 (n width : Int) (a : Option Addr) (w : World) (h1 : 0 ≤ width) (h2 : width ≤ 62) (h3 : 0 ≤ n) (h4 : 2 ^ width.toNat ≤ n) : Calls Tryd.prog 27 #[.pointer a, .int .i64 n, .int .i64 width] w fun e w' => e = .returned (.iface 25 (.int .i64 2)) ∧ w = w' := by
  obtain ⟨n, rfl⟩ := Int.eq_ofNat_of_zero_le h3
  obtain ⟨width, rfl⟩ := Int.eq_ofNat_of_zero_le h1
  simp only [Int.toNat_natCast] at h4
  have hsh : ((n : Int) / 2 ^ width != 0) = true := by
    have e : (n : Int) / 2 ^ width = ((n / 2 ^ width : Nat) : Int) := by simp
    have h5 : 2 ^ width ≤ n := by
      have e2 : (2 : Int) ^ width = ((2 ^ width : Nat) : Int) := by simp
      rw [e2] at h4
      omega
    have := Nat.div_pos h5 (Nat.two_pow_pos _)
    rw [e]
    simp only [bne_iff_ne, ne_eq]
    omega
  clear h4
  go_enter Tryd.func27, Tryd.ntmps27
  go_wp2
  all_goals
    go_ret
    exact ⟨rfl, rfl⟩
theorem put_full (base p n width : Nat) (v : Value) (L : List Nat) (w : World) (h : Wr w base p v L) (hw : width ≤ 62) (hn : n < 2 ^ width) (hl : 32000 < L.length + width) :
    Calls Tryd.prog 27 #[.pointer (some ⟨p, 0, none⟩), .int .i64 n, .int .i64 width] w fun e w' => e = .returned (.iface 25 (.int .i64 4)) ∧ w = w' := by
  have hsh : ((n : Int) / 2 ^ width != 0) = false := by
    have : (n : Int) / 2 ^ width = ((n / 2 ^ width : Nat) : Int) := by simp
    rw [this, Nat.div_eq_of_lt hn]; rfl
  have h3 := h.lim
  have hA : (L.length : Int) + width > 32000 := by omega
  obtain ⟨z0, c0, f0⟩ := h.blk
  have k1 := c0 1
  clear c0
  go_enter Tryd.func27, Tryd.ntmps27
  go_wp2
  go_ret
  exact ⟨rfl, rfl⟩
theorem many_c (base p : Nat) (v : Value) (L : List Nat) (w : World) (h : Wr w base p v L) : Calls Tryd.prog 33 #[.pointer (some ⟨p, 0, none⟩)] w fun e w' => e = .returned (.int .i64 (L.length : Int)) ∧ w = w' := by
  obtain ⟨z0, c0, f0⟩ := h.blk
  have k1 := c0 1
  clear c0
  go_enter Tryd.func33, Tryd.ntmps33
  go_wp2
  go_ret
  exact ⟨rfl, rfl⟩
def Lt62 (n : Nat) : Prop := n < 4611686018427387904
/-- the slice v is the bytes l, in a row of the call's own -/
structure Bs (w : World) (base : Nat) (v : Value) (l : List Nat) : Prop where
  row : w.ownsRow base 5 1 v l.length (u8s l)
  nn : v ≠ .slice none 0 0
theorem wr_nil_row {w : World} {base p : Nat} {v : Value} {L : List Nat} (h : Wr w base p v L) (hL : L = []) : bytesOf L = 0 := by subst hL; rfl
theorem row_cells {w : World} {base size n : Nat} {e : TypeId} {g cap : Nat} {xs : List Value} (h : w.ownsRow base e size (.slice (some ⟨g, 0, none⟩) n cap) n xs) (j : Nat) (u : Value) (hu : xs[j]? = some u) : w.cell? ((⟨g, 0, none⟩ : Addr).add j) = some u :=
  World.ownsRow.cells h rfl j u hu
def BytesPost (L : List Nat) (w : World) (e : Ending) (w' : World) : Prop := ∃ v, e = .returned v ∧ Bs w' w.heap.size v (pack L) ∧ Below w.heap.size w w'
theorem bytes_c (base p : Nat) (v : Value) (L : List Nat) (w : World) (h : Wr w base p v L) : Calls Tryd.prog 34 #[.pointer (some ⟨p, 0, none⟩)] w (BytesPost L w) := by
  obtain ⟨i0, hi, hz0, hz1, hz2⟩ := info_parts byteInfo
  have HI := Lib.hid hi
  have HZ0 := Lib.hid hz0
  have HZ1 := Lib.hid hz1
  have HZ2 := Lib.hid hz2
  clear hi hz0 hz1 hz2
  obtain ⟨z0, c0, f0⟩ := h.blk
  have k0 : w.cell? ⟨p, 0, none⟩ = some v := c0 0
  clear c0 f0
  have hlim := h.lim
  have hR := h.row
  have hR2 := h.row.2
  rcases hR2 with ⟨rfl, hn⟩ | ⟨g, cap, cur, rfl, _⟩
  · have hL : pack L = [] := by unfold pack; rw [hn]; rfl
    have HL := Lib.hid hL
    clear hL hn hR h
    go_enter Tryd.func34, Tryd.ntmps34
    go_wp2_with (at_builtin; refine wpList_append_own_none _ rfl (.tmp 3) (.tmp 7) 22 rfl w.heap.size 5 i0 1 Tryd.underlying22 HI.out (.slice (some ⟨w.heap.size, 0, none⟩) 0 0) 0 [] rfl (own_empty 5 1) rfl ?_)
    clear HI HZ0 HZ1 HZ2
    go_wp2
    go_ret
    exact ⟨_, rfl, ⟨by rw [HL.out]; exact own_empty _ _, by simp⟩, (Below.refl _ _).alloc (Nat.le_refl _) _⟩
  · clear h
    go_enter Tryd.func34, Tryd.ntmps34
    go_wp2_with (at_builtin; refine wpList_append_own_at _ rfl (.tmp 3) (.tmp 7) 22 rfl w.heap.size 5 i0 (.int .u8 0) 1 1 Tryd.underlying22 HI.out HZ0.out HZ1.out HZ2.out rfl (by decide) (.slice (some ⟨w.heap.size, 0, none⟩) 0 0) 0 [] rfl (own_empty 5 1) ⟨g, 0, none⟩ (bytesOf L) cap (u8s (pack L)) rfl ?c1 ?c2 ?c3 ?c4 ?c5 ?c6 ?_)
    case c1 => rw [u8s_length, pack_length]; omega
    case c2 =>
      intro j u hu
      have h2 := row_cells hR j u hu
      rw [World.cell?_alloc_lt _ _ _ (by unfold Addr.add; split <;> exact (row_lt hR rfl).1)]
      exact h2
    case c3 => exact u8s_one _
    case c4 => unfold maxLen bytesOf; omega
    case c5 => unfold bytesOf; omega
    case c6 => simp
    intro v' w' hown hgrow hnn _
    have HO := Lib.hid hown
    have HG := Lib.hid hgrow
    have HN := Lib.hid hnn
    clear hown hgrow hnn HI HZ0 HZ1 HZ2
    go_wp2
    go_ret
    refine ⟨_, rfl, ⟨?_, ?_⟩, ?_⟩
    · rw [pack_length]
      exact HO.out
    · exact fun e => HN.out e
    · exact Below.trans ((Below.refl _ _).alloc (Nat.le_refl _) _) ((mod_grown HG.out).toBelow (by simp) (fun b hb e => by simp only [Value.ownBlock, Option.some.injEq] at e; omega))
set_option maxHeartbeats 1000000 in
theorem var_ok (base p n : Nat) (v : Value) (L : List Nat) (w : World) (h : Wr w base p v L) (hb : base ≤ w.heap.size) (hn : n < 4611686018427387904) (hl : L.length + 6 * pieces n ≤ 32000) :
    Calls Tryd.prog 29 #[.pointer (some ⟨p, 0, none⟩), .int .i64 n] w fun e w' => e = .returned .nilIface ∧ PutPost base p v (L ++ varL n) w w' := by
  have HN : Lt62 n := hn
  have hn2 : ¬ (n : Int) ≥ 4611686018427387904 := by omega
  clear hn
  go_enter Tryd.func29, Tryd.ntmps29
  go_wp2
  clear hn2
  go_loop [5, 6] (fun s m => ∃ k j : Nat, s = .int .i64 k ∧ m = .int .i64 j ∧ k + 6 * restN j = 6 * pieces n ∧ Lt62 j) (fun _ m => (intOf m).toNat)
  case atStart => exact ⟨6, n / 32, rfl, by simp, by have := pieces_rest (n := n) (by unfold Lt62 at HN; omega); omega, by unfold Lt62 at *; omega⟩
  case round =>
    obtain ⟨k, j, rfl, rfl, hs, hj⟩ := hrel
    have hk : k ≤ 78 := by have := pieces_bd n; omega
    have HS := Lib.hid hs
    clear hs
    by_cases h0 : j = 0
    · subst h0
      have hk6 : k = 6 * pieces n := by have := HS.out; unfold restN at this; simp at this; omega
      have HK := Lib.hid hk6
      clear hk6 HS
      have hle : (L.length : Int) + k ≤ 32000 := by have := HK.out; omega
      obtain ⟨z0, c0, f0⟩ := h.blk
      have k1 := c0 1
      clear c0
      go_wp2
      clear hle k1 f0 z0
      go_loopw [1] (fun x wr => ∃ (j : Nat) (M : List Nat) (v1 : Value), x = .int .i64 j ∧ M ++ varL j = varL n ∧ Lt62 j ∧ Wr wr base p v1 (L ++ M) ∧ Turn (· = p) w v wr v1) (fun x _ => (intOf x).toNat)
      case atStart => exact ⟨n, [], v, rfl, rfl, HN, by simpa using h, Turn.refl _ _ _⟩
      case round =>
        obtain ⟨j, M, v1, rfl, hM, hj, hW, hT⟩ := hrel
        have HM := Lib.hid hM
        clear hM
        have hlen : (L ++ M).length + (varL j).length = L.length + 6 * pieces n := by
          have := congrArg List.length HM.out
          rw [List.length_append, varL_length n] at this
          rw [List.length_append]; omega
        have HLn := Lib.hid hlen
        clear hlen
        have hvl := varL_length j
        have hpp := pieces_pos j
        have h31 := and31 j (by unfold Lt62 at hj; omega)
        obtain ⟨a, ha⟩ : ∃ a, a = j % 32 := ⟨_, rfl⟩
        rw [← ha] at h31
        have hb2 := Nat.le_trans hb hT.mod.size
        have HA := Lib.hid ha
        have HV := Lib.hid hvl
        clear ha hvl
        by_cases h32 : j < 32
        · have hge : ¬ (32 : Int) ≤ (j : Int) := by omega
          go_wp2_with fail
          refine (put_i base p 0 1 0 1 v1 (L ++ M) _ hW hb2 rfl rfl (by omega) (by omega) (by have := HLn.out; have := HV.out; omega)).mono ?_
          rintro e w1 ⟨rfl, v2, hW2, hT2⟩
          go_wp2_with fail
          refine (put_i base p (a : Int) 5 a 5 v2 (L ++ M ++ bitsOf 1 0) _ hW2 (Nat.le_trans hb2 hT2.mod.size) rfl rfl (by omega) (by have := HA.out; omega) (by have := HLn.out; have := HV.out; rw [List.length_append, bitsOf_length]; omega)).mono ?_
          rintro e w2 ⟨rfl, v3, hW3, hT3⟩
          go_wp2
          go_ret
          refine ⟨rfl, v3, ?_, (hT.trans hT2).trans hT3⟩
          have e1 : varL j = bitsOf 1 0 ++ bitsOf 5 a := by rw [HA.out, Nat.mod_eq_of_lt h32, varL_small h32]; rfl
          have e2 : L ++ varL n = L ++ M ++ bitsOf 1 0 ++ bitsOf 5 a := by rw [← HM.out, e1]; simp [List.append_assoc]
          rw [e2]
          exact hW3
        · have hge : (32 : Int) ≤ (j : Int) := by omega
          go_wp2_with fail
          refine (put_i base p 1 1 1 1 v1 (L ++ M) _ hW hb2 rfl rfl (by omega) (by omega) (by have := HLn.out; have := HV.out; omega)).mono ?_
          rintro e w1 ⟨rfl, v2, hW2, hT2⟩
          go_wp2_with fail
          refine (put_i base p (a : Int) 5 a 5 v2 (L ++ M ++ bitsOf 1 1) _ hW2 (Nat.le_trans hb2 hT2.mod.size) rfl rfl (by omega) (by have := HA.out; omega) (by have := HLn.out; have := HV.out; rw [List.length_append, bitsOf_length]; omega)).mono ?_
          rintro e w2 ⟨rfl, v3, hW3, hT3⟩
          go_wp2
          go_roundw
          case rel =>
            have e1 : varL j = bitsOf 1 1 ++ (bitsOf 5 a ++ varL (j / 32)) := by rw [HA.out, varL_big (by omega) (by unfold Lt62 at hj; omega)]; rfl
            refine ⟨j / 32, M ++ bitsOf 1 1 ++ bitsOf 5 a, v3, by simp, ?_, by unfold Lt62 at *; omega, ?_, (hT.trans hT2).trans hT3⟩
            · rw [← HM.out, e1]; simp [List.append_assoc]
            · have e2 : L ++ (M ++ bitsOf 1 1 ++ bitsOf 5 a) = L ++ M ++ bitsOf 1 1 ++ bitsOf 5 a := by simp [List.append_assoc]
              rw [e2]
              exact hW3
          case measure => simp [intOf]; omega
    · have h1 : 0 < j := by omega
      go_wp2
      go_round
      case rel => exact ⟨k + 6, j / 32, by go_num, by simp, by have := rest_step h0 (by unfold Lt62 at hj; omega); have := HS.out; omega, by unfold Lt62 at *; omega⟩
      case measure => simp [intOf]; omega

set_option maxHeartbeats 1000000 in
theorem var_full (base p n : Nat) (v : Value) (L : List Nat) (w : World) (h : Wr w base p v L) (hn : n < 4611686018427387904) (hl : 32000 < L.length + 6 * pieces n) :
    Calls Tryd.prog 29 #[.pointer (some ⟨p, 0, none⟩), .int .i64 n] w fun e w' => e = .returned (.iface 25 (.int .i64 4)) ∧ w = w' := by
  have HN : Lt62 n := hn
  have hn2 : ¬ (n : Int) ≥ 4611686018427387904 := by omega
  clear hn
  go_enter Tryd.func29, Tryd.ntmps29
  go_wp2
  clear hn2
  go_loop [5, 6] (fun s m => ∃ k j : Nat, s = .int .i64 k ∧ m = .int .i64 j ∧ k + 6 * restN j = 6 * pieces n ∧ Lt62 j) (fun _ m => (intOf m).toNat)
  case atStart => exact ⟨6, n / 32, rfl, by simp, by have := pieces_rest (n := n) (by unfold Lt62 at HN; omega); omega, by unfold Lt62 at *; omega⟩
  case round =>
    obtain ⟨k, j, rfl, rfl, hs, hj⟩ := hrel
    have hk : k ≤ 78 := by have := pieces_bd n; omega
    have HS := Lib.hid hs
    clear hs
    by_cases h0 : j = 0
    · subst h0
      have hk6 : k = 6 * pieces n := by have := HS.out; unfold restN at this; simp at this; omega
      have HK := Lib.hid hk6
      clear hk6 HS
      have hlm := h.lim
      have hle : (L.length : Int) + k > 32000 := by have := HK.out; omega
      obtain ⟨z0, c0, f0⟩ := h.blk
      have k1 := c0 1
      clear c0
      go_wp2
      go_ret
      exact ⟨rfl, rfl⟩
    · have h1 : 0 < j := by omega
      go_wp2
      go_round
      case rel => exact ⟨k + 6, j / 32, by go_num, by simp, by have := rest_step h0 (by unfold Lt62 at hj; omega); have := HS.out; omega, by unfold Lt62 at *; omega⟩
      case measure => simp [intOf]; omega

theorem var_bad (n : Int) (a : Option Addr) (w : World) (hn : n < 0 ∨ 4611686018427387904 ≤ n) : Calls Tryd.prog 29 #[.pointer a, .int .i64 n] w fun e w' => e = .returned (.iface 25 (.int .i64 2)) ∧ w = w' := by
  rcases hn with h | h
  · go_enter Tryd.func29, Tryd.ntmps29
    go_wp2
    go_ret
    exact ⟨rfl, rfl⟩
  · have h' : ¬ n < 0 := by omega
    go_enter Tryd.func29, Tryd.ntmps29
    go_wp2
    go_ret
    exact ⟨rfl, rfl⟩
theorem var_i (base p k : Nat) (n : Int) (v : Value) (L : List Nat) (w : World) (h : Wr w base p v L) (hb : base ≤ w.heap.size) (en : n = k) (hn : k < 4611686018427387904) (hl : L.length + 6 * pieces k ≤ 32000) :
    Calls Tryd.prog 29 #[.pointer (some ⟨p, 0, none⟩), .int .i64 n] w fun e w' => e = .returned .nilIface ∧ PutPost base p v (L ++ varL k) w w' := by
  subst en
  exact var_ok base p k v L w h hb hn hl
theorem var_fi (base p k : Nat) (n : Int) (v : Value) (L : List Nat) (w : World) (h : Wr w base p v L) (en : n = k) (hn : k < 4611686018427387904) (hl : 32000 < L.length + 6 * pieces k) :
    Calls Tryd.prog 29 #[.pointer (some ⟨p, 0, none⟩), .int .i64 n] w fun e w' => e = .returned (.iface 25 (.int .i64 4)) ∧ w = w' := by
  subst en
  exact var_full base p k v L w h hn hl
theorem int_bad (n : Int) (a : Option Addr) (w : World) (hn : n < -1152921504606846976 ∨ 1152921504606846976 < n) : Calls Tryd.prog 31 #[.pointer a, .int .i64 n] w fun e w' => e = .returned (.iface 25 (.int .i64 2)) ∧ w = w' := by
  rcases hn with h | h
  · go_enter Tryd.func31, Tryd.ntmps31
    go_wp2
    go_ret
    exact ⟨rfl, rfl⟩
  · have h' : ¬ n < -1152921504606846976 := by omega
    go_enter Tryd.func31, Tryd.ntmps31
    go_wp2
    go_ret
    exact ⟨rfl, rfl⟩
theorem int_ok (base p : Nat) (n : Int) (v : Value) (L : List Nat) (w : World) (h : Wr w base p v L) (hb : base ≤ w.heap.size) (h1 : -1152921504606846976 ≤ n) (h2 : n ≤ 1152921504606846976) (hl : L.length + 6 * pieces (zig n) ≤ 32000) :
    Calls Tryd.prog 31 #[.pointer (some ⟨p, 0, none⟩), .int .i64 n] w fun e w' => e = .returned .nilIface ∧ PutPost base p v (L ++ intL n) w w' := by
  have hz := zig_le h1 h2
  have HZ := Lib.hid hz
  clear hz
  have HL := Lib.hid hl
  clear hl
  by_cases h0 : n < 0
  · go_enter Tryd.func31, Tryd.ntmps31
    go_wp2_with fail
    refine (var_i base p (zig n) _ v L _ h hb ?_ (by have := HZ.out; omega) HL.out).mono ?_
    · unfold zig; rw [if_pos h0]; omega
    rintro e w1 ⟨rfl, v2, hW2, hT2⟩
    go_wp2
    go_ret
    exact ⟨rfl, v2, hW2, hT2⟩
  · go_enter Tryd.func31, Tryd.ntmps31
    go_wp2_with fail
    refine (var_i base p (zig n) _ v L _ h hb ?_ (by have := HZ.out; omega) HL.out).mono ?_
    · unfold zig; rw [if_neg (by omega)]; omega
    rintro e w1 ⟨rfl, v2, hW2, hT2⟩
    go_wp2
    go_ret
    exact ⟨rfl, v2, hW2, hT2⟩
theorem int_full (base p : Nat) (n : Int) (v : Value) (L : List Nat) (w : World) (h : Wr w base p v L) (h1 : -1152921504606846976 ≤ n) (h2 : n ≤ 1152921504606846976) (hl : 32000 < L.length + 6 * pieces (zig n)) :
    Calls Tryd.prog 31 #[.pointer (some ⟨p, 0, none⟩), .int .i64 n] w fun e w' => e = .returned (.iface 25 (.int .i64 4)) ∧ w = w' := by
  have hz := zig_le h1 h2
  have HZ := Lib.hid hz
  clear hz
  have HL := Lib.hid hl
  clear hl
  by_cases h0 : n < 0
  · go_enter Tryd.func31, Tryd.ntmps31
    go_wp2_with fail
    refine (var_fi base p (zig n) _ v L _ h ?_ (by have := HZ.out; omega) HL.out).mono ?_
    · unfold zig; rw [if_pos h0]; omega
    rintro e w1 ⟨rfl, rfl⟩
    go_wp2
    go_ret
    exact ⟨rfl, rfl⟩
  · go_enter Tryd.func31, Tryd.ntmps31
    go_wp2_with fail
    refine (var_fi base p (zig n) _ v L _ h ?_ (by have := HZ.out; omega) HL.out).mono ?_
    · unfold zig; rw [if_neg (by omega)]; omega
    rintro e w1 ⟨rfl, rfl⟩
    go_wp2
    go_ret
    exact ⟨rfl, rfl⟩

end Go.Proofs.YtnkinnfpebploaaDoor
