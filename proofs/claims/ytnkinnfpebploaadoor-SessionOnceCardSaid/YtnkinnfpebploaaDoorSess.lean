/- The contracts of package session. Conditions: none. -/
import Derived.Test.YtnkinnfpebploaaDoorMod
import Derived.Test.YtnkinnfpebploaaDoorLift
import Derived.Test.YtnkinnfpebploaaDoorBitsM
import Derived.Test.YtnkinnfpebploaaDoorGrow
import Derived.Test.YtnkinnfpebploaaDoorErr
import Derived.LoopTactic
import Derived.WalkSpells
import Derived.Lib.Hide
import Derived.BigQuiet
import Derived.Deep.QuietTactic
namespace Go.Proofs.YtnkinnfpebploaaDoor
open Go.ChangeShapes Go.WideShapes Go.ChangeAt Go.RowKit Go.BigFrame
open B
/-- a session -/
structure Sn where
  tok : Int
  most : Int
  each : Int
  left : Int
  newest : Int
  win : Nat
def snCells (s : Sn) : Array Value := #[.int .i64 s.tok, .int .i64 s.most, .int .i64 s.each, .int .i64 s.left, .int .i64 s.newest, .int .u64 (s.win : Int)]
/-- numbers within bounds -/
structure SnOk (s : Sn) : Prop where
  nw : -1 ≤ s.newest ∧ s.newest ≤ 70368744177664
  lf : 0 ≤ s.left ∧ s.left ≤ 1000
  ms : 0 ≤ s.most ∧ s.most ≤ 1000
  ec : 0 ≤ s.each ∧ s.each ≤ 1000
  wn : s.win < 18446744073709551616
/-- 9.1's Take -/
def takeS (s : Sn) (t n : Int) : Int × Sn :=
  if t ≠ s.tok then (5, s)
  else if n < 0 ∨ 70368744177664 < n then (2, s)
  else if 0 ≤ s.newest ∧ 64 ≤ s.newest - n then (10, s)
  else if 0 ≤ s.newest ∧ 0 ≤ s.newest - n ∧ s.win / 2 ^ (s.newest - n).toNat % 2 = 1 then (9, s)
  else if s.left = 0 then (4, s)
  else if s.newest < 0 then (0, { s with left := s.left - 1, newest := n, win := 1 })
  else if 0 ≤ s.newest - n then (0, { s with left := s.left - 1, win := s.win ||| 2 ^ (s.newest - n).toNat })
  else if s.newest - n ≤ -64 then (0, { s with left := s.left - 1, newest := n, win := 1 })
  else (0, { s with left := s.left - 1, newest := n, win := (s.win * 2 ^ (n - s.newest).toNat % 18446744073709551616) ||| 1 })
def TakePost (p : Nat) (w : World) (r : Int × Sn) (e : Ending) (w' : World) : Prop := e = .returned (errV r.1) ∧ Blk w' p (snCells r.2) ∧ Mod (· = p) w w'
theorem takePost {p : Nat} {w w' : World} {r r' : Int × Sn} {e : Ending} {v : Value} (h : r = r') (hv : errV r'.1 = v) (he : e = .returned v) (hb : Blk w' p (snCells r'.2)) (hm : Mod (· = p) w w') : TakePost p w r e w' := by
  subst h hv
  exact ⟨he, hb, hm⟩

set_option maxHeartbeats 1000000 in
theorem take_5 (p : Nat) (s : Sn) (t n : Int) (w : World) (hB : Blk w p (snCells s)) (hs : SnOk s) (_hn0 : -9223372036854775808 ≤ n) (_hn1 : n ≤ 9223372036854775807) (ht : t ≠ s.tok) : Calls Tryd.prog 22 #[.pointer (some ⟨p, 0, none⟩), .int .i64 t, .int .i64 n] w (TakePost p w (takeS s t n)) := by
  have htk : takeS s t n = (5, s) := by
    unfold takeS
    rw [if_pos ht]
  have HTK := Lib.hid htk
  clear htk
  obtain ⟨tok, most, each, left, newest, win⟩ := s
  obtain ⟨⟨nw0, nw1⟩, ⟨lf0, lf1⟩, ⟨ms0, ms1⟩, ⟨ec0, ec1⟩, wn⟩ := hs
  simp only at *
  obtain ⟨z0, c0, f0⟩ := id hB
  have k0 : w.cell? ⟨p, 0, none⟩ = some (.int .i64 tok) := c0 0
  have k3 : w.cell? ⟨p, 3, none⟩ = some (.int .i64 left) := c0 3
  have k4 : w.cell? ⟨p, 4, none⟩ = some (.int .i64 newest) := c0 4
  have k5 : w.cell? ⟨p, 5, none⟩ = some (.int .u64 (win : Int)) := c0 5
  have WN : Hid (win < 18446744073709551616) := Lib.hid wn
  clear c0 wn
  have ht' : (t != tok) = true := by simpa using ht
  go_enter Tryd.func22, Tryd.ntmps22
  go_wp2
  go_ret
  exact takePost HTK.out (errV_n (n := 5) (by decide)) rfl hB (Mod.refl _ _)

set_option maxHeartbeats 1000000 in
theorem take_2a (p : Nat) (s : Sn) (n : Int) (w : World) (hB : Blk w p (snCells s)) (hs : SnOk s) (_hn0 : -9223372036854775808 ≤ n) (_hn1 : n ≤ 9223372036854775807) (h1 : n < 0) : Calls Tryd.prog 22 #[.pointer (some ⟨p, 0, none⟩), .int .i64 s.tok, .int .i64 n] w (TakePost p w (takeS s s.tok n)) := by
  have htk : takeS s s.tok n = (2, s) := by
    unfold takeS
    rw [if_neg (by simp), if_pos (.inl h1)]
  have HTK := Lib.hid htk
  clear htk
  obtain ⟨tok, most, each, left, newest, win⟩ := s
  obtain ⟨⟨nw0, nw1⟩, ⟨lf0, lf1⟩, ⟨ms0, ms1⟩, ⟨ec0, ec1⟩, wn⟩ := hs
  simp only at *
  obtain ⟨z0, c0, f0⟩ := id hB
  have k0 : w.cell? ⟨p, 0, none⟩ = some (.int .i64 tok) := c0 0
  have k3 : w.cell? ⟨p, 3, none⟩ = some (.int .i64 left) := c0 3
  have k4 : w.cell? ⟨p, 4, none⟩ = some (.int .i64 newest) := c0 4
  have k5 : w.cell? ⟨p, 5, none⟩ = some (.int .u64 (win : Int)) := c0 5
  have WN : Hid (win < 18446744073709551616) := Lib.hid wn
  clear c0 wn
  go_enter Tryd.func22, Tryd.ntmps22
  go_wp2
  go_ret
  exact takePost HTK.out (errV_n (n := 2) (by decide)) rfl hB (Mod.refl _ _)

set_option maxHeartbeats 1000000 in
theorem take_2b (p : Nat) (s : Sn) (n : Int) (w : World) (hB : Blk w p (snCells s)) (hs : SnOk s) (_hn0 : -9223372036854775808 ≤ n) (_hn1 : n ≤ 9223372036854775807) (h1 : 70368744177664 < n) : Calls Tryd.prog 22 #[.pointer (some ⟨p, 0, none⟩), .int .i64 s.tok, .int .i64 n] w (TakePost p w (takeS s s.tok n)) := by
  have htk : takeS s s.tok n = (2, s) := by
    unfold takeS
    rw [if_neg (by simp), if_pos (.inr h1)]
  have HTK := Lib.hid htk
  clear htk
  obtain ⟨tok, most, each, left, newest, win⟩ := s
  obtain ⟨⟨nw0, nw1⟩, ⟨lf0, lf1⟩, ⟨ms0, ms1⟩, ⟨ec0, ec1⟩, wn⟩ := hs
  simp only at *
  obtain ⟨z0, c0, f0⟩ := id hB
  have k0 : w.cell? ⟨p, 0, none⟩ = some (.int .i64 tok) := c0 0
  have k3 : w.cell? ⟨p, 3, none⟩ = some (.int .i64 left) := c0 3
  have k4 : w.cell? ⟨p, 4, none⟩ = some (.int .i64 newest) := c0 4
  have k5 : w.cell? ⟨p, 5, none⟩ = some (.int .u64 (win : Int)) := c0 5
  have WN : Hid (win < 18446744073709551616) := Lib.hid wn
  clear c0 wn
  have h1' : ¬ n < 0 := by omega
  go_enter Tryd.func22, Tryd.ntmps22
  go_wp2
  go_ret
  exact takePost HTK.out (errV_n (n := 2) (by decide)) rfl hB (Mod.refl _ _)

set_option maxHeartbeats 1000000 in
theorem take_10 (p : Nat) (s : Sn) (n : Int) (w : World) (hB : Blk w p (snCells s)) (hs : SnOk s) (_hn0 : -9223372036854775808 ≤ n) (_hn1 : n ≤ 9223372036854775807) (h1 : 0 ≤ n) (h2 : n ≤ 70368744177664) (h3 : 0 ≤ s.newest) (h4 : 64 ≤ s.newest - n) : Calls Tryd.prog 22 #[.pointer (some ⟨p, 0, none⟩), .int .i64 s.tok, .int .i64 n] w (TakePost p w (takeS s s.tok n)) := by
  have htk : takeS s s.tok n = (10, s) := by
    unfold takeS
    rw [if_neg (by simp), if_neg (by omega), if_pos ⟨h3, h4⟩]
  have HTK := Lib.hid htk
  clear htk
  obtain ⟨tok, most, each, left, newest, win⟩ := s
  obtain ⟨⟨nw0, nw1⟩, ⟨lf0, lf1⟩, ⟨ms0, ms1⟩, ⟨ec0, ec1⟩, wn⟩ := hs
  simp only at *
  obtain ⟨z0, c0, f0⟩ := id hB
  have k0 : w.cell? ⟨p, 0, none⟩ = some (.int .i64 tok) := c0 0
  have k3 : w.cell? ⟨p, 3, none⟩ = some (.int .i64 left) := c0 3
  have k4 : w.cell? ⟨p, 4, none⟩ = some (.int .i64 newest) := c0 4
  have k5 : w.cell? ⟨p, 5, none⟩ = some (.int .u64 (win : Int)) := c0 5
  have WN : Hid (win < 18446744073709551616) := Lib.hid wn
  clear c0 wn
  have h1' : ¬ n < 0 := by omega
  have h2' : ¬ n > 70368744177664 := by omega
  go_enter Tryd.func22, Tryd.ntmps22
  go_wp2
  go_ret
  exact takePost HTK.out (errV_n (n := 10) (by decide)) rfl hB (Mod.refl _ _)

set_option maxHeartbeats 1000000 in
theorem take_9 (p : Nat) (s : Sn) (n : Int) (w : World) (hB : Blk w p (snCells s)) (hs : SnOk s) (_hn0 : -9223372036854775808 ≤ n) (_hn1 : n ≤ 9223372036854775807) (h1 : 0 ≤ n) (h2 : n ≤ 70368744177664) (h3 : 0 ≤ s.newest) (h4 : s.newest - n < 64) (h5 : 0 ≤ s.newest - n) (h6 : s.win / 2 ^ (s.newest - n).toNat % 2 = 1) : Calls Tryd.prog 22 #[.pointer (some ⟨p, 0, none⟩), .int .i64 s.tok, .int .i64 n] w (TakePost p w (takeS s s.tok n)) := by
  have htk : takeS s s.tok n = (9, s) := by
    unfold takeS
    rw [if_neg (by simp), if_neg (by omega), if_neg (by omega), if_pos ⟨h3, h5, h6⟩]
  have HTK := Lib.hid htk
  clear htk
  obtain ⟨tok, most, each, left, newest, win⟩ := s
  obtain ⟨⟨nw0, nw1⟩, ⟨lf0, lf1⟩, ⟨ms0, ms1⟩, ⟨ec0, ec1⟩, wn⟩ := hs
  simp only at *
  obtain ⟨z0, c0, f0⟩ := id hB
  have k0 : w.cell? ⟨p, 0, none⟩ = some (.int .i64 tok) := c0 0
  have k3 : w.cell? ⟨p, 3, none⟩ = some (.int .i64 left) := c0 3
  have k4 : w.cell? ⟨p, 4, none⟩ = some (.int .i64 newest) := c0 4
  have k5 : w.cell? ⟨p, 5, none⟩ = some (.int .u64 (win : Int)) := c0 5
  have WN : Hid (win < 18446744073709551616) := Lib.hid wn
  clear c0 wn
  have h1' : ¬ n < 0 := by omega
  have h2' : ¬ n > 70368744177664 := by omega
  obtain ⟨d, hd⟩ : ∃ d : Nat, newest - n = d := ⟨(newest - n).toNat, by omega⟩
  have hd63 : d < 64 := by omega
  have hand := and1u win d WN.out
  obtain ⟨b, hb⟩ : ∃ b, b = win / 2 ^ d % 2 := ⟨_, rfl⟩
  rw [← hb] at hand
  rw [hd] at h4 h5
  have hb1 : b = 1 := by rw [hd] at h6; simpa [hb] using h6
  subst hb1
  clear hb h6
  go_enter Tryd.func22, Tryd.ntmps22
  go_wp2
  go_ret
  exact takePost HTK.out (errV_n (n := 9) (by decide)) rfl hB (Mod.refl _ _)

set_option maxHeartbeats 1000000 in
theorem take_4a (p : Nat) (s : Sn) (n : Int) (w : World) (hB : Blk w p (snCells s)) (hs : SnOk s) (_hn0 : -9223372036854775808 ≤ n) (_hn1 : n ≤ 9223372036854775807) (h1 : 0 ≤ n) (h2 : n ≤ 70368744177664) (h3 : s.newest < 0) (h7 : s.left = 0) : Calls Tryd.prog 22 #[.pointer (some ⟨p, 0, none⟩), .int .i64 s.tok, .int .i64 n] w (TakePost p w (takeS s s.tok n)) := by
  have htk : takeS s s.tok n = (4, s) := by
    unfold takeS
    rw [if_neg (by simp), if_neg (by omega), if_neg (by omega), if_neg (by omega), if_pos h7]
  have HTK := Lib.hid htk
  clear htk
  obtain ⟨tok, most, each, left, newest, win⟩ := s
  obtain ⟨⟨nw0, nw1⟩, ⟨lf0, lf1⟩, ⟨ms0, ms1⟩, ⟨ec0, ec1⟩, wn⟩ := hs
  simp only at *
  obtain ⟨z0, c0, f0⟩ := id hB
  have k0 : w.cell? ⟨p, 0, none⟩ = some (.int .i64 tok) := c0 0
  have k3 : w.cell? ⟨p, 3, none⟩ = some (.int .i64 left) := c0 3
  have k4 : w.cell? ⟨p, 4, none⟩ = some (.int .i64 newest) := c0 4
  have k5 : w.cell? ⟨p, 5, none⟩ = some (.int .u64 (win : Int)) := c0 5
  have WN : Hid (win < 18446744073709551616) := Lib.hid wn
  clear c0 wn
  have h1' : ¬ n < 0 := by omega
  have h2' : ¬ n > 70368744177664 := by omega
  have h3' : ¬ newest ≥ 0 := by omega
  subst h7
  go_enter Tryd.func22, Tryd.ntmps22
  go_wp2
  go_ret
  exact takePost HTK.out (errV_n (n := 4) (by decide)) rfl hB (Mod.refl _ _)

set_option maxHeartbeats 1000000 in
theorem take_4b (p : Nat) (s : Sn) (n : Int) (w : World) (hB : Blk w p (snCells s)) (hs : SnOk s) (_hn0 : -9223372036854775808 ≤ n) (_hn1 : n ≤ 9223372036854775807) (h1 : 0 ≤ n) (h2 : n ≤ 70368744177664) (h3 : 0 ≤ s.newest) (h5 : s.newest - n < 0) (h7 : s.left = 0) : Calls Tryd.prog 22 #[.pointer (some ⟨p, 0, none⟩), .int .i64 s.tok, .int .i64 n] w (TakePost p w (takeS s s.tok n)) := by
  have htk : takeS s s.tok n = (4, s) := by
    unfold takeS
    rw [if_neg (by simp), if_neg (by omega), if_neg (by omega), if_neg (by omega), if_pos h7]
  have HTK := Lib.hid htk
  clear htk
  obtain ⟨tok, most, each, left, newest, win⟩ := s
  obtain ⟨⟨nw0, nw1⟩, ⟨lf0, lf1⟩, ⟨ms0, ms1⟩, ⟨ec0, ec1⟩, wn⟩ := hs
  simp only at *
  obtain ⟨z0, c0, f0⟩ := id hB
  have k0 : w.cell? ⟨p, 0, none⟩ = some (.int .i64 tok) := c0 0
  have k3 : w.cell? ⟨p, 3, none⟩ = some (.int .i64 left) := c0 3
  have k4 : w.cell? ⟨p, 4, none⟩ = some (.int .i64 newest) := c0 4
  have k5 : w.cell? ⟨p, 5, none⟩ = some (.int .u64 (win : Int)) := c0 5
  have WN : Hid (win < 18446744073709551616) := Lib.hid wn
  clear c0 wn
  have h1' : ¬ n < 0 := by omega
  have h2' : ¬ n > 70368744177664 := by omega
  have h5' : ¬ newest - n ≥ 64 := by omega
  have h5'' : ¬ newest - n ≥ 0 := by omega
  subst h7
  go_enter Tryd.func22, Tryd.ntmps22
  go_wp2
  go_ret
  exact takePost HTK.out (errV_n (n := 4) (by decide)) rfl hB (Mod.refl _ _)

set_option maxHeartbeats 1000000 in
theorem take_4c (p : Nat) (s : Sn) (n : Int) (w : World) (hB : Blk w p (snCells s)) (hs : SnOk s) (_hn0 : -9223372036854775808 ≤ n) (_hn1 : n ≤ 9223372036854775807) (h1 : 0 ≤ n) (h2 : n ≤ 70368744177664) (h3 : 0 ≤ s.newest) (h4 : s.newest - n < 64) (h5 : 0 ≤ s.newest - n) (h6 : ¬ s.win / 2 ^ (s.newest - n).toNat % 2 = 1) (h7 : s.left = 0) : Calls Tryd.prog 22 #[.pointer (some ⟨p, 0, none⟩), .int .i64 s.tok, .int .i64 n] w (TakePost p w (takeS s s.tok n)) := by
  have htk : takeS s s.tok n = (4, s) := by
    unfold takeS
    rw [if_neg (by simp), if_neg (by omega), if_neg (by omega), if_neg (fun h => h6 h.2.2), if_pos h7]
  have HTK := Lib.hid htk
  clear htk
  obtain ⟨tok, most, each, left, newest, win⟩ := s
  obtain ⟨⟨nw0, nw1⟩, ⟨lf0, lf1⟩, ⟨ms0, ms1⟩, ⟨ec0, ec1⟩, wn⟩ := hs
  simp only at *
  obtain ⟨z0, c0, f0⟩ := id hB
  have k0 : w.cell? ⟨p, 0, none⟩ = some (.int .i64 tok) := c0 0
  have k3 : w.cell? ⟨p, 3, none⟩ = some (.int .i64 left) := c0 3
  have k4 : w.cell? ⟨p, 4, none⟩ = some (.int .i64 newest) := c0 4
  have k5 : w.cell? ⟨p, 5, none⟩ = some (.int .u64 (win : Int)) := c0 5
  have WN : Hid (win < 18446744073709551616) := Lib.hid wn
  clear c0 wn
  have h1' : ¬ n < 0 := by omega
  have h2' : ¬ n > 70368744177664 := by omega
  obtain ⟨d, hd⟩ : ∃ d : Nat, newest - n = d := ⟨(newest - n).toNat, by omega⟩
  have hd63 : d < 64 := by omega
  have hand := and1u win d WN.out
  obtain ⟨b, hb⟩ : ∃ b, b = win / 2 ^ d % 2 := ⟨_, rfl⟩
  rw [← hb] at hand
  rw [hd] at h4 h5
  have hb0 : b = 0 := by rw [hd] at h6; have := Nat.mod_lt (win / 2 ^ d) (show 2 > 0 by omega); simp at h6; omega
  subst hb0
  clear hb h6
  subst h7
  go_enter Tryd.func22, Tryd.ntmps22
  go_wp2
  go_ret
  exact takePost HTK.out (errV_n (n := 4) (by decide)) rfl hB (Mod.refl _ _)

set_option maxHeartbeats 1000000 in
theorem take_0a (p : Nat) (s : Sn) (n : Int) (w : World) (hB : Blk w p (snCells s)) (hs : SnOk s) (_hn0 : -9223372036854775808 ≤ n) (_hn1 : n ≤ 9223372036854775807) (h1 : 0 ≤ n) (h2 : n ≤ 70368744177664) (h3 : s.newest < 0) (h7 : ¬ s.left = 0) : Calls Tryd.prog 22 #[.pointer (some ⟨p, 0, none⟩), .int .i64 s.tok, .int .i64 n] w (TakePost p w (takeS s s.tok n)) := by
  have htk : takeS s s.tok n = (0, { s with left := s.left - 1, newest := n, win := 1 }) := by
    unfold takeS
    rw [if_neg (by simp), if_neg (by omega), if_neg (by omega), if_neg (by omega), if_neg h7, if_pos h3]
  have HTK := Lib.hid htk
  clear htk
  obtain ⟨tok, most, each, left, newest, win⟩ := s
  obtain ⟨⟨nw0, nw1⟩, ⟨lf0, lf1⟩, ⟨ms0, ms1⟩, ⟨ec0, ec1⟩, wn⟩ := hs
  simp only at *
  obtain ⟨z0, c0, f0⟩ := id hB
  have k0 : w.cell? ⟨p, 0, none⟩ = some (.int .i64 tok) := c0 0
  have k3 : w.cell? ⟨p, 3, none⟩ = some (.int .i64 left) := c0 3
  have k4 : w.cell? ⟨p, 4, none⟩ = some (.int .i64 newest) := c0 4
  have k5 : w.cell? ⟨p, 5, none⟩ = some (.int .u64 (win : Int)) := c0 5
  have WN : Hid (win < 18446744073709551616) := Lib.hid wn
  clear c0 wn
  have h1' : ¬ n < 0 := by omega
  have h2' : ¬ n > 70368744177664 := by omega
  have h3' : ¬ newest ≥ 0 := by omega
  have h7' : (left == 0) = false := by simpa using h7
  have h7'' : 1 ≤ left := by omega
  clear h7
  go_enter Tryd.func22, Tryd.ntmps22
  go_wp2
  go_ret
  refine takePost HTK.out rfl rfl ?_ ?_
  · exact (((hB.put (i := 3)).put (i := 4)).put (i := 5))
  · repeat (first | exact Mod.refl _ _ | (refine Mod.set ?_ (.inl rfl)))

set_option maxHeartbeats 1000000 in
theorem take_0c (p : Nat) (s : Sn) (n : Int) (w : World) (hB : Blk w p (snCells s)) (hs : SnOk s) (_hn0 : -9223372036854775808 ≤ n) (_hn1 : n ≤ 9223372036854775807) (h1 : 0 ≤ n) (h2 : n ≤ 70368744177664) (h3 : 0 ≤ s.newest) (h4 : s.newest - n < 64) (h5 : 0 ≤ s.newest - n) (h6 : ¬ s.win / 2 ^ (s.newest - n).toNat % 2 = 1) (h7 : ¬ s.left = 0) : Calls Tryd.prog 22 #[.pointer (some ⟨p, 0, none⟩), .int .i64 s.tok, .int .i64 n] w (TakePost p w (takeS s s.tok n)) := by
  have htk : takeS s s.tok n = (0, { s with left := s.left - 1, win := s.win ||| 2 ^ (s.newest - n).toNat }) := by
    unfold takeS
    rw [if_neg (by simp), if_neg (by omega), if_neg (by omega), if_neg (fun h => h6 h.2.2), if_neg h7, if_neg (by omega), if_pos h5]
  have HTK := Lib.hid htk
  clear htk
  obtain ⟨tok, most, each, left, newest, win⟩ := s
  obtain ⟨⟨nw0, nw1⟩, ⟨lf0, lf1⟩, ⟨ms0, ms1⟩, ⟨ec0, ec1⟩, wn⟩ := hs
  simp only at *
  obtain ⟨z0, c0, f0⟩ := id hB
  have k0 : w.cell? ⟨p, 0, none⟩ = some (.int .i64 tok) := c0 0
  have k3 : w.cell? ⟨p, 3, none⟩ = some (.int .i64 left) := c0 3
  have k4 : w.cell? ⟨p, 4, none⟩ = some (.int .i64 newest) := c0 4
  have k5 : w.cell? ⟨p, 5, none⟩ = some (.int .u64 (win : Int)) := c0 5
  have WN : Hid (win < 18446744073709551616) := Lib.hid wn
  clear c0 wn
  have h1' : ¬ n < 0 := by omega
  have h2' : ¬ n > 70368744177664 := by omega
  obtain ⟨d, hd⟩ : ∃ d : Nat, newest - n = d := ⟨(newest - n).toNat, by omega⟩
  have hd63 : d < 64 := by omega
  have hand := and1u win d WN.out
  obtain ⟨b, hb⟩ : ∃ b, b = win / 2 ^ d % 2 := ⟨_, rfl⟩
  rw [← hb] at hand
  rw [hd] at h4 h5
  have hb0 : b = 0 := by rw [hd] at h6; have := Nat.mod_lt (win / 2 ^ d) (show 2 > 0 by omega); simp at h6; omega
  subst hb0
  clear hb h6
  have h7' : (left == 0) = false := by simpa using h7
  have h7'' : 1 ≤ left := by omega
  clear h7
  have h3' : ¬ newest < 0 := by omega
  go_enter Tryd.func22, Tryd.ntmps22
  go_wp2
  refine wp_fresh ?_
  intro w1 hb1
  have hB1 : Blk w1 p #[.int .i64 tok, .int .i64 most, .int .i64 each, .int .i64 (left - 1), .int .i64 newest, .int .u64 (win : Int)] := (hB.put (i := 3)).below hb1
  have hM1 : Mod (· = p) w w1 := (Mod.set (S := (· = p)) (Mod.refl _ w) (.inl rfl)).below hb1
  obtain ⟨z1, c1, f1⟩ := id hB1
  have j5 : w1.cell? ⟨p, 5, none⟩ = some (.int .u64 (win : Int)) := c1 5
  clear c1 hb1 k0 k3 k4 k5 f0 z0
  have hmc := more_cell
  have hmf := more_frozen
  have hml := more_lt
  refine region_quiet_but 9 (by kernel_rfl) (by kernel_rfl) ?_
  simp only [List.take_succ_cons, List.take_zero, List.drop_succ_cons, List.drop_zero]
  repeat (go_big_quiet_step (fail))
  refine wpQuiet_nil ?_
  rintro w2 hw2
  have hb2 := after_below hw2
  clear hw2
  have z2 := Nat.lt_of_lt_of_le z1 hb2.size
  have j52 := (hb2.cell (p := ⟨p, 5, none⟩) z1).trans j5
  have f2 := fun o => (hb2.frozen (p := ⟨p, o, none⟩) z1).trans (f1 o)
  go_wp2
  go_ret
  have hp2 : 2 ^ d ≤ 2 ^ 63 := Nat.pow_le_pow_right (by omega) (by omega)
  have e1 : IntKind.u64.wrap ((2 : Int) ^ d) = ((2 ^ d : Nat) : Int) := by
    have : (2 : Int) ^ d = ((2 ^ d : Nat) : Int) := by simp
    rw [IntKind.wrap_u64, this]
    generalize 2 ^ d = q at *
    omega
  have e2 : bits BinOp.or IntKind.u64 (win : Int) (IntKind.u64.wrap ((2 : Int) ^ d)) = ((win ||| 2 ^ d : Nat) : Int) := by
    rw [e1]
    exact u64_or_nat win (2 ^ d) WN.out (by omega)
  have e3 : (newest - n).toNat = d := by omega
  refine takePost HTK.out rfl rfl ?_ ?_
  · rw [e2, e3]
    exact (hB1.below hb2).put (i := 5)
  · exact (hM1.below hb2).set (.inl rfl)

set_option maxHeartbeats 1000000 in
theorem take_0b1 (p : Nat) (s : Sn) (n : Int) (w : World) (hB : Blk w p (snCells s)) (hs : SnOk s) (_hn0 : -9223372036854775808 ≤ n) (_hn1 : n ≤ 9223372036854775807) (h1 : 0 ≤ n) (h2 : n ≤ 70368744177664) (h3 : 0 ≤ s.newest) (h5 : s.newest - n ≤ -64) (h7 : ¬ s.left = 0) : Calls Tryd.prog 22 #[.pointer (some ⟨p, 0, none⟩), .int .i64 s.tok, .int .i64 n] w (TakePost p w (takeS s s.tok n)) := by
  have htk : takeS s s.tok n = (0, { s with left := s.left - 1, newest := n, win := 1 }) := by
    unfold takeS
    rw [if_neg (by simp), if_neg (by omega), if_neg (by omega), if_neg (by omega), if_neg h7, if_neg (by omega), if_neg (by omega), if_pos h5]
  have HTK := Lib.hid htk
  clear htk
  obtain ⟨tok, most, each, left, newest, win⟩ := s
  obtain ⟨⟨nw0, nw1⟩, ⟨lf0, lf1⟩, ⟨ms0, ms1⟩, ⟨ec0, ec1⟩, wn⟩ := hs
  simp only at *
  obtain ⟨z0, c0, f0⟩ := id hB
  have k0 : w.cell? ⟨p, 0, none⟩ = some (.int .i64 tok) := c0 0
  have k3 : w.cell? ⟨p, 3, none⟩ = some (.int .i64 left) := c0 3
  have k4 : w.cell? ⟨p, 4, none⟩ = some (.int .i64 newest) := c0 4
  have k5 : w.cell? ⟨p, 5, none⟩ = some (.int .u64 (win : Int)) := c0 5
  have WN : Hid (win < 18446744073709551616) := Lib.hid wn
  clear c0 wn
  have h1' : ¬ n < 0 := by omega
  have h2' : ¬ n > 70368744177664 := by omega
  have h5' : ¬ newest - n ≥ 64 := by omega
  have h5'' : ¬ newest - n ≥ 0 := by omega
  have h3' : ¬ newest < 0 := by omega
  have h7' : (left == 0) = false := by simpa using h7
  have h7'' : 1 ≤ left := by omega
  clear h7
  go_enter Tryd.func22, Tryd.ntmps22
  go_wp2
  go_ret
  refine takePost HTK.out rfl rfl ?_ ?_
  · have e1 : bits BinOp.or IntKind.u64 0 1 = (1 : Int) := u64_or_nat 0 1 (by omega) (by omega)
    rw [e1]
    exact ((((hB.put (i := 3)).put (i := 5)).put (i := 5)).put (i := 4))
  · repeat (first | exact Mod.refl _ _ | (refine Mod.set ?_ (.inl rfl)))

set_option maxHeartbeats 1000000 in
theorem take_0b2 (p : Nat) (s : Sn) (n : Int) (w : World) (hB : Blk w p (snCells s)) (hs : SnOk s) (_hn0 : -9223372036854775808 ≤ n) (_hn1 : n ≤ 9223372036854775807) (h1 : 0 ≤ n) (h2 : n ≤ 70368744177664) (h3 : 0 ≤ s.newest) (h5 : s.newest - n < 0) (h8 : -64 < s.newest - n) (h7 : ¬ s.left = 0) : Calls Tryd.prog 22 #[.pointer (some ⟨p, 0, none⟩), .int .i64 s.tok, .int .i64 n] w (TakePost p w (takeS s s.tok n)) := by
  have htk : takeS s s.tok n = (0, { s with left := s.left - 1, newest := n, win := (s.win * 2 ^ (n - s.newest).toNat % 18446744073709551616) ||| 1 }) := by
    unfold takeS
    rw [if_neg (by simp), if_neg (by omega), if_neg (by omega), if_neg (by omega), if_neg h7, if_neg (by omega), if_neg (by omega), if_neg (by omega)]
  have HTK := Lib.hid htk
  clear htk
  obtain ⟨tok, most, each, left, newest, win⟩ := s
  obtain ⟨⟨nw0, nw1⟩, ⟨lf0, lf1⟩, ⟨ms0, ms1⟩, ⟨ec0, ec1⟩, wn⟩ := hs
  simp only at *
  obtain ⟨z0, c0, f0⟩ := id hB
  have k0 : w.cell? ⟨p, 0, none⟩ = some (.int .i64 tok) := c0 0
  have k3 : w.cell? ⟨p, 3, none⟩ = some (.int .i64 left) := c0 3
  have k4 : w.cell? ⟨p, 4, none⟩ = some (.int .i64 newest) := c0 4
  have k5 : w.cell? ⟨p, 5, none⟩ = some (.int .u64 (win : Int)) := c0 5
  have WN : Hid (win < 18446744073709551616) := Lib.hid wn
  clear c0 wn
  have h1' : ¬ n < 0 := by omega
  have h2' : ¬ n > 70368744177664 := by omega
  have h5' : ¬ newest - n ≥ 64 := by omega
  have h5'' : ¬ newest - n ≥ 0 := by omega
  have h3' : ¬ newest < 0 := by omega
  obtain ⟨d, hd⟩ : ∃ d : Nat, -(newest - n) = d := ⟨(-(newest - n)).toNat, by omega⟩
  have h7' : (left == 0) = false := by simpa using h7
  have h7'' : 1 ≤ left := by omega
  clear h7
  go_enter Tryd.func22, Tryd.ntmps22
  go_wp2
  go_ret
  refine takePost HTK.out rfl rfl ?_ ?_
  · have e1 : IntKind.u64.wrap ((win : Int) * 2 ^ d) = ((win * 2 ^ d % 18446744073709551616 : Nat) : Int) := by
      rw [IntKind.wrap_u64]
      have : (win : Int) * 2 ^ d = ((win * 2 ^ d : Nat) : Int) := by simp
      rw [this]
      omega
    have e2 : bits BinOp.or IntKind.u64 (IntKind.u64.wrap ((win : Int) * 2 ^ d)) 1 = (((win * 2 ^ d % 18446744073709551616) ||| 1 : Nat) : Int) := by
      rw [e1]
      exact u64_or_nat _ 1 (by omega) (by omega)
    have e3 : (n - newest).toNat = d := by omega
    rw [e2, e3]
    exact ((((hB.put (i := 3)).put (i := 5)).put (i := 5)).put (i := 4))
  · repeat (first | exact Mod.refl _ _ | (refine Mod.set ?_ (.inl rfl)))

theorem take_c (p : Nat) (s : Sn) (t n : Int) (w : World) (hB : Blk w p (snCells s)) (hs : SnOk s) (hn0 : -9223372036854775808 ≤ n) (hn1 : n ≤ 9223372036854775807) : Calls Tryd.prog 22 #[.pointer (some ⟨p, 0, none⟩), .int .i64 t, .int .i64 n] w (TakePost p w (takeS s t n)) := by
  by_cases ht : t = s.tok
  · subst ht
    by_cases h1 : n < 0
    · exact take_2a p s n w hB hs hn0 hn1 h1
    by_cases h2 : 70368744177664 < n
    · exact take_2b p s n w hB hs hn0 hn1 h2
    by_cases h3 : s.newest < 0
    · by_cases h7 : s.left = 0
      · exact take_4a p s n w hB hs hn0 hn1 (by omega) (by omega) h3 h7
      · exact take_0a p s n w hB hs hn0 hn1 (by omega) (by omega) h3 h7
    · by_cases h4 : 64 ≤ s.newest - n
      · exact take_10 p s n w hB hs hn0 hn1 (by omega) (by omega) (by omega) h4
      by_cases h5 : 0 ≤ s.newest - n
      · by_cases h6 : s.win / 2 ^ (s.newest - n).toNat % 2 = 1
        · exact take_9 p s n w hB hs hn0 hn1 (by omega) (by omega) (by omega) (by omega) h5 h6
        · by_cases h7 : s.left = 0
          · exact take_4c p s n w hB hs hn0 hn1 (by omega) (by omega) (by omega) (by omega) h5 h6 h7
          · exact take_0c p s n w hB hs hn0 hn1 (by omega) (by omega) (by omega) (by omega) h5 h6 h7
      · by_cases h7 : s.left = 0
        · exact take_4b p s n w hB hs hn0 hn1 (by omega) (by omega) (by omega) (by omega) h7
        · by_cases h8 : s.newest - n ≤ -64
          · exact take_0b1 p s n w hB hs hn0 hn1 (by omega) (by omega) (by omega) h8 h7
          · exact take_0b2 p s n w hB hs hn0 hn1 (by omega) (by omega) (by omega) (by omega) (by omega) h7
  · exact take_5 p s t n w hB hs hn0 hn1 ht
theorem sess_left_c (p : Nat) (s : Sn) (w : World) (hB : Blk w p (snCells s)) : Calls Tryd.prog 23 #[.pointer (some ⟨p, 0, none⟩)] w fun e w' => e = .returned (.int .i64 s.left) ∧ w = w' := by
  obtain ⟨z0, c0, f0⟩ := id hB
  have k3 : w.cell? ⟨p, 3, none⟩ = some (.int .i64 s.left) := c0 3
  clear c0
  go_enter Tryd.func23, Tryd.ntmps23
  go_wp2
  go_ret
  exact ⟨rfl, rfl⟩
theorem sess_new_c (tok most each : Int) (w : World) (h1 : 0 ≤ tok) (h2 : tok ≤ 70368744177664) (h3 : 0 ≤ most) (h4 : most ≤ 1000) (h5 : 0 ≤ each) (h6 : each ≤ 1000) : Calls Tryd.prog 19 #[.int .i64 tok, .agg #[.int .i64 most, .int .i64 each]] w fun e w' =>
    e = .returned (.tuple #[.pointer (some ⟨w.heap.size + 1, 0, none⟩), .nilIface]) ∧ Blk w' (w.heap.size + 1) (snCells ⟨tok, most, each, most, -1, 0⟩) ∧ Below w.heap.size w w' := by
  go_enter Tryd.func19, Tryd.ntmps19
  go_wp2
  go_ret2
  exact ⟨rfl, Blk.at _ _ _ _ (by simp), ((Below.refl _ _).alloc (Nat.le_refl _) _).alloc (by simp) _⟩
def tickS (s : Sn) : Sn := { s with left := if s.most < s.left + s.each then s.most else s.left + s.each }
theorem Blk.eq {w : World} {b : Nat} {cs cs' : Array Value} (h : Blk w b cs) (e : cs = cs') : Blk w b cs' := e ▸ h
theorem tick_c (p : Nat) (s : Sn) (w : World) (hB : Blk w p (snCells s)) (hs : SnOk s) : Calls Tryd.prog 21 #[.pointer (some ⟨p, 0, none⟩)] w fun e w' => e = .returned (.tuple #[]) ∧ Blk w' p (snCells (tickS s)) ∧ Mod (· = p) w w' := by
  obtain ⟨tok, most, each, left, newest, win⟩ := s
  obtain ⟨⟨nw0, nw1⟩, ⟨lf0, lf1⟩, ⟨ms0, ms1⟩, ⟨ec0, ec1⟩, wn⟩ := hs
  simp only at *
  obtain ⟨z0, c0, f0⟩ := id hB
  have k1 : w.cell? ⟨p, 1, none⟩ = some (.int .i64 most) := c0 1
  have k2 : w.cell? ⟨p, 2, none⟩ = some (.int .i64 each) := c0 2
  have k3 : w.cell? ⟨p, 3, none⟩ = some (.int .i64 left) := c0 3
  clear c0 wn
  have hmc := more_cell
  have hmf := more_frozen
  have hml := more_lt
  go_enter Tryd.func21, Tryd.ntmps21
  refine region_quiet_but 17 (by kernel_rfl) (by kernel_rfl) ?_
  simp only [List.take_succ_cons, List.take_zero, List.drop_succ_cons, List.drop_zero]
  by_cases hm : most < left + each
  all_goals
    repeat (go_big_quiet_step (fail))
    refine wpQuiet_nil ?_
    rintro w2 hw2
    have hb2 := after_below hw2
    clear hw2
    have z2 := Nat.lt_of_lt_of_le z0 hb2.size
    have j3 := (hb2.cell (p := ⟨p, 3, none⟩) z0).trans k3
    have f2 := fun o => (hb2.frozen (p := ⟨p, o, none⟩) z0).trans (f0 o)
    go_wp2
    all_goals
      go_end0
      refine ⟨rfl, ?_, Mod.set (S := (· = p)) (Mod.of_below hb2) (.inl rfl)⟩
      unfold tickS
      simp only
      first
        | (rw [if_pos (by omega)]; exact (hB.below hb2).put (i := 3))
        | (rw [if_neg (by omega)]; exact (hB.below hb2).put (i := 3))
        | (rw [if_pos (by omega)]; refine Blk.eq ((hB.below hb2).put (i := 3)) ?_; simp [snCells]; omega)
        | (rw [if_neg (by omega)]; refine Blk.eq ((hB.below hb2).put (i := 3)) ?_; simp [snCells]; omega)

end Go.Proofs.YtnkinnfpebploaaDoor
