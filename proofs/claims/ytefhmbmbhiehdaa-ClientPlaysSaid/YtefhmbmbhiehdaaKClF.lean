/- The document's client: what its pieces are, in memory and plainly. Conditions: none. -/
import Derived.Test.YtefhmbmbhiehdaaKTold
import Derived.Test.YtefhmbmbhiehdaaKRtold
import Derived.Lib.AppendZeros
import Derived.Test.YtefhmbmbhiehdaaKClA
import Derived.Test.YtefhmbmbhiehdaaKSnap10
import Derived.Test.YtefhmbmbhiehdaaKSnap11
import Derived.Test.YtefhmbmbhiehdaaKClB
import Derived.WalkSpells
namespace Go.Proofs.Ytefhmbmbhiehdaa
open Go.ChangeShapes Go.WideShapes Go.ChangeAt Go.RowKit Go.BigFrame
open B
/-- a piece: the step, the base, the index, how many, the bytes -/
structure Pce where
  st : Nat
  ba : Nat
  ix : Nat
  ma : Nat
  l : List Nat
/-- bytes b tell p -/
def ToldP (b : List Nat) (p : Pce) : Prop := ∃ (n1 n2 n3 n4 n5 : Nat) (e1 e2 e3 e4 e5 : Int) (a1 a2 a3 a4 a5 : Nat), Pt (openL b) n1 n2 n3 n4 n5 e1 e2 e3 e4 e5 a1 a2 a3 a4 a5 ∧ GoodT b n1 n2 n3 n4 n5 e1 e2 e3 e4 e5 a5 ∧ p = ⟨n1, n2, n4, n3, byts (openL b) a5 n5⟩
theorem pt_same {T : List Nat} {n1 n2 n3 n4 n5 m1 m2 m3 m4 m5 : Nat} {e1 e2 e3 e4 e5 f1 f2 f3 f4 f5 : Int} {a1 a2 a3 a4 a5 b1 b2 b3 b4 b5 : Nat} (h : Pt T n1 n2 n3 n4 n5 e1 e2 e3 e4 e5 a1 a2 a3 a4 a5) (k : Pt T m1 m2 m3 m4 m5 f1 f2 f3 f4 f5 b1 b2 b3 b4 b5) :
    (n1 = m1 ∧ n2 = m2 ∧ n3 = m3 ∧ n4 = m4 ∧ n5 = m5) ∧ (e1 = f1 ∧ e2 = f2 ∧ e3 = f3 ∧ e4 = f4 ∧ e5 = f5) ∧ a5 = b5 := by
  have q1 := h.h1.symm.trans k.h1
  simp only [Prod.mk.injEq] at q1
  obtain ⟨x1, y1, rfl⟩ := q1
  have q2 := h.h2.symm.trans k.h2
  simp only [Prod.mk.injEq] at q2
  obtain ⟨x2, y2, rfl⟩ := q2
  have q3 := h.h3.symm.trans k.h3
  simp only [Prod.mk.injEq] at q3
  obtain ⟨x3, y3, rfl⟩ := q3
  have q4 := h.h4.symm.trans k.h4
  simp only [Prod.mk.injEq] at q4
  obtain ⟨x4, y4, rfl⟩ := q4
  have q5 := h.h5.symm.trans k.h5
  simp only [Prod.mk.injEq] at q5
  obtain ⟨x5, y5, rfl⟩ := q5
  exact ⟨⟨by omega, by omega, by omega, by omega, by omega⟩, ⟨y1, y2, y3, y4, y5⟩, rfl⟩
theorem toldP_same {b : List Nat} {p q : Pce} (h : ToldP b p) (k : ToldP b q) : p = q := by
  obtain ⟨n1, n2, n3, n4, n5, e1, e2, e3, e4, e5, a1, a2, a3, a4, a5, h1, _, rfl⟩ := h
  obtain ⟨m1, m2, m3, m4, m5, f1, f2, f3, f4, f5, b1, b2, b3, b4, b5, k1, _, rfl⟩ := k
  obtain ⟨⟨rfl, rfl, rfl, rfl, rfl⟩, _, rfl⟩ := pt_same h1 k1
  rfl
/-- a piece may be -/
def Pce.ok (p : Pce) : Prop := (1 ≤ p.st ∧ p.st ≤ 70368744177664 ∧ p.ba < p.st ∧ 1 ≤ p.ma ∧ p.ma ≤ 40 ∧ p.ix < p.ma ∧ p.l.length ≤ 100) ∧ ∀ b ∈ p.l, b < 256
theorem toldP_ok {b : List Nat} {p : Pce} (h : ToldP b p) : p.ok := by
  obtain ⟨n1, n2, n3, n4, n5, e1, e2, e3, e4, e5, a1, a2, a3, a4, a5, h1, ⟨_, _, hr, _⟩, rfl⟩ := h
  unfold RightP at hr
  refine ⟨⟨by simp only; omega, by simp only; omega, by simp only; omega, by simp only; omega, by simp only; omega, by simp only; omega, by simp only; rw [byts_len]; omega⟩, ?_⟩
  intro x hx
  simp only [byts] at hx
  obtain ⟨i, _, rfl⟩ := List.mem_map.1 hx
  exact getV_lt (openL_bin b) _ 8
theorem toldP_no {b : List Nat} {n1 n2 n3 n4 n5 : Nat} {e1 e2 e3 e4 e5 : Int} {a1 a2 a3 a4 a5 : Nat} (h : Pt (openL b) n1 n2 n3 n4 n5 e1 e2 e3 e4 e5 a1 a2 a3 a4 a5) (hg : ¬ GoodT b n1 n2 n3 n4 n5 e1 e2 e3 e4 e5 a5) : ∀ p, ¬ ToldP b p := by
  rintro p ⟨m1, m2, m3, m4, m5, f1, f2, f3, f4, f5, b1, b2, b3, b4, b5, k1, k2, rfl⟩
  obtain ⟨⟨rfl, rfl, rfl, rfl, rfl⟩, ⟨rfl, rfl, rfl, rfl, rfl⟩, rfl⟩ := pt_same h k1
  exact hg k2
/-- what is told: ev: the error, ok: none -/
def PostP (ev ok : Value) (b : List Nat) (w : World) (e : Ending) (w' : World) : Prop :=
  ((∃ (p : Pce) (A : Option Addr) (c : Nat), ToldP b p ∧ e = .returned (.tuple #[.agg #[.int .i64 p.st, .int .i64 p.ba, .int .i64 p.ix, .int .i64 p.ma, .slice A p.l.length c], ok]) ∧ Src w' (.slice A p.l.length c) p.l ∧ ∀ a, A = some a → w.heap.size ≤ a.block) ∨
   ((∀ p, ¬ ToldP b p) ∧ e = .returned (.tuple #[.agg #[.int .i64 0, .int .i64 0, .int .i64 0, .int .i64 0, .slice none 0 0], ev]))) ∧ Below w.heap.size w w'
theorem postP_of {ev ok : Value} {b : List Nat} {n1 n2 n3 n4 n5 : Nat} {e1 e2 e3 e4 e5 : Int} {a1 a2 a3 a4 a5 : Nat} {w w' : World} {e : Ending} (h : Pt (openL b) n1 n2 n3 n4 n5 e1 e2 e3 e4 e5 a1 a2 a3 a4 a5) (k : PostT ev ok b n1 n2 n3 n4 n5 e1 e2 e3 e4 e5 a5 w e w') : PostP ev ok b w e w' := by
  rcases k with ⟨hg, A, c, rfl, hB, hb⟩ | ⟨hg, rfl, hb⟩
  · refine ⟨.inl ⟨⟨n1, n2, n4, n3, byts (openL b) a5 n5⟩, A, c, ⟨n1, n2, n3, n4, n5, e1, e2, e3, e4, e5, a1, a2, a3, a4, a5, h, hg, rfl⟩, ?_, ?_, fun a e => (row_lt hB (show (Value.slice A n5 c).ownBlock = some a.block by rw [e]; rfl)).2⟩, hb⟩
    · simp only [byts_len]
    · have := Src.of_row hB
      simp only [byts_len]
      exact this
  · exact ⟨.inr ⟨toldP_no h hg, rfl⟩, hb⟩
theorem wtold_p (v : Value) (l : List Nat) (w : World) (hS : Src w v l) (h8 : ∀ b ∈ l, b < 256) (hl : l.length ≤ 1000000) : Calls Try.prog 40 #[v] w (PostP (.iface 38 (.int .i64 3)) .nilIface l w) := by
  obtain ⟨n1, n2, n3, n4, n5, e1, e2, e3, e4, e5, a1, a2, a3, a4, a5, h⟩ := pt_ex (openL_bin l)
  exact (wtold_c v l n1 n2 n3 n4 n5 e1 e2 e3 e4 e5 a1 a2 a3 a4 a5 w hS h8 hl h).mono fun e w' k => postP_of h k
theorem rtold_p (v : Value) (l : List Nat) (w : World) (hS : Src w v l) (h8 : ∀ b ∈ l, b < 256) (hl : l.length ≤ 100000) : Calls Try.prog 42 #[v] w (PostP (.int .i64 3) (.int .i64 0) l w) := by
  obtain ⟨n1, n2, n3, n4, n5, e1, e2, e3, e4, e5, a1, a2, a3, a4, a5, h⟩ := pt_ex (openL_bin l)
  exact (rtold_c v l n1 n2 n3 n4 n5 e1 e2 e3 e4 e5 a1 a2 a3 a4 a5 w hS h8 hl h).mono fun e w' k => postP_of h k
end Go.Proofs.Ytefhmbmbhiehdaa
namespace Go.Proofs.Ytefhmbmbhiehdaa
open Go.ChangeShapes Go.WideShapes Go.ChangeAt Go.RowKit Go.BigFrame
open B
section
variable {ops : Array Oper} {rest : List Oper} {o : Oper} {a : Act} {Q : Exit → Act → World → Prop} {w : World}
/-- append(own, bytes...) -/
theorem app_src (hg : o.guard = none) (s x : Operand) (ho : o.op = .call { callee := .builtin .append, args := #[s, x], argTypes := #[29, 29] })
    (base : Nat) (v : Value) (l : List Nat) (hs : a.eval s = v) (hown : w.ownsRow base 5 1 v l.length (u8s l)) {vx : Value} {k : List Nat} (hx : a.eval x = vx) (hS : Src w vx k) (hn : l.length + k.length < 1000000) (hbase : base ≤ w.heap.size)
    (h : ∀ v' w', w'.ownsRow base 5 1 v' (l ++ k).length (u8s (l ++ k)) → Mod (fun b => v.ownBlock = some b) w w' → wpList Try.prog ops Q rest (a.put o.dst v') w') : wpList Try.prog ops Q (o :: rest) a w := by
  obtain ⟨i, hi, hz, hsize, hbytes⟩ := info_three byteInfo
  rcases hS with ⟨rfl, rfl⟩ | ⟨ad, cap, rfl, hc⟩
  · refine wpList_append_own_none hg s x 29 ho base 5 i 1 Try.underlying29 hi v l.length (u8s l) hs hown hx ?_
    exact h v w (by simpa using hown) (Mod.refl _ _)
  · refine wpList_append_own_at (P := Try.prog) (w := w) hg s x 29 ho base 5 i (.int .u8 0) 1 1 Try.underlying29 hi hz hsize hbytes rfl (by decide) v l.length (u8s l) hs hown ad k.length cap (u8s k) hx (by rw [u8s_length]; omega) hc (u8s_one k) (by unfold maxLen; omega) (by omega) hbase ?_
    intro v' w' hrow hgr _ _
    refine h v' w' ?_ ((mod_grown hgr).mono fun _ _ h => h)
    rw [List.length_append, u8s_append]
    exact hrow
end
set_option maxRecDepth 100000 in
set_option maxHeartbeats 4000000 in
theorem grow_c (n : Nat) (w : World) (hn : n ≤ 1000000) : Calls Try.prog 109 #[.slice none 0 0, .int .i64 n] w fun e w' => ∃ v, e = .returned v ∧ w'.ownsRow w.heap.size 5 1 v 0 [] ∧ Below w.heap.size w w' := by
  by_cases h0 : n = 0
  · subst h0
    go_enter Try.func109, Try.ntmps109
    go_wp2
    go_ret
    exact ⟨_, rfl, ⟨rfl, .inl ⟨rfl, rfl⟩⟩, Below.refl _ _⟩
  · have d1 : decide ((n : Int) < 0) = false := decide_eq_false (by omega)
    have hpos : 0 < n := by omega
    obtain ⟨i, hi, hz, hsize, hbytes⟩ := info_three byteInfo
    have hr := fun w => Lib.run_append_nil_zeros (P := Try.prog) w 29 3 29 5 i (.int .u8 0) .i64 .i64 Try.underlying29 Try.underlying3 hi hz n (by omega) (by omega) (by omega) (by rw [hbytes]; omega)
    have HR := Lib.hid hr
    have HI := Lib.hid hi
    clear hr h0 hi hz
    go_enter Try.func109, Try.ntmps109
    go_wp2_with (at_builtin; refine Lib.wpList_append_run _ rfl _ _ _ _ rfl _ _ rfl rfl _ _ (HR.out _) ?_)
    have hc1 := grownCap_ge w n 0 5
    have hc2 := grownCap_le_maxLen w n 0 5 (by unfold maxLen; omega)
    go_ret
    exact ⟨_, rfl, ⟨rfl, .inr ⟨w.heap.size, grownCap w n 0 5, _, rfl, Nat.le_refl _, heap_alloc_new w _, Nat.zero_le _, hc2, by simp [Builtin.zeroCells]; omega, by simp⟩⟩, ((Below.refl _ w).alloc (Nat.le_refl _) _).drew⟩
theorem row_new {w : World} {base s n : Nat} {e : TypeId} {v : Value} {xs : List Value} (h : w.ownsRow base e s v n xs) : ∀ a k c, v = .slice (some a) k c → base ≤ a.block := fun a k c e => (row_lt h (show v.ownBlock = some a.block by rw [e]; rfl)).2
/-- the value reads as pieces of bytes, piece i being f i -/
def Pieces (w : World) (A : Option Addr) (n : Nat) (f : Nat → List Nat) : Prop := 0 < n → ∃ b o, A = some ⟨b, o, none⟩ ∧ b < w.heap.size ∧ ∀ i, i < n → ∃ v, w.cell? ⟨b, o + i, none⟩ = some v ∧ Src w v (f i)
theorem Pieces.below {w w' : World} {A : Option Addr} {n : Nat} {f : Nat → List Nat} (h : Pieces w A n f) (k : Below w.heap.size w w') : Pieces w' A n f := fun hn => by
  obtain ⟨b, o, e, hb, hc⟩ := h hn
  refine ⟨b, o, e, Nat.lt_of_lt_of_le hb k.size, fun i hi => ?_⟩
  obtain ⟨v, h1, h2⟩ := hc i hi
  exact ⟨v, (k.cell (p := ⟨b, o + i, none⟩) hb).trans h1, h2.below k⟩
def joinF (f : Nat → List Nat) : Nat → List Nat
  | 0 => []
  | n + 1 => joinF f n ++ f n
theorem joinF_len {f : Nat → List Nat} (h : ∀ i, (f i).length ≤ 100) : ∀ n, (joinF f n).length ≤ 100 * n
  | 0 => by simp [joinF]
  | n + 1 => by
    have := joinF_len h n
    have := h n
    simp only [joinF, List.length_append]
    omega
set_option maxRecDepth 100000 in
set_option maxHeartbeats 4000000 in
theorem concat_c (A : Option Addr) (n cap : Nat) (f : Nat → List Nat) (w : World) (hn : n ≤ 40) (hf : ∀ i, (f i).length ≤ 100) (hP : Pieces w A n f) : Calls Try.prog 77 #[.slice A n cap] w fun e w' => ∃ v, e = .returned v ∧ Src w' v (joinF f n) ∧ (∀ a k c, v = .slice (some a) k c → w.heap.size ≤ a.block) ∧ Below w.heap.size w w' := by
  have HP := Lib.hid hP
  have HF := Lib.hid hf
  clear hP hf
  go_enter Try.func77, Try.ntmps77
  go_wp2
  go_loopw [3, 11] (fun t i wr => ∃ k : Nat, k ≤ n ∧ i = .int .i64 k ∧ t = .int .i64 ((joinF f k).length : Int) ∧ w = wr) (fun _ i _ => n - (intOf i).toNat)
  case atStart => exact ⟨0, by omega, rfl, rfl, rfl⟩
  case round =>
    obtain ⟨k, hk, rfl, rfl, rfl⟩ := hrel
    by_cases hin : k < n
    · have dk : decide ((k : Int) < (n : Int)) = true := decide_eq_true (by omega)
      obtain ⟨b, o, rfl, hb, hc⟩ := HP.out (by omega)
      obtain ⟨v, hv, hS⟩ := hc k hin
      obtain ⟨Av, cv, rfl, _⟩ := Rdb.of_src hS
      have hl1 := joinF_len HF.out k
      have hl2 := HF.out k
      have d0 : decide (((joinF f k).length : Int) + ((f k).length : Int) < 0) = false := decide_eq_false (by omega)
      clear hc hS
      go_wp2
      go_roundw
      case rel => exact ⟨k + 1, by omega, by go_num, by simp [joinF], trivial⟩
      case measure => simp [intOf]; omega
    · have dk : decide ((k : Int) < (n : Int)) = false := decide_eq_false (by omega)
      obtain rfl : k = n := by omega
      have hl1 := joinF_len HF.out k
      have HJ := Lib.hid hl1
      clear hin hk
      go_wp2_with fail
      refine (grow_c (joinF f k).length _ (by omega)).mono ?_
      rintro e w1 ⟨v1, rfl, hr1, hb1⟩
      have HR1 := Lib.hid hr1
      clear hr1 hl1
      go_wp2
      go_loopw [6, 27] (fun v i wr => ∃ j : Nat, j ≤ k ∧ i = .int .i64 j ∧ wr.ownsRow w.heap.size 5 1 v (joinF f j).length (u8s (joinF f j)) ∧ Below w.heap.size w wr) (fun _ i _ => k - (intOf i).toNat)
      case atStart => exact ⟨0, by omega, rfl, HR1.out, hb1⟩
      case round =>
        obtain ⟨j, hj, rfl, hown, hbw⟩ := hrel
        by_cases hin : j < k
        · have dk : decide ((j : Int) < (k : Int)) = true := decide_eq_true (by omega)
          obtain ⟨b, o, rfl, hb, hc⟩ := HP.out.below hbw (by omega)
          obtain ⟨v, hv, hS⟩ := hc j hin
          have HS := Lib.hid hS
          have HO := Lib.hid hown
          have HB := Lib.hid hbw
          have hl1 := joinF_len HF.out j
          have hl2 := HF.out j
          have hsz := hbw.size
          clear hc hS hown hbw
          go_wp2_with (at_builtin; go_must (refine app_src rfl (.tmp 31) (.tmp 32) rfl w.heap.size _ (joinF f j) rfl HO.out rfl HS.out (by omega) hsz ?_; intro v4 w4 hown4 hmod4; have HO4 := Lib.hid hown4; have HM4 := Lib.hid hmod4; clear hown4 hmod4))
          go_roundw
          case rel => exact ⟨j + 1, by omega, by go_num, HO4.out, HB.out.trans (HM4.out.toBelow HB.out.size (fun b hb e => by have := row_lt HO.out e; omega))⟩
          case measure => simp [intOf]; omega
        · have dk : decide ((j : Int) < (k : Int)) = false := decide_eq_false (by omega)
          obtain rfl : j = k := by omega
          have HS := Lib.hid (Src.of_row hown)
          have HN := Lib.hid (row_new hown)
          clear hown hin hj
          go_wp2
          go_ret
          exact ⟨_, rfl, HS.out, HN.out, hbw⟩
end Go.Proofs.Ytefhmbmbhiehdaa
namespace Go.Proofs.Ytefhmbmbhiehdaa
open Go.ChangeShapes Go.WideShapes Go.ChangeAt Go.RowKit Go.BigFrame
open B
open Classical in
/-- the error of a change from one view to another one -/
noncomputable def dN (M1 : Nat → Nat → Int) (n1 : Nat) (M2 : Nat → Nat → Int) (n2 : Nat) : Int := if RightV n1 M1 ∧ RightV n2 M2 then (if 31872 < (deltaL M1 n1 M2 n2).length then 4 else 0) else 1
open Classical in
/-- its bytes -/
noncomputable def dL (M1 : Nat → Nat → Int) (n1 : Nat) (M2 : Nat → Nat → Int) (n2 : Nat) : List Nat := if dN M1 n1 M2 n2 = 0 then pack (deltaL M1 n1 M2 n2) else []
section
variable {M1 M2 : Nat → Nat → Int} {n1 n2 : Nat}
theorem d_arg (h : ¬ (RightV n1 M1 ∧ RightV n2 M2)) : dN M1 n1 M2 n2 = 1 ∧ dL M1 n1 M2 n2 = [] := by
  have e : dN M1 n1 M2 n2 = 1 := by unfold dN; rw [if_neg h]
  exact ⟨e, by unfold dL; rw [e]; rfl⟩
theorem d_limit (h1 : RightV n1 M1) (h2 : RightV n2 M2) (h : 31872 < (deltaL M1 n1 M2 n2).length) : dN M1 n1 M2 n2 = 4 ∧ dL M1 n1 M2 n2 = [] := by
  have e : dN M1 n1 M2 n2 = 4 := by unfold dN; rw [if_pos ⟨h1, h2⟩, if_pos h]
  exact ⟨e, by unfold dL; rw [e]; rfl⟩
theorem d_ok (h1 : RightV n1 M1) (h2 : RightV n2 M2) (h : ¬ 31872 < (deltaL M1 n1 M2 n2).length) : dN M1 n1 M2 n2 = 0 ∧ dL M1 n1 M2 n2 = pack (deltaL M1 n1 M2 n2) := by
  have e : dN M1 n1 M2 n2 = 0 := by unfold dN; rw [if_pos ⟨h1, h2⟩, if_neg h]
  exact ⟨e, by unfold dL; rw [if_pos e]⟩
theorem d_zero : dN M1 n1 M2 n2 = 0 ↔ RightV n1 M1 ∧ RightV n2 M2 ∧ (deltaL M1 n1 M2 n2).length ≤ 31872 := by
  unfold dN
  by_cases h : RightV n1 M1 ∧ RightV n2 M2
  · rw [if_pos h]
    by_cases h' : 31872 < (deltaL M1 n1 M2 n2).length
    · rw [if_pos h']; exact ⟨(fun e => by cases e), (fun e => by omega)⟩
    · rw [if_neg h']; exact ⟨fun _ => ⟨h.1, h.2, by omega⟩, fun _ => rfl⟩
  · rw [if_neg h]; exact ⟨(fun e => by cases e), fun e => absurd ⟨e.1, e.2.1⟩ h⟩
end
theorem rdb_none (w : World) : Rdb w (.slice none 0 0) [] := ⟨none, 0, rfl, fun h => absurd h (by simp)⟩
theorem rdelta_d (n1 n2 : Nat) (A1 A2 : Option Addr) (cap1 cap2 : Nat) (M1 M2 : Nat → Nat → Int) (w : World) (hn1 : n1 ≤ 100000) (hn2 : n2 ≤ 100000) (hR1 : Reads w A1 n1 11 M1) (hR2 : Reads w A2 n2 11 M2) :
    Calls Try.prog 8 #[.slice A1 n1 cap1, .slice A2 n2 cap2] w fun e w' => ∃ (v : Value) (A : Option Addr) (c : Nat), e = .returned (.tuple #[v, .int .i64 (dN M1 n1 M2 n2)]) ∧ v = .slice A (dL M1 n1 M2 n2).length c ∧ Rdb w' v (dL M1 n1 M2 n2) ∧ Below w.heap.size w w' := by
  refine (rdelta_c n1 n2 A1 A2 cap1 cap2 M1 M2 w hn1 hn2 hR1 hR2).mono ?_
  rintro e w' ⟨h, hb⟩
  rcases h with ⟨h, rfl⟩ | ⟨h1, h2, h, rfl⟩ | ⟨h1, h2, h, D, c, b, _, rfl, hB⟩
  · obtain ⟨e1, e2⟩ := d_arg h
    rw [e1, e2]
    exact ⟨_, _, _, rfl, rfl, rdb_none _, hb⟩
  · obtain ⟨e1, e2⟩ := d_limit h1 h2 h
    rw [e1, e2]
    exact ⟨_, _, _, rfl, rfl, rdb_none _, hb⟩
  · obtain ⟨e1, e2⟩ := d_ok h1 h2 h
    rw [e1, e2]
    exact ⟨_, _, _, rfl, rfl, Rdb.of_row hB, hb⟩
theorem delta_d (n1 n2 : Nat) (A1 A2 : Option Addr) (cap1 cap2 : Nat) (M1 M2 : Nat → Nat → Int) (w : World) (hn1 : n1 ≤ 100000) (hn2 : n2 ≤ 100000) (hR1 : Reads w A1 n1 11 M1) (hR2 : Reads w A2 n2 11 M2) :
    Calls Try.prog 114 #[.slice A1 n1 cap1, .slice A2 n2 cap2] w fun e w' => ∃ (v : Value) (A : Option Addr) (c : Nat), e = .returned (.tuple #[v, errV (dN M1 n1 M2 n2)]) ∧ v = .slice A (dL M1 n1 M2 n2).length c ∧ Rdb w' v (dL M1 n1 M2 n2) ∧ Below w.heap.size w w' := by
  refine (delta_c n1 n2 A1 A2 cap1 cap2 M1 M2 w hn1 hn2 hR1 hR2).mono ?_
  rintro e w' ⟨h, hb⟩
  rcases h with ⟨h, rfl⟩ | ⟨h1, h2, h, rfl⟩ | ⟨h1, h2, h, D, c, b, _, rfl, hB⟩
  · obtain ⟨e1, e2⟩ := d_arg h
    rw [e1, e2]
    exact ⟨_, _, _, rfl, rfl, rdb_none _, hb⟩
  · obtain ⟨e1, e2⟩ := d_limit h1 h2 h
    rw [e1, e2]
    exact ⟨_, _, _, rfl, rfl, rdb_none _, hb⟩
  · obtain ⟨e1, e2⟩ := d_ok h1 h2 h
    rw [e1, e2]
    exact ⟨_, _, _, rfl, rfl, Rdb.of_row hB, hb⟩
end Go.Proofs.Ytefhmbmbhiehdaa
namespace Go.Proofs.Ytefhmbmbhiehdaa
open Go Go.RowKit B
/-- a row's cells -/
def snL (r : Sn) : Array Value := #[.int .i64 r.id, .int .i64 r.kd, .int .i64 r.s1, .int .i64 r.s2, .int .i64 r.s3, .int .i64 r.a1, .int .i64 r.a2, .int .i64 r.a3, .int .i64 r.v1, .int .i64 r.v2, .int .i64 r.v3]
def rowsS (R : List Sn) : List Value := R.flatMap fun r => (snL r).toList
theorem rowsS_append (R S : List Sn) : rowsS (R ++ S) = rowsS R ++ rowsS S := by simp [rowsS]
theorem rowsS_snoc (R : List Sn) (r : Sn) : rowsS (R ++ [r]) = rowsS R ++ (snL r).toList := by simp [rowsS]
theorem snL_one (r : Sn) : ∀ u ∈ (snL r).toList, u.oneCell' = true := by
  intro u hu
  simp [snL] at hu
  rcases hu with rfl | rfl | rfl | rfl | rfl | rfl | rfl | rfl | rfl | rfl | rfl <;> rfl
theorem mx_zero (x : Sn) (R : List Sn) (j : Nat) : mx (x :: R) 0 j = x.get j := by simp [mx]
theorem rowsL_congr {M M' : Nat → Nat → Int} {c n : Nat} (hc : 0 < c) (h : ∀ k, k < n → ∀ j, j < c → M k j = M' k j) : rowsL M c n = rowsL M' c n := by
  unfold rowsL
  apply List.map_congr_left
  intro q hq
  have hq := List.mem_range.1 hq
  rw [h (q / c) ((Nat.div_lt_iff_lt_mul hc).2 hq) (q % c) (Nat.mod_lt _ hc)]
theorem rowsL_cons (M : Nat → Nat → Int) (n : Nat) : rowsL M 11 (n + 1) = (#[.int .i64 (M 0 0), .int .i64 (M 0 1), .int .i64 (M 0 2), .int .i64 (M 0 3), .int .i64 (M 0 4), .int .i64 (M 0 5), .int .i64 (M 0 6), .int .i64 (M 0 7), .int .i64 (M 0 8), .int .i64 (M 0 9), .int .i64 (M 0 10)] : Array Value).toList ++ rowsL (fun k j => M (k + 1) j) 11 n := by
  unfold rowsL
  rw [show (n + 1) * 11 = 11 + n * 11 by omega, List.range_add, List.map_append, List.map_map]
  congr 1
  apply List.map_congr_left
  intro q _
  simp only [Function.comp]
  rw [show (11 + q) / 11 = q / 11 + 1 by omega, show (11 + q) % 11 = q % 11 by omega]
theorem rowsS_eq : ∀ (R : List Sn), rowsS R = rowsL (mx R) 11 R.length
  | [] => by simp [rowsS, rowsL]
  | x :: R => by
    rw [List.length_cons, rowsL_cons]
    have h := rowsS_eq R
    show (snL x).toList ++ rowsS R = _
    rw [h]
    simp only [mx_zero]
    congr 1
/-- the rows from i on -/
theorem rowsS_from (M : Nat → Nat → Int) (n i : Nat) (hi : i ≤ n) : rowsS ((rowsOf M n).drop i) = rowsL (fun k j => M (i + k) j) 11 (n - i) := by
  rw [rowsS_eq]
  have hl : ((rowsOf M n).drop i).length = n - i := by simp [rowsOf_length]
  rw [hl]
  refine rowsL_congr (by decide) fun k hk j hj => ?_
  unfold mx
  rw [List.getElem?_drop]
  have : i + k < n := by omega
  unfold rowsOf
  rw [List.getElem?_map, List.getElem?_range this]
  simp only [Option.map_some, Option.getD_some]
  exact snOf_get M (i + k) j hj
theorem drop_rows (M : Nat → Nat → Int) {n i : Nat} (h : i < n) : (rowsOf M n).drop i = snOf M i :: (rowsOf M n).drop (i + 1) := by
  have hl : i < (rowsOf M n).length := by rw [rowsOf_length]; exact h
  rw [List.drop_eq_getElem_cons hl]
  congr 1
  simp [rowsOf]
theorem drop_end (M : Nat → Nat → Int) (n : Nat) : (rowsOf M n).drop n = [] := by
  rw [List.drop_eq_nil_iff, rowsOf_length]; exact Nat.le_refl _
theorem reads_rowS {w : World} {base : Nat} {e : TypeId} {A : Option Addr} {cap : Nat} {R : List Sn} (h : w.ownsRow base e 11 (.slice A R.length cap) R.length (rowsS R)) : Reads w A R.length 11 (mx R) := fun hn => by
  rw [rowsS_eq] at h
  obtain ⟨g, c, hv, _, _, _, hT⟩ := tab_of_own h hn
  cases hv
  exact Reads.of_tab hT hn
theorem nil_rowS {w : World} {base : Nat} {e : TypeId} {A : Option Addr} {n cap : Nat} {xs : List Value} (h : w.ownsRow base e 11 (.slice A n cap) n xs) : (A = none → n = 0 ∧ cap = 0) ∧ n ≤ cap := by
  obtain ⟨_, ⟨hv, hx⟩ | ⟨g, c, cur, hv, hc, _⟩⟩ := h
  · cases hv; exact ⟨fun _ => ⟨rfl, rfl⟩, Nat.le_refl _⟩
  · cases hv; exact ⟨(fun h => by cases h), by omega⟩
/-- a view is what a change makes, if Delta tells just that change -/
noncomputable def ansV (M1 : Nat → Nat → Int) (n1 : Nat) (l : List Nat) : Option (List Sn) → Option (List Sn)
  | none => none
  | some o => open Classical in if dN M1 n1 (mx o) o.length = 0 ∧ dL M1 n1 (mx o) o.length = l then some o else none
/-- what the program's Apply answers -/
noncomputable def ansF (M1 : Nat → Nat → Int) (n1 : Nat) (l : List Nat) : Option (List Sn) := ansV M1 n1 l (applyF (openL l) ((openL l).length + 1) 0 [] (rowsOf M1 n1) 0)
noncomputable def ansR (M1 : Nat → Nat → Int) (n1 : Nat) (l : List Nat) : Option (List Sn) := ansV M1 n1 l (applyR (openL l) ((openL l).length + 1) 0 (rowsOf M1 n1) 0)
theorem ansV_big {M1 : Nat → Nat → Int} {n1 : Nat} {l : List Nat} {x : Option (List Sn)} (h : Big x) : ansV M1 n1 l x = none := by
  cases x with
  | none => rfl
  | some o =>
    have := h o rfl
    show (if _ then _ else _) = _
    rw [if_neg]
    rintro ⟨h1, _⟩
    have := (d_zero.1 h1).2.1.2
    omega
theorem ans_eq (M1 : Nat → Nat → Int) {n1 : Nat} (l : List Nat) (hn : n1 ≤ 60) : ansR M1 n1 l = ansF M1 n1 l := by
  unfold ansR ansF
  have h := apply_eq (openL l) ((openL l).length + 1) 0 [] (rowsOf M1 n1) 0 (by simp) (by simp) (by rw [rowsOf_length]; exact hn)
  rw [List.nil_append] at h
  rcases h with h | ⟨h1, h2⟩
  · rw [h]
  · rw [ansV_big h1, ansV_big h2]
end Go.Proofs.Ytefhmbmbhiehdaa
namespace Go.Proofs.Ytefhmbmbhiehdaa
open Go.ChangeShapes Go.WideShapes Go.ChangeAt Go.RowKit Go.BigFrame Go.Maps
open B
theorem add_plainC (b o n : Nat) : (⟨b, o, none⟩ : Addr).add n = ⟨b, o + n, none⟩ := by
  simp [Addr.add]
/-- what a client has -/
structure AS where
  V : Int → Option (List Sn)
  newest : Nat
  got : List Pce
def pieceAt (got : List Pce) (i : Nat) : Option (List Nat) := (got.find? (fun p => p.ix == i)).map (·.l)
/-- what may be -/
structure AS.ok (s : AS) : Prop where
  zero : s.V 0 = some []
  views : ∀ k R, s.V k = some R → 0 ≤ k ∧ k ≤ 70368744177664 ∧ R.length ≤ 60
  top : s.newest ≤ 70368744177664
  has : (s.V s.newest).isSome
  pcs : ∀ p ∈ s.got, p.ok
  one : ∀ p ∈ s.got, ∀ q ∈ s.got, p.st = q.st ∧ p.ba = q.ba ∧ p.ma = q.ma
  ix : s.got.Pairwise (fun p q => p.ix ≠ q.ix)
  less : ∀ p ∈ s.got, s.got.length < p.ma
/-- a view in memory, in a block that Z does not name -/
def RdZ (Z : Nat → Prop) (w : World) (A : Option Addr) (R : List Sn) : Prop := 0 < R.length → ∃ b o, A = some ⟨b, o, none⟩ ∧ b < w.heap.size ∧ ¬ Z b ∧ ∀ k, k < R.length → ∀ j, j < 11 → w.cell? ⟨b, o + (k * 11 + j), none⟩ = some (.int .i64 (mx R k j))
/-- bytes in memory -/
def RbZ (Z : Nat → Prop) (w : World) (v : Value) (l : List Nat) : Prop := Src w v l ∧ (0 < l.length → ∃ b o c, v = .slice (some ⟨b, o, none⟩) l.length c ∧ b < w.heap.size ∧ ¬ Z b)
section
variable {Z Z' S : Nat → Prop} {w w' : World} {A : Option Addr} {R : List Sn} {v : Value} {l : List Nat}
theorem RdZ.reads (h : RdZ Z w A R) : Reads w A R.length 11 (mx R) := fun hn => by
  obtain ⟨b, o, e, hb, _, hc⟩ := h hn
  exact ⟨b, o, e, hb, hc⟩
theorem RdZ.of (h : Reads w A R.length 11 (mx R)) (hz : 0 < R.length → ∀ x, A = some x → ¬ Z x.block) : RdZ Z w A R := fun hn => by
  obtain ⟨b, o, e, hb, hc⟩ := h hn
  exact ⟨b, o, e, hb, hz hn _ e, hc⟩
theorem RdZ.nil : RdZ Z w A [] := fun h => by simp at h
theorem RdZ.mod (h : RdZ Z w A R) (k : Mod S w w') (hs : ∀ x, S x → Z x) (hz : ∀ x, Z' x → Z x ∨ w.heap.size ≤ x) : RdZ Z' w' A R := fun hn => by
  obtain ⟨b, o, e, hb, hn', hc⟩ := h hn
  exact ⟨b, o, e, Nat.lt_of_lt_of_le hb k.size, fun h => (hz b h).elim hn' (by omega), fun i hi j hj => (k.cell hb (fun h => hn' (hs _ h))).trans (hc i hi j hj)⟩
theorem RbZ.of (h : Src w v l) (hz : 0 < l.length → ∀ x n c, v = .slice (some x) n c → ¬ Z x.block) : RbZ Z w v l := by
  refine ⟨h, fun hn => ?_⟩
  obtain ⟨A, c, rfl, hc⟩ := Rdb.of_src h
  obtain ⟨b, o, rfl, hb, _⟩ := hc hn
  exact ⟨b, o, c, rfl, hb, hz hn _ _ _ rfl⟩
theorem RbZ.mod (h : RbZ Z w v l) (k : Mod S w w') (hs : ∀ x, S x → Z x) (hz : ∀ x, Z' x → Z x ∨ w.heap.size ≤ x) : RbZ Z' w' v l := by
  obtain ⟨h1, h2⟩ := h
  rcases Nat.eq_zero_or_pos l.length with h0 | h0
  · refine ⟨?_, fun hn => by omega⟩
    have hl : l = [] := by simpa using h0
    subst hl
    rcases h1 with h1 | ⟨ad, cap, e, _⟩
    · exact .inl h1
    · exact .inr ⟨ad, cap, e, fun j u hu => by simp [u8s] at hu⟩
  · obtain ⟨b, o, c, rfl, hb, hn'⟩ := h2 h0
    refine ⟨?_, fun _ => ⟨b, o, c, rfl, Nat.lt_of_lt_of_le hb k.size, fun h => (hz b h).elim hn' (by omega)⟩⟩
    rcases h1 with ⟨h1, _⟩ | ⟨ad, cap, e, hc⟩
    · cases h1
    · cases e
      refine .inr ⟨_, c, rfl, fun j u hu => ?_⟩
      have := hc j u hu
      rw [add_plainC] at this ⊢
      exact (k.cell hb (fun h => hn' (hs _ h))).trans this
end
/-- what stands at a key is that view -/
def VAt (Z : Nat → Prop) (w : World) : Option Value → Option (List Sn) → Prop
  | none, none => True
  | some v, some R => ∃ A c, v = .slice A R.length c ∧ (A = none → R.length = 0 ∧ c = 0) ∧ R.length ≤ c ∧ RdZ Z w A R
  | _, _ => False
/-- the map at b has just the views V -/
def VM (Z : Nat → Prop) (w : World) (b m : Nat) (V : Int → Option (List Sn)) (n : Nat) : Prop := ∃ F, MapV Try.prog 3 w b m F n ∧ ∀ k : Int, VAt Z w (F (.int .i64 k)) (V k)
section
variable {Z Z' S : Nat → Prop} {w w' : World} {f : Option Value} {x : Option (List Sn)} {b m n : Nat} {V : Int → Option (List Sn)}
theorem VAt.mod (h : VAt Z w f x) (k : Mod S w w') (hs : ∀ x, S x → Z x) (hz : ∀ x, Z' x → Z x ∨ w.heap.size ≤ x) : VAt Z' w' f x := by
  match f, x, h with
  | none, none, _ => trivial
  | some v, some R, ⟨A, c, e, h1, h2, h3⟩ => exact ⟨A, c, e, h1, h2, h3.mod k hs hz⟩
theorem VAt.some_iff (h : VAt Z w f x) : f.isSome = x.isSome := by
  match f, x, h with
  | none, none, _ => rfl
  | some v, some R, _ => rfl
theorem VM.mod (h : VM Z w b m V n) (k : Mod S w w') (hs : ∀ x, S x → Z x) (hz : ∀ x, Z' x → Z x ∨ w.heap.size ≤ x) (hb : ¬ S b) : VM Z' w' b m V n := by
  obtain ⟨F, h1, h2⟩ := h
  exact ⟨F, h1.mod k hb, fun i => (h2 i).mod k hs hz⟩
theorem VM.more (h : VM Z w b m V n) {m' : Nat} (hm : m ≤ m') : VM Z w b m' V n := by
  obtain ⟨F, h1, h2⟩ := h
  exact ⟨F, h1.mono hm, h2⟩
end
/-- what stands in a cell of the pieces -/
def PcAt (Z : Nat → Prop) (w : World) (v : Value) : Option (List Nat) → Prop
  | none => v = .slice none 0 0
  | some l => RbZ Z w v l ∧ ∃ a c, v = .slice (some a) l.length c
/-- the pieces that are gathered -/
def GatP (S Z : Nat → Prop) (w : World) (c : Nat) (got : List Pce) (st ba : Int) (PA : Option Addr) (ma : Nat) (hv : Int) : Prop :=
  (got = [] ∧ st = 0 ∧ PA = none ∧ ma = 0) ∨
  (got ≠ [] ∧ (∀ p ∈ got, (p.st : Int) = st ∧ (p.ba : Int) = ba ∧ p.ma = ma) ∧ hv = got.length ∧ ∃ (pb : Nat) (vs : Array Value), PA = some ⟨pb, 0, none⟩ ∧ S pb ∧ pb ≠ c ∧ Blk w pb vs ∧ vs.size = ma ∧ ∀ (i : Nat) (v : Value), vs[i]? = some v → PcAt Z w v (pieceAt got i))
/-- the program's client, at block c; S: what it may write; X: what it may not; m: how many views were ever put -/
structure CR (w : World) (c m : Nat) (s : AS) (S X : Nat → Prop) (b n : Nat) (st ba : Int) (PA : Option Addr) (ma : Nat) (hv : Int) : Prop where
  blk : Blk w c #[.map (some b), .int .i64 s.newest, .int .i64 st, .int .i64 ba, .slice PA ma ma, .int .i64 hv]
  vm : VM (fun x => S x ∨ X x) w b m s.V n
  gat : GatP S (fun x => S x ∨ X x) w c s.got st ba PA ma hv
  sc : S c
  sb : S b
  ne : c ≠ b
  sl : ∀ x, S x → x < w.heap.size ∧ ¬ X x
  xl : ∀ x, X x → x < w.heap.size
section
variable {Z Z' S T X X' : Nat → Prop} {w w' : World} {v : Value} {o : Option (List Nat)} {c m b n ma : Nat} {got : List Pce} {st ba hv : Int} {PA : Option Addr} {s : AS}
theorem PcAt.mod (h : PcAt Z w v o) (k : Mod T w w') (hs : ∀ x, T x → Z x) (hz : ∀ x, Z' x → Z x ∨ w.heap.size ≤ x) : PcAt Z' w' v o := by
  cases o with
  | none => exact h
  | some l => exact ⟨h.1.mod k hs hz, h.2⟩
theorem GatP.mod (h : GatP S Z w c got st ba PA ma hv) (k : Mod T w w') (hs : ∀ x, T x → Z x) (hz : ∀ x, Z' x → Z x ∨ w.heap.size ≤ x) (hd : ∀ x, S x → ¬ T x) : GatP S Z' w' c got st ba PA ma hv := by
  rcases h with h | ⟨h0, h1, h2, pb, vs, h3, h4, h5, h6, h7, h8⟩
  · exact .inl h
  · exact .inr ⟨h0, h1, h2, pb, vs, h3, h4, h5, h6.mod k (hd pb h4), h7, fun i v hi => (h8 i v hi).mod k hs hz⟩
/-- others write what is theirs -/
theorem CR.frame (h : CR w c m s S X b n st ba PA ma hv) (k : Mod X w w') (hx : ∀ x, X' x → X x ∨ w.heap.size ≤ x) (hl : ∀ x, X' x → x < w'.heap.size) : CR w' c m s S X' b n st ba PA ma hv :=
  have hz : ∀ x, S x ∨ X' x → (S x ∨ X x) ∨ w.heap.size ≤ x := fun x e => e.elim (fun e => .inl (.inl e)) (fun e => (hx x e).elim (fun e => .inl (.inr e)) .inr)
  ⟨h.blk.mod k (fun e => (h.sl c h.sc).2 e), h.vm.mod k (fun _ e => .inr e) hz (fun e => (h.sl b h.sb).2 e), h.gat.mod k (fun _ e => .inr e) hz (fun x hx => (h.sl x hx).2), h.sc, h.sb, h.ne,
    fun x e => ⟨Nat.lt_of_lt_of_le (h.sl x e).1 k.size, fun e' => (hx x e').elim (h.sl x e).2 (fun e'' => by have := (h.sl x e).1; omega)⟩, hl⟩
end
end Go.Proofs.Ytefhmbmbhiehdaa
namespace Go.Proofs.Ytefhmbmbhiehdaa
open Go.ChangeShapes Go.WideShapes Go.ChangeAt Go.RowKit Go.BigFrame Go.Maps
open B
section
variable {P : Program} {K E T : TypeId} {w w' : World} {b m n : Nat} {F : Lit → Option Value} {ops : Array Oper} {rest : List Oper} {o : Oper} {a : Act} {Q : Exit → Act → World → Prop}
/-- an entry of a map literal -/
theorem at_insert (hg : o.guard = none) (mm x v : Operand) (hop : o.op = Op.insert T mm x v) (LK : Keyed P K) (ht : P.underlying T = some (.map K E))
    (hm : a.eval mm = .map (some b)) (hown : MapV P K w b m F n) (hmx : m < maxLen) (key val : Value) (kl : Lit) (hx : a.eval x = key) (hv : a.eval v = val) (hkey : keyOf P K key = some kl) (hkl : WideAt.IsKeyLit kl)
    (hK : ∀ w', MapV P K w' b (m + 1) (putF F kl val) (if (F kl).isSome then n else n + 1) → Mod (· = b) w w' → wpList P ops Q rest (a.put o.dst undef) w') : wpList P ops Q (o :: rest) a w := by
  obtain ⟨D, hown, hT, hf⟩ := hown
  refine wpList_plain hg fun K' hK' => ?_
  obtain ⟨w', hrun, r1, r2⟩ := hown.update LK ht hmx hkey (val := val) (d := .held val) (ps := []) rfl
  unfold Oper.wp
  simp [execOp, hop, hm, hx, hv, hrun, Result.andThen]
  exact hK' _ _ (hK w' ⟨_, r1, hT.put hkl _, hf.put hT hkl val⟩ ((mod_grownBy r2).mono fun b' _ e => (Option.some.inj e).symm))
end
theorem int_key (x : Int) (h : (Lit.int .i64 x).wf = true) : keyOf Try.prog 3 (.int .i64 x) = some (.int .i64 x) := int_wf_key Try.underlying3 h
/-- a client that has nothing yet -/
def AS.new : AS := ⟨fun k => if k = 0 then some [] else none, 0, []⟩
theorem new_ok : AS.new.ok := by
  refine ⟨rfl, fun k R h => ?_, by simp [AS.new], by simp [AS.new], fun p h => by simp [AS.new] at h, fun p h => by simp [AS.new] at h, by simp [AS.new], fun p h => by simp [AS.new] at h⟩
  simp only [AS.new] at h
  split at h
  · cases h
    refine ⟨by omega, by omega, by simp⟩
  · cases h
theorem key0 : keyOf Try.prog 3 (.int .i64 0) = some (.int .i64 0) := int_key 0 (intKey_wf (by decide) (by decide))
theorem lt_maxLen {n : Nat} (h : n ≤ 1000000) : n < maxLen := by unfold maxLen; omega
/-- the map of a new client -/
theorem vm_new (Z : Nat → Prop) {w : World} {b m n : Nat} {F : Lit → Option Value} (h : MapV Try.prog 3 w b m F n) (hF : F = putF (fun _ => none) (.int .i64 0) (.slice none 0 0)) : VM Z w b m AS.new.V n := by
  refine ⟨F, h, fun k => ?_⟩
  rw [hF]
  simp only [putF, AS.new]
  by_cases e : k = 0
  · subst e
    rw [if_pos rfl, if_pos rfl]
    exact ⟨none, 0, rfl, fun _ => ⟨rfl, rfl⟩, Nat.le_refl _, RdZ.nil⟩
  · rw [if_neg (fun h => by cases h; exact e rfl), if_neg e]
    trivial
set_option maxRecDepth 100000 in
set_option maxHeartbeats 4000000 in
theorem newC_c (w : World) (X : Nat → Prop) (hX : ∀ x, X x → x < w.heap.size) : Calls Try.prog 6 #[] w fun e w' => ∃ c b, e = .returned (.pointer (some ⟨c, 0, none⟩)) ∧ w.heap.size ≤ c ∧ w.heap.size ≤ b ∧ CR w' c 1 AS.new (fun x => x = c ∨ x = b) X b 1 0 0 none 0 0 ∧ Below w.heap.size w w' := by
  have HX := Lib.hid hX
  clear hX
  have hmk := @run_makeMap Try.prog
  go_enter Try.func6, Try.ntmps6
  go_wp2_with (first | (refine at_insert rfl (.tmp 1) (.const (.int .i64 0)) (.const (.slice none 0 0)) rfl (int_keyed Try.underlying3) Try.underlying91 rfl (mapV_made w Try.prog 3) (lt_maxLen (Nat.zero_le _)) _ _ (.int .i64 0) rfl rfl key0 trivial ?_; intro w1 hm1 hd1; have HM1 := Lib.hid hm1; have HD1 := Lib.hid hd1; clear hm1 hd1))
  have hm1 : MapV Try.prog 3 w1 w.heap.size 1 (putF (fun _ => none) (.int .i64 0) (.slice none 0 0)) 1 := HM1.out
  have hs1 := HD1.out.size
  simp only [World.size_alloc] at hs1
  have hB : Below w.heap.size w w1 := (balloc w _).trans (HD1.out.toBelow (by simp) (fun b hb e => by omega))
  clear hmk
  go_ret
  refine ⟨w1.heap.size, w.heap.size, rfl, by omega, by omega, ⟨(show Blk _ _ #[.map (some w.heap.size), .int .i64 0, .int .i64 0, .int .i64 0, .slice none 0 0, .int .i64 0] from (by repeat (with_reducible (first | assumption | (apply Blk.at; simp; done) | apply Blk.alloc | apply Blk.drew | apply Blk.drewN | apply Blk.more | apply Blk.put | (apply Blk.far; focus (first | assumption | (apply Ne.symm; assumption) | (simp; done) | (simp <;> omega))))))), vm_new _ (hm1.below (balloc w1 _)) rfl, .inl ⟨rfl, rfl, rfl, rfl⟩, .inl rfl, .inr rfl, by omega, fun x hx => ⟨?_, fun hX => ?_⟩, fun x hX => ?_⟩, hB.trans ((balloc w1 _).mono hB.size)⟩
  · simp only [World.size_alloc]
    rcases hx with rfl | rfl <;> omega
  · have := HX.out x hX
    rcases hx with rfl | rfl <;> omega
  · have := HX.out x hX
    simp only [World.size_alloc]
    omega
theorem cmany_c (w : World) (c m b n ma : Nat) (s : AS) (S X : Nat → Prop) (st ba hv : Int) (PA : Option Addr) (h : CR w c m s S X b n st ba PA ma hv) : Calls Try.prog 15 #[.pointer (some ⟨c, 0, none⟩)] w fun e w' => e = .returned (.int .i64 n) ∧ w = w' := by
  obtain ⟨F, hm, _⟩ := h.vm
  have hb := h.blk
  obtain ⟨zc, cc, fc⟩ := id hb
  have HM := Lib.hid hm
  clear h hm hb
  go_enter Try.func15, Try.ntmps15
  go_wp2_with (at_len; refine at_len1 rfl _ rfl Try.underlying91 rfl HM.out ?_)
  go_ret
  exact ⟨rfl, rfl⟩
theorem row_formV {w : World} {base s n : Nat} {e : TypeId} {v : Value} {xs : List Value} (h : w.ownsRow base e s v n xs) : ∃ A c, v = .slice A n c := by
  rcases h.2 with ⟨rfl, rfl⟩ | ⟨g, cap, cur, rfl, _⟩
  · exact ⟨none, 0, rfl⟩
  · exact ⟨_, cap, rfl⟩
theorem seenInfoV : (Try.prog.info? 106).map (fun i => (i.zero, i.size, i.bytes)) = some (some (.agg #[.int .i64 0, .int .i64 0, .int .i64 0, .int .i64 0, .int .i64 0, .int .i64 0, .int .i64 0, .int .i64 0, .int .i64 0, .int .i64 0, .int .i64 0]), 11, 88) := by kernel_rfl
set_option maxRecDepth 100000 in
set_option maxHeartbeats 4000000 in
theorem clone_v (n : Nat) (A : Option Addr) (cap : Nat) (M : Nat → Nat → Int) (w : World) (hn : n ≤ 100000) (hA : A = none → n = 0 ∧ cap = 0) (hR : Reads w A n 11 M) : Calls Try.prog 44 #[.slice A n cap] w fun e w' => ∃ A' c', e = .returned (.slice A' n c') ∧ Reads w' A' n 11 M ∧ Below w.heap.size w w' := by
  have HR := Lib.hid hR
  clear hR
  cases A with
  | none =>
    obtain ⟨rfl, rfl⟩ := hA rfl
    have hnil := @Lib.run_eql_slice_nil Try.prog
    go_enter Try.func44, Try.ntmps44
    go_wp2
    go_ret
    exact ⟨none, ⟨0, rfl⟩, fun h => absurd h (by omega), Below.refl _ _⟩
  | some ad =>
    have HA : Hid ((some ad : Option Addr) = none → n = 0 ∧ cap = 0) := Lib.hid hA
    clear hA
    have hnil := @Lib.run_eql_slice_nil Try.prog
    go_enter Try.func44, Try.ntmps44
    go_wp2_with (at_builtin; go_must (refine app_rows rfl (.tmp 5) (.tmp 6) 28 rfl (e := 106) Try.underlying28 seenInfoV rfl (by decide) (by decide) w.heap.size (.slice (some ⟨w.heap.size, 0, none⟩) 0 0) 0 [] rfl (own_empty 106 11) rfl (HR.out.below (balloc _ _)) HA.out (by omega) (by simp) ?_; intro v4 w4 hown hmod hwh; rw [Nat.zero_add, List.nil_append] at hown; have hb4 : Below w.heap.size w w4 := (balloc w _).trans (hmod.toBelow (by simp) (fun b hb e => by simp [Value.ownBlock] at e; omega)); have HO := Lib.hid hown; have HB4 := Lib.hid hb4; clear hown hmod hwh hb4))
    obtain ⟨A', c', rfl⟩ := row_formV HO.out
    have hr : Reads w4 A' n 11 M := fun hn => by
      obtain ⟨g, cc, hv, _, _, _, hT⟩ := tab_of_own HO.out hn
      cases hv
      exact Reads.of_tab hT hn
    go_ret
    exact ⟨A', c', rfl, hr, HB4.out⟩
theorem exec_lookup1 {P : Program} {K E T : TypeId} {w : World} {b m n : Nat} {F : Lit → Option Value} {o : Oper} {a : Act} (mm x : Operand) (hop : o.op = Op.lookup T mm x false) (LK : Keyed P K) (ht : P.underlying T = some (.map K E)) {z : Value} (hz : (zeroValue E).run P w = .ok z w)
    (hm : a.eval mm = .map (some b)) (hown : MapV P K w b m F n) (key : Value) (kl : Lit) (hx : a.eval x = key) (hkey : keyOf P K key = some kl) (hkl : WideAt.IsKeyLit kl) : (execOp a.eval o).run P w = (.ok (.value ((F kl).getD z)) w : Result Next) := by
  obtain ⟨D, hown, hT, hf⟩ := hown
  obtain ⟨v, ps, hrun, hv⟩ := hown.lookup LK ht hz (zd := .held z) (zp := []) rfl hkey
  rw [hf.at_ kl z hkl] at hv
  have e : v = (F kl).getD z := by
    unfold holdV at hv
    simp at hv
    exact hv.1
  subst e
  simp [execOp, hop, hm, hx, hrun, Result.andThen]
theorem zero_view (w : World) : (zeroValue 28).run Try.prog w = .ok (.slice none 0 0) w := by kernel_rfl
set_option maxRecDepth 100000 in
set_option maxHeartbeats 4000000 in
/-- the newest view -/
theorem cnewest_c (w : World) (c m b n ma : Nat) (s : AS) (S X : Nat → Prop) (st ba hv : Int) (PA : Option Addr) (h : CR w c m s S X b n st ba PA ma hv) (hs : s.ok) : Calls Try.prog 13 #[.pointer (some ⟨c, 0, none⟩)] w fun e w' => ∃ (R : List Sn) (A' : Option Addr) (c' : Nat), s.V s.newest = some R ∧ e = .returned (.tuple #[.int .i64 s.newest, .slice A' R.length c']) ∧ Reads w' A' R.length 11 (mx R) ∧ Below w.heap.size w w' := by
  obtain ⟨F, hm, hV⟩ := h.vm
  obtain ⟨R, hR⟩ := Option.isSome_iff_exists.1 hs.has
  have hk := hV s.newest
  rw [hR] at hk
  have hl := (hs.views _ _ hR).2.2
  obtain ⟨v, hFv⟩ : ∃ v, F (.int .i64 s.newest) = some v := by
    cases hF : F (.int .i64 s.newest) with
    | none => rw [hF] at hk; exact hk.elim
    | some v => exact ⟨v, rfl⟩
  rw [hFv] at hk
  obtain ⟨A, cp, rfl, h1, h2, h3⟩ := hk
  have htop := hs.top
  have hwf : keyOf Try.prog 3 (.int .i64 s.newest) = some (.int .i64 s.newest) := int_key _ (intKey_wf (by omega) (by omega))
  have hb := h.blk
  obtain ⟨zc, cc, fc⟩ := id hb
  have HM := Lib.hid hm
  have HF := Lib.hid hFv
  have HK := Lib.hid hwf
  have HR := Lib.hid hR
  have H1 := Lib.hid h1
  have H3 := Lib.hid h3
  clear h hm hV hs hFv hwf hR h1 h2 h3 hb
  go_enter Try.func13, Try.ntmps13
  go_wp2_with fail
  have hd0 : Below w.heap.size w w.drew := ext_drew (Below.refl _ _)
  refine region_held_tail (fun w' => w'.cell? ⟨c, 0, none⟩ = some (.map (some b)) ∧ w'.cell? ⟨c, 1, none⟩ = some (.int .i64 s.newest) ∧ Below w.heap.size w w') 14 (by kernel_rfl) (by kernel_rfl) (⟨(hd0.cell (p := ⟨c, 0, none⟩) zc).trans (cc 0), (hd0.cell (p := ⟨c, 1, none⟩) zc).trans (cc 1), hd0⟩) (fun hHeld => ?_)
  simp only [List.take_succ_cons, List.take_zero]
  refine wpAnyH_take (i := 0) (v := .pointer (some ⟨c, 0, none⟩)) rfl (by kernel_rfl) (by kernel_rfl) (by kernel_rfl) (fun _ _ _ h => h) (Or.inl ⟨by kernel_rfl, ?ynw_0⟩) hHeld ?rnw_0
  case ynw_0 =>
    intro w hSw
    try dsimp only at hSw
    obtain ⟨e0, e1, _⟩ := hSw
    go_simp
    try with_reducible rfl
  try simp only [Act.put, List.getElem_toArray, List.getElem_cons_zero, List.setIfInBounds_toArray, List.set_cons_zero, List.set_cons_succ]
  refine wpAnyH_take (i := 1) (v := .pointer (some ⟨c, 0, none⟩)) rfl (by kernel_rfl) (by kernel_rfl) (by kernel_rfl) (fun _ _ _ h => h) (Or.inl ⟨by kernel_rfl, ?ynw_1⟩) hHeld ?rnw_1
  case ynw_1 =>
    intro w hSw
    try dsimp only at hSw
    obtain ⟨e0, e1, _⟩ := hSw
    go_simp
    try with_reducible rfl
  try simp only [Act.put, List.getElem_toArray, List.getElem_cons_zero, List.getElem_cons_succ, List.setIfInBounds_toArray, List.set_cons_zero, List.set_cons_succ]
  refine wpAnyH_take (i := 2) (v := .pointer (some ⟨c, 1, none⟩)) rfl (by kernel_rfl) (by kernel_rfl) (by kernel_rfl) (fun _ _ _ h => h) (Or.inl ⟨by kernel_rfl, ?ynw_2⟩) hHeld ?rnw_2
  case ynw_2 =>
    intro w hSw
    try dsimp only at hSw
    obtain ⟨e0, e1, _⟩ := hSw
    go_simp
    try with_reducible rfl
  try simp only [Act.put, List.getElem_toArray, List.getElem_cons_zero, List.getElem_cons_succ, List.setIfInBounds_toArray, List.set_cons_zero, List.set_cons_succ]
  refine wpAnyH_take (i := 3) (v := .int .i64 s.newest) rfl (by kernel_rfl) (by kernel_rfl) (by kernel_rfl) (fun _ _ _ h => h) (Or.inl ⟨by kernel_rfl, ?ynw_3⟩) hHeld ?rnw_3
  case ynw_3 =>
    intro w hSw
    try dsimp only at hSw
    obtain ⟨e0, e1, _⟩ := hSw
    go_simp
    try with_reducible rfl
  try simp only [Act.put, List.getElem_toArray, List.getElem_cons_zero, List.getElem_cons_succ, List.setIfInBounds_toArray, List.set_cons_zero, List.set_cons_succ]
  refine wpAnyH_take (i := 4) (v := .pointer (some ⟨c, 0, none⟩)) rfl (by kernel_rfl) (by kernel_rfl) (by kernel_rfl) (fun _ _ _ h => h) (Or.inl ⟨by kernel_rfl, ?ynw_4⟩) hHeld ?rnw_4
  case ynw_4 =>
    intro w hSw
    try dsimp only at hSw
    obtain ⟨e0, e1, _⟩ := hSw
    go_simp
    try with_reducible rfl
  try simp only [Act.put, List.getElem_toArray, List.getElem_cons_zero, List.getElem_cons_succ, List.setIfInBounds_toArray, List.set_cons_zero, List.set_cons_succ]
  refine wpAnyH_take (i := 5) (v := .pointer (some ⟨c, 0, none⟩)) rfl (by kernel_rfl) (by kernel_rfl) (by kernel_rfl) (fun _ _ _ h => h) (Or.inl ⟨by kernel_rfl, ?ynw_5⟩) hHeld ?rnw_5
  case ynw_5 =>
    intro w hSw
    try dsimp only at hSw
    obtain ⟨e0, e1, _⟩ := hSw
    go_simp
    try with_reducible rfl
  try simp only [Act.put, List.getElem_toArray, List.getElem_cons_zero, List.getElem_cons_succ, List.setIfInBounds_toArray, List.set_cons_zero, List.set_cons_succ]
  refine wpAnyH_take (i := 6) (v := .pointer (some ⟨c, 0, none⟩)) rfl (by kernel_rfl) (by kernel_rfl) (by kernel_rfl) (fun _ _ _ h => h) (Or.inl ⟨by kernel_rfl, ?ynw_6⟩) hHeld ?rnw_6
  case ynw_6 =>
    intro w hSw
    try dsimp only at hSw
    obtain ⟨e0, e1, _⟩ := hSw
    go_simp
    try with_reducible rfl
  try simp only [Act.put, List.getElem_toArray, List.getElem_cons_zero, List.getElem_cons_succ, List.setIfInBounds_toArray, List.set_cons_zero, List.set_cons_succ]
  refine wpAnyH_take (i := 7) (v := .map (some b)) rfl (by kernel_rfl) (by kernel_rfl) (by kernel_rfl) (fun _ _ _ h => h) (Or.inl ⟨by kernel_rfl, ?ynw_7⟩) hHeld ?rnw_7
  case ynw_7 =>
    intro w hSw
    try dsimp only at hSw
    obtain ⟨e0, e1, _⟩ := hSw
    go_simp
    try with_reducible rfl
  try simp only [Act.put, List.getElem_toArray, List.getElem_cons_zero, List.getElem_cons_succ, List.setIfInBounds_toArray, List.set_cons_zero, List.set_cons_succ]
  refine wpAnyH_take (i := 8) (v := .pointer (some ⟨c, 0, none⟩)) rfl (by kernel_rfl) (by kernel_rfl) (by kernel_rfl) (fun _ _ _ h => h) (Or.inl ⟨by kernel_rfl, ?ynw_8⟩) hHeld ?rnw_8
  case ynw_8 =>
    intro w hSw
    try dsimp only at hSw
    obtain ⟨e0, e1, _⟩ := hSw
    go_simp
    try with_reducible rfl
  try simp only [Act.put, List.getElem_toArray, List.getElem_cons_zero, List.getElem_cons_succ, List.setIfInBounds_toArray, List.set_cons_zero, List.set_cons_succ]
  refine wpAnyH_take (i := 9) (v := .pointer (some ⟨c, 0, none⟩)) rfl (by kernel_rfl) (by kernel_rfl) (by kernel_rfl) (fun _ _ _ h => h) (Or.inl ⟨by kernel_rfl, ?ynw_9⟩) hHeld ?rnw_9
  case ynw_9 =>
    intro w hSw
    try dsimp only at hSw
    obtain ⟨e0, e1, _⟩ := hSw
    go_simp
    try with_reducible rfl
  try simp only [Act.put, List.getElem_toArray, List.getElem_cons_zero, List.getElem_cons_succ, List.setIfInBounds_toArray, List.set_cons_zero, List.set_cons_succ]
  refine wpAnyH_take (i := 10) (v := .pointer (some ⟨c, 1, none⟩)) rfl (by kernel_rfl) (by kernel_rfl) (by kernel_rfl) (fun _ _ _ h => h) (Or.inl ⟨by kernel_rfl, ?ynw_10⟩) hHeld ?rnw_10
  case ynw_10 =>
    intro w hSw
    try dsimp only at hSw
    obtain ⟨e0, e1, _⟩ := hSw
    go_simp
    try with_reducible rfl
  try simp only [Act.put, List.getElem_toArray, List.getElem_cons_zero, List.getElem_cons_succ, List.setIfInBounds_toArray, List.set_cons_zero, List.set_cons_succ]
  refine wpAnyH_take (i := 11) (v := .int .i64 s.newest) rfl (by kernel_rfl) (by kernel_rfl) (by kernel_rfl) (fun _ _ _ h => h) (Or.inl ⟨by kernel_rfl, ?ynw_11⟩) hHeld ?rnw_11
  case ynw_11 =>
    intro w hSw
    try dsimp only at hSw
    obtain ⟨e0, e1, _⟩ := hSw
    go_simp
    try with_reducible rfl
  try simp only [Act.put, List.getElem_toArray, List.getElem_cons_zero, List.getElem_cons_succ, List.setIfInBounds_toArray, List.set_cons_zero, List.set_cons_succ]
  refine wpAnyH_take (i := 12) (v := ?vnw_12) rfl (by kernel_rfl) (by kernel_rfl) (by kernel_rfl) (fun _ _ _ h => h) (Or.inl ⟨by kernel_rfl, ?ynw_12⟩) hHeld ?rnw_12
  case ynw_12 =>
    intro w1 hSw
    refine Eq.trans (exec_lookup1 (.tmp 11) (.tmp 15) ?_ (int_keyed Try.underlying3) Try.underlying91 (zero_view w1) ?_ (HM.out.below hSw.2.2) (.int .i64 s.newest) (.int .i64 s.newest) ?_ HK.out trivial) ?_
    · rfl
    · rfl
    · rfl
    · with_reducible rfl
  try simp only [Act.put, List.getElem_toArray, List.getElem_cons_zero, List.getElem_cons_succ, List.setIfInBounds_toArray, List.set_cons_zero, List.set_cons_succ]
  rw [HF.out]
  simp only [Option.getD_some]
  refine wpAnyH_ready (rs := [13]) (by kernel_rfl) (by simp) ?_
  refine AllReadyH.cons (o := _) rfl (fun K hK => ?_) AllReadyH.nil
  go_simp
  refine (clone_v R.length A cp (mx R) _ (by omega) H1.out (H3.out.reads.below hd0)).mono ?_
  rintro e w1 ⟨A', c', rfl, hr1, hb1⟩
  have hb2 : Below w.heap.size w w1 := hd0.trans (hb1.mono hd0.size)
  have HR1 := Lib.hid hr1
  try dsimp only
  refine hK.out _ _ ?_ (fun hHeld => ?_)
  · exact ⟨(hb2.cell (p := ⟨c, 0, none⟩) zc).trans (cc 0), (hb2.cell (p := ⟨c, 1, none⟩) zc).trans (cc 1), hb2⟩
  clear hK K hr1
  try simp only [Act.put, List.getElem_toArray, List.getElem_cons_zero, List.getElem_cons_succ, List.setIfInBounds_toArray, List.set_cons_zero, List.set_cons_succ]
  refine wpAnyH_done (by kernel_rfl) ?_ _
  clear hHeld
  simp only [TailQ, List.drop_succ_cons, List.drop_zero]
  clear zc cc fc
  go_wp2
  exact bodyPost_ret (v := .tuple #[.int .i64 s.newest, .slice A' R.length c']) (by simp [results, Try.results13, go_sem, *]) rfl ⟨R, A', c', HR.out, rfl, HR1.out, hb2⟩
end Go.Proofs.Ytefhmbmbhiehdaa
namespace Go.Proofs.Ytefhmbmbhiehdaa
open Go.ChangeShapes Go.WideShapes Go.ChangeAt Go.RowKit Go.BigFrame Go.Maps
open B
/-- a piece's cells; v: its bytes -/
def pceL (x : Pce × Value) : List Value := [.int .i64 x.1.st, .int .i64 x.1.ba, .int .i64 x.1.ix, .int .i64 x.1.ma, x.2]
def rowsP (G : List (Pce × Value)) : List Value := G.flatMap pceL
/-- the document's client, at block r -/
structure RC (w : World) (r m B0 : Nat) (s : AS) (T Y : Nat → Prop) (b n : Nat) (GA : Option Addr) (gc : Nat) (G : List (Pce × Value)) : Prop where
  blk : Blk w r #[.map (some b), .int .i64 s.newest, .slice GA G.length gc]
  vm : VM (fun x => T x ∨ Y x) w b m s.V n
  own : w.ownsRow B0 45 5 (.slice GA G.length gc) G.length (rowsP G)
  gt : G.map (·.1) = s.got
  vals : ∀ x ∈ G, RbZ (fun x => T x ∨ Y x) w x.2 x.1.l
  gown : ∀ a, GA = some a → T a.block ∧ a.block ≠ r ∧ a.block ≠ b
  tr : T r
  tb : T b
  ne : r ≠ b
  tl : ∀ x, T x → x < w.heap.size ∧ ¬ Y x
  yl : ∀ x, Y x → x < w.heap.size
section
variable {T Y Y' : Nat → Prop} {w w' : World} {r m b n B0 gc : Nat} {GA : Option Addr} {s : AS} {G : List (Pce × Value)}
theorem RC.frame (h : RC w r m B0 s T Y b n GA gc G) (k : Mod Y w w') (hx : ∀ x, Y' x → Y x ∨ w.heap.size ≤ x) (hl : ∀ x, Y' x → x < w'.heap.size) : RC w' r m B0 s T Y' b n GA gc G :=
  have hz : ∀ x, T x ∨ Y' x → (T x ∨ Y x) ∨ w.heap.size ≤ x := fun x e => e.elim (fun e => .inl (.inl e)) (fun e => (hx x e).elim (fun e => .inl (.inr e)) .inr)
  ⟨h.blk.mod k (fun e => (h.tl r h.tr).2 e), h.vm.mod k (fun _ e => .inr e) hz (fun e => (h.tl b h.tb).2 e),
    row_mod h.own k (fun x hb e => by
      cases hG : GA with
      | none => rw [hG] at hb; cases hb
      | some a =>
        rw [hG] at hb
        have : a.block = x := Option.some.inj hb
        rw [← this] at e
        exact (h.tl _ (h.gown a hG).1).2 e),
    h.gt, fun x hx => (h.vals x hx).mod k (fun _ e => .inr e) hz, h.gown, h.tr, h.tb, h.ne,
    fun x e => ⟨Nat.lt_of_lt_of_le (h.tl x e).1 k.size, fun e' => (hx x e').elim (h.tl x e).2 (fun e'' => by have := (h.tl x e).1; omega)⟩, hl⟩
end
set_option maxRecDepth 100000 in
set_option maxHeartbeats 4000000 in
theorem rnewC_c (w : World) (Y : Nat → Prop) (hY : ∀ x, Y x → x < w.heap.size) : Calls Try.prog 7 #[] w fun e w' => ∃ r b, e = .returned (.pointer (some ⟨r, 0, none⟩)) ∧ w.heap.size ≤ r ∧ w.heap.size ≤ b ∧ RC w' r 1 w.heap.size AS.new (fun x => x = r ∨ x = b) Y b 1 none 0 [] ∧ Below w.heap.size w w' := by
  have HY := Lib.hid hY
  clear hY
  have hmk := @run_makeMap Try.prog
  go_enter Try.func7, Try.ntmps7
  go_wp2_with (first | (refine at_insert rfl (.tmp 1) (.const (.int .i64 0)) (.const (.slice none 0 0)) rfl (int_keyed Try.underlying3) Try.underlying34 rfl (mapV_made w Try.prog 3) (lt_maxLen (Nat.zero_le _)) _ _ (.int .i64 0) rfl rfl key0 trivial ?_; intro w1 hm1 hd1; have HM1 := Lib.hid hm1; have HD1 := Lib.hid hd1; clear hm1 hd1))
  have hm1 : MapV Try.prog 3 w1 w.heap.size 1 (putF (fun _ => none) (.int .i64 0) (.slice none 0 0)) 1 := HM1.out
  have hs1 := HD1.out.size
  simp only [World.size_alloc] at hs1
  have hB : Below w.heap.size w w1 := (balloc w _).trans (HD1.out.toBelow (by simp) (fun b hb e => by omega))
  clear hmk
  go_ret
  refine ⟨w1.heap.size, w.heap.size, rfl, by omega, by omega, ⟨(show Blk _ _ #[.map (some w.heap.size), .int .i64 0, .slice none 0 0] from (by repeat (with_reducible (first | assumption | (apply Blk.at; simp; done) | apply Blk.alloc | apply Blk.drew | apply Blk.drewN | apply Blk.more | apply Blk.put | (apply Blk.far; focus (first | assumption | (apply Ne.symm; assumption) | (simp; done) | (simp <;> omega))))))), vm_new _ (hm1.below (balloc w1 _)) rfl, ⟨rfl, .inl ⟨rfl, rfl⟩⟩, rfl, (fun x hx => by simp at hx), (fun a h => by cases h), .inl rfl, .inr rfl, by omega, fun x hx => ⟨?_, fun hX => ?_⟩, fun x hX => ?_⟩, hB.trans ((balloc w1 _).mono hB.size)⟩
  · simp only [World.size_alloc]
    rcases hx with rfl | rfl <;> omega
  · have := HY.out x hX
    rcases hx with rfl | rfl <;> omega
  · have := HY.out x hX
    simp only [World.size_alloc]
    omega
/-- the views behind a new one -/
def newV (V : Int → Option (List Sn)) (st : Nat) (o : List Sn) : Int → Option (List Sn) := fun k => if k = st then some o else if 0 < k ∧ k ≤ (st : Int) - 32 then none else V k
def joinG (got : List Pce) (ma : Nat) : List Nat := joinF (fun i => (pieceAt got i).getD []) ma
/-- all pieces are there -/
noncomputable def AS.whole (s : AS) (p : Pce) : Bool × AS :=
  match s.V p.ba with
  | none => (false, { s with got := [] })
  | some R =>
    match ansF (mx R) R.length (joinG s.got p.ma) with
    | none => (false, { s with got := [] })
    | some o => (true, ⟨newV s.V p.st o, p.st, []⟩)
/-- those that are gathered stay, or others are -/
def kept (got : List Pce) (p : Pce) : List Pce := if got.any (fun q => decide (q.st < p.st)) then [] else got
/-- a piece does not fit -/
def unfit (g : List Pce) (p : Pce) : Bool := g.any fun q => decide (q.ba ≠ p.ba) || decide (q.ma ≠ p.ma) || decide (q.ix = p.ix)
/-- what a piece does -/
noncomputable def AS.feed (s : AS) (p : Pce) : Bool × AS :=
  if p.st ≤ s.newest ∨ s.got.any (fun q => decide (p.st < q.st)) = true then (false, s)
  else if unfit (kept s.got p) p = true then (false, s)
  else if (kept s.got p ++ [p]).length < p.ma then (false, { s with got := kept s.got p ++ [p] })
  else AS.whole { s with got := kept s.got p ++ [p] } p
/-- it is as it may be -/
theorem whole_ok {s : AS} {p : Pce} (h : s.ok) (hp : p.ok) : (({ s with got := kept s.got p ++ [p] } : AS).whole p).2.ok := by
  have hnil : ∀ (V : Int → Option (List Sn)) (k : Nat), V 0 = some [] → (∀ k R, V k = some R → 0 ≤ k ∧ k ≤ 70368744177664 ∧ R.length ≤ 60) → k ≤ 70368744177664 → (V k).isSome → (⟨V, k, []⟩ : AS).ok := fun V k h1 h2 h3 h4 =>
    ⟨h1, h2, h3, h4, fun p h => by simp at h, fun p h => by simp at h, List.Pairwise.nil, fun p h => by simp at h⟩
  unfold AS.whole
  simp only
  split
  · exact hnil _ _ h.zero h.views h.top h.has
  · rename_i R hR
    split
    · exact hnil _ _ h.zero h.views h.top h.has
    · rename_i o ho
      have h1 := hp.1.1
      have h2 := hp.1.2.1
      have hO : o.length ≤ 60 := by
        unfold ansF at ho
        cases hx : applyF (openL (joinG (kept s.got p ++ [p]) p.ma)) ((openL (joinG (kept s.got p ++ [p]) p.ma)).length + 1) 0 [] (rowsOf (mx R) R.length) 0 with
        | none => rw [hx] at ho; cases ho
        | some y =>
          rw [hx] at ho
          have : (if dN (mx R) R.length (mx y) y.length = 0 ∧ dL (mx R) R.length (mx y) y.length = joinG (kept s.got p ++ [p]) p.ma then some y else none) = some o := ho
          split at this
          · rename_i hd
            cases this
            exact (d_zero.1 hd.1).2.1.2
          · cases this
      refine hnil _ _ ?_ ?_ h2 ?_
      · simp only [newV]
        rw [if_neg (by omega), if_neg (by omega)]
        exact h.zero
      · intro k R' hk
        simp only [newV] at hk
        split at hk
        · cases hk
          exact ⟨by omega, by omega, hO⟩
        · split at hk
          · cases hk
          · exact h.views k R' hk
      · simp [newV]
end Go.Proofs.Ytefhmbmbhiehdaa
namespace Go.Proofs.Ytefhmbmbhiehdaa
open Go.ChangeShapes Go.WideShapes Go.ChangeAt Go.RowKit Go.BigFrame Go.Maps
open B
theorem nd_len : ∀ (n : Nat) (l : List Nat), l.Nodup → (∀ x ∈ l, x < n) → l.length ≤ n
  | 0, l, _, h => by
    cases l with
    | nil => simp
    | cons x t => have := h x (by simp); omega
  | n + 1, l, hn, h => by
    by_cases hm : n ∈ l
    · have h1 := nd_len n (l.erase n) (hn.erase n) (fun x hx => by
        have h2 := h x (List.mem_of_mem_erase hx)
        have h3 : x ≠ n := fun e => by
          subst e
          exact (hn.not_mem_erase) hx
        omega)
      rw [List.length_erase_of_mem hm] at h1
      have : 0 < l.length := List.length_pos_of_mem hm
      omega
    · have := nd_len n l hn (fun x hx => by
        have h2 := h x hx
        have h3 : x ≠ n := fun e => hm (e ▸ hx)
        omega)
      omega
theorem all_there {n : Nat} {l : List Nat} (hn : l.Nodup) (h : ∀ x ∈ l, x < n) (hl : n ≤ l.length) : ∀ i, i < n → i ∈ l := by
  intro i hi
  apply Classical.byContradiction
  intro hm
  have := nd_len n (i :: l) (List.nodup_cons.2 ⟨hm, hn⟩) (fun x hx => by
    rcases List.mem_cons.1 hx with rfl | hx
    · exact hi
    · exact h x hx)
  simp at this
  omega
theorem pieceAt_some {got : List Pce} {i : Nat} : pieceAt got i ≠ none ↔ i ∈ got.map (·.ix) := by
  unfold pieceAt
  rw [ne_eq, Option.map_eq_none_iff, List.find?_eq_none]
  simp only [List.mem_map, beq_iff_eq]
  constructor
  · intro h
    apply Classical.byContradiction
    intro hc
    exact h fun x hx e => hc ⟨x, hx, e⟩
  · rintro ⟨x, hx, e⟩ h
    exact h x hx e
theorem pieces_all {got : List Pce} {ma : Nat} (hp : got.Pairwise (fun p q => p.ix ≠ q.ix)) (hl : ∀ p ∈ got, p.ix < ma) (hn : ma ≤ got.length) : ∀ i, i < ma → pieceAt got i ≠ none := fun i hi => by
  rw [pieceAt_some]
  refine all_there (n := ma) ?_ ?_ (by simpa using hn) i hi
  · unfold List.Nodup
    rw [List.pairwise_map]
    exact hp
  · intro x hx
    obtain ⟨p, hp, rfl⟩ := List.mem_map.1 hx
    exact hl p hp
section
variable {S Z : Nat → Prop} {w : World} {c ma : Nat} {got : List Pce} {st ba hv : Int} {PA : Option Addr}
theorem GatP.lt (h : GatP S Z w c got st ba PA ma hv) (p : Pce) : got.any (fun q => decide (p.st < q.st)) = decide ((p.st : Int) < st) := by
  rcases h with ⟨rfl, rfl, _⟩ | ⟨h0, h1, _⟩
  · simp
  · cases got with
    | nil => exact absurd rfl h0
    | cons q0 t =>
      have hq := (h1 q0 (by simp)).1
      by_cases hl : (p.st : Int) < st
      · rw [decide_eq_true hl, List.any_eq_true]
        exact ⟨q0, by simp, by simp; omega⟩
      · rw [decide_eq_false hl, List.any_eq_false]
        intro q hq'
        have := (h1 q hq').1
        simp
        omega
theorem GatP.kept (h : GatP S Z w c got st ba PA ma hv) (p : Pce) : kept got p = if st < (p.st : Int) then [] else got := by
  unfold Go.Proofs.Ytefhmbmbhiehdaa.kept
  rcases h with ⟨rfl, rfl, _⟩ | ⟨h0, h1, _⟩
  · simp
  · cases got with
    | nil => exact absurd rfl h0
    | cons q0 t =>
      have hq := (h1 q0 (by simp)).1
      by_cases hl : st < (p.st : Int)
      · rw [if_pos hl, if_pos]
        rw [List.any_eq_true]
        exact ⟨q0, by simp, by simp; omega⟩
      · rw [if_neg hl, if_neg]
        rw [Bool.not_eq_true, List.any_eq_false]
        intro q hq'
        have := (h1 q hq').1
        simp
        omega
theorem GatP.unfit (h : GatP S Z w c got st ba PA ma hv) (h0 : got ≠ []) (p : Pce) : unfit got p = decide ((p.ba : Int) ≠ ba ∨ p.ma ≠ ma ∨ pieceAt got p.ix ≠ none) := by
  rcases h with ⟨h, _⟩ | ⟨_, h1, _⟩
  · exact absurd h h0
  · rw [Bool.eq_iff_iff, decide_eq_true_iff]
    unfold Go.Proofs.Ytefhmbmbhiehdaa.unfit
    rw [List.any_eq_true]
    constructor
    · rintro ⟨q, hq, hb⟩
      have := h1 q hq
      simp at hb
      rcases hb with (hb | hb) | hb
      · left; omega
      · right; left; omega
      · right; right
        rw [pieceAt_some]
        exact List.mem_map.2 ⟨q, hq, hb⟩
    · intro hb
      cases hg : got with
      | nil => exact absurd hg h0
      | cons q0 t =>
        rw [← hg]
        have hq0 : q0 ∈ got := by rw [hg]; simp
        have := h1 q0 hq0
        rcases hb with hb | hb | hb
        · exact ⟨q0, hq0, by simp; omega⟩
        · exact ⟨q0, hq0, by simp; omega⟩
        · rw [pieceAt_some] at hb
          obtain ⟨q, hq, e⟩ := List.mem_map.1 hb
          exact ⟨q, hq, by simp [e]⟩
end
theorem kept_mem {got : List Pce} {p q : Pce} (h : q ∈ kept got p) : q ∈ got ∧ p.st ≤ q.st := by
  unfold kept at h
  split at h
  · simp at h
  · rename_i hn
    rw [Bool.not_eq_true, List.any_eq_false] at hn
    have := hn q h
    simp at this
    exact ⟨h, this⟩
/-- what is gathered with one piece more -/
structure Gath (g : List Pce) (p : Pce) : Prop where
  pcs : ∀ q ∈ g ++ [p], q.ok
  same : ∀ q ∈ g ++ [p], q.st = p.st ∧ q.ba = p.ba ∧ q.ma = p.ma
  ix : (g ++ [p]).Pairwise (fun p q => p.ix ≠ q.ix)
theorem gath {s : AS} {p : Pce} (h : s.ok) (hp : p.ok) (h1 : ¬ (s.got.any (fun q => decide (p.st < q.st)) = true)) (h2 : ¬ unfit (kept s.got p) p = true) : Gath (kept s.got p) p := by
  rw [Bool.not_eq_true, List.any_eq_false] at h1
  unfold unfit at h2
  rw [Bool.not_eq_true, List.any_eq_false] at h2
  have hk : ∀ q ∈ kept s.got p, q.st = p.st ∧ q.ba = p.ba ∧ q.ma = p.ma ∧ q.ix ≠ p.ix := fun q hq => by
    have a1 := kept_mem hq
    have a2 := h1 q a1.1
    have a3 := h2 q hq
    simp at a2 a3
    exact ⟨by omega, a3.1.1, a3.1.2, a3.2⟩
  refine ⟨fun q hq => ?_, fun q hq => ?_, ?_⟩
  · rcases List.mem_append.1 hq with hq | hq
    · exact h.pcs q (kept_mem hq).1
    · simp at hq; rw [hq]; exact hp
  · rcases List.mem_append.1 hq with hq | hq
    · have := hk q hq; exact ⟨this.1, this.2.1, this.2.2.1⟩
    · simp at hq; rw [hq]; exact ⟨rfl, rfl, rfl⟩
  · rw [List.pairwise_append]
    refine ⟨?_, by simp, fun a ha b hb => ?_⟩
    · unfold kept
      split
      · exact List.Pairwise.nil
      · exact h.ix
    · simp at hb
      rw [hb]
      exact (hk a ha).2.2.2
theorem Gath.all {g : List Pce} {p : Pce} (h : Gath g p) (hl : ¬ (g ++ [p]).length < p.ma) : ∀ i, i < p.ma → pieceAt (g ++ [p]) i ≠ none :=
  pieces_all h.ix (fun q hq => by have := (h.pcs q hq).1.2.2.2.2.2.1; have := (h.same q hq).2.2; omega) (by omega)
theorem feed_ok {s : AS} {p : Pce} (h : s.ok) (hp : p.ok) : (s.feed p).2.ok := by
  unfold AS.feed
  split
  · exact h
  · rename_i h1
    split
    · exact h
    · rename_i h2
      have hG := gath h hp (fun e => h1 (.inr e)) h2
      split
      · rename_i h3
        exact ⟨h.zero, h.views, h.top, h.has, hG.pcs, fun q hq r hr => by have a := hG.same q hq; have b := hG.same r hr; omega, hG.ix, fun q hq => by have a := hG.same q hq; simp only; omega⟩
      · exact whole_ok h hp
end Go.Proofs.Ytefhmbmbhiehdaa
namespace Go.Proofs.Ytefhmbmbhiehdaa
open Go.ChangeShapes Go.WideShapes Go.ChangeAt Go.RowKit Go.BigFrame Go.Maps
open B
theorem pceL_len (x : Pce × Value) : (pceL x).length = 5 := rfl
theorem rowsP_cons (y : Pce × Value) (G : List (Pce × Value)) : rowsP (y :: G) = pceL y ++ rowsP G := rfl
theorem rowsP_app (G : List (Pce × Value)) (y : Pce × Value) : rowsP (G ++ [y]) = rowsP G ++ pceL y := by
  unfold rowsP
  simp
theorem rowsP_len : ∀ (G : List (Pce × Value)), (rowsP G).length = G.length * 5
  | [] => rfl
  | y :: G => by rw [rowsP_cons, List.length_append, pceL_len, rowsP_len G, List.length_cons]; omega
theorem rowsP_get : ∀ {G : List (Pce × Value)} {k : Nat} {x : Pce × Value}, G[k]? = some x → ∀ j, j < 5 → (rowsP G)[k * 5 + j]? = (pceL x)[j]?
  | [], k, x, h => by simp at h
  | y :: G, 0, x, h => fun j hj => by
    rw [rowsP_cons, List.getElem?_append_left (by rw [pceL_len]; omega)]
    simp at h
    rw [h]
    simp
  | y :: G, k + 1, x, h => fun j hj => by
    rw [rowsP_cons, List.getElem?_append_right (by rw [pceL_len]; omega), pceL_len]
    rw [show (k + 1) * 5 + j - 5 = k * 5 + j from by omega]
    exact rowsP_get (by simpa using h) j hj
/-- the pieces as they are read -/
def PcsAt (w : World) (A : Option Addr) (G : List (Pce × Value)) : Prop := 0 < G.length → ∃ g o, A = some ⟨g, o, none⟩ ∧ g < w.heap.size ∧ ∀ k x, G[k]? = some x → ∀ j v, (pceL x)[j]? = some v → w.cell? ⟨g, o + (k * 5 + j), none⟩ = some v
theorem pcsAt {w : World} {B0 n : Nat} {e : TypeId} {A : Option Addr} {N gc : Nat} {G : List (Pce × Value)} (h : w.ownsRow B0 e 5 (.slice A N gc) n (rowsP G)) : PcsAt w A G := fun h0 => by
  have hl := h.1
  rw [rowsP_len] at hl
  obtain ⟨g, cap, hv, _, hg, _, _, _, hc, _⟩ := row_at h (by omega)
  cases hv
  refine ⟨g, 0, rfl, hg, fun k x hk j v hj => ?_⟩
  rw [Nat.zero_add]
  have h5 := (List.getElem?_eq_some_iff.1 hj).1
  rw [pceL_len] at h5
  exact hc _ _ ((rowsP_get hk j h5).trans hj)
theorem PcsAt.below {w w' : World} {A : Option Addr} {G : List (Pce × Value)} (h : PcsAt w A G) (k : Below w.heap.size w w') : PcsAt w' A G := fun h0 => by
  obtain ⟨g, o, e, hg, hc⟩ := h h0
  exact ⟨g, o, e, Nat.lt_of_lt_of_le hg k.size, fun i x hi j v hj => ((Mod.of_below (S := fun _ => False) k).cell hg id).trans (hc i x hi j v hj)⟩
theorem row_zero {w : World} {B0 size n : Nat} {e : TypeId} {v : Value} {xs : List Value} (h : w.ownsRow B0 e size v n xs) : w.ownsRow 0 e size v n xs := by
  obtain ⟨h1, h2 | ⟨g, cap, cur, e1, _, h3⟩⟩ := h
  · exact ⟨h1, .inl h2⟩
  · exact ⟨h1, .inr ⟨g, cap, cur, e1, Nat.zero_le _, h3⟩⟩
section
variable {s : AS} {q0 p : Pce}
theorem any_lt (hs : s.ok) (h : q0 ∈ s.got) : (s.got.any fun q => decide (p.st < q.st)) = decide (p.st < q0.st) := by
  rw [Bool.eq_iff_iff, List.any_eq_true, decide_eq_true_iff]
  constructor
  · rintro ⟨q, hq, e⟩
    have := hs.one q hq q0 h
    simp at e
    omega
  · exact fun e => ⟨q0, h, by simpa using e⟩
theorem any_gt (hs : s.ok) (h : q0 ∈ s.got) : (s.got.any fun q => decide (q.st < p.st)) = decide (q0.st < p.st) := by
  rw [Bool.eq_iff_iff, List.any_eq_true, decide_eq_true_iff]
  constructor
  · rintro ⟨q, hq, e⟩
    have := hs.one q hq q0 h
    simp at e
    omega
  · exact fun e => ⟨q0, h, by simpa using e⟩
end
theorem kept_as (got : List Pce) (p : Pce) : kept got p = if (got.any fun q => decide (q.st < p.st)) = true then [] else got := rfl
/-- a piece that is there does not stand in the way -/
def fits (p q : Pce) : Prop := q.ba = p.ba ∧ q.ma = p.ma ∧ q.ix ≠ p.ix
theorem unfit_not {g : List Pce} {p : Pce} (h : ∀ q ∈ g, fits p q) : unfit g p = false := by
  unfold unfit
  rw [List.any_eq_false]
  intro q hq
  obtain ⟨h1, h2, h3⟩ := h q hq
  simp [h1, h2, h3]
theorem unfit_yes {g : List Pce} {p q : Pce} (hq : q ∈ g) (h : ¬ fits p q) : unfit g p = true := by
  unfold unfit
  rw [List.any_eq_true]
  refine ⟨q, hq, ?_⟩
  unfold fits at h
  simp
  omega
theorem kept_of_unfit {got : List Pce} {p : Pce} (h : unfit (kept got p) p = true) : kept got p = got := by
  unfold kept at h ⊢
  split
  · rename_i e
    rw [if_pos e] at h
    simp [unfit] at h
  · rfl
/-- the bytes of the pieces that are the i-th ones, of the first k -/
def innr (G : List (Pce × Value)) (i k : Nat) : List Nat := (G.take k).flatMap fun x => if x.1.ix = i then x.1.l else []
theorem innr_zero (G : List (Pce × Value)) (i : Nat) : innr G i 0 = [] := rfl
theorem innr_succ {G : List (Pce × Value)} {i k : Nat} {x : Pce × Value} (h : G[k]? = some x) : innr G i (k + 1) = innr G i k ++ if x.1.ix = i then x.1.l else [] := by
  unfold innr
  rw [List.take_add_one, h]
  simp
theorem innr_none {i : Nat} : ∀ {G : List (Pce × Value)}, (∀ x ∈ G, x.1.ix ≠ i) → (G.flatMap fun x => if x.1.ix = i then x.1.l else []) = []
  | [], _ => rfl
  | y :: G, h => by
    rw [List.flatMap_cons, if_neg (h y (by simp)), innr_none fun x hx => h x (by simp [hx])]
    rfl
theorem innr_flat {i : Nat} : ∀ {G : List (Pce × Value)}, (G.map (·.1)).Pairwise (fun p q => p.ix ≠ q.ix) → (G.flatMap fun x => if x.1.ix = i then x.1.l else []) = (pieceAt (G.map (·.1)) i).getD []
  | [], _ => rfl
  | y :: G, h => by
    rw [List.map_cons, List.pairwise_cons] at h
    rw [List.flatMap_cons]
    by_cases e : y.1.ix = i
    · rw [if_pos e, innr_none fun x hx => ?_]
      · simp [pieceAt, e]
      · have := h.1 x.1 (List.mem_map.2 ⟨x, hx, rfl⟩)
        omega
    · rw [if_neg e, innr_flat h.2]
      have : (y.1.ix == i) = false := by simpa using e
      simp [pieceAt, this]
theorem innr_all {G : List (Pce × Value)} {i : Nat} (h : (G.map (·.1)).Pairwise (fun p q => p.ix ≠ q.ix)) : innr G i G.length = (pieceAt (G.map (·.1)) i).getD [] := by
  rw [← innr_flat h]
  unfold innr
  rw [List.take_length]
section
variable {T Y : Nat → Prop} {w w' : World} {r m b n B0 gc : Nat} {GA : Option Addr} {s : AS} {G : List (Pce × Value)}
theorem RC.belowR (h : RC w r m B0 s T Y b n GA gc G) (k : Below w.heap.size w w') : RC w' r m B0 s T Y b n GA gc G := h.frame (Mod.of_below k) (fun _ e => .inl e) (fun x e => Nat.lt_of_lt_of_le (h.yl x e) k.size)
theorem RC.moreR (h : RC w r m B0 s T Y b n GA gc G) {m' : Nat} (hm : m ≤ m') : RC w r m' B0 s T Y b n GA gc G := ⟨h.blk, h.vm.more hm, h.own, h.gt, h.vals, h.gown, h.tr, h.tb, h.ne, h.tl, h.yl⟩
/-- the client, when nothing is gathered -/
theorem RC.empty (h : RC w r m B0 s T Y b n GA gc G) (k : Mod (· = r) w w') (hb : Blk w' r #[.map (some b), .int .i64 s.newest, .slice none 0 0]) : RC w' r m 0 { s with got := [] } T Y b n none 0 [] :=
  ⟨hb, h.vm.mod k (fun x e => .inl (e ▸ h.tr)) (fun x e => .inl e) (fun e => h.ne e.symm), ⟨rfl, .inl ⟨rfl, rfl⟩⟩, rfl, fun x hx => (by cases hx), fun a e => (by cases e), h.tr, h.tb, h.ne, fun x hx => ⟨Nat.lt_of_lt_of_le (h.tl x hx).1 k.size, (h.tl x hx).2⟩, fun x hx => Nat.lt_of_lt_of_le (h.yl x hx) k.size⟩
/-- the client, with one piece more -/
theorem RC.put {p : Pce} {v : Value} {g gc' : Nat} (h : RC w r m B0 s T Y b n GA gc G) (k : Mod (fun x => x = r ∨ (Value.slice GA G.length gc).ownBlock = some x) w w') (hb : Blk w' r #[.map (some b), .int .i64 s.newest, .slice (some ⟨g, 0, none⟩) ((G.length : Nat) + 1) gc'])
    (own : w'.ownsRow 0 45 5 (.slice (some ⟨g, 0, none⟩) (G.length + 1) gc') (G.length + 1) (rowsP (G ++ [(p, v)]))) (hg : (Value.slice GA G.length gc).ownBlock = some g ∨ w.heap.size ≤ g) (hgl : g < w'.heap.size) (hv : RbZ (fun x => (T x ∨ x = g) ∨ Y x) w' v p.l) :
    RC w' r m 0 { s with got := s.got ++ [p] } (fun x => T x ∨ x = g) Y b n (some ⟨g, 0, none⟩) gc' (G ++ [(p, v)]) := by
  have hT : ∀ x, x = r ∨ (Value.slice GA G.length gc).ownBlock = some x → T x := by
    rintro x (rfl | e)
    · exact h.tr
    · cases hG : GA with
      | none => rw [hG] at e; cases e
      | some a =>
        rw [hG] at e
        have e' : a.block = x := Option.some.inj e
        exact e' ▸ (h.gown a hG).1
  have hgg : T g ∧ g ≠ r ∧ g ≠ b ∨ w.heap.size ≤ g := by
    rcases hg with e | e
    · cases hG : GA with
      | none => rw [hG] at e; cases e
      | some a =>
        rw [hG] at e
        have e' : a.block = g := Option.some.inj e
        exact .inl (e' ▸ h.gown a hG)
    · exact .inr e
  have hz : ∀ x, (T x ∨ x = g) ∨ Y x → (T x ∨ Y x) ∨ w.heap.size ≤ x := by
    rintro x ((e | rfl) | e)
    · exact .inl (.inl e)
    · exact hgg.elim (fun e => .inl (.inl e.1)) .inr
    · exact .inl (.inr e)
  have hbT : ¬ (b = r ∨ (Value.slice GA G.length gc).ownBlock = some b) := by
    rintro (e | e)
    · exact h.ne e.symm
    · cases hG : GA with
      | none => rw [hG] at e; cases e
      | some a =>
        rw [hG] at e
        have e' : a.block = b := Option.some.inj e
        exact (h.gown a hG).2.2 e'
  have hrl := h.blk.lt
  have hbl := (h.tl b h.tb).1
  refine ⟨by simpa using hb, h.vm.mod k (fun x e => .inl (hT x e)) hz hbT, by simpa using own, by simp [h.gt], ?_, ?_, .inl h.tr, .inl h.tb, h.ne, ?_, fun x hx => Nat.lt_of_lt_of_le (h.yl x hx) k.size⟩
  · intro x hx
    rcases List.mem_append.1 hx with hx | hx
    · exact (h.vals x hx).mod k (fun x e => .inl (hT x e)) hz
    · rw [List.mem_singleton] at hx
      subst hx
      exact hv
  · rintro a e
    cases e
    refine ⟨.inr rfl, ?_, ?_⟩
    · exact hgg.elim (fun e => e.2.1) (fun e e' => by have e' : g = r := e'; omega)
    · exact hgg.elim (fun e => e.2.2) (fun e e' => by have e' : g = b := e'; omega)
  · rintro x (e | rfl)
    · exact ⟨Nat.lt_of_lt_of_le (h.tl x e).1 k.size, (h.tl x e).2⟩
    · refine ⟨hgl, fun e => ?_⟩
      rcases hgg with e' | e'
      · exact (h.tl x e'.1).2 e
      · have := h.yl x e; omega
end
end Go.Proofs.Ytefhmbmbhiehdaa
