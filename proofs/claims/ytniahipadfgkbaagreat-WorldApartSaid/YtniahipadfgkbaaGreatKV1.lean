/- A world's body, found by its number. Conditions: none. -/
import Derived.Deep.MidRow
import Derived.Test.YtniahipadfgkbaaGreatKS2
import Derived.Test.YtniahipadfgkbaaGreatShelf
import Derived.Deep.LoopGhost
namespace Go.Proofs.YtniahipadfgkbaaGreat
open Go Go.Maps Go.RowKit Go.BigFrame Go.ChangeShapes Go.WideShapes Go.ChangeAt
theorem mod_setCells {S : Nat → Prop} {b : Nat} : ∀ (vs : List Value) (o : Nat) {w w' : World}, Mod S w w' → (S b ∨ w.heap.size ≤ b) → Mod S w (w'.setCells b o vs)
  | [], _, _, _, h, _ => h
  | v :: vs, o, _, _, h, hb => mod_setCells vs (o + 1) (h.set (i := o) (v := v) hb) hb
theorem size_setCells (b : Nat) : ∀ (vs : List Value) (o : Nat) (w : World), (w.setCells b o vs).heap.size = w.heap.size
  | [], _, _ => rfl
  | v :: vs, o, w => by
    rw [World.setCells, size_setCells b vs (o + 1)]
    simp
theorem blk_there {w : World} {b : Nat} {c : Array Value} (h : Blk w b c) : w.there b 0 c.size := fun j hj => ⟨by rw [h.cell]; simp [hj], h.free _⟩
theorem blk_range {w : World} {b : Nat} {c : Array Value} (h : Blk w b c) : w.rangeAt b 0 c.toList := fun j v hv => by
  rw [h.cell, Nat.zero_add]
  simpa using hv
theorem blk_setCells {w : World} {b : Nat} {c c' : Array Value} (h : Blk w b c) (hs : c.size = c'.size) : Blk (w.setCells b 0 c'.toList) b c' := by
  refine ⟨by rw [size_setCells]; exact h.lt, fun o => ?_, fun o => by rw [World.frozen?_setCells]; exact h.free o⟩
  rcases Nat.lt_or_ge o c'.toList.length with hl | hl
  · have := World.cell?_setCells_in b c'.toList 0 w (fun j hj => by rw [h.cell]; simp at hj; simp [hs, hj]) o hl
    rw [Nat.zero_add] at this
    rw [this]
    simp at hl
    simp [hl]
  · rw [World.cell?_setCells_out b c'.toList 0 w ⟨b, o, none⟩ (fun _ _ => .inr (by simpa using hl)), h.cell]
    simp at hl
    rw [Array.getElem?_eq_none (by omega), Array.getElem?_eq_none (by omega)]
/-- a whole struct stored -/
theorem at_store_blk {P : Program} {ops : Array Oper} {rest : List Oper} {op : Oper} {a : Act} {w : World} {Q : Exit → Act → World → Prop} {c c' : Array Value} {b : Nat} (hgd : op.guard = none) (ty : TypeId) (x y : Operand) (ho : op.op = .store ty x y)
    (hx : a.eval x = .pointer (some ⟨b, 0, none⟩)) (hy : a.eval y = .agg c') (hb : Blk w b c) (hs : c.size = c'.size) (hi : (P.info? ty).map (·.size) = some c'.size) (h1 : c'.all (·.oneCell') = true)
    (h : ∀ w', Blk w' b c' → Mod (· = b) w w' → wpList P ops Q rest (a.put op.dst undef) w') : wpList P ops Q (op :: rest) a w :=
  wpList_store_mid hgd ty x y ho b 0 c' hx hy (hs ▸ blk_there hb) hi h1 (h _ (blk_setCells hb hs) (mod_setCells _ _ (Mod.refl _ _) (.inl rfl)))
theorem bodyInfoW : (Tryz.prog.info? 37).map (·.size) = some 17 := by kernel_rfl
/-- a row of a table, read -/
theorem reads_range {w w' : World} {bb oo n : Nat} {M : Nat → Nat → Int} {i c : Nat} (hb : Below w.heap.size w w') (hbb : bb < w.heap.size) (hcl : ∀ k, k < n → ∀ j, j < c → w.cell? ⟨bb, oo + (k * c + j), none⟩ = some (.int .i64 (M k j))) (hi : i < n) :
    w'.rangeAt bb (oo + i * c) ((List.range c).map fun j => .int .i64 (M i j)) := fun j v hv => by
  rw [List.getElem?_map] at hv
  rcases Nat.lt_or_ge j c with hj | hj
  · rw [List.getElem?_range hj] at hv
    cases hv
    rw [Nat.add_assoc]
    exact (hb.cell (p := ⟨bb, oo + (i * c + j), none⟩) hbb).trans (hcl i hi j hj)
  · rw [List.getElem?_eq_none (by simpa using hj)] at hv
    cases hv
end Go.Proofs.YtniahipadfgkbaaGreat
namespace Go.Proofs.YtniahipadfgkbaaGreat
open Go Go.Maps Go.RowKit Go.BigFrame Go.ChangeShapes Go.WideShapes Go.ChangeAt
/-- the numbers rise -/
def Rise (M : Nat → Nat → Int) (n : Nat) : Prop := ∀ i j, i < j → j < n → M i 0 < M j 0
def cmpI (x y : Int) : Int := if x < y then -1 else if x > y then 1 else 0
theorem cmpI_c (x y : Int) (w : World) : Calls Tryz.prog 55 #[.int .i64 x, .int .i64 y] w fun e w' => e = .returned (.int .i64 (cmpI x y)) ∧ w = w' :=
  (Tryz.cmp_Compare_int x y w).mono fun _ _ h => ⟨h.1, h.2.symm⟩
theorem cmpI_lt {x y : Int} (h : x < y) : decide (cmpI x y < 0) = true := by unfold cmpI; rw [if_pos h]; rfl
theorem cmpI_ge {x y : Int} (h : y ≤ x) : decide (cmpI x y < 0) = false := by
  unfold cmpI
  rw [if_neg (by omega)]
  split <;> rfl
theorem cmpI_eq (x y : Int) : (cmpI x y == 0) = (x == y) := by
  unfold cmpI
  by_cases h1 : x < y
  · rw [if_pos h1]
    have : (x == y) = false := by simpa using (by omega : ¬ x = y)
    rw [this]; rfl
  · rw [if_neg h1]
    by_cases h2 : x > y
    · rw [if_pos h2]
      have : (x == y) = false := by simpa using (by omega : ¬ x = y)
      rw [this]; rfl
    · rw [if_neg h2]
      have : (x == y) = true := by simpa using (by omega : x = y)
      rw [this]; rfl
theorem find1_c (id ow kd s1 s2 s3 a1 a2 a3 v1 v2 v3 p1 p2 p3 ms tm x : Int) (w : World) :
    Calls Tryz.prog 62 #[.agg #[.int .i64 id, .int .i64 ow, .int .i64 kd, .int .i64 s1, .int .i64 s2, .int .i64 s3, .int .i64 a1, .int .i64 a2, .int .i64 a3, .int .i64 v1, .int .i64 v2, .int .i64 v3, .int .i64 p1, .int .i64 p2, .int .i64 p3, .int .i64 ms, .int .i64 tm], .int .i64 x] w fun e w' => e = .returned (.int .i64 (cmpI id x)) ∧ Below w.heap.size w w' := by
  go_enter Tryz.func62, Tryz.ntmps62
  go_wp2_with (go_at_call 55; refine (cmpI_c _ _ _).mono ?_; rintro e w2 ⟨rfl, rfl⟩)
  go_ret
  exact ⟨rfl, (Below.refl _ _).alloc (Nat.le_refl _) _⟩
/-- where a number is, or would be -/
def At (M : Nat → Nat → Int) (n : Nat) (x : Int) (k : Nat) : Prop := k ≤ n ∧ (∀ i, i < k → M i 0 < x) ∧ ∀ i, k ≤ i → i < n → x ≤ M i 0
set_option maxRecDepth 100000 in
set_option maxHeartbeats 4000000 in
theorem bsearch_c (M : Nat → Nat → Int) (A : Option Addr) (n cap : Nat) (x : Int) (w : World) (hn : n ≤ 1000000) (hR : Reads w A n 17 M) (hs : Rise M n) :
    Calls Tryz.prog 61 #[.slice A n cap, .int .i64 x, .func (.func 62) #[] #[]] w fun e w' => ∃ k : Nat, e = .returned (.tuple #[.int .i64 (k : Int), .bool (decide (k < n) && (M k 0 == x))]) ∧ At M n x k ∧ Below w.heap.size w w' := by
  have HR := Lib.hid hR
  have HS := Lib.hid hs
  clear hR hs
  go_enter Tryz.func61, Tryz.ntmps61
  go_wp2
  go_loopg [9, 10] n (fun k vi vj wr => ∃ i j : Nat, vi = .int .i64 (i : Int) ∧ vj = .int .i64 (j : Int) ∧ k = j - i ∧ i ≤ j ∧ j ≤ n ∧ (∀ l, l < i → M l 0 < x) ∧ (∀ l, j ≤ l → l < n → x ≤ M l 0) ∧ Below w.heap.size w wr)
  case atStart => exact ⟨0, n, rfl, rfl, by omega, Nat.zero_le _, Nat.le_refl _, fun l h => absurd h (Nat.not_lt_zero _), fun l h1 h2 => by omega, Below.refl _ _⟩
  case round =>
    obtain ⟨i, j, rfl, rfl, hk, hij, hjn, hlo, hhi, hb⟩ := hrel
    have HB := Lib.hid hb
    have HLO := Lib.hid hlo
    have HHI := Lib.hid hhi
    have HK := Lib.hid hk
    clear hb hlo hhi hk
    by_cases hlt : i < j
    · have d0 : decide ((i : Int) < (j : Int)) = true := decide_eq_true (by omega)
      have hmid : (i + j) / 2 < n := by omega
      have hhi1 : i ≤ (i + j) / 2 := by omega
      have hhi2 : (i + j) / 2 < j := by omega
      have hsh : wrap64 (((i : Int) + (j : Int))) = (i : Int) + (j : Int) := by unfold wrap64; omega
      have hsh2 : wrap64 ((((i : Int) + (j : Int)) / 2) + 1) = ((i : Int) + (j : Int)) / 2 + 1 := by unfold wrap64; omega
      obtain ⟨bb, oo, eA, hbb, hcl⟩ := HR.out (by omega)
      subst eA
      have q0 : wr.cell? ⟨bb, oo + (((i + j) / 2) * 17 + 0), none⟩ = some (.int .i64 (M ((i + j) / 2) 0)) := (HB.out.cell (p := ⟨bb, oo + (((i + j) / 2) * 17 + 0), none⟩) hbb).trans (hcl ((i + j) / 2) hmid 0 (by decide))
      have q1 : wr.cell? ⟨bb, oo + (((i + j) / 2) * 17 + 1), none⟩ = some (.int .i64 (M ((i + j) / 2) 1)) := (HB.out.cell (p := ⟨bb, oo + (((i + j) / 2) * 17 + 1), none⟩) hbb).trans (hcl ((i + j) / 2) hmid 1 (by decide))
      have q2 : wr.cell? ⟨bb, oo + (((i + j) / 2) * 17 + 2), none⟩ = some (.int .i64 (M ((i + j) / 2) 2)) := (HB.out.cell (p := ⟨bb, oo + (((i + j) / 2) * 17 + 2), none⟩) hbb).trans (hcl ((i + j) / 2) hmid 2 (by decide))
      have q3 : wr.cell? ⟨bb, oo + (((i + j) / 2) * 17 + 3), none⟩ = some (.int .i64 (M ((i + j) / 2) 3)) := (HB.out.cell (p := ⟨bb, oo + (((i + j) / 2) * 17 + 3), none⟩) hbb).trans (hcl ((i + j) / 2) hmid 3 (by decide))
      have q4 : wr.cell? ⟨bb, oo + (((i + j) / 2) * 17 + 4), none⟩ = some (.int .i64 (M ((i + j) / 2) 4)) := (HB.out.cell (p := ⟨bb, oo + (((i + j) / 2) * 17 + 4), none⟩) hbb).trans (hcl ((i + j) / 2) hmid 4 (by decide))
      have q5 : wr.cell? ⟨bb, oo + (((i + j) / 2) * 17 + 5), none⟩ = some (.int .i64 (M ((i + j) / 2) 5)) := (HB.out.cell (p := ⟨bb, oo + (((i + j) / 2) * 17 + 5), none⟩) hbb).trans (hcl ((i + j) / 2) hmid 5 (by decide))
      have q6 : wr.cell? ⟨bb, oo + (((i + j) / 2) * 17 + 6), none⟩ = some (.int .i64 (M ((i + j) / 2) 6)) := (HB.out.cell (p := ⟨bb, oo + (((i + j) / 2) * 17 + 6), none⟩) hbb).trans (hcl ((i + j) / 2) hmid 6 (by decide))
      have q7 : wr.cell? ⟨bb, oo + (((i + j) / 2) * 17 + 7), none⟩ = some (.int .i64 (M ((i + j) / 2) 7)) := (HB.out.cell (p := ⟨bb, oo + (((i + j) / 2) * 17 + 7), none⟩) hbb).trans (hcl ((i + j) / 2) hmid 7 (by decide))
      have q8 : wr.cell? ⟨bb, oo + (((i + j) / 2) * 17 + 8), none⟩ = some (.int .i64 (M ((i + j) / 2) 8)) := (HB.out.cell (p := ⟨bb, oo + (((i + j) / 2) * 17 + 8), none⟩) hbb).trans (hcl ((i + j) / 2) hmid 8 (by decide))
      have q9 : wr.cell? ⟨bb, oo + (((i + j) / 2) * 17 + 9), none⟩ = some (.int .i64 (M ((i + j) / 2) 9)) := (HB.out.cell (p := ⟨bb, oo + (((i + j) / 2) * 17 + 9), none⟩) hbb).trans (hcl ((i + j) / 2) hmid 9 (by decide))
      have q10 : wr.cell? ⟨bb, oo + (((i + j) / 2) * 17 + 10), none⟩ = some (.int .i64 (M ((i + j) / 2) 10)) := (HB.out.cell (p := ⟨bb, oo + (((i + j) / 2) * 17 + 10), none⟩) hbb).trans (hcl ((i + j) / 2) hmid 10 (by decide))
      have q11 : wr.cell? ⟨bb, oo + (((i + j) / 2) * 17 + 11), none⟩ = some (.int .i64 (M ((i + j) / 2) 11)) := (HB.out.cell (p := ⟨bb, oo + (((i + j) / 2) * 17 + 11), none⟩) hbb).trans (hcl ((i + j) / 2) hmid 11 (by decide))
      have q12 : wr.cell? ⟨bb, oo + (((i + j) / 2) * 17 + 12), none⟩ = some (.int .i64 (M ((i + j) / 2) 12)) := (HB.out.cell (p := ⟨bb, oo + (((i + j) / 2) * 17 + 12), none⟩) hbb).trans (hcl ((i + j) / 2) hmid 12 (by decide))
      have q13 : wr.cell? ⟨bb, oo + (((i + j) / 2) * 17 + 13), none⟩ = some (.int .i64 (M ((i + j) / 2) 13)) := (HB.out.cell (p := ⟨bb, oo + (((i + j) / 2) * 17 + 13), none⟩) hbb).trans (hcl ((i + j) / 2) hmid 13 (by decide))
      have q14 : wr.cell? ⟨bb, oo + (((i + j) / 2) * 17 + 14), none⟩ = some (.int .i64 (M ((i + j) / 2) 14)) := (HB.out.cell (p := ⟨bb, oo + (((i + j) / 2) * 17 + 14), none⟩) hbb).trans (hcl ((i + j) / 2) hmid 14 (by decide))
      have q15 : wr.cell? ⟨bb, oo + (((i + j) / 2) * 17 + 15), none⟩ = some (.int .i64 (M ((i + j) / 2) 15)) := (HB.out.cell (p := ⟨bb, oo + (((i + j) / 2) * 17 + 15), none⟩) hbb).trans (hcl ((i + j) / 2) hmid 15 (by decide))
      have q16 : wr.cell? ⟨bb, oo + (((i + j) / 2) * 17 + 16), none⟩ = some (.int .i64 (M ((i + j) / 2) 16)) := (HB.out.cell (p := ⟨bb, oo + (((i + j) / 2) * 17 + 16), none⟩) hbb).trans (hcl ((i + j) / 2) hmid 16 (by decide))
      simp only [Nat.add_zero] at q0
      rw [← Nat.add_assoc] at q1
      rw [← Nat.add_assoc] at q2
      rw [← Nat.add_assoc] at q3
      rw [← Nat.add_assoc] at q4
      rw [← Nat.add_assoc] at q5
      rw [← Nat.add_assoc] at q6
      rw [← Nat.add_assoc] at q7
      rw [← Nat.add_assoc] at q8
      rw [← Nat.add_assoc] at q9
      rw [← Nat.add_assoc] at q10
      rw [← Nat.add_assoc] at q11
      rw [← Nat.add_assoc] at q12
      rw [← Nat.add_assoc] at q13
      rw [← Nat.add_assoc] at q14
      rw [← Nat.add_assoc] at q15
      rw [← Nat.add_assoc] at q16
      have hbl : bb < wr.heap.size := Nat.lt_of_lt_of_le hbb HB.out.size
      clear hcl
      by_cases hx : M ((i + j) / 2) 0 < x
      · have dx := cmpI_lt hx
        have HX := Lib.hid hx
        clear hx
        go_wp2_with (go_at_call 62; refine (find1_c (M ((i + j) / 2) 0) (M ((i + j) / 2) 1) (M ((i + j) / 2) 2) (M ((i + j) / 2) 3) (M ((i + j) / 2) 4) (M ((i + j) / 2) 5) (M ((i + j) / 2) 6) (M ((i + j) / 2) 7) (M ((i + j) / 2) 8) (M ((i + j) / 2) 9) (M ((i + j) / 2) 10) (M ((i + j) / 2) 11) (M ((i + j) / 2) 12) (M ((i + j) / 2) 13) (M ((i + j) / 2) 14) (M ((i + j) / 2) 15) (M ((i + j) / 2) 16) x _).mono ?_; rintro e w2 ⟨rfl, hb2⟩)
        go_roundg (j - ((i + j) / 2 + 1))
        case measure => have := HK.out; omega
        case rel => exact ⟨(i + j) / 2 + 1, j, by first | rfl | exact congrArg (Value.int .i64) (by omega) | (rw [hsh2]; exact congrArg (Value.int .i64) (by omega)), rfl, rfl, by omega, hjn, fun l hl => (Nat.lt_or_eq_of_le (Nat.le_of_lt_succ hl)).elim (fun h2 => Int.lt_trans (HS.out l _ h2 hmid) HX.out) (fun h2 => by rw [h2]; exact HX.out), HHI.out, ext_below HB.out hb2⟩
      · have hx' := Int.not_lt.1 hx
        have dx := cmpI_ge hx'
        have HX := Lib.hid hx'
        clear hx hx'
        go_wp2_with (go_at_call 62; refine (find1_c (M ((i + j) / 2) 0) (M ((i + j) / 2) 1) (M ((i + j) / 2) 2) (M ((i + j) / 2) 3) (M ((i + j) / 2) 4) (M ((i + j) / 2) 5) (M ((i + j) / 2) 6) (M ((i + j) / 2) 7) (M ((i + j) / 2) 8) (M ((i + j) / 2) 9) (M ((i + j) / 2) 10) (M ((i + j) / 2) 11) (M ((i + j) / 2) 12) (M ((i + j) / 2) 13) (M ((i + j) / 2) 14) (M ((i + j) / 2) 15) (M ((i + j) / 2) 16) x _).mono ?_; rintro e w2 ⟨rfl, hb2⟩)
        go_roundg ((i + j) / 2 - i)
        case measure => have := HK.out; omega
        case rel => exact ⟨i, (i + j) / 2, rfl, by first | rfl | exact congrArg (Value.int .i64) (by omega), rfl, hhi1, by omega, HLO.out, fun l h1 h2 => (Nat.lt_or_eq_of_le h1).elim (fun h3 => Int.le_trans HX.out (Int.le_of_lt (HS.out _ l h3 h2))) (fun h3 => by rw [← h3]; exact HX.out), ext_below HB.out hb2⟩
    · have d0 : decide ((i : Int) < (j : Int)) = false := decide_eq_false (by omega)
      have ej : i = j := by omega
      subst ej
      by_cases hin : i < n
      · have d1 : decide ((i : Int) < (n : Int)) = true := decide_eq_true (by omega)
        have d2 : decide (i < n) = true := decide_eq_true hin
        obtain ⟨bb, oo, eA, hbb, hcl⟩ := HR.out (by omega)
        subst eA
        have q0 : wr.cell? ⟨bb, oo + (i * 17 + 0), none⟩ = some (.int .i64 (M i 0)) := (HB.out.cell (p := ⟨bb, oo + (i * 17 + 0), none⟩) hbb).trans (hcl i hin 0 (by decide))
        have q1 : wr.cell? ⟨bb, oo + (i * 17 + 1), none⟩ = some (.int .i64 (M i 1)) := (HB.out.cell (p := ⟨bb, oo + (i * 17 + 1), none⟩) hbb).trans (hcl i hin 1 (by decide))
        have q2 : wr.cell? ⟨bb, oo + (i * 17 + 2), none⟩ = some (.int .i64 (M i 2)) := (HB.out.cell (p := ⟨bb, oo + (i * 17 + 2), none⟩) hbb).trans (hcl i hin 2 (by decide))
        have q3 : wr.cell? ⟨bb, oo + (i * 17 + 3), none⟩ = some (.int .i64 (M i 3)) := (HB.out.cell (p := ⟨bb, oo + (i * 17 + 3), none⟩) hbb).trans (hcl i hin 3 (by decide))
        have q4 : wr.cell? ⟨bb, oo + (i * 17 + 4), none⟩ = some (.int .i64 (M i 4)) := (HB.out.cell (p := ⟨bb, oo + (i * 17 + 4), none⟩) hbb).trans (hcl i hin 4 (by decide))
        have q5 : wr.cell? ⟨bb, oo + (i * 17 + 5), none⟩ = some (.int .i64 (M i 5)) := (HB.out.cell (p := ⟨bb, oo + (i * 17 + 5), none⟩) hbb).trans (hcl i hin 5 (by decide))
        have q6 : wr.cell? ⟨bb, oo + (i * 17 + 6), none⟩ = some (.int .i64 (M i 6)) := (HB.out.cell (p := ⟨bb, oo + (i * 17 + 6), none⟩) hbb).trans (hcl i hin 6 (by decide))
        have q7 : wr.cell? ⟨bb, oo + (i * 17 + 7), none⟩ = some (.int .i64 (M i 7)) := (HB.out.cell (p := ⟨bb, oo + (i * 17 + 7), none⟩) hbb).trans (hcl i hin 7 (by decide))
        have q8 : wr.cell? ⟨bb, oo + (i * 17 + 8), none⟩ = some (.int .i64 (M i 8)) := (HB.out.cell (p := ⟨bb, oo + (i * 17 + 8), none⟩) hbb).trans (hcl i hin 8 (by decide))
        have q9 : wr.cell? ⟨bb, oo + (i * 17 + 9), none⟩ = some (.int .i64 (M i 9)) := (HB.out.cell (p := ⟨bb, oo + (i * 17 + 9), none⟩) hbb).trans (hcl i hin 9 (by decide))
        have q10 : wr.cell? ⟨bb, oo + (i * 17 + 10), none⟩ = some (.int .i64 (M i 10)) := (HB.out.cell (p := ⟨bb, oo + (i * 17 + 10), none⟩) hbb).trans (hcl i hin 10 (by decide))
        have q11 : wr.cell? ⟨bb, oo + (i * 17 + 11), none⟩ = some (.int .i64 (M i 11)) := (HB.out.cell (p := ⟨bb, oo + (i * 17 + 11), none⟩) hbb).trans (hcl i hin 11 (by decide))
        have q12 : wr.cell? ⟨bb, oo + (i * 17 + 12), none⟩ = some (.int .i64 (M i 12)) := (HB.out.cell (p := ⟨bb, oo + (i * 17 + 12), none⟩) hbb).trans (hcl i hin 12 (by decide))
        have q13 : wr.cell? ⟨bb, oo + (i * 17 + 13), none⟩ = some (.int .i64 (M i 13)) := (HB.out.cell (p := ⟨bb, oo + (i * 17 + 13), none⟩) hbb).trans (hcl i hin 13 (by decide))
        have q14 : wr.cell? ⟨bb, oo + (i * 17 + 14), none⟩ = some (.int .i64 (M i 14)) := (HB.out.cell (p := ⟨bb, oo + (i * 17 + 14), none⟩) hbb).trans (hcl i hin 14 (by decide))
        have q15 : wr.cell? ⟨bb, oo + (i * 17 + 15), none⟩ = some (.int .i64 (M i 15)) := (HB.out.cell (p := ⟨bb, oo + (i * 17 + 15), none⟩) hbb).trans (hcl i hin 15 (by decide))
        have q16 : wr.cell? ⟨bb, oo + (i * 17 + 16), none⟩ = some (.int .i64 (M i 16)) := (HB.out.cell (p := ⟨bb, oo + (i * 17 + 16), none⟩) hbb).trans (hcl i hin 16 (by decide))
        simp only [Nat.add_zero] at q0
        rw [← Nat.add_assoc] at q1
        rw [← Nat.add_assoc] at q2
        rw [← Nat.add_assoc] at q3
        rw [← Nat.add_assoc] at q4
        rw [← Nat.add_assoc] at q5
        rw [← Nat.add_assoc] at q6
        rw [← Nat.add_assoc] at q7
        rw [← Nat.add_assoc] at q8
        rw [← Nat.add_assoc] at q9
        rw [← Nat.add_assoc] at q10
        rw [← Nat.add_assoc] at q11
        rw [← Nat.add_assoc] at q12
        rw [← Nat.add_assoc] at q13
        rw [← Nat.add_assoc] at q14
        rw [← Nat.add_assoc] at q15
        rw [← Nat.add_assoc] at q16
        have hbl : bb < wr.heap.size := Nat.lt_of_lt_of_le hbb HB.out.size
        clear hcl
        have HE := Lib.hid (cmpI_eq (M i 0) x)
        go_wp2_with (go_at_call 62; refine (find1_c (M i 0) (M i 1) (M i 2) (M i 3) (M i 4) (M i 5) (M i 6) (M i 7) (M i 8) (M i 9) (M i 10) (M i 11) (M i 12) (M i 13) (M i 14) (M i 15) (M i 16) x _).mono ?_; rintro e w2 ⟨rfl, hb2⟩)
        exact bodyPost_ret (v := .tuple #[.int .i64 (i : Int), .bool (cmpI (M i 0) x == 0)]) (by simp [results, Tryz.results61, go_sem]) rfl ⟨i, by rw [HE.out, d2]; rfl, ⟨by omega, HLO.out, HHI.out⟩, ext_below HB.out hb2⟩
      · have d1 : decide ((i : Int) < (n : Int)) = false := decide_eq_false (by omega)
        have d2 : decide (i < n) = false := decide_eq_false hin
        go_wp2
        exact bodyPost_ret (v := .tuple #[.int .i64 (i : Int), .bool false]) (by simp [results, Tryz.results61, go_sem]) rfl ⟨i, by rw [d2]; rfl, ⟨by omega, HLO.out, HHI.out⟩, HB.out⟩
end Go.Proofs.YtniahipadfgkbaaGreat
