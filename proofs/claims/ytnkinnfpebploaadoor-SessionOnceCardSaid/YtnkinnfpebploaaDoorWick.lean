/- The contracts of gyreref.Wicket. Conditions: none. -/
import Derived.Test.YtnkinnfpebploaaDoorSessP
import Derived.Test.YtnkinnfpebploaaDoorApp
import Derived.OwnWalk
namespace Go.Proofs.YtnkinnfpebploaaDoor
open Go.ChangeShapes Go.WideShapes Go.ChangeAt Go.RowKit Go.BigFrame
/-- numbers as values -/
def i64s (l : List Int) : List Value := l.map fun n : Int => Value.int .i64 n
theorem i64s_length (l : List Int) : (i64s l).length = l.length := by unfold i64s; simp
theorem i64s_snoc (l : List Int) (n : Int) : i64s (l ++ [n]) = i64s l ++ [.int .i64 n] := by unfold i64s; simp
theorem i64s_get {l : List Int} {k : Nat} {n : Int} (h : l[k]? = some n) : (i64s l)[k]? = some (.int .i64 n) := by unfold i64s; rw [List.getElem?_map, h]; rfl
theorem intInfo : (Tryd.prog.info? 3).map (fun i => (i.zero, i.size, i.bytes)) = some (some (.int .i64 0), 1, 8) := by kernel_rfl
/-- the document's session at block q -/
structure Wt (w : World) (base q : Nat) (rv : Value) (k : Wk) : Prop where
  blk : Blk w q #[.int .i64 k.tok, .int .i64 k.most, .int .i64 k.each, .int .i64 k.left, rv]
  row : w.ownsRow base 3 1 rv k.came.length (i64s k.came)
  ne : rv.ownBlock ≠ some q
  len : k.came.length ≤ 1000
theorem Wt.mod {w w' : World} {base q : Nat} {rv : Value} {k : Wk} {S : Nat → Prop} (h : Wt w base q rv k) (m : Mod S w w') (h1 : ¬ S q) (h2 : ∀ b, rv.ownBlock = some b → ¬ S b) : Wt w' base q rv k :=
  ⟨h.blk.mod m h1, row_mod h.row m h2, h.ne, h.len⟩
theorem Wt.below {w w' : World} {base q : Nat} {rv : Value} {k : Wk} (h : Wt w base q rv k) (m : Below w.heap.size w w') : Wt w' base q rv k := h.mod (S := fun _ => False) (Mod.of_below m) id fun _ _ => id
theorem row1_form {w : World} {base : Nat} {e : TypeId} {v : Value} {n : Nat} {xs : List Value} {s : Nat} (h : w.ownsRow base e s v n xs) : ∃ A cap, v = .slice A n cap := by
  rcases h.2 with ⟨e, h0⟩ | ⟨g, cap, cur, e, _⟩
  · exact ⟨none, 0, by rw [h0]; exact e⟩
  · exact ⟨_, cap, e⟩
theorem newW_take {l : List Int} {k : Nat} {n : Int} (h : l[k]? = some n) : newW (l.take (k + 1)) = if newW (l.take k) < n then n else newW (l.take k) := by
  rw [List.take_add_one, h, ← newW_snoc]; rfl
theorem wnew_c (base q : Nat) (rv : Value) (k : Wk) (w : World) (h : Wt w base q rv k) : Calls Tryd.prog 26 #[.pointer (some ⟨q, 0, none⟩)] w fun e w' => e = .returned (.int .i64 (newW k.came)) ∧ w = w' := by
  obtain ⟨A, cap, hrv⟩ := row1_form h.row
  have hrow := h.row
  have hlen := h.len
  obtain ⟨l, hl⟩ : ∃ l, l = k.came := ⟨_, rfl⟩
  obtain ⟨N, hN⟩ : ∃ N, N = l.length := ⟨_, rfl⟩
  rw [← hl] at hrv hrow hlen
  rw [← hN] at hrv hrow hlen
  subst hrv
  have k0 : w.cell? ⟨q, 4, none⟩ = some (.slice A N cap) := h.blk.cell 4
  rw [← hl]
  have HN := Lib.hid hN
  clear hl hN h
  have HROW := Lib.hid hrow
  clear hrow
  go_enter Tryd.func26, Tryd.ntmps26
  go_wp2
  go_loop [3, 11] (fun x i => ∃ j : Nat, j ≤ N ∧ i = .int .i64 j ∧ x = .int .i64 (newW (l.take j))) (fun _ i => N - (intOf i).toNat)
  case atStart => exact ⟨0, by omega, rfl, rfl⟩
  case round =>
    obtain ⟨j, hj, rfl, rfl⟩ := hrel
    by_cases hlt : j < N
    · obtain ⟨g, cap', hge, g1, g2, g3, g4, g5, g6, _⟩ := row_at HROW.out (by omega)
      cases hge
      obtain ⟨x, hx⟩ : ∃ x, l[j]? = some x := ⟨_, List.getElem?_eq_getElem (by have := HN.out; omega)⟩
      have hc := g6 j _ (i64s_get hx)
      have hst := newW_take hx
      obtain ⟨y, hy⟩ : ∃ y, y = newW (l.take j) := ⟨_, rfl⟩
      rw [← hy] at hst
      rw [← hy]
      have HY := Lib.hid hy
      clear hy g5 g6 hx
      by_cases hlt2 : y < x
      · rw [if_pos hlt2] at hst
        have HST := Lib.hid hst
        clear hst
        go_wp2
        go_round
        case rel => exact ⟨j + 1, by omega, by go_num, by rw [HST.out]⟩
        case measure => first | (simp [intOf]; done) | (simp [intOf]; omega)
      · rw [if_neg hlt2] at hst
        have HST := Lib.hid hst
        clear hst
        go_wp2
        go_round
        case rel => exact ⟨j + 1, by omega, by go_num, by rw [HST.out]⟩
        case measure => first | (simp [intOf]; done) | (simp [intOf]; omega)
    · obtain rfl : j = N := by omega
      go_wp2
      go_ret
      refine ⟨?_, rfl⟩
      show Ending.returned (.int .i64 (newW (l.take j))) = _
      rw [List.take_of_length_le (by have := HN.out; omega)]
/-- behind Take -/
def WtPost (base q : Nat) (w : World) (rv : Value) (r : Int × Wk) (e : Ending) (w' : World) : Prop := e = .returned (.int .i64 r.1) ∧ ∃ rv', Wt w' base q rv' r.2 ∧ Turn (· = q) w rv w' rv'
theorem wtPost_same {base q : Nat} {w : World} {rv : Value} {k : Wk} {r : Int × Wk} {e : Ending} {n : Int} (hr : r = (n, k)) (he : e = .returned (.int .i64 n)) (h : Wt w base q rv k) : WtPost base q w rv r e w := by
  subst hr; exact ⟨he, rv, h, Turn.refl _ _ _⟩

theorem newW_bnd {c : List Int} (h : ∀ n ∈ c, 0 ≤ n ∧ n ≤ 70368744177664) : -1 ≤ newW c ∧ newW c ≤ 70368744177664 := by
  refine ⟨(newW_ge c).1, ?_⟩
  have : ∀ (c : List Int) (a : Int), a ≤ 70368744177664 → (∀ n ∈ c, 0 ≤ n ∧ n ≤ 70368744177664) → c.foldl (fun a b => if a < b then b else a) a ≤ 70368744177664 := by
    intro c
    induction c with
    | nil => intro a ha _; exact ha
    | cons x c ih =>
      intro a ha hc
      simp only [List.foldl_cons]
      refine ih _ ?_ (fun n hn => hc n (List.mem_cons_of_mem _ hn))
      have := (hc x (by simp)).2
      split <;> omega
  exact this c (-1) (by omega) h

set_option maxHeartbeats 1000000 in
theorem wtake_5 (base q : Nat) (rv : Value) (k : Wk) (t n : Int) (w : World) (h : Wt w base q rv k) (c1 : t ≠ k.tok) : Calls Tryd.prog 24 #[.pointer (some ⟨q, 0, none⟩), .int .i64 t, .int .i64 n] w (WtPost base q w rv (takeW k t n)) := by
  have k0 : w.cell? ⟨q, 0, none⟩ = some (.int .i64 k.tok) := h.blk.cell 0
  have htk : takeW k t n = (5, k) := by unfold takeW; rw [if_pos c1]
  have HTK := Lib.hid htk
  have c1' : (t != k.tok) = true := by simpa using c1
  clear htk
  go_enter Tryd.func24, Tryd.ntmps24
  go_wp2
  go_ret
  exact wtPost_same HTK.out rfl h

set_option maxHeartbeats 1000000 in
theorem wtake_2a (base q : Nat) (rv : Value) (k : Wk) (t n : Int) (w : World) (h : Wt w base q rv k) (c1 : t = k.tok) (c2 : n < 0) : Calls Tryd.prog 24 #[.pointer (some ⟨q, 0, none⟩), .int .i64 t, .int .i64 n] w (WtPost base q w rv (takeW k t n)) := by
  have k0 : w.cell? ⟨q, 0, none⟩ = some (.int .i64 k.tok) := h.blk.cell 0
  have htk : takeW k t n = (2, k) := by unfold takeW; rw [if_neg (by simpa using c1), if_pos (by omega)]
  have HTK := Lib.hid htk
  have c1' : (t != k.tok) = false := by simpa using c1
  clear htk c1
  go_enter Tryd.func24, Tryd.ntmps24
  go_wp2
  go_ret
  exact wtPost_same HTK.out rfl h

set_option maxHeartbeats 1000000 in
theorem wtake_2b (base q : Nat) (rv : Value) (k : Wk) (t n : Int) (w : World) (h : Wt w base q rv k) (c1 : t = k.tok) (c2 : 70368744177664 < n) : Calls Tryd.prog 24 #[.pointer (some ⟨q, 0, none⟩), .int .i64 t, .int .i64 n] w (WtPost base q w rv (takeW k t n)) := by
  have k0 : w.cell? ⟨q, 0, none⟩ = some (.int .i64 k.tok) := h.blk.cell 0
  have htk : takeW k t n = (2, k) := by unfold takeW; rw [if_neg (by simpa using c1), if_pos (by omega)]
  have HTK := Lib.hid htk
  have c1' : (t != k.tok) = false := by simpa using c1
  clear htk c1
  have c2n : ¬ n < 0 := by omega
  go_enter Tryd.func24, Tryd.ntmps24
  go_wp2
  go_ret
  exact wtPost_same HTK.out rfl h

set_option maxHeartbeats 1000000 in
theorem wtake_10 (base q : Nat) (rv : Value) (k : Wk) (t n : Int) (w : World) (h : Wt w base q rv k) (hb : ∀ m ∈ k.came, 0 ≤ m ∧ m ≤ 70368744177664) (c1 : t = k.tok) (c2 : ¬ n < 0) (c2' : ¬ 70368744177664 < n) (c3 : n ≤ newW k.came - 64) : Calls Tryd.prog 24 #[.pointer (some ⟨q, 0, none⟩), .int .i64 t, .int .i64 n] w (WtPost base q w rv (takeW k t n)) := by
  have k0 : w.cell? ⟨q, 0, none⟩ = some (.int .i64 k.tok) := h.blk.cell 0
  have htk : takeW k t n = (10, k) := by unfold takeW; rw [if_neg (by simpa using c1), if_neg (by omega), if_pos c3]
  have HTK := Lib.hid htk
  have c1' : (t != k.tok) = false := by simpa using c1
  have hge := newW_bnd hb
  obtain ⟨y, hy⟩ : ∃ y, y = newW k.came := ⟨_, rfl⟩
  rw [← hy] at c3 hge
  have HY := Lib.hid hy
  obtain ⟨hg1, hg2⟩ := hge
  clear htk c1 hy hb
  go_enter Tryd.func24, Tryd.ntmps24
  go_wp2_with fail
  refine (wnew_c base q rv k _ h).mono ?_
  rintro e w' ⟨rfl, rfl⟩
  rw [← HY.out]
  go_wp2
  go_ret
  exact wtPost_same HTK.out rfl h

set_option maxHeartbeats 1000000 in
theorem wtake_9 (base q : Nat) (rv : Value) (k : Wk) (t n : Int) (w : World) (h : Wt w base q rv k) (hb : ∀ m ∈ k.came, 0 ≤ m ∧ m ≤ 70368744177664) (c1 : t = k.tok) (c2 : ¬ n < 0) (c2' : ¬ 70368744177664 < n) (c3 : ¬ n ≤ newW k.came - 64) (c4 : n ∈ k.came) : Calls Tryd.prog 24 #[.pointer (some ⟨q, 0, none⟩), .int .i64 t, .int .i64 n] w (WtPost base q w rv (takeW k t n)) := by
  have k0 : w.cell? ⟨q, 0, none⟩ = some (.int .i64 k.tok) := h.blk.cell 0
  have C4 := Lib.hid c4
  have htk : takeW k t n = (9, k) := by unfold takeW; rw [if_neg (by simpa using c1), if_neg (by omega), if_neg c3, if_pos c4]
  have HTK := Lib.hid htk
  have c1' : (t != k.tok) = false := by simpa using c1
  have hge := newW_bnd hb
  have hrow := h.row
  have hlen := h.len
  obtain ⟨y, hy⟩ : ∃ y, y = newW k.came := ⟨_, rfl⟩
  obtain ⟨N, hN⟩ : ∃ N, N = k.came.length := ⟨_, rfl⟩
  obtain ⟨A, cap, hrv⟩ := row1_form hrow
  have k4 : w.cell? ⟨q, 4, none⟩ = some (.slice A N cap) := by rw [hN, ← hrv]; exact h.blk.cell 4
  have k3 : w.cell? ⟨q, 3, none⟩ = some (.int .i64 k.left) := h.blk.cell 3
  have f0 := h.blk.free
  rw [← hy] at c3 hge
  rw [← hN] at hlen
  have HY := Lib.hid hy
  have HN := Lib.hid hN
  have HRV := Lib.hid hrv
  have HROW := Lib.hid hrow
  obtain ⟨hg1, hg2⟩ := hge
  clear htk c1 c4 hy hb hN hrv hrow
  go_enter Tryd.func24, Tryd.ntmps24
  go_wp2_with fail
  refine (wnew_c base q rv k _ h).mono ?_
  rintro e w' ⟨rfl, rfl⟩
  rw [← HY.out]
  go_wp2
  go_loop [31] (fun i => ∃ j : Nat, j ≤ N ∧ i = .int .i64 j ∧ ∀ m, m < j → k.came[m]? ≠ some n) (fun i => N - (intOf i).toNat)
  case atStart => exact ⟨0, by omega, rfl, fun m hm => absurd hm (by omega)⟩
  case round =>
    obtain ⟨j, hj, rfl, hno⟩ := hrel
    have HNO := Lib.hid hno
    clear hno
    by_cases hlt : j < N
    · have hrow2 := HROW.out
      rw [HRV.out, ← HN.out] at hrow2
      obtain ⟨g, cap', hge, g1, g2, g3, g4, g5, g6, _⟩ := row_at hrow2 (by omega)
      cases hge
      obtain ⟨x, hx⟩ : ∃ x, k.came[j]? = some x := ⟨_, List.getElem?_eq_getElem (by have := HN.out; omega)⟩
      have hc := g6 j _ (i64s_get hx)
      have HX := Lib.hid hx
      clear g5 g6 hx hrow2
      by_cases he : x = n
      · have he' : (x == n) = true := by simpa using he
        have HE := Lib.hid he
        clear he
        go_wp2
        go_ret
        exact wtPost_same HTK.out rfl h
      · have he' : (x == n) = false := by simpa using he
        have HE := Lib.hid he
        clear he
        go_wp2
        go_round
        case rel =>
          refine ⟨j + 1, by omega, by go_num, fun m hm => ?_⟩
          by_cases e : m = j
          · subst e; rw [HX.out]; intro e2; exact HE.out (Option.some.inj e2)
          · exact HNO.out m (by omega)
        case measure => first | (simp [intOf]; done) | (simp [intOf]; omega)
    · obtain rfl : j = N := by omega
      obtain ⟨m, hm⟩ := List.mem_iff_getElem?.1 C4.out
      exact absurd hm (HNO.out m (by have := (List.getElem?_eq_some_iff.1 hm).1; have := HN.out; omega))

set_option maxHeartbeats 1000000 in
theorem wtake_4 (base q : Nat) (rv : Value) (k : Wk) (t n : Int) (w : World) (h : Wt w base q rv k) (hb : ∀ m ∈ k.came, 0 ≤ m ∧ m ≤ 70368744177664) (c1 : t = k.tok) (c2 : ¬ n < 0) (c2' : ¬ 70368744177664 < n) (c3 : ¬ n ≤ newW k.came - 64) (c4 : n ∉ k.came) (c5 : k.left = 0) : Calls Tryd.prog 24 #[.pointer (some ⟨q, 0, none⟩), .int .i64 t, .int .i64 n] w (WtPost base q w rv (takeW k t n)) := by
  have k0 : w.cell? ⟨q, 0, none⟩ = some (.int .i64 k.tok) := h.blk.cell 0
  have C4 := Lib.hid c4
  have htk : takeW k t n = (4, k) := by unfold takeW; rw [if_neg (by simpa using c1), if_neg (by omega), if_neg c3, if_neg c4, if_pos c5]
  have HTK := Lib.hid htk
  have c1' : (t != k.tok) = false := by simpa using c1
  have hge := newW_bnd hb
  have hrow := h.row
  have hlen := h.len
  obtain ⟨y, hy⟩ : ∃ y, y = newW k.came := ⟨_, rfl⟩
  obtain ⟨N, hN⟩ : ∃ N, N = k.came.length := ⟨_, rfl⟩
  obtain ⟨A, cap, hrv⟩ := row1_form hrow
  have k4 : w.cell? ⟨q, 4, none⟩ = some (.slice A N cap) := by rw [hN, ← hrv]; exact h.blk.cell 4
  have k3 : w.cell? ⟨q, 3, none⟩ = some (.int .i64 k.left) := h.blk.cell 3
  have f0 := h.blk.free
  rw [← hy] at c3 hge
  rw [← hN] at hlen
  have HY := Lib.hid hy
  have HN := Lib.hid hN
  have HRV := Lib.hid hrv
  have HROW := Lib.hid hrow
  obtain ⟨hg1, hg2⟩ := hge
  have C5 := Lib.hid c5
  clear htk c1 c4 c5 hy hb hN hrv hrow
  go_enter Tryd.func24, Tryd.ntmps24
  go_wp2_with fail
  refine (wnew_c base q rv k _ h).mono ?_
  rintro e w' ⟨rfl, rfl⟩
  rw [← HY.out]
  go_wp2
  go_loop [31] (fun i => ∃ j : Nat, j ≤ N ∧ i = .int .i64 j ∧ ∀ m, m < j → k.came[m]? ≠ some n) (fun i => N - (intOf i).toNat)
  case atStart => exact ⟨0, by omega, rfl, fun m hm => absurd hm (by omega)⟩
  case round =>
    obtain ⟨j, hj, rfl, hno⟩ := hrel
    have HNO := Lib.hid hno
    clear hno
    by_cases hlt : j < N
    · have hrow2 := HROW.out
      rw [HRV.out, ← HN.out] at hrow2
      obtain ⟨g, cap', hge, g1, g2, g3, g4, g5, g6, _⟩ := row_at hrow2 (by omega)
      cases hge
      obtain ⟨x, hx⟩ : ∃ x, k.came[j]? = some x := ⟨_, List.getElem?_eq_getElem (by have := HN.out; omega)⟩
      have hc := g6 j _ (i64s_get hx)
      have HX := Lib.hid hx
      clear g5 g6 hx hrow2
      by_cases he : x = n
      · have he' : (x == n) = true := by simpa using he
        have HE := Lib.hid he
        clear he
        exact absurd (List.mem_of_getElem? (HE.out ▸ HX.out)) C4.out
      · have he' : (x == n) = false := by simpa using he
        have HE := Lib.hid he
        clear he
        go_wp2
        go_round
        case rel =>
          refine ⟨j + 1, by omega, by go_num, fun m hm => ?_⟩
          by_cases e : m = j
          · subst e; rw [HX.out]; intro e2; exact HE.out (Option.some.inj e2)
          · exact HNO.out m (by omega)
        case measure => first | (simp [intOf]; done) | (simp [intOf]; omega)
    · obtain rfl : j = N := by omega
      have c5' : (k.left == 0) = true := by simpa using C5.out
      go_wp2
      go_ret
      exact wtPost_same HTK.out rfl h

set_option maxHeartbeats 1000000 in
theorem wtake_0 (base q : Nat) (rv : Value) (k : Wk) (t n : Int) (w : World) (h : Wt w base q rv k) (hb : ∀ m ∈ k.came, 0 ≤ m ∧ m ≤ 70368744177664) (c1 : t = k.tok) (c2 : ¬ n < 0) (c2' : ¬ 70368744177664 < n) (c3 : ¬ n ≤ newW k.came - 64) (c4 : n ∉ k.came) (c5 : ¬ k.left = 0) (c6 : 0 ≤ k.left ∧ k.left ≤ 1000) (c7 : k.came.length < 1000) (hbp : base ≤ w.heap.size) : Calls Tryd.prog 24 #[.pointer (some ⟨q, 0, none⟩), .int .i64 t, .int .i64 n] w (WtPost base q w rv (takeW k t n)) := by
  have k0 : w.cell? ⟨q, 0, none⟩ = some (.int .i64 k.tok) := h.blk.cell 0
  have C4 := Lib.hid c4
  have C6 := Lib.hid c6
  have C7 := Lib.hid c7
  have HBP := Lib.hid hbp
  have htk : takeW k t n = (0, { k with left := k.left - 1, came := k.came ++ [n] }) := by unfold takeW; rw [if_neg (by simpa using c1), if_neg (by omega), if_neg c3, if_neg c4, if_neg c5]
  have HTK := Lib.hid htk
  have c1' : (t != k.tok) = false := by simpa using c1
  have hge := newW_bnd hb
  have hrow := h.row
  have hlen := h.len
  obtain ⟨y, hy⟩ : ∃ y, y = newW k.came := ⟨_, rfl⟩
  obtain ⟨N, hN⟩ : ∃ N, N = k.came.length := ⟨_, rfl⟩
  obtain ⟨A, cap, hrv⟩ := row1_form hrow
  have k4 : w.cell? ⟨q, 4, none⟩ = some (.slice A N cap) := by rw [hN, ← hrv]; exact h.blk.cell 4
  have k3 : w.cell? ⟨q, 3, none⟩ = some (.int .i64 k.left) := h.blk.cell 3
  have f0 := h.blk.free
  rw [← hy] at c3 hge
  rw [← hN] at hlen
  have HY := Lib.hid hy
  have HN := Lib.hid hN
  have HRV := Lib.hid hrv
  have HROW := Lib.hid hrow
  obtain ⟨hg1, hg2⟩ := hge
  have C5 := Lib.hid c5
  clear htk c1 c4 c5 c6 c7 hbp hy hb hN hrv hrow
  go_enter Tryd.func24, Tryd.ntmps24
  go_wp2_with fail
  refine (wnew_c base q rv k _ h).mono ?_
  rintro e w' ⟨rfl, rfl⟩
  rw [← HY.out]
  go_wp2
  go_loop [31] (fun i => ∃ j : Nat, j ≤ N ∧ i = .int .i64 j ∧ ∀ m, m < j → k.came[m]? ≠ some n) (fun i => N - (intOf i).toNat)
  case atStart => exact ⟨0, by omega, rfl, fun m hm => absurd hm (by omega)⟩
  case round =>
    obtain ⟨j, hj, rfl, hno⟩ := hrel
    have HNO := Lib.hid hno
    clear hno
    by_cases hlt : j < N
    · have hrow2 := HROW.out
      rw [HRV.out, ← HN.out] at hrow2
      obtain ⟨g, cap', hge, g1, g2, g3, g4, g5, g6, _⟩ := row_at hrow2 (by omega)
      cases hge
      obtain ⟨x, hx⟩ : ∃ x, k.came[j]? = some x := ⟨_, List.getElem?_eq_getElem (by have := HN.out; omega)⟩
      have hc := g6 j _ (i64s_get hx)
      have HX := Lib.hid hx
      clear g5 g6 hx hrow2
      by_cases he : x = n
      · have he' : (x == n) = true := by simpa using he
        have HE := Lib.hid he
        clear he
        exact absurd (List.mem_of_getElem? (HE.out ▸ HX.out)) C4.out
      · have he' : (x == n) = false := by simpa using he
        have HE := Lib.hid he
        clear he
        go_wp2
        go_round
        case rel =>
          refine ⟨j + 1, by omega, by go_num, fun m hm => ?_⟩
          by_cases e : m = j
          · subst e; rw [HX.out]; intro e2; exact HE.out (Option.some.inj e2)
          · exact HNO.out m (by omega)
        case measure => first | (simp [intOf]; done) | (simp [intOf]; omega)
    · obtain rfl : j = N := by omega
      have c5' : (k.left == 0) = false := by simpa using C5.out
      have hl1 := C6.out
      obtain ⟨hl0, hl2⟩ := hl1
      have hr3 := row_far (g := q) (i := 3) (x := .int .i64 (k.left - 1)) HROW.out h.ne
      rw [HRV.out, ← HN.out] at hr3
      have HR3 := Lib.hid hr3
      clear hr3
      go_wp2_with (at_builtin; refine app_one rfl (.tmp 55) (.tmp 57) 55 rfl Tryd.underlying55 intInfo rfl (by decide) (by decide) base (.slice A j cap) j (i64s k.came) rfl HR3.out #[.int .i64 n] rfl (by simp) rfl (one_int _ _) (by omega) HBP.out ?_)
      intro g c w2 hown hmod hwh hbg
      have hne : g ≠ q := by
        rcases hwh with e | e
        · intro e2; subst e2; exact h.ne (by rw [HRV.out, ← HN.out]; exact e)
        · have := h.blk.lt; omega
      have hq2 : Blk w2 q #[.int .i64 k.tok, .int .i64 k.most, .int .i64 k.each, .int .i64 (k.left - 1), rv] := by
        have := (h.blk.put (i := 3) (v := .int .i64 (k.left - 1))).mod hmod (fun e => h.ne (by rw [HRV.out, ← HN.out]; exact e))
        simpa using this
      have z2 := hq2.lt
      have f2 := hq2.free
      have k42 : w2.cell? ⟨q, 4, none⟩ = some rv := hq2.cell 4
      have HQ2 := Lib.hid hq2
      have HOW := Lib.hid hown
      have HMO := Lib.hid hmod
      have HWH := Lib.hid hwh
      clear hq2 hown hmod hwh
      go_wp2
      go_ret
      rw [HTK.out]
      refine ⟨rfl, .slice (some ⟨g, 0, none⟩) (j + 1) c, ⟨?_, ?_, ?_, ?_⟩, ⟨?_, ?_⟩⟩
      · have := HQ2.out.put (i := 4) (v := .slice (some ⟨g, 0, none⟩) (j + 1) c)
        simpa using this
      · have := row_far (g := q) (i := 4) (x := .slice (some ⟨g, 0, none⟩) (j + 1) c) HOW.out (by simp [Value.ownBlock]; exact hne)
        simp only [List.length_append, List.length_cons, List.length_nil, ← HN.out, i64s_snoc]
        exact this
      · simp [Value.ownBlock]; exact hne
      · simp only [List.length_append, List.length_cons, List.length_nil, ← HN.out]; have := C7.out; have := HN.out; omega
      · have e1 : Mod (fun b => b = q ∨ rv.ownBlock = some b) w (w.setCell ⟨q, 3, none⟩ (.int .i64 (k.left - 1))) := (Mod.refl _ _).set (.inl (.inl rfl))
        have e2 := HMO.out.mono (T := fun b => b = q ∨ rv.ownBlock = some b) (fun b _ hb => .inr (by rw [HRV.out, ← HN.out]; exact hb))
        exact ((e1.trans e2).set (.inl (.inl rfl)))
      · rcases HWH.out with e | e
        · left; rw [HRV.out, ← HN.out]; exact e.symm
        · right
          intro b hb
          simp [Value.ownBlock] at hb
          subst hb
          omega

theorem wtake_c (base q : Nat) (rv : Value) (k : Wk) (t n : Int) (w : World) (h : Wt w base q rv k) (hb : ∀ m ∈ k.came, 0 ≤ m ∧ m ≤ 70368744177664) (c6 : 0 ≤ k.left ∧ k.left ≤ 1000) (c7 : k.came.length < 1000) (hbp : base ≤ w.heap.size) :
    Calls Tryd.prog 24 #[.pointer (some ⟨q, 0, none⟩), .int .i64 t, .int .i64 n] w (WtPost base q w rv (takeW k t n)) := by
  by_cases c1 : t = k.tok
  · by_cases c2 : n < 0
    · exact wtake_2a base q rv k t n w h c1 c2
    by_cases c2' : 70368744177664 < n
    · exact wtake_2b base q rv k t n w h c1 c2'
    by_cases c3 : n ≤ newW k.came - 64
    · exact wtake_10 base q rv k t n w h hb c1 c2 c2' c3
    by_cases c4 : n ∈ k.came
    · exact wtake_9 base q rv k t n w h hb c1 c2 c2' c3 c4
    by_cases c5 : k.left = 0
    · exact wtake_4 base q rv k t n w h hb c1 c2 c2' c3 c4 c5
    · exact wtake_0 base q rv k t n w h hb c1 c2 c2' c3 c4 c5 c6 c7 hbp
  · exact wtake_5 base q rv k t n w h c1

end Go.Proofs.YtnkinnfpebploaaDoor
