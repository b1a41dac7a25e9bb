/- A session's window against the list of all numbers that came: plain. Conditions: none. -/
import Derived.Test.YtnkinnfpebploaaDoorSess
namespace Go.Proofs.YtnkinnfpebploaaDoor
open Go
/-- the newest of those that came -/
def newW (c : List Int) : Int := c.foldl (fun a b => if a < b then b else a) (-1)
theorem newW_snoc (c : List Int) (n : Int) : newW (c ++ [n]) = if newW c < n then n else newW c := by
  unfold newW; rw [List.foldl_append]; rfl
theorem newW_ge (c : List Int) : -1 ≤ newW c ∧ ∀ n ∈ c, n ≤ newW c := by
  have : ∀ (c : List Int) (a : Int), a ≤ c.foldl (fun a b => if a < b then b else a) a ∧ ∀ n ∈ c, n ≤ c.foldl (fun a b => if a < b then b else a) a := by
    intro c
    induction c with
    | nil => intro a; exact ⟨Int.le_refl _, fun n hn => by cases hn⟩
    | cons x c ih =>
      intro a
      simp only [List.foldl_cons]
      obtain ⟨h1, h2⟩ := ih (if a < x then x else a)
      have hx : x ≤ (if a < x then x else a) ∧ a ≤ (if a < x then x else a) := by split <;> omega
      refine ⟨by omega, fun n hn => ?_⟩
      rcases List.mem_cons.1 hn with e | e
      · subst e; omega
      · exact h2 n e
  exact this c (-1)
/-- the document's session -/
structure Wk where
  tok : Int
  most : Int
  each : Int
  left : Int
  came : List Int
/-- 9.1's Take, the document's -/
def takeW (s : Wk) (t n : Int) : Int × Wk :=
  if t ≠ s.tok then (5, s)
  else if n < 0 ∨ 70368744177664 < n then (2, s)
  else if n ≤ newW s.came - 64 then (10, s)
  else if n ∈ s.came then (9, s)
  else if s.left = 0 then (4, s)
  else (0, { s with left := s.left - 1, came := s.came ++ [n] })
structure SR (s : Sn) (k : Wk) : Prop where
  tok : s.tok = k.tok
  most : s.most = k.most
  each : s.each = k.each
  left : s.left = k.left
  new : s.newest = newW k.came
  bnd : ∀ n ∈ k.came, 0 ≤ n ∧ n ≤ 70368744177664
  win : ∀ i, i < 64 → (s.win.testBit i = true ↔ (0 ≤ s.newest ∧ s.newest - i ∈ k.came))
theorem bit_iff (x i : Nat) : x / 2 ^ i % 2 = 1 ↔ x.testBit i = true := by rw [Nat.testBit_eq_decide_div_mod_eq]; simp
theorem SR.new0 {s : Sn} {k : Wk} (h : SR s k) (h0 : 0 ≤ s.newest) : s.newest ∈ k.came := by
  have : ∀ (c : List Int) (a : Int), c.foldl (fun a b => if a < b then b else a) a = a ∨ c.foldl (fun a b => if a < b then b else a) a ∈ c := by
    intro c
    induction c with
    | nil => intro a; exact .inl rfl
    | cons x c ih =>
      intro a
      simp only [List.foldl_cons]
      rcases ih (if a < x then x else a) with e | e
      · rw [e]
        split
        · exact .inr (by simp)
        · exact .inl rfl
      · exact .inr (List.mem_cons_of_mem _ e)
  rw [h.new] at h0 ⊢
  rcases this k.came (-1) with e | e
  · unfold newW at h0; omega
  · exact e
/-- the window takes what the list takes -/
theorem take_same {s : Sn} {k : Wk} (h : SR s k) (hs : SnOk s) (t n : Int) : (takeS s t n).1 = (takeW k t n).1 ∧ SR (takeS s t n).2 (takeW k t n).2 ∧ SnOk (takeS s t n).2 := by
  obtain ⟨e1, e2, e3, e4, e5, e6, e7⟩ := id h
  have hge := newW_ge k.came
  rw [← e5] at hge
  unfold takeS takeW
  rw [← e1, ← e4, ← e5]
  by_cases c1 : t ≠ s.tok
  · rw [if_pos c1, if_pos c1]; exact ⟨rfl, h, hs⟩
  rw [if_neg c1, if_neg c1]
  by_cases c2 : n < 0 ∨ 70368744177664 < n
  · rw [if_pos c2, if_pos c2]; exact ⟨rfl, h, hs⟩
  rw [if_neg c2, if_neg c2]
  obtain ⟨nw0, nw1⟩ := hs.nw
  by_cases c3 : n ≤ s.newest - 64
  · rw [if_pos c3, if_pos (by omega)]; exact ⟨rfl, h, hs⟩
  rw [if_neg c3, if_neg (show ¬ (0 ≤ s.newest ∧ 64 ≤ s.newest - n) by omega)]
  have hin : n ∈ k.came ↔ (0 ≤ s.newest ∧ 0 ≤ s.newest - n ∧ s.win / 2 ^ (s.newest - n).toNat % 2 = 1) := by
    rw [bit_iff]
    constructor
    · intro hm
      have hle := hge.2 n hm
      refine ⟨by omega, by omega, (e7 _ (by omega)).2 ⟨by omega, ?_⟩⟩
      rwa [show s.newest - ((s.newest - n).toNat : Int) = n by omega]
    · rintro ⟨a, b, c⟩
      have := ((e7 _ (by omega)).1 c).2
      rwa [show s.newest - ((s.newest - n).toNat : Int) = n by omega] at this
  by_cases c4 : n ∈ k.came
  · rw [if_pos c4, if_pos (hin.1 c4)]; exact ⟨rfl, h, hs⟩
  rw [if_neg c4, if_neg (fun hx => c4 (hin.2 hx))]
  by_cases c5 : s.left = 0
  · rw [if_pos c5, if_pos c5]; exact ⟨rfl, h, hs⟩
  rw [if_neg c5, if_neg c5]
  obtain ⟨lf0, lf1⟩ := hs.lf
  have hwn := hs.wn
  have hb' : ∀ m ∈ k.came ++ [n], 0 ≤ m ∧ m ≤ 70368744177664 := by
    intro m hm
    rcases List.mem_append.1 hm with hm | hm
    · exact e6 m hm
    · simp at hm; omega
  have one : ∀ i, (1 : Nat).testBit i = true ↔ i = 0 := by
    intro i
    cases i with
    | zero => simp
    | succ i => simp [Nat.testBit_succ]
  by_cases c6 : s.newest < 0
  · rw [if_pos c6]
    have hnil : k.came = [] := by
      cases hc : k.came with
      | nil => rfl
      | cons a l => exact absurd ((e6 a (by simp [hc])).1) (by have := hge.2 a (by simp [hc]); omega)
    refine ⟨rfl, ⟨rfl, e2, e3, rfl, ?_, hb', ?_⟩, ⟨by simp only; omega, by simp only; omega, hs.ms, hs.ec, by simp only; omega⟩⟩
    · simp only; rw [newW_snoc, ← e5, if_pos (by omega)]
    · intro i hi
      simp only [hnil, List.nil_append, List.mem_singleton]
      rw [one]
      omega
  rw [if_neg c6]
  by_cases c7 : 0 ≤ s.newest - n
  · rw [if_pos c7]
    refine ⟨rfl, ⟨rfl, e2, e3, rfl, ?_, hb', ?_⟩, ⟨hs.nw, by simp only; omega, hs.ms, hs.ec, Nat.or_lt_two_pow (n := 64) hwn (Nat.pow_lt_pow_right (by omega) (by omega))⟩⟩
    · simp only; rw [newW_snoc, ← e5, if_neg (by omega)]
    · intro i hi
      simp only [Nat.testBit_or, Nat.testBit_two_pow, Bool.or_eq_true, decide_eq_true_eq, List.mem_append, List.mem_singleton, e7 i hi]
      constructor
      · rintro (⟨a, b⟩ | a)
        · exact ⟨a, .inl b⟩
        · exact ⟨by omega, .inr (by omega)⟩
      · rintro ⟨a, b | b⟩
        · exact .inl ⟨a, b⟩
        · exact .inr (by omega)
  rw [if_neg c7]
  by_cases c8 : s.newest - n ≤ -64
  · rw [if_pos c8]
    refine ⟨rfl, ⟨rfl, e2, e3, rfl, ?_, hb', ?_⟩, ⟨by simp only; omega, by simp only; omega, hs.ms, hs.ec, by simp only; omega⟩⟩
    · simp only; rw [newW_snoc, ← e5, if_pos (by omega)]
    · intro i hi
      simp only [List.mem_append, List.mem_singleton]
      rw [one]
      constructor
      · intro e; exact ⟨by omega, .inr (by omega)⟩
      · rintro ⟨_, b | b⟩
        · have := hge.2 _ b; omega
        · omega
  rw [if_neg c8]
  refine ⟨rfl, ⟨rfl, e2, e3, rfl, ?_, hb', ?_⟩, ⟨by simp only; omega, by simp only; omega, hs.ms, hs.ec, Nat.or_lt_two_pow (n := 64) (Nat.mod_lt _ (by omega)) (by omega)⟩⟩
  · simp only; rw [newW_snoc, ← e5, if_pos (by omega)]
  · intro i hi
    have hm : s.win * 2 ^ (n - s.newest).toNat % 18446744073709551616 = (2 ^ (n - s.newest).toNat * s.win) % 2 ^ 64 := by rw [Nat.mul_comm]
    simp only [hm, Nat.testBit_or, Nat.testBit_mod_two_pow, Nat.testBit_two_pow_mul, Bool.or_eq_true, Bool.and_eq_true, decide_eq_true_eq, List.mem_append, List.mem_singleton, one]
    constructor
    · rintro (⟨a, b, c⟩ | a)
      · have := (e7 _ (by omega)).1 c
        refine ⟨by omega, .inl ?_⟩
        rw [show n - (i : Int) = s.newest - ((i - (n - s.newest).toNat : Nat) : Int) by omega]
        exact this.2
      · exact ⟨by omega, .inr (by omega)⟩
    · rintro ⟨a, b | b⟩
      · have hle := hge.2 _ b
        refine .inl ⟨hi, by omega, (e7 _ (by omega)).2 ⟨by omega, ?_⟩⟩
        rw [show s.newest - ((i - (n - s.newest).toNat : Nat) : Int) = n - (i : Int) by omega]
        exact b
      · exact .inr (by omega)
def tickW (s : Wk) : Wk := { s with left := if s.most < s.left + s.each then s.most else s.left + s.each }
theorem tick_same {s : Sn} {k : Wk} (h : SR s k) (hs : SnOk s) : SR (tickS s) (tickW k) ∧ SnOk (tickS s) := by
  obtain ⟨e1, e2, e3, e4, e5, e6, e7⟩ := id h
  obtain ⟨a1, a2, a3, a4, a5⟩ := id hs
  refine ⟨⟨e1, e2, e3, ?_, e5, e6, e7⟩, ⟨a1, ?_, a3, a4, a5⟩⟩
  · unfold tickS tickW; simp only; rw [e2, e3, e4]
  · unfold tickS; simp only; split <;> omega
theorem sr_new (tok most each : Int) : SR ⟨tok, most, each, most, -1, 0⟩ ⟨tok, most, each, most, []⟩ :=
  ⟨rfl, rfl, rfl, rfl, rfl, (fun n hn => by cases hn), (fun i _ => by simp)⟩
end Go.Proofs.YtnkinnfpebploaaDoor
