/- What bits tell as a piece. Conditions: none. -/
import Derived.Test.YtnkinnfpebploaaAsked
import Derived.Test.YtnkinnfpebploaaWcuts
namespace Go.Proofs.Ytnkinnfpebploaa
open Go.ChangeShapes Go.WideShapes Go.ChangeAt Go.RowKit Go.BigFrame
open B
def byts (T : List Nat) (a n : Nat) : List Nat := (List.range n).map fun i => getV T (a + 8 * i) 8
theorem byts_succ (T : List Nat) (a n : Nat) : byts T a (n + 1) = byts T a n ++ [getV T (a + 8 * n) 8] := by simp [byts, List.range_succ]
theorem byts_len (T : List Nat) (a n : Nat) : (byts T a n).length = n := by simp [byts]
/-- one read behind the other: the number, the error's number, the place -/
structure Pt (T : List Nat) (n1 n2 n3 n4 n5 : Nat) (e1 e2 e3 e4 e5 : Int) (a1 a2 a3 a4 a5 : Nat) : Prop where
  h1 : varD T 0 = ((n1 : Int), e1, a1)
  h2 : varD T a1 = ((n2 : Int), e2, a2)
  h3 : getD T a2 6 = ((n3 : Int), e3, a3)
  h4 : getD T a3 6 = ((n4 : Int), e4, a4)
  h5 : getD T a4 7 = ((n5 : Int), e5, a5)
theorem varD_nat (T : List Nat) (a : Nat) : ∃ (n : Nat) (e : Int) (b : Nat), varD T a = ((n : Int), e, b) := by
  unfold varD
  cases varG T a with
  | error x => exact ⟨0, x, a, rfl⟩
  | ok q => exact ⟨q.1, 0, q.2, rfl⟩
theorem getD_nat {T : List Nat} (hT : Bin T) (a k : Nat) (hk : k ≤ 62) : ∃ (n : Nat) (e : Int) (b : Nat), getD T a (k : Int) = ((n : Int), e, b) ∧ n < 2 ^ k := by
  unfold getD
  rw [if_neg (by omega)]
  simp only [Int.toNat_natCast]
  by_cases h : T.length < a + k
  · rw [if_pos h]
    exact ⟨0, 8, a, rfl, Nat.two_pow_pos k⟩
  · rw [if_neg h]
    exact ⟨_, 0, a + k, rfl, getV_lt hT a k⟩
theorem pt_ex {T : List Nat} (hT : Bin T) : ∃ (n1 n2 n3 n4 n5 : Nat) (e1 e2 e3 e4 e5 : Int) (a1 a2 a3 a4 a5 : Nat), Pt T n1 n2 n3 n4 n5 e1 e2 e3 e4 e5 a1 a2 a3 a4 a5 := by
  obtain ⟨n1, e1, a1, h1⟩ := varD_nat T 0
  obtain ⟨n2, e2, a2, h2⟩ := varD_nat T a1
  obtain ⟨n3, e3, a3, h3, _⟩ := getD_nat hT a2 6 (by omega)
  obtain ⟨n4, e4, a4, h4, _⟩ := getD_nat hT a3 6 (by omega)
  obtain ⟨n5, e5, a5, h5, _⟩ := getD_nat hT a4 7 (by omega)
  exact ⟨n1, n2, n3, n4, n5, e1, e2, e3, e4, e5, a1, a2, a3, a4, a5, h1, h2, h3, h4, h5⟩
theorem Pt.lt {T : List Nat} (hT : Bin T) {n1 n2 n3 n4 n5 : Nat} {e1 e2 e3 e4 e5 : Int} {a1 a2 a3 a4 a5 : Nat} (h : Pt T n1 n2 n3 n4 n5 e1 e2 e3 e4 e5 a1 a2 a3 a4 a5) : n5 < 128 := by
  obtain ⟨n, e, b, hg, hlt⟩ := getD_nat hT a4 7 (by omega)
  have := h.h5
  have hg' : getD T a4 7 = ((n : Int), e, b) := hg
  rw [hg'] at this
  have h2 : (n : Int) = (n5 : Int) := congrArg Prod.fst this
  omega
/-- a piece is told, and just so -/
def GoodT (l : List Nat) (n1 n2 n3 n4 n5 : Nat) (e1 e2 e3 e4 e5 : Int) (a5 : Nat) : Prop :=
  (e1 = 0 ∧ e2 = 0 ∧ e3 = 0 ∧ e4 = 0 ∧ e5 = 0) ∧ a5 + 8 * n5 ≤ (openL l).length ∧ RightP n1 n2 n4 n3 n5 ∧ pack (tellL n1 n2 n4 n3 (byts (openL l) a5 n5)) = l
def Z5 : Array Value := #[.int .i64 0, .int .i64 0, .int .i64 0, .int .i64 0, .slice none 0 0]
def PostT (ev ok : Value) (l : List Nat) (n1 n2 n3 n4 n5 : Nat) (e1 e2 e3 e4 e5 : Int) (a5 : Nat) (w : World) (e : Ending) (w' : World) : Prop :=
  (GoodT l n1 n2 n3 n4 n5 e1 e2 e3 e4 e5 a5 ∧ ∃ A c, e = .returned (.tuple #[.agg #[.int .i64 n1, .int .i64 n2, .int .i64 n4, .int .i64 n3, .slice A n5 c], ok]) ∧ BsOf w' w.heap.size (.slice A n5 c) (byts (openL l) a5 n5) ∧ Below w.heap.size w w') ∨
  (¬ GoodT l n1 n2 n3 n4 n5 e1 e2 e3 e4 e5 a5 ∧ e = .returned (.tuple #[.agg #[.int .i64 0, .int .i64 0, .int .i64 0, .int .i64 0, .slice none 0 0], ev]) ∧ Below w.heap.size w w')
/-- what package wire misses ahead of the bytes -/
def BadTW (n1 n2 : Nat) (e1 e2 e3 e4 e5 : Int) : Prop := ((((False ∨ e1 ≠ 0 ∨ (70368744177664 : Int) < n1) ∨ e2 ≠ 0 ∨ (70368744177664 : Int) < n2) ∨ e3 ≠ 0) ∨ e4 ≠ 0) ∨ e5 ≠ 0
/-- what the document misses -/
def BadTR (e1 e2 e3 e4 e5 : Int) : Prop := ((((False ∨ e1 ≠ 0) ∨ e2 ≠ 0) ∨ e3 ≠ 0) ∨ e4 ≠ 0) ∨ e5 ≠ 0
variable {l : List Nat} {n1 n2 n3 n4 n5 : Nat} {e1 e2 e3 e4 e5 : Int} {a5 : Nat}
theorem badTW (h : BadTW n1 n2 e1 e2 e3 e4 e5) : ¬ GoodT l n1 n2 n3 n4 n5 e1 e2 e3 e4 e5 a5 := by
  rintro ⟨⟨g1, g2, g3, g4, g5⟩, _, ⟨r1, r2, r3, r4, _⟩, _⟩
  unfold BadTW at h
  rcases h with ((((h | h) | h) | h) | h) | h
  · exact h
  · omega
  · omega
  · omega
  · omega
  · omega
theorem badTR (h : BadTR e1 e2 e3 e4 e5) : ¬ GoodT l n1 n2 n3 n4 n5 e1 e2 e3 e4 e5 a5 := by
  rintro ⟨⟨g1, g2, g3, g4, g5⟩, _, _, _⟩
  unfold BadTR at h
  rcases h with ((((h | h) | h) | h) | h) | h
  · exact h
  all_goals omega
/-- the loop: j bytes to come -/
structure RelT (B G : Prop) (T : List Nat) (a5 n5 j : Nat) (L : List Nat) (a : Nat) (bad : Bool) : Prop where
  lt : ∀ x ∈ L, x < 256
  len : L.length + j = n5
  no : bad = false → a = a5 + 8 * L.length ∧ L = byts T a5 L.length ∧ ¬ B
  yes : bad = true → ¬ G
theorem relT_start {B G : Prop} {T : List Nat} {bad : Bool} (h : bad = true ↔ B) (hG : B → ¬ G) : RelT B G T a5 n5 n5 [] a5 bad :=
  ⟨fun _ h => by simp at h, by simp, fun hb => ⟨by simp, by simp [byts], fun hB => by rw [h.2 hB] at hb; cases hb⟩, fun hb => hG (h.1 hb)⟩
theorem relT_step {B G : Prop} {T : List Nat} (hT : Bin T) {j a : Nat} {L : List Nat} (h : RelT B G T a5 n5 (j + 1) L a false) (hG : G → a5 + 8 * n5 ≤ T.length) :
    ∃ (x : Nat) (e : Int) (a' : Nat), getD T a 8 = ((x : Int), e, a') ∧ x < 256 ∧ ∀ bad' : Bool, (bad' = true ↔ e ≠ 0) → RelT B G T a5 n5 j (L ++ [x]) a' bad' := by
  obtain ⟨ha, hL, hB⟩ := h.no rfl
  unfold getD
  rw [if_neg (by omega)]
  by_cases hc : T.length < a + (8 : Int).toNat
  · rw [if_pos hc]
    refine ⟨0, 8, a, rfl, by omega, fun bad' hb => ?_⟩
    have hb' : bad' = true := hb.2 (by omega)
    refine ⟨?_, ?_, (fun h0 => by rw [hb'] at h0; cases h0), fun _ g => ?_⟩
    · intro y hy
      rcases List.mem_append.1 hy with hy | hy
      · exact h.lt y hy
      · simp at hy; omega
    · have := h.len; simp; omega
    · have h1 := hG g
      have h2 := h.len
      have h3 : (8 : Int).toNat = 8 := rfl
      omega
  · rw [if_neg hc]
    refine ⟨_, 0, a + 8, rfl, getV_lt hT a 8, fun bad' hb => ?_⟩
    have hb' : bad' = false := by cases bad' with | false => rfl | true => exact absurd rfl (hb.1 rfl)
    refine ⟨?_, ?_, fun _ => ⟨?_, ?_, hB⟩, (fun h0 => by rw [hb'] at h0; cases h0)⟩
    · intro y hy
      rcases List.mem_append.1 hy with hy | hy
      · exact h.lt y hy
      · simp only [List.mem_singleton] at hy
        subst hy
        exact getV_lt hT a 8
    · have := h.len; simp; omega
    · simp; omega
    · simp only [List.length_append, List.length_cons, List.length_nil, Nat.zero_add]
      rw [byts_succ, ← hL, ha]
      rfl
/-- the piece at block cc, and its bytes -/
structure Pc (w w1 : World) (cc x0 : Nat) (n1 n2 n4 n3 : Int) (v : Value) (L : List Nat) : Prop where
  blk : Blk w1 cc #[.int .i64 n1, .int .i64 n2, .int .i64 n4, .int .i64 n3, v]
  x : Blk w1 x0 #[.int .i64 0, .int .i64 0, .int .i64 0, .int .i64 0, .slice none 0 0]
  row : w1.ownsRow (cc + 1) 5 1 v L.length (u8s L)
  bel : Below w.heap.size w w1
  lt : x0 < cc
  base : w.heap.size ≤ x0
theorem Pc.mod {w w1 w2 : World} {cc x0 : Nat} {n1 n2 n4 n3 : Int} {v : Value} {L : List Nat} {S : Nat → Prop} (h : Pc w w1 cc x0 n1 n2 n4 n3 v L) (k : Mod S w1 w2) (hs : ∀ b, S b → b < cc ∧ b ≠ x0 ∧ w.heap.size ≤ b) : Pc w w2 cc x0 n1 n2 n4 n3 v L :=
  ⟨h.blk.mod k fun e => by have := hs _ e; omega, h.x.mod k fun e => (hs _ e).2.1 rfl, row_mod h.row k fun b hb e => by have h1 := hs _ e; have h2 := (row_lt h.row hb).2; omega, h.bel.trans (k.toBelow h.bel.size fun b hb e => by have := hs _ e; omega), h.lt, h.base⟩
theorem Pc.below {w w1 w2 : World} {cc x0 : Nat} {n1 n2 n4 n3 : Int} {v : Value} {L : List Nat} (h : Pc w w1 cc x0 n1 n2 n4 n3 v L) (k : Below w1.heap.size w1 w2) : Pc w w2 cc x0 n1 n2 n4 n3 v L :=
  h.mod (S := fun _ => False) (Mod.of_below k) fun _ => False.elim
/-- behind an append and a store -/
theorem Pc.app {w w1 w2 : World} {o : Obj} {cc x0 : Nat} {n1 n2 n4 n3 : Int} {v v' : Value} {L : List Nat} {x : Nat} (h : Pc w w1 cc x0 n1 n2 n4 n3 v L) (hg : (w1.alloc o).grownBy w2 v.ownBlock)
    (hown : w2.ownsRow (cc + 1) 5 1 v' (L.length + 1) (u8s L ++ [.int .u8 (x : Int)])) : Pc w (w2.setCell ⟨cc, 4, none⟩ v') cc x0 n1 n2 n4 n3 v' (L ++ [x]) := by
  have hm : Mod (fun b => v.ownBlock = some b) w1 w2 := Mod.trans2 (Mod.of_below (balloc w1 o)) (mod_grown hg) fun _ _ h => h
  have hbase := h.base
  have hlt := h.lt
  have hc : ¬ (v.ownBlock = some cc) := fun e => by have := (row_lt h.row e).2; omega
  have hx : ¬ (v.ownBlock = some x0) := fun e => by have := (row_lt h.row e).2; omega
  refine ⟨(h.blk.mod hm hc).put (i := 4), Blk.far (by omega) (h.x.mod hm hx), ?_, ?_, hlt, hbase⟩
  · have e : (L ++ [x]).length = L.length + 1 := by simp
    rw [e, u8s_append]
    exact row_far hown fun e => by have := (row_lt hown e).2; omega
  · exact (h.bel.trans (hm.toBelow h.bel.size fun b hb e => by have := (row_lt h.row e).2; omega)).setCell (show w.heap.size ≤ cc by omega) _
theorem Pc.mid {w w1 w2 : World} {o : Obj} {cc x0 : Nat} {n1 n2 n4 n3 : Int} {v : Value} {L : List Nat} (h : Pc w w1 cc x0 n1 n2 n4 n3 v L) (hg : (w1.alloc o).grownBy w2 v.ownBlock) : Blk w2 cc #[.int .i64 n1, .int .i64 n2, .int .i64 n4, .int .i64 n3, v] :=
  h.blk.mod (S := fun b => v.ownBlock = some b) (Mod.trans2 (Mod.of_below (balloc w1 o)) (mod_grown hg) fun _ _ h => h) fun e => by have := (row_lt h.row e).2; omega
theorem Pc.out {w w1 : World} {cc x0 : Nat} {n1 n2 n4 n3 : Int} {v : Value} {L : List Nat} (h : Pc w w1 cc x0 n1 n2 n4 n3 v L) {b : Nat} (hb : b < cc) : ¬ (v.ownBlock = some b ∨ b = cc) := by
  rintro (e | e)
  · have := (row_lt h.row e).2; omega
  · omega
/-- the places of a reader stay -/
theorem grow_mod {w1 w2 : World} {o : Obj} {cc : Nat} {v v' : Value} (hg : (w1.alloc o).grownBy w2 v.ownBlock) : Mod (fun b => v.ownBlock = some b ∨ b = cc) w1 (w2.setCell ⟨cc, 4, none⟩ v') :=
  (Mod.trans2 (S := fun b => v.ownBlock = some b ∨ b = cc) (Mod.of_below (balloc w1 o)) (mod_grown hg) fun _ _ h => .inl h).set (.inl (.inr rfl))

end Go.Proofs.Ytnkinnfpebploaa
