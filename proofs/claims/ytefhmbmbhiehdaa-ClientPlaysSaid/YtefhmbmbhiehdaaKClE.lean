/- The walk of gyrelaw.BitsRead. Conditions: what the variable errors.errorType holds. -/
import Derived.Test.YtefhmbmbhiehdaaKTell
import Derived.Test.YtefhmbmbhiehdaaKClA
import Derived.Tactics
import Derived.Tactics2
import Derived.Outline
import Derived.Deep.CutBlock
import Derived.Deep.DeepCutAuto
import Derived.Test.YtefhmbmbhiehdaaKClB
import Derived.WalkSpells
import Derived.Test.YtefhmbmbhiehdaaKTape
namespace Go.Proofs.Ytefhmbmbhiehdaa
open Go.ChangeShapes Go.WideShapes Go.ChangeAt Go.RowKit Go.BigFrame
open B
end Go.Proofs.Ytefhmbmbhiehdaa
namespace Go.Proofs.Ytefhmbmbhiehdaa
open Go.ChangeShapes Go.WideShapes Go.ChangeAt Go.RowKit Go.BigFrame
open B
end Go.Proofs.Ytefhmbmbhiehdaa
namespace Go.Proofs.Ytefhmbmbhiehdaa
open Go.ChangeShapes Go.WideShapes Go.ChangeAt Go.RowKit Go.Deep
section
variable {H : Type} {enc : TypeId × Value → H} {P : Program} {w : World} {base : Nat} {spare : Nat → Bool} {held : Bool}
end
end Go.Proofs.Ytefhmbmbhiehdaa
namespace Go.Proofs.Ytefhmbmbhiehdaa
open Go.ChangeShapes Go.WideShapes Go.ChangeAt Go.RowKit Go.BigFrame
open B
theorem tellL_bin (st ba ix ma : Int) (l : List Nat) : Bin (tellL st ba ix ma l) := by
  unfold tellL
  exact ((((((varL_bin _).append (varL_bin _)).append (bitsOf_bin _ _)).append (bitsOf_bin _ _)).append (bitsOf_bin _ _)).append (openL_bin _))
end Go.Proofs.Ytefhmbmbhiehdaa
namespace Go.Proofs.Ytefhmbmbhiehdaa
open Go.ChangeShapes Go.WideShapes Go.ChangeAt Go.RowKit Go.BigFrame
open B
end Go.Proofs.Ytefhmbmbhiehdaa
namespace Go.Proofs.Ytefhmbmbhiehdaa
open Go.ChangeShapes Go.WideShapes Go.ChangeAt Go.RowKit Go.BigFrame
open B
/-- what bits tell as a command, one read behind the other: the number, the error's number, the place -/
structure Pr (T : List Nat) (n1 e1 n2 e2 n3 e3 k e4 n5 e5 n6 e6 n7 e7 n8 e8 : Int) (a1 a2 a3 a4 a5 a6 a7 a8 : Nat) : Prop where
  h1 : varD T 0 = (n1, e1, a1)
  h2 : varD T a1 = (n2, e2, a2)
  h3 : varD T a2 = (n3, e3, a3)
  h4 : getD T a3 2 = (k, e4, a4)
  h5 : varD T a4 = (n5, e5, a5)
  h6 : intD T a5 = (n6, e6, a6)
  h7 : intD T a6 = (n7, e7, a7)
  h8 : intD T a7 = (n8, e8, a8)
def cb (k n : Int) : Int := if k ≠ 0 then n else 0
theorem mod2_above {w w' : World} {B p q : Nat} (k : Mod (fun b => b = p ∨ b = q) w w') (hB : B ≤ w.heap.size) (hp : B ≤ p) (hq : B ≤ q) : Below B w w' := k.toBelow hB fun _ hb e => by omega
theorem Blk.eqs {w : World} {b : Nat} {cs cs' : Array Value} (h : Blk w b cs) (e : cs = cs') : Blk w b cs' := e ▸ h
end Go.Proofs.Ytefhmbmbhiehdaa
namespace Go.Proofs.Ytefhmbmbhiehdaa
open Go.ChangeShapes Go.WideShapes Go.ChangeAt Go.RowKit Go.BigFrame
open B
/-- a part of bytes -/
theorem src_slice {w : World} {A : Option Addr} {N cap : Nat} {l : List Nat} (h : Src w (.slice A N cap) l) (hN : N = l.length) (hcap : N ≤ cap) (i j : Nat) (x y : Int) (hx : x = i) (hy : y = j) (hij : i ≤ j) (hj : j ≤ N) :
    ∃ A' c', Src w (.slice A' (j - i) c') ((l.drop i).take (j - i)) ∧ j - i ≤ c' ∧ ∀ w', (Instr.slice 29 (.slice A N cap) (some (.int .i64 x)) (some (.int .i64 y)) none).run Try.prog w' = .ok (.slice A' (j - i) c') w' := by
  subst hx hy
  have hu : Try.prog.underlying 29 = some (.slice (Try.prog.elem 29)) := by kernel_rfl
  have hsz : ∀ w', (sizeOf (Try.prog.elem 29)).run Try.prog w' = .ok 1 w' := fun w' => by kernel_rfl
  refine ⟨if cap = i then A else A.map (·.add i), cap - i, ?_, by omega, fun w' => ?_⟩
  · have hlen : ((l.drop i).take (j - i)).length = j - i := by simp; omega
    rcases h with ⟨e, rfl⟩ | ⟨ad, c, e, hc⟩
    · cases e
      left
      have : i = 0 := by simp at hN; omega
      subst this
      simp at hN hj
      subst hj
      simp
    · cases e
      right
      by_cases hci : cap = i
      · rw [if_pos hci]
        refine ⟨ad, cap - i, by rw [hlen], fun k u hu => ?_⟩
        have : k < j - i := by
          have := (List.getElem?_eq_some_iff.1 hu).1
          rw [u8s_length, hlen] at this
          exact this
        omega
      · rw [if_neg hci]
        refine ⟨ad.add i, cap - i, by rw [hlen]; rfl, fun k u hu => ?_⟩
        rw [Go.Deep.add_add]
        apply hc
        have hk : k < j - i := by
          have := (List.getElem?_eq_some_iff.1 hu).1
          rw [u8s_length, hlen] at this
          exact this
        have e : ((l.drop i).take (j - i))[k]? = l[i + k]? := by rw [List.getElem?_take, if_pos hk, List.getElem?_drop]
        unfold u8s at hu ⊢
        rw [List.getElem?_map] at hu ⊢
        rw [e] at hu
        exact hu
  · rw [run_slice_lh w' 29 A N cap hu .i64 .i64 (i : Int) (j : Int) (by omega) (by omega) (by omega)]
    rw [hsz]
    simp [Result.andThen, sliced]
end Go.Proofs.Ytefhmbmbhiehdaa
namespace Go.Proofs.Ytefhmbmbhiehdaa
open Go.ChangeShapes Go.WideShapes Go.ChangeAt Go.RowKit Go.BigFrame
open B
/-- the j-th piece's bytes -/
def chunk (l : List Nat) (j : Nat) : List Nat := (l.drop (100 * j)).take 100
/-- the cells of a piece -/
def pieceC (st ba : Int) (ix : Nat) (ma : Int) (v : Value) : List Value := [.int .i64 st, .int .i64 ba, .int .i64 (ix : Int), .int .i64 ma, v]
/-- k pieces, with such slices -/
def piecesC (st ba ma : Int) (vs : List Value) : List Value := (vs.zipIdx).flatMap fun p => pieceC st ba p.2 ma p.1
/-- the pieces that were made: a row of the call's own, and each piece's bytes in rows of their own -/
structure Pcs (w : World) (B : Nat) (v : Value) (st ba ma : Int) (l : List Nat) (vs : List Value) : Prop where
  row : w.ownsRow B 107 5 v vs.length (piecesC st ba ma vs)
  part : ∀ k u, vs[k]? = some u → (∃ A c, u = .slice A (chunk l k).length c) ∧ w.ownsRow B 5 1 u (chunk l k).length (u8s (chunk l k)) ∧ ∀ b, u.ownBlock = some b → v.ownBlock ≠ some b
theorem Pcs.below {w w' : World} {B : Nat} {v : Value} {st ba ma : Int} {l : List Nat} {vs : List Value} (h : Pcs w B v st ba ma l vs) (k : Below w.heap.size w w') : Pcs w' B v st ba ma l vs :=
  ⟨row_below h.row k, fun j u hu => ⟨(h.part j u hu).1, row_below (h.part j u hu).2.1 k, (h.part j u hu).2.2⟩⟩
end Go.Proofs.Ytefhmbmbhiehdaa
namespace Go.Proofs.Ytefhmbmbhiehdaa
open Go.ChangeShapes Go.WideShapes Go.ChangeAt Go.RowKit Go.BigFrame
open B
/-- pieces, each with a number of its own -/
def piecesF (st ba : Int) (ma : Nat → Int) (vs : List Value) : List Value := (vs.zipIdx).flatMap fun p => pieceC st ba p.2 (ma p.2) p.1
/-- each part's bytes, in whatever comes -/
def Parts (w : World) (l : List Nat) (vs : List Value) : Prop := ∀ k u, vs[k]? = some u → (∃ A c, u = .slice A (chunk l k).length c) ∧ ∀ w', Below w.heap.size w w' → Src w' u (chunk l k)
end Go.Proofs.Ytefhmbmbhiehdaa
namespace Go.Proofs.Ytefhmbmbhiehdaa
open Go.ChangeShapes Go.WideShapes Go.ChangeAt Go.RowKit Go.BigFrame
open B
theorem Src.of_row {w : World} {base : Nat} {v : Value} {l : List Nat} (h : w.ownsRow base 5 1 v l.length (u8s l)) : Src w v l := by
  rcases id h.2 with ⟨rfl, h0⟩ | ⟨g, cap, cur, rfl, _⟩
  · exact .inl ⟨rfl, by simpa using h0⟩
  · exact .inr ⟨_, cap, rfl, fun j u hu => row_cells h j u hu⟩
end Go.Proofs.Ytefhmbmbhiehdaa
namespace Go.Proofs.Ytefhmbmbhiehdaa
open Go.ChangeShapes Go.WideShapes Go.ChangeAt Go.RowKit Go.BigFrame
open B
def byts (T : List Nat) (a n : Nat) : List Nat := (List.range n).map fun i => getV T (a + 8 * i) 8
theorem byts_succ (T : List Nat) (a n : Nat) : byts T a (n + 1) = byts T a n ++ [getV T (a + 8 * n) 8] := by simp [byts, List.range_succ]
theorem byts_len (T : List Nat) (a n : Nat) : (byts T a n).length = n := by simp [byts]
/-- one read behind the other: the number, the error's number, the place -/
structure Pt (T : List Nat) (n1 n2 n3 n4 n5 : Nat) (e1 e2 e3 e4 e5 : Int) (a1 a2 a3 a4 a5 : Nat) : Prop where
  h1 : varD T 0 = ((n1 : Int), e1, a1)
  h2 : varD T a1 = ((n2 : Int), e2, a2)
  h3 : getD T a2 6 = ((n3 : Int), e3, a3)
  h4 : getD T a3 6 = ((n4 : Int), e4, a4)
  h5 : getD T a4 7 = ((n5 : Int), e5, a5)
theorem varD_nat (T : List Nat) (a : Nat) : ∃ (n : Nat) (e : Int) (b : Nat), varD T a = ((n : Int), e, b) := by
  unfold varD
  cases varG T a with
  | error x => exact ⟨0, x, a, rfl⟩
  | ok q => exact ⟨q.1, 0, q.2, rfl⟩
theorem getD_nat {T : List Nat} (hT : Bin T) (a k : Nat) (hk : k ≤ 62) : ∃ (n : Nat) (e : Int) (b : Nat), getD T a (k : Int) = ((n : Int), e, b) ∧ n < 2 ^ k := by
  unfold getD
  rw [if_neg (by omega)]
  simp only [Int.toNat_natCast]
  by_cases h : T.length < a + k
  · rw [if_pos h]
    exact ⟨0, 8, a, rfl, Nat.two_pow_pos k⟩
  · rw [if_neg h]
    exact ⟨_, 0, a + k, rfl, getV_lt hT a k⟩
theorem pt_ex {T : List Nat} (hT : Bin T) : ∃ (n1 n2 n3 n4 n5 : Nat) (e1 e2 e3 e4 e5 : Int) (a1 a2 a3 a4 a5 : Nat), Pt T n1 n2 n3 n4 n5 e1 e2 e3 e4 e5 a1 a2 a3 a4 a5 := by
  obtain ⟨n1, e1, a1, h1⟩ := varD_nat T 0
  obtain ⟨n2, e2, a2, h2⟩ := varD_nat T a1
  obtain ⟨n3, e3, a3, h3, _⟩ := getD_nat hT a2 6 (by omega)
  obtain ⟨n4, e4, a4, h4, _⟩ := getD_nat hT a3 6 (by omega)
  obtain ⟨n5, e5, a5, h5, _⟩ := getD_nat hT a4 7 (by omega)
  exact ⟨n1, n2, n3, n4, n5, e1, e2, e3, e4, e5, a1, a2, a3, a4, a5, h1, h2, h3, h4, h5⟩
theorem Pt.lt {T : List Nat} (hT : Bin T) {n1 n2 n3 n4 n5 : Nat} {e1 e2 e3 e4 e5 : Int} {a1 a2 a3 a4 a5 : Nat} (h : Pt T n1 n2 n3 n4 n5 e1 e2 e3 e4 e5 a1 a2 a3 a4 a5) : n5 < 128 := by
  obtain ⟨n, e, b, hg, hlt⟩ := getD_nat hT a4 7 (by omega)
  have := h.h5
  have hg' : getD T a4 7 = ((n : Int), e, b) := hg
  rw [hg'] at this
  have h2 : (n : Int) = (n5 : Int) := congrArg Prod.fst this
  omega
/-- a piece is told, and just so -/
def GoodT (l : List Nat) (n1 n2 n3 n4 n5 : Nat) (e1 e2 e3 e4 e5 : Int) (a5 : Nat) : Prop :=
  (e1 = 0 ∧ e2 = 0 ∧ e3 = 0 ∧ e4 = 0 ∧ e5 = 0) ∧ a5 + 8 * n5 ≤ (openL l).length ∧ RightP n1 n2 n4 n3 n5 ∧ pack (tellL n1 n2 n4 n3 (byts (openL l) a5 n5)) = l
def PostT (ev ok : Value) (l : List Nat) (n1 n2 n3 n4 n5 : Nat) (e1 e2 e3 e4 e5 : Int) (a5 : Nat) (w : World) (e : Ending) (w' : World) : Prop :=
  (GoodT l n1 n2 n3 n4 n5 e1 e2 e3 e4 e5 a5 ∧ ∃ A c, e = .returned (.tuple #[.agg #[.int .i64 n1, .int .i64 n2, .int .i64 n4, .int .i64 n3, .slice A n5 c], ok]) ∧ BsOf w' w.heap.size (.slice A n5 c) (byts (openL l) a5 n5) ∧ Below w.heap.size w w') ∨
  (¬ GoodT l n1 n2 n3 n4 n5 e1 e2 e3 e4 e5 a5 ∧ e = .returned (.tuple #[.agg #[.int .i64 0, .int .i64 0, .int .i64 0, .int .i64 0, .slice none 0 0], ev]) ∧ Below w.heap.size w w')
/-- what package wire misses ahead of the bytes -/
def BadTW (n1 n2 : Nat) (e1 e2 e3 e4 e5 : Int) : Prop := ((((False ∨ e1 ≠ 0 ∨ (70368744177664 : Int) < n1) ∨ e2 ≠ 0 ∨ (70368744177664 : Int) < n2) ∨ e3 ≠ 0) ∨ e4 ≠ 0) ∨ e5 ≠ 0
/-- what the document misses -/
def BadTR (e1 e2 e3 e4 e5 : Int) : Prop := ((((False ∨ e1 ≠ 0) ∨ e2 ≠ 0) ∨ e3 ≠ 0) ∨ e4 ≠ 0) ∨ e5 ≠ 0
variable {l : List Nat} {n1 n2 n3 n4 n5 : Nat} {e1 e2 e3 e4 e5 : Int} {a5 : Nat}
theorem badTW (h : BadTW n1 n2 e1 e2 e3 e4 e5) : ¬ GoodT l n1 n2 n3 n4 n5 e1 e2 e3 e4 e5 a5 := by
  rintro ⟨⟨g1, g2, g3, g4, g5⟩, _, ⟨r1, r2, r3, r4, _⟩, _⟩
  unfold BadTW at h
  rcases h with ((((h | h) | h) | h) | h) | h
  · exact h
  · omega
  · omega
  · omega
  · omega
  · omega
theorem badTR (h : BadTR e1 e2 e3 e4 e5) : ¬ GoodT l n1 n2 n3 n4 n5 e1 e2 e3 e4 e5 a5 := by
  rintro ⟨⟨g1, g2, g3, g4, g5⟩, _, _, _⟩
  unfold BadTR at h
  rcases h with ((((h | h) | h) | h) | h) | h
  · exact h
  all_goals omega
/-- the loop: j bytes to come -/
structure RelT (B G : Prop) (T : List Nat) (a5 n5 j : Nat) (L : List Nat) (a : Nat) (bad : Bool) : Prop where
  lt : ∀ x ∈ L, x < 256
  len : L.length + j = n5
  no : bad = false → a = a5 + 8 * L.length ∧ L = byts T a5 L.length ∧ ¬ B
  yes : bad = true → ¬ G
theorem relT_start {B G : Prop} {T : List Nat} {bad : Bool} (h : bad = true ↔ B) (hG : B → ¬ G) : RelT B G T a5 n5 n5 [] a5 bad :=
  ⟨fun _ h => by simp at h, by simp, fun hb => ⟨by simp, by simp [byts], fun hB => by rw [h.2 hB] at hb; cases hb⟩, fun hb => hG (h.1 hb)⟩
theorem relT_step {B G : Prop} {T : List Nat} (hT : Bin T) {j a : Nat} {L : List Nat} (h : RelT B G T a5 n5 (j + 1) L a false) (hG : G → a5 + 8 * n5 ≤ T.length) :
    ∃ (x : Nat) (e : Int) (a' : Nat), getD T a 8 = ((x : Int), e, a') ∧ x < 256 ∧ ∀ bad' : Bool, (bad' = true ↔ e ≠ 0) → RelT B G T a5 n5 j (L ++ [x]) a' bad' := by
  obtain ⟨ha, hL, hB⟩ := h.no rfl
  unfold getD
  rw [if_neg (by omega)]
  by_cases hc : T.length < a + (8 : Int).toNat
  · rw [if_pos hc]
    refine ⟨0, 8, a, rfl, by omega, fun bad' hb => ?_⟩
    have hb' : bad' = true := hb.2 (by omega)
    refine ⟨?_, ?_, (fun h0 => by rw [hb'] at h0; cases h0), fun _ g => ?_⟩
    · intro y hy
      rcases List.mem_append.1 hy with hy | hy
      · exact h.lt y hy
      · simp at hy; omega
    · have := h.len; simp; omega
    · have h1 := hG g
      have h2 := h.len
      have h3 : (8 : Int).toNat = 8 := rfl
      omega
  · rw [if_neg hc]
    refine ⟨_, 0, a + 8, rfl, getV_lt hT a 8, fun bad' hb => ?_⟩
    have hb' : bad' = false := by cases bad' with | false => rfl | true => exact absurd rfl (hb.1 rfl)
    refine ⟨?_, ?_, fun _ => ⟨?_, ?_, hB⟩, (fun h0 => by rw [hb'] at h0; cases h0)⟩
    · intro y hy
      rcases List.mem_append.1 hy with hy | hy
      · exact h.lt y hy
      · simp only [List.mem_singleton] at hy
        subst hy
        exact getV_lt hT a 8
    · have := h.len; simp; omega
    · simp; omega
    · simp only [List.length_append, List.length_cons, List.length_nil, Nat.zero_add]
      rw [byts_succ, ← hL, ha]
      rfl
/-- the piece at block cc, and its bytes -/
structure Pc (w w1 : World) (cc x0 : Nat) (n1 n2 n4 n3 : Int) (v : Value) (L : List Nat) : Prop where
  blk : Blk w1 cc #[.int .i64 n1, .int .i64 n2, .int .i64 n4, .int .i64 n3, v]
  x : Blk w1 x0 #[.int .i64 0, .int .i64 0, .int .i64 0, .int .i64 0, .slice none 0 0]
  row : w1.ownsRow (cc + 1) 5 1 v L.length (u8s L)
  bel : Below w.heap.size w w1
  lt : x0 < cc
  base : w.heap.size ≤ x0
theorem Pc.mod {w w1 w2 : World} {cc x0 : Nat} {n1 n2 n4 n3 : Int} {v : Value} {L : List Nat} {S : Nat → Prop} (h : Pc w w1 cc x0 n1 n2 n4 n3 v L) (k : Mod S w1 w2) (hs : ∀ b, S b → b < cc ∧ b ≠ x0 ∧ w.heap.size ≤ b) : Pc w w2 cc x0 n1 n2 n4 n3 v L :=
  ⟨h.blk.mod k fun e => by have := hs _ e; omega, h.x.mod k fun e => (hs _ e).2.1 rfl, row_mod h.row k fun b hb e => by have h1 := hs _ e; have h2 := (row_lt h.row hb).2; omega, h.bel.trans (k.toBelow h.bel.size fun b hb e => by have := hs _ e; omega), h.lt, h.base⟩
theorem Pc.below {w w1 w2 : World} {cc x0 : Nat} {n1 n2 n4 n3 : Int} {v : Value} {L : List Nat} (h : Pc w w1 cc x0 n1 n2 n4 n3 v L) (k : Below w1.heap.size w1 w2) : Pc w w2 cc x0 n1 n2 n4 n3 v L :=
  h.mod (S := fun _ => False) (Mod.of_below k) fun _ => False.elim
/-- behind an append and a store -/
theorem Pc.app {w w1 w2 : World} {o : Obj} {cc x0 : Nat} {n1 n2 n4 n3 : Int} {v v' : Value} {L : List Nat} {x : Nat} (h : Pc w w1 cc x0 n1 n2 n4 n3 v L) (hg : (w1.alloc o).grownBy w2 v.ownBlock)
    (hown : w2.ownsRow (cc + 1) 5 1 v' (L.length + 1) (u8s L ++ [.int .u8 (x : Int)])) : Pc w (w2.setCell ⟨cc, 4, none⟩ v') cc x0 n1 n2 n4 n3 v' (L ++ [x]) := by
  have hm : Mod (fun b => v.ownBlock = some b) w1 w2 := Mod.trans2 (Mod.of_below (balloc w1 o)) (mod_grown hg) fun _ _ h => h
  have hbase := h.base
  have hlt := h.lt
  have hc : ¬ (v.ownBlock = some cc) := fun e => by have := (row_lt h.row e).2; omega
  have hx : ¬ (v.ownBlock = some x0) := fun e => by have := (row_lt h.row e).2; omega
  refine ⟨(h.blk.mod hm hc).put (i := 4), Blk.far (by omega) (h.x.mod hm hx), ?_, ?_, hlt, hbase⟩
  · have e : (L ++ [x]).length = L.length + 1 := by simp
    rw [e, u8s_append]
    exact row_far hown fun e => by have := (row_lt hown e).2; omega
  · exact (h.bel.trans (hm.toBelow h.bel.size fun b hb e => by have := (row_lt h.row e).2; omega)).setCell (show w.heap.size ≤ cc by omega) _
theorem Pc.mid {w w1 w2 : World} {o : Obj} {cc x0 : Nat} {n1 n2 n4 n3 : Int} {v : Value} {L : List Nat} (h : Pc w w1 cc x0 n1 n2 n4 n3 v L) (hg : (w1.alloc o).grownBy w2 v.ownBlock) : Blk w2 cc #[.int .i64 n1, .int .i64 n2, .int .i64 n4, .int .i64 n3, v] :=
  h.blk.mod (S := fun b => v.ownBlock = some b) (Mod.trans2 (Mod.of_below (balloc w1 o)) (mod_grown hg) fun _ _ h => h) fun e => by have := (row_lt h.row e).2; omega
theorem Pc.out {w w1 : World} {cc x0 : Nat} {n1 n2 n4 n3 : Int} {v : Value} {L : List Nat} (h : Pc w w1 cc x0 n1 n2 n4 n3 v L) {b : Nat} (hb : b < cc) : ¬ (v.ownBlock = some b ∨ b = cc) := by
  rintro (e | e)
  · have := (row_lt h.row e).2; omega
  · omega
/-- the places of a reader stay -/
theorem grow_mod {w1 w2 : World} {o : Obj} {cc : Nat} {v v' : Value} (hg : (w1.alloc o).grownBy w2 v.ownBlock) : Mod (fun b => v.ownBlock = some b ∨ b = cc) w1 (w2.setCell ⟨cc, 4, none⟩ v') :=
  (Mod.trans2 (S := fun b => v.ownBlock = some b ∨ b = cc) (Mod.of_below (balloc w1 o)) (mod_grown hg) fun _ _ h => .inl h).set (.inl (.inr rfl))

end Go.Proofs.Ytefhmbmbhiehdaa
namespace Go.Proofs.Ytefhmbmbhiehdaa
open Go.ChangeShapes Go.WideShapes Go.ChangeAt Go.RowKit Go.BigFrame
open B
theorem tdet_of {base p : Nat} {v : Value} {L : List Nat} {r : Int × Int × Nat} {n e : Int} {a : Nat} {f : FuncId} {args : Array Value} {w : World} (h : Calls Try.prog f args w (TDet base p v L r w)) (hr : r = (n, e, a)) :
    Calls Try.prog f args w fun ev w' => ev = .returned (.tuple #[.int .i64 n, .int .i64 e]) ∧ Tp w' base p v L a ∧ Mod (· = p) w w' := by
  subst hr
  exact h
theorem ropen_o (v : Value) (l : List Nat) (w : World) (h : Rdb w v l) (h8 : ∀ b ∈ l, b < 256) (hlen : l.length ≤ 100000) : Calls Try.prog 79 #[v] w fun e w' => ∃ A N c, e = .returned (.slice A N c) ∧ N = (openL l).length ∧ w'.ownsRow w.heap.size 5 1 (.slice A N c) (openL l).length (u8s (openL l)) ∧ Below w.heap.size w w' := by
  refine (ropen_c v l w h h8 hlen).mono fun e w' ⟨v', he, hr, hb⟩ => ?_
  obtain ⟨A, c, rfl⟩ := row_form hr
  exact ⟨A, _, c, he, rfl, hr, hb⟩
theorem strB_inj {l m : List Nat} (hl : ∀ b ∈ l, b < 256) (hm : ∀ b ∈ m, b < 256) (h : strB l = strB m) : l = m := by
  have h1 : (strB l).data.toList = (strB m).data.toList := by rw [h]
  unfold strB at h1
  rw [strOfNums_data, strOfNums_data] at h1
  have h2 := congrArg (fun a => a.map UInt8.toNat) h1
  simp only [List.map_map] at h2
  have e : ∀ q : List Nat, (∀ b ∈ q, b < 256) → q.map (UInt8.toNat ∘ (fun n : Int => UInt8.ofNat n.toNat) ∘ fun (b : Nat) => (b : Int)) = q := by
    intro q hq
    conv => rhs; rw [← List.map_id q]
    apply List.map_congr_left
    intro b hb
    have := hq b hb
    simp [UInt8.toNat_ofNat']
    omega
  rw [e l hl, e m hm] at h2
  exact h2
theorem bne_str {a b : ByteArray} (h : a ≠ b) : (a.toList == b.toList) = false := by
  rw [beq_eq_false_iff_ne, ByteArray.toList_eq, ByteArray.toList_eq]
  intro e
  apply h
  cases a; cases b
  simpa using e
end Go.Proofs.Ytefhmbmbhiehdaa
namespace Go.Proofs.Ytefhmbmbhiehdaa
open Go.ChangeShapes Go.WideShapes Go.ChangeAt Go.RowKit Go.BigFrame
open B
/-- a reader, and the document's tape, side by side -/
structure RT (B B1 P X : Nat) (w : World) (rv tv : Value) (l : List Nat) (a : Nat) : Prop where
  rd : Rd w B P rv l a
  tp : Tp w B1 X tv (openL l) a
  px : P ≠ X
  d1 : rv.ownBlock ≠ some X
  d2 : tv.ownBlock ≠ some P
theorem RT.below {B B1 P X a : Nat} {w w' : World} {rv tv : Value} {l : List Nat} (h : RT B B1 P X w rv tv l a) (k : Below w.heap.size w w') : RT B B1 P X w' rv tv l a := ⟨h.rd.below k, h.tp.below k, h.px, h.d1, h.d2⟩
theorem RT.step {B B1 P X a a' : Nat} {w w1 w' : World} {rv tv : Value} {l : List Nat} (h : RT B B1 P X w rv tv l a) (ht : Tp w1 B1 X tv (openL l) a') (hr : Rd w' B P rv l a') (hm2 : Mod (· = P) w1 w') : RT B B1 P X w' rv tv l a' :=
  ⟨hr, ht.mod hm2 (fun e => h.px e.symm) (fun _ hb e => h.d2 (e ▸ hb)), h.px, h.d1, h.d2⟩
theorem src_form {w : World} {v : Value} {l : List Nat} (h : Src w v l) : ∃ A cap, v = .slice A l.length cap := by
  rcases h with ⟨rfl, rfl⟩ | ⟨ad, cap, rfl, _⟩
  · exact ⟨none, 0, rfl⟩
  · exact ⟨_, cap, rfl⟩
end Go.Proofs.Ytefhmbmbhiehdaa
