/- The contracts of wire.reader; of slices.Equal over bytes. Conditions: none. -/
import Derived.Test.YtefhmbmbhiehdaaKClA
import Derived.Maps.AppendAt
import Derived.LoopTactic
import Derived.WalkSpells
import Derived.Lib.Hide
import Derived.Lib.Builder
import Derived.BigQuiet
import Derived.Deep.QuietTactic
import Derived.Laws.AppendOwnNone
import Derived.IntWalk
import Derived.Deep.RegionLaw
import Derived.Laws.BytesArg
import Derived.Deep.Slices
import Derived.ChangeArms
namespace Go.Proofs.Ytefhmbmbhiehdaa
open Go.ChangeShapes Go.WideShapes Go.ChangeAt Go.RowKit Go.BigFrame
open B

/-- bytes as values -/
def u8s (l : List Nat) : List Value := l.map fun b : Nat => Value.int .u8 (b : Int)
theorem u8s_length (l : List Nat) : (u8s l).length = l.length := by simp [u8s]
theorem u8s_append (l m : List Nat) : u8s (l ++ m) = u8s l ++ u8s m := by simp [u8s]
theorem u8s_one (l : List Nat) : ∀ u ∈ u8s l, u.oneCell' = true := by
  intro u hu
  simp only [u8s, List.mem_map] at hu
  obtain ⟨q, _, rfl⟩ := hu
  rfl
/-- the bytes with room for one bit more -/
def padL (l : List Nat) : List Nat := if l.length % 8 = 0 then pack l ++ [0] else pack l
theorem padL_length (l : List Nat) (b : Nat) : (padL l).length = bytesOf (l ++ [b]) := by
  unfold padL
  rw [bytesOf_snoc]
  split <;> simp [pack_length]
theorem bytesOf_pos (l : List Nat) (b : Nat) : l.length / 8 < bytesOf (l ++ [b]) := by unfold bytesOf; simp; omega
theorem padL_get (l : List Nat) (b : Nat) : (padL l)[l.length / 8]? = some (byteAt l (l.length / 8)) := by
  have := bytesOf_pos l b
  rw [bytesOf_snoc] at this
  unfold padL
  split
  · rename_i h
    have e : (pack l).length = l.length / 8 := by rw [pack_length]; unfold bytesOf; omega
    rw [List.getElem?_append_right (by omega), e, Nat.sub_self, byteAt_end l _ (by omega)]
    rfl
  · rename_i h
    rw [if_neg h] at this
    exact pack_get this
theorem padL_set (l : List Nat) (b : Nat) : (padL l).set (l.length / 8) (byteAt l (l.length / 8) + b * 2 ^ (7 - l.length % 8)) = pack (l ++ [b]) := by
  rw [← (byteAt_snoc l b).1]
  apply List.ext_getElem?
  intro i
  rw [List.getElem?_set]
  have hp := bytesOf_pos l b
  split
  · rename_i h
    subst h
    rw [padL_length l b, if_pos hp, pack_get hp]
  · rename_i h
    rcases Nat.lt_or_ge i (bytesOf (l ++ [b])) with hi | hi
    · rw [pack_get hi, byteAt_snoc_old l b i (Ne.symm h)]
      have hb := bytesOf_snoc l b
      unfold padL
      split
      · rename_i h8
        rw [if_pos h8] at hb
        have e : (pack l).length = l.length / 8 := by rw [pack_length]; unfold bytesOf; omega
        have e2 : bytesOf l = l.length / 8 := by rw [← pack_length]; exact e
        rw [List.getElem?_append_left (by omega)]
        exact pack_get (by omega)
      · rename_i h8
        rw [if_neg h8] at hb
        exact pack_get (by omega)
    · rw [List.getElem?_eq_none (by rw [padL_length l b]; exact hi), List.getElem?_eq_none (by rw [pack_length]; exact hi)]
/-- the writer at block p has written the bits L -/
structure Wr (w : World) (base p : Nat) (v : Value) (L : List Nat) : Prop where
  blk : Blk w p #[v, .int .i64 (L.length : Int)]
  row : w.ownsRow base 5 1 v (bytesOf L) (u8s (pack L))
  ne : v.ownBlock ≠ some p
  bin : Bin L
  lim : L.length ≤ 32000
def Lt63 (n : Nat) : Prop := n < 9223372036854775808
def PutPost (base p : Nat) (v : Value) (L : List Nat) (w : World) (w' : World) : Prop := ∃ v', Wr w' base p v' L ∧ Turn (· = p) w v w' v'
theorem byteInfo : (Try.prog.info? 5).map (fun i => (i.zero, i.size, i.bytes)) = some (some (.int .u8 0), 1, 1) := by kernel_rfl
theorem blk_set2 {w : World} {p : Nat} {a b c : Value} (h : Blk w p #[a, b]) : Blk (w.setCell ⟨p, 1, none⟩ c) p #[a, c] := h.put (i := 1) (v := c)
theorem blk_set1 {w : World} {p : Nat} {a b c : Value} (h : Blk w p #[a, b]) : Blk (w.setCell ⟨p, 0, none⟩ c) p #[c, b] := h.put (i := 0) (v := c)
/-- the writer at the moment when there is room for a bit more -/
structure Wx (w : World) (base p g cap : Nat) (L : List Nat) (N : Nat) : Prop where
  blk : Blk w p #[.slice (some ⟨g, 0, none⟩) N cap, .int .i64 (L.length : Int)]
  row : w.ownsRow base 5 1 (.slice (some ⟨g, 0, none⟩) N cap) N (u8s (padL L))
  ne : g ≠ p
  bin : Bin L
  len : N = (padL L).length
theorem wx_step {wr w2 : World} {base p g cap N q m b y : Nat} {L : List Nat} (h : Wx wr base p g cap L N) (hb : Below wr.heap.size wr w2) (hb2 : b < 2) (hq : q = L.length / 8) (hm : m = L.length) (hl : L.length + 1 ≤ 32000)
    (hy : y = byteAt L (L.length / 8) + b * 2 ^ (7 - L.length % 8)) :
    Wr ((w2.setCell ⟨g, q, none⟩ (.int .u8 (y : Int))).setCell ⟨p, 1, none⟩ (.int .i64 ((m : Int) + 1))) base p (.slice (some ⟨g, 0, none⟩) N cap) (L ++ [b]) := by
  subst hq hm hy
  have e : ((L ++ [b]).length : Int) = (L.length : Int) + 1 := by simp
  have hN : N = bytesOf (L ++ [b]) := by rw [h.len, padL_length]
  refine ⟨?_, ?_, ?_, h.bin.append (Bin.mk hb2 Bin.nil), by simpa using hl⟩
  · rw [e]
    exact blk_set2 (Blk.far h.ne (h.blk.below hb))
  · refine row_far ?_ (fun e => h.ne (Option.some.inj e))
    have := row_set (row_below h.row hb) (i := L.length / 8) (x := .int .u8 ((byteAt L (L.length / 8) + b * 2 ^ (7 - L.length % 8) : Nat) : Int)) (by rw [u8s_length, padL_length L b]; exact bytesOf_pos L b)
    rw [← hN]
    have e2 : (u8s (padL L)).set (L.length / 8) (.int .u8 ((byteAt L (L.length / 8) + b * 2 ^ (7 - L.length % 8) : Nat) : Int)) = u8s (pack (L ++ [b])) := by
      rw [← padL_set]
      unfold u8s
      rw [List.map_set]
    rw [e2] at this
    exact this
  · intro e
    exact h.ne (Option.some.inj e)
theorem wx_turn {w wr w2 : World} {p g cap N q : Nat} {v v1 y z : Value} (h : Turn (· = p) w v wr v1) (hv : v1.ownBlock = some g ∨ wr.heap.size ≤ g) (hb : Below wr.heap.size wr w2) :
    Turn (· = p) w v ((w2.setCell ⟨g, q, none⟩ y).setCell ⟨p, 1, none⟩ z) (.slice (some ⟨g, 0, none⟩) N cap) := by
  refine h.trans ⟨Mod.set (Mod.set (Mod.of_below hb) ?_) (.inl (.inl rfl)), ?_⟩
  · rcases hv with e | e
    · exact .inl (.inr e)
    · exact .inr e
  · rcases hv with e | e
    · exact .inl e.symm
    · right
      intro b hb
      obtain rfl : g = b := Option.some.inj hb
      exact e
theorem wx_of_wr {w : World} {base p : Nat} {v : Value} {L : List Nat} (h : Wr w base p v L) (h8 : L.length % 8 ≠ 0) : ∃ g cap, v = .slice (some ⟨g, 0, none⟩) (bytesOf L) cap ∧ Wx w base p g cap L (bytesOf L) := by
  obtain ⟨g, cap, rfl, _⟩ := row_at h.row (show 0 < bytesOf L by unfold bytesOf; omega)
  have e : padL L = pack L := by unfold padL; rw [if_neg h8]
  exact ⟨g, cap, rfl, h.blk, by rw [e]; exact h.row, fun e => h.ne (by rw [e]; rfl), h.bin, by rw [e, pack_length]⟩
theorem app_turn {wr w1 w3 : World} {o : Obj} {p : Nat} {v1 v' z : Value} (hg : (wr.alloc o).grownBy w1 v1.ownBlock) (hw : v'.ownBlock = v1.ownBlock ∨ v'.ownBlock = some (wr.heap.size + 1))
    (h3 : Below (w1.setCell ⟨p, 0, none⟩ z).heap.size (w1.setCell ⟨p, 0, none⟩ z) w3) : Turn (· = p) wr v1 w3 v' := by
  refine ⟨((Mod.trans2 (Mod.of_below ((Below.refl _ _).alloc (Nat.le_refl _) o)) (mod_grown hg) fun _ _ h => .inr h).set (.inl (.inl rfl))).below h3, ?_⟩
  rcases hw with e | e
  · exact .inl e
  · right
    intro b hb
    rw [e] at hb
    have := Option.some.inj hb
    omega
theorem app_wx {wr w1 w3 : World} {o : Obj} {base p : Nat} {v1 v' : Value} {L : List Nat} (h : Wr wr base p v1 L) (h8 : L.length % 8 = 0) (hown : w1.ownsRow base 5 1 v' (bytesOf L + 1) (u8s (pack L) ++ [.int .u8 0]))
    (hg : (wr.alloc o).grownBy w1 v1.ownBlock) (hw : v'.ownBlock = v1.ownBlock ∨ v'.ownBlock = some (wr.heap.size + 1))
    (h3 : Below (w1.setCell ⟨p, 0, none⟩ v').heap.size (w1.setCell ⟨p, 0, none⟩ v') w3) {g cap : Nat} (hv : v' = .slice (some ⟨g, 0, none⟩) (bytesOf L + 1) cap) : Wx w3 base p g cap L (bytesOf L + 1) := by
  have e : padL L = pack L ++ [0] := by unfold padL; rw [if_pos h8]
  have hne : v'.ownBlock ≠ some p := by
    rcases hw with e | e
    · rw [e]; exact h.ne
    · rw [e]
      intro e2
      have := h.blk.lt
      have e3 := Option.some.inj e2
      omega
  refine ⟨?_, ?_, ?_, h.bin, ?_⟩
  · have h1 : Blk w1 p #[v1, .int .i64 (L.length : Int)] := (h.blk.alloc o).mod (mod_grown hg) h.ne
    rw [← hv]
    exact (blk_set1 h1).below h3
  · rw [e, u8s_append, ← hv]
    exact row_below (row_far hown hne) h3
  · intro e2
    exact hne (by rw [hv, ← e2]; rfl)
  · rw [e, List.length_append, pack_length]; rfl
/-- what a walk needs of it -/
theorem wx_facts {w : World} {base p g cap N : Nat} {L : List Nat} (h : Wx w base p g cap L N) : g < w.heap.size ∧ base ≤ g ∧ N ≤ cap ∧ N ≤ 9223372036854775807 ∧ (∀ o, w.frozen? ⟨g, o, none⟩ = false) ∧ L.length / 8 < N ∧
    w.cell? ⟨g, L.length / 8, none⟩ = some (.int .u8 ((byteAt L (L.length / 8) : Nat) : Int)) ∧ byteAt L (L.length / 8) < 256 := by
  have hp := bytesOf_pos L 0
  have hN : N = bytesOf (L ++ [0]) := by rw [h.len, padL_length]
  obtain ⟨g', cap', e, h1, h2, h3, h4, h5, h6, _⟩ := row_at h.row (by omega)
  injection e with e1 e2 e3
  injection e1 with e1
  injection e1 with e1
  subst e1 e3
  refine ⟨h2, h1, h3, by unfold maxLen at h4; omega, h5, by omega, h6 _ _ ?_, byteAt_lt h.bin _⟩
  unfold u8s
  rw [List.getElem?_map, padL_get L 0]
  rfl


set_option maxHeartbeats 4000000 in
theorem put_ok (base p n width : Nat) (v : Value) (L : List Nat) (w : World) (h : Wr w base p v L) (hb : base ≤ w.heap.size) (hw : width ≤ 62) (hn : n < 2 ^ width) (hl : L.length + width ≤ 32000) :
    Calls Try.prog 107 #[.pointer (some ⟨p, 0, none⟩), .int .i64 n, .int .i64 width] w fun e w' => e = .returned .nilIface ∧ PutPost base p v (L ++ bitsOf width n) w w' := by
  have hsh : ((n : Int) / 2 ^ width != 0) = false := by
    have : (n : Int) / 2 ^ width = ((n / 2 ^ width : Nat) : Int) := by simp
    rw [this, Nat.div_eq_of_lt hn]; rfl
  have HN63 : Lt63 n := by
    have := Nat.pow_le_pow_right (show 0 < 2 by omega) hw
    unfold Lt63
    omega
  have hA : ¬ (L.length : Int) + width > 32000 := by omega
  obtain ⟨z0, c0, f0⟩ := h.blk
  have k0 := c0 0
  have k1 := c0 1
  clear c0
  have hmc := more_cell
  have hmf := more_frozen
  have hml := more_lt
  go_enter Try.func107, Try.ntmps107
  go_wp2
  clear hsh hA k0 k1 f0
  obtain ⟨i0, hi, hz0, hz1, hz2⟩ := info_parts byteInfo
  have HI := Lib.hid hi
  have HZ0 := Lib.hid hz0
  have HZ1 := Lib.hid hz1
  have HZ2 := Lib.hid hz2
  clear hi hz0 hz1 hz2
  go_loopw [7] (fun i wr => ∃ (k : Nat) (M : List Nat) (v1 : Value), k ≤ width ∧ (∃ j : Int, j + 1 = k ∧ i = .int .i64 j) ∧ M ++ bitsOf k n = bitsOf width n ∧ Wr wr base p v1 (L ++ M) ∧ Turn (· = p) w v wr v1) (fun i _ => (intOf i + 1).toNat)
  case atStart => exact ⟨width, [], v, by omega, ⟨_, by omega, rfl⟩, rfl, by simpa using h, Turn.refl _ _ _⟩
  case round =>
    obtain ⟨k, M, v1, hk, ⟨j, hj, rfl⟩, hM, hW, hT⟩ := hrel
    have HM := Lib.hid hM
    clear hM
    cases k with
    | zero =>
      obtain rfl : j = -1 := by omega
      go_wp2
      go_ret
      refine ⟨rfl, v1, ?_, hT⟩
      have := HM.out
      simp only [bitsOf, List.append_nil] at this
      rw [← this]
      exact hW
    | succ k =>
      obtain rfl : j = (k : Int) := by omega
      have hlen : (L ++ M).length + 1 ≤ 32000 := by
        have := congrArg List.length HM.out
        simp [bitsOf_length] at this
        simp; omega
      obtain ⟨X, hX0⟩ : ∃ X, X = L ++ M := ⟨_, rfl⟩
      have HL := Lib.hid hX0
      rw [← hX0] at hW hlen
      clear hX0
      have hm1 := hW.lim
      obtain ⟨m, hm⟩ : ∃ m, m = X.length := ⟨_, rfl⟩
      rw [← hm] at hm1 hlen
      obtain ⟨q, hq⟩ : ∃ q : Nat, q = X.length / 8 := ⟨_, rfl⟩
      obtain ⟨r, hr⟩ : ∃ r : Nat, r = m % 8 := ⟨_, rfl⟩
      have hqi : (m : Int) / 8 = (q : Int) := by omega
      have hri : (m : Int) % 8 = (r : Int) := by omega
      have hr7 : r ≤ 7 := by omega
      by_cases h8 : r = 0
      · have h9 : ((r : Int) == 0) = true := by simp; omega
        obtain ⟨zz, cc, ff⟩ := hW.blk
        have kk0 : wr.cell? ⟨p, 0, none⟩ = some v1 := cc 0
        have kk1 : wr.cell? ⟨p, 1, none⟩ = some (.int .i64 (X.length : Int)) := cc 1
        rw [← hm] at kk1
        clear cc
        have HM1 := Lib.hid hm
        have HQ := Lib.hid hq
        have HR := Lib.hid hr
        have H8 := Lib.hid h8
        clear hm hq hr h8
        go_wp2_with (at_builtin; refine wpList_append_own_at _ rfl (.tmp 49) (.tmp 50) 29 rfl base 5 i0 (.int .u8 0) 1 1 Try.underlying29 HI.out HZ0.out HZ1.out HZ2.out rfl (by decide) v1 (bytesOf X) (u8s (pack X)) rfl (row_below hW.row ((Below.refl _ _).alloc (Nat.le_refl _) _)) ⟨wr.heap.size, 0, none⟩ 1 1 [.int .u8 0] rfl rfl ?c1 ?c2 ?c3 ?c4 ?c5 ?_)
        case c1 =>
          intro j u hu
          match j with
          | 0 => simp at hu; subst hu; simp [Addr.add]
          | j + 1 => simp at hu
        case c2 => intro u hu; simp at hu; subst hu; rfl
        case c3 => unfold maxLen bytesOf; have := HM1.out; omega
        case c4 => unfold bytesOf; have := HM1.out; omega
        case c5 => have := hT.mod.size; simp; omega
        intro v' w1 hown hgrow _ hwhere
        have hB1 : Blk w1 p #[v1, .int .i64 (X.length : Int)] := (hW.blk.alloc _).mod (mod_grown hgrow) hW.ne
        obtain ⟨z1, c1, f1⟩ := hB1
        have j0 : w1.cell? ⟨p, 0, none⟩ = some v1 := c1 0
        clear c1
        obtain ⟨g, cap, hv1, _⟩ := row_at hown (by omega)
        subst hv1
        have HO := Lib.hid hown
        have HG := Lib.hid hgrow
        have HWH := Lib.hid hwhere
        clear hown hgrow hwhere
        clear HI HZ0 HZ1 HZ2
        go_wp2_with fail
        refine wp_fresh ?_
        intro w3 hb3
        have hX := app_wx hW (by rw [← HM1.out, ← HR.out]; exact H8.out) HO.out HG.out HWH.out hb3 rfl
        have hT' := hT.trans (app_turn HG.out HWH.out hb3)
        obtain ⟨N, hN⟩ : ∃ N, N = bytesOf X + 1 := ⟨_, rfl⟩
        rw [← hN] at hX hT'
        have hm := HM1.out
        have hq := HQ.out
        have hr := HR.out
        have h8 := H8.out
        clear hN HO HG HWH HM1 HQ HR H8 hb3 z1 j0 f1 zz kk0 kk1 ff hT hW
        obtain ⟨z0, c0, f0⟩ := hX.blk
        have k0 : w3.cell? ⟨p, 0, none⟩ = some (.slice (some ⟨g, 0, none⟩) N cap) := c0 0
        have k1 : w3.cell? ⟨p, 1, none⟩ = some (.int .i64 (X.length : Int)) := c0 1
        clear c0
        obtain ⟨g2, g1, g3, hN2, hff, hqN, hx, hx2⟩ := wx_facts hX
        have hgp := hX.ne
        have hf := hff q
        clear hff
        obtain ⟨x, hxx⟩ : ∃ x, x = byteAt X q := ⟨_, rfl⟩
        rw [← hq] at hqN hx hx2
        rw [← hm] at k1
        rw [← hxx] at hx hx2
        have h0 := (byteAt_snoc X 0).2
        rw [← hq, ← hm, ← hxx, ← hr] at h0
        have hor := or_bit x n k r HN63 hx2 hr7 h0
        have hbit : n / 2 ^ k % 2 < 2 := Nat.mod_lt _ (by omega)
        obtain ⟨y, hy⟩ : ∃ y, y = x + n / 2 ^ k % 2 * 2 ^ (7 - r) := ⟨_, rfl⟩
        rw [← hy] at hor
        have HM1 := Lib.hid hm
        have HQ := Lib.hid hq
        have HR := Lib.hid hr
        have H8 := Lib.hid h8
        have HX := Lib.hid hxx
        have HY := Lib.hid hy
        have H0 := Lib.hid h0
        have HPG : p ≠ g := Ne.symm hgp
        clear hm hq hr h8 hxx hy h0
        
        refine region_quiet_but 25 (by kernel_rfl) (by kernel_rfl) ?_
        simp only [List.take_succ_cons, List.take_zero, List.drop_succ_cons, List.drop_zero]
        repeat (go_big_quiet_step (fail))
        refine wpQuiet_nil ?_
        rintro w2 hw2
        have hb2 := after_below hw2
        clear hw2
        have z2 := Nat.lt_of_lt_of_le z0 hb2.size
        have y2 := Nat.lt_of_lt_of_le g2 hb2.size
        have k02 := (hb2.cell (p := ⟨p, 0, none⟩) z0).trans k0
        have k12 := (hb2.cell (p := ⟨p, 1, none⟩) z0).trans k1
        have hx2 := (hb2.cell (p := ⟨g, q, none⟩) g2).trans hx
        have hf2 := (hb2.frozen (p := ⟨g, q, none⟩) g2).trans hf
        have f02 := fun o => (hb2.frozen (p := ⟨p, o, none⟩) z0).trans (f0 o)
        go_wp2
        go_roundw
        case rel =>
          refine ⟨k, M ++ [n / 2 ^ k % 2], .slice (some ⟨g, 0, none⟩) N cap, by omega, ⟨_, by omega, rfl⟩, ?_, ?_, ?_⟩
          · rw [List.append_assoc]; exact HM.out
          · rw [← List.append_assoc, ← HL.out]
            exact wx_step hX hb2 hbit HQ.out HM1.out (by rw [← HM1.out]; omega) (by rw [← HQ.out, ← HM1.out, ← HX.out, ← HR.out]; exact HY.out)
          · exact wx_turn hT' (.inl rfl) hb2
        case measure => first | (simp [intOf]; done) | (simp [intOf]; omega)

      · have h9 : ((r : Int) == 0) = false := by simp; omega
        obtain ⟨g, cap, hv1, hX⟩ := wx_of_wr hW (by rw [← hm, ← hr]; exact h8)
        subst hv1
        obtain ⟨N, hN⟩ : ∃ N, N = bytesOf X := ⟨_, rfl⟩
        rw [← hN] at hX hT
        clear hN hW
        obtain ⟨z0, c0, f0⟩ := hX.blk
        have k0 : wr.cell? ⟨p, 0, none⟩ = some (.slice (some ⟨g, 0, none⟩) N cap) := c0 0
        have k1 : wr.cell? ⟨p, 1, none⟩ = some (.int .i64 (X.length : Int)) := c0 1
        clear c0
        obtain ⟨g2, g1, g3, hN2, hff, hqN, hx, hx2⟩ := wx_facts hX
        have hgp := hX.ne
        have hf := hff q
        clear hff
        obtain ⟨x, hxx⟩ : ∃ x, x = byteAt X q := ⟨_, rfl⟩
        rw [← hq] at hqN hx hx2
        rw [← hm] at k1
        rw [← hxx] at hx hx2
        have h0 := (byteAt_snoc X 0).2
        rw [← hq, ← hm, ← hxx, ← hr] at h0
        have hor := or_bit x n k r HN63 hx2 hr7 h0
        have hbit : n / 2 ^ k % 2 < 2 := Nat.mod_lt _ (by omega)
        obtain ⟨y, hy⟩ : ∃ y, y = x + n / 2 ^ k % 2 * 2 ^ (7 - r) := ⟨_, rfl⟩
        rw [← hy] at hor
        have HM1 := Lib.hid hm
        have HQ := Lib.hid hq
        have HR := Lib.hid hr
        have H8 := Lib.hid h8
        have HX := Lib.hid hxx
        have HY := Lib.hid hy
        have H0 := Lib.hid h0
        have HPG : p ≠ g := Ne.symm hgp
        clear hm hq hr h8 hxx hy h0
        go_wp2
        refine region_quiet_but 25 (by kernel_rfl) (by kernel_rfl) ?_
        simp only [List.take_succ_cons, List.take_zero, List.drop_succ_cons, List.drop_zero]
        repeat (go_big_quiet_step (fail))
        refine wpQuiet_nil ?_
        rintro w2 hw2
        have hb2 := after_below hw2
        clear hw2
        have z2 := Nat.lt_of_lt_of_le z0 hb2.size
        have y2 := Nat.lt_of_lt_of_le g2 hb2.size
        have k02 := (hb2.cell (p := ⟨p, 0, none⟩) z0).trans k0
        have k12 := (hb2.cell (p := ⟨p, 1, none⟩) z0).trans k1
        have hx2 := (hb2.cell (p := ⟨g, q, none⟩) g2).trans hx
        have hf2 := (hb2.frozen (p := ⟨g, q, none⟩) g2).trans hf
        have f02 := fun o => (hb2.frozen (p := ⟨p, o, none⟩) z0).trans (f0 o)
        go_wp2
        go_roundw
        case rel =>
          refine ⟨k, M ++ [n / 2 ^ k % 2], .slice (some ⟨g, 0, none⟩) N cap, by omega, ⟨_, by omega, rfl⟩, ?_, ?_, ?_⟩
          · rw [List.append_assoc]; exact HM.out
          · rw [← List.append_assoc, ← HL.out]
            exact wx_step hX hb2 hbit HQ.out HM1.out (by rw [← HM1.out]; omega) (by rw [← HQ.out, ← HM1.out, ← HX.out, ← HR.out]; exact HY.out)
          · exact wx_turn hT (.inl rfl) hb2
        case measure => first | (simp [intOf]; done) | (simp [intOf]; omega)

theorem put_i (base p : Nat) (n width : Int) (k j : Nat) (v : Value) (L : List Nat) (w : World) (h : Wr w base p v L) (hb : base ≤ w.heap.size) (ek : n = k) (ej : width = j) (hw : j ≤ 62) (hn : k < 2 ^ j) (hl : L.length + j ≤ 32000) :
    Calls Try.prog 107 #[.pointer (some ⟨p, 0, none⟩), .int .i64 n, .int .i64 width] w fun e w' => e = .returned .nilIface ∧ PutPost base p v (L ++ bitsOf j k) w w' := by
  subst ek ej
  exact put_ok base p k j v L w h hb hw hn hl
end Go.Proofs.Ytefhmbmbhiehdaa
namespace Go.Proofs.Ytefhmbmbhiehdaa
open Go.ChangeShapes Go.WideShapes Go.ChangeAt Go.RowKit Go.BigFrame
open B

theorem put_full (base p n width : Nat) (v : Value) (L : List Nat) (w : World) (h : Wr w base p v L) (hw : width ≤ 62) (hn : n < 2 ^ width) (hl : 32000 < L.length + width) :
    Calls Try.prog 107 #[.pointer (some ⟨p, 0, none⟩), .int .i64 n, .int .i64 width] w fun e w' => e = .returned (.iface 38 (.int .i64 4)) ∧ w = w' := by
  have hsh : ((n : Int) / 2 ^ width != 0) = false := by
    have : (n : Int) / 2 ^ width = ((n / 2 ^ width : Nat) : Int) := by simp
    rw [this, Nat.div_eq_of_lt hn]; rfl
  have h3 := h.lim
  have hA : (L.length : Int) + width > 32000 := by omega
  obtain ⟨z0, c0, f0⟩ := h.blk
  have k1 := c0 1
  clear c0
  go_enter Try.func107, Try.ntmps107
  go_wp2
  go_ret
  exact ⟨rfl, rfl⟩
theorem many_c (base p : Nat) (v : Value) (L : List Nat) (w : World) (h : Wr w base p v L) : Calls Try.prog 152 #[.pointer (some ⟨p, 0, none⟩)] w fun e w' => e = .returned (.int .i64 (L.length : Int)) ∧ w = w' := by
  obtain ⟨z0, c0, f0⟩ := h.blk
  have k1 := c0 1
  clear c0
  go_enter Try.func152, Try.ntmps152
  go_wp2
  go_ret
  exact ⟨rfl, rfl⟩
def Lt62 (n : Nat) : Prop := n < 4611686018427387904
/-- the slice v is the bytes l, in a row of the call's own -/
structure Bs (w : World) (base : Nat) (v : Value) (l : List Nat) : Prop where
  row : w.ownsRow base 5 1 v l.length (u8s l)
  nn : v ≠ .slice none 0 0
theorem row_cells {w : World} {base size n : Nat} {e : TypeId} {g cap : Nat} {xs : List Value} (h : w.ownsRow base e size (.slice (some ⟨g, 0, none⟩) n cap) n xs) (j : Nat) (u : Value) (hu : xs[j]? = some u) : w.cell? ((⟨g, 0, none⟩ : Addr).add j) = some u :=
  World.ownsRow.cells h rfl j u hu
def BytesPost (L : List Nat) (w : World) (e : Ending) (w' : World) : Prop := ∃ v, e = .returned v ∧ Bs w' w.heap.size v (pack L) ∧ Below w.heap.size w w'
theorem bytes_c (base p : Nat) (v : Value) (L : List Nat) (w : World) (h : Wr w base p v L) : Calls Try.prog 108 #[.pointer (some ⟨p, 0, none⟩)] w (BytesPost L w) := by
  obtain ⟨i0, hi, hz0, hz1, hz2⟩ := info_parts byteInfo
  have HI := Lib.hid hi
  have HZ0 := Lib.hid hz0
  have HZ1 := Lib.hid hz1
  have HZ2 := Lib.hid hz2
  clear hi hz0 hz1 hz2
  obtain ⟨z0, c0, f0⟩ := h.blk
  have k0 : w.cell? ⟨p, 0, none⟩ = some v := c0 0
  clear c0 f0
  have hlim := h.lim
  have hR := h.row
  have hR2 := h.row.2
  rcases hR2 with ⟨rfl, hn⟩ | ⟨g, cap, cur, rfl, _⟩
  · have hL : pack L = [] := by unfold pack; rw [hn]; rfl
    have HL := Lib.hid hL
    clear hL hn hR h
    go_enter Try.func108, Try.ntmps108
    go_wp2_with (at_builtin; refine wpList_append_own_none _ rfl (.tmp 3) (.tmp 7) 29 rfl w.heap.size 5 i0 1 Try.underlying29 HI.out (.slice (some ⟨w.heap.size, 0, none⟩) 0 0) 0 [] rfl (own_empty 5 1) rfl ?_)
    clear HI HZ0 HZ1 HZ2
    go_wp2
    go_ret
    exact ⟨_, rfl, ⟨by rw [HL.out]; exact own_empty _ _, by simp⟩, (Below.refl _ _).alloc (Nat.le_refl _) _⟩
  · clear h
    go_enter Try.func108, Try.ntmps108
    go_wp2_with (at_builtin; refine wpList_append_own_at _ rfl (.tmp 3) (.tmp 7) 29 rfl w.heap.size 5 i0 (.int .u8 0) 1 1 Try.underlying29 HI.out HZ0.out HZ1.out HZ2.out rfl (by decide) (.slice (some ⟨w.heap.size, 0, none⟩) 0 0) 0 [] rfl (own_empty 5 1) ⟨g, 0, none⟩ (bytesOf L) cap (u8s (pack L)) rfl ?c1 ?c2 ?c3 ?c4 ?c5 ?c6 ?_)
    case c1 => rw [u8s_length, pack_length]; omega
    case c2 =>
      intro j u hu
      have h2 := row_cells hR j u hu
      rw [World.cell?_alloc_lt _ _ _ (by unfold Addr.add; split <;> exact (row_lt hR rfl).1)]
      exact h2
    case c3 => exact u8s_one _
    case c4 => unfold maxLen bytesOf; omega
    case c5 => unfold bytesOf; omega
    case c6 => simp
    intro v' w' hown hgrow hnn _
    have HO := Lib.hid hown
    have HG := Lib.hid hgrow
    have HN := Lib.hid hnn
    clear hown hgrow hnn HI HZ0 HZ1 HZ2
    go_wp2
    go_ret
    refine ⟨_, rfl, ⟨?_, ?_⟩, ?_⟩
    · rw [pack_length]
      exact HO.out
    · exact fun e => HN.out e
    · exact Below.trans ((Below.refl _ _).alloc (Nat.le_refl _) _) ((mod_grown HG.out).toBelow (by simp) (fun b hb e => by simp only [Value.ownBlock, Option.some.injEq] at e; omega))
set_option maxHeartbeats 1000000 in
theorem var_ok (base p n : Nat) (v : Value) (L : List Nat) (w : World) (h : Wr w base p v L) (hb : base ≤ w.heap.size) (hn : n < 4611686018427387904) (hl : L.length + 6 * pieces n ≤ 32000) :
    Calls Try.prog 106 #[.pointer (some ⟨p, 0, none⟩), .int .i64 n] w fun e w' => e = .returned .nilIface ∧ PutPost base p v (L ++ varL n) w w' := by
  have HN : Lt62 n := hn
  have hn2 : ¬ (n : Int) ≥ 4611686018427387904 := by omega
  clear hn
  go_enter Try.func106, Try.ntmps106
  go_wp2
  clear hn2
  go_loop [5, 6] (fun s m => ∃ k j : Nat, s = .int .i64 k ∧ m = .int .i64 j ∧ k + 6 * restN j = 6 * pieces n ∧ Lt62 j) (fun _ m => (intOf m).toNat)
  case atStart => exact ⟨6, n / 32, rfl, by simp, by have := pieces_rest (n := n) (by unfold Lt62 at HN; omega); omega, by unfold Lt62 at *; omega⟩
  case round =>
    obtain ⟨k, j, rfl, rfl, hs, hj⟩ := hrel
    have hk : k ≤ 78 := by have := pieces_bd n; omega
    have HS := Lib.hid hs
    clear hs
    by_cases h0 : j = 0
    · subst h0
      have hk6 : k = 6 * pieces n := by have := HS.out; unfold restN at this; simp at this; omega
      have HK := Lib.hid hk6
      clear hk6 HS
      have hle : (L.length : Int) + k ≤ 32000 := by have := HK.out; omega
      obtain ⟨z0, c0, f0⟩ := h.blk
      have k1 := c0 1
      clear c0
      go_wp2
      clear hle k1 f0 z0
      go_loopw [1] (fun x wr => ∃ (j : Nat) (M : List Nat) (v1 : Value), x = .int .i64 j ∧ M ++ varL j = varL n ∧ Lt62 j ∧ Wr wr base p v1 (L ++ M) ∧ Turn (· = p) w v wr v1) (fun x _ => (intOf x).toNat)
      case atStart => exact ⟨n, [], v, rfl, rfl, HN, by simpa using h, Turn.refl _ _ _⟩
      case round =>
        obtain ⟨j, M, v1, rfl, hM, hj, hW, hT⟩ := hrel
        have HM := Lib.hid hM
        clear hM
        have hlen : (L ++ M).length + (varL j).length = L.length + 6 * pieces n := by
          have := congrArg List.length HM.out
          rw [List.length_append, varL_length n] at this
          rw [List.length_append]; omega
        have HLn := Lib.hid hlen
        clear hlen
        have hvl := varL_length j
        have hpp := pieces_pos j
        have h31 := and31 j (by unfold Lt62 at hj; omega)
        obtain ⟨a, ha⟩ : ∃ a, a = j % 32 := ⟨_, rfl⟩
        rw [← ha] at h31
        have hb2 := Nat.le_trans hb hT.mod.size
        have HA := Lib.hid ha
        have HV := Lib.hid hvl
        clear ha hvl
        by_cases h32 : j < 32
        · have hge : ¬ (32 : Int) ≤ (j : Int) := by omega
          go_wp2_with fail
          refine (put_i base p 0 1 0 1 v1 (L ++ M) _ hW hb2 rfl rfl (by omega) (by omega) (by have := HLn.out; have := HV.out; omega)).mono ?_
          rintro e w1 ⟨rfl, v2, hW2, hT2⟩
          go_wp2_with fail
          refine (put_i base p (a : Int) 5 a 5 v2 (L ++ M ++ bitsOf 1 0) _ hW2 (Nat.le_trans hb2 hT2.mod.size) rfl rfl (by omega) (by have := HA.out; omega) (by have := HLn.out; have := HV.out; rw [List.length_append, bitsOf_length]; omega)).mono ?_
          rintro e w2 ⟨rfl, v3, hW3, hT3⟩
          go_wp2
          go_ret
          refine ⟨rfl, v3, ?_, (hT.trans hT2).trans hT3⟩
          have e1 : varL j = bitsOf 1 0 ++ bitsOf 5 a := by rw [HA.out, Nat.mod_eq_of_lt h32, varL_small h32]; rfl
          have e2 : L ++ varL n = L ++ M ++ bitsOf 1 0 ++ bitsOf 5 a := by rw [← HM.out, e1]; simp [List.append_assoc]
          rw [e2]
          exact hW3
        · have hge : (32 : Int) ≤ (j : Int) := by omega
          go_wp2_with fail
          refine (put_i base p 1 1 1 1 v1 (L ++ M) _ hW hb2 rfl rfl (by omega) (by omega) (by have := HLn.out; have := HV.out; omega)).mono ?_
          rintro e w1 ⟨rfl, v2, hW2, hT2⟩
          go_wp2_with fail
          refine (put_i base p (a : Int) 5 a 5 v2 (L ++ M ++ bitsOf 1 1) _ hW2 (Nat.le_trans hb2 hT2.mod.size) rfl rfl (by omega) (by have := HA.out; omega) (by have := HLn.out; have := HV.out; rw [List.length_append, bitsOf_length]; omega)).mono ?_
          rintro e w2 ⟨rfl, v3, hW3, hT3⟩
          go_wp2
          go_roundw
          case rel =>
            have e1 : varL j = bitsOf 1 1 ++ (bitsOf 5 a ++ varL (j / 32)) := by rw [HA.out, varL_big (by omega) (by unfold Lt62 at hj; omega)]; rfl
            refine ⟨j / 32, M ++ bitsOf 1 1 ++ bitsOf 5 a, v3, by simp, ?_, by unfold Lt62 at *; omega, ?_, (hT.trans hT2).trans hT3⟩
            · rw [← HM.out, e1]; simp [List.append_assoc]
            · have e2 : L ++ (M ++ bitsOf 1 1 ++ bitsOf 5 a) = L ++ M ++ bitsOf 1 1 ++ bitsOf 5 a := by simp [List.append_assoc]
              rw [e2]
              exact hW3
          case measure => simp [intOf]; omega
    · have h1 : 0 < j := by omega
      go_wp2
      go_round
      case rel => exact ⟨k + 6, j / 32, by go_num, by simp, by have := rest_step h0 (by unfold Lt62 at hj; omega); have := HS.out; omega, by unfold Lt62 at *; omega⟩
      case measure => simp [intOf]; omega

set_option maxHeartbeats 1000000 in
theorem var_full (base p n : Nat) (v : Value) (L : List Nat) (w : World) (h : Wr w base p v L) (hn : n < 4611686018427387904) (hl : 32000 < L.length + 6 * pieces n) :
    Calls Try.prog 106 #[.pointer (some ⟨p, 0, none⟩), .int .i64 n] w fun e w' => e = .returned (.iface 38 (.int .i64 4)) ∧ w = w' := by
  have HN : Lt62 n := hn
  have hn2 : ¬ (n : Int) ≥ 4611686018427387904 := by omega
  clear hn
  go_enter Try.func106, Try.ntmps106
  go_wp2
  clear hn2
  go_loop [5, 6] (fun s m => ∃ k j : Nat, s = .int .i64 k ∧ m = .int .i64 j ∧ k + 6 * restN j = 6 * pieces n ∧ Lt62 j) (fun _ m => (intOf m).toNat)
  case atStart => exact ⟨6, n / 32, rfl, by simp, by have := pieces_rest (n := n) (by unfold Lt62 at HN; omega); omega, by unfold Lt62 at *; omega⟩
  case round =>
    obtain ⟨k, j, rfl, rfl, hs, hj⟩ := hrel
    have hk : k ≤ 78 := by have := pieces_bd n; omega
    have HS := Lib.hid hs
    clear hs
    by_cases h0 : j = 0
    · subst h0
      have hk6 : k = 6 * pieces n := by have := HS.out; unfold restN at this; simp at this; omega
      have HK := Lib.hid hk6
      clear hk6 HS
      have hlm := h.lim
      have hle : (L.length : Int) + k > 32000 := by have := HK.out; omega
      obtain ⟨z0, c0, f0⟩ := h.blk
      have k1 := c0 1
      clear c0
      go_wp2
      go_ret
      exact ⟨rfl, rfl⟩
    · have h1 : 0 < j := by omega
      go_wp2
      go_round
      case rel => exact ⟨k + 6, j / 32, by go_num, by simp, by have := rest_step h0 (by unfold Lt62 at hj; omega); have := HS.out; omega, by unfold Lt62 at *; omega⟩
      case measure => simp [intOf]; omega

theorem var_i (base p k : Nat) (n : Int) (v : Value) (L : List Nat) (w : World) (h : Wr w base p v L) (hb : base ≤ w.heap.size) (en : n = k) (hn : k < 4611686018427387904) (hl : L.length + 6 * pieces k ≤ 32000) :
    Calls Try.prog 106 #[.pointer (some ⟨p, 0, none⟩), .int .i64 n] w fun e w' => e = .returned .nilIface ∧ PutPost base p v (L ++ varL k) w w' := by
  subst en
  exact var_ok base p k v L w h hb hn hl
theorem var_fi (base p k : Nat) (n : Int) (v : Value) (L : List Nat) (w : World) (h : Wr w base p v L) (en : n = k) (hn : k < 4611686018427387904) (hl : 32000 < L.length + 6 * pieces k) :
    Calls Try.prog 106 #[.pointer (some ⟨p, 0, none⟩), .int .i64 n] w fun e w' => e = .returned (.iface 38 (.int .i64 4)) ∧ w = w' := by
  subst en
  exact var_full base p k v L w h hn hl
theorem int_ok (base p : Nat) (n : Int) (v : Value) (L : List Nat) (w : World) (h : Wr w base p v L) (hb : base ≤ w.heap.size) (h1 : -1152921504606846976 ≤ n) (h2 : n ≤ 1152921504606846976) (hl : L.length + 6 * pieces (zig n) ≤ 32000) :
    Calls Try.prog 163 #[.pointer (some ⟨p, 0, none⟩), .int .i64 n] w fun e w' => e = .returned .nilIface ∧ PutPost base p v (L ++ intL n) w w' := by
  have hz := zig_le h1 h2
  have HZ := Lib.hid hz
  clear hz
  have HL := Lib.hid hl
  clear hl
  by_cases h0 : n < 0
  · go_enter Try.func163, Try.ntmps163
    go_wp2_with fail
    refine (var_i base p (zig n) _ v L _ h hb ?_ (by have := HZ.out; omega) HL.out).mono ?_
    · unfold zig; rw [if_pos h0]; omega
    rintro e w1 ⟨rfl, v2, hW2, hT2⟩
    go_wp2
    go_ret
    exact ⟨rfl, v2, hW2, hT2⟩
  · go_enter Try.func163, Try.ntmps163
    go_wp2_with fail
    refine (var_i base p (zig n) _ v L _ h hb ?_ (by have := HZ.out; omega) HL.out).mono ?_
    · unfold zig; rw [if_neg (by omega)]; omega
    rintro e w1 ⟨rfl, v2, hW2, hT2⟩
    go_wp2
    go_ret
    exact ⟨rfl, v2, hW2, hT2⟩
theorem int_full (base p : Nat) (n : Int) (v : Value) (L : List Nat) (w : World) (h : Wr w base p v L) (h1 : -1152921504606846976 ≤ n) (h2 : n ≤ 1152921504606846976) (hl : 32000 < L.length + 6 * pieces (zig n)) :
    Calls Try.prog 163 #[.pointer (some ⟨p, 0, none⟩), .int .i64 n] w fun e w' => e = .returned (.iface 38 (.int .i64 4)) ∧ w = w' := by
  have hz := zig_le h1 h2
  have HZ := Lib.hid hz
  clear hz
  have HL := Lib.hid hl
  clear hl
  by_cases h0 : n < 0
  · go_enter Try.func163, Try.ntmps163
    go_wp2_with fail
    refine (var_fi base p (zig n) _ v L _ h ?_ (by have := HZ.out; omega) HL.out).mono ?_
    · unfold zig; rw [if_pos h0]; omega
    rintro e w1 ⟨rfl, rfl⟩
    go_wp2
    go_ret
    exact ⟨rfl, rfl⟩
  · go_enter Try.func163, Try.ntmps163
    go_wp2_with fail
    refine (var_fi base p (zig n) _ v L _ h ?_ (by have := HZ.out; omega) HL.out).mono ?_
    · unfold zig; rw [if_neg (by omega)]; omega
    rintro e w1 ⟨rfl, rfl⟩
    go_wp2
    go_ret
    exact ⟨rfl, rfl⟩

end Go.Proofs.Ytefhmbmbhiehdaa
namespace Go.Proofs.Ytefhmbmbhiehdaa
open Go.ChangeShapes Go.WideShapes Go.ChangeAt Go.RowKit Go.BigFrame
open B
theorem balloc (w : World) (o : Obj) : Below w.heap.size w (w.alloc o) := (Below.refl _ _).alloc (Nat.le_refl _) o
/-- the slice value v reads as the bytes l -/
def Src (w : World) (v : Value) (l : List Nat) : Prop :=
  (v = .slice none 0 0 ∧ l = []) ∨ ∃ ad cap, v = .slice (some ad) l.length cap ∧ ∀ j u, (u8s l)[j]? = some u → w.cell? (ad.add j) = some u
theorem lt_cell {w : World} {a : Addr} {v : Value} (h : w.cell? a = some v) : a.block < w.heap.size := by
  unfold World.cell? at h
  cases hb : w.heap[a.block]? with
  | none => rw [hb] at h; cases h
  | some o => exact (Array.getElem?_eq_some_iff.1 hb).1
theorem Src.below {w w' : World} {v : Value} {l : List Nat} (h : Src w v l) (k : Below w.heap.size w w') : Src w' v l := by
  rcases h with h | ⟨ad, cap, hv, hc⟩
  · exact .inl h
  · exact .inr ⟨ad, cap, hv, fun j u hu => (k.cell (p := ad.add j) (lt_cell (hc j u hu))).trans (hc j u hu)⟩
/-- the reader at block p has the bytes l, and is at bit a -/
structure Rd (w : World) (base p : Nat) (v : Value) (l : List Nat) (a : Nat) : Prop where
  blk : Blk w p #[v, .int .i64 (a : Int)]
  row : w.ownsRow base 5 1 v l.length (u8s l)
  ne : v.ownBlock ≠ some p
  ok : ∀ b ∈ l, b < 256
  len : l.length ≤ 1000000
  le : a ≤ 8 * l.length
theorem Rd.mod {w w' : World} {base p a : Nat} {v : Value} {l : List Nat} {S : Nat → Prop} (h : Rd w base p v l a) (k : Mod S w w') (h1 : ¬ S p) (h2 : ∀ b, v.ownBlock = some b → ¬ S b) : Rd w' base p v l a :=
  ⟨h.blk.mod k h1, row_mod h.row k h2, h.ne, h.ok, h.len, h.le⟩
theorem Rd.below {w w' : World} {base p a : Nat} {v : Value} {l : List Nat} (h : Rd w base p v l a) (k : Below w.heap.size w w') : Rd w' base p v l a :=
  h.mod (S := fun _ => False) (Mod.of_below k) id fun _ _ => id
theorem Rd.goto {w w' : World} {base p a a' : Nat} {v : Value} {l : List Nat} (h : Rd w base p v l a) (k : Below w.heap.size w w') (hl : a' ≤ 8 * l.length) {x : Int} (hx : x = a') : Rd (w'.setCell ⟨p, 1, none⟩ (.int .i64 x)) base p v l a' := by
  subst hx
  exact ⟨blk_set2 (h.blk.below k), row_far (row_below h.row k) h.ne, h.ne, h.ok, h.len, hl⟩
def RdPost (base p : Nat) (v : Value) (l : List Nat) (a : Nat) (w w' : World) : Prop := Rd w' base p v l a ∧ Mod (· = p) w w'
theorem left_c (base p a : Nat) (v : Value) (l : List Nat) (w : World) (h : Rd w base p v l a) : Calls Try.prog 143 #[.pointer (some ⟨p, 0, none⟩)] w fun e w' => e = .returned (.int .i64 (8 * l.length - a : Int)) ∧ Below w.heap.size w w' := by
  obtain ⟨z0, c0, f0⟩ := h.blk
  have k0 : w.cell? ⟨p, 0, none⟩ = some v := c0 0
  have k1 : w.cell? ⟨p, 1, none⟩ = some (.int .i64 (a : Int)) := c0 1
  clear c0
  have h1 := h.len
  have h2 := h.le
  have hv : ∃ A cap, v = .slice A l.length cap := by
    rcases h.row.2 with ⟨rfl, h3⟩ | ⟨g, cap, cur, rfl, _⟩
    · exact ⟨none, 0, by rw [h3]⟩
    · exact ⟨_, cap, rfl⟩
  obtain ⟨A, cap, rfl⟩ := hv
  clear h
  have hmc := more_cell
  have hmf := more_frozen
  have hml := more_lt
  go_enter Try.func143, Try.ntmps143
  go_wp2
  refine region_quiet_all (by kernel_rfl) (by kernel_rfl) ?_
  repeat (go_big_quiet_step (fail))
  refine wpQuiet_nil ?_
  rintro w1 hw1
  have hb1 := after_below hw1
  clear hw1
  go_wp2
  go_ret
  exact ⟨rfl, hb1⟩
theorem get_bad (n : Int) (x : Option Addr) (w : World) (hn : n < 0 ∨ 62 < n) : Calls Try.prog 105 #[.pointer x, .int .i64 n] w fun e w' => e = .returned (.tuple #[.int .i64 0, .iface 38 (.int .i64 2)]) ∧ w = w' := by
  rcases hn with h | h
  · go_enter Try.func105, Try.ntmps105
    go_wp2
    go_ret2
    exact ⟨rfl, rfl⟩
  · have h' : ¬ n < 0 := by omega
    go_enter Try.func105, Try.ntmps105
    go_wp2
    go_ret2
    exact ⟨rfl, rfl⟩
theorem get_none (base p a n : Nat) (v : Value) (l : List Nat) (w : World) (h : Rd w base p v l a) (hn : n ≤ 62) (hl : 8 * l.length < a + n) :
    Calls Try.prog 105 #[.pointer (some ⟨p, 0, none⟩), .int .i64 n] w fun e w' => e = .returned (.tuple #[.int .i64 0, .iface 38 (.int .i64 8)]) ∧ Below w.heap.size w w' := by
  have h1 := h.len
  have h2 := h.le
  go_enter Try.func105, Try.ntmps105
  go_wp2_with fail
  refine (left_c base p a v l _ h).mono ?_
  rintro e w1 ⟨rfl, hb1⟩
  have hlt : (n : Int) > 8 * (l.length : Int) - a := by omega
  go_wp2
  go_ret2
  exact ⟨rfl, hb1⟩

set_option maxHeartbeats 1000000 in
theorem get_ok (base p a n : Nat) (v : Value) (l : List Nat) (w : World) (h : Rd w base p v l a) (hn : n ≤ 62) (hl : a + n ≤ 8 * l.length) :
    Calls Try.prog 105 #[.pointer (some ⟨p, 0, none⟩), .int .i64 n] w fun e w' => e = .returned (.tuple #[.int .i64 (getV (openL l) a n : Nat), .nilIface]) ∧ RdPost base p v l (a + n) w w' := by
  have h1 := h.len
  have h2 := h.le
  have hmc := more_cell
  have hmf := more_frozen
  have hml := more_lt
  go_enter Try.func105, Try.ntmps105
  go_wp2_with fail
  refine (left_c base p a v l _ h).mono ?_
  rintro e w1 ⟨rfl, hb1⟩
  have hlt : ¬ (n : Int) > 8 * (l.length : Int) - a := by omega
  go_wp2
  clear hlt
  go_loopw [6, 20] (fun x i wr => ∃ k : Nat, k ≤ n ∧ i = .int .i64 k ∧ x = .int .i64 (getV (openL l) a k : Nat) ∧ Rd wr base p v l (a + k) ∧ Mod (· = p) w wr) (fun _ i _ => n - (intOf i).toNat)
  case atStart => exact ⟨0, by omega, rfl, by rw [getV_zero]; rfl, h.below hb1, Mod.of_below hb1⟩
  case round =>
    obtain ⟨k, hk, rfl, rfl, hR, hM⟩ := hrel
    by_cases hlt : k < n
    · obtain ⟨z0, c0, f0⟩ := hR.blk
      have k0 : wr.cell? ⟨p, 0, none⟩ = some v := c0 0
      have k1 : wr.cell? ⟨p, 1, none⟩ = some (.int .i64 ((a + k : Nat) : Int)) := c0 1
      clear c0
      obtain ⟨m, hm⟩ : ∃ m, m = a + k := ⟨_, rfl⟩
      obtain ⟨q, hq⟩ : ∃ q : Nat, q = m / 8 := ⟨_, rfl⟩
      obtain ⟨r, hr⟩ : ∃ r : Nat, r = m % 8 := ⟨_, rfl⟩
      have hqi : (m : Int) / 8 = (q : Int) := by omega
      have hri : (m : Int) % 8 = (r : Int) := by omega
      have hr7 : r ≤ 7 := by omega
      obtain ⟨g, cap, rfl, g1, g2, g3, g4, g5, g6, _⟩ := row_at hR.row (by omega)
      obtain ⟨N, hN⟩ : ∃ N, N = l.length := ⟨_, rfl⟩
      have hqN : q < N := by omega
      obtain ⟨x, hx⟩ : ∃ x, l[q]? = some x := ⟨_, List.getElem?_eq_getElem (by omega)⟩
      have hx8 : x < 256 := hR.ok x (List.mem_of_getElem? hx)
      have hc := g6 q (.int .u8 (x : Nat)) (by unfold u8s; rw [List.getElem?_map, hx]; rfl)
      have hf := g5 q
      have hbit := openL_get l q r x hx (by omega)
      rw [show 8 * q + r = a + k by omega] at hbit
      have hsucc := getV_succ hbit
      have hle := getV_lt (openL_bin l) a k
      have hpk : 2 ^ k ≤ 2 ^ 61 := Nat.pow_le_pow_right (by omega) (by omega)
      have hgb := get_bit x r hx8
      have hb2 : x / 2 ^ (7 - r) % 2 < 2 := Nat.mod_lt _ (by omega)
      obtain ⟨b, hbb⟩ : ∃ b, b = x / 2 ^ (7 - r) % 2 := ⟨_, rfl⟩
      obtain ⟨y, hy⟩ : ∃ y, y = getV (openL l) a k := ⟨_, rfl⟩
      rw [← hbb] at hgb hb2 hsucc
      rw [← hy] at hsucc hle
      have hyl : y < 2305843009213693952 := by omega
      have hor := or_low y b (by omega) hb2
      obtain ⟨y2, hy2⟩ : ∃ y2, y2 = 2 * y + b := ⟨_, rfl⟩
      rw [← hy2, show ((2 * y : Nat) : Int) = (y : Int) * 2 by omega] at hor
      rw [← hN] at k0 g3
      rw [← hm] at k1
      have hN2 : N ≤ 1000000 := by omega
      have HM1 := Lib.hid hm
      have HQ := Lib.hid hq
      have HR := Lib.hid hr
      have HN := Lib.hid hN
      have HX := Lib.hid hx
      have HB := Lib.hid hbb
      have HS := Lib.hid hsucc
      have HY2 := Lib.hid hy2
      rw [← hy]
      have HY := Lib.hid hy
      have hm3 : m ≤ 8000000 := by omega
      clear hm hq hr hN hx hbb hsucc hy hy2 g6 g5 hbit hle hpk
      go_wp2
      refine region_quiet_all (by kernel_rfl) (by kernel_rfl) ?_
      repeat (go_big_quiet_step (fail))
      refine wpQuiet_nil ?_
      rintro w2 hw2
      have hb2 := after_below hw2
      clear hw2
      have z2 := Nat.lt_of_lt_of_le z0 hb2.size
      have k12 := (hb2.cell (p := ⟨p, 1, none⟩) z0).trans k1
      have f02 := fun o => (hb2.frozen (p := ⟨p, o, none⟩) z0).trans (f0 o)
      go_wp2
      go_roundw
      case rel =>
        refine ⟨k + 1, by omega, by go_num, ?_, ?_, ?_⟩
        · have := HS.out
          rw [← HY2.out] at this
          rw [this]
        · exact hR.goto hb2 (by omega) (by have := HM1.out; omega)
        · exact (hM.below hb2).set (.inl rfl)
      case measure => first | (simp [intOf]; done) | (simp [intOf]; omega)
    · obtain rfl : k = n := by omega
      go_wp2
      go_ret2
      exact ⟨rfl, hR, hM⟩

def VarPost (base p : Nat) (v : Value) (l : List Nat) (a : Nat) (w : World) (e : Ending) (w' : World) : Prop :=
  match varG (openL l) a with
  | .error x => e = .returned (.tuple #[.int .i64 0, .iface 38 (.int .i64 x)]) ∧ RdPost base p v l a w w'
  | .ok (n, a') => e = .returned (.tuple #[.int .i64 (n : Nat), .nilIface]) ∧ RdPost base p v l a' w w'
theorem varPost_err {base p a : Nat} {v : Value} {l : List Nat} {w w' : World} {e : Ending} {x : Int} (h : varG (openL l) a = .error x) (he : e = .returned (.tuple #[.int .i64 0, .iface 38 (.int .i64 x)])) (hp : RdPost base p v l a w w') : VarPost base p v l a w e w' := by
  unfold VarPost; rw [h]; exact ⟨he, hp⟩
theorem varPost_ok {base p a a' n : Nat} {v : Value} {l : List Nat} {w w' : World} {e : Ending} (h : varG (openL l) a = .ok (n, a')) (he : e = .returned (.tuple #[.int .i64 (n : Nat), .nilIface])) (hp : RdPost base p v l a' w w') : VarPost base p v l a w e w' := by
  unfold VarPost; rw [h]; exact ⟨he, hp⟩
set_option maxHeartbeats 2000000 in
theorem rvar_c (base p a : Nat) (v : Value) (l : List Nat) (w : World) (h : Rd w base p v l a) : Calls Try.prog 104 #[.pointer (some ⟨p, 0, none⟩)] w (VarPost base p v l a w) := by
  obtain ⟨z00, c00, f00⟩ := h.blk
  have k10 : w.cell? ⟨p, 1, none⟩ = some (.int .i64 (a : Int)) := c00 1
  clear c00
  have hal := h.le
  have hll := h.len
  go_enter Try.func104, Try.ntmps104
  go_wp2
  clear k10 f00
  go_loopw [5, 6] (fun x s wr => ∃ i m b : Nat, s = .int .i64 (5 * i : Nat) ∧ x = .int .i64 (m : Nat) ∧ i ≤ 12 ∧ m < 2 ^ (5 * i) ∧ Rd wr base p v l b ∧ Mod (· = p) w wr ∧ varR (openL l) (13 - i) i m b = varG (openL l) a) (fun _ s _ => (65 - intOf s).toNat)
  case atStart => exact ⟨0, 0, a, rfl, rfl, by omega, by omega, h, Mod.refl _ _, rfl⟩
  case round =>
    obtain ⟨i, m, b, rfl, rfl, hi, hm, hR, hM, hv⟩ := hrel
    have HV := Lib.hid hv
    have HM := Lib.hid hm
    clear hv hm
    obtain ⟨s, hs⟩ : ∃ s, s = 5 * i := ⟨_, rfl⟩
    rw [← hs]
    obtain ⟨f, hf⟩ : ∃ f, 13 - i = f + 1 := ⟨12 - i, by omega⟩
    have HF := Lib.hid hf
    clear hf
    have hTl := openL_length l
    have HT := Lib.hid hTl
    clear hTl
    by_cases hb6 : 8 * l.length < b + 6
    · go_wp2_with fail
      refine (get_none base p b 6 v l _ hR (by omega) hb6).mono ?_
      rintro e w1 ⟨rfl, hb1⟩
      obtain ⟨z1, c1, f1⟩ := (hR.below hb1).blk
      have k1 : w1.cell? ⟨p, 1, none⟩ = some (.int .i64 (b : Int)) := c1 1
      clear c1
      go_wp2
      go_ret2
      refine varPost_err (x := 8) ?_ rfl ⟨hR.goto hb1 hal rfl, (hM.below hb1).set (.inl rfl)⟩
      have := HV.out
      rw [HF.out, varR, if_pos (by rw [HT.out]; exact hb6)] at this
      exact this.symm
    · go_wp2_with fail
      refine (get_ok base p b 6 v l _ hR (by omega) (by omega)).mono ?_
      rintro e w1 ⟨rfl, hR1, hM1⟩
      obtain ⟨z1, c1, f1⟩ := hR1.blk
      have k1 : w1.cell? ⟨p, 1, none⟩ = some (.int .i64 ((b + 6 : Nat) : Int)) := c1 1
      clear c1
      have hp := getV_lt (openL_bin l) b 6
      obtain ⟨c, hc⟩ : ∃ c, c = getV (openL l) b 6 := ⟨_, rfl⟩
      rw [← hc] at hp
      rw [← hc]
      have HC := Lib.hid hc
      clear hc
      have hM2 : Mod (· = p) w w1 := hM.trans hM1
      by_cases hbad : i = 12 ∧ 3 < c ∨ 0 < i ∧ c = 0
      · have hfin : varG (openL l) a = .error 3 := by
          have := HV.out
          rw [HF.out, varR, if_neg (by rw [HT.out]; omega)] at this
          simp only [← HC.out] at this
          rw [if_pos hbad] at this
          exact this.symm
        have HFIN := Lib.hid hfin
        clear hfin
        by_cases h12 : i = 12
        · have h60 : ((s : Int) == 60) = true := by simp; omega
          by_cases h3 : 3 < c
          · have h3' : (c : Int) > 3 := by omega
            go_wp2
            go_ret2
            exact varPost_err HFIN.out rfl ⟨hR1.goto (Below.refl _ _) hal rfl, hM2.set (.inl rfl)⟩
          · have h3' : ¬ (c : Int) > 3 := by omega
            have h0 : ((c : Int) == 0) = true := by simp; omega
            have hs0 : (s : Int) > 0 := by omega
            go_wp2
            go_ret2
            exact varPost_err HFIN.out rfl ⟨hR1.goto (Below.refl _ _) hal rfl, hM2.set (.inl rfl)⟩
        · have h60 : ((s : Int) == 60) = false := by simp; omega
          have h0 : ((c : Int) == 0) = true := by simp; omega
          have hs0 : (s : Int) > 0 := by omega
          go_wp2
          go_ret2
          exact varPost_err HFIN.out rfl ⟨hR1.goto (Below.refl _ _) hal rfl, hM2.set (.inl rfl)⟩
      · obtain ⟨m2, hm2⟩ : ∃ m2, m2 = m + c % 32 * 2 ^ s := ⟨_, rfl⟩
        have hsm : c % 32 * 2 ^ s < 2 ^ 62 := by
          by_cases h12 : i = 12
          · have h3 : c ≤ 3 := by omega
            have : c % 32 * 2 ^ s ≤ 3 * 2 ^ 60 := Nat.mul_le_mul (by omega) (Nat.pow_le_pow_right (by omega) (by omega))
            omega
          · have : c % 32 * 2 ^ s ≤ 31 * 2 ^ 55 := Nat.mul_le_mul (by omega) (Nat.pow_le_pow_right (by omega) (by omega))
            omega
        have hmm : m < 2 ^ 60 := Nat.lt_of_lt_of_le HM.out (Nat.pow_le_pow_right (by omega) (by omega))
        have h31 := and31 c (by omega)
        obtain ⟨d, hd⟩ : ∃ d, d = c % 32 := ⟨_, rfl⟩
        obtain ⟨y, hy⟩ : ∃ y, y = c % 32 * 2 ^ s := ⟨_, rfl⟩
        have hor := or_high m (c % 32) s (by rw [hs]; exact HM.out) (by omega) (by omega)
        rw [← hm2, ← hy] at hor
        rw [← hd] at h31
        have hwr : wrap64 ((d : Int) * 2 ^ s) = (y : Int) := by
          have ecast : ((c % 32 * 2 ^ s : Nat) : Int) = ((c % 32 : Nat) : Int) * 2 ^ s := by simp
          rw [hd, ← ecast, ← hy]
          exact IntWalk.wrap64_in (y : Int) (by omega)
        have HMB := Lib.hid (show m < 2 ^ (5 * i) from HM.out)
        clear hd hy
        have HM2 := Lib.hid hm2
        have HS5 := Lib.hid hs
        clear hm2 hsm hmm
        by_cases h0 : i = 0
        · obtain rfl : s = 0 := by omega
          simp only [Int.pow_zero, Int.mul_one] at hwr
          clear hs
          by_cases h32 : c < 32
          · have h32' : (c : Int) < 32 := by omega
            go_wp2
            go_ret2
            refine varPost_ok (n := m2) (a' := b + 6) ?_ rfl ⟨hR1, hM2⟩
            have := HV.out
            rw [HF.out, varR, if_neg (by rw [HT.out]; omega)] at this
            simp only [← HC.out] at this
            rw [if_neg hbad, if_pos h32] at this
            rw [← this, HM2.out, HS5.out]
          · have h32' : ¬ (c : Int) < 32 := by omega
            go_wp2
            go_roundw
            case rel =>
              refine ⟨i + 1, m2, b + 6, by have := HS5.out; go_num, rfl, by omega, by rw [HM2.out, HS5.out]; exact varR_bd _ _ _ HM.out, hR1, hM2, ?_⟩
              have := HV.out
              rw [HF.out, varR, if_neg (by rw [HT.out]; omega)] at this
              simp only [← HC.out] at this
              rw [if_neg hbad, if_neg h32, ← HS5.out, ← HM2.out] at this
              have e13 : 13 - (i + 1) = f := by have := HF.out; omega
              rw [e13]
              exact this
            case measure => first | (simp [intOf]; done) | (simp [intOf]; omega)
        · have hs0 : (s : Int) > 0 := by have := HS5.out; omega
          have hsn : s ≤ 60 := by have := HS5.out; omega
          clear hs
          by_cases h12 : i = 12
          · have h60 : ((s : Int) == 60) = true := by have := HS5.out; simp; omega
            have h3 : ¬ (c : Int) > 3 := by omega
            have hc0 : ((c : Int) == 0) = false := by simp; omega
            have h32 : c < 32 := by omega
            have h32' : (c : Int) < 32 := by omega
            go_wp2
            go_ret2
            refine varPost_ok (n := m2) (a' := b + 6) ?_ rfl ⟨hR1, hM2⟩
            have := HV.out
            rw [HF.out, varR, if_neg (by rw [HT.out]; omega)] at this
            simp only [← HC.out] at this
            rw [if_neg hbad, if_pos h32] at this
            rw [← this, HM2.out, HS5.out]
          · have h60 : ((s : Int) == 60) = false := by have := HS5.out; simp; omega
            have hc0 : ((c : Int) == 0) = false := by simp; omega
            by_cases h32 : c < 32
            · have h32' : (c : Int) < 32 := by omega
              go_wp2
              go_ret2
              refine varPost_ok (n := m2) (a' := b + 6) ?_ rfl ⟨hR1, hM2⟩
              have := HV.out
              rw [HF.out, varR, if_neg (by rw [HT.out]; omega)] at this
              simp only [← HC.out] at this
              rw [if_neg hbad, if_pos h32] at this
              rw [← this, HM2.out, HS5.out]
            · have h32' : ¬ (c : Int) < 32 := by omega
              go_wp2
              go_roundw
              case rel =>
                refine ⟨i + 1, m2, b + 6, by have := HS5.out; go_num, rfl, by omega, by rw [HM2.out, HS5.out]; exact varR_bd _ _ _ HM.out, hR1, hM2, ?_⟩
                have := HV.out
                rw [HF.out, varR, if_neg (by rw [HT.out]; omega)] at this
                simp only [← HC.out] at this
                rw [if_neg hbad, if_neg h32, ← HS5.out, ← HM2.out] at this
                have e13 : 13 - (i + 1) = f := by have := HF.out; omega
                rw [e13]
                exact this
              case measure => first | (simp [intOf]; done) | (simp [intOf]; omega)

theorem rvar_err (base p a : Nat) (v : Value) (l : List Nat) (w : World) (h : Rd w base p v l a) (x : Int) (hv : varG (openL l) a = .error x) : Calls Try.prog 104 #[.pointer (some ⟨p, 0, none⟩)] w fun e w' => e = .returned (.tuple #[.int .i64 0, .iface 38 (.int .i64 x)]) ∧ RdPost base p v l a w w' :=
  (rvar_c base p a v l w h).mono fun e w' h => by unfold VarPost at h; rw [hv] at h; exact h
theorem rvar_yes (base p a n a' : Nat) (v : Value) (l : List Nat) (w : World) (h : Rd w base p v l a) (hv : varG (openL l) a = .ok (n, a')) : Calls Try.prog 104 #[.pointer (some ⟨p, 0, none⟩)] w fun e w' => e = .returned (.tuple #[.int .i64 (n : Nat), .nilIface]) ∧ RdPost base p v l a' w w' :=
  (rvar_c base p a v l w h).mono fun e w' h => by unfold VarPost at h; rw [hv] at h; exact h
def IntPost (base p : Nat) (v : Value) (l : List Nat) (a : Nat) (w : World) (e : Ending) (w' : World) : Prop :=
  match intG (openL l) a with
  | .error x => e = .returned (.tuple #[.int .i64 0, .iface 38 (.int .i64 x)]) ∧ RdPost base p v l a w w'
  | .ok (n, a') => e = .returned (.tuple #[.int .i64 n, .nilIface]) ∧ RdPost base p v l a' w w'
theorem intPost_err {base p a : Nat} {v : Value} {l : List Nat} {w w' : World} {e : Ending} {x : Int} (h : intG (openL l) a = .error x) (he : e = .returned (.tuple #[.int .i64 0, .iface 38 (.int .i64 x)])) (hp : RdPost base p v l a w w') : IntPost base p v l a w e w' := by
  unfold IntPost; rw [h]; exact ⟨he, hp⟩
theorem intPost_ok {base p a a' : Nat} {n : Int} {v : Value} {l : List Nat} {w w' : World} {e : Ending} (h : intG (openL l) a = .ok (n, a')) (he : e = .returned (.tuple #[.int .i64 n, .nilIface])) (hp : RdPost base p v l a' w w') : IntPost base p v l a w e w' := by
  unfold IntPost; rw [h]; exact ⟨he, hp⟩
set_option maxHeartbeats 1000000 in
theorem rint_c (base p a : Nat) (v : Value) (l : List Nat) (w : World) (h : Rd w base p v l a) : Calls Try.prog 148 #[.pointer (some ⟨p, 0, none⟩)] w (IntPost base p v l a w) := by
  obtain ⟨z00, c00, f00⟩ := h.blk
  have k10 : w.cell? ⟨p, 1, none⟩ = some (.int .i64 (a : Int)) := c00 1
  clear c00
  have hal := h.le
  match hv : varG (openL l) a with
  | .error x =>
    have HV := Lib.hid hv
    clear hv
    go_enter Try.func148, Try.ntmps148
    go_wp2_with fail
    refine (rvar_err base p a v l _ h x HV.out).mono ?_
    rintro e w1 ⟨rfl, hP⟩
    go_wp2
    go_ret2
    refine intPost_err (x := x) ?_ rfl hP
    unfold intG
    rw [HV.out]
  | .ok (n, a') =>
    have HV := Lib.hid hv
    clear hv
    by_cases hn : 2305843009213693952 < n
    · have hn' : (n : Int) > 2305843009213693952 := by omega
      go_enter Try.func148, Try.ntmps148
      go_wp2_with fail
      refine (rvar_yes base p a n a' v l _ h HV.out).mono ?_
      rintro e w1 ⟨rfl, hR1, hM1⟩
      obtain ⟨z1, c1, f1⟩ := hR1.blk
      have k1 : w1.cell? ⟨p, 1, none⟩ = some (.int .i64 (a' : Int)) := c1 1
      clear c1
      go_wp2
      go_ret2
      refine intPost_err (x := 3) ?_ rfl ⟨hR1.goto (Below.refl _ _) hal rfl, hM1.set (.inl rfl)⟩
      unfold intG
      rw [HV.out]
      simp only
      rw [if_pos hn]
    · have hn' : ¬ (n : Int) > 2305843009213693952 := by omega
      have hfin : intG (openL l) a = .ok (zag n, a') := by
        unfold intG
        rw [HV.out]
        simp only
        rw [if_neg hn]
      have HF := Lib.hid hfin
      clear hfin hn
      by_cases ho : n % 2 = 1
      · have ho' : ((n : Int) % 2 == 1) = true := by simp; omega
        have hz : (-((n : Int) + 1)).tdiv 2 = zag n := by
          unfold zag
          rw [if_pos ho, Int.neg_tdiv, Int.tdiv_eq_ediv_of_nonneg (by omega)]
          omega
        have hzw : wrap64 (zag n) = zag n := by
          apply IntWalk.wrap64_in
          unfold zag
          rw [if_pos ho]
          omega
        have HZW := Lib.hid hzw
        clear hzw
        go_enter Try.func148, Try.ntmps148
        go_wp2_with fail
        refine (rvar_yes base p a n a' v l _ h HV.out).mono ?_
        rintro e w1 ⟨rfl, hP⟩
        go_wp2
        go_ret2
        refine intPost_ok HF.out ?_ hP
        show Ending.returned (.tuple #[.int .i64 (wrap64 (zag n)), .nilIface]) = _
        rw [HZW.out]
      · have ho' : ((n : Int) % 2 == 1) = false := by simp; omega
        have hz : (n : Int) / 2 = zag n := by
          unfold zag
          rw [if_neg ho]
          omega
        go_enter Try.func148, Try.ntmps148
        go_wp2_with fail
        refine (rvar_yes base p a n a' v l _ h HV.out).mono ?_
        rintro e w1 ⟨rfl, hP⟩
        go_wp2
        go_ret2
        exact intPost_ok HF.out rfl hP
/-- what Read makes -/
def ReadPost (l : List Nat) (w : World) (e : Ending) (w' : World) : Prop := ∃ p v, e = .returned (.pointer (some ⟨p, 0, none⟩)) ∧ w.heap.size ≤ p ∧ Rd w' w.heap.size p v l 0 ∧ Below w.heap.size w w'
set_option maxHeartbeats 1000000 in
theorem read_c (v : Value) (l : List Nat) (w : World) (h : Src w v l) (h8 : ∀ b ∈ l, b < 256) (hl : l.length ≤ 1000000) : Calls Try.prog 71 #[v] w (ReadPost l w) := by
  obtain ⟨i0, hi, hz0, hz1, hz2⟩ := info_parts byteInfo
  have HI := Lib.hid hi
  have HZ0 := Lib.hid hz0
  have HZ1 := Lib.hid hz1
  have HZ2 := Lib.hid hz2
  clear hi hz0 hz1 hz2
  rcases h with ⟨rfl, rfl⟩ | ⟨ad, cap, rfl, hc⟩
  · go_enter Try.func71, Try.ntmps71
    go_wp2_with (at_builtin; refine wpList_append_own_none _ rfl (.tmp 3) (.tmp 4) 29 rfl w.heap.size 5 i0 1 Try.underlying29 HI.out (.slice (some ⟨w.heap.size, 0, none⟩) 0 0) 0 [] rfl (own_empty 5 1) rfl ?_)
    clear HI HZ0 HZ1 HZ2
    go_wp2
    go_ret
    refine ⟨_, _, rfl, by simp, ⟨by apply Blk.at; simp, row_below (own_empty 5 1) (balloc _ _), by simp [Value.ownBlock], h8, hl, by omega⟩, (balloc _ _).trans ((balloc _ _).mono (by simp))⟩
  · have hcH := Lib.hid hc
    clear hc
    go_enter Try.func71, Try.ntmps71
    go_wp2_with (at_builtin; refine wpList_append_own_at _ rfl (.tmp 3) (.tmp 4) 29 rfl w.heap.size 5 i0 (.int .u8 0) 1 1 Try.underlying29 HI.out HZ0.out HZ1.out HZ2.out rfl (by decide) (.slice (some ⟨w.heap.size, 0, none⟩) 0 0) 0 [] rfl (own_empty 5 1) ad l.length cap (u8s l) rfl ?c1 ?c2 ?c3 ?c4 ?c5 ?c6 ?_)
    case c1 => rw [u8s_length]; omega
    case c2 =>
      intro j u hu
      rw [World.cell?_alloc_lt _ _ _ (lt_cell (hcH.out j u hu))]
      exact hcH.out j u hu
    case c3 => exact u8s_one _
    case c4 => unfold maxLen; omega
    case c5 => omega
    case c6 => simp
    intro v' w1 hown hgrow _ _
    have hfo : v'.ownBlock ≠ some w1.heap.size := by
      intro e
      have := (row_lt hown e).1
      omega
    have hv' : ∃ A n c, v' = .slice A n c := by
      rcases hown.2 with ⟨h1, _⟩ | ⟨g, cap, cur, h1, _⟩
      · exact ⟨_, _, _, h1⟩
      · exact ⟨_, _, _, h1⟩
    obtain ⟨A, n', c', rfl⟩ := hv'
    have HO := Lib.hid hown
    have HG := Lib.hid hgrow
    have HFO := Lib.hid hfo
    clear hown hgrow HI HZ0 HZ1 HZ2 hfo
    go_wp2
    go_ret
    refine ⟨_, _, rfl, by have := HG.out.size; simp at this ⊢; omega, ⟨by apply Blk.at; simp, row_below (by simpa using HO.out) (balloc _ _), HFO.out, h8, hl, by omega⟩, ?_⟩
    exact ((balloc w _).trans ((mod_grown HG.out).toBelow (by simp) (fun b hb e => by simp only [Value.ownBlock, Option.some.injEq] at e; omega))).trans ((balloc _ _).mono (by have := HG.out.size; simp at this; omega))

end Go.Proofs.Ytefhmbmbhiehdaa
namespace Go.Proofs.Ytefhmbmbhiehdaa
open Go.ChangeShapes Go.WideShapes Go.ChangeAt Go.RowKit Go.BigFrame
open B
/-- the number (0 with an error), the error's number, and the place behind -/
def varD (T : List Nat) (a : Nat) : Int × Int × Nat := match varG T a with | .error x => (0, x, a) | .ok (n, a') => ((n : Int), 0, a')
def intD (T : List Nat) (a : Nat) : Int × Int × Nat := match intG T a with | .error x => (0, x, a) | .ok (n, a') => (n, 0, a')
def getD (T : List Nat) (a : Nat) (k : Int) : Int × Int × Nat := if k < 0 ∨ 62 < k then (0, 2, a) else if T.length < a + k.toNat then (0, 8, a) else ((getV T a k.toNat : Int), 0, a + k.toNat)
theorem varD_err {T : List Nat} {a : Nat} {x : Int} (h : varG T a = .error x) : varD T a = (0, x, a) := by unfold varD; rw [h]
theorem varD_ok {T : List Nat} {a n b : Nat} (h : varG T a = .ok (n, b)) : varD T a = ((n : Int), 0, b) := by unfold varD; rw [h]
theorem varR_err {T : List Nat} : ∀ (f i n a : Nat) (x : Int), varR T f i n a = .error x → x = 3 ∨ x = 8 := by
  intro f
  induction f with
  | zero => intro i n a x h; unfold varR at h; left; exact (Except.error.inj h).symm
  | succ f ih =>
    intro i n a x h
    unfold varR at h
    split at h
    · right; exact (Except.error.inj h).symm
    · simp only at h
      split at h
      · left; exact (Except.error.inj h).symm
      · split at h
        · cases h
        · exact ih _ _ _ _ h
theorem varG_err {T : List Nat} {a : Nat} {x : Int} (h : varG T a = .error x) : x = 3 ∨ x = 8 := varR_err _ _ _ _ _ h
theorem intG_err {T : List Nat} {a : Nat} {x : Int} (h : intG T a = .error x) : x = 3 ∨ x = 8 := by
  unfold intG at h
  split at h
  · rename_i e; cases h; exact varG_err e
  · split at h
    · left; exact (Except.error.inj h).symm
    · cases h
theorem varR_nat {T : List Nat} : ∀ (f i n a : Nat) (m b : Nat), varR T f i n a = .ok (m, b) → a ≤ b ∧ b ≤ T.length := by
  intro f
  induction f with
  | zero => intro i n a m b h; unfold varR at h; cases h
  | succ f ih =>
    intro i n a m b h
    unfold varR at h
    split at h
    · cases h
    · simp only at h
      split at h
      · cases h
      · split at h
        · cases h; omega
        · have := ih _ _ _ _ _ h; omega
/-- what a call of the reader leaves -/
def RDet (base p : Nat) (v : Value) (l : List Nat) (r : Int × Int × Nat) (w : World) (e : Ending) (w' : World) : Prop :=
  e = .returned (.tuple #[.int .i64 r.1, errV r.2.1]) ∧ Rd w' base p v l r.2.2 ∧ Mod (· = p) w w'
theorem varD_c (base p a : Nat) (v : Value) (l : List Nat) (w : World) (h : Rd w base p v l a) : Calls Try.prog 104 #[.pointer (some ⟨p, 0, none⟩)] w (RDet base p v l (varD (openL l) a) w) := by
  refine (rvar_c base p a v l w h).mono fun e w' h => ?_
  unfold VarPost at h
  unfold RDet varD
  cases hv : varG (openL l) a with
  | error x =>
    rw [hv] at h
    refine ⟨?_, h.2⟩
    rw [h.1]
    simp only
    rw [errV_n (by rcases varG_err hv with e | e <;> omega)]
  | ok q => rw [hv] at h; exact h
theorem intD_c (base p a : Nat) (v : Value) (l : List Nat) (w : World) (h : Rd w base p v l a) : Calls Try.prog 148 #[.pointer (some ⟨p, 0, none⟩)] w (RDet base p v l (intD (openL l) a) w) := by
  refine (rint_c base p a v l w h).mono fun e w' h => ?_
  unfold IntPost at h
  unfold RDet intD
  cases hv : intG (openL l) a with
  | error x =>
    rw [hv] at h
    refine ⟨?_, h.2⟩
    rw [h.1]
    simp only
    rw [errV_n (by rcases intG_err hv with e | e <;> omega)]
  | ok q => rw [hv] at h; exact h
theorem getD_c (base p a : Nat) (k : Int) (v : Value) (l : List Nat) (w : World) (h : Rd w base p v l a) : Calls Try.prog 105 #[.pointer (some ⟨p, 0, none⟩), .int .i64 k] w (RDet base p v l (getD (openL l) a k) w) := by
  unfold RDet getD
  have hT := openL_length l
  by_cases h1 : k < 0 ∨ 62 < k
  · refine (get_bad k _ w h1).mono fun e w' ⟨he, hw⟩ => ?_
    subst hw
    rw [if_pos h1]
    exact ⟨he, h, Mod.refl _ _⟩
  · rw [if_neg h1]
    obtain ⟨n, rfl⟩ : ∃ n : Nat, k = n := ⟨k.toNat, by omega⟩
    by_cases h2 : 8 * l.length < a + n
    · refine (get_none base p a n v l w h (by omega) h2).mono fun e w' ⟨he, hb⟩ => ?_
      rw [if_pos (by rw [hT]; simpa using h2)]
      exact ⟨he, h.below hb, Mod.of_below hb⟩
    · refine (get_ok base p a n v l w h (by omega) (by omega)).mono fun e w' ⟨he, hR, hM⟩ => ?_
      rw [if_neg (by rw [hT]; simpa using h2)]
      exact ⟨he, hR, hM⟩
end Go.Proofs.Ytefhmbmbhiehdaa
namespace Go.Proofs.Ytefhmbmbhiehdaa
open B
/-- a body as it is seen -/
structure Sn where
  id : Int
  kd : Int
  s1 : Int
  s2 : Int
  s3 : Int
  a1 : Int
  a2 : Int
  a3 : Int
  v1 : Int
  v2 : Int
  v3 : Int
/-- its j-th number -/
def Sn.get (r : Sn) : Nat → Int
  | 0 => r.id
  | 1 => r.kd
  | 2 => r.s1
  | 3 => r.s2
  | 4 => r.s3
  | 5 => r.a1
  | 6 => r.a2
  | 7 => r.a3
  | 8 => r.v1
  | 9 => r.v2
  | _ => r.v3
def Sn.zero : Sn := ⟨0, 0, 0, 0, 0, 0, 0, 0, 0, 0, 0⟩
/-- rows as a matrix -/
def mx (R : List Sn) : Nat → Nat → Int := fun k j => ((R[k]?).getD Sn.zero).get j
/-- row k of a matrix -/
def snOf (M : Nat → Nat → Int) (k : Nat) : Sn := ⟨M k 0, M k 1, M k 2, M k 3, M k 4, M k 5, M k 6, M k 7, M k 8, M k 9, M k 10⟩
def rowsOf (M : Nat → Nat → Int) (n : Nat) : List Sn := (List.range n).map (snOf M)
theorem rowsOf_length (M : Nat → Nat → Int) (n : Nat) : (rowsOf M n).length = n := by simp [rowsOf]
theorem snOf_get (M : Nat → Nat → Int) (k j : Nat) (hj : j < 11) : (snOf M k).get j = M k j := by
  match j, hj with
  | 0, _ => rfl
  | 1, _ => rfl
  | 2, _ => rfl
  | 3, _ => rfl
  | 4, _ => rfl
  | 5, _ => rfl
  | 6, _ => rfl
  | 7, _ => rfl
  | 8, _ => rfl
  | 9, _ => rfl
  | 10, _ => rfl
/-- the next number, and the place behind it, and whether all was so -/
def rI (T : List Nat) (s : Nat × Bool) : Int × (Nat × Bool) := ((intD T s.1).1, ((intD T s.1).2.2, s.2 || decide ((intD T s.1).2.1 ≠ 0)))
def rG (T : List Nat) (k : Int) (s : Nat × Bool) : Int × (Nat × Bool) := ((getD T s.1 k).1, ((getD T s.1 k).2.2, s.2 || decide ((getD T s.1 k).2.1 ≠ 0)))
def v3R (T : List Nat) (x y z : Int) (s : Nat × Bool) : (Int × Int × Int) × (Nat × Bool) :=
  ((x + (rI T s).1, y + (rI T (rI T s).2).1, z + (rI T (rI T (rI T s).2).2).1), (rI T (rI T (rI T s).2).2).2)
def newR (T : List Nat) (id : Int) (s : Nat × Bool) : Sn × (Nat × Bool) :=
  let k := rG T 3 s
  let p := v3R T 0 0 0 k.2
  let q := v3R T 0 0 0 p.2
  let r := v3R T 0 0 0 q.2
  (⟨id, k.1, p.1.1, p.1.2.1, p.1.2.2, q.1.1, q.1.2.1, q.1.2.2, r.1.1, r.1.2.1, r.1.2.2⟩, r.2)
/-- three numbers that may have changed -/
def maybe3 (T : List Nat) (g : Int) (x y z : Int) (s : Nat × Bool) : (Int × Int × Int) × (Nat × Bool) := if g = 1 then v3R T x y z s else ((x, y, z), s)
def maybeK (T : List Nat) (g : Int) (k : Int) (s : Nat × Bool) : Int × (Nat × Bool) := if g = 1 then rG T 3 s else (k, s)
def changeR (T : List Nat) (r : Sn) (s : Nat × Bool) : Sn × (Nat × Bool) :=
  let g1 := rG T 1 s
  let g2 := rG T 1 g1.2
  let g3 := rG T 1 g2.2
  let k := maybeK T g1.1 r.kd g3.2
  let p := maybe3 T g1.1 r.s1 r.s2 r.s3 k.2
  let q := maybe3 T g2.1 r.a1 r.a2 r.a3 p.2
  let u := maybe3 T g3.1 r.v1 r.v2 r.v3 q.2
  (⟨r.id, k.1, p.1.1, p.1.2.1, p.1.2.2, q.1.1, q.1.2.1, q.1.2.2, u.1.1, u.1.2.1, u.1.2.2⟩, u.2)
theorem newR_id (T : List Nat) (id : Int) (s : Nat × Bool) : (newR T id s).1.id = id := rfl
theorem changeR_id (T : List Nat) (r : Sn) (s : Nat × Bool) : (changeR T r s).1.id = r.id := rfl
/-- as the program finds it: rows that are done, rows that are not -/
def applyF (T : List Nat) : Nat → Nat → List Sn → List Sn → Int → Option (List Sn)
  | 0, _, _, _, _ => none
  | f + 1, a, out, rest, last =>
    let g := getD T a 2
    if g.2.1 ≠ 0 then none
    else if g.1 = 3 then some (out ++ rest)
    else
      let d := varD T g.2.2
      if d.2.1 ≠ 0 ∨ 1099511627776 < d.1 then none
      else
        let now := last + (d.1 + 1)
        let out2 := out ++ rest.takeWhile fun r => decide (r.id < now)
        match rest.dropWhile fun r => decide (r.id < now) with
        | [] =>
          if g.1 = 1 then
            let n := newR T now (d.2.2, false)
            if n.2.2 = true ∨ 60 < out2.length + 1 then none else applyF T f n.2.1 (out2 ++ [n.1]) [] now
          else none
        | r :: rest2 =>
          if r.id = now then
            if g.1 = 1 then none
            else if g.1 = 0 then applyF T f d.2.2 out2 rest2 now
            else
              let n := changeR T r (d.2.2, false)
              if n.2.2 = true ∨ 60 < out2.length + 1 then none else applyF T f n.2.1 (out2 ++ [n.1]) rest2 now
          else
            if g.1 = 1 then
              let n := newR T now (d.2.2, false)
              if n.2.2 = true ∨ 60 < out2.length + 1 then none else applyF T f n.2.1 (out2 ++ [n.1]) (r :: rest2) now
            else none
/-- as the document finds it: all rows -/
def applyR (T : List Nat) : Nat → Nat → List Sn → Int → Option (List Sn)
  | 0, _, _, _ => none
  | f + 1, a, all, last =>
    let g := getD T a 2
    if g.2.1 ≠ 0 then none
    else if g.1 = 3 then some all
    else
      let d := varD T g.2.2
      if d.2.1 ≠ 0 ∨ 1099511627776 < d.1 ∨ 120 < all.length then none
      else
        let now := last + (d.1 + 1)
        let pre := all.takeWhile fun r => decide (r.id < now)
        match all.dropWhile fun r => decide (r.id < now) with
        | [] =>
          if g.1 = 1 then
            let n := newR T now (d.2.2, false)
            if n.2.2 = true then none else applyR T f n.2.1 (pre ++ [n.1]) now
          else none
        | r :: rest2 =>
          if r.id = now then
            if g.1 = 1 then none
            else if g.1 = 0 then applyR T f d.2.2 (pre ++ rest2) now
            else
              let n := changeR T r (d.2.2, false)
              if n.2.2 = true then none else applyR T f n.2.1 (pre ++ n.1 :: rest2) now
          else
            if g.1 = 1 then
              let n := newR T now (d.2.2, false)
              if n.2.2 = true then none else applyR T f n.2.1 (pre ++ n.1 :: r :: rest2) now
            else none
theorem tw_append {p : Sn → Bool} {a b : List Sn} (h : ∀ r ∈ a, p r = true) : (a ++ b).takeWhile p = a ++ b.takeWhile p ∧ (a ++ b).dropWhile p = b.dropWhile p := by
  induction a with
  | nil => exact ⟨rfl, rfl⟩
  | cons x a ih =>
    obtain ⟨h1, h2⟩ := ih fun r hr => h r (by simp [hr])
    have hx := h x (by simp)
    constructor
    · simp [hx, h1]
    · simp [hx, h2]
theorem tw_mem {p : Sn → Bool} {b : List Sn} : ∀ r ∈ b.takeWhile p, p r = true := by
  induction b with
  | nil => intro r h; simp at h
  | cons x b ih =>
    intro r h
    rw [List.takeWhile_cons] at h
    split at h
    · rcases List.mem_cons.1 h with rfl | h
      · assumption
      · exact ih r h
    · simp at h
theorem varD_nonneg (T : List Nat) (a : Nat) : 0 ≤ (varD T a).1 := by
  unfold varD
  cases varG T a with
  | error x => exact Int.le_refl _
  | ok q => exact Int.natCast_nonneg _
theorem below_snoc {out t : List Sn} {x : Sn} {last now : Int} (hl : last < now) (h : ∀ r ∈ out, r.id ≤ last) (ht : ∀ r ∈ t, decide (r.id < now) = true) (hx : x.id ≤ now) : ∀ r ∈ out ++ t ++ [x], r.id ≤ now := by
  intro r hr
  rcases List.mem_append.1 hr with hr | hr
  · rcases List.mem_append.1 hr with hr | hr
    · have := h r hr; omega
    · have := ht r hr; simp at this; omega
  · simp at hr; subst hr; exact hx
theorem below_app {out t : List Sn} {last now : Int} (hl : last < now) (h : ∀ r ∈ out, r.id ≤ last) (ht : ∀ r ∈ t, decide (r.id < now) = true) : ∀ r ∈ out ++ t, r.id ≤ now := by
  intro r hr
  rcases List.mem_append.1 hr with hr | hr
  · have := h r hr; omega
  · have := ht r hr; simp at this; omega
/-- more than 60 rows that are done do not get fewer -/
theorem apply_dead (T : List Nat) : ∀ (f a : Nat) (out rest : List Sn) (last : Int), (∀ r ∈ out, r.id ≤ last) → 60 < out.length → ∀ o, applyR T f a (out ++ rest) last = some o → 60 < o.length := by
  intro f
  induction f with
  | zero => intro a out rest last _ _ o h; cases h
  | succ f ih =>
    intro a out rest last hm hl o h
    unfold applyR at h
    simp only at h
    have hd0 := varD_nonneg T (getD T a 2).2.2
    generalize getD T a 2 = g at h hd0
    by_cases h1 : g.2.1 ≠ 0
    · rw [if_pos h1] at h; cases h
    rw [if_neg h1] at h
    by_cases h2 : g.1 = 3
    · rw [if_pos h2] at h; cases h; simp; omega
    rw [if_neg h2] at h
    generalize varD T g.2.2 = d at h hd0
    by_cases h3 : d.2.1 ≠ 0 ∨ 1099511627776 < d.1 ∨ 120 < (out ++ rest).length
    · rw [if_pos h3] at h; cases h
    rw [if_neg h3] at h
    have hnow : last < last + (d.1 + 1) := by omega
    obtain ⟨e1, e2⟩ := tw_append (p := fun r : Sn => decide (r.id < last + (d.1 + 1))) (a := out) (b := rest) (fun r hr => by have := hm r hr; simp; omega)
    rw [e1, e2] at h
    have ht := tw_mem (p := fun r : Sn => decide (r.id < last + (d.1 + 1))) (b := rest)
    generalize rest.takeWhile (fun r : Sn => decide (r.id < last + (d.1 + 1))) = t at h ht
    generalize rest.dropWhile (fun r : Sn => decide (r.id < last + (d.1 + 1))) = u at h
    cases u with
    | nil =>
      simp only at h
      by_cases h4 : g.1 = 1
      · rw [if_pos h4] at h
        generalize hn : newR T (last + (d.1 + 1)) (d.2.2, false) = n at h
        have hid : n.1.id = last + (d.1 + 1) := by rw [← hn]; rfl
        by_cases h5 : n.2.2 = true
        · rw [if_pos h5] at h; cases h
        rw [if_neg h5] at h
        refine ih n.2.1 (out ++ t ++ [n.1]) [] _ (below_snoc hnow hm ht (by omega)) (by simp; omega) o ?_
        simpa using h
      · rw [if_neg h4] at h; cases h
    | cons r rest2 =>
      simp only at h
      by_cases h6 : r.id = last + (d.1 + 1)
      · rw [if_pos h6] at h
        by_cases h4 : g.1 = 1
        · rw [if_pos h4] at h; cases h
        rw [if_neg h4] at h
        by_cases h7 : g.1 = 0
        · rw [if_pos h7] at h
          exact ih d.2.2 (out ++ t) rest2 _ (below_app hnow hm ht) (by simp; omega) o h
        · rw [if_neg h7] at h
          generalize hn : changeR T r (d.2.2, false) = n at h
          have hid : n.1.id = r.id := by rw [← hn]; rfl
          by_cases h5 : n.2.2 = true
          · rw [if_pos h5] at h; cases h
          rw [if_neg h5] at h
          refine ih n.2.1 (out ++ t ++ [n.1]) rest2 _ (below_snoc hnow hm ht (by omega)) (by simp; omega) o ?_
          simpa using h
      · rw [if_neg h6] at h
        by_cases h4 : g.1 = 1
        · rw [if_pos h4] at h
          generalize hn : newR T (last + (d.1 + 1)) (d.2.2, false) = n at h
          have hid : n.1.id = last + (d.1 + 1) := by rw [← hn]; rfl
          by_cases h5 : n.2.2 = true
          · rw [if_pos h5] at h; cases h
          rw [if_neg h5] at h
          refine ih n.2.1 (out ++ t ++ [n.1]) (r :: rest2) _ (below_snoc hnow hm ht (by omega)) (by simp; omega) o ?_
          simpa using h
        · rw [if_neg h4] at h; cases h
theorem apply_deadF (T : List Nat) : ∀ (f a : Nat) (out rest : List Sn) (last : Int), 60 < out.length → ∀ o, applyF T f a out rest last = some o → 60 < o.length := by
  intro f
  induction f with
  | zero => intro a out rest last _ o h; cases h
  | succ f ih =>
    intro a out rest last hl o h
    unfold applyF at h
    simp only at h
    generalize getD T a 2 = g at h
    by_cases h1 : g.2.1 ≠ 0
    · rw [if_pos h1] at h; cases h
    rw [if_neg h1] at h
    by_cases h2 : g.1 = 3
    · rw [if_pos h2] at h; cases h; simp; omega
    rw [if_neg h2] at h
    generalize varD T g.2.2 = d at h
    by_cases h3 : d.2.1 ≠ 0 ∨ 1099511627776 < d.1
    · rw [if_pos h3] at h; cases h
    rw [if_neg h3] at h
    generalize rest.takeWhile (fun r : Sn => decide (r.id < last + (d.1 + 1))) = t at h
    generalize rest.dropWhile (fun r : Sn => decide (r.id < last + (d.1 + 1))) = u at h
    cases u with
    | nil =>
      simp only at h
      split at h
      · rw [if_pos (.inr (by simp; omega))] at h; cases h
      · cases h
    | cons r rest2 =>
      simp only at h
      split at h
      · split at h
        · cases h
        · split at h
          · exact ih _ _ _ _ (by simp; omega) o h
          · rw [if_pos (.inr (by simp; omega))] at h; cases h
      · split at h
        · rw [if_pos (.inr (by simp; omega))] at h; cases h
        · cases h
/-- what is found is too much -/
def Big (x : Option (List Sn)) : Prop := ∀ o, x = some o → 60 < o.length
theorem Big.none : Big none := fun _ h => by cases h
/-- both find the same, or what they find is too much -/
theorem apply_eq (T : List Nat) : ∀ (f a : Nat) (out rest : List Sn) (last : Int), (∀ r ∈ out, r.id ≤ last) → out.length ≤ 60 → rest.length ≤ 60 →
    applyR T f a (out ++ rest) last = applyF T f a out rest last ∨ (Big (applyF T f a out rest last) ∧ Big (applyR T f a (out ++ rest) last)) := by
  intro f
  induction f with
  | zero => intro a out rest last _ _ _; exact .inl rfl
  | succ f ih =>
    intro a out rest last hm hl hr
    unfold applyR applyF
    simp only
    have hd0 := varD_nonneg T (getD T a 2).2.2
    generalize getD T a 2 = g at hd0 ⊢
    by_cases h1 : g.2.1 ≠ 0
    · rw [if_pos h1, if_pos h1]; exact .inl rfl
    rw [if_neg h1, if_neg h1]
    by_cases h2 : g.1 = 3
    · rw [if_pos h2, if_pos h2]; exact .inl rfl
    rw [if_neg h2, if_neg h2]
    generalize varD T g.2.2 = d at hd0 ⊢
    by_cases h3 : d.2.1 ≠ 0 ∨ 1099511627776 < d.1
    · rw [if_pos h3, if_pos (by rcases h3 with h | h; exact .inl h; exact .inr (.inl h))]; exact .inl rfl
    rw [if_neg h3, if_neg (by rintro (h | h | h); exact h3 (.inl h); exact h3 (.inr h); simp at h; omega)]
    have hnow : last < last + (d.1 + 1) := by omega
    obtain ⟨e1, e2⟩ := tw_append (p := fun r : Sn => decide (r.id < last + (d.1 + 1))) (a := out) (b := rest) (fun r hr => by have := hm r hr; simp; omega)
    rw [e1, e2]
    have ht := tw_mem (p := fun r : Sn => decide (r.id < last + (d.1 + 1))) (b := rest)
    have hlen : (rest.takeWhile fun r : Sn => decide (r.id < last + (d.1 + 1))).length + (rest.dropWhile fun r : Sn => decide (r.id < last + (d.1 + 1))).length ≤ 60 := by
      rw [← List.length_append, List.takeWhile_append_dropWhile]; exact hr
    generalize rest.takeWhile (fun r : Sn => decide (r.id < last + (d.1 + 1))) = t at ht hlen ⊢
    generalize rest.dropWhile (fun r : Sn => decide (r.id < last + (d.1 + 1))) = u at hlen ⊢
    -- the step that adds a row
    have key : ∀ (n : Sn × (Nat × Bool)) (rest2 : List Sn), n.1.id ≤ last + (d.1 + 1) → rest2.length ≤ 60 →
        (if n.2.2 = true then none else applyR T f n.2.1 (out ++ t ++ n.1 :: rest2) (last + (d.1 + 1))) = (if n.2.2 = true ∨ 60 < (out ++ t).length + 1 then none else applyF T f n.2.1 (out ++ t ++ [n.1]) rest2 (last + (d.1 + 1))) ∨
        (Big (if n.2.2 = true ∨ 60 < (out ++ t).length + 1 then none else applyF T f n.2.1 (out ++ t ++ [n.1]) rest2 (last + (d.1 + 1))) ∧
          Big (if n.2.2 = true then none else applyR T f n.2.1 (out ++ t ++ n.1 :: rest2) (last + (d.1 + 1)))) := by
      intro n rest2 hid hr2
      have hap : out ++ t ++ n.1 :: rest2 = out ++ t ++ [n.1] ++ rest2 := by simp
      have hmm := below_snoc hnow hm ht hid
      by_cases h5 : n.2.2 = true
      · rw [if_pos h5, if_pos (.inl h5)]; exact .inl rfl
      rw [if_neg h5]
      by_cases h8 : 60 < (out ++ t).length + 1
      · rw [if_pos (.inr h8)]
        refine .inr ⟨Big.none, fun o ho => ?_⟩
        rw [hap] at ho
        refine apply_dead T f n.2.1 (out ++ t ++ [n.1]) rest2 _ hmm ?_ o ho
        simp at h8 ⊢; omega
      · rw [if_neg (by rintro (h | h); exact h5 h; exact h8 h), hap]
        exact ih n.2.1 (out ++ t ++ [n.1]) rest2 _ hmm (by simp at h8 ⊢; omega) hr2
    cases u with
    | nil =>
      simp only
      by_cases h4 : g.1 = 1
      · rw [if_pos h4, if_pos h4]
        exact key (newR T (last + (d.1 + 1)) (d.2.2, false)) [] (by rw [newR_id]; omega) (by simp)
      · rw [if_neg h4, if_neg h4]; exact .inl rfl
    | cons r rest2 =>
      simp only [List.length_cons] at hlen
      simp only
      by_cases h6 : r.id = last + (d.1 + 1)
      · rw [if_pos h6, if_pos h6]
        by_cases h4 : g.1 = 1
        · rw [if_pos h4, if_pos h4]; exact .inl rfl
        rw [if_neg h4, if_neg h4]
        by_cases h7 : g.1 = 0
        · rw [if_pos h7, if_pos h7]
          by_cases h8 : 60 < (out ++ t).length
          · -- too many already
            exact .inr ⟨apply_deadF T f d.2.2 (out ++ t) rest2 _ h8, fun o ho => apply_dead T f d.2.2 (out ++ t) rest2 _ (below_app hnow hm ht) h8 o ho⟩
          · exact ih d.2.2 (out ++ t) rest2 _ (below_app hnow hm ht) (by omega) (by omega)
        · rw [if_neg h7, if_neg h7]
          exact key (changeR T r (d.2.2, false)) rest2 (by rw [changeR_id]; omega) (by omega)
      · rw [if_neg h6, if_neg h6]
        by_cases h4 : g.1 = 1
        · rw [if_pos h4, if_pos h4]
          exact key (newR T (last + (d.1 + 1)) (d.2.2, false)) (r :: rest2) (by rw [newR_id]; omega) (by simp; omega)
        · rw [if_neg h4, if_neg h4]; exact .inl rfl
end Go.Proofs.Ytefhmbmbhiehdaa
namespace Go.Proofs.Ytefhmbmbhiehdaa
open Go.ChangeShapes Go.WideShapes Go.ChangeAt Go.RowKit Go.BigFrame
open B
theorem step_append_own {P : Program} {ops : Array Oper} {o : Oper} {a : Act} {w : World} {K : Act → World → Prop} {Q : Exit → Act → World → Prop} {E : Prop}
    (hg : o.guard = none) (s x : Operand) (t : TypeId) (ho : o.op = .call { callee := .builtin .append, args := #[s, x], argTypes := #[t, t] })
    (base : Nat) (e : TypeId) (i : TypeInfo) (z : Value) (size bytes : Nat) (ht : P.underlying t = some (.slice e)) (hi : P.info? e = some i) (hz : i.zero = some z)
    (hsize : i.size = size) (hby : i.bytes = bytes) (hzs : z.cells.size = size) (hsz : 0 < size)
    (v : Value) (n : Nat) (xs : List Value) (hs : a.eval s = v) (hown : w.ownsRow base e size v n xs)
    (ad : Addr) (m c : Nat) (news : List Value) (hx : a.eval x = .slice (some ad) m c) (hl : news.length = m * size) (hnews : ∀ j u, news[j]? = some u → w.cell? (ad.add j) = some u) (h1 : ∀ u ∈ news, u.oneCell' = true)
    (h63 : n + m ≤ maxLen) (hbytes : (n + m) * bytes ≤ 140737488355328) (hbase : base ≤ w.heap.size)
    (hK : ∀ v' w', w'.ownsRow base e size v' (n + m) (xs ++ news) → w.grownBy w' v.ownBlock → (v' = .slice none 0 0 ↔ v = .slice none 0 0 ∧ m = 0) → (v'.ownBlock = v.ownBlock ∨ v'.ownBlock = some w.heap.size) → K (a.put o.dst v') w') :
    if Region.wanted o (yielded ops a.tmps) = true then Oper.wp P o a w K Q else E := by
  have hw : Region.wanted o (yielded ops a.tmps) = true := by simp [Region.wanted, hg]
  rw [if_pos hw]
  obtain ⟨v', w', hr, h2, h3, h4, h5⟩ := run_append_own_at (P := P) w base t o.type e i z size bytes ht hi hz hsize hby hzs hsz v n xs hown ad m c news hl hnews h1 h63 hbytes hbase
  unfold Oper.wp execOp
  simp only [ho, resolve, invoke, builtin, Sem.run_bind, Sem.run_pure, Result.andThen_ok, List.map_toArray, List.map_cons, List.map_nil, hs, hx, hr]
  exact hK v' w' h2 h3 h4 h5
/-- block p holds the slice v of the bits L -/
structure Rb (w : World) (base p : Nat) (v : Value) (L : List Nat) : Prop where
  blk : Blk w p #[v]
  row : w.ownsRow base 5 1 v L.length (u8s L)
  ne : v.ownBlock ≠ some p
  bin : Bin L
  lim : L.length ≤ 1000000
def RbPost (base p : Nat) (v : Value) (L : List Nat) (w : World) (w' : World) : Prop := ∃ v', Rb w' base p v' L ∧ Turn (· = p) w v w' v'
theorem u8_bit (n k : Nat) (h : Lt63 n) : bits .and .i64 ((n : Int) / 2 ^ k) 1 % 256 = ((n / 2 ^ k % 2 : Nat) : Int) := by
  rw [and1 n k h]
  omega
theorem rb_step {wr w1 : World} {o : Obj} {base p g cap b : Nat} {v1 : Value} {X : List Nat} (h : Rb wr base p v1 X) (hl : X.length + 1 ≤ 1000000)
    (hown : w1.ownsRow base 5 1 (.slice (some ⟨g, 0, none⟩) (X.length + 1) cap) (X.length + 1) (u8s X ++ [.int .u8 (b : Int)])) (hg : ((wr.alloc o).drew).grownBy w1 v1.ownBlock)
    (hw : (Value.slice (some ⟨g, 0, none⟩) (X.length + 1) cap).ownBlock = v1.ownBlock ∨ (Value.slice (some ⟨g, 0, none⟩) (X.length + 1) cap).ownBlock = some (wr.heap.size + 1)) (hb : b < 2) :
    Rb (w1.setCell ⟨p, 0, none⟩ (.slice (some ⟨g, 0, none⟩) (X.length + 1) cap)) base p (.slice (some ⟨g, 0, none⟩) (X.length + 1) cap) (X ++ [b]) ∧
    Turn (· = p) wr v1 (w1.setCell ⟨p, 0, none⟩ (.slice (some ⟨g, 0, none⟩) (X.length + 1) cap)) (.slice (some ⟨g, 0, none⟩) (X.length + 1) cap) := by
  have hne : (Value.slice (some ⟨g, 0, none⟩) (X.length + 1) cap).ownBlock ≠ some p := by
    rcases hw with e | e
    · rw [e]; exact h.ne
    · rw [e]
      intro e2
      have := h.blk.lt
      have := Option.some.inj e2
      omega
  refine ⟨⟨?_, ?_, hne, h.bin.append (Bin.mk hb Bin.nil), by simpa using hl⟩, ?_, ?_⟩
  · have h1 : Blk w1 p #[v1] := ((h.blk.alloc o).drew).mod (mod_grown hg) h.ne
    exact h1.put (i := 0)
  · have e : (X ++ [b]).length = X.length + 1 := by simp
    rw [e, u8s_append]
    exact row_far hown hne
  · exact (Mod.trans2 (Mod.of_below (((Below.refl _ _).alloc (Nat.le_refl _) o).drew)) (mod_grown hg) fun _ _ h => .inr h).set (.inl (.inl rfl))
  · rcases hw with e | e
    · exact .inl e
    · right
      intro b hb
      rw [e] at hb
      have := Option.some.inj hb
      omega
set_option maxHeartbeats 4000000 in
theorem rput_ok (base p n width : Nat) (v : Value) (L : List Nat) (w : World) (h : Rb w base p v L) (hb : base ≤ w.heap.size) (hw : width ≤ 62) (hn : Lt63 n) (hl : L.length + width ≤ 1000000) :
    Calls Try.prog 36 #[.pointer (some ⟨p, 0, none⟩), .int .i64 n, .int .i64 width] w fun e w' => e = .returned (.tuple #[]) ∧ RbPost base p v (L ++ bitsOf width n) w w' := by
  go_enter Try.func36, Try.ntmps36
  go_wp2
  go_loopw [6] (fun i wr => ∃ (k : Nat) (M : List Nat) (v1 : Value), k ≤ width ∧ (∃ j : Int, j + 1 = k ∧ i = .int .i64 j) ∧ M ++ bitsOf k n = bitsOf width n ∧ Rb wr base p v1 (L ++ M) ∧ Turn (· = p) w v wr v1) (fun i _ => (intOf i + 1).toNat)
  case atStart => exact ⟨width, [], v, by omega, ⟨_, by omega, rfl⟩, rfl, by simpa using h, Turn.refl _ _ _⟩
  case round =>
    obtain ⟨k, M, v1, hk, ⟨j, hj, rfl⟩, hM, hW, hT⟩ := hrel
    have HM := Lib.hid hM
    clear hM
    cases k with
    | zero =>
      obtain rfl : j = -1 := by omega
      go_wp2
      go_end0
      refine ⟨rfl, v1, ?_, hT⟩
      have := HM.out
      simp only [bitsOf, List.append_nil] at this
      rw [← this]
      exact hW
    | succ k =>
      obtain rfl : j = (k : Int) := by omega
      have hlen : (L ++ M).length + 1 ≤ 1000000 := by
        have := congrArg List.length HM.out
        simp [bitsOf_length] at this
        simp; omega
      obtain ⟨X, hX0⟩ : ∃ X, X = L ++ M := ⟨_, rfl⟩
      have HL := Lib.hid hX0
      rw [← hX0] at hW hlen
      clear hX0
      obtain ⟨z0, c0, f0⟩ := id hW.blk
      have k0 : wr.cell? ⟨p, 0, none⟩ = some v1 := c0 0
      clear c0
      have hlim := hW.lim
      have hand := u8_bit n k hn
      obtain ⟨b, hb0⟩ : ∃ b, b = n / 2 ^ k % 2 := ⟨_, rfl⟩
      rw [← hb0] at hand
      have hb2 : b < 2 := by rw [hb0]; exact Nat.mod_lt _ (by omega)
      have HB := Lib.hid hb0
      have hv : IntKind.u8.wrap (bits BinOp.and IntKind.i64 ((n : Int) / 2 ^ k) 1) = (b : Int) := by rw [IntKind.wrap_u8', hand]
      have HV := Lib.hid hv
      clear hb0 hv
      go_wp2
      obtain ⟨i0, hi, hz0, hz1, hz2⟩ := info_parts byteInfo
      have hrowA := fun o => row_below hW.row (balloc wr o)
      have hszA : base ≤ (wr.alloc (.cells #[.int .u8 (IntKind.u8.wrap (bits BinOp.and IntKind.i64 ((n : Int) / 2 ^ k) 1))] 5)).heap.size := by have := hT.mod.size; simp; omega
      have hone : ∀ u ∈ [Value.int .u8 (IntKind.u8.wrap (bits BinOp.and IntKind.i64 ((n : Int) / 2 ^ k) 1))], u.oneCell' = true := by intro u hu; simp at hu; subst hu; rfl
      have h63 : X.length + 1 ≤ maxLen := by unfold maxLen; omega
      have hby : (X.length + 1) * 1 ≤ 140737488355328 := by omega
      have HO := Lib.hid hone
      have HC := Lib.hid (cell_one_new wr (.int .u8 (IntKind.u8.wrap (bits BinOp.and IntKind.i64 ((n : Int) / 2 ^ k) 1))) 5)
      have HR := Lib.hid hrowA
      have HS := Lib.hid hszA
      have HM3 := Lib.hid h63
      have HBY := Lib.hid hby
      have HI := Lib.hid hi
      have HZ0 := Lib.hid hz0
      have HZ1 := Lib.hid hz1
      have HZ2 := Lib.hid hz2
      have hB1 := fun (w1 : World) (hg : ((wr.alloc (.cells #[.int .u8 (IntKind.u8.wrap (bits BinOp.and IntKind.i64 ((n : Int) / 2 ^ k) 1))] 5)).drew).grownBy w1 v1.ownBlock) => (show Blk w1 p #[v1] from ((hW.blk.alloc _).drew).mod (mod_grown hg) hW.ne)
      have HB1 := Lib.hid hB1
      clear hB1 hone hrowA hszA h63 hby hi hz0 hz1 hz2 hand
      go_region_law (refine step_append_own rfl (.tmp 16) (.tmp 22) 96 rfl base 5 i0 (.int .u8 0) 1 1 Try.underlying96 HI.out HZ0.out HZ1.out HZ2.out rfl (by decide) v1 X.length (u8s X) (by simp [Act.eval]) (HR.out _) ⟨wr.heap.size, 0, none⟩ 1 1 [.int .u8 (IntKind.u8.wrap (bits BinOp.and IntKind.i64 ((n : Int) / 2 ^ k) 1))] (by simp [Act.eval]) rfl HC.out HO.out HM3.out HBY.out HS.out ?_; intro v' w1 hown hgrow _ hwhere; obtain ⟨g, cap, hv1, _⟩ := row_at hown (by omega); subst hv1; obtain ⟨z1, c1, f1⟩ := HB1.out w1 hgrow; have j0 : w1.cell? ⟨p, 0, none⟩ = some v1 := c1 0; have HO1 := Lib.hid hown; have HG1 := Lib.hid hgrow; have HW1 := Lib.hid hwhere; clear hown hgrow hwhere c1)
      all_goals
        go_wp2
        go_roundw
        case rel =>
          obtain ⟨r1, r2⟩ := rb_step hW hlen (HV.out ▸ HO1.out) HG1.out (by simpa using HW1.out) hb2
          refine ⟨k, M ++ [b], .slice (some ⟨g, 0, none⟩) (X.length + 1) cap, by omega, ⟨_, by omega, rfl⟩, ?_, ?_, hT.trans r2⟩
          · rw [List.append_assoc, HB.out]; exact HM.out
          · rw [← List.append_assoc, ← HL.out]; exact r1
        case measure => first | (simp [intOf]; done) | (simp [intOf]; omega)
theorem rput_i (base p : Nat) (n width : Int) (k j : Nat) (v : Value) (L : List Nat) (w : World) (h : Rb w base p v L) (hb : base ≤ w.heap.size) (ek : n = k) (ej : width = j) (hw : j ≤ 62) (hn : Lt63 k) (hl : L.length + j ≤ 1000000) :
    Calls Try.prog 36 #[.pointer (some ⟨p, 0, none⟩), .int .i64 n, .int .i64 width] w fun e w' => e = .returned (.tuple #[]) ∧ RbPost base p v (L ++ bitsOf j k) w w' := by
  subst ek ej
  exact rput_ok base p k j v L w h hb hw hn hl
set_option maxHeartbeats 1000000 in
theorem rvarw_ok (base p n : Nat) (v : Value) (L : List Nat) (w : World) (h : Rb w base p v L) (hb : base ≤ w.heap.size) (hn : Lt62 n) (hl : L.length + 6 * pieces n ≤ 1000000) :
    Calls Try.prog 38 #[.pointer (some ⟨p, 0, none⟩), .int .i64 n] w fun e w' => e = .returned (.tuple #[]) ∧ RbPost base p v (L ++ varL n) w w' := by
  go_enter Try.func38, Try.ntmps38
  go_wp2
  go_loopw [1] (fun x wr => ∃ (j : Nat) (M : List Nat) (v1 : Value), x = .int .i64 j ∧ M ++ varL j = varL n ∧ Lt62 j ∧ Rb wr base p v1 (L ++ M) ∧ Turn (· = p) w v wr v1) (fun x _ => (intOf x).toNat)
  case atStart => exact ⟨n, [], v, rfl, rfl, hn, by simpa using h, Turn.refl _ _ _⟩
  case round =>
    obtain ⟨j, M, v1, rfl, hM, hj, hW, hT⟩ := hrel
    have HM := Lib.hid hM
    clear hM
    have hlen : (L ++ M).length + (varL j).length = L.length + 6 * pieces n := by
      have := congrArg List.length HM.out
      rw [List.length_append, varL_length n] at this
      rw [List.length_append]; omega
    have HLn := Lib.hid hlen
    clear hlen
    have hvl := varL_length j
    have hpp := pieces_pos j
    have hb2 := Nat.le_trans hb hT.mod.size
    have HV := Lib.hid hvl
    clear hvl
    by_cases h32 : j < 32
    · have hge : ¬ (j : Int) > 31 := by omega
      go_wp2_with fail
      refine (rput_i base p 0 1 0 1 v1 (L ++ M) _ hW hb2 rfl rfl (by omega) (by unfold Lt63; omega) (by have := HLn.out; have := HV.out; omega)).mono ?_
      rintro e w1 ⟨rfl, v2, hW2, hT2⟩
      go_wp2_with fail
      refine (rput_i base p (j : Int) 5 j 5 v2 (L ++ M ++ bitsOf 1 0) _ hW2 (Nat.le_trans hb2 hT2.mod.size) rfl rfl (by omega) (by unfold Lt63; omega) (by have := HLn.out; have := HV.out; rw [List.length_append, bitsOf_length]; omega)).mono ?_
      rintro e w2 ⟨rfl, v3, hW3, hT3⟩
      go_wp2
      go_end0
      refine ⟨rfl, v3, ?_, (hT.trans hT2).trans hT3⟩
      have e1 : varL j = bitsOf 1 0 ++ bitsOf 5 j := by rw [varL_small h32]; rfl
      have e2 : L ++ varL n = L ++ M ++ bitsOf 1 0 ++ bitsOf 5 j := by rw [← HM.out, e1]; simp [List.append_assoc]
      rw [e2]
      exact hW3
    · have hge : (j : Int) > 31 := by omega
      have hjb : (j : Int) ≤ 4611686018427387903 := by unfold Lt62 at hj; omega
      have hmod : (j : Int) % 32 = ((j % 32 : Nat) : Int) := by omega
      obtain ⟨a, ha⟩ : ∃ a, a = j % 32 := ⟨_, rfl⟩
      rw [← ha] at hmod
      have HA := Lib.hid ha
      clear ha
      go_wp2_with fail
      refine (rput_i base p 1 1 1 1 v1 (L ++ M) _ hW hb2 rfl rfl (by omega) (by unfold Lt63; omega) (by have := HLn.out; have := HV.out; omega)).mono ?_
      rintro e w1 ⟨rfl, v2, hW2, hT2⟩
      go_wp2_with fail
      refine (rput_i base p _ 5 a 5 v2 (L ++ M ++ bitsOf 1 1) _ hW2 (Nat.le_trans hb2 hT2.mod.size) (by first | rfl | exact hmod) rfl (by omega) (by have := HA.out; unfold Lt63; omega) (by have := HLn.out; have := HV.out; rw [List.length_append, bitsOf_length]; omega)).mono ?_
      rintro e w2 ⟨rfl, v3, hW3, hT3⟩
      go_wp2
      go_roundw
      case rel =>
        have e1 : varL j = bitsOf 1 1 ++ (bitsOf 5 a ++ varL (j / 32)) := by rw [HA.out, varL_big (by omega) (by unfold Lt62 at hj; omega)]; rfl
        refine ⟨j / 32, M ++ bitsOf 1 1 ++ bitsOf 5 a, v3, by simp, ?_, by unfold Lt62 at *; omega, ?_, (hT.trans hT2).trans hT3⟩
        · rw [← HM.out, e1]; simp [List.append_assoc]
        · have e2 : L ++ (M ++ bitsOf 1 1 ++ bitsOf 5 a) = L ++ M ++ bitsOf 1 1 ++ bitsOf 5 a := by simp [List.append_assoc]
          rw [e2]
          exact hW3
      case measure => simp [intOf]; omega
theorem rvarw_i (base p k : Nat) (n : Int) (v : Value) (L : List Nat) (w : World) (h : Rb w base p v L) (hb : base ≤ w.heap.size) (en : n = k) (hn : Lt62 k) (hl : L.length + 6 * pieces k ≤ 1000000) :
    Calls Try.prog 38 #[.pointer (some ⟨p, 0, none⟩), .int .i64 n] w fun e w' => e = .returned (.tuple #[]) ∧ RbPost base p v (L ++ varL k) w w' := by
  subst en
  exact rvarw_ok base p k v L w h hb hn hl
theorem rintw_ok (base p : Nat) (n : Int) (v : Value) (L : List Nat) (w : World) (h : Rb w base p v L) (hb : base ≤ w.heap.size) (h1 : -1152921504606846976 ≤ n) (h2 : n ≤ 1152921504606846976) (hl : L.length + 6 * pieces (zig n) ≤ 1000000) :
    Calls Try.prog 34 #[.pointer (some ⟨p, 0, none⟩), .int .i64 n] w fun e w' => e = .returned (.tuple #[]) ∧ RbPost base p v (L ++ intL n) w w' := by
  have hz := zig_le h1 h2
  have HZ := Lib.hid hz
  clear hz
  have HL := Lib.hid hl
  clear hl
  by_cases h0 : n < 0
  · go_enter Try.func34, Try.ntmps34
    go_wp2_with fail
    refine (rvarw_i base p (zig n) _ v L _ h hb ?_ (by have := HZ.out; unfold Lt62; omega) HL.out).mono ?_
    · unfold zig; rw [if_pos h0]; omega
    rintro e w1 ⟨rfl, v2, hW2, hT2⟩
    go_wp2
    go_end0
    exact ⟨rfl, v2, hW2, hT2⟩
  · go_enter Try.func34, Try.ntmps34
    go_wp2_with fail
    refine (rvarw_i base p (zig n) _ v L _ h hb ?_ (by have := HZ.out; unfold Lt62; omega) HL.out).mono ?_
    · unfold zig; rw [if_neg (by omega)]; omega
    rintro e w1 ⟨rfl, v2, hW2, hT2⟩
    go_wp2
    go_end0
    exact ⟨rfl, v2, hW2, hT2⟩

end Go.Proofs.Ytefhmbmbhiehdaa
namespace Go.Proofs.Ytefhmbmbhiehdaa
open Go.ChangeShapes Go.WideShapes Go.ChangeAt Go.RowKit Go.BigFrame
open B
/-- the slice value v reads as the bytes l -/
def Rdb (w : World) (v : Value) (l : List Nat) : Prop := ∃ A cap, v = .slice A l.length cap ∧ (0 < l.length → ∃ b o, A = some ⟨b, o, none⟩ ∧ b < w.heap.size ∧ ∀ (j x : Nat), l[j]? = some x → w.cell? ⟨b, o + j, none⟩ = some (.int .u8 (x : Int)))
theorem Rdb.below {w w' : World} {v : Value} {l : List Nat} (h : Rdb w v l) (k : Below w.heap.size w w') : Rdb w' v l := by
  obtain ⟨A, cap, hv, hc⟩ := h
  refine ⟨A, cap, hv, fun h0 => ?_⟩
  obtain ⟨b, o, e, hb, h⟩ := hc h0
  exact ⟨b, o, e, Nat.lt_of_lt_of_le hb k.size, fun j x hx => (k.cell (p := ⟨b, o + j, none⟩) hb).trans (h j x hx)⟩
theorem Rdb.of_row {w : World} {base : Nat} {v : Value} {l : List Nat} (h : w.ownsRow base 5 1 v l.length (u8s l)) : Rdb w v l := by
  rcases Nat.eq_zero_or_pos l.length with h0 | h0
  · rcases h.2 with ⟨e, _⟩ | ⟨g, cap, cur, e, _⟩
    · exact ⟨none, 0, by rw [h0]; exact e, fun h => by omega⟩
    · exact ⟨_, cap, e, fun h => by omega⟩
  · obtain ⟨g, cap, e, _, h2, _, _, _, h6, _⟩ := row_at h h0
    exact ⟨_, cap, e, fun _ => ⟨g, 0, rfl, h2, fun j x hx => by rw [Nat.zero_add]; exact h6 j _ (by unfold u8s; rw [List.getElem?_map, hx]; rfl)⟩⟩
/-- bytes as a string -/
def strB (l : List Nat) : ByteArray := strOfNums (l.map fun n : Nat => (n : Int))
theorem conv_zero {P : Program} (w : World) (src e : TypeId) (hs : P.underlying src = some (.slice e)) (he : P.underlying e = some (.int .u8)) (p : Option Addr) (c : Nat) :
    ∀ dst, P.underlying dst = some .string → (convert src dst (.slice p 0 c)).run P w = .ok (.string ByteArray.empty) w := by
  intro dst hd
  rw [run_convert_bytes_string w src dst e _ 0 c hs he hd]
  cases p <;> simp [Conv.bytesToString, loadCells]
  all_goals rfl
theorem conv_rdb {w : World} {v : Value} {l : List Nat} (h : Rdb w v l) : (convert 29 9 v).run Try.prog w = .ok (.string (strB l)) w := by
  obtain ⟨A, cap, rfl, hc⟩ := h
  rcases Nat.eq_zero_or_pos l.length with h0 | h0
  · obtain rfl := List.eq_nil_of_length_eq_zero h0
    exact conv_zero w _ _ Try.underlying29 Try.underlying5 A cap _ Try.underlying9
  · obtain ⟨b, o, rfl, _, hcell⟩ := hc h0
    refine run_convert_bytes_arg w _ _ Try.underlying29 Try.underlying5 b o l.length cap (l.map fun n : Nat => (n : Int)) (by simp) (fun i hi => ?_) _ Try.underlying9
    rw [hcell i _ (List.getElem?_eq_getElem hi)]
    simp [List.getD, hi]
set_option maxHeartbeats 2000000 in
theorem rbytes_c (v : Value) (L : List Nat) (w : World) (h : Rdb w v L) (hbin : Bin L) (hlen : L.length ≤ 1000000) : Calls Try.prog 39 #[v] w fun e w' => ∃ v', e = .returned v' ∧ w'.ownsRow w.heap.size 5 1 v' (bytesOf L) (u8s (pack L)) ∧ Below w.heap.size w w' := by
  obtain ⟨A, cap, rfl, hc⟩ := h
  have HC := Lib.hid hc
  clear hc
  go_enter Try.func39, Try.ntmps39
  go_wp2
  go_loopw [3, 4] (fun ov i wr => ∃ (k : Nat) (oA : Option Addr) (oN oC : Nat), ov = .slice oA oN oC ∧ i = .int .i64 (8 * k : Nat) ∧ k ≤ bytesOf L ∧ k = oN ∧ wr.ownsRow w.heap.size 5 1 (.slice oA oN oC) k (u8s ((pack L).take k)) ∧ Below w.heap.size w wr) (fun _ i _ => L.length + 8 - (intOf i).toNat)
  case atStart => exact ⟨0, none, 0, 0, rfl, rfl, by omega, rfl, ⟨rfl, .inl ⟨rfl, rfl⟩⟩, Below.refl _ _⟩
  case round =>
    obtain ⟨k, oA, oN, oC, rfl, rfl, hk, rfl, hrow, hB⟩ := hrel
    obtain ⟨wo, rfl⟩ : ∃ wo : World, wo = wr := ⟨_, rfl⟩
    have hBs := hB.size
    obtain ⟨i, hi⟩ : ∃ i, i = 8 * k := ⟨_, rfl⟩
    rw [← hi]
    by_cases hlt : i < L.length
    · have hkb : k < bytesOf L := by unfold bytesOf; omega
      have htk := pack_take_succ hkb
      have hbl := byteAt_lt hbin k
      have hpv := pv_byte L k
      rw [← hi] at hpv
      have HI := Lib.hid hi
      have HTK := Lib.hid htk
      have HPV := Lib.hid hpv
      have HKB := Lib.hid hkb
      have HK := Lib.hid hk
      clear hi htk hpv hkb hk
      obtain ⟨b, o, rfl, hb, hcell⟩ := HC.out (by omega)
      have hcell2 : ∀ (j x : Nat), L[j]? = some x → wo.cell? ⟨b, o + j, none⟩ = some (.int .u8 (x : Int)) := fun j x hx => (hB.cell (p := ⟨b, o + j, none⟩) hb).trans (hcell j x hx)
      have HCELL := Lib.hid hcell2
      clear hcell hcell2
      go_wp2
      go_loop [5, 6] (fun x y => ∃ j : Nat, j ≤ 8 ∧ y = .int .i64 (i + j : Nat) ∧ x = .int .i64 (pv L i j : Nat)) (fun _ y => i + 8 - (intOf y).toNat)
      case atStart => exact ⟨0, by omega, rfl, rfl⟩
      case round =>
        obtain ⟨j, hj, rfl, rfl⟩ := hrel
        have hpl := pv_lt hbin i j
        have hp8 : 2 ^ j ≤ 2 ^ 8 := Nat.pow_le_pow_right (by omega) hj
        obtain ⟨y, hy⟩ : ∃ y, y = pv L i j := ⟨_, rfl⟩
        rw [← hy] at hpl
        rw [← hy]
        have hy256 : y ≤ 256 := by omega
        have HY := Lib.hid hy
        obtain ⟨q, hq⟩ : ∃ q, q = i + j := ⟨_, rfl⟩
        rw [← hq]
        by_cases h8 : j < 8
        · have h8' : (q : Int) < (i : Int) + 8 := by omega
          by_cases hin : q < L.length
          · have hx := List.getElem?_eq_getElem hin
            obtain ⟨x, hxx⟩ : ∃ x, x = L[q] := ⟨_, rfl⟩
            rw [← hxx] at hx
            have hx2 : x < 2 := hbin x (List.mem_of_getElem? hx)
            have hcx := HCELL.out q x hx
            have hsucc := pv_in (L := L) (i := i) (j := j) (x := x) (by rw [← hq]; exact hx)
            have HS := Lib.hid hsucc
            have HQ := Lib.hid hq
            clear hsucc hxx hx hq hpl hp8 hy
            go_wp2
            go_round
            case rel => exact ⟨j + 1, by omega, by have := HQ.out; go_num, by rw [HS.out, ← HY.out]; go_num⟩
            case measure => simp [intOf]; omega
          · have hsucc := pv_out (L := L) (i := i) (j := j) (by omega)
            have HS := Lib.hid hsucc
            have HQ := Lib.hid hq
            clear hsucc hq hpl hp8 hy
            have hin' : ¬ (q : Int) < (L.length : Int) := by omega
            go_wp2
            go_round
            case rel => exact ⟨j + 1, by omega, by have := HQ.out; go_num, by rw [HS.out, ← HY.out]; go_num⟩
            case measure => simp [intOf]; omega
        · obtain rfl : j = 8 := by omega
          have hyv : y = byteAt L k := by rw [HY.out]; exact HPV.out
          have h8' : ¬ (q : Int) < (i : Int) + 8 := by omega
          have hbl2 : y < 256 := by omega
          have HYV := Lib.hid hyv
          clear hyv hq hy hpl hp8
          obtain ⟨i0, hi, hz0, hz1, hz2⟩ := info_parts byteInfo
          have HI0 := Lib.hid hi
          have HZ0 := Lib.hid hz0
          have HZ1 := Lib.hid hz1
          have HZ2 := Lib.hid hz2
          clear hi hz0 hz1 hz2
          go_wp2_with (at_builtin; refine wpList_append_own_at _ rfl (.tmp 33) (.tmp 36) 29 rfl w.heap.size 5 i0 (.int .u8 0) 1 1 Try.underlying29 HI0.out HZ0.out HZ1.out HZ2.out rfl (by decide) (.slice oA k oC) k (u8s ((pack L).take k)) rfl (row_below hrow (balloc _ _)) ⟨wo.heap.size, 0, none⟩ 1 1 [.int .u8 (y : Int)] rfl rfl ?c1 ?c2 ?c3 ?c4 ?c5 ?_)
          case c2 => rfl
          case c3 => have := HK.out; unfold maxLen; unfold bytesOf at this; omega
          case c4 => have := HK.out; unfold bytesOf at this; omega
          case c5 => omega
          intro v' w6 hown hgrow _ hwhere
          obtain ⟨g, gc, hv1, _⟩ := row_at hown (by omega)
          subst hv1
          have hB6 : Below w.heap.size w w6 := (hB.trans ((balloc wo (.cells #[.int .u8 (y : Int)] 5)).mono hBs)).trans ((mod_grown hgrow).toBelow (by simp; omega) (fun b hb e => by have := (row_lt hrow e).2; omega))
          have HO := Lib.hid hown
          clear hown hgrow hwhere HI0 HZ0 HZ1 HZ2
          go_wp2
          go_roundw
          case rel => exact ⟨k + 1, _, _, _, rfl, by have := HI.out; go_num, by have := HKB.out; omega, rfl, by rw [HTK.out, u8s_append, ← HYV.out]; exact HO.out, hB6⟩
          case measure => simp [intOf]; omega
    · have hkb : k = bytesOf L := by unfold bytesOf at *; omega
      have HKB := Lib.hid hkb
      clear hkb hk hi
      have hlt' : ¬ (i : Int) < (L.length : Int) := by omega
      go_wp2
      go_ret
      refine ⟨_, rfl, ?_, hB⟩
      obtain rfl := HKB.out
      have := hrow
      rw [List.take_of_length_le (by rw [pack_length]; omega)] at this
      exact this
set_option maxHeartbeats 1000000 in
theorem ropen_c (v : Value) (l : List Nat) (w : World) (h : Rdb w v l) (h8 : ∀ b ∈ l, b < 256) (hlen : l.length ≤ 100000) : Calls Try.prog 79 #[v] w fun e w' => ∃ v', e = .returned v' ∧ w'.ownsRow w.heap.size 5 1 v' (openL l).length (u8s (openL l)) ∧ Below w.heap.size w w' := by
  obtain ⟨A, cap, rfl, hc⟩ := h
  have HC := Lib.hid hc
  clear hc
  go_enter Try.func79, Try.ntmps79
  go_wp2
  refine wp_fresh ?_
  intro w1 hb1
  have hR0 : Rb w1 w.heap.size w.heap.size (.slice none 0 0) [] := ⟨(Blk.at w _ _ _ rfl).below hb1, ⟨rfl, .inl ⟨rfl, rfl⟩⟩, by simp [Value.ownBlock], Bin.nil, by simp⟩
  have hB1 : Below w.heap.size w w1 := (balloc w _).trans (hb1.mono (by simp))
  clear hb1
  go_loopw [8] (fun i wr => ∃ (k : Nat) (v1 : Value), k ≤ l.length ∧ i = .int .i64 k ∧ Rb wr w.heap.size w.heap.size v1 (openL (l.take k)) ∧ Below w.heap.size w wr) (fun i _ => l.length - (intOf i).toNat)
  case atStart => exact ⟨0, _, by omega, rfl, hR0, hB1⟩
  case round =>
    obtain ⟨k, v1, hk, rfl, hR, hB⟩ := hrel
    have hBs := hB.size
    by_cases hlt : k < l.length
    · obtain ⟨b, o, rfl, hb, hcell⟩ := HC.out (by omega)
      have hx := List.getElem?_eq_getElem hlt
      obtain ⟨x, hxx⟩ : ∃ x, x = l[k] := ⟨_, rfl⟩
      rw [← hxx] at hx
      have hx8 : x < 256 := h8 x (List.mem_of_getElem? hx)
      have hc := (hB.cell (p := ⟨b, o + k, none⟩) hb).trans (hcell k x hx)
      have htk : openL (l.take (k + 1)) = openL (l.take k) ++ bitsOf 8 x := by
        rw [List.take_add_one, hx, openL_append]; simp [openL]
      have hol := openL_length (l.take k)
      have hol2 : (l.take k).length ≤ k := by simp; omega
      have HTK := Lib.hid htk
      have HOL := Lib.hid hol
      have HOL2 := Lib.hid hol2
      clear hxx hx hcell htk hol hol2
      go_wp2_with fail
      refine (rput_i w.heap.size w.heap.size (x : Int) 8 x 8 v1 _ _ hR hBs rfl rfl (by omega) (by unfold Lt63; omega) (by have := HOL.out; have := HOL2.out; omega)).mono ?_
      rintro e w2 ⟨rfl, v2, hR2, hT2⟩
      go_wp2
      go_roundw
      case rel =>
        refine ⟨k + 1, v2, by omega, by go_num, by rw [HTK.out]; exact hR2, hB.trans (hT2.mod.toBelow hBs fun b hb e => ?_)⟩
        rcases e with e | e
        · omega
        · have := (row_lt hR.row e).2; omega
      case measure => first | (simp [intOf]; done) | (simp [intOf]; omega)
    · obtain rfl : k = l.length := by omega
      rw [List.take_of_length_le (Nat.le_refl _)] at hR
      obtain ⟨z0, c0, f0⟩ := id hR.blk
      have k0 : wr.cell? ⟨w.heap.size, 0, none⟩ = some v1 := c0 0
      clear c0
      go_wp2
      go_ret
      exact ⟨_, rfl, hR.row, hB⟩

end Go.Proofs.Ytefhmbmbhiehdaa
namespace Go.Proofs.Ytefhmbmbhiehdaa.B
/-! ### marks -/
/-- one of a writer, or a reader: what (0 Put, 1 Var, else Int), a number, a width -/
structure Mk where
  what : Int
  n : Int
  width : Int
/-- its bits, if it may be -/
def enc (m : Mk) : Option (List Nat) :=
  if m.what = 0 then (if 0 ≤ m.width ∧ m.width ≤ 62 ∧ 0 ≤ m.n ∧ m.n < 2 ^ m.width.toNat then some (bitsOf m.width.toNat m.n.toNat) else none)
  else if m.what = 1 then (if 0 ≤ m.n ∧ m.n < 4611686018427387904 then some (varL m.n.toNat) else none)
  else (if -1152921504606846976 ≤ m.n ∧ m.n ≤ 1152921504606846976 then some (intL m.n) else none)
end Go.Proofs.Ytefhmbmbhiehdaa.B
namespace Go.Proofs.Ytefhmbmbhiehdaa
open Go.ChangeShapes Go.WideShapes Go.ChangeAt Go.RowKit Go.Deep
section
variable {H : Type} {enc : TypeId × Value → H} {P : Program} {w : World} {base : Nat} {spare : Nat → Bool} {held : Bool}
/-- a type that is a number, or a struct of such types -/
def numsB (P : Program) : Nat → TypeId → Bool
  | 0, _ => false
  | k + 1, t => match P.underlying t with
    | some (.int .i64) => P.cellsOf t == 1
    | some (.struct fs) => (List.range (P.cellsOf t)).all fun i => fs.toList.any fun f => decide (f.offset ≤ i) && (decide (i < f.offset + P.cellsOf f.type) && numsB P k f.type)
    | _ => false
def isNum (c : Option Value) : Prop := ∃ n : Int, c = some (.int .i64 n) ∧ -9223372036854775808 ≤ n ∧ n ≤ 9223372036854775807
theorem num_wf {n : Int} (h : (Lit.int .i64 n).wf = true) : -9223372036854775808 ≤ n ∧ n ≤ 9223372036854775807 := by
  simp [Lit.wf, IntKind.min, IntKind.max, IntKind.signed, IntKind.bits] at h
  exact h
theorem nums_cells : ∀ (k : Nat) (t : TypeId) (fuel : Nat) (cs : List Value) (x : DataW H × List MemPlace), numsB P k t = true → DataW.trod enc P w base spare held fuel t cs = some x → ∀ i, i < P.cellsOf t → isNum cs[i]? := by
  intro k
  induction k with
  | zero => intro t fuel cs x h; simp [numsB] at h
  | succ k ih =>
    intro t fuel cs x h ht i hi
    unfold numsB at h
    split at h
    · rename_i hu
      obtain ⟨n, rfl, _, hw⟩ := DataW.trod_int hu ht
      have h1 : P.cellsOf t = 1 := by simpa using h
      obtain rfl : i = 0 := by omega
      exact ⟨n, rfl, num_wf hw⟩
    · rename_i fs hu
      obtain ⟨xs, n, _, _, hcl, hxl, hf⟩ := DataW.trod_struct hu ht
      rw [List.all_eq_true] at h
      have h2 := h i (List.mem_range.2 hi)
      rw [List.any_eq_true] at h2
      obtain ⟨f, hmem, hcond⟩ := h2
      simp only [Bool.and_eq_true, decide_eq_true_eq] at hcond
      obtain ⟨h3, h4, h5⟩ := hcond
      obtain ⟨j, hj, hfj⟩ := List.mem_iff_getElem.1 hmem
      have hj2 : fs[j]? = some f := by rw [← hfj]; simp at hj ⊢
      have h6 := hf j f hj2
      have hjx : j < xs.length := by rw [hxl]; exact (Array.getElem?_eq_some_iff.1 hj2).1
      rw [List.getElem?_eq_getElem hjx] at h6
      have h7 := ih f.type n _ _ h5 h6 (i - f.offset) (by omega)
      rw [List.getElem?_take, if_pos (by omega), List.getElem?_drop, show f.offset + (i - f.offset) = i by omega] at h7
      exact h7
    · cases h
theorem trodAll_at : ∀ (ts : List TypeId) (vs : List Value) (ds : List (DataW H)) (ps : List MemPlace), DataW.TrodAll enc P w base spare held ts vs ds ps → ∀ (j : Nat) (t : TypeId) (v : Value), ts[j]? = some t → vs[j]? = some v →
    ∃ d p, DataW.Trod enc P w base spare held t v d p := by
  intro ts
  induction ts with
  | nil => intro vs ds ps h j t v ht; simp at ht
  | cons t0 ts ih =>
    intro vs ds ps h j t v ht hv
    obtain ⟨v0, vs', d, ds', p, q, rfl, rfl, rfl, h1, h2⟩ := trodAll_cons h
    cases j with
    | zero =>
      simp at ht hv
      subst ht hv
      exact ⟨d, p, h1⟩
    | succ j => exact ih _ _ _ h2 j t v (by simpa using ht) (by simpa using hv)
theorem spot_none {a : Addr} {v : Value} (h : w.cell? a = some v) : a = ⟨a.block, a.off, none⟩ := by
  obtain ⟨b, o, s⟩ := a
  unfold World.cell? at h
  simp only at h
  split at h
  · cases s with
    | none => rfl
    | some s => simp at h
  · cases h
theorem lt_of_cell {a : Addr} {v : Value} (h : w.cell? a = some v) : a.block < w.heap.size := by
  rcases Nat.lt_or_ge a.block w.heap.size with hl | hl
  · exact hl
  · unfold World.cell? at h
    rw [Array.getElem?_eq_none hl] at h
    cases h
theorem add_plain (b o n : Nat) : (⟨b, o, none⟩ : Addr).add n = ⟨b, o + n, none⟩ := by
  unfold Addr.add
  split
  · rename_i h; subst h; rfl
  · rfl
theorem slice_of_okv {r : Reach} {b : Nat} {t e : TypeId} {v : Value} (ht : P.underlying t = some (.slice e)) (h : Value.okWide P w r b t v) : ∃ A n cap, v = .slice A n cap := by
  unfold Value.okWide at h
  rw [ht] at h
  unfold Cell.okWide at h
  rw [ht] at h
  cases v <;> simp [Cell.ok, ht] at h
  exact ⟨_, _, _, rfl⟩
/-- a slice of structs of numbers -/
theorem open_rows {t e : TypeId} {v : Value} {d : DataW H} {p : List MemPlace} (k c : Nat) (ht : P.underlying t = some (.slice e)) (hn : numsB P k e = true) (hc : P.cellsOf e = c) (hc0 : 0 < c) (hv : ∃ A n cap, v = .slice A n cap) (h : DataW.Trod enc P w base spare held t v d p) :
    ∃ (A : Option Addr) (n cap : Nat) (M : Nat → Nat → Int), v = .slice A n cap ∧ n ≤ maxLen ∧ Reads w A n c M ∧ ∀ i j, -9223372036854775808 ≤ M i j ∧ M i j ≤ 9223372036854775807 := by
  obtain ⟨fuel, hf⟩ := h
  obtain ⟨A0, n0, c0, rfl⟩ := hv
  rcases open_slice ht hf with ⟨h0, _⟩ | ⟨a, len, cap, m, n, D, Pl, hcs, _, hl, hm, hmm, _, hi⟩
  · simp [Value.cells] at h0
    obtain ⟨rfl, rfl, rfl⟩ := h0
    exact ⟨none, 0, 0, fun _ _ => 0, rfl, by unfold maxLen; omega, fun h => absurd h (by omega), fun _ _ => by dsimp only; omega⟩
  · simp [Value.cells] at hcs
    obtain ⟨e1, e2, e3⟩ := hcs
    subst e1 e2 e3
    have key : ∀ i j, i < n0 → j < c → isNum (w.cell? (a.add (i * c + j))) := by
      intro i j hil hjc
      have him : i < m := by rw [hmm]; split <;> omega
      obtain ⟨cs', hcs', htr⟩ := hi i him
      obtain ⟨_, hcl, hat⟩ := World.cells?_some hcs'
      have h1 := nums_cells k e n cs' _ hn htr j (by omega)
      rw [hc] at hat
      have h2 := hat j hjc
      rw [← h2, Go.Deep.add_add] at h1
      exact h1
    rcases Nat.eq_zero_or_pos n0 with h0 | h0
    · subst h0
      exact ⟨_, 0, c0, fun _ _ => 0, rfl, by omega, fun h => absurd h (by omega), fun _ _ => by dsimp only; omega⟩
    · have ha : a = ⟨a.block, a.off, none⟩ := by
        obtain ⟨x, hx, _⟩ := key 0 0 h0 hc0
        simp only [Nat.zero_mul, Nat.add_zero] at hx
        exact spot_none hx
      have hlt : a.block < w.heap.size := by
        obtain ⟨x, hx, _⟩ := key 0 0 h0 hc0
        simp only [Nat.zero_mul, Nat.add_zero] at hx
        exact lt_of_cell hx
      refine ⟨_, n0, c0, fun i j => match w.cell? (a.add (i * c + j)) with | some (.int .i64 n) => if -9223372036854775808 ≤ n ∧ n ≤ 9223372036854775807 then n else 0 | _ => 0, rfl, by omega, fun _ => ⟨a.block, a.off, by rw [← ha], hlt, ?_⟩, ?_⟩
      · intro i hil j hjc
        obtain ⟨x, hx, hb⟩ := key i j hil hjc
        simp only [hx]
        rw [if_pos hb, ← add_plain, ← ha]
        exact hx
      · intro i j
        dsimp only
        split
        · split <;> omega
        · omega
end
end Go.Proofs.Ytefhmbmbhiehdaa
namespace Go.Proofs.Ytefhmbmbhiehdaa
open Go.ChangeShapes Go.WideShapes Go.ChangeAt Go.RowKit Go.Deep
section
variable {H : Type} {enc : TypeId × Value → H} {P : Program} {w : World} {base : Nat} {spare : Nat → Bool} {held : Bool}
theorem u8_wf {n : Int} (h : (Lit.int .u8 n).wf = true) : 0 ≤ n ∧ n ≤ 255 := by
  simp [Lit.wf, IntKind.min, IntKind.max, IntKind.signed, IntKind.bits] at h
  exact h
/-- a slice of bytes -/
theorem open_bytes {t e : TypeId} {v : Value} {d : DataW H} {p : List MemPlace} (ht : P.underlying t = some (.slice e)) (hu : P.underlying e = some (.int .u8)) (hc : P.cellsOf e = 1) (hv : ∃ A n cap, v = .slice A n cap) (h : DataW.Trod enc P w base spare held t v d p) :
    ∃ l : List Nat, Src w v l ∧ (∀ b ∈ l, b < 256) ∧ l.length ≤ maxLen := by
  obtain ⟨fuel, hf⟩ := h
  obtain ⟨A0, n0, c0, rfl⟩ := hv
  rcases open_slice ht hf with ⟨h0, _⟩ | ⟨a, len, cap, m, n, D, Pl, hcs, _, hl, hm, hmm, _, hi⟩
  · simp [Value.cells] at h0
    obtain ⟨rfl, rfl, rfl⟩ := h0
    exact ⟨[], .inl ⟨rfl, rfl⟩, by simp, by simp⟩
  · simp [Value.cells] at hcs
    obtain ⟨e1, e2, e3⟩ := hcs
    subst e1 e2 e3
    have key : ∀ i, i < n0 → ∃ x : Nat, w.cell? (a.add i) = some (.int .u8 (x : Int)) ∧ x < 256 := by
      intro i hil
      have him : i < m := by rw [hmm]; split <;> omega
      obtain ⟨cs', hcs', htr⟩ := hi i him
      obtain ⟨_, hcl, hat⟩ := World.cells?_some hcs'
      obtain ⟨x, rfl, _, hw⟩ := DataW.trod_int hu htr
      rw [hc] at hat
      have h2 := hat 0 (by omega)
      rw [Go.Deep.add_add] at h2
      obtain ⟨w1, w2⟩ := u8_wf hw
      refine ⟨x.toNat, ?_, by omega⟩
      simp only [Nat.mul_one, Nat.add_zero] at h2
      rw [h2, show ((x.toNat : Nat) : Int) = x by omega]
      rfl
    refine ⟨(List.range n0).map fun i => match w.cell? (a.add i) with | some (.int .u8 x) => x.toNat | _ => 0, .inr ⟨a, c0, by simp, ?_⟩, ?_, by simp; omega⟩
    · intro j u hj
      unfold u8s at hj
      simp only [List.getElem?_map, Option.map_map, Option.map_eq_some_iff] at hj
      obtain ⟨i, hi1, hi2⟩ := hj
      have hlt : j < n0 := by
        have := (List.getElem?_eq_some_iff.1 hi1).1
        simpa using this
      have hij : i = j := by
        have := (List.getElem?_eq_some_iff.1 hi1).2
        simpa using this.symm
      subst hij
      obtain ⟨x, hx, _⟩ := key i hlt
      rw [← hi2]
      simp only [Function.comp, hx]
      simp
    · intro b hb
      obtain ⟨i, hi1, rfl⟩ := List.mem_map.1 hb
      obtain ⟨x, hx, hx2⟩ := key i (by simpa using hi1)
      simp only [hx]
      simpa using hx2
end
theorem Rdb.of_src {w : World} {v : Value} {l : List Nat} (h : Src w v l) : Rdb w v l := by
  rcases h with ⟨rfl, rfl⟩ | ⟨ad, cap, rfl, hc⟩
  · exact ⟨none, 0, rfl, fun h => absurd h (by simp)⟩
  · refine ⟨some ad, cap, rfl, fun h0 => ?_⟩
    obtain ⟨x, hx⟩ : ∃ x, l[0]? = some x := ⟨_, List.getElem?_eq_getElem h0⟩
    have h1 := hc 0 (.int .u8 (x : Int)) (by unfold u8s; rw [List.getElem?_map, hx]; rfl)
    have e0 : ad.add 0 = ad := by unfold Addr.add; exact if_pos rfl
    rw [e0] at h1
    have hs := spot_none h1
    refine ⟨ad.block, ad.off, by rw [← hs], lt_of_cell h1, fun j y hy => ?_⟩
    have h2 := hc j (.int .u8 (y : Int)) (by unfold u8s; rw [List.getElem?_map, hy]; rfl)
    rw [hs, add_plain] at h2
    exact h2
end Go.Proofs.Ytefhmbmbhiehdaa
namespace Go.Proofs.Ytefhmbmbhiehdaa
open Go.ChangeShapes Go.WideShapes Go.ChangeAt Go.RowKit Go.BigFrame
open B
theorem wr_new {w w1 : World} {base p : Nat} {T : TypeId} (hp : p = w.heap.size) (h : Below (w.alloc (.cells #[.slice none 0 0, .int .i64 0] T)).heap.size (w.alloc (.cells #[.slice none 0 0, .int .i64 0] T)) w1) : Wr w1 base p (.slice none 0 0) [] :=
  ⟨(Blk.at w p #[.slice none 0 0, .int .i64 0] T hp).below h, ⟨rfl, .inl ⟨rfl, rfl⟩⟩, by simp [Value.ownBlock], Bin.nil, by simp⟩
theorem calls_anew {P : Program} {f : FuncId} {args : Array Value} {w : World} {Q : Ending → World → Prop} (h : ∀ w', Below w.heap.size w w' → Calls P f args w' Q) : Calls P f args w Q := h w (Below.refl _ _)
theorem wr_below {w w' : World} {base p : Nat} {v v' : Value} {L : List Nat} (h : Wr w base p v L) (hp : base ≤ p) (hb : base ≤ w.heap.size) (k : Turn (· = p) w v w' v') : Below base w w' :=
  k.mod.toBelow hb fun b hlt e => by
    rcases e with e | e
    · omega
    · have := (row_lt h.row e).2; omega
theorem rb_below {w w' : World} {base p : Nat} {v v' : Value} {L : List Nat} (h : Rb w base p v L) (hp : base ≤ p) (hb : base ≤ w.heap.size) (k : Turn (· = p) w v w' v') : Below base w w' :=
  k.mod.toBelow hb fun b hlt e => by
    rcases e with e | e
    · omega
    · have := (row_lt h.row e).2; omega
theorem wr_mod {w w' : World} {base p : Nat} {v : Value} {L : List Nat} {S : Nat → Prop} (h : Wr w base p v L) (k : Mod S w w') (h1 : ¬ S p) (h2 : ∀ b, v.ownBlock = some b → ¬ S b) : Wr w' base p v L :=
  ⟨h.blk.mod k h1, row_mod h.row k h2, h.ne, h.bin, h.lim⟩
theorem wr_of_below {w w' : World} {base p : Nat} {v : Value} {L : List Nat} (h : Wr w base p v L) (k : Below w.heap.size w w') : Wr w' base p v L :=
  wr_mod h (S := fun _ => False) (Mod.of_below k) id fun _ _ => id
theorem rb_mod {w w' : World} {base p : Nat} {v : Value} {L : List Nat} {S : Nat → Prop} (h : Rb w base p v L) (k : Mod S w w') (h1 : ¬ S p) (h2 : ∀ b, v.ownBlock = some b → ¬ S b) : Rb w' base p v L :=
  ⟨h.blk.mod k h1, row_mod h.row k h2, h.ne, h.bin, h.lim⟩
theorem rb_of_below {w w' : World} {base p : Nat} {v : Value} {L : List Nat} (h : Rb w base p v L) (k : Below w.heap.size w w') : Rb w' base p v L :=
  rb_mod h (S := fun _ => False) (Mod.of_below k) id fun _ _ => id
theorem rb_new {w w1 : World} {base p : Nat} {T : TypeId} (hp : p = w.heap.size) (h : Below (w.alloc (.cells #[.slice none 0 0] T)).heap.size (w.alloc (.cells #[.slice none 0 0] T)) w1) : Rb w1 base p (.slice none 0 0) [] :=
  ⟨(Blk.at w p #[.slice none 0 0] T hp).below h, ⟨rfl, .inl ⟨rfl, rfl⟩⟩, by simp [Value.ownBlock], Bin.nil, by simp⟩
theorem row_form {w : World} {base : Nat} {e : TypeId} {v : Value} {n : Nat} {xs : List Value} (h : w.ownsRow base e 1 v n xs) : ∃ A cap, v = .slice A n cap := by
  rcases h.2 with ⟨e, h0⟩ | ⟨g, cap, cur, e, _⟩
  · exact ⟨none, 0, by rw [h0]; exact e⟩
  · exact ⟨_, cap, e⟩
/-- a writer at P with the bits L, the document's at Q with R -/
structure St2 (B P Q : Nat) (w : World) (v rv : Value) (L R : List Nat) : Prop where
  wr : Wr w B P v L
  rb : Rb w B Q rv R
  pq : P ≠ Q
  d1 : v.ownBlock ≠ some Q
  d2 : rv.ownBlock ≠ some P
  d3 : ∀ b, v.ownBlock = some b → rv.ownBlock ≠ some b
section
variable {B P Q : Nat} {w w' w1 : World} {v v' rv rv' : Value} {L L' R b : List Nat}
theorem St2.mod {S : Nat → Prop} (h : St2 B P Q w v rv L R) (k : Mod S w w') (h1 : ¬ S P) (h2 : ¬ S Q) (h3 : ∀ b, v.ownBlock = some b → ¬ S b) (h4 : ∀ b, rv.ownBlock = some b → ¬ S b) : St2 B P Q w' v rv L R :=
  ⟨wr_mod h.wr k h1 h3, rb_mod h.rb k h2 h4, h.pq, h.d1, h.d2, h.d3⟩
theorem St2.below (h : St2 B P Q w v rv L R) (k : Below w.heap.size w w') : St2 B P Q w' v rv L R := h.mod (S := fun _ => False) (Mod.of_below k) id id (fun _ _ => id) fun _ _ => id
/-- all blocks of it are there -/
theorem St2.lt (h : St2 B P Q w v rv L R) : P < w.heap.size ∧ Q < w.heap.size ∧ (∀ b, v.ownBlock = some b → b < w.heap.size) ∧ ∀ b, rv.ownBlock = some b → b < w.heap.size :=
  ⟨h.wr.blk.lt, h.rb.blk.lt, fun _ hb => (row_lt h.wr.row hb).1, fun _ hb => (row_lt h.rb.row hb).1⟩
theorem St2.far (h : St2 B P Q w v rv L R) {g : Nat} (hg : w.heap.size ≤ g) {w1 w2 : World} (k1 : Below w.heap.size w w1) (k2 : Mod (· = g) w1 w2) : St2 B P Q w2 v rv L R := by
  obtain ⟨h1, h2, h3, h4⟩ := h.lt
  exact (h.below k1).mod k2 (by omega) (by omega) (fun b hb e => by have := h3 b hb; omega) (fun b hb e => by have := h4 b hb; omega)
end
end Go.Proofs.Ytefhmbmbhiehdaa
namespace Go.Proofs.Ytefhmbmbhiehdaa
open Go.ChangeShapes Go.WideShapes Go.ChangeAt Go.RowKit Go.BigFrame
open B
/-- a writer at block p, all of whose memory is from p on -/
def Wo (w : World) (p : Nat) (L : List Nat) : Prop := ∃ v, Wr w p p v L
/-- the document's -/
def Ro (w : World) (p : Nat) (L : List Nat) : Prop := ∃ v, Rb w p p v L
section
variable {w w' w1 : World} {p : Nat} {L : List Nat}
theorem Wo.lt (h : Wo w p L) : p < w.heap.size := by obtain ⟨v, h⟩ := h; exact h.blk.lt
theorem Ro.lt (h : Ro w p L) : p < w.heap.size := by obtain ⟨v, h⟩ := h; exact h.blk.lt
theorem Wo.bin (h : Wo w p L) : Bin L := by obtain ⟨v, h⟩ := h; exact h.bin
theorem Wo.lim (h : Wo w p L) : L.length ≤ 32000 := by obtain ⟨v, h⟩ := h; exact h.lim
theorem Ro.bin (h : Ro w p L) : Bin L := by obtain ⟨v, h⟩ := h; exact h.bin
theorem Ro.lim (h : Ro w p L) : L.length ≤ 1000000 := by obtain ⟨v, h⟩ := h; exact h.lim
theorem Wo.below (h : Wo w p L) (k : Below w.heap.size w w') : Wo w' p L := by obtain ⟨v, h⟩ := h; exact ⟨v, wr_of_below h k⟩
theorem Ro.below (h : Ro w p L) (k : Below w.heap.size w w') : Ro w' p L := by obtain ⟨v, h⟩ := h; exact ⟨v, rb_of_below h k⟩
/-- what is written below p is no matter -/
theorem Wo.low {S : Nat → Prop} (h : Wo w p L) (k : Mod S w w') (hs : ∀ b, S b → b < p) : Wo w' p L := by
  obtain ⟨v, h⟩ := h
  exact ⟨v, wr_mod h k (fun e => Nat.lt_irrefl _ (hs _ e)) (fun b hb e => by have := (row_lt h.row hb).2; have := hs b e; omega)⟩
theorem Ro.low {S : Nat → Prop} (h : Ro w p L) (k : Mod S w w') (hs : ∀ b, S b → b < p) : Ro w' p L := by
  obtain ⟨v, h⟩ := h
  exact ⟨v, rb_mod h k (fun e => Nat.lt_irrefl _ (hs _ e)) (fun b hb e => by have := (row_lt h.row hb).2; have := hs b e; omega)⟩
theorem wo_new {T : TypeId} (hp : p = w.heap.size) (h : Below (w.alloc (.cells #[.slice none 0 0, .int .i64 0] T)).heap.size (w.alloc (.cells #[.slice none 0 0, .int .i64 0] T)) w1) : Wo w1 p [] := ⟨_, wr_new hp h⟩
theorem ro_new {T : TypeId} (hp : p = w.heap.size) (h : Below (w.alloc (.cells #[.slice none 0 0] T)).heap.size (w.alloc (.cells #[.slice none 0 0] T)) w1) : Ro w1 p [] := ⟨_, rb_new hp h⟩
end
/-- behind a write -/
def WoPost (p : Nat) (L : List Nat) (w w' : World) : Prop := Wo w' p L ∧ Below p w w'
def RoPost (p : Nat) (L : List Nat) (w w' : World) : Prop := Ro w' p L ∧ Below p w w'
theorem put_o (p : Nat) (n width : Int) (k j : Nat) (L : List Nat) (w : World) (h : Wo w p L) (ek : n = k) (ej : width = j) (hw : j ≤ 62) (hn : k < 2 ^ j) (hl : L.length + j ≤ 32000) :
    Calls Try.prog 107 #[.pointer (some ⟨p, 0, none⟩), .int .i64 n, .int .i64 width] w fun e w' => e = .returned .nilIface ∧ WoPost p (L ++ bitsOf j k) w w' := by
  have hlt := Nat.le_of_lt h.lt
  obtain ⟨v, h⟩ := h
  exact (put_i p p n width k j v L w h hlt ek ej hw hn hl).mono fun e w' ⟨he, v', hW, hT⟩ => ⟨he, ⟨v', hW⟩, wr_below h (Nat.le_refl _) hlt hT⟩
theorem var_o (p k : Nat) (n : Int) (L : List Nat) (w : World) (h : Wo w p L) (en : n = k) (hn : k < 4611686018427387904) (hl : L.length + 6 * pieces k ≤ 32000) :
    Calls Try.prog 106 #[.pointer (some ⟨p, 0, none⟩), .int .i64 n] w fun e w' => e = .returned .nilIface ∧ WoPost p (L ++ varL k) w w' := by
  have hlt := Nat.le_of_lt h.lt
  obtain ⟨v, h⟩ := h
  exact (var_i p p k n v L w h hlt en hn hl).mono fun e w' ⟨he, v', hW, hT⟩ => ⟨he, ⟨v', hW⟩, wr_below h (Nat.le_refl _) hlt hT⟩
theorem bytes_o (p : Nat) (L : List Nat) (w : World) (h : Wo w p L) : Calls Try.prog 108 #[.pointer (some ⟨p, 0, none⟩)] w (BytesPost L w) := by
  obtain ⟨v, h⟩ := h
  exact bytes_c p p v L w h
theorem rput_o (p : Nat) (n width : Int) (k j : Nat) (L : List Nat) (w : World) (h : Ro w p L) (ek : n = k) (ej : width = j) (hw : j ≤ 62) (hn : Lt63 k) (hl : L.length + j ≤ 1000000) :
    Calls Try.prog 36 #[.pointer (some ⟨p, 0, none⟩), .int .i64 n, .int .i64 width] w fun e w' => e = .returned (.tuple #[]) ∧ RoPost p (L ++ bitsOf j k) w w' := by
  have hlt := Nat.le_of_lt h.lt
  obtain ⟨v, h⟩ := h
  exact (rput_i p p n width k j v L w h hlt ek ej hw hn hl).mono fun e w' ⟨he, v', hW, hT⟩ => ⟨he, ⟨v', hW⟩, rb_below h (Nat.le_refl _) hlt hT⟩
theorem rvar_o (p k : Nat) (n : Int) (L : List Nat) (w : World) (h : Ro w p L) (en : n = k) (hn : Lt62 k) (hl : L.length + 6 * pieces k ≤ 1000000) :
    Calls Try.prog 38 #[.pointer (some ⟨p, 0, none⟩), .int .i64 n] w fun e w' => e = .returned (.tuple #[]) ∧ RoPost p (L ++ varL k) w w' := by
  have hlt := Nat.le_of_lt h.lt
  obtain ⟨v, h⟩ := h
  exact (rvarw_i p p k n v L w h hlt en hn hl).mono fun e w' ⟨he, v', hW, hT⟩ => ⟨he, ⟨v', hW⟩, rb_below h (Nat.le_refl _) hlt hT⟩
/-- the slice that block p holds -/
theorem ro_cell {w : World} {p : Nat} {L : List Nat} (h : Ro w p L) : ∃ A c, w.cell? ⟨p, 0, none⟩ = some (.slice A L.length c) ∧ Rdb w (.slice A L.length c) L ∧ w.ownsRow p 5 1 (.slice A L.length c) L.length (u8s L) := by
  obtain ⟨v, h⟩ := h
  obtain ⟨A, c, rfl⟩ := row_form h.row
  exact ⟨A, c, h.blk.cell 0, Rdb.of_row h.row, h.row⟩
/-- the bytes of bits, as a slice of the call's own -/
def BsOf (w : World) (base : Nat) (v : Value) (l : List Nat) : Prop := w.ownsRow base 5 1 v l.length (u8s l)
theorem rbytes_o (v : Value) (L : List Nat) (w : World) (h : Rdb w v L) (hbin : Bin L) (hlen : L.length ≤ 1000000) : Calls Try.prog 39 #[v] w fun e w' => ∃ A c, e = .returned (.slice A (pack L).length c) ∧ BsOf w' w.heap.size (.slice A (pack L).length c) (pack L) ∧ Below w.heap.size w w' := by
  refine (rbytes_c v L w h hbin hlen).mono fun e w' ⟨v', he, hr, hb⟩ => ?_
  rw [← pack_length] at hr
  obtain ⟨A, c, rfl⟩ := row_form hr
  exact ⟨A, c, he, hr, hb⟩
theorem wbytes_o (p : Nat) (L : List Nat) (w : World) (h : Wo w p L) : Calls Try.prog 108 #[.pointer (some ⟨p, 0, none⟩)] w fun e w' => ∃ A c, e = .returned (.slice A (pack L).length c) ∧ BsOf w' w.heap.size (.slice A (pack L).length c) (pack L) ∧ (Value.slice A (pack L).length c) ≠ .slice none 0 0 ∧ Below w.heap.size w w' := by
  refine (bytes_o p L w h).mono fun e w' ⟨v, he, hB, hb⟩ => ?_
  obtain ⟨A, c, rfl⟩ := row_form hB.row
  exact ⟨A, c, he, hB.row, hB.nn, hb⟩
theorem varL_le (n : Nat) : (varL n).length ≤ 78 := by rw [varL_length]; have := pieces_bd n; omega
theorem intL_le (n : Int) : (intL n).length ≤ 78 := varL_le _
theorem pieces6 (n : Nat) : 6 * pieces n ≤ 78 := by have := pieces_bd n; omega
end Go.Proofs.Ytefhmbmbhiehdaa
namespace Go.Proofs.Ytefhmbmbhiehdaa
open Go.ChangeShapes Go.WideShapes Go.ChangeAt Go.RowKit Go.BigFrame
open B
/-- the reader of package wire, at block q, of the reader at p -/
structure RR (w : World) (base p q : Nat) (rv : Value) (l : List Nat) (a : Nat) (bad : Bool) : Prop where
  rd : Rd w base p rv l a
  blk : Blk w q #[.pointer (some ⟨p, 0, none⟩), .bool bad]
  pq : q ≠ p
  d : rv.ownBlock ≠ some q
theorem RR.below {w w' : World} {base p q a : Nat} {rv : Value} {l : List Nat} {bad : Bool} (h : RR w base p q rv l a bad) (k : Below w.heap.size w w') : RR w' base p q rv l a bad := ⟨h.rd.below k, h.blk.below k, h.pq, h.d⟩
theorem RR.mod {w w' : World} {base p q a : Nat} {rv : Value} {l : List Nat} {bad : Bool} {S : Nat → Prop} (h : RR w base p q rv l a bad) (k : Mod S w w') (h1 : ¬ S p) (h2 : ¬ S q) (h3 : ∀ b, rv.ownBlock = some b → ¬ S b) : RR w' base p q rv l a bad :=
  ⟨h.rd.mod k h1 h3, h.blk.mod k h2, h.pq, h.d⟩
theorem RR.next {w w1 : World} {base p q a a' : Nat} {rv : Value} {l : List Nat} {bad : Bool} (h : RR w base p q rv l a bad) (hR : Rd w1 base p rv l a') (k : Mod (· = p) w w1) : RR w1 base p q rv l a' bad := ⟨hR, h.blk.mod k h.pq, h.pq, h.d⟩
theorem RR.setBad {w : World} {base p q a : Nat} {rv : Value} {l : List Nat} {bad : Bool} (h : RR w base p q rv l a bad) (x : Bool) : RR (w.setCell ⟨q, 1, none⟩ (.bool x)) base p q rv l a x := by
  refine ⟨h.rd.mod (S := (· = q)) ((Mod.refl _ _).set (.inl rfl)) (fun e => h.pq e.symm) (fun b hb e => h.d (e ▸ hb)), blk_set2 h.blk, h.pq, h.d⟩
/-- what a read leaves: the number, the place, whether it was not so -/
def RdNum (base p q : Nat) (rv : Value) (l : List Nat) (n : Int) (a' : Nat) (C : Prop) (w : World) (e : Ending) (w' : World) : Prop :=
  ∃ bad' : Bool, e = .returned (.int .i64 n) ∧ RR w' base p q rv l a' bad' ∧ Mod (fun b => b = p ∨ b = q) w w' ∧ (bad' = true ↔ C)
theorem rdNum {base p q : Nat} {rv : Value} {l : List Nat} {n : Int} {a' : Nat} {C : Prop} {w w1 : World} {bad x : Bool} {e : Ending} (he : e = .returned (.int .i64 n)) (h : RR w1 base p q rv l a' bad) (k : Mod (· = p) w w1) (hx : x = true ↔ C) : RdNum base p q rv l n a' C w e (w1.setCell ⟨q, 1, none⟩ (.bool x)) :=
  ⟨x, he, h.setBad x, ((k.mono fun _ _ h => .inl h)).set (.inl (.inr rfl)), hx⟩
theorem rdet_of {base p : Nat} {v : Value} {l : List Nat} {r : Int × Int × Nat} {n e : Int} {a : Nat} {f : FuncId} {args : Array Value} {w : World} (h : Calls Try.prog f args w (RDet base p v l r w)) (hr : r = (n, e, a)) {ev : Value} (hv : errV e = ev) :
    Calls Try.prog f args w fun e w' => e = .returned (.tuple #[.int .i64 n, ev]) ∧ Rd w' base p v l a ∧ Mod (· = p) w w' := by
  subst hr hv
  exact h

set_option maxHeartbeats 1000000 in
theorem num_c (base p q a : Nat) (bad : Bool) (rv : Value) (l : List Nat) (n e : Int) (a' : Nat) (w : World) (h : RR w base p q rv l a bad) (hr : varD (openL l) a = (n, e, a')) : Calls Try.prog 72 #[.pointer (some ⟨q, 0, none⟩)] w (RdNum base p q rv l n a' (bad = true ∨ e ≠ 0 ∨ 70368744177664 < n) w) := by
  have k0 : w.cell? ⟨q, 0, none⟩ = some (.pointer (some ⟨p, 0, none⟩)) := h.blk.cell 0
  have hc := varD_c base p a rv l w h.rd
  by_cases he : e = 0
  · subst he
    have hc0 := rdet_of hc hr (ev := .nilIface) rfl
    have HC := Lib.hid hc0
    clear hc hc0 hr
    go_enter Try.func72, Try.ntmps72
    go_wp2_with fail
    refine HC.out.mono ?_
    rintro e w1 ⟨rfl, hR1, hM1⟩
    have hR := h.next hR1 hM1
    have k1 : w1.cell? ⟨q, 0, none⟩ = some (.pointer (some ⟨p, 0, none⟩)) := hR.blk.cell 0
    have k2 : w1.cell? ⟨q, 1, none⟩ = some (.bool bad) := hR.blk.cell 1
    have z1 := hR.blk.lt
    have f1 := hR.blk.free
    clear HC k0
    cases bad with
    | true =>
      go_wp2
      go_ret
      exact rdNum rfl hR hM1 (by simp)
    | false =>
      go_wp2
      go_ret
      exact rdNum rfl hR hM1 (by simp)
  · have hc0 := rdet_of hc hr (ev := .iface 38 (.int .i64 e)) (errV_n he)
    have HC := Lib.hid hc0
    have HE := Lib.hid he
    clear hc hc0 hr he
    go_enter Try.func72, Try.ntmps72
    go_wp2_with fail
    refine HC.out.mono ?_
    rintro e1 w1 ⟨rfl, hR1, hM1⟩
    have hR := h.next hR1 hM1
    have k1 : w1.cell? ⟨q, 0, none⟩ = some (.pointer (some ⟨p, 0, none⟩)) := hR.blk.cell 0
    have k2 : w1.cell? ⟨q, 1, none⟩ = some (.bool bad) := hR.blk.cell 1
    have z1 := hR.blk.lt
    have f1 := hR.blk.free
    clear HC k0
    cases bad with
    | true =>
      go_wp2
      go_ret
      exact rdNum rfl hR hM1 (by simp)
    | false =>
      go_wp2
      go_ret
      exact rdNum rfl hR hM1 (by simp [HE.out])

set_option maxHeartbeats 1000000 in
theorem rput_c (base p q a : Nat) (bad : Bool) (rv : Value) (l : List Nat) (n e : Int) (a' : Nat) (k : Int) (w : World) (h : RR w base p q rv l a bad) (hr : getD (openL l) a k = (n, e, a')) : Calls Try.prog 73 #[.pointer (some ⟨q, 0, none⟩), .int .i64 k] w (RdNum base p q rv l n a' (bad = true ∨ e ≠ 0) w) := by
  have k0 : w.cell? ⟨q, 0, none⟩ = some (.pointer (some ⟨p, 0, none⟩)) := h.blk.cell 0
  have hc := getD_c base p a k rv l w h.rd
  by_cases he : e = 0
  · subst he
    have hc0 := rdet_of hc hr (ev := .nilIface) rfl
    have HC := Lib.hid hc0
    clear hc hc0 hr
    go_enter Try.func73, Try.ntmps73
    go_wp2_with fail
    refine HC.out.mono ?_
    rintro e w1 ⟨rfl, hR1, hM1⟩
    have hR := h.next hR1 hM1
    have k1 : w1.cell? ⟨q, 0, none⟩ = some (.pointer (some ⟨p, 0, none⟩)) := hR.blk.cell 0
    have k2 : w1.cell? ⟨q, 1, none⟩ = some (.bool bad) := hR.blk.cell 1
    have z1 := hR.blk.lt
    have f1 := hR.blk.free
    clear HC k0
    cases bad with
    | true =>
      go_wp2
      go_ret
      exact rdNum rfl hR hM1 (by simp)
    | false =>
      go_wp2
      go_ret
      exact rdNum rfl hR hM1 (by simp)
  · have hc0 := rdet_of hc hr (ev := .iface 38 (.int .i64 e)) (errV_n he)
    have HC := Lib.hid hc0
    have HE := Lib.hid he
    clear hc hc0 hr he
    go_enter Try.func73, Try.ntmps73
    go_wp2_with fail
    refine HC.out.mono ?_
    rintro e1 w1 ⟨rfl, hR1, hM1⟩
    have hR := h.next hR1 hM1
    have k1 : w1.cell? ⟨q, 0, none⟩ = some (.pointer (some ⟨p, 0, none⟩)) := hR.blk.cell 0
    have k2 : w1.cell? ⟨q, 1, none⟩ = some (.bool bad) := hR.blk.cell 1
    have z1 := hR.blk.lt
    have f1 := hR.blk.free
    clear HC k0
    cases bad with
    | true =>
      go_wp2
      go_ret
      exact rdNum rfl hR hM1 (by simp)
    | false =>
      go_wp2
      go_ret
      exact rdNum rfl hR hM1 (by simp [HE.out])

theorem rnumT_c (q : Nat) (bad : Bool) (n e : Int) (w : World) (h : Blk w q #[.bool bad]) : Calls Try.prog 80 #[.int .i64 n, .int .i64 e, .pointer (some ⟨q, 0, none⟩)] w fun ev w' => ∃ bad' : Bool, ev = .returned (.int .i64 n) ∧ Blk w' q #[.bool bad'] ∧ Mod (· = q) w w' ∧ (bad' = true ↔ bad = true ∨ e ≠ 0) := by
  have k0 : w.cell? ⟨q, 0, none⟩ = some (.bool bad) := h.cell 0
  have z0 := h.lt
  have f0 := h.free
  cases bad with
  | true =>
    go_enter Try.func80, Try.ntmps80
    go_wp2
    go_ret
    exact ⟨_, rfl, by simpa using h.put (i := 0) (v := .bool true), (Mod.refl _ _).set (.inl rfl), by simp⟩
  | false =>
    by_cases he : e = 0
    · have he' : (e != 0) = false := by simpa using he
      have HE := Lib.hid he
      clear he
      go_enter Try.func80, Try.ntmps80
      go_wp2
      go_ret
      exact ⟨_, rfl, by simpa using h.put (i := 0) (v := .bool false), (Mod.refl _ _).set (.inl rfl), by simp [HE.out]⟩
    · have he' : (e != 0) = true := by simpa using he
      have HE := Lib.hid he
      clear he
      go_enter Try.func80, Try.ntmps80
      go_wp2
      go_ret
      exact ⟨_, rfl, by simpa using h.put (i := 0) (v := .bool true), (Mod.refl _ _).set (.inl rfl), by simp [HE.out]⟩

set_option maxHeartbeats 1000000 in
theorem equal_c (v1 v2 : Value) (l m : List Nat) (w : World) (h1 : Rdb w v1 l) (h2 : Rdb w v2 m) (hl : l.length ≤ 1000000) (hm : m.length ≤ 1000000) (b8 : ∀ x ∈ l, x < 256) (c8 : ∀ x ∈ m, x < 256) : Calls Try.prog 76 #[v1, v2] w fun e w' => (∃ b : Bool, e = .returned (.bool b) ∧ (b = true ↔ l = m)) ∧ Below w.heap.size w w' := by
  obtain ⟨A, c, rfl, g1⟩ := h1
  obtain ⟨A2, c2, rfl, g2⟩ := h2
  obtain ⟨N, hN⟩ : ∃ N, N = l.length := ⟨_, rfl⟩
  obtain ⟨M, hM⟩ : ∃ M, M = m.length := ⟨_, rfl⟩
  rw [← hN, ← hM]
  rw [← hN] at hl
  rw [← hM] at hm
  have HN := Lib.hid hN
  have HM := Lib.hid hM
  have G1 := Lib.hid g1
  have G2 := Lib.hid g2
  have B8 := Lib.hid b8
  have C8 := Lib.hid c8
  clear hN hM g1 g2 b8 c8
  by_cases hne : N = M
  · subst hne
    go_enter Try.func76, Try.ntmps76
    go_wp2
    go_loopw [13] (fun i wr => ∃ k : Nat, k ≤ N ∧ i = .int .i64 k ∧ l.take k = m.take k ∧ Below w.heap.size w wr) (fun i _ => N - (intOf i).toNat)
    case atStart => exact ⟨0, by omega, rfl, by simp, Below.refl _ _⟩
    case round =>
      obtain ⟨k, hk, rfl, htk, hB⟩ := hrel
      have HTK := Lib.hid htk
      clear htk
      by_cases hlt : k < N
      · obtain ⟨b1, o1, rfl, z1, cc1⟩ := G1.out (by have := HN.out; omega)
        obtain ⟨b2, o2, rfl, z2, cc2⟩ := G2.out (by have := HM.out; omega)
        obtain ⟨x, hx⟩ : ∃ x, l[k]? = some x := ⟨_, List.getElem?_eq_getElem (by have := HN.out; omega)⟩
        obtain ⟨y, hy⟩ : ∃ y, m[k]? = some y := ⟨_, List.getElem?_eq_getElem (by have := HM.out; omega)⟩
        have q1 := (hB.cell (p := ⟨b1, o1 + k, none⟩) z1).trans (cc1 k x hx)
        have q2 := (hB.cell (p := ⟨b2, o2 + k, none⟩) z2).trans (cc2 k y hy)
        have y1 := Nat.lt_of_lt_of_le z1 hB.size
        have y2 := Nat.lt_of_lt_of_le z2 hB.size
        have HX := Lib.hid hx
        have HY := Lib.hid hy
        have hmc := more_cell
        have hmf := more_frozen
        have hml := more_lt
        clear cc1 cc2 z1 z2 hx hy
        by_cases hxy : x = y
        · have e1 : ((x : Int) != (y : Int)) = false := by simp; omega
          have HXY := Lib.hid hxy
          clear hxy
          go_wp2
          refine region_quiet_all (by kernel_rfl) (by kernel_rfl) ?_
          repeat (go_big_quiet_step (fail))
          refine wpQuiet_nil ?_
          rintro w2 hw2
          have hb2 := after_below hw2
          clear hw2
          go_wp2
          go_roundw
          case rel => exact ⟨k + 1, by omega, by go_num, by rw [List.take_add_one, List.take_add_one, HTK.out, HX.out, HY.out, HXY.out], hB.trans (hb2.mono hB.size)⟩
          case measure => first | (simp [intOf]; done) | (simp [intOf]; omega)
        · have e1 : ((x : Int) != (y : Int)) = true := by simp; omega
          have HXY := Lib.hid hxy
          clear hxy
          go_wp2
          refine region_quiet_all (by kernel_rfl) (by kernel_rfl) ?_
          repeat (go_big_quiet_step (fail))
          refine wpQuiet_nil ?_
          rintro w2 hw2
          have hb2 := after_below hw2
          clear hw2
          go_wp2
          go_ret
          refine ⟨⟨false, rfl, ⟨(fun h => by cases h), fun h => ?_⟩⟩, hB.trans (hb2.mono hB.size)⟩
          have h3 := HX.out
          rw [h, HY.out] at h3
          exact absurd (Option.some.inj h3).symm HXY.out
      · obtain rfl : k = N := by omega
        go_wp2
        go_ret
        refine ⟨⟨true, rfl, ⟨fun _ => ?_, fun _ => rfl⟩⟩, hB⟩
        have h1 := HTK.out
        rwa [List.take_of_length_le (by have := HN.out; omega), List.take_of_length_le (by have := HM.out; omega)] at h1
  · have e1 : ((N : Int) != (M : Int)) = true := by simp; omega
    have HNE := Lib.hid hne
    clear hne
    go_enter Try.func76, Try.ntmps76
    go_wp2
    go_ret
    refine ⟨⟨false, rfl, ⟨(fun h => by cases h), fun h => ?_⟩⟩, Below.refl _ _⟩
    exact absurd (by rw [HN.out, HM.out, h]) HNE.out

end Go.Proofs.Ytefhmbmbhiehdaa
