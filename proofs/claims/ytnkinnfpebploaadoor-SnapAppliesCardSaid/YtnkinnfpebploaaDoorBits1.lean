/- The contracts of bits.Writer. Conditions: none. -/
import Derived.Test.YtnkinnfpebploaaDoorRow
import Derived.Test.YtnkinnfpebploaaDoorBitsM
import Derived.Test.YtnkinnfpebploaaDoorLift
import Derived.Maps.AppendAt
import Derived.Test.YtnkinnfpebploaaDoorGrow
import Derived.LoopTactic
import Derived.WalkSpells
import Derived.Lib.Hide
import Derived.Lib.Builder
import Derived.BigQuiet
import Derived.Deep.QuietTactic
namespace Go.Proofs.YtnkinnfpebploaaDoor
open Go.ChangeShapes Go.WideShapes Go.ChangeAt Go.RowKit Go.BigFrame
open B

/-- bytes as values -/
def u8s (l : List Nat) : List Value := l.map fun b : Nat => Value.int .u8 (b : Int)
theorem u8s_length (l : List Nat) : (u8s l).length = l.length := by simp [u8s]
theorem u8s_append (l m : List Nat) : u8s (l ++ m) = u8s l ++ u8s m := by simp [u8s]
theorem u8s_one (l : List Nat) : ∀ u ∈ u8s l, u.oneCell' = true := by
  intro u hu
  simp only [u8s, List.mem_map] at hu
  obtain ⟨q, _, rfl⟩ := hu
  rfl
/-- the bytes with room for one bit more -/
def padL (l : List Nat) : List Nat := if l.length % 8 = 0 then pack l ++ [0] else pack l
theorem padL_length (l : List Nat) (b : Nat) : (padL l).length = bytesOf (l ++ [b]) := by
  unfold padL
  rw [bytesOf_snoc]
  split <;> simp [pack_length]
theorem bytesOf_pos (l : List Nat) (b : Nat) : l.length / 8 < bytesOf (l ++ [b]) := by unfold bytesOf; simp; omega
theorem padL_get (l : List Nat) (b : Nat) : (padL l)[l.length / 8]? = some (byteAt l (l.length / 8)) := by
  have := bytesOf_pos l b
  rw [bytesOf_snoc] at this
  unfold padL
  split
  · rename_i h
    have e : (pack l).length = l.length / 8 := by rw [pack_length]; unfold bytesOf; omega
    rw [List.getElem?_append_right (by omega), e, Nat.sub_self, byteAt_end l _ (by omega)]
    rfl
  · rename_i h
    rw [if_neg h] at this
    exact pack_get this
theorem padL_set (l : List Nat) (b : Nat) : (padL l).set (l.length / 8) (byteAt l (l.length / 8) + b * 2 ^ (7 - l.length % 8)) = pack (l ++ [b]) := by
  rw [← (byteAt_snoc l b).1]
  apply List.ext_getElem?
  intro i
  rw [List.getElem?_set]
  have hp := bytesOf_pos l b
  split
  · rename_i h
    subst h
    rw [padL_length l b, if_pos hp, pack_get hp]
  · rename_i h
    rcases Nat.lt_or_ge i (bytesOf (l ++ [b])) with hi | hi
    · rw [pack_get hi, byteAt_snoc_old l b i (Ne.symm h)]
      have hb := bytesOf_snoc l b
      unfold padL
      split
      · rename_i h8
        rw [if_pos h8] at hb
        have e : (pack l).length = l.length / 8 := by rw [pack_length]; unfold bytesOf; omega
        have e2 : bytesOf l = l.length / 8 := by rw [← pack_length]; exact e
        rw [List.getElem?_append_left (by omega)]
        exact pack_get (by omega)
      · rename_i h8
        rw [if_neg h8] at hb
        exact pack_get (by omega)
    · rw [List.getElem?_eq_none (by rw [padL_length l b]; exact hi), List.getElem?_eq_none (by rw [pack_length]; exact hi)]
/-- the writer at block p has written the bits L -/
structure Wr (w : World) (base p : Nat) (v : Value) (L : List Nat) : Prop where
  blk : Blk w p #[v, .int .i64 (L.length : Int)]
  row : w.ownsRow base 5 1 v (bytesOf L) (u8s (pack L))
  ne : v.ownBlock ≠ some p
  bin : Bin L
  lim : L.length ≤ 32000
def Lt63 (n : Nat) : Prop := n < 9223372036854775808
def PutPost (base p : Nat) (v : Value) (L : List Nat) (w : World) (w' : World) : Prop := ∃ v', Wr w' base p v' L ∧ Turn (· = p) w v w' v'
theorem byteInfo : (Tryd.prog.info? 5).map (fun i => (i.zero, i.size, i.bytes)) = some (some (.int .u8 0), 1, 1) := by kernel_rfl
theorem blk_set2 {w : World} {p : Nat} {a b c : Value} (h : Blk w p #[a, b]) : Blk (w.setCell ⟨p, 1, none⟩ c) p #[a, c] := h.put (i := 1) (v := c)
theorem blk_set1 {w : World} {p : Nat} {a b c : Value} (h : Blk w p #[a, b]) : Blk (w.setCell ⟨p, 0, none⟩ c) p #[c, b] := h.put (i := 0) (v := c)
/-- the writer at the moment when there is room for a bit more -/
structure Wx (w : World) (base p g cap : Nat) (L : List Nat) (N : Nat) : Prop where
  blk : Blk w p #[.slice (some ⟨g, 0, none⟩) N cap, .int .i64 (L.length : Int)]
  row : w.ownsRow base 5 1 (.slice (some ⟨g, 0, none⟩) N cap) N (u8s (padL L))
  ne : g ≠ p
  bin : Bin L
  len : N = (padL L).length
theorem wx_step {wr w2 : World} {base p g cap N q m b y : Nat} {L : List Nat} (h : Wx wr base p g cap L N) (hb : Below wr.heap.size wr w2) (hb2 : b < 2) (hq : q = L.length / 8) (hm : m = L.length) (hl : L.length + 1 ≤ 32000)
    (hy : y = byteAt L (L.length / 8) + b * 2 ^ (7 - L.length % 8)) :
    Wr ((w2.setCell ⟨g, q, none⟩ (.int .u8 (y : Int))).setCell ⟨p, 1, none⟩ (.int .i64 ((m : Int) + 1))) base p (.slice (some ⟨g, 0, none⟩) N cap) (L ++ [b]) := by
  subst hq hm hy
  have e : ((L ++ [b]).length : Int) = (L.length : Int) + 1 := by simp
  have hN : N = bytesOf (L ++ [b]) := by rw [h.len, padL_length]
  refine ⟨?_, ?_, ?_, h.bin.append (Bin.mk hb2 Bin.nil), by simpa using hl⟩
  · rw [e]
    exact blk_set2 (Blk.far h.ne (h.blk.below hb))
  · refine row_far ?_ (fun e => h.ne (Option.some.inj e))
    have := row_set (row_below h.row hb) (i := L.length / 8) (x := .int .u8 ((byteAt L (L.length / 8) + b * 2 ^ (7 - L.length % 8) : Nat) : Int)) (by rw [u8s_length, padL_length L b]; exact bytesOf_pos L b)
    rw [← hN]
    have e2 : (u8s (padL L)).set (L.length / 8) (.int .u8 ((byteAt L (L.length / 8) + b * 2 ^ (7 - L.length % 8) : Nat) : Int)) = u8s (pack (L ++ [b])) := by
      rw [← padL_set]
      unfold u8s
      rw [List.map_set]
    rw [e2] at this
    exact this
  · intro e
    exact h.ne (Option.some.inj e)
theorem wx_turn {w wr w2 : World} {p g cap N q : Nat} {v v1 y z : Value} (h : Turn (· = p) w v wr v1) (hv : v1.ownBlock = some g ∨ wr.heap.size ≤ g) (hb : Below wr.heap.size wr w2) :
    Turn (· = p) w v ((w2.setCell ⟨g, q, none⟩ y).setCell ⟨p, 1, none⟩ z) (.slice (some ⟨g, 0, none⟩) N cap) := by
  refine h.trans ⟨Mod.set (Mod.set (Mod.of_below hb) ?_) (.inl (.inl rfl)), ?_⟩
  · rcases hv with e | e
    · exact .inl (.inr e)
    · exact .inr e
  · rcases hv with e | e
    · exact .inl e.symm
    · right
      intro b hb
      obtain rfl : g = b := Option.some.inj hb
      exact e
theorem wx_of_wr {w : World} {base p : Nat} {v : Value} {L : List Nat} (h : Wr w base p v L) (h8 : L.length % 8 ≠ 0) : ∃ g cap, v = .slice (some ⟨g, 0, none⟩) (bytesOf L) cap ∧ Wx w base p g cap L (bytesOf L) := by
  obtain ⟨g, cap, rfl, _⟩ := row_at h.row (show 0 < bytesOf L by unfold bytesOf; omega)
  have e : padL L = pack L := by unfold padL; rw [if_neg h8]
  exact ⟨g, cap, rfl, h.blk, by rw [e]; exact h.row, fun e => h.ne (by rw [e]; rfl), h.bin, by rw [e, pack_length]⟩
theorem app_turn {wr w1 w3 : World} {o : Obj} {p : Nat} {v1 v' z : Value} (hg : (wr.alloc o).grownBy w1 v1.ownBlock) (hw : v'.ownBlock = v1.ownBlock ∨ v'.ownBlock = some (wr.heap.size + 1))
    (h3 : Below (w1.setCell ⟨p, 0, none⟩ z).heap.size (w1.setCell ⟨p, 0, none⟩ z) w3) : Turn (· = p) wr v1 w3 v' := by
  refine ⟨((Mod.trans2 (Mod.of_below ((Below.refl _ _).alloc (Nat.le_refl _) o)) (mod_grown hg) fun _ _ h => .inr h).set (.inl (.inl rfl))).below h3, ?_⟩
  rcases hw with e | e
  · exact .inl e
  · right
    intro b hb
    rw [e] at hb
    have := Option.some.inj hb
    omega
theorem app_wx {wr w1 w3 : World} {o : Obj} {base p : Nat} {v1 v' : Value} {L : List Nat} (h : Wr wr base p v1 L) (h8 : L.length % 8 = 0) (hown : w1.ownsRow base 5 1 v' (bytesOf L + 1) (u8s (pack L) ++ [.int .u8 0]))
    (hg : (wr.alloc o).grownBy w1 v1.ownBlock) (hw : v'.ownBlock = v1.ownBlock ∨ v'.ownBlock = some (wr.heap.size + 1))
    (h3 : Below (w1.setCell ⟨p, 0, none⟩ v').heap.size (w1.setCell ⟨p, 0, none⟩ v') w3) {g cap : Nat} (hv : v' = .slice (some ⟨g, 0, none⟩) (bytesOf L + 1) cap) : Wx w3 base p g cap L (bytesOf L + 1) := by
  have e : padL L = pack L ++ [0] := by unfold padL; rw [if_pos h8]
  have hne : v'.ownBlock ≠ some p := by
    rcases hw with e | e
    · rw [e]; exact h.ne
    · rw [e]
      intro e2
      have := h.blk.lt
      have e3 := Option.some.inj e2
      omega
  refine ⟨?_, ?_, ?_, h.bin, ?_⟩
  · have h1 : Blk w1 p #[v1, .int .i64 (L.length : Int)] := (h.blk.alloc o).mod (mod_grown hg) h.ne
    rw [← hv]
    exact (blk_set1 h1).below h3
  · rw [e, u8s_append, ← hv]
    exact row_below (row_far hown hne) h3
  · intro e2
    exact hne (by rw [hv, ← e2]; rfl)
  · rw [e, List.length_append, pack_length]; rfl
/-- what a walk needs of it -/
theorem wx_facts {w : World} {base p g cap N : Nat} {L : List Nat} (h : Wx w base p g cap L N) : g < w.heap.size ∧ base ≤ g ∧ N ≤ cap ∧ N ≤ 9223372036854775807 ∧ (∀ o, w.frozen? ⟨g, o, none⟩ = false) ∧ L.length / 8 < N ∧
    w.cell? ⟨g, L.length / 8, none⟩ = some (.int .u8 ((byteAt L (L.length / 8) : Nat) : Int)) ∧ byteAt L (L.length / 8) < 256 := by
  have hp := bytesOf_pos L 0
  have hN : N = bytesOf (L ++ [0]) := by rw [h.len, padL_length]
  obtain ⟨g', cap', e, h1, h2, h3, h4, h5, h6, _⟩ := row_at h.row (by omega)
  injection e with e1 e2 e3
  injection e1 with e1
  injection e1 with e1
  subst e1 e3
  refine ⟨h2, h1, h3, by unfold maxLen at h4; omega, h5, by omega, h6 _ _ ?_, byteAt_lt h.bin _⟩
  unfold u8s
  rw [List.getElem?_map, padL_get L 0]
  rfl


set_option maxHeartbeats 4000000 in
theorem put_ok (base p n width : Nat) (v : Value) (L : List Nat) (w : World) (h : Wr w base p v L) (hb : base ≤ w.heap.size) (hw : width ≤ 62) (hn : n < 2 ^ width) (hl : L.length + width ≤ 32000) :
    Calls Tryd.prog 27 #[.pointer (some ⟨p, 0, none⟩), .int .i64 n, .int .i64 width] w fun e w' => e = .returned .nilIface ∧ PutPost base p v (L ++ bitsOf width n) w w' := by
  have hsh : ((n : Int) / 2 ^ width != 0) = false := by
    have : (n : Int) / 2 ^ width = ((n / 2 ^ width : Nat) : Int) := by simp
    rw [this, Nat.div_eq_of_lt hn]; rfl
  have HN63 : Lt63 n := by
    have := Nat.pow_le_pow_right (show 0 < 2 by omega) hw
    unfold Lt63
    omega
  have hA : ¬ (L.length : Int) + width > 32000 := by omega
  obtain ⟨z0, c0, f0⟩ := h.blk
  have k0 := c0 0
  have k1 := c0 1
  clear c0
  have hmc := more_cell
  have hmf := more_frozen
  have hml := more_lt
  go_enter Tryd.func27, Tryd.ntmps27
  go_wp2
  clear hsh hA k0 k1 f0
  obtain ⟨i0, hi, hz0, hz1, hz2⟩ := info_parts byteInfo
  have HI := Lib.hid hi
  have HZ0 := Lib.hid hz0
  have HZ1 := Lib.hid hz1
  have HZ2 := Lib.hid hz2
  clear hi hz0 hz1 hz2
  go_loopw [7] (fun i wr => ∃ (k : Nat) (M : List Nat) (v1 : Value), k ≤ width ∧ (∃ j : Int, j + 1 = k ∧ i = .int .i64 j) ∧ M ++ bitsOf k n = bitsOf width n ∧ Wr wr base p v1 (L ++ M) ∧ Turn (· = p) w v wr v1) (fun i _ => (intOf i + 1).toNat)
  case atStart => exact ⟨width, [], v, by omega, ⟨_, by omega, rfl⟩, rfl, by simpa using h, Turn.refl _ _ _⟩
  case round =>
    obtain ⟨k, M, v1, hk, ⟨j, hj, rfl⟩, hM, hW, hT⟩ := hrel
    have HM := Lib.hid hM
    clear hM
    cases k with
    | zero =>
      obtain rfl : j = -1 := by omega
      go_wp2
      go_ret
      refine ⟨rfl, v1, ?_, hT⟩
      have := HM.out
      simp only [bitsOf, List.append_nil] at this
      rw [← this]
      exact hW
    | succ k =>
      obtain rfl : j = (k : Int) := by omega
      have hlen : (L ++ M).length + 1 ≤ 32000 := by
        have := congrArg List.length HM.out
        simp [bitsOf_length] at this
        simp; omega
      obtain ⟨X, hX0⟩ : ∃ X, X = L ++ M := ⟨_, rfl⟩
      have HL := Lib.hid hX0
      rw [← hX0] at hW hlen
      clear hX0
      have hm1 := hW.lim
      obtain ⟨m, hm⟩ : ∃ m, m = X.length := ⟨_, rfl⟩
      rw [← hm] at hm1 hlen
      obtain ⟨q, hq⟩ : ∃ q : Nat, q = X.length / 8 := ⟨_, rfl⟩
      obtain ⟨r, hr⟩ : ∃ r : Nat, r = m % 8 := ⟨_, rfl⟩
      have hqi : (m : Int) / 8 = (q : Int) := by omega
      have hri : (m : Int) % 8 = (r : Int) := by omega
      have hr7 : r ≤ 7 := by omega
      by_cases h8 : r = 0
      · have h9 : ((r : Int) == 0) = true := by simp; omega
        obtain ⟨zz, cc, ff⟩ := hW.blk
        have kk0 : wr.cell? ⟨p, 0, none⟩ = some v1 := cc 0
        have kk1 : wr.cell? ⟨p, 1, none⟩ = some (.int .i64 (X.length : Int)) := cc 1
        rw [← hm] at kk1
        clear cc
        have HM1 := Lib.hid hm
        have HQ := Lib.hid hq
        have HR := Lib.hid hr
        have H8 := Lib.hid h8
        clear hm hq hr h8
        go_wp2_with (at_builtin; refine wpList_append_own_at _ rfl (.tmp 49) (.tmp 50) 22 rfl base 5 i0 (.int .u8 0) 1 1 Tryd.underlying22 HI.out HZ0.out HZ1.out HZ2.out rfl (by decide) v1 (bytesOf X) (u8s (pack X)) rfl (row_below hW.row ((Below.refl _ _).alloc (Nat.le_refl _) _)) ⟨wr.heap.size, 0, none⟩ 1 1 [.int .u8 0] rfl rfl ?c1 ?c2 ?c3 ?c4 ?c5 ?_)
        case c1 =>
          intro j u hu
          match j with
          | 0 => simp at hu; subst hu; simp [Addr.add]
          | j + 1 => simp at hu
        case c2 => intro u hu; simp at hu; subst hu; rfl
        case c3 => unfold maxLen bytesOf; have := HM1.out; omega
        case c4 => unfold bytesOf; have := HM1.out; omega
        case c5 => have := hT.mod.size; simp; omega
        intro v' w1 hown hgrow _ hwhere
        have hB1 : Blk w1 p #[v1, .int .i64 (X.length : Int)] := (hW.blk.alloc _).mod (mod_grown hgrow) hW.ne
        obtain ⟨z1, c1, f1⟩ := hB1
        have j0 : w1.cell? ⟨p, 0, none⟩ = some v1 := c1 0
        clear c1
        obtain ⟨g, cap, hv1, _⟩ := row_at hown (by omega)
        subst hv1
        have HO := Lib.hid hown
        have HG := Lib.hid hgrow
        have HWH := Lib.hid hwhere
        clear hown hgrow hwhere
        clear HI HZ0 HZ1 HZ2
        go_wp2_with fail
        refine wp_fresh ?_
        intro w3 hb3
        have hX := app_wx hW (by rw [← HM1.out, ← HR.out]; exact H8.out) HO.out HG.out HWH.out hb3 rfl
        have hT' := hT.trans (app_turn HG.out HWH.out hb3)
        obtain ⟨N, hN⟩ : ∃ N, N = bytesOf X + 1 := ⟨_, rfl⟩
        rw [← hN] at hX hT'
        have hm := HM1.out
        have hq := HQ.out
        have hr := HR.out
        have h8 := H8.out
        clear hN HO HG HWH HM1 HQ HR H8 hb3 z1 j0 f1 zz kk0 kk1 ff hT hW
        obtain ⟨z0, c0, f0⟩ := hX.blk
        have k0 : w3.cell? ⟨p, 0, none⟩ = some (.slice (some ⟨g, 0, none⟩) N cap) := c0 0
        have k1 : w3.cell? ⟨p, 1, none⟩ = some (.int .i64 (X.length : Int)) := c0 1
        clear c0
        obtain ⟨g2, g1, g3, hN2, hff, hqN, hx, hx2⟩ := wx_facts hX
        have hgp := hX.ne
        have hf := hff q
        clear hff
        obtain ⟨x, hxx⟩ : ∃ x, x = byteAt X q := ⟨_, rfl⟩
        rw [← hq] at hqN hx hx2
        rw [← hm] at k1
        rw [← hxx] at hx hx2
        have h0 := (byteAt_snoc X 0).2
        rw [← hq, ← hm, ← hxx, ← hr] at h0
        have hor := or_bit x n k r HN63 hx2 hr7 h0
        have hbit : n / 2 ^ k % 2 < 2 := Nat.mod_lt _ (by omega)
        obtain ⟨y, hy⟩ : ∃ y, y = x + n / 2 ^ k % 2 * 2 ^ (7 - r) := ⟨_, rfl⟩
        rw [← hy] at hor
        have HM1 := Lib.hid hm
        have HQ := Lib.hid hq
        have HR := Lib.hid hr
        have H8 := Lib.hid h8
        have HX := Lib.hid hxx
        have HY := Lib.hid hy
        have H0 := Lib.hid h0
        have HPG : p ≠ g := Ne.symm hgp
        clear hm hq hr h8 hxx hy h0
        
        refine region_quiet_but 25 (by kernel_rfl) (by kernel_rfl) ?_
        simp only [List.take_succ_cons, List.take_zero, List.drop_succ_cons, List.drop_zero]
        repeat (go_big_quiet_step (fail))
        refine wpQuiet_nil ?_
        rintro w2 hw2
        have hb2 := after_below hw2
        clear hw2
        have z2 := Nat.lt_of_lt_of_le z0 hb2.size
        have y2 := Nat.lt_of_lt_of_le g2 hb2.size
        have k02 := (hb2.cell (p := ⟨p, 0, none⟩) z0).trans k0
        have k12 := (hb2.cell (p := ⟨p, 1, none⟩) z0).trans k1
        have hx2 := (hb2.cell (p := ⟨g, q, none⟩) g2).trans hx
        have hf2 := (hb2.frozen (p := ⟨g, q, none⟩) g2).trans hf
        have f02 := fun o => (hb2.frozen (p := ⟨p, o, none⟩) z0).trans (f0 o)
        go_wp2
        go_roundw
        case rel =>
          refine ⟨k, M ++ [n / 2 ^ k % 2], .slice (some ⟨g, 0, none⟩) N cap, by omega, ⟨_, by omega, rfl⟩, ?_, ?_, ?_⟩
          · rw [List.append_assoc]; exact HM.out
          · rw [← List.append_assoc, ← HL.out]
            exact wx_step hX hb2 hbit HQ.out HM1.out (by rw [← HM1.out]; omega) (by rw [← HQ.out, ← HM1.out, ← HX.out, ← HR.out]; exact HY.out)
          · exact wx_turn hT' (.inl rfl) hb2
        case measure => first | (simp [intOf]; done) | (simp [intOf]; omega)

      · have h9 : ((r : Int) == 0) = false := by simp; omega
        obtain ⟨g, cap, hv1, hX⟩ := wx_of_wr hW (by rw [← hm, ← hr]; exact h8)
        subst hv1
        obtain ⟨N, hN⟩ : ∃ N, N = bytesOf X := ⟨_, rfl⟩
        rw [← hN] at hX hT
        clear hN hW
        obtain ⟨z0, c0, f0⟩ := hX.blk
        have k0 : wr.cell? ⟨p, 0, none⟩ = some (.slice (some ⟨g, 0, none⟩) N cap) := c0 0
        have k1 : wr.cell? ⟨p, 1, none⟩ = some (.int .i64 (X.length : Int)) := c0 1
        clear c0
        obtain ⟨g2, g1, g3, hN2, hff, hqN, hx, hx2⟩ := wx_facts hX
        have hgp := hX.ne
        have hf := hff q
        clear hff
        obtain ⟨x, hxx⟩ : ∃ x, x = byteAt X q := ⟨_, rfl⟩
        rw [← hq] at hqN hx hx2
        rw [← hm] at k1
        rw [← hxx] at hx hx2
        have h0 := (byteAt_snoc X 0).2
        rw [← hq, ← hm, ← hxx, ← hr] at h0
        have hor := or_bit x n k r HN63 hx2 hr7 h0
        have hbit : n / 2 ^ k % 2 < 2 := Nat.mod_lt _ (by omega)
        obtain ⟨y, hy⟩ : ∃ y, y = x + n / 2 ^ k % 2 * 2 ^ (7 - r) := ⟨_, rfl⟩
        rw [← hy] at hor
        have HM1 := Lib.hid hm
        have HQ := Lib.hid hq
        have HR := Lib.hid hr
        have H8 := Lib.hid h8
        have HX := Lib.hid hxx
        have HY := Lib.hid hy
        have H0 := Lib.hid h0
        have HPG : p ≠ g := Ne.symm hgp
        clear hm hq hr h8 hxx hy h0
        go_wp2
        refine region_quiet_but 25 (by kernel_rfl) (by kernel_rfl) ?_
        simp only [List.take_succ_cons, List.take_zero, List.drop_succ_cons, List.drop_zero]
        repeat (go_big_quiet_step (fail))
        refine wpQuiet_nil ?_
        rintro w2 hw2
        have hb2 := after_below hw2
        clear hw2
        have z2 := Nat.lt_of_lt_of_le z0 hb2.size
        have y2 := Nat.lt_of_lt_of_le g2 hb2.size
        have k02 := (hb2.cell (p := ⟨p, 0, none⟩) z0).trans k0
        have k12 := (hb2.cell (p := ⟨p, 1, none⟩) z0).trans k1
        have hx2 := (hb2.cell (p := ⟨g, q, none⟩) g2).trans hx
        have hf2 := (hb2.frozen (p := ⟨g, q, none⟩) g2).trans hf
        have f02 := fun o => (hb2.frozen (p := ⟨p, o, none⟩) z0).trans (f0 o)
        go_wp2
        go_roundw
        case rel =>
          refine ⟨k, M ++ [n / 2 ^ k % 2], .slice (some ⟨g, 0, none⟩) N cap, by omega, ⟨_, by omega, rfl⟩, ?_, ?_, ?_⟩
          · rw [List.append_assoc]; exact HM.out
          · rw [← List.append_assoc, ← HL.out]
            exact wx_step hX hb2 hbit HQ.out HM1.out (by rw [← HM1.out]; omega) (by rw [← HQ.out, ← HM1.out, ← HX.out, ← HR.out]; exact HY.out)
          · exact wx_turn hT (.inl rfl) hb2
        case measure => first | (simp [intOf]; done) | (simp [intOf]; omega)

theorem put_i (base p : Nat) (n width : Int) (k j : Nat) (v : Value) (L : List Nat) (w : World) (h : Wr w base p v L) (hb : base ≤ w.heap.size) (ek : n = k) (ej : width = j) (hw : j ≤ 62) (hn : k < 2 ^ j) (hl : L.length + j ≤ 32000) :
    Calls Tryd.prog 27 #[.pointer (some ⟨p, 0, none⟩), .int .i64 n, .int .i64 width] w fun e w' => e = .returned .nilIface ∧ PutPost base p v (L ++ bitsOf j k) w w' := by
  subst ek ej
  exact put_ok base p k j v L w h hb hw hn hl
theorem put_bad1 (n width : Int) (a : Option Addr) (w : World) (hw : width < 0 ∨ 62 < width ∨ n < 0) : Calls Tryd.prog 27 #[.pointer a, .int .i64 n, .int .i64 width] w fun e w' => e = .returned (.iface 25 (.int .i64 2)) ∧ w = w' := by
  rcases hw with h | h | h
  · go_enter Tryd.func27, Tryd.ntmps27
    go_wp2
    go_ret
    exact ⟨rfl, rfl⟩
  · go_enter Tryd.func27, Tryd.ntmps27
    go_wp2
    go_ret
    exact ⟨rfl, rfl⟩
  · go_enter Tryd.func27, Tryd.ntmps27
    go_wp2
    all_goals
      go_ret
      exact ⟨rfl, rfl⟩

end Go.Proofs.YtnkinnfpebploaaDoor
