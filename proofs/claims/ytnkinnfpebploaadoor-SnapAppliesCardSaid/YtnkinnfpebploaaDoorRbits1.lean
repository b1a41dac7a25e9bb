/- The contracts of gyreref.Bits. Conditions: none. -/
import Derived.Test.YtnkinnfpebploaaDoorBits3
import Derived.Deep.RegionLaw
namespace Go.Proofs.YtnkinnfpebploaaDoor
open Go.ChangeShapes Go.WideShapes Go.ChangeAt Go.RowKit Go.BigFrame
open B
theorem step_append_own {P : Program} {ops : Array Oper} {o : Oper} {a : Act} {w : World} {K : Act → World → Prop} {Q : Exit → Act → World → Prop} {E : Prop}
    (hg : o.guard = none) (s x : Operand) (t : TypeId) (ho : o.op = .call { callee := .builtin .append, args := #[s, x], argTypes := #[t, t] })
    (base : Nat) (e : TypeId) (i : TypeInfo) (z : Value) (size bytes : Nat) (ht : P.underlying t = some (.slice e)) (hi : P.info? e = some i) (hz : i.zero = some z)
    (hsize : i.size = size) (hby : i.bytes = bytes) (hzs : z.cells.size = size) (hsz : 0 < size)
    (v : Value) (n : Nat) (xs : List Value) (hs : a.eval s = v) (hown : w.ownsRow base e size v n xs)
    (ad : Addr) (m c : Nat) (news : List Value) (hx : a.eval x = .slice (some ad) m c) (hl : news.length = m * size) (hnews : ∀ j u, news[j]? = some u → w.cell? (ad.add j) = some u) (h1 : ∀ u ∈ news, u.oneCell' = true)
    (h63 : n + m ≤ maxLen) (hbytes : (n + m) * bytes ≤ 140737488355328) (hbase : base ≤ w.heap.size)
    (hK : ∀ v' w', w'.ownsRow base e size v' (n + m) (xs ++ news) → w.grownBy w' v.ownBlock → (v' = .slice none 0 0 ↔ v = .slice none 0 0 ∧ m = 0) → (v'.ownBlock = v.ownBlock ∨ v'.ownBlock = some w.heap.size) → K (a.put o.dst v') w') :
    if Region.wanted o (yielded ops a.tmps) = true then Oper.wp P o a w K Q else E := by
  have hw : Region.wanted o (yielded ops a.tmps) = true := by simp [Region.wanted, hg]
  rw [if_pos hw]
  obtain ⟨v', w', hr, h2, h3, h4, h5⟩ := run_append_own_at (P := P) w base t o.type e i z size bytes ht hi hz hsize hby hzs hsz v n xs hown ad m c news hl hnews h1 h63 hbytes hbase
  unfold Oper.wp execOp
  simp only [ho, resolve, invoke, builtin, Sem.run_bind, Sem.run_pure, Result.andThen_ok, List.map_toArray, List.map_cons, List.map_nil, hs, hx, hr]
  exact hK v' w' h2 h3 h4 h5
/-- block p holds the slice v of the bits L -/
structure Rb (w : World) (base p : Nat) (v : Value) (L : List Nat) : Prop where
  blk : Blk w p #[v]
  row : w.ownsRow base 5 1 v L.length (u8s L)
  ne : v.ownBlock ≠ some p
  bin : Bin L
  lim : L.length ≤ 1000000
def RbPost (base p : Nat) (v : Value) (L : List Nat) (w : World) (w' : World) : Prop := ∃ v', Rb w' base p v' L ∧ Turn (· = p) w v w' v'
theorem u8_bit (n k : Nat) (h : Lt63 n) : bits .and .i64 ((n : Int) / 2 ^ k) 1 % 256 = ((n / 2 ^ k % 2 : Nat) : Int) := by
  rw [and1 n k h]
  omega
theorem rb_step {wr w1 : World} {o : Obj} {base p g cap b : Nat} {v1 : Value} {X : List Nat} (h : Rb wr base p v1 X) (hl : X.length + 1 ≤ 1000000)
    (hown : w1.ownsRow base 5 1 (.slice (some ⟨g, 0, none⟩) (X.length + 1) cap) (X.length + 1) (u8s X ++ [.int .u8 (b : Int)])) (hg : ((wr.alloc o).drew).grownBy w1 v1.ownBlock)
    (hw : (Value.slice (some ⟨g, 0, none⟩) (X.length + 1) cap).ownBlock = v1.ownBlock ∨ (Value.slice (some ⟨g, 0, none⟩) (X.length + 1) cap).ownBlock = some (wr.heap.size + 1)) (hb : b < 2) :
    Rb (w1.setCell ⟨p, 0, none⟩ (.slice (some ⟨g, 0, none⟩) (X.length + 1) cap)) base p (.slice (some ⟨g, 0, none⟩) (X.length + 1) cap) (X ++ [b]) ∧
    Turn (· = p) wr v1 (w1.setCell ⟨p, 0, none⟩ (.slice (some ⟨g, 0, none⟩) (X.length + 1) cap)) (.slice (some ⟨g, 0, none⟩) (X.length + 1) cap) := by
  have hne : (Value.slice (some ⟨g, 0, none⟩) (X.length + 1) cap).ownBlock ≠ some p := by
    rcases hw with e | e
    · rw [e]; exact h.ne
    · rw [e]
      intro e2
      have := h.blk.lt
      have := Option.some.inj e2
      omega
  refine ⟨⟨?_, ?_, hne, h.bin.append (Bin.mk hb Bin.nil), by simpa using hl⟩, ?_, ?_⟩
  · have h1 : Blk w1 p #[v1] := ((h.blk.alloc o).drew).mod (mod_grown hg) h.ne
    exact h1.put (i := 0)
  · have e : (X ++ [b]).length = X.length + 1 := by simp
    rw [e, u8s_append]
    exact row_far hown hne
  · exact (Mod.trans2 (Mod.of_below (((Below.refl _ _).alloc (Nat.le_refl _) o).drew)) (mod_grown hg) fun _ _ h => .inr h).set (.inl (.inl rfl))
  · rcases hw with e | e
    · exact .inl e
    · right
      intro b hb
      rw [e] at hb
      have := Option.some.inj hb
      omega
set_option maxHeartbeats 4000000 in
theorem rput_ok (base p n width : Nat) (v : Value) (L : List Nat) (w : World) (h : Rb w base p v L) (hb : base ≤ w.heap.size) (hw : width ≤ 62) (hn : Lt63 n) (hl : L.length + width ≤ 1000000) :
    Calls Tryd.prog 28 #[.pointer (some ⟨p, 0, none⟩), .int .i64 n, .int .i64 width] w fun e w' => e = .returned (.tuple #[]) ∧ RbPost base p v (L ++ bitsOf width n) w w' := by
  go_enter Tryd.func28, Tryd.ntmps28
  go_wp2
  go_loopw [6] (fun i wr => ∃ (k : Nat) (M : List Nat) (v1 : Value), k ≤ width ∧ (∃ j : Int, j + 1 = k ∧ i = .int .i64 j) ∧ M ++ bitsOf k n = bitsOf width n ∧ Rb wr base p v1 (L ++ M) ∧ Turn (· = p) w v wr v1) (fun i _ => (intOf i + 1).toNat)
  case atStart => exact ⟨width, [], v, by omega, ⟨_, by omega, rfl⟩, rfl, by simpa using h, Turn.refl _ _ _⟩
  case round =>
    obtain ⟨k, M, v1, hk, ⟨j, hj, rfl⟩, hM, hW, hT⟩ := hrel
    have HM := Lib.hid hM
    clear hM
    cases k with
    | zero =>
      obtain rfl : j = -1 := by omega
      go_wp2
      go_end0
      refine ⟨rfl, v1, ?_, hT⟩
      have := HM.out
      simp only [bitsOf, List.append_nil] at this
      rw [← this]
      exact hW
    | succ k =>
      obtain rfl : j = (k : Int) := by omega
      have hlen : (L ++ M).length + 1 ≤ 1000000 := by
        have := congrArg List.length HM.out
        simp [bitsOf_length] at this
        simp; omega
      obtain ⟨X, hX0⟩ : ∃ X, X = L ++ M := ⟨_, rfl⟩
      have HL := Lib.hid hX0
      rw [← hX0] at hW hlen
      clear hX0
      obtain ⟨z0, c0, f0⟩ := id hW.blk
      have k0 : wr.cell? ⟨p, 0, none⟩ = some v1 := c0 0
      clear c0
      have hlim := hW.lim
      have hand := u8_bit n k hn
      obtain ⟨b, hb0⟩ : ∃ b, b = n / 2 ^ k % 2 := ⟨_, rfl⟩
      rw [← hb0] at hand
      have hb2 : b < 2 := by rw [hb0]; exact Nat.mod_lt _ (by omega)
      have HB := Lib.hid hb0
      have hv : IntKind.u8.wrap (bits BinOp.and IntKind.i64 ((n : Int) / 2 ^ k) 1) = (b : Int) := by rw [IntKind.wrap_u8', hand]
      have HV := Lib.hid hv
      clear hb0 hv
      go_wp2
      obtain ⟨i0, hi, hz0, hz1, hz2⟩ := info_parts byteInfo
      have hrowA := fun o => row_below hW.row (balloc wr o)
      have hszA : base ≤ (wr.alloc (.cells #[.int .u8 (IntKind.u8.wrap (bits BinOp.and IntKind.i64 ((n : Int) / 2 ^ k) 1))] 5)).heap.size := by have := hT.mod.size; simp; omega
      have hone : ∀ u ∈ [Value.int .u8 (IntKind.u8.wrap (bits BinOp.and IntKind.i64 ((n : Int) / 2 ^ k) 1))], u.oneCell' = true := by intro u hu; simp at hu; subst hu; rfl
      have h63 : X.length + 1 ≤ maxLen := by unfold maxLen; omega
      have hby : (X.length + 1) * 1 ≤ 140737488355328 := by omega
      have HO := Lib.hid hone
      have HC := Lib.hid (cell_one_new wr (.int .u8 (IntKind.u8.wrap (bits BinOp.and IntKind.i64 ((n : Int) / 2 ^ k) 1))) 5)
      have HR := Lib.hid hrowA
      have HS := Lib.hid hszA
      have HM3 := Lib.hid h63
      have HBY := Lib.hid hby
      have HI := Lib.hid hi
      have HZ0 := Lib.hid hz0
      have HZ1 := Lib.hid hz1
      have HZ2 := Lib.hid hz2
      have hB1 := fun (w1 : World) (hg : ((wr.alloc (.cells #[.int .u8 (IntKind.u8.wrap (bits BinOp.and IntKind.i64 ((n : Int) / 2 ^ k) 1))] 5)).drew).grownBy w1 v1.ownBlock) => (show Blk w1 p #[v1] from ((hW.blk.alloc _).drew).mod (mod_grown hg) hW.ne)
      have HB1 := Lib.hid hB1
      clear hB1 hone hrowA hszA h63 hby hi hz0 hz1 hz2 hand
      go_region_law (refine step_append_own rfl (.tmp 16) (.tmp 22) 65 rfl base 5 i0 (.int .u8 0) 1 1 Tryd.underlying65 HI.out HZ0.out HZ1.out HZ2.out rfl (by decide) v1 X.length (u8s X) (by simp [Act.eval]) (HR.out _) ⟨wr.heap.size, 0, none⟩ 1 1 [.int .u8 (IntKind.u8.wrap (bits BinOp.and IntKind.i64 ((n : Int) / 2 ^ k) 1))] (by simp [Act.eval]) rfl HC.out HO.out HM3.out HBY.out HS.out ?_; intro v' w1 hown hgrow _ hwhere; obtain ⟨g, cap, hv1, _⟩ := row_at hown (by omega); subst hv1; obtain ⟨z1, c1, f1⟩ := HB1.out w1 hgrow; have j0 : w1.cell? ⟨p, 0, none⟩ = some v1 := c1 0; have HO1 := Lib.hid hown; have HG1 := Lib.hid hgrow; have HW1 := Lib.hid hwhere; clear hown hgrow hwhere c1)
      all_goals
        go_wp2
        go_roundw
        case rel =>
          obtain ⟨r1, r2⟩ := rb_step hW hlen (HV.out ▸ HO1.out) HG1.out (by simpa using HW1.out) hb2
          refine ⟨k, M ++ [b], .slice (some ⟨g, 0, none⟩) (X.length + 1) cap, by omega, ⟨_, by omega, rfl⟩, ?_, ?_, hT.trans r2⟩
          · rw [List.append_assoc, HB.out]; exact HM.out
          · rw [← List.append_assoc, ← HL.out]; exact r1
        case measure => first | (simp [intOf]; done) | (simp [intOf]; omega)
theorem rput_i (base p : Nat) (n width : Int) (k j : Nat) (v : Value) (L : List Nat) (w : World) (h : Rb w base p v L) (hb : base ≤ w.heap.size) (ek : n = k) (ej : width = j) (hw : j ≤ 62) (hn : Lt63 k) (hl : L.length + j ≤ 1000000) :
    Calls Tryd.prog 28 #[.pointer (some ⟨p, 0, none⟩), .int .i64 n, .int .i64 width] w fun e w' => e = .returned (.tuple #[]) ∧ RbPost base p v (L ++ bitsOf j k) w w' := by
  subst ek ej
  exact rput_ok base p k j v L w h hb hw hn hl
set_option maxHeartbeats 1000000 in
theorem rvarw_ok (base p n : Nat) (v : Value) (L : List Nat) (w : World) (h : Rb w base p v L) (hb : base ≤ w.heap.size) (hn : Lt62 n) (hl : L.length + 6 * pieces n ≤ 1000000) :
    Calls Tryd.prog 30 #[.pointer (some ⟨p, 0, none⟩), .int .i64 n] w fun e w' => e = .returned (.tuple #[]) ∧ RbPost base p v (L ++ varL n) w w' := by
  go_enter Tryd.func30, Tryd.ntmps30
  go_wp2
  go_loopw [1] (fun x wr => ∃ (j : Nat) (M : List Nat) (v1 : Value), x = .int .i64 j ∧ M ++ varL j = varL n ∧ Lt62 j ∧ Rb wr base p v1 (L ++ M) ∧ Turn (· = p) w v wr v1) (fun x _ => (intOf x).toNat)
  case atStart => exact ⟨n, [], v, rfl, rfl, hn, by simpa using h, Turn.refl _ _ _⟩
  case round =>
    obtain ⟨j, M, v1, rfl, hM, hj, hW, hT⟩ := hrel
    have HM := Lib.hid hM
    clear hM
    have hlen : (L ++ M).length + (varL j).length = L.length + 6 * pieces n := by
      have := congrArg List.length HM.out
      rw [List.length_append, varL_length n] at this
      rw [List.length_append]; omega
    have HLn := Lib.hid hlen
    clear hlen
    have hvl := varL_length j
    have hpp := pieces_pos j
    have hb2 := Nat.le_trans hb hT.mod.size
    have HV := Lib.hid hvl
    clear hvl
    by_cases h32 : j < 32
    · have hge : ¬ (j : Int) > 31 := by omega
      go_wp2_with fail
      refine (rput_i base p 0 1 0 1 v1 (L ++ M) _ hW hb2 rfl rfl (by omega) (by unfold Lt63; omega) (by have := HLn.out; have := HV.out; omega)).mono ?_
      rintro e w1 ⟨rfl, v2, hW2, hT2⟩
      go_wp2_with fail
      refine (rput_i base p (j : Int) 5 j 5 v2 (L ++ M ++ bitsOf 1 0) _ hW2 (Nat.le_trans hb2 hT2.mod.size) rfl rfl (by omega) (by unfold Lt63; omega) (by have := HLn.out; have := HV.out; rw [List.length_append, bitsOf_length]; omega)).mono ?_
      rintro e w2 ⟨rfl, v3, hW3, hT3⟩
      go_wp2
      go_end0
      refine ⟨rfl, v3, ?_, (hT.trans hT2).trans hT3⟩
      have e1 : varL j = bitsOf 1 0 ++ bitsOf 5 j := by rw [varL_small h32]; rfl
      have e2 : L ++ varL n = L ++ M ++ bitsOf 1 0 ++ bitsOf 5 j := by rw [← HM.out, e1]; simp [List.append_assoc]
      rw [e2]
      exact hW3
    · have hge : (j : Int) > 31 := by omega
      have hjb : (j : Int) ≤ 4611686018427387903 := by unfold Lt62 at hj; omega
      have hmod : (j : Int) % 32 = ((j % 32 : Nat) : Int) := by omega
      obtain ⟨a, ha⟩ : ∃ a, a = j % 32 := ⟨_, rfl⟩
      rw [← ha] at hmod
      have HA := Lib.hid ha
      clear ha
      go_wp2_with fail
      refine (rput_i base p 1 1 1 1 v1 (L ++ M) _ hW hb2 rfl rfl (by omega) (by unfold Lt63; omega) (by have := HLn.out; have := HV.out; omega)).mono ?_
      rintro e w1 ⟨rfl, v2, hW2, hT2⟩
      go_wp2_with fail
      refine (rput_i base p _ 5 a 5 v2 (L ++ M ++ bitsOf 1 1) _ hW2 (Nat.le_trans hb2 hT2.mod.size) (by first | rfl | exact hmod) rfl (by omega) (by have := HA.out; unfold Lt63; omega) (by have := HLn.out; have := HV.out; rw [List.length_append, bitsOf_length]; omega)).mono ?_
      rintro e w2 ⟨rfl, v3, hW3, hT3⟩
      go_wp2
      go_roundw
      case rel =>
        have e1 : varL j = bitsOf 1 1 ++ (bitsOf 5 a ++ varL (j / 32)) := by rw [HA.out, varL_big (by omega) (by unfold Lt62 at hj; omega)]; rfl
        refine ⟨j / 32, M ++ bitsOf 1 1 ++ bitsOf 5 a, v3, by simp, ?_, by unfold Lt62 at *; omega, ?_, (hT.trans hT2).trans hT3⟩
        · rw [← HM.out, e1]; simp [List.append_assoc]
        · have e2 : L ++ (M ++ bitsOf 1 1 ++ bitsOf 5 a) = L ++ M ++ bitsOf 1 1 ++ bitsOf 5 a := by simp [List.append_assoc]
          rw [e2]
          exact hW3
      case measure => simp [intOf]; omega
theorem rvarw_i (base p k : Nat) (n : Int) (v : Value) (L : List Nat) (w : World) (h : Rb w base p v L) (hb : base ≤ w.heap.size) (en : n = k) (hn : Lt62 k) (hl : L.length + 6 * pieces k ≤ 1000000) :
    Calls Tryd.prog 30 #[.pointer (some ⟨p, 0, none⟩), .int .i64 n] w fun e w' => e = .returned (.tuple #[]) ∧ RbPost base p v (L ++ varL k) w w' := by
  subst en
  exact rvarw_ok base p k v L w h hb hn hl
theorem rintw_ok (base p : Nat) (n : Int) (v : Value) (L : List Nat) (w : World) (h : Rb w base p v L) (hb : base ≤ w.heap.size) (h1 : -1152921504606846976 ≤ n) (h2 : n ≤ 1152921504606846976) (hl : L.length + 6 * pieces (zig n) ≤ 1000000) :
    Calls Tryd.prog 32 #[.pointer (some ⟨p, 0, none⟩), .int .i64 n] w fun e w' => e = .returned (.tuple #[]) ∧ RbPost base p v (L ++ intL n) w w' := by
  have hz := zig_le h1 h2
  have HZ := Lib.hid hz
  clear hz
  have HL := Lib.hid hl
  clear hl
  by_cases h0 : n < 0
  · go_enter Tryd.func32, Tryd.ntmps32
    go_wp2_with fail
    refine (rvarw_i base p (zig n) _ v L _ h hb ?_ (by have := HZ.out; unfold Lt62; omega) HL.out).mono ?_
    · unfold zig; rw [if_pos h0]; omega
    rintro e w1 ⟨rfl, v2, hW2, hT2⟩
    go_wp2
    go_end0
    exact ⟨rfl, v2, hW2, hT2⟩
  · go_enter Tryd.func32, Tryd.ntmps32
    go_wp2_with fail
    refine (rvarw_i base p (zig n) _ v L _ h hb ?_ (by have := HZ.out; unfold Lt62; omega) HL.out).mono ?_
    · unfold zig; rw [if_neg (by omega)]; omega
    rintro e w1 ⟨rfl, v2, hW2, hT2⟩
    go_wp2
    go_end0
    exact ⟨rfl, v2, hW2, hT2⟩

end Go.Proofs.YtnkinnfpebploaaDoor
