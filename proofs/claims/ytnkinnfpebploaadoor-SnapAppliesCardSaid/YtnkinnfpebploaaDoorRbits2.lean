/- The contracts of gyreref.Bits.Bytes and gyreref.Open. Conditions: none. -/
import Derived.Test.YtnkinnfpebploaaDoorRbits1
import Derived.Laws.BytesArg
namespace Go.Proofs.YtnkinnfpebploaaDoor
open Go.ChangeShapes Go.WideShapes Go.ChangeAt Go.RowKit Go.BigFrame
open B
/-- the slice value v reads as the bytes l -/
def Rdb (w : World) (v : Value) (l : List Nat) : Prop := ∃ A cap, v = .slice A l.length cap ∧ (0 < l.length → ∃ b o, A = some ⟨b, o, none⟩ ∧ b < w.heap.size ∧ ∀ (j x : Nat), l[j]? = some x → w.cell? ⟨b, o + j, none⟩ = some (.int .u8 (x : Int)))
theorem Rdb.below {w w' : World} {v : Value} {l : List Nat} (h : Rdb w v l) (k : Below w.heap.size w w') : Rdb w' v l := by
  obtain ⟨A, cap, hv, hc⟩ := h
  refine ⟨A, cap, hv, fun h0 => ?_⟩
  obtain ⟨b, o, e, hb, h⟩ := hc h0
  exact ⟨b, o, e, Nat.lt_of_lt_of_le hb k.size, fun j x hx => (k.cell (p := ⟨b, o + j, none⟩) hb).trans (h j x hx)⟩
theorem Rdb.of_row {w : World} {base : Nat} {v : Value} {l : List Nat} (h : w.ownsRow base 5 1 v l.length (u8s l)) : Rdb w v l := by
  rcases Nat.eq_zero_or_pos l.length with h0 | h0
  · rcases h.2 with ⟨e, _⟩ | ⟨g, cap, cur, e, _⟩
    · exact ⟨none, 0, by rw [h0]; exact e, fun h => by omega⟩
    · exact ⟨_, cap, e, fun h => by omega⟩
  · obtain ⟨g, cap, e, _, h2, _, _, _, h6, _⟩ := row_at h h0
    exact ⟨_, cap, e, fun _ => ⟨g, 0, rfl, h2, fun j x hx => by rw [Nat.zero_add]; exact h6 j _ (by unfold u8s; rw [List.getElem?_map, hx]; rfl)⟩⟩
/-- bytes as a string -/
def strB (l : List Nat) : ByteArray := strOfNums (l.map fun n : Nat => (n : Int))
theorem conv_zero {P : Program} (w : World) (src e : TypeId) (hs : P.underlying src = some (.slice e)) (he : P.underlying e = some (.int .u8)) (p : Option Addr) (c : Nat) :
    ∀ dst, P.underlying dst = some .string → (convert src dst (.slice p 0 c)).run P w = .ok (.string ByteArray.empty) w := by
  intro dst hd
  rw [run_convert_bytes_string w src dst e _ 0 c hs he hd]
  cases p <;> simp [Conv.bytesToString, loadCells]
  all_goals rfl
theorem conv_rdb {w : World} {v : Value} {l : List Nat} (h : Rdb w v l) : (convert 22 9 v).run Tryd.prog w = .ok (.string (strB l)) w := by
  obtain ⟨A, cap, rfl, hc⟩ := h
  rcases Nat.eq_zero_or_pos l.length with h0 | h0
  · obtain rfl := List.eq_nil_of_length_eq_zero h0
    exact conv_zero w _ _ Tryd.underlying22 Tryd.underlying5 A cap _ Tryd.underlying9
  · obtain ⟨b, o, rfl, _, hcell⟩ := hc h0
    refine run_convert_bytes_arg w _ _ Tryd.underlying22 Tryd.underlying5 b o l.length cap (l.map fun n : Nat => (n : Int)) (by simp) (fun i hi => ?_) _ Tryd.underlying9
    rw [hcell i _ (List.getElem?_eq_getElem hi)]
    simp [List.getD, hi]
set_option maxHeartbeats 2000000 in
theorem rbytes_c (v : Value) (L : List Nat) (w : World) (h : Rdb w v L) (hbin : Bin L) (hlen : L.length ≤ 1000000) : Calls Tryd.prog 35 #[v] w fun e w' => ∃ v', e = .returned v' ∧ w'.ownsRow w.heap.size 5 1 v' (bytesOf L) (u8s (pack L)) ∧ Below w.heap.size w w' := by
  obtain ⟨A, cap, rfl, hc⟩ := h
  have HC := Lib.hid hc
  clear hc
  go_enter Tryd.func35, Tryd.ntmps35
  go_wp2
  go_loopw [3, 4] (fun ov i wr => ∃ (k : Nat) (oA : Option Addr) (oN oC : Nat), ov = .slice oA oN oC ∧ i = .int .i64 (8 * k : Nat) ∧ k ≤ bytesOf L ∧ k = oN ∧ wr.ownsRow w.heap.size 5 1 (.slice oA oN oC) k (u8s ((pack L).take k)) ∧ Below w.heap.size w wr) (fun _ i _ => L.length + 8 - (intOf i).toNat)
  case atStart => exact ⟨0, none, 0, 0, rfl, rfl, by omega, rfl, ⟨rfl, .inl ⟨rfl, rfl⟩⟩, Below.refl _ _⟩
  case round =>
    obtain ⟨k, oA, oN, oC, rfl, rfl, hk, rfl, hrow, hB⟩ := hrel
    obtain ⟨wo, rfl⟩ : ∃ wo : World, wo = wr := ⟨_, rfl⟩
    have hBs := hB.size
    obtain ⟨i, hi⟩ : ∃ i, i = 8 * k := ⟨_, rfl⟩
    rw [← hi]
    by_cases hlt : i < L.length
    · have hkb : k < bytesOf L := by unfold bytesOf; omega
      have htk := pack_take_succ hkb
      have hbl := byteAt_lt hbin k
      have hpv := pv_byte L k
      rw [← hi] at hpv
      have HI := Lib.hid hi
      have HTK := Lib.hid htk
      have HPV := Lib.hid hpv
      have HKB := Lib.hid hkb
      have HK := Lib.hid hk
      clear hi htk hpv hkb hk
      obtain ⟨b, o, rfl, hb, hcell⟩ := HC.out (by omega)
      have hcell2 : ∀ (j x : Nat), L[j]? = some x → wo.cell? ⟨b, o + j, none⟩ = some (.int .u8 (x : Int)) := fun j x hx => (hB.cell (p := ⟨b, o + j, none⟩) hb).trans (hcell j x hx)
      have HCELL := Lib.hid hcell2
      clear hcell hcell2
      go_wp2
      go_loop [5, 6] (fun x y => ∃ j : Nat, j ≤ 8 ∧ y = .int .i64 (i + j : Nat) ∧ x = .int .i64 (pv L i j : Nat)) (fun _ y => i + 8 - (intOf y).toNat)
      case atStart => exact ⟨0, by omega, rfl, rfl⟩
      case round =>
        obtain ⟨j, hj, rfl, rfl⟩ := hrel
        have hpl := pv_lt hbin i j
        have hp8 : 2 ^ j ≤ 2 ^ 8 := Nat.pow_le_pow_right (by omega) hj
        obtain ⟨y, hy⟩ : ∃ y, y = pv L i j := ⟨_, rfl⟩
        rw [← hy] at hpl
        rw [← hy]
        have hy256 : y ≤ 256 := by omega
        have HY := Lib.hid hy
        obtain ⟨q, hq⟩ : ∃ q, q = i + j := ⟨_, rfl⟩
        rw [← hq]
        by_cases h8 : j < 8
        · have h8' : (q : Int) < (i : Int) + 8 := by omega
          by_cases hin : q < L.length
          · have hx := List.getElem?_eq_getElem hin
            obtain ⟨x, hxx⟩ : ∃ x, x = L[q] := ⟨_, rfl⟩
            rw [← hxx] at hx
            have hx2 : x < 2 := hbin x (List.mem_of_getElem? hx)
            have hcx := HCELL.out q x hx
            have hsucc := pv_in (L := L) (i := i) (j := j) (x := x) (by rw [← hq]; exact hx)
            have HS := Lib.hid hsucc
            have HQ := Lib.hid hq
            clear hsucc hxx hx hq hpl hp8 hy
            go_wp2
            go_round
            case rel => exact ⟨j + 1, by omega, by have := HQ.out; go_num, by rw [HS.out, ← HY.out]; go_num⟩
            case measure => simp [intOf]; omega
          · have hsucc := pv_out (L := L) (i := i) (j := j) (by omega)
            have HS := Lib.hid hsucc
            have HQ := Lib.hid hq
            clear hsucc hq hpl hp8 hy
            have hin' : ¬ (q : Int) < (L.length : Int) := by omega
            go_wp2
            go_round
            case rel => exact ⟨j + 1, by omega, by have := HQ.out; go_num, by rw [HS.out, ← HY.out]; go_num⟩
            case measure => simp [intOf]; omega
        · obtain rfl : j = 8 := by omega
          have hyv : y = byteAt L k := by rw [HY.out]; exact HPV.out
          have h8' : ¬ (q : Int) < (i : Int) + 8 := by omega
          have hbl2 : y < 256 := by omega
          have HYV := Lib.hid hyv
          clear hyv hq hy hpl hp8
          obtain ⟨i0, hi, hz0, hz1, hz2⟩ := info_parts byteInfo
          have HI0 := Lib.hid hi
          have HZ0 := Lib.hid hz0
          have HZ1 := Lib.hid hz1
          have HZ2 := Lib.hid hz2
          clear hi hz0 hz1 hz2
          go_wp2_with (at_builtin; refine wpList_append_own_at _ rfl (.tmp 33) (.tmp 36) 22 rfl w.heap.size 5 i0 (.int .u8 0) 1 1 Tryd.underlying22 HI0.out HZ0.out HZ1.out HZ2.out rfl (by decide) (.slice oA k oC) k (u8s ((pack L).take k)) rfl (row_below hrow (balloc _ _)) ⟨wo.heap.size, 0, none⟩ 1 1 [.int .u8 (y : Int)] rfl rfl ?c1 ?c2 ?c3 ?c4 ?c5 ?_)
          case c2 => rfl
          case c3 => have := HK.out; unfold maxLen; unfold bytesOf at this; omega
          case c4 => have := HK.out; unfold bytesOf at this; omega
          case c5 => omega
          intro v' w6 hown hgrow _ hwhere
          obtain ⟨g, gc, hv1, _⟩ := row_at hown (by omega)
          subst hv1
          have hB6 : Below w.heap.size w w6 := (hB.trans ((balloc wo (.cells #[.int .u8 (y : Int)] 5)).mono hBs)).trans ((mod_grown hgrow).toBelow (by simp; omega) (fun b hb e => by have := (row_lt hrow e).2; omega))
          have HO := Lib.hid hown
          clear hown hgrow hwhere HI0 HZ0 HZ1 HZ2
          go_wp2
          go_roundw
          case rel => exact ⟨k + 1, _, _, _, rfl, by have := HI.out; go_num, by have := HKB.out; omega, rfl, by rw [HTK.out, u8s_append, ← HYV.out]; exact HO.out, hB6⟩
          case measure => simp [intOf]; omega
    · have hkb : k = bytesOf L := by unfold bytesOf at *; omega
      have HKB := Lib.hid hkb
      clear hkb hk hi
      have hlt' : ¬ (i : Int) < (L.length : Int) := by omega
      go_wp2
      go_ret
      refine ⟨_, rfl, ?_, hB⟩
      obtain rfl := HKB.out
      have := hrow
      rw [List.take_of_length_le (by rw [pack_length]; omega)] at this
      exact this
set_option maxHeartbeats 1000000 in
theorem ropen_c (v : Value) (l : List Nat) (w : World) (h : Rdb w v l) (h8 : ∀ b ∈ l, b < 256) (hlen : l.length ≤ 100000) : Calls Tryd.prog 37 #[v] w fun e w' => ∃ v', e = .returned v' ∧ w'.ownsRow w.heap.size 5 1 v' (openL l).length (u8s (openL l)) ∧ Below w.heap.size w w' := by
  obtain ⟨A, cap, rfl, hc⟩ := h
  have HC := Lib.hid hc
  clear hc
  go_enter Tryd.func37, Tryd.ntmps37
  go_wp2
  refine wp_fresh ?_
  intro w1 hb1
  have hR0 : Rb w1 w.heap.size w.heap.size (.slice none 0 0) [] := ⟨(Blk.at w _ _ _ rfl).below hb1, ⟨rfl, .inl ⟨rfl, rfl⟩⟩, by simp [Value.ownBlock], Bin.nil, by simp⟩
  have hB1 : Below w.heap.size w w1 := (balloc w _).trans (hb1.mono (by simp))
  clear hb1
  go_loopw [8] (fun i wr => ∃ (k : Nat) (v1 : Value), k ≤ l.length ∧ i = .int .i64 k ∧ Rb wr w.heap.size w.heap.size v1 (openL (l.take k)) ∧ Below w.heap.size w wr) (fun i _ => l.length - (intOf i).toNat)
  case atStart => exact ⟨0, _, by omega, rfl, hR0, hB1⟩
  case round =>
    obtain ⟨k, v1, hk, rfl, hR, hB⟩ := hrel
    have hBs := hB.size
    by_cases hlt : k < l.length
    · obtain ⟨b, o, rfl, hb, hcell⟩ := HC.out (by omega)
      have hx := List.getElem?_eq_getElem hlt
      obtain ⟨x, hxx⟩ : ∃ x, x = l[k] := ⟨_, rfl⟩
      rw [← hxx] at hx
      have hx8 : x < 256 := h8 x (List.mem_of_getElem? hx)
      have hc := (hB.cell (p := ⟨b, o + k, none⟩) hb).trans (hcell k x hx)
      have htk : openL (l.take (k + 1)) = openL (l.take k) ++ bitsOf 8 x := by
        rw [List.take_add_one, hx, openL_append]; simp [openL]
      have hol := openL_length (l.take k)
      have hol2 : (l.take k).length ≤ k := by simp; omega
      have HTK := Lib.hid htk
      have HOL := Lib.hid hol
      have HOL2 := Lib.hid hol2
      clear hxx hx hcell htk hol hol2
      go_wp2_with fail
      refine (rput_i w.heap.size w.heap.size (x : Int) 8 x 8 v1 _ _ hR hBs rfl rfl (by omega) (by unfold Lt63; omega) (by have := HOL.out; have := HOL2.out; omega)).mono ?_
      rintro e w2 ⟨rfl, v2, hR2, hT2⟩
      go_wp2
      go_roundw
      case rel =>
        refine ⟨k + 1, v2, by omega, by go_num, by rw [HTK.out]; exact hR2, hB.trans (hT2.mod.toBelow hBs fun b hb e => ?_)⟩
        rcases e with e | e
        · omega
        · have := (row_lt hR.row e).2; omega
      case measure => first | (simp [intOf]; done) | (simp [intOf]; omega)
    · obtain rfl : k = l.length := by omega
      rw [List.take_of_length_le (Nat.le_refl _)] at hR
      obtain ⟨z0, c0, f0⟩ := id hR.blk
      have k0 : wr.cell? ⟨w.heap.size, 0, none⟩ = some v1 := c0 0
      clear c0
      go_wp2
      go_ret
      exact ⟨_, rfl, hR.row, hB⟩

end Go.Proofs.YtnkinnfpebploaaDoor
