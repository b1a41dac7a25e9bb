/- The contract of slices.DeleteFunc at a row of ints of the call's own, its function: is it that number. Conditions: none. -/
import Derived.Lib.SliceRun
import Derived.OwnWalk
import Derived.WalkSpells
import Derived.Lib.Hide
import Derived.Test.YtefhmbmbhiehdaaProg
import Derived.Test.YtefhmbmbhiehdaaKA
namespace Go.Proofs.Ytefhmbmbhiehdaa
open Go.RowKit Go.BigFrame
def ints (zs : List Int) : List Value := zs.map (Value.int .i64)
theorem ints_len (zs : List Int) : (ints zs).length = zs.length := by simp [ints]
theorem ints_app (a b : List Int) : ints (a ++ b) = ints a ++ ints b := by simp [ints]
theorem ints_get {zs : List Int} {k : Nat} {x : Int} (h : zs[k]? = some x) : (ints zs)[k]? = some (.int .i64 x) := by simp [ints, h]
theorem ints_set (zs : List Int) (i : Nat) (x : Int) : (ints zs).set i (.int .i64 x) = ints (zs.set i x) := by simp [ints, List.map_set]
theorem row_len {w : World} {base n : Nat} {v : Value} {zs : List Int} (h : w.ownsRow base 3 1 v n (ints zs)) : zs.length = n := by
  have := h.1
  rw [ints_len] at this
  omega
/-- cells from o on are written -/
theorem row_sets {base n g cap : Nat} : ∀ (vs : List Int) (o : Nat) (w : World) (zs : List Int), w.ownsRow base 3 1 (.slice (some ⟨g, 0, none⟩) n cap) n (ints zs) → o + vs.length ≤ zs.length →
    ∃ zs', zs'.length = zs.length ∧ zs'.take o = zs.take o ∧ (w.setCells g o (ints vs)).ownsRow base 3 1 (.slice (some ⟨g, 0, none⟩) n cap) n (ints zs')
  | [], o, w, zs, h, _ => ⟨zs, rfl, rfl, h⟩
  | v :: vs, o, w, zs, h, hl => by
    simp at hl
    have h1 := row_set (i := o) (x := .int .i64 v) h (by rw [ints_len]; omega)
    rw [ints_set] at h1
    obtain ⟨zs', e1, e2, h2⟩ := row_sets vs (o + 1) _ (zs.set o v) h1 (by simp; omega)
    refine ⟨zs', by simpa using e1, ?_, h2⟩
    have e3 : zs'.take o = (zs'.take (o + 1)).take o := by rw [List.take_take]; congr 1; omega
    rw [e3, e2, List.take_take, List.take_set_of_le (by omega)]
    congr 1
    omega
/-- the row's beginning -/
theorem row_take {w : World} {base n g cap k : Nat} {zs : List Int} (h : w.ownsRow base 3 1 (.slice (some ⟨g, 0, none⟩) n cap) n (ints zs)) (hk : k ≤ n) : w.ownsRow base 3 1 (.slice (some ⟨g, 0, none⟩) k cap) k (ints (zs.take k)) := by
  have hl := row_len h
  obtain ⟨_, ⟨hv, _⟩ | ⟨g', cap', cur, hv, hb, hh, h1, h2, h3, h4⟩⟩ := h
  · cases hv
  · injection hv with e1 e2 e3
    injection e1 with e1
    injection e1 with e1
    subst e1 e3
    refine ⟨by rw [ints_len]; simp; omega, .inr ⟨g, cap, cur, rfl, hb, hh, by omega, h2, h3, ?_⟩⟩
    have : ints (zs.take k) = (ints zs).take k := by simp [ints, List.map_take]
    rw [this, ← h4, List.take_take]
    congr 1
    omega
theorem modSets {S : Nat → Prop} {w : World} {g : Nat} (hg : S g) : ∀ (vs : List Value) (o : Nat) (w' : World), Mod S w w' → Mod S w (w'.setCells g o vs)
  | [], _, _, h => h
  | _ :: vs, o, _, h => modSets hg vs (o + 1) _ (h.set (.inl hg))
/-- is it that number -/
theorem isNum_c (k id : Int) (p : Nat) (w : World) (hp : w.cell? ⟨p, 0, none⟩ = some (.int .i64 id)) : Calls Try.prog 51 #[.int .i64 k, .pointer (some ⟨p, 0, none⟩)] w fun e w' => e = .returned (.bool (k == id)) ∧ w = w' := by
  go_enter Try.func51, Try.ntmps51
  go_wp2
  go_ret
  exact ⟨rfl, rfl⟩
/-- the first place of it, from k on; n: none -/
def fst (zs : List Int) (id : Int) : Nat := zs.findIdx (fun x => x == id)
def fstV (zs : List Int) (id : Int) (n : Nat) : Int := if fst zs id < n then (fst zs id : Int) else -1
set_option maxRecDepth 100000 in
set_option maxHeartbeats 4000000 in
theorem indexNum_c (base n : Nat) (v : Value) (zs : List Int) (id : Int) (p : Nat) (w : World) (hn : n ≤ 100000) (hR : w.ownsRow base 3 1 v n (ints zs)) (hp : w.cell? ⟨p, 0, none⟩ = some (.int .i64 id)) :
    Calls Try.prog 94 #[v, .func (.func 51) #[] #[.pointer (some ⟨p, 0, none⟩)]] w fun e w' => e = .returned (.int .i64 (fstV zs id n)) ∧ w = w' := by
  have hl := row_len hR
  have HR := Lib.hid hR
  have hvf : ∃ A c, v = .slice A n c := by
    rcases hR.2 with ⟨rfl, h0⟩ | ⟨g, cap, cur, rfl, _⟩
    · exact ⟨none, 0, by rw [h0]⟩
    · exact ⟨_, cap, rfl⟩
  obtain ⟨A, c, rfl⟩ := hvf
  clear hR
  go_enter Try.func94, Try.ntmps94
  go_wp2
  go_loopw [8] (fun i wr => ∃ k : Nat, k ≤ n ∧ i = .int .i64 k ∧ w = wr ∧ ∀ j x, j < k → zs[j]? = some x → x ≠ id) (fun i _ => n - (intOf i).toNat)
  case atStart => exact ⟨0, by omega, rfl, rfl, fun j x h => by omega⟩
  case round =>
    obtain ⟨k, hk, rfl, rfl, hno⟩ := hrel
    have HNO := Lib.hid hno
    clear hno
    by_cases hin : k < n
    · have dk : decide ((k : Int) < (n : Int)) = true := decide_eq_true (by omega)
      obtain ⟨x, hx⟩ : ∃ x, zs[k]? = some x := ⟨_, List.getElem?_eq_getElem (by omega)⟩
      obtain ⟨g, cap, hv, _, _, _, _, _, hc, _⟩ := row_at HR.out (by omega)
      cases hv
      have q0 := hc k _ (ints_get hx)
      have HX := Lib.hid hx
      clear hc hx
      go_wp2_with fail
      refine (isNum_c x id p _ hp).mono ?_
      rintro e w' ⟨rfl, rfl⟩
      by_cases he : x = id
      · have de : (x == id) = true := by simpa using he
        have hf : fst zs id = k := by
          unfold fst
          rw [List.findIdx_eq (by omega)]
          refine ⟨by rw [show zs[k] = x from Option.some.inj ((List.getElem?_eq_getElem _).symm.trans HX.out)]; exact de, fun j hj => ?_⟩
          have := HNO.out j _ hj (List.getElem?_eq_getElem (by omega))
          simpa using this
        have HF : Hid (fstV zs id n = (k : Int)) := Lib.hid (by unfold fstV; rw [hf, if_pos hin])
        clear hf he
        go_wp2
        go_ret
        rw [HF.out]
        exact ⟨rfl, rfl⟩
      · have de : (x == id) = false := by simpa using he
        go_wp2
        go_roundw
        case rel =>
          refine ⟨k + 1, by omega, by go_num, trivial, fun j y hj hy => ?_⟩
          rcases Nat.lt_or_ge j k with h | h
          · exact HNO.out j y h hy
          · obtain rfl : j = k := by omega
            rw [HX.out] at hy
            cases hy
            exact he
        case measure => simp [intOf]; omega
    · have dk : decide ((k : Int) < (n : Int)) = false := decide_eq_false (by omega)
      obtain rfl : k = n := by omega
      have hf : ¬ fst zs id < k := by
        unfold fst
        intro hlt
        have h1 := List.findIdx_getElem (xs := zs) (p := fun x => x == id) (w := by omega)
        exact HNO.out _ _ hlt (List.getElem?_eq_getElem (by omega)) (by simpa using h1)
      have HF : Hid (fstV zs id k = -1) := Lib.hid (by unfold fstV; rw [if_neg hf])
      clear hf
      go_wp2
      go_ret
      rw [HF.out]
      exact ⟨rfl, rfl⟩
/-- without that number -/
def del (zs : List Int) (id : Int) : List Int := zs.filter fun x => !(x == id)
theorem del_app (a b : List Int) (id : Int) : del (a ++ b) id = del a id ++ del b id := by simp [del]
theorem del_none {zs : List Int} {id : Int} (h : ∀ x ∈ zs, x ≠ id) : del zs id = zs := by
  unfold del
  rw [List.filter_eq_self]
  intro x hx
  simpa using h x hx
theorem take_succ_get {zs : List Int} {j : Nat} {x : Int} (h : zs[j]? = some x) : zs.take (j + 1) = zs.take j ++ [x] := by
  rw [List.take_add_one, h]
  rfl
theorem fst_before {zs : List Int} {id : Int} {j : Nat} {x : Int} (hj : j < fst zs id) (hx : zs[j]? = some x) : x ≠ id := by
  unfold fst at hj
  have h1 := List.not_of_lt_findIdx hj
  have h2 : zs[j]'(by have := (List.getElem?_eq_some_iff.1 hx).1; omega) = x := (List.getElem?_eq_some_iff.1 hx).2
  rw [h2] at h1
  simpa using h1
theorem fst_at {zs : List Int} {id : Int} (h : fst zs id < zs.length) : zs[fst zs id]? = some id := by
  have h1 := List.findIdx_getElem (xs := zs) (p := fun x => x == id) (w := h)
  have h2 : zs[fst zs id] = id := by
    have h3 : (zs[fst zs id] == id) = true := h1
    simpa using h3
  rw [List.getElem?_eq_getElem h, h2]
theorem ints_rep (k : Nat) : ints (List.replicate k 0) = List.replicate k (Value.int .i64 0) := by simp [ints]
set_option maxRecDepth 100000 in
set_option maxHeartbeats 8000000 in
theorem deleteNum_c (base n : Nat) (v : Value) (zs : List Int) (id : Int) (p : Nat) (w : World) (hn : n ≤ 100000) (hR : w.ownsRow base 3 1 v n (ints zs)) (hp : w.cell? ⟨p, 0, none⟩ = some (.int .i64 id)) (hpw : p < w.heap.size) (hpv : v.ownBlock ≠ some p) :
    Calls Try.prog 50 #[v, .func (.func 51) #[] #[.pointer (some ⟨p, 0, none⟩)]] w fun e w' => ∃ v', e = .returned v' ∧ w'.ownsRow base 3 1 v' (del zs id).length (ints (del zs id)) ∧ v'.ownBlock = v.ownBlock ∧ Mod (fun b => v.ownBlock = some b) w w' := by
  have hl := row_len hR
  have HR := Lib.hid hR
  have hvf : ∃ A c, v = .slice A n c := by
    rcases hR.2 with ⟨rfl, h0⟩ | ⟨g, cap, cur, rfl, _⟩
    · exact ⟨none, 0, by rw [h0]⟩
    · exact ⟨_, cap, rfl⟩
  obtain ⟨A, c, rfl⟩ := hvf
  clear hR
  go_enter Try.func50, Try.ntmps50
  go_wp2_with fail
  refine (indexNum_c base n (.slice A n c) zs id p w hn HR.out hp).mono ?_
  rintro e w' ⟨rfl, rfl⟩
  by_cases hf : fst zs id < n
  rotate_left
  · have HF : Hid (fstV zs id n = -1) := Lib.hid (by unfold fstV; rw [if_neg hf])
    have HD : Hid (del zs id = zs) := Lib.hid (del_none fun x hx => by
      obtain ⟨j, hj, rfl⟩ := List.mem_iff_getElem.1 hx
      exact fst_before (by omega) (List.getElem?_eq_getElem hj))
    clear hf
    rw [HF.out]
    go_wp2
    go_ret
    exact ⟨_, rfl, by rw [HD.out, hl]; exact HR.out, rfl, Mod.refl _ _⟩
  have HF : Hid (fstV zs id n = (fst zs id : Int)) := Lib.hid (by unfold fstV; rw [if_pos hf])
  rw [HF.out]
  obtain ⟨g, cap, hv, hbg, hgl, hcap, hmx, _, _, _⟩ := row_at HR.out (by omega)
  cases hv
  obtain ⟨k0, hk0⟩ : ∃ k0, k0 = fst zs id := ⟨_, rfl⟩
  have HAT : Hid (zs[k0]? = some id ∧ del (zs.take (k0 + 1)) id = zs.take k0) := Lib.hid (by
    have h1 := fst_at (zs := zs) (id := id) (by omega)
    rw [← hk0] at h1
    refine ⟨h1, ?_⟩
    rw [take_succ_get h1, del_app, del_none fun x hx => ?_]
    · simp [del]
    · obtain ⟨j, hj, rfl⟩ := List.mem_iff_getElem.1 hx
      rw [List.getElem_take]
      exact fst_before (by simp at hj; omega) (List.getElem?_eq_getElem _))
  rw [← hk0] at hf ⊢
  clear hk0 HF
  have hpg : p ≠ g := fun e => hpv (by rw [e]; rfl)
  have de : ((k0 : Int) == -1) = false := by simp <;> omega
  go_wp2
  go_loopw [5, 6] (fun vi vj wr => ∃ (i j : Nat) (zs' : List Int), j ≤ n ∧ i < j ∧ vi = .int .i64 i ∧ vj = .int .i64 j ∧ zs'.length = n ∧ zs'.take i = del (zs.take j) id ∧ zs'.drop j = zs.drop j ∧ wr.ownsRow base 3 1 (.slice (some ⟨g, 0, none⟩) n c) n (ints zs') ∧ Mod (· = g) w wr) (fun _ vj _ => n - (intOf vj).toNat)
  case atStart => exact ⟨k0, k0 + 1, zs, by omega, by omega, rfl, by simp, hl, HAT.out.2.symm, rfl, HR.out, Mod.refl _ _⟩
  obtain ⟨i, j, zs', hj, hij, rfl, rfl, hl', ht, hd, hown, hmd⟩ := hrel
  have HT := Lib.hid ht
  have HDR := Lib.hid hd
  have HO := Lib.hid hown
  have HM := Lib.hid hmd
  have hp' := (hmd.cell hpw hpg).trans hp
  have hgl' := hmd.size
  clear ht hd hown hmd
  by_cases hin : j < n
  · have dk : decide ((j : Int) < (n : Int)) = true := decide_eq_true (by omega)
    obtain ⟨x, hx⟩ : ∃ x, zs'[j]? = some x := ⟨_, List.getElem?_eq_getElem (by omega)⟩
    have hxz : zs[j]? = some x := by
      have h1 : (zs'.drop j)[0]? = some x := by simpa using hx
      rw [HDR.out] at h1
      simpa using h1
    obtain ⟨y, hy⟩ : ∃ y, zs'[i]? = some y := ⟨_, List.getElem?_eq_getElem (by omega)⟩
    obtain ⟨g', cap', hv, _, hgl2, _, _, hfz, hcs, _⟩ := row_at HO.out (by omega)
    cases hv
    have q0 := hcs j _ (ints_get hx)
    have q1 := hcs i _ (ints_get hy)
    have f1 := hfz i
    have HXZ := Lib.hid hxz
    have HX := Lib.hid hx
    clear hcs hfz hx hxz hy
    go_wp2_with fail
    refine (isNum_c x id p _ hp').mono ?_
    rintro e w' ⟨rfl, rfl⟩
    have HDS : Hid (zs'.drop (j + 1) = zs.drop (j + 1)) := Lib.hid (by
      have := congrArg (List.drop 1) HDR.out
      simpa [List.drop_drop] using this)
    by_cases he : x = id
    · have de2 : (x == id) = true := by simpa using he
      have HTS : Hid (zs'.take i = del (zs.take (j + 1)) id) := Lib.hid (by rw [HT.out, take_succ_get HXZ.out, del_app]; simp [del, de2])
      clear he
      go_wp2
      go_roundw
      case rel => exact ⟨i, j + 1, zs', by omega, by omega, rfl, by go_num, hl', HTS.out, HDS.out, HO.out, HM.out⟩
      case measure => simp [intOf]; omega
    · have de2 : (x == id) = false := by simpa using he
      have HTS : Hid ((zs'.set i x).take (i + 1) = del (zs.take (j + 1)) id) := Lib.hid (by
        rw [take_succ_get (zs := zs'.set i x) (j := i) (x := x) (by rw [List.getElem?_set_self (by omega)]), List.take_set_of_le (by omega), HT.out, take_succ_get HXZ.out, del_app]
        simp [del, de2])
      clear he
      go_wp2
      go_roundw
      case rel =>
        have h2 := row_set (i := i) (x := .int .i64 x) HO.out (by rw [ints_len]; omega)
        rw [ints_set] at h2
        exact ⟨i + 1, j + 1, zs'.set i x, by omega, by omega, by go_num, by go_num, by simp; omega, HTS.out, by rw [List.drop_set_of_lt (by omega)]; exact HDS.out, h2, HM.out.set (.inl rfl)⟩
      case measure => simp [intOf]; omega
  · have dk : decide ((j : Int) < (n : Int)) = false := decide_eq_false (by omega)
    obtain rfl : j = n := by omega
    obtain ⟨g', cap', hv, _, hgl2, _, _, hfz, hcs, _⟩ := row_at HO.out (by omega)
    cases hv
    have hs1 : ∀ w', (Instr.slice 71 (.slice (some ⟨g, 0, none⟩) j c) (some (.int .i64 (i : Int))) none none).run Try.prog w' = .ok (.slice (some ⟨g, i, none⟩) (j - i) (c - i)) w' := fun w' => by
      have hsz : (sizeOf (Try.prog.elem 71)).run Try.prog w' = .ok 1 w' := by kernel_rfl
      rw [run_slice_l w' 71 (some ⟨g, 0, none⟩) j c (by kernel_rfl) .i64 (i : Int) (by omega) (by omega)]
      rw [hsz]
      have hne : c ≠ i := by omega
      simp [Result.andThen, sliced, hne, Addr.add]
      exact fun h => h.symm
    have hs2 : ∀ w', (Instr.slice 71 (.slice (some ⟨g, 0, none⟩) j c) none (some (.int .i64 (i : Int))) none).run Try.prog w' = .ok (.slice (some ⟨g, 0, none⟩) i c) w' := fun w' => by
      have hsz : (sizeOf (Try.prog.elem 71)).run Try.prog w' = .ok 1 w' := by kernel_rfl
      rw [run_slice_h w' 71 (some ⟨g, 0, none⟩) j c (by kernel_rfl) .i64 (i : Int) (by omega) (by omega)]
      rw [hsz]
      have hc0 : c ≠ 0 := by omega
      simp [Result.andThen, sliced, hc0, Addr.add]
    have hcl : ∀ ty, (Builtin.clear_ #[71] ty #[.slice (some ⟨g, i, none⟩) (j - i) (c - i)]).run Try.prog wr = .ok (.tuple #[]) (wr.setCells g i (ints (List.replicate (j - i) 0))) := fun ty => by
      rw [ints_rep]
      refine Lib.run_clear_slice wr 71 3 ty (.int .i64 0) Try.underlying71 (fun w => Try.zeroValue3 w) rfl rfl g i (j - i) (c - i) (by omega) (fun q hq => ?_) (fun q _ => hfz _)
      obtain ⟨y, hy⟩ : ∃ y, zs'[i + q]? = some y := ⟨_, List.getElem?_eq_getElem (by omega)⟩
      rw [hcs _ _ (ints_get hy)]
      rfl
    obtain ⟨zt, e1, e2, hrow⟩ := row_sets (List.replicate (j - i) 0) i wr zs' HO.out (by simp; omega)
    have hfin := row_take (k := i) hrow (by omega)
    have HFIN : Hid ((wr.setCells g i (ints (List.replicate (j - i) 0))).ownsRow base 3 1 (.slice (some ⟨g, 0, none⟩) i c) i (ints (del zs id))) := Lib.hid (by
      rw [e2, HT.out, List.take_of_length_le (by omega)] at hfin
      exact hfin)
    have HLN : Hid ((del zs id).length = i) := Lib.hid (row_len HFIN.out)
    have HMD : Hid (Mod (· = g) w (wr.setCells g i (ints (List.replicate (j - i) 0)))) := Lib.hid (modSets (S := (· = g)) rfl _ _ _ HM.out)
    clear hcs hfz e1 e2 hrow hfin
    go_wp2
    go_ret
    refine ⟨_, rfl, by rw [HLN.out]; exact HFIN.out, rfl, HMD.out.mono fun b _ e => by rw [e]; rfl⟩
end Go.Proofs.Ytefhmbmbhiehdaa
