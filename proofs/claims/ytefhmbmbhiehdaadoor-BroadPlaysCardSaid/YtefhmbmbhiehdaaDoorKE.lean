/- What Query answers, looked at, in a round of gyrelaw.BroadPlays. Conditions: none. -/
import Derived.Deep.CutRange
import Derived.Deep.CutBlock
import Derived.Test.YtefhmbmbhiehdaaDoorKBt16
import Derived.Test.YtefhmbmbhiehdaaDoorKBare
import Derived.Test.YtefhmbmbhiehdaaDoorKOpen
namespace Go.Proofs.YtefhmbmbhiehdaaDoor
open Go Go.Maps Go.RowKit Go.BigFrame Go.ChangeShapes Go.WideShapes
/-- the block n in a function's code -/
def findBlk (n : Nat) : Code → Option Code
  | .seq a b => match findBlk n a with | some c => some c | none => findBlk n b
  | .cond _ t e => match findBlk n t with | some c => some c | none => findBlk n e
  | .block m b => if m == n then some (.block m b) else findBlk n b
  | .loop b => findBlk n b
  | _ => none
def blockC (f : Func) (n : Nat) : Code := match f.body with | some c => (findBlk n c).getD .skip | none => .skip
set_option maxRecDepth 100000 in
/-- a frame written out -/
theorem act_lit (a : Act) (hs : a.tmps.size = 370) (hd : a.defers = []) (g : Nat → Value) (hg : ∀ i, g i = a.tmps.getD i undef) : a = { tmps := #[g 0, g 1, g 2, g 3, g 4, g 5, g 6, g 7, g 8, g 9, g 10, g 11, g 12, g 13, g 14, g 15, g 16, g 17, g 18, g 19, g 20, g 21, g 22, g 23, g 24, g 25, g 26, g 27, g 28, g 29, g 30, g 31, g 32, g 33, g 34, g 35, g 36, g 37, g 38, g 39, g 40, g 41, g 42, g 43, g 44, g 45, g 46, g 47, g 48, g 49, g 50, g 51, g 52, g 53, g 54, g 55, g 56, g 57, g 58, g 59, g 60, g 61, g 62, g 63, g 64, g 65, g 66, g 67, g 68, g 69, g 70, g 71, g 72, g 73, g 74, g 75, g 76, g 77, g 78, g 79, g 80, g 81, g 82, g 83, g 84, g 85, g 86, g 87, g 88, g 89, g 90, g 91, g 92, g 93, g 94, g 95, g 96, g 97, g 98, g 99, g 100, g 101, g 102, g 103, g 104, g 105, g 106, g 107, g 108, g 109, g 110, g 111, g 112, g 113, g 114, g 115, g 116, g 117, g 118, g 119, g 120, g 121, g 122, g 123, g 124, g 125, g 126, g 127, g 128, g 129, g 130, g 131, g 132, g 133, g 134, g 135, g 136, g 137, g 138, g 139, g 140, g 141, g 142, g 143, g 144, g 145, g 146, g 147, g 148, g 149, g 150, g 151, g 152, g 153, g 154, g 155, g 156, g 157, g 158, g 159, g 160, g 161, g 162, g 163, g 164, g 165, g 166, g 167, g 168, g 169, g 170, g 171, g 172, g 173, g 174, g 175, g 176, g 177, g 178, g 179, g 180, g 181, g 182, g 183, g 184, g 185, g 186, g 187, g 188, g 189, g 190, g 191, g 192, g 193, g 194, g 195, g 196, g 197, g 198, g 199, g 200, g 201, g 202, g 203, g 204, g 205, g 206, g 207, g 208, g 209, g 210, g 211, g 212, g 213, g 214, g 215, g 216, g 217, g 218, g 219, g 220, g 221, g 222, g 223, g 224, g 225, g 226, g 227, g 228, g 229, g 230, g 231, g 232, g 233, g 234, g 235, g 236, g 237, g 238, g 239, g 240, g 241, g 242, g 243, g 244, g 245, g 246, g 247, g 248, g 249, g 250, g 251, g 252, g 253, g 254, g 255, g 256, g 257, g 258, g 259, g 260, g 261, g 262, g 263, g 264, g 265, g 266, g 267, g 268, g 269, g 270, g 271, g 272, g 273, g 274, g 275, g 276, g 277, g 278, g 279, g 280, g 281, g 282, g 283, g 284, g 285, g 286, g 287, g 288, g 289, g 290, g 291, g 292, g 293, g 294, g 295, g 296, g 297, g 298, g 299, g 300, g 301, g 302, g 303, g 304, g 305, g 306, g 307, g 308, g 309, g 310, g 311, g 312, g 313, g 314, g 315, g 316, g 317, g 318, g 319, g 320, g 321, g 322, g 323, g 324, g 325, g 326, g 327, g 328, g 329, g 330, g 331, g 332, g 333, g 334, g 335, g 336, g 337, g 338, g 339, g 340, g 341, g 342, g 343, g 344, g 345, g 346, g 347, g 348, g 349, g 350, g 351, g 352, g 353, g 354, g 355, g 356, g 357, g 358, g 359, g 360, g 361, g 362, g 363, g 364, g 365, g 366, g 367, g 368, g 369], defers := [] } := by
  obtain ⟨ts, ds⟩ := a
  simp only at hs hd hg
  subst hd
  have e : ts = ((List.range 370).map g).toArray := by
    apply Array.ext
    · simp [hs]
    · intro i h1 h2
      have e1 : g i = ts[i] := by
        rw [hg i]
        simp [Array.getD, h1]
      simp [e1]
  rw [e]
  rfl
theorem many_w (w : World) (t : Nat) (nv fv : Value) (rt : Int) (som : Bool) (lf bx : Nat) (fat : Int) (m n : Nat) (f : Int → Option Value) (hb : Blk w t #[nv, fv, .int .i64 rt, .bool som, .map (some lf), .map (some bx), .int .i64 fat]) (hv : VI w lf m n f) :
    Calls Tryd.prog 12 #[.pointer (some ⟨t, 0, none⟩)] w fun e w' => e = .returned (.int .i64 (n : Int)) ∧ w = w' := by
  have HB := Lib.hid hb
  have HV := Lib.hid hv
  clear hb hv
  obtain ⟨zt, ct, ft⟩ := id HB.out
  go_enter Tryd.func12, Tryd.ntmps12
  go_wp2_with (at_len; refine at_lenG (by rfl) _ rfl Tryd.underlying52 rfl HV.out ?_)
  go_ret
  exact ⟨rfl, rfl⟩
theorem many_c (w : World) (t : Nat) (fat : Int) (p : Nat) (D : Int → Option Bx) (n : Nat) (S : Nat → Prop) (hB : BW w t fat p D n S) :
    Calls Tryd.prog 12 #[.pointer (some ⟨t, 0, none⟩)] w fun e w' => e = .returned (.int .i64 (n : Int)) ∧ w = w' := by
  obtain ⟨hB', hL⟩ := hB
  rcases hB' with ⟨lf, bx, hF, hD, hn, hS⟩ | ⟨s, M, F, m, mb, f, o, hX, _⟩
  · subst hn
    exact many_w w t _ _ _ _ lf bx _ _ _ _ hF.blk hF.lfm
  · exact many_w w t _ _ _ _ s.lf s.bx _ _ _ _ hX.tw.blk hX.tw.lfm
theorem high_none (w : World) (t : Nat) (nv fv : Value) (rt : Int) (lf bx : Nat) (fat : Int) (hb : Blk w t #[nv, fv, .int .i64 rt, .bool false, .map (some lf), .map (some bx), .int .i64 fat]) :
    Calls Tryd.prog 14 #[.pointer (some ⟨t, 0, none⟩)] w fun e w' => e = .returned (.int .i64 0) ∧ Below w.heap.size w w' := by
  have HB := Lib.hid hb
  clear hb
  obtain ⟨zt, ct, ft⟩ := id HB.out
  go_enter Tryd.func14, Tryd.ntmps14
  go_wp2
  go_ret
  exact ⟨rfl, Below.refl _ _⟩
set_option maxRecDepth 100000 in
theorem high_some (w : World) (t nb nn cap k : Nat) (M : Nat → Nat → Int) (fv : Value) (lf bx : Nat) (fat : Int) (hb : Blk w t #[.slice (some ⟨nb, 0, none⟩) nn cap, fv, .int .i64 (k : Int), .bool true, .map (some lf), .map (some bx), .int .i64 fat]) (hN : NT w nb cap nn M) (hk : k < nn) :
    Calls Tryd.prog 14 #[.pointer (some ⟨t, 0, none⟩)] w fun e w' => e = .returned (.int .i64 (M k 10)) ∧ Below w.heap.size w w' := by
  have HB := Lib.hid hb
  have q10 := hN.cell hk (j := 10) (by decide)
  have hbl := hN.lt
  clear hb hN
  obtain ⟨zt, ct, ft⟩ := id HB.out
  go_enter Tryd.func14, Tryd.ntmps14
  go_upto_region 3 with fail
  have hmc := more_cell
  refine region_quiet_all (by kernel_rfl) (by kernel_rfl) ?_
  repeat (go_big_quiet_step (fail))
  refine wpQuiet_nil ?_
  rintro w1 hw1
  have hb1 := after_below hw1
  clear hw1 hmc zt ct ft q10 hbl
  go_wp2
  go_ret
  exact ⟨rfl, hb1⟩
/-- how high a tree may be -/
def HighOk (h : Int) (n : Nat) : Prop := (n < 2 → h = 0) ∧ (2 ≤ n → 1 ≤ h ∧ h < n ∧ h ≤ 40)
theorem high_c (w : World) (t : Nat) (fat : Int) (p : Nat) (D : Int → Option Bx) (n : Nat) (S : Nat → Prop) (hB : BW w t fat p D n S) :
    Calls Tryd.prog 14 #[.pointer (some ⟨t, 0, none⟩)] w fun e w' => ∃ h : Int, e = .returned (.int .i64 h) ∧ HighOk h n ∧ Below w.heap.size w w' := by
  obtain ⟨hB', hL⟩ := hB
  rcases hB' with ⟨lf, bx, hF, hD, hn, hS⟩ | ⟨s, M, F, m, mb, f, o, hX, h1, h2, h3, h4, h5, h6⟩
  · subst hn
    exact (high_none w t _ _ _ lf bx _ hF.blk).mono fun e w' ⟨he, hb⟩ => ⟨0, he, ⟨fun _ => rfl, fun h => absurd h (by omega)⟩, hb⟩
  · cases o with
    | none =>
      obtain ⟨hs, _, hn⟩ := hX.tre.none_ rfl
      subst hn
      exact (high_none w t _ _ _ s.lf s.bx _ (by rw [← hs]; exact hX.tw.blk)).mono fun e w' ⟨he, hb⟩ => ⟨0, he, ⟨fun _ => rfl, fun h => absurd h (by omega)⟩, hb⟩
    | some T =>
      obtain ⟨hs, hr, hR, hbal, _, hl⟩ := hX.tre.some_ T rfl
      refine (high_some w t s.nb s.nn s.cap T.ix M s.fv s.lf s.bx s.fat (by rw [← hs, ← hr]; exact hX.tw.blk) hX.tw.nt (hX.tre.lt _ (List.mem_append_left _ T.ix_mem))).mono ?_
      rintro e w' ⟨he, hb⟩
      have e10 : M T.ix 10 = T.h := hR.h
      have a := T.h0
      have b := T.h_lt
      have c := Tr.low hbal (by omega)
      refine ⟨T.h, by rw [he, e10], ⟨fun h => by omega, fun h => ⟨Tr.h_pos (by omega), by omega, by omega⟩⟩, hb⟩
theorem lawhigh_c (h : Int) (n : Nat) (hn : n ≤ 60) (ho : HighOk h n) (w : World) : Calls Tryd.prog 13 #[.int .i64 h, .int .i64 (n : Int)] w fun e w' => e = .returned (.bool true) ∧ w = w' := by
  obtain ⟨h1, h2⟩ := ho
  by_cases h3 : n < 2
  · have h4 := h1 h3
    have d1 : decide ((n : Int) < 2) = true := decide_eq_true (by omega)
    subst h4
    clear h1 h2 h3 hn
    go_enter Tryd.func13, Tryd.ntmps13
    go_wp2
    go_ret
    exact ⟨rfl, rfl⟩
  · obtain ⟨h4, h5, h6⟩ := h2 (by omega)
    have d1 : decide ((n : Int) < 2) = false := decide_eq_false (by omega)
    have d2 : decide ((1 : Int) ≤ h) = true := decide_eq_true h4
    have d3 : decide (h < (n : Int)) = true := decide_eq_true h5
    have d4 : decide (h ≤ 40) = true := decide_eq_true h6
    clear h1 h2 h3 hn
    go_enter Tryd.func13, Tryd.ntmps13
    go_wp2
    go_ret
    exact ⟨rfl, rfl⟩
/-- New, of a fat that may not be -/
theorem bnew_no (fat : Int) (hf : fat < 0 ∨ 3276800 < fat) (w : World) : Calls Tryd.prog 4 #[.int .i64 fat] w fun e w' => e = .returned (.tuple #[.pointer none, errV 2]) ∧ w = w' := by
  rw [errV_n (by decide)]
  rcases Int.lt_or_le fat 0 with h0 | h0
  · clear hf
    go_enter Tryd.func4, Tryd.ntmps4
    go_wp2
    exact bodyPost_ret (v := .tuple #[.pointer none, .iface 29 (.int .i64 2)]) (by simp [results, Tryd.results4, go_sem, *]) rfl ⟨rfl, rfl⟩
  · have h1 : 3276800 < fat := by omega
    clear hf
    go_enter Tryd.func4, Tryd.ntmps4
    go_wp2
    exact bodyPost_ret (v := .tuple #[.pointer none, .iface 29 (.int .i64 2)]) (by simp [results, Tryd.results4, go_sem, *]) rfl ⟨rfl, rfl⟩
/-- between two rounds of the law -/
structure BPl (w0 wr : World) (t : Nat) (fat : Int) (p : Nat) (D : Int → Option Bx) (n : Nat) (S : Nat → Prop) (mb bm : Nat) : Prop where
  bw : BW wr t fat p D n S
  map : VI wr mb bm n (fun id => (D id).map bxV)
  mne : ¬ S mb
  keys : KeysOk D
  los : ∀ x, S x → w0.heap.size ≤ x
  lom : w0.heap.size ≤ mb
  ext : Below w0.heap.size w0 wr
  le : bm ≤ p
  n60 : n ≤ 60
section
variable {w0 wr wr' : World} {t : Nat} {fat : Int} {p : Nat} {D : Int → Option Bx} {n : Nat} {S : Nat → Prop} {mb bm : Nat}
theorem BPl.below (h : BPl w0 wr t fat p D n S mb bm) (k : Below wr.heap.size wr wr') : BPl w0 wr' t fat p D n S mb bm :=
  ⟨h.bw.below k, h.map.below k, h.mne, h.keys, h.los, h.lom, h.ext.trans (k.mono h.ext.size), h.le, h.n60⟩
theorem BPl.up (h : BPl w0 wr t fat p D n S mb bm) : BPl w0 wr t fat (p + 1) D n S mb bm :=
  ⟨h.bw.le (by omega), h.map, h.mne, h.keys, h.los, h.lom, h.ext, by have := h.le; omega, h.n60⟩
end
/-- the document's error: beyond, the first j parts looked at -/
def erA (lo hi : Nat → Int) : Nat → Int
  | 0 => 0
  | j + 1 => if erA lo hi j = 0 ∧ (lo j < -70368744177664 ∨ 70368744177664 < hi j) then 2 else erA lo hi j
/-- turned over -/
def erB (lo hi : Nat → Int) (e : Int) : Nat → Int
  | 0 => e
  | j + 1 => if hi j < lo j then 1 else erB lo hi e j
def loF (b : Bx) : Nat → Int := fun j => match j with | 0 => b.a1 | 1 => b.a2 | _ => b.a3
def hiF (b : Bx) : Nat → Int := fun j => match j with | 0 => b.b1 | 1 => b.b2 | _ => b.b3
theorem erA_is (lo hi : Nat → Int) : ∀ j, erA lo hi j = 0 ∨ erA lo hi j = 2 := by
  intro j
  induction j with
  | zero => exact .inl rfl
  | succ j ih =>
    unfold erA
    split
    · exact .inr rfl
    · exact ih
theorem erB_all (b : Bx) : erB (loF b) (hiF b) (erA (loF b) (hiF b) 3) 3 = if wrongX b then 1 else if beyondX b then 2 else 0 := by
  obtain ⟨a1, a2, a3, b1, b2, b3⟩ := b
  simp only [erB, erA, loF, hiF, wrongX, beyondX, Bool.or_eq_true, decide_eq_true_eq]
  by_cases h1 : b1 < a1 <;> by_cases h2 : b2 < a2 <;> by_cases h3 : b3 < a3 <;> simp only [h1, h2, h3, if_true, if_false, or_true, or_false]
  by_cases k : (min (min a1 a2) a3 < -70368744177664 ∨ 70368744177664 < max (max b1 b2) b3)
  · rw [if_pos k]
    by_cases k1 : a1 < -70368744177664 ∨ 70368744177664 < b1
    · simp [k1]
    · by_cases k2 : a2 < -70368744177664 ∨ 70368744177664 < b2
      · simp [k1, k2]
      · have k3 : a3 < -70368744177664 ∨ 70368744177664 < b3 := by omega
        simp [k1, k2, k3]
  · rw [if_neg k]
    have k1 : ¬ (a1 < -70368744177664 ∨ 70368744177664 < b1) := by omega
    have k2 : ¬ (a2 < -70368744177664 ∨ 70368744177664 < b2) := by omega
    have k3 : ¬ (a3 < -70368744177664 ∨ 70368744177664 < b3) := by omega
    simp [k1, k2, k3]
end Go.Proofs.YtefhmbmbhiehdaaDoor
namespace Go.Proofs.YtefhmbmbhiehdaaDoor
open Go Go.Maps Go.RowKit Go.BigFrame Go.ChangeShapes Go.WideShapes
/-- slots of a frame -/
def Lv (a : Act) (l : List (Nat × Value)) : Prop := a.tmps.size = 370 ∧ a.defers = [] ∧ ∀ x ∈ l, a.tmps.getD x.1 undef = x.2
theorem blk_lo {w : World} {b : Nat} {a1 a2 a3 b1 b2 b3 : Int} (h : Blk w b #[.int .i64 a1, .int .i64 a2, .int .i64 a3]) {j : Nat} (hj : j < 3) : w.cell? ⟨b, j, none⟩ = some (.int .i64 (loF ⟨a1, a2, a3, b1, b2, b3⟩ j)) := by
  rw [h.cell]
  match j, hj with
  | 0, _ => rfl
  | 1, _ => rfl
  | 2, _ => rfl
theorem blk_hi {w : World} {b : Nat} {a1 a2 a3 b1 b2 b3 : Int} (h : Blk w b #[.int .i64 b1, .int .i64 b2, .int .i64 b3]) {j : Nat} (hj : j < 3) : w.cell? ⟨b, j, none⟩ = some (.int .i64 (hiF ⟨a1, a2, a3, b1, b2, b3⟩ j)) := by
  rw [h.cell]
  match j, hj with
  | 0, _ => rfl
  | 1, _ => rfl
  | 2, _ => rfl
set_option maxRecDepth 100000 in
set_option maxHeartbeats 8000000 in
theorem errA_way {Q : Exit → Act → World → Prop} {a0 : Act} {w : World} {gl gh : Nat} {a1 a2 a3 b1 b2 b3 : Int} (h0 : Lv a0 [(12, .int .i64 0), (13, .slice (some ⟨gl, 0, none⟩) 3 3), (14, .slice (some ⟨gh, 0, none⟩) 3 3), (15, .int .i64 0)]) (HL : Hid (Blk w gl #[.int .i64 a1, .int .i64 a2, .int .i64 a3])) (HH : Hid (Blk w gh #[.int .i64 b1, .int .i64 b2, .int .i64 b3]))
    (HQ : Hid (∀ (a : Act) (wx : World), Lv a [(12, .int .i64 (erA (loF ⟨a1, a2, a3, b1, b2, b3⟩) (hiF ⟨a1, a2, a3, b1, b2, b3⟩) 3)), (13, .slice (some ⟨gl, 0, none⟩) 3 3), (14, .slice (some ⟨gh, 0, none⟩) 3 3)] → (∀ i ∈ [1, 5, 7, 8, 9, 11], a.tmps.getD i undef = a0.tmps.getD i undef) → wx = w → Q .normal a wx)) :
    Code.wp Tryd.prog (blockC Tryd.f3 3) Q a0 w := by
  obtain ⟨g, hg⟩ : ∃ g : Nat → Value, ∀ i, g i = a0.tmps.getD i undef := ⟨_, fun _ => rfl⟩
  rw [act_lit a0 h0.1 h0.2.1 g hg]
  rw [show g 12 = .int .i64 0 from (hg 12).trans (h0.2.2 (12, .int .i64 0) (by simp))]
  rw [show g 13 = .slice (some ⟨gl, 0, none⟩) 3 3 from (hg 13).trans (h0.2.2 (13, .slice (some ⟨gl, 0, none⟩) 3 3) (by simp))]
  rw [show g 14 = .slice (some ⟨gh, 0, none⟩) 3 3 from (hg 14).trans (h0.2.2 (14, .slice (some ⟨gh, 0, none⟩) 3 3) (by simp))]
  rw [show g 15 = .int .i64 0 from (hg 15).trans (h0.2.2 (15, .int .i64 0) (by simp))]
  have HG := Lib.hid hg
  clear hg h0
  conv => arg 2; whnf
  dsimp only
  go_wp2
  go_loopg [12, 15] 3 (fun k e j wr => ∃ jj : Nat, j = .int .i64 (jj : Int) ∧ jj ≤ 3 ∧ k = 3 - jj ∧ e = .int .i64 (erA (loF ⟨a1, a2, a3, b1, b2, b3⟩) (hiF ⟨a1, a2, a3, b1, b2, b3⟩) jj) ∧ wr = w)
  case atStart => exact ⟨0, rfl, by omega, rfl, rfl, rfl⟩
  case round =>
    obtain ⟨jj, rfl, hj, hk, rfl, rfl⟩ := hrel
    by_cases hl : jj < 3
    · have d0 : decide ((jj : Int) < 3) = true := decide_eq_true (by omega)
      have qL := blk_lo (b1 := b1) (b2 := b2) (b3 := b3) HL.out hl
      have qH := blk_hi (a1 := a1) (a2 := a2) (a3 := a3) HH.out hl
      have hw1 : wrap64 ((jj : Int) + 1) = (jj : Int) + 1 := by unfold wrap64; omega
      have hgl := HL.out.lt
      have hgh := HH.out.lt
      have HS : Hid (erA (loF ⟨a1, a2, a3, b1, b2, b3⟩) (hiF ⟨a1, a2, a3, b1, b2, b3⟩) (jj + 1) = if erA (loF ⟨a1, a2, a3, b1, b2, b3⟩) (hiF ⟨a1, a2, a3, b1, b2, b3⟩) jj = 0 ∧ ((loF ⟨a1, a2, a3, b1, b2, b3⟩) jj < -70368744177664 ∨ 70368744177664 < (hiF ⟨a1, a2, a3, b1, b2, b3⟩) jj) then 2 else erA (loF ⟨a1, a2, a3, b1, b2, b3⟩) (hiF ⟨a1, a2, a3, b1, b2, b3⟩) jj) := Lib.hid rfl
      obtain ⟨lo, hlo⟩ : ∃ x, x = (loF ⟨a1, a2, a3, b1, b2, b3⟩) jj := ⟨_, rfl⟩
      obtain ⟨hi, hhi⟩ : ∃ x, x = (hiF ⟨a1, a2, a3, b1, b2, b3⟩) jj := ⟨_, rfl⟩
      rw [← hlo] at qL HS
      rw [← hhi] at qH HS
      clear hlo hhi
      have fin : ∀ v : Int, v = erA (loF ⟨a1, a2, a3, b1, b2, b3⟩) (hiF ⟨a1, a2, a3, b1, b2, b3⟩) (jj + 1) → True := fun _ _ => trivial
      clear fin
      rcases erA_is (loF ⟨a1, a2, a3, b1, b2, b3⟩) (hiF ⟨a1, a2, a3, b1, b2, b3⟩) jj with he | he
      · rw [he] at HS ⊢
        by_cases h1 : lo < -70368744177664
        · have HE : Hid (erA (loF ⟨a1, a2, a3, b1, b2, b3⟩) (hiF ⟨a1, a2, a3, b1, b2, b3⟩) (jj + 1) = 2) := Lib.hid (by rw [HS.out, if_pos ⟨rfl, .inl h1⟩])
          clear he HS
          go_wp2
          go_roundg (3 - (jj + 1))
          case measure => omega
          case rel => exact ⟨jj + 1, (by first | (simp; done) | (simp; exact hw1)), by omega, rfl, by rw [HE.out], rfl⟩
        · have h1' := Int.not_lt.1 h1
          by_cases h2 : 70368744177664 < hi
          · have HE : Hid (erA (loF ⟨a1, a2, a3, b1, b2, b3⟩) (hiF ⟨a1, a2, a3, b1, b2, b3⟩) (jj + 1) = 2) := Lib.hid (by rw [HS.out, if_pos ⟨rfl, .inr h2⟩])
            clear he HS
            go_wp2
            go_roundg (3 - (jj + 1))
            case measure => omega
            case rel => exact ⟨jj + 1, (by first | (simp; done) | (simp; exact hw1)), by omega, rfl, by rw [HE.out], rfl⟩
          · have HE : Hid (erA (loF ⟨a1, a2, a3, b1, b2, b3⟩) (hiF ⟨a1, a2, a3, b1, b2, b3⟩) (jj + 1) = 0) := Lib.hid (by rw [HS.out, if_neg (fun h => h.2.elim h1 h2)])
            have h2' := Int.not_lt.1 h2
            clear he HS
            go_wp2
            go_roundg (3 - (jj + 1))
            case measure => omega
            case rel => exact ⟨jj + 1, (by first | (simp; done) | (simp; exact hw1)), by omega, rfl, by rw [HE.out], rfl⟩
      · have HE : Hid (erA (loF ⟨a1, a2, a3, b1, b2, b3⟩) (hiF ⟨a1, a2, a3, b1, b2, b3⟩) (jj + 1) = 2) := Lib.hid (by rw [HS.out, he, if_neg (fun h => absurd h.1 (by decide))])
        rw [he]
        clear he HS
        go_wp2
        go_roundg (3 - (jj + 1))
        case measure => omega
        case rel => exact ⟨jj + 1, (by first | (simp; done) | (simp; exact hw1)), by omega, rfl, by rw [HE.out], rfl⟩
    · have d0 : decide ((jj : Int) < 3) = false := decide_eq_false (by omega)
      have ej : jj = 3 := by omega
      subst ej
      go_wp2
      exact HQ.out _ _ ⟨rfl, rfl, by intro x hx; simp only [List.mem_cons, List.not_mem_nil, or_false] at hx; rcases hx with rfl | rfl | rfl <;> rfl⟩ (by intro i hi; simp only [List.mem_cons, List.not_mem_nil, or_false] at hi; rcases hi with rfl | rfl | rfl | rfl | rfl | rfl <;> exact HG.out _) rfl
set_option maxRecDepth 100000 in
set_option maxHeartbeats 8000000 in
theorem errB_way {Q : Exit → Act → World → Prop} {a0 : Act} {w : World} {gl gh : Nat} {a1 a2 a3 b1 b2 b3 : Int} {e0 : Int} (h0 : Lv a0 [(12, .int .i64 e0), (13, .slice (some ⟨gl, 0, none⟩) 3 3), (14, .slice (some ⟨gh, 0, none⟩) 3 3), (16, .int .i64 0)]) (HL : Hid (Blk w gl #[.int .i64 a1, .int .i64 a2, .int .i64 a3])) (HH : Hid (Blk w gh #[.int .i64 b1, .int .i64 b2, .int .i64 b3]))
    (HQ : Hid (∀ (a : Act) (wx : World), Lv a [(12, .int .i64 (erB (loF ⟨a1, a2, a3, b1, b2, b3⟩) (hiF ⟨a1, a2, a3, b1, b2, b3⟩) e0 3))] → (∀ i ∈ [1, 5, 7, 8, 9, 11], a.tmps.getD i undef = a0.tmps.getD i undef) → Below w.heap.size w wx → Q .normal a wx)) :
    Code.wp Tryd.prog (blockC Tryd.f3 5) Q a0 w := by
  obtain ⟨g, hg⟩ : ∃ g : Nat → Value, ∀ i, g i = a0.tmps.getD i undef := ⟨_, fun _ => rfl⟩
  rw [act_lit a0 h0.1 h0.2.1 g hg]
  rw [show g 12 = .int .i64 e0 from (hg 12).trans (h0.2.2 (12, .int .i64 e0) (by simp))]
  rw [show g 13 = .slice (some ⟨gl, 0, none⟩) 3 3 from (hg 13).trans (h0.2.2 (13, .slice (some ⟨gl, 0, none⟩) 3 3) (by simp))]
  rw [show g 14 = .slice (some ⟨gh, 0, none⟩) 3 3 from (hg 14).trans (h0.2.2 (14, .slice (some ⟨gh, 0, none⟩) 3 3) (by simp))]
  rw [show g 16 = .int .i64 0 from (hg 16).trans (h0.2.2 (16, .int .i64 0) (by simp))]
  have HG := Lib.hid hg
  clear hg h0
  conv => arg 2; whnf
  dsimp only
  go_wp2
  go_loopg [12, 16] 3 (fun k e j wr => ∃ jj : Nat, j = .int .i64 (jj : Int) ∧ jj ≤ 3 ∧ k = 3 - jj ∧ e = .int .i64 (erB (loF ⟨a1, a2, a3, b1, b2, b3⟩) (hiF ⟨a1, a2, a3, b1, b2, b3⟩) e0 jj) ∧ Below w.heap.size w wr)
  case atStart => exact ⟨0, rfl, by omega, rfl, rfl, Below.refl _ _⟩
  case round =>
    obtain ⟨jj, rfl, hj, hk, rfl, hb⟩ := hrel
    have HB := Lib.hid hb
    clear hb
    by_cases hl : jj < 3
    · have d0 : decide ((jj : Int) < 3) = true := decide_eq_true (by omega)
      have qL := blk_lo (b1 := b1) (b2 := b2) (b3 := b3) (HL.out.below HB.out) hl
      have qH := blk_hi (a1 := a1) (a2 := a2) (a3 := a3) (HH.out.below HB.out) hl
      have hw1 : wrap64 ((jj : Int) + 1) = (jj : Int) + 1 := by unfold wrap64; omega
      have hgl := (HL.out.below HB.out).lt
      have hgh := (HH.out.below HB.out).lt
      have HS : Hid (erB (loF ⟨a1, a2, a3, b1, b2, b3⟩) (hiF ⟨a1, a2, a3, b1, b2, b3⟩) e0 (jj + 1) = if (hiF ⟨a1, a2, a3, b1, b2, b3⟩) jj < (loF ⟨a1, a2, a3, b1, b2, b3⟩) jj then 1 else erB (loF ⟨a1, a2, a3, b1, b2, b3⟩) (hiF ⟨a1, a2, a3, b1, b2, b3⟩) e0 jj) := Lib.hid rfl
      obtain ⟨lo, hlo⟩ : ∃ x, x = (loF ⟨a1, a2, a3, b1, b2, b3⟩) jj := ⟨_, rfl⟩
      obtain ⟨hi, hhi⟩ : ∃ x, x = (hiF ⟨a1, a2, a3, b1, b2, b3⟩) jj := ⟨_, rfl⟩
      obtain ⟨ev, hev⟩ : ∃ x, x = erB (loF ⟨a1, a2, a3, b1, b2, b3⟩) (hiF ⟨a1, a2, a3, b1, b2, b3⟩) e0 jj := ⟨_, rfl⟩
      rw [← hlo] at qL HS
      rw [← hhi] at qH HS
      rw [← hev] at HS ⊢
      clear hlo hhi hev
      go_upto_region 26 with fail
      have hmc := more_cell
      refine region_quiet_all (by kernel_rfl) (by kernel_rfl) ?_
      repeat (go_big_quiet_step (fail))
      refine wpQuiet_nil ?_
      rintro w8 hw8
      have hb8 := after_below hw8
      have HB8 : Hid (Below w.heap.size w w8) := Lib.hid (HB.out.trans (hb8.mono HB.out.size))
      clear hw8 hmc hb8 qL qH hgl hgh
      by_cases h1 : hi < lo
      · have HE : Hid (erB (loF ⟨a1, a2, a3, b1, b2, b3⟩) (hiF ⟨a1, a2, a3, b1, b2, b3⟩) e0 (jj + 1) = 1) := Lib.hid (by rw [HS.out, if_pos h1])
        clear HS
        go_wp2
        go_roundg (3 - (jj + 1))
        case measure => omega
        case rel => exact ⟨jj + 1, (by first | (simp; done) | (simp; exact hw1)), by omega, rfl, by rw [HE.out], HB8.out⟩
      · have HE : Hid (erB (loF ⟨a1, a2, a3, b1, b2, b3⟩) (hiF ⟨a1, a2, a3, b1, b2, b3⟩) e0 (jj + 1) = ev) := Lib.hid (by rw [HS.out, if_neg h1])
        have h1' := Int.not_lt.1 h1
        clear HS
        go_wp2
        go_roundg (3 - (jj + 1))
        case measure => omega
        case rel => exact ⟨jj + 1, (by first | (simp; done) | (simp; exact hw1)), by omega, rfl, by rw [HE.out], HB8.out⟩
    · have d0 : decide ((jj : Int) < 3) = false := decide_eq_false (by omega)
      have ej : jj = 3 := by omega
      subst ej
      go_wp2
      exact HQ.out _ _ ⟨rfl, rfl, by intro x hx; simp only [List.mem_cons, List.not_mem_nil, or_false] at hx; rcases hx with rfl <;> rfl⟩ (by intro i hi; simp only [List.mem_cons, List.not_mem_nil, or_false] at hi; rcases hi with rfl | rfl | rfl | rfl | rfl | rfl <;> exact HG.out _) HB.out
end Go.Proofs.YtefhmbmbhiehdaaDoor
namespace Go.Proofs.YtefhmbmbhiehdaaDoor
open Go Go.Maps Go.RowKit Go.BigFrame Go.ChangeShapes Go.WideShapes
theorem BW.n60 {w : World} {t p n : Nat} {fat : Int} {D : Int → Option Bx} {S : Nat → Prop} (h : BW w t fat p D n S) : n ≤ 60 := by
  obtain ⟨h, _⟩ := h
  rcases h with ⟨_, _, _, _, h, _⟩ | ⟨_, _, _, _, _, _, _, _, _, _, _, _, h, _⟩ <;> omega
theorem BPl.after {w0 w w' : World} {t : Nat} {fat : Int} {p : Nat} {D' : Int → Option Bx} {n' : Nat} {S S' : Nat → Prop} {mb bm' : Nat} (hmne : ¬ S mb) (hlos : ∀ x, S x → w0.heap.size ≤ x) (hlom : w0.heap.size ≤ mb) (hext : Below w0.heap.size w0 w) (hv : VI w mb bm' n' (fun id => (D' id).map bxV)) (hle : bm' ≤ p + 1)
    (hm : Mod S w w') (hB : BW w' t fat (p + 1) D' n' S') (hS : ∀ x, S' x → S x ∨ w.heap.size ≤ x) (hk : KeysOk D') : BPl w0 w' t fat (p + 1) D' n' S' mb bm' :=
  ⟨hB, hv.mod hm hmne, fun h => (hS mb h).elim hmne (fun h => by have := hv.lt; omega), hk, fun x hx => (hS x hx).elim (hlos x) (fun h => Nat.le_trans hext.size h), hlom, hext.trans (hm.toBelow hext.size (fun b h1 h2 => by have := hlos b h2; omega)), hle, hB.n60⟩
set_option maxRecDepth 100000 in
set_option maxHeartbeats 8000000 in
theorem switch_0 {Q : Exit → Act → World → Prop} {a0 : Act} {w0 w : World} {t mb bm p9 p n : Nat} {fat id_ a1 a2 a3 b1 b2 b3 : Int} {D : Int → Option Bx} {S : Nat → Prop} (h0 : Lv a0 [(5, .pointer (some ⟨t, 0, none⟩)), (7, .map (some mb)), (9, .pointer (some ⟨p9, 0, none⟩)), (11, .bool (D id_).isSome), (81, .int .i64 0)]) (HP : Hid (BPl w0 w t fat p D n S mb bm)) (H9 : Hid (Blk w p9 #[.int .i64 0, .int .i64 id_, .int .i64 a1, .int .i64 a2, .int .i64 a3, .int .i64 b1, .int .i64 b2, .int .i64 b3] ∧ ¬ S p9 ∧ p9 ≠ mb)) (HK : Hid (keyOf Tryd.prog 3 (.int .i64 id_) = some (.int .i64 id_))) (HH : Hid (Handle w0)) (HN : Hid (p < 1000 ∧ 0 ≤ fat))
    (HQ : Hid (∀ (a : Act) (wx : World) (D' : Int → Option Bx) (n' : Nat) (S' : Nat → Prop) (bm' : Nat), Lv a [(5, .pointer (some ⟨t, 0, none⟩)), (7, .map (some mb)), (9, .pointer (some ⟨p9, 0, none⟩))] → (∀ i ∈ [1, 8], a.tmps.getD i undef = a0.tmps.getD i undef) → BPl w0 wx t fat (p + 1) D' n' S' mb bm' → Blk wx p9 #[.int .i64 0, .int .i64 id_, .int .i64 a1, .int .i64 a2, .int .i64 a3, .int .i64 b1, .int .i64 b2, .int .i64 b3] → ¬ S' p9 → Q .normal a wx)) :
    Code.wp Tryd.prog (blockC Tryd.f3 2) Q a0 w := by
  obtain ⟨g, hg⟩ : ∃ g : Nat → Value, ∀ i, g i = a0.tmps.getD i undef := ⟨_, fun _ => rfl⟩
  rw [act_lit a0 h0.1 h0.2.1 g hg]
  rw [show g 5 = .pointer (some ⟨t, 0, none⟩) from (hg 5).trans (h0.2.2 (5, .pointer (some ⟨t, 0, none⟩)) (by simp))]
  rw [show g 7 = .map (some mb) from (hg 7).trans (h0.2.2 (7, .map (some mb)) (by simp))]
  rw [show g 9 = .pointer (some ⟨p9, 0, none⟩) from (hg 9).trans (h0.2.2 (9, .pointer (some ⟨p9, 0, none⟩)) (by simp))]
  rw [show g 11 = .bool (D id_).isSome from (hg 11).trans (h0.2.2 (11, .bool (D id_).isSome) (by simp))]
  rw [show g 81 = .int .i64 0 from (hg 81).trans (h0.2.2 (81, .int .i64 0) (by simp))]
  have HG := Lib.hid hg
  clear hg h0
  conv => arg 2; whnf
  dsimp only
  obtain ⟨z9, c9, f9⟩ := id H9.out.1
  go_upto_region 17 with fail
  go_region_held3 (fun w' => (∀ o, w'.cell? ⟨p9, o, none⟩ = (#[.int .i64 0, .int .i64 id_, .int .i64 a1, .int .i64 a2, .int .i64 a3, .int .i64 b1, .int .i64 b2, .int .i64 b3] : Array Value)[o]?) ∧ p9 < w'.heap.size ∧ Below w.heap.size w w')
    (first | assumption | exact ⟨fun o => H9.out.1.cell o, H9.out.1.lt, (by repeat (with_reducible (first | exact Below.refl _ _ | assumption | apply ext_drew | apply ext_drewN | apply ext_alloc | apply ext_more | (refine ext_setCell ?_ (by first | assumption | (simp <;> omega)) _) | (refine ext_below ?_ (by assumption)))))⟩)
    (first
      | (go_at_call_of 6 (Value.agg #[Value.int IntKind.i64 a1, Value.int IntKind.i64 a2, Value.int IntKind.i64 a3]); refine (parts_c _ _ _ _).mono ?_; rintro e w1 ⟨rfl, B1, hb1⟩; have hS1 := keep1 (by assumption) hb1)
      | (go_at_call_of 6 (Value.agg #[Value.int IntKind.i64 b1, Value.int IntKind.i64 b2, Value.int IntKind.i64 b3]); refine (parts_c _ _ _ _).mono ?_; rintro e w2 ⟨rfl, B2, hb2⟩; have hS2 := keep1 (by assumption) hb2))
  simp only [World.size_drew] at B1
  have C1 := B1.below hb2
  have hbw : Below w.heap.size w w2 := hS2.2.2
  have HC := Lib.hid (And.intro C1 B2)
  have HW2 := Lib.hid hbw
  clear B1 B2 C1 hbw hb1 hb2 hS1 hS2 z9 c9 f9
  go_upto_block 3 with fail
  refine errA_way ⟨rfl, rfl, by intro x hx; simp only [List.mem_cons, List.not_mem_nil, or_false] at hx; rcases hx with rfl | rfl | rfl | rfl <;> rfl⟩ (Lib.hid HC.out.1) (Lib.hid HC.out.2) (Lib.hid ?_)
  rintro a wx hLv hkp rfl
  obtain ⟨g1, hg1⟩ : ∃ g1 : Nat → Value, ∀ i, g1 i = a.tmps.getD i undef := ⟨_, fun _ => rfl⟩
  rw [act_lit a hLv.1 hLv.2.1 g1 hg1]
  rw [show g1 12 = .int .i64 (erA (loF ⟨a1, a2, a3, b1, b2, b3⟩) (hiF ⟨a1, a2, a3, b1, b2, b3⟩) 3) from (hg1 12).trans (hLv.2.2 (12, .int .i64 (erA (loF ⟨a1, a2, a3, b1, b2, b3⟩) (hiF ⟨a1, a2, a3, b1, b2, b3⟩) 3)) (by simp))]
  rw [show g1 13 = .slice (some ⟨w.heap.size + 1, 0, none⟩) 3 3 from (hg1 13).trans (hLv.2.2 (13, .slice (some ⟨w.heap.size + 1, 0, none⟩) 3 3) (by simp))]
  rw [show g1 14 = .slice (some ⟨w1.heap.size + 1, 0, none⟩) 3 3 from (hg1 14).trans (hLv.2.2 (14, .slice (some ⟨w1.heap.size + 1, 0, none⟩) 3 3) (by simp))]
  rw [show g1 1 = g 1 from (hg1 1).trans (hkp 1 (by simp))]
  rw [show g1 5 = .pointer (some ⟨t, 0, none⟩) from (hg1 5).trans (hkp 5 (by simp))]
  rw [show g1 7 = .map (some mb) from (hg1 7).trans (hkp 7 (by simp))]
  rw [show g1 8 = g 8 from (hg1 8).trans (hkp 8 (by simp))]
  rw [show g1 9 = .pointer (some ⟨p9, 0, none⟩) from (hg1 9).trans (hkp 9 (by simp))]
  rw [show g1 11 = .bool (D id_).isSome from (hg1 11).trans (hkp 11 (by simp))]
  clear hg1 hLv hkp
  clear a
  go_upto_block 5 with fail
  refine errB_way ⟨rfl, rfl, by intro x hx; simp only [List.mem_cons, List.not_mem_nil, or_false] at hx; rcases hx with rfl | rfl | rfl | rfl <;> rfl⟩ (Lib.hid HC.out.1) (Lib.hid HC.out.2) (Lib.hid ?_)
  intro a w3 hLv hkp hb3
  obtain ⟨g2, hg2⟩ : ∃ g2 : Nat → Value, ∀ i, g2 i = a.tmps.getD i undef := ⟨_, fun _ => rfl⟩
  rw [act_lit a hLv.1 hLv.2.1 g2 hg2]
  rw [show g2 12 = .int .i64 (erB (loF ⟨a1, a2, a3, b1, b2, b3⟩) (hiF ⟨a1, a2, a3, b1, b2, b3⟩) (erA (loF ⟨a1, a2, a3, b1, b2, b3⟩) (hiF ⟨a1, a2, a3, b1, b2, b3⟩) 3) 3) from (hg2 12).trans (hLv.2.2 (12, .int .i64 (erB (loF ⟨a1, a2, a3, b1, b2, b3⟩) (hiF ⟨a1, a2, a3, b1, b2, b3⟩) (erA (loF ⟨a1, a2, a3, b1, b2, b3⟩) (hiF ⟨a1, a2, a3, b1, b2, b3⟩) 3) 3)) (by simp))]
  rw [show g2 1 = g 1 from (hg2 1).trans (hkp 1 (by simp))]
  rw [show g2 5 = .pointer (some ⟨t, 0, none⟩) from (hg2 5).trans (hkp 5 (by simp))]
  rw [show g2 7 = .map (some mb) from (hg2 7).trans (hkp 7 (by simp))]
  rw [show g2 8 = g 8 from (hg2 8).trans (hkp 8 (by simp))]
  rw [show g2 9 = .pointer (some ⟨p9, 0, none⟩) from (hg2 9).trans (hkp 9 (by simp))]
  rw [show g2 11 = .bool (D id_).isSome from (hg2 11).trans (hkp 11 (by simp))]
  clear hg2 hLv hkp
  clear a
  rw [erB_all ⟨a1, a2, a3, b1, b2, b3⟩]
  have HW3 : Hid (Below w.heap.size w w3) := Lib.hid (HW2.out.trans (hb3.mono HW2.out.size))
  have H93 := Lib.hid (H9.out.1.below HW3.out)
  have HP3 := Lib.hid (HP.out.below HW3.out)
  clear hb3 HC HW2
  obtain ⟨z9, c9, f9⟩ := id H93.out
  cases hwr : wrongX ⟨a1, a2, a3, b1, b2, b3⟩ with
  | true =>
    have he : putE D n id_ ⟨a1, a2, a3, b1, b2, b3⟩ = 1 := by simp [putE, hwr]
    have HE := Lib.hid he
    have hDN : putD D n id_ ⟨a1, a2, a3, b1, b2, b3⟩ = D ∧ putN D n id_ ⟨a1, a2, a3, b1, b2, b3⟩ = n := ⟨if_neg (by rw [he]; decide), if_neg (by rw [he]; decide)⟩
    have HDN := Lib.hid hDN
    clear he hDN hwr
    simp only [if_true]
    go_wp2_with fail
    refine (put_c w3 t id_ ⟨a1, a2, a3, b1, b2, b3⟩ fat p D n S HP3.out.bw HN.out.2 (by have := HN.out.1; omega) HK.out).mono ?_
    rintro e wp ⟨rfl, hmp, Sp, hBp, hSp⟩
    have HPP := Lib.hid (And.intro hmp (And.intro hBp hSp))
    have HHP : Hid (Handle wp) := Lib.hid (HH.out.below ((HP3.out.ext).trans (hmp.toBelow (HP3.out.ext).size (fun b h1 h2 => by have := HP.out.los b h2; omega))))
    clear hmp hBp hSp
    go_wp2_with fail
    refine (lbare_eq _ 1 wp HHP.out HE.out).mono ?_
    rintro e wq ⟨rfl, hbq⟩
    have HBQ := Lib.hid hbq
    clear hbq z9 c9 f9
    go_wp2
    have hP2 : BPl w0 wp t fat (p + 1) (putD D n id_ ⟨a1, a2, a3, b1, b2, b3⟩) (putN D n id_ ⟨a1, a2, a3, b1, b2, b3⟩) Sp mb bm := BPl.after HP.out.mne HP.out.los HP.out.lom (HP3.out.ext) (by rw [HDN.out.1, HDN.out.2]; exact HP3.out.map) (by have := HP.out.le; omega) HPP.out.1 HPP.out.2.1 HPP.out.2.2 (putD_keys HP.out.keys HK.out)
    exact HQ.out _ wq _ _ Sp bm ⟨rfl, rfl, by intro x hx; simp only [List.mem_cons, List.not_mem_nil, or_false] at hx; rcases hx with rfl | rfl | rfl <;> rfl⟩ (by intro i hi; simp only [List.mem_cons, List.not_mem_nil, or_false] at hi; rcases hi with rfl | rfl <;> exact HG.out _) (hP2.below HBQ.out) (((H93.out).mod HPP.out.1 H9.out.2.1).below HBQ.out) (fun h => (HPP.out.2.2 p9 h).elim H9.out.2.1 (fun h => by have := (H93.out).lt; omega))
  | false =>
  cases hbe : beyondX ⟨a1, a2, a3, b1, b2, b3⟩ with
  | true =>
    have he : putE D n id_ ⟨a1, a2, a3, b1, b2, b3⟩ = 2 := by simp [putE, hwr, hbe]
    have HE := Lib.hid he
    have hDN : putD D n id_ ⟨a1, a2, a3, b1, b2, b3⟩ = D ∧ putN D n id_ ⟨a1, a2, a3, b1, b2, b3⟩ = n := ⟨if_neg (by rw [he]; decide), if_neg (by rw [he]; decide)⟩
    have HDN := Lib.hid hDN
    clear he hDN hwr hbe
    simp only [Bool.false_eq_true, if_false, if_true]
    go_wp2_with fail
    refine (put_c w3 t id_ ⟨a1, a2, a3, b1, b2, b3⟩ fat p D n S HP3.out.bw HN.out.2 (by have := HN.out.1; omega) HK.out).mono ?_
    rintro e wp ⟨rfl, hmp, Sp, hBp, hSp⟩
    have HPP := Lib.hid (And.intro hmp (And.intro hBp hSp))
    have HHP : Hid (Handle wp) := Lib.hid (HH.out.below ((HP3.out.ext).trans (hmp.toBelow (HP3.out.ext).size (fun b h1 h2 => by have := HP.out.los b h2; omega))))
    clear hmp hBp hSp
    go_wp2_with fail
    refine (lbare_eq _ 2 wp HHP.out HE.out).mono ?_
    rintro e wq ⟨rfl, hbq⟩
    have HBQ := Lib.hid hbq
    clear hbq z9 c9 f9
    go_wp2
    have hP2 : BPl w0 wp t fat (p + 1) (putD D n id_ ⟨a1, a2, a3, b1, b2, b3⟩) (putN D n id_ ⟨a1, a2, a3, b1, b2, b3⟩) Sp mb bm := BPl.after HP.out.mne HP.out.los HP.out.lom (HP3.out.ext) (by rw [HDN.out.1, HDN.out.2]; exact HP3.out.map) (by have := HP.out.le; omega) HPP.out.1 HPP.out.2.1 HPP.out.2.2 (putD_keys HP.out.keys HK.out)
    exact HQ.out _ wq _ _ Sp bm ⟨rfl, rfl, by intro x hx; simp only [List.mem_cons, List.not_mem_nil, or_false] at hx; rcases hx with rfl | rfl | rfl <;> rfl⟩ (by intro i hi; simp only [List.mem_cons, List.not_mem_nil, or_false] at hi; rcases hi with rfl | rfl <;> exact HG.out _) (hP2.below HBQ.out) (((H93.out).mod HPP.out.1 H9.out.2.1).below HBQ.out) (fun h => (HPP.out.2.2 p9 h).elim H9.out.2.1 (fun h => by have := (H93.out).lt; omega))
  | false =>
  simp only [Bool.false_eq_true, if_false]
  cases hth : (D id_).isSome with
  | true =>
    have he : putE D n id_ ⟨a1, a2, a3, b1, b2, b3⟩ = 0 := putE_good (by simp [goodX, hwr, hbe]) (.inl hth)
    have HE := Lib.hid he
    have hDN : putD D n id_ ⟨a1, a2, a3, b1, b2, b3⟩ = updD D id_ ⟨a1, a2, a3, b1, b2, b3⟩ ∧ putN D n id_ ⟨a1, a2, a3, b1, b2, b3⟩ = n := ⟨if_pos he, by unfold putN; rw [if_pos he, if_pos hth]⟩
    have HDN := Lib.hid hDN
    have HTH := Lib.hid hth
    clear he hDN hwr hbe hth
    go_upto_region 31 with (at_len; refine at_lenG (by rfl) _ rfl Tryd.underlying30 rfl HP3.out.map ?_)
    have hmc := more_cell
    refine region_quiet_but 6 (by kernel_rfl) (by kernel_rfl) ?_
    simp only [List.take_succ_cons, List.take_zero, List.drop_succ_cons, List.drop_zero]
    repeat (go_big_quiet_step (first | (go_at_call 7; exact calls_after (box_c _ _ _ _ _ _ _))))
    refine wpQuiet_nil ?_
    rintro w4 hw4
    have hb4 := after_below hw4
    clear hw4 hmc z9 c9 f9
    have HP4 := Lib.hid (HP3.out.below hb4)
    have H94 := Lib.hid (H93.out.below hb4)
    clear hb4
    refine at_putT (val := bxV ⟨a1, a2, a3, b1, b2, b3⟩) rfl (.tmp 138) (.tmp 140) (.tmp 143) rfl Tryd.underlying30 rfl HP4.out.map (by have := HP4.out.le; have := HN.out.1; unfold maxLen; omega) rfl rfl HK.out ?_
    intro w5 h5 k5
    rw [bx_more] at h5
    simp only [Option.isSome_map] at h5
    have HM5 : Hid (VI w5 mb (bm + 1) (putN D n id_ ⟨a1, a2, a3, b1, b2, b3⟩) (fun y => (putD D n id_ ⟨a1, a2, a3, b1, b2, b3⟩ y).map bxV)) := Lib.hid (by rw [HDN.out.1, HDN.out.2]; simpa [HTH.out] using h5)
    have HX5 : Hid (Below w0.heap.size w0 w5) := Lib.hid (HP4.out.ext.trans (k5.toBelow HP4.out.ext.size (fun b h1 (h2 : b = mb) => by have := HP4.out.lom; omega)))
    have HB5 := Lib.hid (HP4.out.bw.mod k5 (fun x hx e => HP4.out.mne (e ▸ hx)))
    have H95 := Lib.hid (H94.out.mod k5 H9.out.2.2)
    clear h5 k5
    try simp only [Act.put]
    obtain ⟨z9, c9, f9⟩ := id H95.out
    go_wp2_with fail
    refine (put_c w5 t id_ ⟨a1, a2, a3, b1, b2, b3⟩ fat p D n S HB5.out HN.out.2 (by have := HN.out.1; omega) HK.out).mono ?_
    rintro e wp ⟨rfl, hmp, Sp, hBp, hSp⟩
    have HPP := Lib.hid (And.intro hmp (And.intro hBp hSp))
    have HHP : Hid (Handle wp) := Lib.hid (HH.out.below ((HX5.out).trans (hmp.toBelow (HX5.out).size (fun b h1 h2 => by have := HP.out.los b h2; omega))))
    clear hmp hBp hSp
    go_wp2_with fail
    refine (lbare_eq _ 0 wp HHP.out HE.out).mono ?_
    rintro e wq ⟨rfl, hbq⟩
    have HBQ := Lib.hid hbq
    clear hbq z9 c9 f9
    go_wp2
    have hP2 : BPl w0 wp t fat (p + 1) (putD D n id_ ⟨a1, a2, a3, b1, b2, b3⟩) (putN D n id_ ⟨a1, a2, a3, b1, b2, b3⟩) Sp mb (bm + 1) := BPl.after HP.out.mne HP.out.los HP.out.lom (HX5.out) HM5.out (by have := HP.out.le; omega) HPP.out.1 HPP.out.2.1 HPP.out.2.2 (putD_keys HP.out.keys HK.out)
    exact HQ.out _ wq _ _ Sp (bm + 1) ⟨rfl, rfl, by intro x hx; simp only [List.mem_cons, List.not_mem_nil, or_false] at hx; rcases hx with rfl | rfl | rfl <;> rfl⟩ (by intro i hi; simp only [List.mem_cons, List.not_mem_nil, or_false] at hi; rcases hi with rfl | rfl <;> exact HG.out _) (hP2.below HBQ.out) (((H95.out).mod HPP.out.1 H9.out.2.1).below HBQ.out) (fun h => (HPP.out.2.2 p9 h).elim H9.out.2.1 (fun h => by have := (H95.out).lt; omega))
  | false =>
    rcases Nat.lt_or_ge n 60 with hn | hn
    · have he : putE D n id_ ⟨a1, a2, a3, b1, b2, b3⟩ = 0 := putE_good (by simp [goodX, hwr, hbe]) (.inr hn)
      have HE := Lib.hid he
      have hDN : putD D n id_ ⟨a1, a2, a3, b1, b2, b3⟩ = updD D id_ ⟨a1, a2, a3, b1, b2, b3⟩ ∧ putN D n id_ ⟨a1, a2, a3, b1, b2, b3⟩ = n + 1 := ⟨if_pos he, by unfold putN; rw [if_pos he, if_neg (by rw [hth]; exact Bool.false_ne_true)]⟩
      have HDN := Lib.hid hDN
      have HTH := Lib.hid hth
      have d60 : decide ((60 : Int) ≤ (n : Int)) = false := decide_eq_false (by omega)
      clear he hDN hwr hbe hth hn
      go_upto_region 31 with (at_len; refine at_lenG (by rfl) _ rfl Tryd.underlying30 rfl HP3.out.map ?_)
      have hmc := more_cell
      refine region_quiet_but 6 (by kernel_rfl) (by kernel_rfl) ?_
      simp only [List.take_succ_cons, List.take_zero, List.drop_succ_cons, List.drop_zero]
      repeat (go_big_quiet_step (first | (go_at_call 7; exact calls_after (box_c _ _ _ _ _ _ _))))
      refine wpQuiet_nil ?_
      rintro w4 hw4
      have hb4 := after_below hw4
      clear hw4 hmc z9 c9 f9
      have HP4 := Lib.hid (HP3.out.below hb4)
      have H94 := Lib.hid (H93.out.below hb4)
      clear hb4
      refine at_putT (val := bxV ⟨a1, a2, a3, b1, b2, b3⟩) rfl (.tmp 138) (.tmp 140) (.tmp 143) rfl Tryd.underlying30 rfl HP4.out.map (by have := HP4.out.le; have := HN.out.1; unfold maxLen; omega) rfl rfl HK.out ?_
      intro w5 h5 k5
      rw [bx_more] at h5
      simp only [Option.isSome_map] at h5
      have HM5 : Hid (VI w5 mb (bm + 1) (putN D n id_ ⟨a1, a2, a3, b1, b2, b3⟩) (fun y => (putD D n id_ ⟨a1, a2, a3, b1, b2, b3⟩ y).map bxV)) := Lib.hid (by rw [HDN.out.1, HDN.out.2]; simpa [HTH.out] using h5)
      have HX5 : Hid (Below w0.heap.size w0 w5) := Lib.hid (HP4.out.ext.trans (k5.toBelow HP4.out.ext.size (fun b h1 (h2 : b = mb) => by have := HP4.out.lom; omega)))
      have HB5 := Lib.hid (HP4.out.bw.mod k5 (fun x hx e => HP4.out.mne (e ▸ hx)))
      have H95 := Lib.hid (H94.out.mod k5 H9.out.2.2)
      clear h5 k5
      try simp only [Act.put]
      obtain ⟨z9, c9, f9⟩ := id H95.out
      go_wp2_with fail
      refine (put_c w5 t id_ ⟨a1, a2, a3, b1, b2, b3⟩ fat p D n S HB5.out HN.out.2 (by have := HN.out.1; omega) HK.out).mono ?_
      rintro e wp ⟨rfl, hmp, Sp, hBp, hSp⟩
      have HPP := Lib.hid (And.intro hmp (And.intro hBp hSp))
      have HHP : Hid (Handle wp) := Lib.hid (HH.out.below ((HX5.out).trans (hmp.toBelow (HX5.out).size (fun b h1 h2 => by have := HP.out.los b h2; omega))))
      clear hmp hBp hSp
      go_wp2_with fail
      refine (lbare_eq _ 0 wp HHP.out HE.out).mono ?_
      rintro e wq ⟨rfl, hbq⟩
      have HBQ := Lib.hid hbq
      clear hbq z9 c9 f9
      go_wp2
      have hP2 : BPl w0 wp t fat (p + 1) (putD D n id_ ⟨a1, a2, a3, b1, b2, b3⟩) (putN D n id_ ⟨a1, a2, a3, b1, b2, b3⟩) Sp mb (bm + 1) := BPl.after HP.out.mne HP.out.los HP.out.lom (HX5.out) HM5.out (by have := HP.out.le; omega) HPP.out.1 HPP.out.2.1 HPP.out.2.2 (putD_keys HP.out.keys HK.out)
      exact HQ.out _ wq _ _ Sp (bm + 1) ⟨rfl, rfl, by intro x hx; simp only [List.mem_cons, List.not_mem_nil, or_false] at hx; rcases hx with rfl | rfl | rfl <;> rfl⟩ (by intro i hi; simp only [List.mem_cons, List.not_mem_nil, or_false] at hi; rcases hi with rfl | rfl <;> exact HG.out _) (hP2.below HBQ.out) (((H95.out).mod HPP.out.1 H9.out.2.1).below HBQ.out) (fun h => (HPP.out.2.2 p9 h).elim H9.out.2.1 (fun h => by have := (H95.out).lt; omega))
    · have he : putE D n id_ ⟨a1, a2, a3, b1, b2, b3⟩ = 4 := by
        unfold putE
        rw [if_neg (by rw [hwr]; exact Bool.false_ne_true), if_neg (by rw [hbe]; exact Bool.false_ne_true), if_pos ⟨by rw [← Option.not_isSome, hth]; rfl, hn⟩]
      have HE := Lib.hid he
      have hDN : putD D n id_ ⟨a1, a2, a3, b1, b2, b3⟩ = D ∧ putN D n id_ ⟨a1, a2, a3, b1, b2, b3⟩ = n := ⟨if_neg (by rw [he]; decide), if_neg (by rw [he]; decide)⟩
      have HDN := Lib.hid hDN
      have d60 : decide ((60 : Int) ≤ (n : Int)) = true := decide_eq_true (by omega)
      clear he hDN hwr hbe hth hn
      go_upto_region 30 with (at_len; refine at_lenG (by rfl) _ rfl Tryd.underlying30 rfl HP3.out.map ?_)
      go_wp2_with fail
      refine (put_c w3 t id_ ⟨a1, a2, a3, b1, b2, b3⟩ fat p D n S HP3.out.bw HN.out.2 (by have := HN.out.1; omega) HK.out).mono ?_
      rintro e wp ⟨rfl, hmp, Sp, hBp, hSp⟩
      have HPP := Lib.hid (And.intro hmp (And.intro hBp hSp))
      have HHP : Hid (Handle wp) := Lib.hid (HH.out.below ((HP3.out.ext).trans (hmp.toBelow (HP3.out.ext).size (fun b h1 h2 => by have := HP.out.los b h2; omega))))
      clear hmp hBp hSp
      go_wp2_with fail
      refine (lbare_eq _ 4 wp HHP.out HE.out).mono ?_
      rintro e wq ⟨rfl, hbq⟩
      have HBQ := Lib.hid hbq
      clear hbq z9 c9 f9
      go_wp2
      have hP2 : BPl w0 wp t fat (p + 1) (putD D n id_ ⟨a1, a2, a3, b1, b2, b3⟩) (putN D n id_ ⟨a1, a2, a3, b1, b2, b3⟩) Sp mb bm := BPl.after HP.out.mne HP.out.los HP.out.lom (HP3.out.ext) (by rw [HDN.out.1, HDN.out.2]; exact HP3.out.map) (by have := HP.out.le; omega) HPP.out.1 HPP.out.2.1 HPP.out.2.2 (putD_keys HP.out.keys HK.out)
      exact HQ.out _ wq _ _ Sp bm ⟨rfl, rfl, by intro x hx; simp only [List.mem_cons, List.not_mem_nil, or_false] at hx; rcases hx with rfl | rfl | rfl <;> rfl⟩ (by intro i hi; simp only [List.mem_cons, List.not_mem_nil, or_false] at hi; rcases hi with rfl | rfl <;> exact HG.out _) (hP2.below HBQ.out) (((H93.out).mod HPP.out.1 H9.out.2.1).below HBQ.out) (fun h => (HPP.out.2.2 p9 h).elim H9.out.2.1 (fun h => by have := (H93.out).lt; omega))
set_option maxRecDepth 100000 in
set_option maxHeartbeats 8000000 in
theorem switch_1 {Q : Exit → Act → World → Prop} {a0 : Act} {w0 w : World} {t mb bm p9 p n : Nat} {fat id_ a1 a2 a3 b1 b2 b3 : Int} {D : Int → Option Bx} {S : Nat → Prop} (h0 : Lv a0 [(5, .pointer (some ⟨t, 0, none⟩)), (7, .map (some mb)), (9, .pointer (some ⟨p9, 0, none⟩)), (11, .bool (D id_).isSome), (81, .int .i64 1)]) (HP : Hid (BPl w0 w t fat p D n S mb bm)) (H9 : Hid (Blk w p9 #[.int .i64 1, .int .i64 id_, .int .i64 a1, .int .i64 a2, .int .i64 a3, .int .i64 b1, .int .i64 b2, .int .i64 b3] ∧ ¬ S p9 ∧ p9 ≠ mb)) (HK : Hid (keyOf Tryd.prog 3 (.int .i64 id_) = some (.int .i64 id_))) (HH : Hid (Handle w0)) (HN : Hid (p < 1000 ∧ 0 ≤ fat))
    (HQ : Hid (∀ (a : Act) (wx : World) (D' : Int → Option Bx) (n' : Nat) (S' : Nat → Prop) (bm' : Nat), Lv a [(5, .pointer (some ⟨t, 0, none⟩)), (7, .map (some mb)), (9, .pointer (some ⟨p9, 0, none⟩))] → (∀ i ∈ [1, 8], a.tmps.getD i undef = a0.tmps.getD i undef) → BPl w0 wx t fat (p + 1) D' n' S' mb bm' → Blk wx p9 #[.int .i64 1, .int .i64 id_, .int .i64 a1, .int .i64 a2, .int .i64 a3, .int .i64 b1, .int .i64 b2, .int .i64 b3] → ¬ S' p9 → Q .normal a wx)) :
    Code.wp Tryd.prog (blockC Tryd.f3 2) Q a0 w := by
  obtain ⟨g, hg⟩ : ∃ g : Nat → Value, ∀ i, g i = a0.tmps.getD i undef := ⟨_, fun _ => rfl⟩
  rw [act_lit a0 h0.1 h0.2.1 g hg]
  rw [show g 5 = .pointer (some ⟨t, 0, none⟩) from (hg 5).trans (h0.2.2 (5, .pointer (some ⟨t, 0, none⟩)) (by simp))]
  rw [show g 7 = .map (some mb) from (hg 7).trans (h0.2.2 (7, .map (some mb)) (by simp))]
  rw [show g 9 = .pointer (some ⟨p9, 0, none⟩) from (hg 9).trans (h0.2.2 (9, .pointer (some ⟨p9, 0, none⟩)) (by simp))]
  rw [show g 11 = .bool (D id_).isSome from (hg 11).trans (h0.2.2 (11, .bool (D id_).isSome) (by simp))]
  rw [show g 81 = .int .i64 1 from (hg 81).trans (h0.2.2 (81, .int .i64 1) (by simp))]
  have HG := Lib.hid hg
  clear hg h0
  conv => arg 2; whnf
  dsimp only
  obtain ⟨z9, c9, f9⟩ := id H9.out.1
  cases hth : (D id_).isSome with
  | true =>
    have HE : Hid (remE D id_ = 0) := Lib.hid (by unfold remE; rw [if_pos hth])
    have HDN : Hid (remD D id_ = delD D id_ ∧ remN D n id_ = n - 1) := Lib.hid ⟨if_pos hth, if_pos hth⟩
    have HTH := Lib.hid hth
    clear hth
    go_upto_region 39 with (at_delete; go_must (refine at_delT rfl (.tmp 156) (.tmp 158) rfl Tryd.underlying30 rfl HP.out.map rfl HK.out (by rw [Option.isSome_map]; exact HTH.out) ?_; intro w2 h2 k2; have H2 := Lib.hid (And.intro h2 k2); clear h2 k2))
    have hm2 := H2.out.1
    rw [bx_less] at hm2
    have HM2 : Hid (VI w2 mb bm (remN D n id_) (fun y => (remD D id_ y).map bxV)) := Lib.hid (by rw [HDN.out.1, HDN.out.2]; exact hm2)
    have HX2 : Hid (Below w0.heap.size w0 w2) := Lib.hid (HP.out.ext.trans (H2.out.2.toBelow HP.out.ext.size (fun b h1 (h2 : b = mb) => by have := HP.out.lom; omega)))
    have HB2 := Lib.hid (HP.out.bw.mod H2.out.2 (fun x hx e => HP.out.mne (e ▸ hx)))
    have H92 := Lib.hid (H9.out.1.mod H2.out.2 H9.out.2.2)
    clear hm2 z9 c9 f9
    obtain ⟨z9, c9, f9⟩ := id H92.out
    try simp only [Act.put]
    go_wp2_with fail
    refine (remove_c w2 t id_ fat p D n S HB2.out (by have := HN.out.1; omega) HK.out).mono ?_
    rintro e wp ⟨rfl, hmp, Sp, hBp, hSp⟩
    have HPP := Lib.hid (And.intro hmp (And.intro hBp hSp))
    have HHP : Hid (Handle wp) := Lib.hid (HH.out.below ((HX2.out).trans (hmp.toBelow (HX2.out).size (fun b h1 h2 => by have := HP.out.los b h2; omega))))
    clear hmp hBp hSp
    go_wp2_with fail
    refine (lbare_eq _ 0 wp HHP.out HE.out).mono ?_
    rintro e wq ⟨rfl, hbq⟩
    have HBQ := Lib.hid hbq
    clear hbq z9 c9 f9
    go_wp2
    have hP2 : BPl w0 wp t fat (p + 1) (remD D id_) (remN D n id_) Sp mb bm := BPl.after HP.out.mne HP.out.los HP.out.lom (HX2.out) HM2.out (by have := HP.out.le; omega) HPP.out.1 HPP.out.2.1 HPP.out.2.2 (remD_keys HP.out.keys)
    exact HQ.out _ wq _ _ Sp bm ⟨rfl, rfl, by intro x hx; simp only [List.mem_cons, List.not_mem_nil, or_false] at hx; rcases hx with rfl | rfl | rfl <;> rfl⟩ (by intro i hi; simp only [List.mem_cons, List.not_mem_nil, or_false] at hi; rcases hi with rfl | rfl <;> exact HG.out _) (hP2.below HBQ.out) (((H92.out).mod HPP.out.1 H9.out.2.1).below HBQ.out) (fun h => (HPP.out.2.2 p9 h).elim H9.out.2.1 (fun h => by have := (H92.out).lt; omega))
  | false =>
    have HE : Hid (remE D id_ = 7) := Lib.hid (by unfold remE; rw [if_neg (by rw [hth]; exact Bool.false_ne_true)])
    have HDN : Hid (remD D id_ = D ∧ remN D n id_ = n) := Lib.hid ⟨if_neg (by rw [hth]; exact Bool.false_ne_true), if_neg (by rw [hth]; exact Bool.false_ne_true)⟩
    clear hth
    go_wp2_with fail
    refine (remove_c w t id_ fat p D n S HP.out.bw (by have := HN.out.1; omega) HK.out).mono ?_
    rintro e wp ⟨rfl, hmp, Sp, hBp, hSp⟩
    have HPP := Lib.hid (And.intro hmp (And.intro hBp hSp))
    have HHP : Hid (Handle wp) := Lib.hid (HH.out.below ((HP.out.ext).trans (hmp.toBelow (HP.out.ext).size (fun b h1 h2 => by have := HP.out.los b h2; omega))))
    clear hmp hBp hSp
    go_wp2_with fail
    refine (lbare_eq _ 7 wp HHP.out HE.out).mono ?_
    rintro e wq ⟨rfl, hbq⟩
    have HBQ := Lib.hid hbq
    clear hbq z9 c9 f9
    go_wp2
    have hP2 : BPl w0 wp t fat (p + 1) (remD D id_) (remN D n id_) Sp mb bm := BPl.after HP.out.mne HP.out.los HP.out.lom (HP.out.ext) (by rw [HDN.out.1, HDN.out.2]; exact HP.out.map) (by have := HP.out.le; omega) HPP.out.1 HPP.out.2.1 HPP.out.2.2 (remD_keys HP.out.keys)
    exact HQ.out _ wq _ _ Sp bm ⟨rfl, rfl, by intro x hx; simp only [List.mem_cons, List.not_mem_nil, or_false] at hx; rcases hx with rfl | rfl | rfl <;> rfl⟩ (by intro i hi; simp only [List.mem_cons, List.not_mem_nil, or_false] at hi; rcases hi with rfl | rfl <;> exact HG.out _) (hP2.below HBQ.out) (((H9.out.1).mod HPP.out.1 H9.out.2.1).below HBQ.out) (fun h => (HPP.out.2.2 p9 h).elim H9.out.2.1 (fun h => by have := (H9.out.1).lt; omega))
set_option maxRecDepth 100000 in
set_option maxHeartbeats 8000000 in
theorem switch_n {Q : Exit → Act → World → Prop} {a0 : Act} {w0 w : World} {t mb bm p9 p n : Nat} {fat id_ a1 a2 a3 b1 b2 b3 : Int} {D : Int → Option Bx} {S : Nat → Prop} {wh : Int} (h0 : Lv a0 [(5, .pointer (some ⟨t, 0, none⟩)), (7, .map (some mb)), (9, .pointer (some ⟨p9, 0, none⟩)), (81, .int .i64 wh)]) (HP : Hid (BPl w0 w t fat p D n S mb bm)) (H9 : Hid (Blk w p9 #[.int .i64 wh, .int .i64 id_, .int .i64 a1, .int .i64 a2, .int .i64 a3, .int .i64 b1, .int .i64 b2, .int .i64 b3] ∧ ¬ S p9 ∧ p9 ≠ mb)) (h0' : wh ≠ 0) (h1' : wh ≠ 1)
    (HQ : Hid (∀ (a : Act) (wx : World) (D' : Int → Option Bx) (n' : Nat) (S' : Nat → Prop) (bm' : Nat), Lv a [(5, .pointer (some ⟨t, 0, none⟩)), (7, .map (some mb)), (9, .pointer (some ⟨p9, 0, none⟩))] → (∀ i ∈ [1, 8], a.tmps.getD i undef = a0.tmps.getD i undef) → BPl w0 wx t fat (p + 1) D' n' S' mb bm' → Blk wx p9 #[.int .i64 wh, .int .i64 id_, .int .i64 a1, .int .i64 a2, .int .i64 a3, .int .i64 b1, .int .i64 b2, .int .i64 b3] → ¬ S' p9 → Q .normal a wx)) :
    Code.wp Tryd.prog (blockC Tryd.f3 2) Q a0 w := by
  obtain ⟨g, hg⟩ : ∃ g : Nat → Value, ∀ i, g i = a0.tmps.getD i undef := ⟨_, fun _ => rfl⟩
  rw [act_lit a0 h0.1 h0.2.1 g hg]
  rw [show g 5 = .pointer (some ⟨t, 0, none⟩) from (hg 5).trans (h0.2.2 (5, .pointer (some ⟨t, 0, none⟩)) (by simp))]
  rw [show g 7 = .map (some mb) from (hg 7).trans (h0.2.2 (7, .map (some mb)) (by simp))]
  rw [show g 9 = .pointer (some ⟨p9, 0, none⟩) from (hg 9).trans (h0.2.2 (9, .pointer (some ⟨p9, 0, none⟩)) (by simp))]
  rw [show g 81 = .int .i64 wh from (hg 81).trans (h0.2.2 (81, .int .i64 wh) (by simp))]
  have HG := Lib.hid hg
  clear hg h0
  conv => arg 2; whnf
  dsimp only
  have e0 : ((wh : Int) == 0) = false := by simpa using h0'
  have e1 : ((wh : Int) == 1) = false := by simpa using h1'
  clear h0' h1'
  go_wp2
  exact HQ.out _ w _ _ S bm ⟨rfl, rfl, by intro x hx; simp only [List.mem_cons, List.not_mem_nil, or_false] at hx; rcases hx with rfl | rfl | rfl <;> rfl⟩ (by intro i hi; simp only [List.mem_cons, List.not_mem_nil, or_false] at hi; rcases hi with rfl | rfl <;> exact HG.out _) HP.out.up H9.out.1 H9.out.2.1
end Go.Proofs.YtefhmbmbhiehdaaDoor
namespace Go.Proofs.YtefhmbmbhiehdaaDoor
open Go Go.Maps Go.RowKit Go.BigFrame Go.ChangeShapes Go.WideShapes
theorem zero_rboxT (w : World) : (zeroValue 37).run Tryd.prog w = .ok (.agg #[.int .i64 0, .int .i64 0, .int .i64 0, .int .i64 0, .int .i64 0, .int .i64 0]) w := Tryd.zeroValue37 w
theorem meetB_is (a b : Bx) : meetB a.a1 a.a2 a.a3 a.b1 a.b2 a.b3 b.a1 b.a2 b.a3 b.b1 b.b2 b.b3 = meetX a b := rfl
theorem lt_ne {zs : List Int} (h : zs.Pairwise (· < ·)) {i : Nat} {x y : Int} (hx : zs[i]? = some x) (hy : zs[i + 1]? = some y) : x < y := by
  obtain ⟨h1, e1⟩ := List.getElem?_eq_some_iff.1 hx
  obtain ⟨h2, e2⟩ := List.getElem?_eq_some_iff.1 hy
  rw [← e1, ← e2]
  exact List.pairwise_iff_getElem.1 h i (i + 1) h1 h2 (Nat.lt_succ_self i)
set_option maxRecDepth 100000 in
set_option maxHeartbeats 8000000 in
theorem check_way {Q : Exit → Act → World → Prop} {a0 : Act} {w : World} {mb bm p9 n base : Nat} {wh id_ a1 a2 a3 b1 b2 b3 : Int} {D : Int → Option Bx} {zs : List Int} {Az : Option Addr} {Cz : Nat} (h0 : Lv a0 [(7, .map (some mb)), (9, .pointer (some ⟨p9, 0, none⟩)), (19, .slice Az zs.length Cz), (20, .int .i64 0)]) (HM : Hid (VI w mb bm n (fun id => (D id).map bxV))) (HZ : Hid (w.ownsRow base 3 1 (.slice Az zs.length Cz) zs.length (ints zs))) (HS : Hid (zs.Pairwise (· < ·) ∧ zs.length ≤ 60)) (HE : Hid (∀ x ∈ zs, ∃ b, D x = some b ∧ meetX b ⟨a1, a2, a3, b1, b2, b3⟩ = true)) (H9 : Hid (Blk w p9 #[.int .i64 wh, .int .i64 id_, .int .i64 a1, .int .i64 a2, .int .i64 a3, .int .i64 b1, .int .i64 b2, .int .i64 b3])) (HK : Hid (KeysOk D))
    (HQ : Hid (∀ (a : Act) (wx : World), Lv a [(7, .map (some mb)), (9, .pointer (some ⟨p9, 0, none⟩)), (19, .slice Az zs.length Cz)] → (∀ i ∈ [1, 5, 8, 18], a.tmps.getD i undef = a0.tmps.getD i undef) → Below w.heap.size w wx → Q .normal a wx)) :
    Code.wp Tryd.prog (blockC Tryd.f3 7) Q a0 w := by
  obtain ⟨g, hg⟩ : ∃ g : Nat → Value, ∀ i, g i = a0.tmps.getD i undef := ⟨_, fun _ => rfl⟩
  rw [act_lit a0 h0.1 h0.2.1 g hg]
  rw [show g 7 = .map (some mb) from (hg 7).trans (h0.2.2 (7, .map (some mb)) (by simp))]
  rw [show g 9 = .pointer (some ⟨p9, 0, none⟩) from (hg 9).trans (h0.2.2 (9, .pointer (some ⟨p9, 0, none⟩)) (by simp))]
  rw [show g 19 = .slice Az zs.length Cz from (hg 19).trans (h0.2.2 (19, .slice Az zs.length Cz) (by simp))]
  rw [show g 20 = .int .i64 0 from (hg 20).trans (h0.2.2 (20, .int .i64 0) (by simp))]
  have HG := Lib.hid hg
  clear hg h0
  conv => arg 2; whnf
  dsimp only
  go_wp2
  go_loopg [20] zs.length (fun k vi wr => ∃ j : Nat, vi = .int .i64 (j : Int) ∧ j ≤ zs.length ∧ k = zs.length - j ∧ Below w.heap.size w wr)
  case atStart => exact ⟨0, rfl, Nat.zero_le _, rfl, Below.refl _ _⟩
  case round =>
    obtain ⟨j, rfl, hj, hk, hb⟩ := hrel
    have HB := Lib.hid hb
    clear hb
    have hz60 := HS.out.2
    by_cases hl : j < zs.length
    · have d0 : decide ((j : Int) < (zs.length : Int)) = true := decide_eq_true (by omega)
      have hw1 : wrap64 ((j : Int) + 1) = (j : Int) + 1 := by unfold wrap64; omega
      cases j with
      | zero =>
        simp only [Int.natCast_zero] at d0 hw1 ⊢
        obtain ⟨x, hx⟩ : ∃ x, zs[0]? = some x := ⟨_, List.getElem?_eq_getElem hl⟩
        obtain ⟨bb, hbb, hmm⟩ := HE.out x (List.mem_of_getElem? hx)
        have hky := HK.out x (by rw [hbb]; rfl)
        obtain ⟨gz, cz, hvz, -, hgl, -, -, fg, cg, -⟩ := row_at (row_below HZ.out HB.out) (by omega)
        injection hvz with eA _ eC
        subst eA eC
        have qx : wr.cell? ⟨gz, 0, none⟩ = some (.int .i64 x) := cg _ _ (ints_get hx)
        skip
        have HMw := Lib.hid (HM.out.below HB.out)
        have HKY := Lib.hid hky
        have HBB := Lib.hid hbb
        have HMM := Lib.hid hmm
        have HXX := Lib.hid hx
        have h9r := H9.out.below HB.out
        have H9r := Lib.hid h9r
        clear hx hbb hmm hky cg h9r
        obtain ⟨z9, c9, f9⟩ := id H9r.out
        go_upto_region 47 with (at_lookup; refine at_lookT rfl _ _ rfl Tryd.underlying30 (zero_rboxT _) rfl HMw.out rfl HKY.out ?_; rw [HBB.out]; unfold bxV)
        refine wp_fresh ?_
        rintro w5 hb5
        have hp21 : Blk w5 wr.heap.size #[.int .i64 bb.a1, .int .i64 bb.a2, .int .i64 bb.a3, .int .i64 bb.b1, .int .i64 bb.b2, .int .i64 bb.b3] := Blk.below (by
          refine blk_asB (cs := _) (by repeat (with_reducible (first | assumption | (apply Blk.at; simp; done) | apply Blk.alloc | apply Blk.drew | apply Blk.drewN | apply Blk.more | apply Blk.put | (apply Blk.far; focus (first | assumption | (apply Ne.symm; assumption) | (simp; done) | (simp <;> omega)))))) ?_
          exact rfl) hb5
        have hv5 : Below wr.heap.size wr w5 := (by repeat (with_reducible (first | exact Below.refl _ _ | assumption | apply ext_drew | apply ext_drewN | apply ext_alloc | apply ext_more | (refine ext_setCell ?_ (by first | assumption | (simp <;> omega)) _) | (refine ext_below ?_ (by assumption)))))
        have HV5 := Lib.hid hv5
        have h95 := H9r.out.below hv5
        have q5 : w5.cell? ⟨gz, 0, none⟩ = some (.int .i64 x) := (hv5.cell (p := ⟨gz, 0, none⟩) hgl).trans qx
        skip
        have hgl5 : gz < w5.heap.size := Nat.lt_of_lt_of_le hgl hv5.size
        have HRM : Hid (∀ w, Calls Tryd.prog 11 #[.agg #[.int .i64 bb.a1, .int .i64 bb.a2, .int .i64 bb.a3, .int .i64 bb.b1, .int .i64 bb.b2, .int .i64 bb.b3], .agg #[.int .i64 a1, .int .i64 a2, .int .i64 a3, .int .i64 b1, .int .i64 b2, .int .i64 b3]] w fun e w' => e = .returned (.bool true) ∧ Below w.heap.size w w') := Lib.hid (fun w => by
          have h := rmeet_c bb.a1 bb.a2 bb.a3 bb.b1 bb.b2 bb.b3 a1 a2 a3 b1 b2 b3 w
          rw [show meetB bb.a1 bb.a2 bb.a3 bb.b1 bb.b2 bb.b3 a1 a2 a3 b1 b2 b3 = true from HMM.out] at h
          exact h)
        clear hb5 hv5 qx z9 c9 f9 hgl fg 
        obtain ⟨z9, c9, f9⟩ := id h95
        obtain ⟨zb, cb, fb⟩ := id hp21
        have hmc := more_cell
        clear h95 hp21
        refine region_quiet_all (by kernel_rfl) (by kernel_rfl) ?_
        repeat (go_big_quiet_step (first | (go_at_call 7; exact calls_after (box_c _ _ _ _ _ _ _)) | (go_at_call 11; exact calls_after (HRM.out _))))
        refine wpQuiet_nil ?_
        rintro w8 hw8
        have hb8 := after_below hw8
        have HB8 : Hid (Below w.heap.size w w8) := Lib.hid ((HB.out.trans (HV5.out.mono HB.out.size)).trans (hb8.mono (Nat.le_trans HB.out.size HV5.out.size)))
        clear hw8 hmc hb8 z9 c9 f9 zb cb fb q5 hgl5 
        go_wp2
        go_roundg (zs.length - (0 + 1))
        case measure => omega
        case rel => exact ⟨0 + 1, (by first | (simp; done) | (simp; exact hw1)), by omega, rfl, HB8.out⟩
      | succ i =>
        have hw2 : wrap64 ((i : Int) + 1 - 1) = (i : Int) := by unfold wrap64; omega
        have hw3 : wrap64 (i : Int) = (i : Int) := by unfold wrap64; omega
        have d1 : decide ((0 : Int) < (i : Int) + 1) = true := decide_eq_true (by omega)
        simp only [Int.natCast_add, Int.natCast_one] at d0 hw1 ⊢
        obtain ⟨x, hx⟩ : ∃ x, zs[(i + 1)]? = some x := ⟨_, List.getElem?_eq_getElem hl⟩
        obtain ⟨bb, hbb, hmm⟩ := HE.out x (List.mem_of_getElem? hx)
        have hky := HK.out x (by rw [hbb]; rfl)
        obtain ⟨gz, cz, hvz, -, hgl, -, -, fg, cg, -⟩ := row_at (row_below HZ.out HB.out) (by omega)
        injection hvz with eA _ eC
        subst eA eC
        have qx : wr.cell? ⟨gz, (i + 1), none⟩ = some (.int .i64 x) := cg _ _ (ints_get hx)
        obtain ⟨y, hy⟩ : ∃ y, zs[i]? = some y := ⟨_, List.getElem?_eq_getElem (by omega)⟩
        have qy : wr.cell? ⟨gz, i, none⟩ = some (.int .i64 y) := cg _ _ (ints_get hy)
        have hxy : y < x := lt_ne HS.out.1 hy hx
        clear hy
        have HMw := Lib.hid (HM.out.below HB.out)
        have HKY := Lib.hid hky
        have HBB := Lib.hid hbb
        have HMM := Lib.hid hmm
        have HXX := Lib.hid hx
        have h9r := H9.out.below HB.out
        have H9r := Lib.hid h9r
        clear hx hbb hmm hky cg h9r
        obtain ⟨z9, c9, f9⟩ := id H9r.out
        go_upto_region 47 with (at_lookup; refine at_lookT rfl _ _ rfl Tryd.underlying30 (zero_rboxT _) rfl HMw.out rfl HKY.out ?_; rw [HBB.out]; unfold bxV)
        refine wp_fresh ?_
        rintro w5 hb5
        have hp21 : Blk w5 wr.heap.size #[.int .i64 bb.a1, .int .i64 bb.a2, .int .i64 bb.a3, .int .i64 bb.b1, .int .i64 bb.b2, .int .i64 bb.b3] := Blk.below (by
          refine blk_asB (cs := _) (by repeat (with_reducible (first | assumption | (apply Blk.at; simp; done) | apply Blk.alloc | apply Blk.drew | apply Blk.drewN | apply Blk.more | apply Blk.put | (apply Blk.far; focus (first | assumption | (apply Ne.symm; assumption) | (simp; done) | (simp <;> omega)))))) ?_
          exact rfl) hb5
        have hv5 : Below wr.heap.size wr w5 := (by repeat (with_reducible (first | exact Below.refl _ _ | assumption | apply ext_drew | apply ext_drewN | apply ext_alloc | apply ext_more | (refine ext_setCell ?_ (by first | assumption | (simp <;> omega)) _) | (refine ext_below ?_ (by assumption)))))
        have HV5 := Lib.hid hv5
        have h95 := H9r.out.below hv5
        have q5 : w5.cell? ⟨gz, (i + 1), none⟩ = some (.int .i64 x) := (hv5.cell (p := ⟨gz, (i + 1), none⟩) hgl).trans qx
        have qy5 : w5.cell? ⟨gz, i, none⟩ = some (.int .i64 y) := (hv5.cell (p := ⟨gz, i, none⟩) hgl).trans qy
        have hgl5 : gz < w5.heap.size := Nat.lt_of_lt_of_le hgl hv5.size
        have HRM : Hid (∀ w, Calls Tryd.prog 11 #[.agg #[.int .i64 bb.a1, .int .i64 bb.a2, .int .i64 bb.a3, .int .i64 bb.b1, .int .i64 bb.b2, .int .i64 bb.b3], .agg #[.int .i64 a1, .int .i64 a2, .int .i64 a3, .int .i64 b1, .int .i64 b2, .int .i64 b3]] w fun e w' => e = .returned (.bool true) ∧ Below w.heap.size w w') := Lib.hid (fun w => by
          have h := rmeet_c bb.a1 bb.a2 bb.a3 bb.b1 bb.b2 bb.b3 a1 a2 a3 b1 b2 b3 w
          rw [show meetB bb.a1 bb.a2 bb.a3 bb.b1 bb.b2 bb.b3 a1 a2 a3 b1 b2 b3 = true from HMM.out] at h
          exact h)
        clear hb5 hv5 qx z9 c9 f9 hgl fg qy
        obtain ⟨z9, c9, f9⟩ := id h95
        obtain ⟨zb, cb, fb⟩ := id hp21
        have hmc := more_cell
        clear h95 hp21
        refine region_quiet_all (by kernel_rfl) (by kernel_rfl) ?_
        repeat (go_big_quiet_step (first | (go_at_call 7; exact calls_after (box_c _ _ _ _ _ _ _)) | (go_at_call 11; exact calls_after (HRM.out _))))
        refine wpQuiet_nil ?_
        rintro w8 hw8
        have hb8 := after_below hw8
        have HB8 : Hid (Below w.heap.size w w8) := Lib.hid ((HB.out.trans (HV5.out.mono HB.out.size)).trans (hb8.mono (Nat.le_trans HB.out.size HV5.out.size)))
        clear hw8 hmc hb8 z9 c9 f9 zb cb fb q5 hgl5 qy5
        go_wp2
        go_roundg (zs.length - ((i + 1) + 1))
        case measure => omega
        case rel => exact ⟨(i + 1) + 1, (by first | (simp; done) | (simp; exact hw1)), by omega, rfl, HB8.out⟩
    · have d0 : decide ((j : Int) < (zs.length : Int)) = false := decide_eq_false (by omega)
      go_wp2
      exact HQ.out _ wr ⟨rfl, rfl, by intro x hx; simp only [List.mem_cons, List.not_mem_nil, or_false] at hx; rcases hx with rfl | rfl | rfl <;> rfl⟩ (by intro i hi; simp only [List.mem_cons, List.not_mem_nil, or_false] at hi; rcases hi with rfl | rfl | rfl | rfl <;> exact HG.out _) HB.out
set_option maxRecDepth 100000 in
set_option maxHeartbeats 8000000 in
theorem count_way {Q : Exit → Act → World → Prop} {a0 : Act} {w : World} {mb bm p9 n r : Nat} {wh id_ a1 a2 a3 b1 b2 b3 : Int} {D : Int → Option Bx} {G : Lit → Option Value} (h0 : Lv a0 [(9, .pointer (some ⟨p9, 0, none⟩)), (18, .int .i64 0), (212, .pointer (some ⟨r, 0, none⟩))]) (HR : Hid (RangeV Tryd.prog 3 w mb r bm G n (fun x => (G (.int .i64 x)).isSome) n)) (HG : Hid (∀ k : Int, G (.int .i64 k) = (D k).map bxV)) (H9 : Hid (Blk w p9 #[.int .i64 wh, .int .i64 id_, .int .i64 a1, .int .i64 a2, .int .i64 a3, .int .i64 b1, .int .i64 b2, .int .i64 b3] ∧ p9 ≠ r)) (HN : Hid (n ≤ 60))
    (HQ : Hid (∀ (a : Act) (wx : World) (vs : List Int), Lv a [(18, .int .i64 (vs.length : Int)), (9, .pointer (some ⟨p9, 0, none⟩))] → (∀ i ∈ [1, 5, 7, 8, 19], a.tmps.getD i undef = a0.tmps.getD i undef) → vs.Nodup → (∀ x, x ∈ vs ↔ meetD D ⟨a1, a2, a3, b1, b2, b3⟩ x = true) → vs.length ≤ 60 → Mod (· = r) w wx → Q .normal a wx)) :
    Code.wp Tryd.prog (blockC Tryd.f3 9) Q a0 w := by
  obtain ⟨g, hg⟩ : ∃ g : Nat → Value, ∀ i, g i = a0.tmps.getD i undef := ⟨_, fun _ => rfl⟩
  rw [act_lit a0 h0.1 h0.2.1 g hg]
  rw [show g 9 = .pointer (some ⟨p9, 0, none⟩) from (hg 9).trans (h0.2.2 (9, .pointer (some ⟨p9, 0, none⟩)) (by simp))]
  rw [show g 18 = .int .i64 0 from (hg 18).trans (h0.2.2 (18, .int .i64 0) (by simp))]
  rw [show g 212 = .pointer (some ⟨r, 0, none⟩) from (hg 212).trans (h0.2.2 (212, .pointer (some ⟨r, 0, none⟩)) (by simp))]
  have HGG := Lib.hid hg
  clear hg h0
  conv => arg 2; whnf
  dsimp only
  go_wp2
  go_loopg [18] n (fun k c wr => ∃ (vs : List Int) (L : Int → Bool) (cnt : Nat), c = .int .i64 (vs.length : Int) ∧ k = cnt ∧ RangeV Tryd.prog 3 wr mb r bm G n L cnt ∧ vs.Nodup ∧ (∀ x, x ∈ vs ↔ L x = false ∧ meetD D ⟨a1, a2, a3, b1, b2, b3⟩ x = true) ∧ vs.length + cnt ≤ 60 ∧ Mod (· = r) w wr)
  case atStart =>
    refine ⟨[], _, n, rfl, rfl, HR.out, List.nodup_nil, fun x => ?_, by have := HN.out; simpa using this, Mod.refl _ _⟩
    constructor
    · intro h; cases h
    · rintro ⟨h1, h2⟩
      obtain ⟨b, h3, _⟩ := meetD_iff.1 h2
      rw [HG.out, h3] at h1
      cases h1
  case round =>
    obtain ⟨vs, L, cnt, rfl, hk, hr, hnd, hmem, hle, hmd⟩ := hrel
    have HRr := Lib.hid hr
    have HV := Lib.hid (And.intro hnd (And.intro hmem hle))
    have HMD := Lib.hid hmd
    have HK := Lib.hid hk
    clear hr hnd hmem hle hmd hk
    go_wp2_with (at_next; refine at_nextV rfl (.tmp 212) rfl (int_keyed Tryd.underlying3) Tryd.underlying3 rfl HRr.out ?_ ?_)
    · intro hL
      go_wp2
      exact HQ.out _ wr vs ⟨rfl, rfl, by intro x hx; simp only [List.mem_cons, List.not_mem_nil, or_false] at hx; rcases hx with rfl | rfl <;> rfl⟩ (by intro i hi; simp only [List.mem_cons, List.not_mem_nil, or_false] at hi; rcases hi with rfl | rfl | rfl | rfl | rfl <;> exact HGG.out _) HV.out.1 (fun x => by rw [HV.out.2.1 x]; exact ⟨fun h => h.2, fun h => ⟨hL x, h⟩⟩) (by have := HV.out.2.2; omega) HMD.out
    · intro x cv w3 cnt3 hwfx hLx hGx hrg3 hlt hd3 hs3 hen
      have hD : ∃ b, D x = some b ∧ cv = bxV b := by
        rw [HG.out] at hGx
        cases hd : D x with
        | none => rw [hd] at hGx; cases hGx
        | some b => rw [hd] at hGx; exact ⟨b, rfl, (Option.some.inj hGx).symm⟩
      obtain ⟨bb, hDb, rfl⟩ := hD
      have HDB := Lib.hid hDb
      have HLX := Lib.hid hLx
      have HRG := Lib.hid hrg3
      have HLT := Lib.hid hlt
      have HM3 : Hid (Mod (· = r) w w3) := Lib.hid (HMD.out.trans hd3)
      have H93 := Lib.hid (H9.out.1.mod HM3.out H9.out.2)
      unfold bxV at hen
      clear hDb hLx hrg3 hlt hd3 hs3 hwfx hGx
      go_upto_region 52 with fail
      refine wp_fresh ?_
      rintro w5 hb5
      have hp24 : Blk w5 w3.heap.size #[.int .i64 bb.a1, .int .i64 bb.a2, .int .i64 bb.a3, .int .i64 bb.b1, .int .i64 bb.b2, .int .i64 bb.b3] := Blk.below (by
        refine blk_asB (cs := _) (by repeat (with_reducible (first | assumption | (apply Blk.at; simp; done) | apply Blk.alloc | apply Blk.drew | apply Blk.drewN | apply Blk.more | apply Blk.put | (apply Blk.far; focus (first | assumption | (apply Ne.symm; assumption) | (simp; done) | (simp <;> omega)))))) ?_
        exact rfl) hb5
      have hv5 : Below w3.heap.size w3 w5 := (by repeat (with_reducible (first | exact Below.refl _ _ | assumption | apply ext_drew | apply ext_drewN | apply ext_alloc | apply ext_more | (refine ext_setCell ?_ (by first | assumption | (simp <;> omega)) _) | (refine ext_below ?_ (by assumption)))))
      have h95 := H93.out.below hv5
      have HRG5 := Lib.hid (HRG.out.below hv5)
      have HM5 : Hid (Mod (· = r) w w5) := Lib.hid (HM3.out.below hv5)
      clear hb5 hv5 hen
      obtain ⟨me, hme⟩ : ∃ m, m = meetX bb ⟨a1, a2, a3, b1, b2, b3⟩ := ⟨_, rfl⟩
      have HME := Lib.hid hme
      have HRM : Hid (∀ w, Calls Tryd.prog 11 #[.agg #[.int .i64 bb.a1, .int .i64 bb.a2, .int .i64 bb.a3, .int .i64 bb.b1, .int .i64 bb.b2, .int .i64 bb.b3], .agg #[.int .i64 a1, .int .i64 a2, .int .i64 a3, .int .i64 b1, .int .i64 b2, .int .i64 b3]] w fun e w' => e = .returned (.bool me) ∧ Below w.heap.size w w') := Lib.hid (fun w => by
        have h := rmeet_c bb.a1 bb.a2 bb.a3 bb.b1 bb.b2 bb.b3 a1 a2 a3 b1 b2 b3 w
        rw [show meetB bb.a1 bb.a2 bb.a3 bb.b1 bb.b2 bb.b3 a1 a2 a3 b1 b2 b3 = me from HME.out.symm] at h
        exact h)
      clear hme
      obtain ⟨z9, c9, f9⟩ := id h95
      obtain ⟨zb, cb, fb⟩ := id hp24
      have hmc := more_cell
      clear h95 hp24
      refine region_quiet_all (by kernel_rfl) (by kernel_rfl) ?_
      repeat (go_big_quiet_step (first | (go_at_call 7; exact calls_after (box_c _ _ _ _ _ _ _)) | (go_at_call 11; exact calls_after (HRM.out _))))
      refine wpQuiet_nil ?_
      rintro w8 hw8
      have hb8 := after_below hw8
      have HRG8 := Lib.hid (HRG5.out.below hb8)
      have HM8 : Hid (Mod (· = r) w w8) := Lib.hid (HM5.out.below hb8)
      clear hw8 hmc hb8 z9 c9 f9 zb cb fb
      cases me with
      | false =>
        go_wp2
        go_roundg cnt3
        case measure => have := HLT.out; have := HK.out; omega
        case rel =>
          refine ⟨vs, _, cnt3, rfl, rfl, HRG8.out, HV.out.1, fun y => ?_, by have := HLT.out; have := HV.out.2.2; omega, HM8.out⟩
          rw [HV.out.2.1 y]
          by_cases e : y = x
          · subst e
            have : meetD D ⟨a1, a2, a3, b1, b2, b3⟩ y = false := by unfold meetD; rw [HDB.out]; exact HME.out.symm
            simp [this]
          · simp [e]
      | true =>
        have hw1 : wrap64 ((vs.length : Int) + 1) = (vs.length : Int) + 1 := by have := HV.out.2.2; unfold wrap64; omega
        go_wp2
        go_roundg cnt3
        case measure => have := HLT.out; have := HK.out; omega
        case rel =>
          refine ⟨vs ++ [x], _, cnt3, (by first | (simp; done) | (simp; exact hw1)), rfl, HRG8.out, ?_, fun y => ?_, by have := HLT.out; have := HV.out.2.2; simp; omega, HM8.out⟩
          · refine List.nodup_append.2 ⟨HV.out.1, by simp, fun a ha b hb e => ?_⟩
            have e2 : b = x := by simpa using hb
            subst e e2
            have := ((HV.out.2.1 a).1 ha).1
            rw [HLX.out] at this
            cases this
          · rw [List.mem_append, HV.out.2.1 y]
            by_cases e : y = x
            · subst e
              have : meetD D ⟨a1, a2, a3, b1, b2, b3⟩ y = true := by unfold meetD; rw [HDB.out]; exact HME.out.symm
              simp [this]
            · simp [e]
end Go.Proofs.YtefhmbmbhiehdaaDoor
