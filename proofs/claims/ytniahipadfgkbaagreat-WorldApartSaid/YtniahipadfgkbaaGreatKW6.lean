/- A step of the world. Conditions: none. -/
import Derived.Test.YtniahipadfgkbaaGreatKW5
namespace Go.Proofs.YtniahipadfgkbaaGreat
open Go Go.Maps Go.RowKit Go.BigFrame Go.ChangeShapes Go.WideShapes Go.ChangeAt
theorem gravF_ok {c : Cf} {M : Nat → Nat → Int} {k i : Nat} (h : RowOk M i) : RowOk (gravF c M k) i where
  shape := by rw [gravF_col _ _ _ _ (by omega), gravF_col _ _ _ _ (by omega), gravF_col _ _ _ _ (by omega), gravF_col _ _ _ _ (by omega)]; exact h.shape
  at_ := h.at_.col fun j h1 h2 => gravF_col _ _ _ _ (by omega)
  speed := by
    by_cases hk : i < k ∧ 0 < M i 15
    · refine ⟨?_, ?_, ?_⟩
      · have : gravF c M k i 9 = clamp 6553600 (add (add (M i 9) (M i 12)) c.f1) := by simp [gravF, hk]
        rw [this]; exact clamp_bd9 (by decide)
      · have : gravF c M k i 10 = clamp 6553600 (add (add (M i 10) (M i 13)) c.f2) := by simp [gravF, hk]
        rw [this]; exact clamp_bd9 (by decide)
      · have : gravF c M k i 11 = clamp 6553600 (add (add (M i 11) (M i 14)) c.f3) := by simp [gravF, hk]
        rw [this]; exact clamp_bd9 (by decide)
    · exact h.speed.of fun j => if_neg hk
/-- only the block of the bodies is written -/
def RowS (A : Option Addr) (x : Nat) : Prop := A = some ⟨x, 0, none⟩
theorem row_set3 {base n cap g i j : Nat} {w w3 : World} {M M' : Nat → Nat → Int} (h : RowQ base w (some ⟨g, 0, none⟩) n cap M) (k : Below w.heap.size w w3) (hi : i < n) (hj : j + 2 < 17) (x y z : Int) (e : ∀ a c, put3 M i j x y z a c = M' a c) :
    RowQ base (((w3.setCell ⟨g, i * 17 + j, none⟩ (.int .i64 x)).setCell ⟨g, i * 17 + j + 1, none⟩ (.int .i64 y)).setCell ⟨g, i * 17 + j + 2, none⟩ (.int .i64 z)) (some ⟨g, 0, none⟩) n cap M' := by
  refine h.shp (base' := 0) ((((shp_below k).set).set).set) fun _ => ⟨g, rfl, Nat.zero_le _, ?_⟩
  obtain ⟨g', e1, _, hT⟩ := h.own (by omega)
  cases e1
  exact Tab.eq ((hT.below k).set3 hi hj x y z) fun a _ c _ => e a c
theorem mod_set3 {g i j : Nat} {w w3 : World} (k : Below w.heap.size w w3) (x y z : Value) : Mod (RowS (some ⟨g, 0, none⟩)) w (((w3.setCell ⟨g, i * 17 + j, none⟩ x).setCell ⟨g, i * 17 + j + 1, none⟩ y).setCell ⟨g, i * 17 + j + 2, none⟩ z) :=
  have hg : RowS (some ⟨g, 0, none⟩) g := rfl
  (((Mod.of_below (S := RowS (some ⟨g, 0, none⟩)) k).set (.inl hg)).set (.inl hg)).set (.inl hg)
/-- in a loop over the bodies: the first j rows are done -/
structure RowI (b : Nat) (cs : Array Value) (A : Option Addr) (n cap : Nat) (w1 wr : World) (X : Nat → Nat → Int) : Prop where
  blk : Blk wr b cs
  row : RowQ 0 wr A n cap X
  mod : Mod (RowS A) w1 wr
theorem touchS_eq {M M' : Nat → Nat → Int} {n : Nat} (e : ∀ i, i < n → ∀ j, j < 9 → M i j = M' i j) (k c : Nat) : touchS M n k c = touchS M' n k c := by
  unfold touchS
  rw [touchL_eq e]
  exact touchM_eq e (fun p hp => touchL_lt hp) k c
/-- the first k rows moved in the tree -/
def mixF (M4 M : Nat → Nat → Int) (k a j : Nat) : Int := if a < k then M4 a j else M a j
theorem mix_tree {D : Int → Option Bx} {M4 M : Nat → Nat → Int} {n k : Nat} (h : TreeOf D (mixF M4 M k) n) (hs : Rise M n) (he : ∀ i, i < n → M4 i 0 = M i 0) (hk : k < n) : TreeOf (updD D (M4 k 0) (boxR M4 k)) (mixF M4 M (k + 1)) n where
  yes i hi := by
    have e0 : ∀ q, mixF M4 M q i 0 = M i 0 := fun q => by unfold mixF; split; exact he i hi; rfl
    rw [e0]
    by_cases e : i = k
    · subst e
      unfold updD
      rw [he i hi, if_pos rfl]
      exact congrArg some (box_eq fun j _ => by unfold mixF; rw [if_pos (Nat.lt_succ_self _)])
    · unfold updD
      rw [he k hk, if_neg (fun h' => e (hs.inj hi hk h'))]
      have h1 := h.yes i hi
      rw [e0] at h1
      rw [h1]
      exact congrArg some (box_eq fun j _ => by
        unfold mixF
        by_cases h2 : i < k
        · rw [if_pos h2, if_pos (by omega)]
        · rw [if_neg h2, if_neg (by omega)])
  no x hx := by
    have e0 : ∀ q i, i < n → mixF M4 M q i 0 = M i 0 := fun q i hi => by unfold mixF; split; exact he i hi; rfl
    unfold updD
    rw [if_neg (fun e => hx k hk (by rw [e0 _ _ hk, e, he k hk])), h.no x fun i hi e => hx i hi (by rw [e0 _ _ hi, ← e, e0 _ _ hi])]
/-- between two rounds of the last loop -/
structure PutI (b : Nat) (cs : Array Value) (A : Option Addr) (n cap : Nat) (w6 wr : World) (M4 M : Nat → Nat → Int) (t p k : Nat) (R : Nat → Prop) : Prop where
  blk : Blk wr b cs
  row : RowQ 0 wr A n cap M4
  tree : ∃ D Rk, BW wr t 65536 (p + k) D n Rk ∧ TreeOf D (mixF M4 M k) n ∧ ∀ x, Rk x → R x ∨ w6.heap.size ≤ x
  mod : Mod R w6 wr
theorem mod_step {R Rk : Nat → Prop} {w6 wr w' : World} (h : Mod R w6 wr) (k : Mod Rk wr w') (e : ∀ x, Rk x → R x ∨ w6.heap.size ≤ x) : Mod R w6 w' :=
  ((h.mono (T := fun x => R x ∨ w6.heap.size ≤ x) fun _ _ => .inl).trans (k.mono fun x _ hx => e x hx)).mono fun x hx h => h.resolve_right (by omega)
theorem WMem.grav {w w1 wr : World} {b cap t n p : Nat} {c : Cf} {A : Option Addr} {M : Nat → Nat → Int} {nx st st' : Int} {D : Int → Option Bx} {R S : Nat → Prop} (h : WMem w b c A cap t n M nx st p D R S) (k1 : Mod (· = b) w w1) (hI : RowI b (wcells c A n cap t nx st') A n cap w1 wr (gravF c M n)) :
    WMem wr b c A cap t n (gravF c M n) nx st' p D R S := by
  have k : Mod (fun x => x = b ∨ RowS A x) w wr := (k1.mono fun _ _ => .inl).trans (hI.mod.mono fun _ _ => .inr)
  exact { blk := hI.blk, row := hI.row, tree := h.tree.mod k (fun x hx e => e.elim (fun e => h.rb (e ▸ hx)) fun e => (h.ra x e).1 hx), td := h.td.eq fun i _ j hj => (gravF_col c M n i (by omega)).symm, rise := h.rise.eq fun i _ => (gravF_col c M n i (by omega)).symm, ok := fun i hi => gravF_ok (h.ok i hi), low := fun i hi => by rw [gravF_col c M n i (by omega)]; exact h.low i hi, nxb := h.nxb, few := h.few, law := h.law, lt := fun x hx => Nat.lt_of_lt_of_le (h.lt x hx) k.size, sb := h.sb, sr := h.sr, sa := h.sa, rb := h.rb, ra := h.ra }
theorem grav_len (c : Cf) (M : Nat → Nat → Int) (n : Nat) : touchL (gravF c M n) n = touchL M n := touchL_eq fun i _ j hj => gravF_col c M n i (by omega)
theorem grav_rows (c : Cf) (M : Nat → Nat → Int) (n m : Nat) : rowsL (touchS (gravF c M n) n) 6 m = rowsL (touchS M n) 6 m := rowsL_congr (by decide) fun k _ j _ => touchS_eq (fun i _ j hj => gravF_col c M n i (by omega)) k j
theorem reads_row {w : World} {base m : Nat} {e : TypeId} {A : Option Addr} {C c : Nat} {T : Nat → Nat → Int} (h : w.ownsRow base e c (.slice A m C) m (rowsL T c m)) : Reads w A m c T := fun hm => by
  obtain ⟨g, cap, hv, _, _, _, hT⟩ := tab_of_own h hm
  cases hv
  exact Reads.of_tab hT hm
theorem touchL_few (M : Nat → Nat → Int) (n : Nat) (h : n ≤ 60) : (touchL M n).length ≤ 3600 := by
  have h1 : (touchL M n).length ≤ (pairsR M n).length := List.length_filter_le _ _
  have h2 : ∀ l : List Nat, (l.flatMap fun i => ((List.range n).filter (meetR M i)).map fun j => (i, j)).length ≤ l.length * n := by
    intro l
    induction l with
    | nil => simp
    | cons x l ih =>
      rw [List.flatMap_cons, List.length_append, List.length_map, List.length_cons, Nat.add_mul, Nat.one_mul]
      have := List.length_filter_le (meetR M x) (List.range n)
      rw [List.length_range] at this
      omega
  have h3 := h2 (List.range n)
  rw [List.length_range] at h3
  have h4 : n * n ≤ 60 * 60 := Nat.mul_le_mul h h
  unfold pairsR at h1
  omega
theorem at_len {A : Option Addr} {w : World} {base n cap : Nat} {M : Nat → Nat → Int} (h : RowQ base w A n cap M) {g : Nat} (e : A = some ⟨g, 0, none⟩) : base ≤ g := by
  obtain ⟨_, ⟨hv, _⟩ | ⟨g', c, cur, hv, hg, _⟩⟩ := h
  · cases hv; cases e
  · cases hv; cases e; exact hg
set_option maxRecDepth 100000 in
set_option maxHeartbeats 16000000 in
theorem step_c (w : World) (b : Nat) (c : Cf) (n : Nat) (M : Nat → Nat → Int) (nx st : Int) (p : Nat) (S : Nat → Prop) (hW : WM w b c n M nx st p S) (hp : p + 60 < 300000) (hst : 0 ≤ st ∧ st < 1000000000) :
    Calls Tryz.prog 11 #[.pointer (some ⟨b, 0, none⟩)] w fun e w' => e = .returned (.tuple #[]) ∧ WPost w b c n (stepM c M n) nx (st + 1) (p + n) S w' := by
  obtain ⟨A, cap, t, D, R, hW⟩ := hW
  have HW := Lib.hid hW
  have HP := Lib.hid hp
  have HST := Lib.hid hst
  have hn60 := hW.few
  obtain ⟨zt, ct, ft⟩ := id hW.blk
  unfold wcells at ct
  have hws : wrap64 (st + 1) = st + 1 := by unfold wrap64; omega
  clear hW hp hst
  have hmc := more_cell
  have hml := more_lt
  go_enter Tryz.func11, Tryz.ntmps11
  go_upto_region 1 with fail
  refine wp_named ?_
  rintro w1 hw1
  have HB1 : Hid (Blk w1 b #[.int .i64 c.f1, .int .i64 c.f2, .int .i64 c.f3, .int .i64 c.bo, .int .i64 c.ru, .int .i64 c.ro, .int .i64 c.qu, .slice A n cap, .pointer (some ⟨t, 0, none⟩), .int .i64 nx, .int .i64 (st + 1)]) := Lib.hid (by rw [hw1]; exact blk_as (Blk.put HW.out.blk) (by simp [wcells]))
  have HM1 : Hid (Mod (· = b) w w1) := Lib.hid (by rw [hw1]; exact Mod.set (Mod.refl _ _) (.inl rfl))
  have HI1 : Hid (RowI b #[.int .i64 c.f1, .int .i64 c.f2, .int .i64 c.f3, .int .i64 c.bo, .int .i64 c.ru, .int .i64 c.ro, .int .i64 c.qu, .slice A n cap, .pointer (some ⟨t, 0, none⟩), .int .i64 nx, .int .i64 (st + 1)] A n cap w1 w1 (gravF c M 0)) := Lib.hid ⟨HB1.out, (HW.out.row.mod HM1.out fun g e => (HW.out.ra g e).2).eq fun i _ j _ => (gravF_zero c M i j).symm, Mod.refl _ _⟩
  clear hw1 zt ct ft hws
  obtain ⟨zt, ct, ft⟩ := id HB1.out
  go_wp2
  clear zt ct ft
  go_loopg [22] n (fun k vi wr => ∃ j : Nat, vi = .int .i64 (j : Int) ∧ j ≤ n ∧ k = n - j ∧ RowI b #[.int .i64 c.f1, .int .i64 c.f2, .int .i64 c.f3, .int .i64 c.bo, .int .i64 c.ru, .int .i64 c.ro, .int .i64 c.qu, .slice A n cap, .pointer (some ⟨t, 0, none⟩), .int .i64 nx, .int .i64 (st + 1)] A n cap w1 wr (gravF c M j))
  case atStart => exact ⟨0, rfl, Nat.zero_le _, rfl, HI1.out⟩
  case round =>
    obtain ⟨j, rfl, hj, hk, hti⟩ := hrel
    have HTI := Lib.hid hti
    have HK := Lib.hid hk
    clear hti hk
    by_cases hl : j < n
    · have d0 : decide ((j : Int) < (n : Int)) = true := decide_eq_true (by omega)
      have hw1 : wrap64 ((j : Int) + 1) = (j : Int) + 1 := by unfold wrap64; omega
      obtain ⟨g, eA, _, hT⟩ := HTI.out.row.own (by omega)
      subst eA
      have hgb : g ≠ b := (HW.out.ra g rfl).2
      have hgl := hT.lt
      obtain ⟨zt, ct, ft⟩ := id HTI.out.blk
      have y9 : wr.cell? ⟨g, j * 17 + 9, none⟩ = some (.int .i64 (M j 9)) := (hT.cell hl (j := 9) (by decide)).trans (by rw [gravF_row])
      have y10 : wr.cell? ⟨g, j * 17 + 9 + 1, none⟩ = some (.int .i64 (M j 10)) := (hT.cell hl (j := 10) (by decide)).trans (by rw [gravF_row])
      have y11 : wr.cell? ⟨g, j * 17 + 9 + 2, none⟩ = some (.int .i64 (M j 11)) := (hT.cell hl (j := 11) (by decide)).trans (by rw [gravF_row])
      have y12 : wr.cell? ⟨g, j * 17 + 12, none⟩ = some (.int .i64 (M j 12)) := (hT.cell hl (j := 12) (by decide)).trans (by rw [gravF_row])
      have y13 : wr.cell? ⟨g, j * 17 + 12 + 1, none⟩ = some (.int .i64 (M j 13)) := (hT.cell hl (j := 13) (by decide)).trans (by rw [gravF_row])
      have y14 : wr.cell? ⟨g, j * 17 + 12 + 2, none⟩ = some (.int .i64 (M j 14)) := (hT.cell hl (j := 14) (by decide)).trans (by rw [gravF_row])
      have y15 : wr.cell? ⟨g, j * 17 + 15, none⟩ = some (.int .i64 (M j 15)) := (hT.cell hl (j := 15) (by decide)).trans (by rw [gravF_row])
      by_cases hm : 0 < M j 15
      · have d1 : decide (0 < M j 15) = true := decide_eq_true hm
        have HM := Lib.hid hm
        clear hm
        go_upto_region 6 with fail
        refine region_quiet_but 19 (by kernel_rfl) (by kernel_rfl) ?_
        simp only [List.take_succ_cons, List.take_zero, List.drop_succ_cons, List.drop_zero]
        repeat (go_big_quiet_step (first | (go_at_call 13; exact calls_after (plus_c _ _ _ _ _ _ _)) | (go_at_call 12; exact calls_after (clampS_c _ _ _ _))))
        refine wpQuiet_nil ?_
        rintro w3 hw3
        have hb3 := after_below hw3
        have HB3 := Lib.hid hb3
        have hT3 := HTI.out.row.own.below hb3
        obtain ⟨g', e1, _, hT3⟩ := hT3 (by omega)
        cases e1
        have v0 : w3.cell? ⟨g, j * 17 + 9, none⟩ = some (.int .i64 (gravF c M j j 9)) := hT3.cell hl (j := 9) (by decide)
        have v1 : w3.cell? ⟨g, j * 17 + 9 + 1, none⟩ = some (.int .i64 (gravF c M j j 10)) := hT3.cell hl (j := 10) (by decide)
        have v2 : w3.cell? ⟨g, j * 17 + 9 + 2, none⟩ = some (.int .i64 (gravF c M j j 11)) := hT3.cell hl (j := 11) (by decide)
        have u0 : w3.frozen? ⟨g, j * 17 + 9, none⟩ = false := hT3.free _
        have u1 : w3.frozen? ⟨g, j * 17 + 9 + 1, none⟩ = false := hT3.free _
        have u2 : w3.frozen? ⟨g, j * 17 + 9 + 2, none⟩ = false := hT3.free _
        have zb := hT3.lt
        clear hw3 hb3 hT zt ct ft hgl y9 y10 y11 y12 y13 y14 y15
        go_wp2
        go_roundg (n - (j + 1))
        case measure => have := HK.out; omega
        case rel =>
          refine ⟨j + 1, by first | (simp; done) | (simp; exact hw1) | rfl, by omega, rfl, ⟨?_, row_set3 HTI.out.row HB3.out hl (by decide) _ _ _ fun a q => gravF_yes HM.out a q, HTI.out.mod.trans (mod_set3 HB3.out _ _ _)⟩⟩
          exact ((HTI.out.blk.below HB3.out).far hgb).far hgb |>.far hgb
      · have d1 : decide (0 < M j 15) = false := decide_eq_false hm
        have HM : Hid (M j 15 ≤ 0) := Lib.hid (by omega)
        clear hm
        go_wp2
        go_roundg (n - (j + 1))
        case measure => have := HK.out; omega
        case rel =>
          exact ⟨j + 1, by first | (simp; done) | (simp; exact hw1) | rfl, by omega, rfl, ⟨HTI.out.blk, HTI.out.row.eq fun i _ q _ => gravF_no HM.out i q, HTI.out.mod⟩⟩
    · have d0 : decide ((j : Int) < (n : Int)) = false := decide_eq_false (by omega)
      have ej : j = n := by omega
      rw [ej] at HTI
      clear hl hj HK
      obtain ⟨zt, ct, ft⟩ := id HTI.out.blk
      have HG : Hid (WMem wr b c A cap t n (gravF c M n) nx (st + 1) p D R S) := Lib.hid (HW.out.grav HM1.out HTI.out)
      have HMa : Hid (Mod S w wr) := Lib.hid ((HM1.out.mono fun x _ e => e ▸ HW.out.sb).trans (HTI.out.mod.mono fun x _ e => HW.out.sa x e))
      go_wp2_with fail
      refine (touchesW_c wr b c A cap t n (gravF c M n) nx (st + 1) p D R S HG.out (by have := HP.out; omega)).mono ?_
      rintro e w2 ⟨v, rfl, hb2, hrow⟩
      rw [grav_rows, grav_len] at hrow
      obtain ⟨TA, TC, rfl, hTA⟩ := row_any hrow
      have hm36 := touchL_few M n HW.out.few
      obtain ⟨m, hm⟩ : ∃ m, m = (touchL M n).length := ⟨_, rfl⟩
      rw [← hm] at hrow hm36
      rw [← hm]
      have HMM := Lib.hid hm
      have HT2 := Lib.hid (row_mono hrow (Nat.zero_le _))
      have HTB : Hid (∀ x, (Value.slice TA m TC).ownBlock = some x → w.heap.size ≤ x) := Lib.hid (fun x e => Nat.le_trans HMa.out.size (row_lt hrow e).2)
      have HG2 := Lib.hid (HG.out.below hb2)
      have HMb : Hid (Mod S w w2) := Lib.hid (HMa.out.below hb2)
      have HTN := Lib.hid hTA
      clear hm hrow hb2 zt ct ft hTA
      obtain ⟨zt, ct, ft⟩ := id HG2.out.blk
      unfold wcells at ct
      have hS0 : Blk w2.drew b #[.int .i64 c.f1, .int .i64 c.f2, .int .i64 c.f3, .int .i64 c.bo, .int .i64 c.ru, .int .i64 c.ro, .int .i64 c.qu, .slice A n cap, .pointer (some ⟨t, 0, none⟩), .int .i64 nx, .int .i64 (st + 1)] := HG2.out.blk.drew
      go_upto_region 9 with fail
      refine region_held_tail (fun w' => Blk w' b #[.int .i64 c.f1, .int .i64 c.f2, .int .i64 c.f3, .int .i64 c.bo, .int .i64 c.ru, .int .i64 c.ro, .int .i64 c.qu, .slice A n cap, .pointer (some ⟨t, 0, none⟩), .int .i64 nx, .int .i64 (st + 1)]) 12 (by kernel_rfl) (by kernel_rfl) hS0 (fun hHeld => ?_)
      clear hS0 zt ct ft
      simp only [List.take_succ_cons, List.take_zero]
      refine wpAnyH_take (i := 0) (v := .pointer (some ⟨b, 0, none⟩)) rfl (by kernel_rfl) (by kernel_rfl) (by kernel_rfl) (fun _ _ _ h => h) (Or.inl ⟨by kernel_rfl, ?ys_0⟩) hHeld ?rs_0
      case ys_0 =>
        intro w hSw
        go_simp
        try with_reducible rfl
      try simp only [Act.put, List.getElem_toArray, List.getElem_cons_zero, List.setIfInBounds_toArray, List.set_cons_zero, List.set_cons_succ]
      refine wpAnyH_take (i := 1) (v := .pointer (some ⟨b, 0, none⟩)) rfl (by kernel_rfl) (by kernel_rfl) (by kernel_rfl) (fun _ _ _ h => h) (Or.inl ⟨by kernel_rfl, ?ys_1⟩) hHeld ?rs_1
      case ys_1 =>
        intro w hSw
        go_simp
        try with_reducible rfl
      try simp only [Act.put, List.getElem_toArray, List.getElem_cons_zero, List.getElem_cons_succ, List.setIfInBounds_toArray, List.set_cons_zero, List.set_cons_succ]
      refine wpAnyH_take (i := 2) (v := .pointer (some ⟨b, 0, none⟩)) rfl (by kernel_rfl) (by kernel_rfl) (by kernel_rfl) (fun _ _ _ h => h) (Or.inl ⟨by kernel_rfl, ?ys_2⟩) hHeld ?rs_2
      case ys_2 =>
        intro w hSw
        go_simp
        try with_reducible rfl
      try simp only [Act.put, List.getElem_toArray, List.getElem_cons_zero, List.getElem_cons_succ, List.setIfInBounds_toArray, List.set_cons_zero, List.set_cons_succ]
      refine wpAnyH_take (i := 3) (v := .pointer (some ⟨b, 7, none⟩)) rfl (by kernel_rfl) (by kernel_rfl) (by kernel_rfl) (fun _ _ _ h => h) (Or.inl ⟨by kernel_rfl, ?ys_3⟩) hHeld ?rs_3
      case ys_3 =>
        intro w hSw
        go_simp
        try with_reducible rfl
      try simp only [Act.put, List.getElem_toArray, List.getElem_cons_zero, List.getElem_cons_succ, List.setIfInBounds_toArray, List.set_cons_zero, List.set_cons_succ]
      refine wpAnyH_take (i := 4) (v := .slice A n cap) rfl (by kernel_rfl) (by kernel_rfl) (by kernel_rfl) (fun _ _ _ h => h) (Or.inl ⟨by kernel_rfl, ?ys_4⟩) hHeld ?rs_4
      case ys_4 =>
        intro w hSw
        obtain ⟨zs, cs, fs⟩ := hSw
        go_simp
        try with_reducible rfl
      try simp only [Act.put, List.getElem_toArray, List.getElem_cons_zero, List.getElem_cons_succ, List.setIfInBounds_toArray, List.set_cons_zero, List.set_cons_succ]
      refine wpAnyH_take (i := 5) (v := .slice TA m TC) rfl (by kernel_rfl) (by kernel_rfl) (by kernel_rfl) (fun _ _ _ h => h) (Or.inl ⟨by kernel_rfl, ?ys_5⟩) hHeld ?rs_5
      case ys_5 =>
        intro w hSw
        go_simp
        try with_reducible rfl
      try simp only [Act.put, List.getElem_toArray, List.getElem_cons_zero, List.getElem_cons_succ, List.setIfInBounds_toArray, List.set_cons_zero, List.set_cons_succ]
      refine wpAnyH_take (i := 6) (v := .pointer (some ⟨b, 0, none⟩)) rfl (by kernel_rfl) (by kernel_rfl) (by kernel_rfl) (fun _ _ _ h => h) (Or.inl ⟨by kernel_rfl, ?ys_6⟩) hHeld ?rs_6
      case ys_6 =>
        intro w hSw
        go_simp
        try with_reducible rfl
      try simp only [Act.put, List.getElem_toArray, List.getElem_cons_zero, List.getElem_cons_succ, List.setIfInBounds_toArray, List.set_cons_zero, List.set_cons_succ]
      refine wpAnyH_take (i := 7) (v := .pointer (some ⟨b, 0, none⟩)) rfl (by kernel_rfl) (by kernel_rfl) (by kernel_rfl) (fun _ _ _ h => h) (Or.inl ⟨by kernel_rfl, ?ys_7⟩) hHeld ?rs_7
      case ys_7 =>
        intro w hSw
        go_simp
        try with_reducible rfl
      try simp only [Act.put, List.getElem_toArray, List.getElem_cons_zero, List.getElem_cons_succ, List.setIfInBounds_toArray, List.set_cons_zero, List.set_cons_succ]
      refine wpAnyH_take (i := 8) (v := .pointer (some ⟨b, 0, none⟩)) rfl (by kernel_rfl) (by kernel_rfl) (by kernel_rfl) (fun _ _ _ h => h) (Or.inl ⟨by kernel_rfl, ?ys_8⟩) hHeld ?rs_8
      case ys_8 =>
        intro w hSw
        go_simp
        try with_reducible rfl
      try simp only [Act.put, List.getElem_toArray, List.getElem_cons_zero, List.getElem_cons_succ, List.setIfInBounds_toArray, List.set_cons_zero, List.set_cons_succ]
      refine wpAnyH_take (i := 9) (v := .pointer (some ⟨b, 3, none⟩)) rfl (by kernel_rfl) (by kernel_rfl) (by kernel_rfl) (fun _ _ _ h => h) (Or.inl ⟨by kernel_rfl, ?ys_9⟩) hHeld ?rs_9
      case ys_9 =>
        intro w hSw
        go_simp
        try with_reducible rfl
      try simp only [Act.put, List.getElem_toArray, List.getElem_cons_zero, List.getElem_cons_succ, List.setIfInBounds_toArray, List.set_cons_zero, List.set_cons_succ]
      refine wpAnyH_take (i := 10) (v := .agg #[.int .i64 c.bo, .int .i64 c.ru, .int .i64 c.ro]) rfl (by kernel_rfl) (by kernel_rfl) (by kernel_rfl) (fun _ _ _ h => h) (Or.inl ⟨by kernel_rfl, ?ys_10⟩) hHeld ?rs_10
      case ys_10 =>
        intro w hSw
        obtain ⟨zs, cs, fs⟩ := hSw
        go_simp
        try with_reducible rfl
      try simp only [Act.put, List.getElem_toArray, List.getElem_cons_zero, List.getElem_cons_succ, List.setIfInBounds_toArray, List.set_cons_zero, List.set_cons_succ]
      refine any_freshT ?_ hHeld
      clear hHeld
      rintro w4 hb4 hHeld
      have HB4 := Lib.hid hHeld
      have hv4 : Below w2.heap.size w2 w4 := (Below.refl _ _).drew.trans hb4
      have HG4 := Lib.hid (HG2.out.below hv4)
      have HT4 := Lib.hid (row_below HT2.out hv4)
      have HMd : Hid (Mod S w w4) := Lib.hid (HMb.out.below hv4)
      clear hb4 hv4
      refine wpAnyH_ready (rs := [11]) (by kernel_rfl) (by simp) ?_
      refine AllReadyH.cons (o := _) rfl (fun K hK => ?_) AllReadyH.nil
      go_simp
      refine (speeds_c (gravF c M n) (touchS M n) A TA n cap m TC c.bo c.ru c.ro w4 HG4.out.reads HG4.out.row.nil (by omega) (reads_row HT4.out) (by omega)).mono ?_
      rintro e w5 ⟨A2, cap2, rfl, hR5, hb5⟩
      try dsimp only
      refine hK.out _ _ (hHeld.below hb5) (fun hHeld => ?_)
      clear hK K
      try simp only [Act.put, List.getElem_toArray, List.getElem_cons_zero, List.getElem_cons_succ, List.setIfInBounds_toArray, List.set_cons_zero, List.set_cons_succ]
      refine wpAnyH_done (by kernel_rfl) ?_ _
      have HB5 := Lib.hid hHeld
      clear hHeld
      simp only [TailQ, List.drop_succ_cons, List.drop_zero]
      obtain ⟨M2, hM2⟩ : ∃ M2, M2 = speedsF (gravF c M n) (touchS M n) n m c.bo c.ru c.ro := ⟨_, rfl⟩
      rw [← hM2] at hR5
      have HM2 := Lib.hid hM2
      have HR5 := Lib.hid hR5
      have HT5 := Lib.hid (row_below HT4.out hb5)
      have HMe : Hid (Mod S w w5) := Lib.hid (HMd.out.below hb5)
      have HL4 : Hid (w.heap.size ≤ w4.heap.size) := Lib.hid HMd.out.size
      have HTL : Hid (∀ x, (Value.slice TA m TC).ownBlock = some x → x < w4.heap.size) := Lib.hid (fun x e => (row_lt HT4.out e).1)
      have HAL : Hid (b < w.heap.size ∧ ∀ g, A2 = some ⟨g, 0, none⟩ → w4.heap.size ≤ g) := Lib.hid ⟨HW.out.blk.lt, fun g e => at_len hR5 e⟩
      have HTR : Hid (BW w5 t 65536 p D n R) := Lib.hid (HG4.out.tree.below hb5)
      clear hM2 hR5 hb5
      obtain ⟨zt, ct, ft⟩ := id HB5.out
      go_upto_region 10 with fail
      refine wp_named ?_
      rintro w6 hw6
      have HM6 : Hid (Mod (· = b) w5 w6) := Lib.hid (by rw [hw6]; exact Mod.set (Mod.refl _ _) (.inl rfl))
      have HB6 : Hid (Blk w6 b #[.int .i64 c.f1, .int .i64 c.f2, .int .i64 c.f3, .int .i64 c.bo, .int .i64 c.ru, .int .i64 c.ro, .int .i64 c.qu, .slice A2 n cap2, .pointer (some ⟨t, 0, none⟩), .int .i64 nx, .int .i64 (st + 1)]) := Lib.hid (by rw [hw6]; exact blk_as (Blk.put HB5.out) (by simp))
      have HI6 : Hid (RowI b #[.int .i64 c.f1, .int .i64 c.f2, .int .i64 c.f3, .int .i64 c.bo, .int .i64 c.ru, .int .i64 c.ro, .int .i64 c.qu, .slice A2 n cap2, .pointer (some ⟨t, 0, none⟩), .int .i64 nx, .int .i64 (st + 1)] A2 n cap2 w6 w6 (moveF M2 0)) := Lib.hid ⟨HB6.out, ((HR5.out.mod HM6.out fun g e => by have := HAL.out.2 g e; have := HAL.out.1; have := HL4.out; omega).mono (Nat.zero_le _)).eq fun i _ j _ => (moveF_zero M2 i j).symm, Mod.refl _ _⟩
      clear hw6 zt ct ft
      obtain ⟨zt, ct, ft⟩ := id HB6.out
      go_wp2
      clear zt ct ft
      go_loopg [77] n (fun k vi wr => ∃ j : Nat, vi = .int .i64 (j : Int) ∧ j ≤ n ∧ k = n - j ∧ RowI b #[.int .i64 c.f1, .int .i64 c.f2, .int .i64 c.f3, .int .i64 c.bo, .int .i64 c.ru, .int .i64 c.ro, .int .i64 c.qu, .slice A2 n cap2, .pointer (some ⟨t, 0, none⟩), .int .i64 nx, .int .i64 (st + 1)] A2 n cap2 w6 wr (moveF M2 j))
      case atStart => exact ⟨0, rfl, Nat.zero_le _, rfl, HI6.out⟩
      case round =>
        obtain ⟨j, rfl, hj, hk, hti⟩ := hrel
        have HTI := Lib.hid hti
        have HK := Lib.hid hk
        clear hti hk
        by_cases hl : j < n
        · have d0 : decide ((j : Int) < (n : Int)) = true := decide_eq_true (by omega)
          have hw1 : wrap64 ((j : Int) + 1) = (j : Int) + 1 := by unfold wrap64; omega
          obtain ⟨g, eA, _, hT⟩ := HTI.out.row.own (by omega)
          subst eA
          have hgb : g ≠ b := by have := HAL.out.2 g rfl; have := HAL.out.1; have := HL4.out; omega
          have hgl := hT.lt
          obtain ⟨zt, ct, ft⟩ := id HTI.out.blk
          go_upto_region 14 with fail
          refine region_grow (A := ?A14) 9 [7] (fun _ => #[.int .i64 0, .int .i64 0, .int .i64 0]) (by kernel_rfl) (by kernel_rfl) ?hrun14 ?hq14 ?htail14
          case hq14 =>
            intro w0 hb0
            simp only [List.take_succ_cons, List.take_zero]
            obtain ⟨g', e1, _, hT0⟩ := HTI.out.row.own.below hb0 (by omega)
            cases e1
            have hg0 := hT0.lt
            have y6 : w0.cell? ⟨g, j * 17 + 6, none⟩ = some (.int .i64 (M2 j 6)) := (hT0.cell hl (j := 6) (by decide)).trans (by rw [moveF_row])
            have y7 : w0.cell? ⟨g, j * 17 + 6 + 1, none⟩ = some (.int .i64 (M2 j 7)) := (hT0.cell hl (j := 7) (by decide)).trans (by rw [moveF_row])
            have y8 : w0.cell? ⟨g, j * 17 + 6 + 2, none⟩ = some (.int .i64 (M2 j 8)) := (hT0.cell hl (j := 8) (by decide)).trans (by rw [moveF_row])
            have y9 : w0.cell? ⟨g, j * 17 + 9, none⟩ = some (.int .i64 (M2 j 9)) := (hT0.cell hl (j := 9) (by decide)).trans (by rw [moveF_row])
            have y10 : w0.cell? ⟨g, j * 17 + 9 + 1, none⟩ = some (.int .i64 (M2 j 10)) := (hT0.cell hl (j := 10) (by decide)).trans (by rw [moveF_row])
            have y11 : w0.cell? ⟨g, j * 17 + 9 + 2, none⟩ = some (.int .i64 (M2 j 11)) := (hT0.cell hl (j := 11) (by decide)).trans (by rw [moveF_row])
            repeat (go_big_quiet_step ((go_at_call 13; exact calls_after (plus_c _ _ _ _ _ _ _))))
            refine wpQuiet_nil ?_
            rfl
          case hrun14 =>
            intro j hj
            match j, hj with
            | 0, _ => exact ⟨_, _, rfl, fun a w => by simp [go_sem]; rfl⟩
          case htail14 =>
            intro gs w8 hb8 hblk hne
            obtain ⟨G8, hg8⟩ := hblk 0 (by decide)
            simp only [List.drop_succ_cons, List.drop_zero, List.length_cons, List.length_nil, laySlots]
            clear hblk hne
            generalize gs 0 = g8 at *
            have HGE : Hid (g ≠ g8) := Lib.hid (by omega)
            have HB8 := Lib.hid hb8
            obtain ⟨zg, cg, fg⟩ := id G8
            go_upto_region 15 with fail
            refine wp_named ?_
            rintro w9 hw9
            have HV9 : Hid (Below wr.heap.size wr w9) := Lib.hid (by rw [hw9]; exact (by repeat (with_reducible (first | exact Below.refl _ _ | assumption | apply ext_drew | apply ext_drewN | apply ext_alloc | apply ext_more | (refine ext_setCell ?_ (by first | assumption | (simp <;> omega)) _) | (refine ext_below ?_ (by assumption))))))
            have HG9 : Hid (Blk w9 g8 #[.int .i64 (add (M2 j 6) (M2 j 9)), .int .i64 (add (M2 j 7) (M2 j 10)), .int .i64 (add (M2 j 8) (M2 j 11))]) := Lib.hid (by rw [hw9]; exact blk_as ((by repeat (with_reducible (first | assumption | (apply Blk.at; simp; done) | apply Blk.alloc | apply Blk.drew | apply Blk.drewN | apply Blk.more | apply Blk.put | (apply Blk.far; focus (first | assumption | (apply Ne.symm; assumption) | (simp; done) | (simp <;> omega))))))) (by simp))
            clear hw9 zg cg fg G8 zt ct ft hT hgl
            obtain ⟨g', e1, _, hT9⟩ := HTI.out.row.own.below HV9.out (by omega)
            cases e1
            obtain ⟨zg, cg, fg⟩ := id HG9.out
            have hgl := hT9.lt
            go_wp2_with fail
            refine (clampP_c _ _ _ _).mono ?_
            rintro e w10 ⟨rfl, hb10⟩
            have HV10 := Lib.hid (HV9.out.trans (hb10.mono HV9.out.size))
            have HG10 := Lib.hid (HG9.out.below hb10)
            clear zg cg fg hT9 hgl hb10
            obtain ⟨g', e1, _, hT10⟩ := HTI.out.row.own.below HV10.out (by omega)
            cases e1
            have v0 : w10.cell? ⟨g, j * 17 + 6, none⟩ = some (.int .i64 (moveF M2 j j 6)) := hT10.cell hl (j := 6) (by decide)
            have v1 : w10.cell? ⟨g, j * 17 + 6 + 1, none⟩ = some (.int .i64 (moveF M2 j j 7)) := hT10.cell hl (j := 7) (by decide)
            have v2 : w10.cell? ⟨g, j * 17 + 6 + 2, none⟩ = some (.int .i64 (moveF M2 j j 8)) := hT10.cell hl (j := 8) (by decide)
            have u0 : w10.frozen? ⟨g, j * 17 + 6, none⟩ = false := hT10.free _
            have u1 : w10.frozen? ⟨g, j * 17 + 6 + 1, none⟩ = false := hT10.free _
            have u2 : w10.frozen? ⟨g, j * 17 + 6 + 2, none⟩ = false := hT10.free _
            have zb := hT10.lt
            obtain ⟨M1, hM1⟩ : ∃ M1, M1 = put3 (moveF M2 j) j 6 (clamp 65536000 (add (M2 j 6) (M2 j 9))) (clamp 65536000 (add (M2 j 7) (M2 j 10))) (clamp 65536000 (add (M2 j 8) (M2 j 11))) := ⟨_, rfl⟩
            go_upto_region 16 with fail
            refine wp_named ?_
            rintro w11 hw11
            have HR11 : Hid (RowQ 0 w11 (some ⟨g, 0, none⟩) n cap2 M1) := Lib.hid (by rw [hw11]; exact row_set3 HTI.out.row HV10.out hl (by decide) _ _ _ fun a q => by rw [hM1])
            have HM11 : Hid (Mod (RowS (some ⟨g, 0, none⟩)) wr w11) := Lib.hid (by rw [hw11]; exact mod_set3 HV10.out _ _ _)
            have HG11 : Hid (Blk w11 g8 #[.int .i64 (add (M2 j 6) (M2 j 9)), .int .i64 (add (M2 j 7) (M2 j 10)), .int .i64 (add (M2 j 8) (M2 j 11))]) := Lib.hid (by rw [hw11]; exact ((HG10.out.far HGE.out).far HGE.out).far HGE.out)
            have HX1 := Lib.hid hM1
            clear hw11 hM1 v0 v1 v2 u0 u1 u2 zb hT10 hg8
            obtain ⟨zg, cg, fg⟩ := id HG11.out
            obtain ⟨g', e1, _, hT11⟩ := HR11.out.own (by omega)
            cases e1
            have hgl := hT11.lt
            have z6 : M1 j 6 = clamp 65536000 (add (M2 j 6) (M2 j 9)) := by rw [HX1.out]; simp [put3, put1]
            have z7 : M1 j 7 = clamp 65536000 (add (M2 j 7) (M2 j 10)) := by rw [HX1.out]; simp [put3, put1]
            have z8 : M1 j 8 = clamp 65536000 (add (M2 j 8) (M2 j 11)) := by rw [HX1.out]; simp [put3, put1]
            have z9 : ∀ q, q = 9 ∨ q = 10 ∨ q = 11 → M1 j q = M2 j q := fun q hq => by rw [HX1.out, put3_col _ _ _ _ _ _ _ (by omega), moveF_row]
            have HZ9 := Lib.hid z9
            clear z9
            have y6 : w11.cell? ⟨g, j * 17 + 6, none⟩ = some (.int .i64 (clamp 65536000 (add (M2 j 6) (M2 j 9)))) := (hT11.cell hl (j := 6) (by decide)).trans (by rw [z6])
            have y7 : w11.cell? ⟨g, j * 17 + 6 + 1, none⟩ = some (.int .i64 (clamp 65536000 (add (M2 j 7) (M2 j 10)))) := (hT11.cell hl (j := 7) (by decide)).trans (by rw [z7])
            have y8 : w11.cell? ⟨g, j * 17 + 6 + 2, none⟩ = some (.int .i64 (clamp 65536000 (add (M2 j 8) (M2 j 11)))) := (hT11.cell hl (j := 8) (by decide)).trans (by rw [z8])
            have y9 : w11.cell? ⟨g, j * 17 + 9, none⟩ = some (.int .i64 (M2 j 9)) := (hT11.cell hl (j := 9) (by decide)).trans (by rw [HZ9.out 9 (by omega)])
            have y10 : w11.cell? ⟨g, j * 17 + 9 + 1, none⟩ = some (.int .i64 (M2 j 10)) := (hT11.cell hl (j := 10) (by decide)).trans (by rw [HZ9.out 10 (by omega)])
            have y11 : w11.cell? ⟨g, j * 17 + 9 + 2, none⟩ = some (.int .i64 (M2 j 11)) := (hT11.cell hl (j := 11) (by decide)).trans (by rw [HZ9.out 11 (by omega)])
            refine region_quiet_but 43 (by kernel_rfl) (by kernel_rfl) ?_
            simp only [List.take_succ_cons, List.take_zero, List.drop_succ_cons, List.drop_zero]
            repeat (go_big_quiet_step ((go_at_call 21; exact calls_after_same (stopped_c _ _ _ _))))
            refine wpQuiet_nil ?_
            rintro w12 hw12
            have hb12 := after_below hw12
            have HB12 := Lib.hid hb12
            clear hT11 y6 y7 y8 y9 y10 y11 hgl zg cg fg hw12 hb12 z6 z7 z8
            obtain ⟨g', e1, _, hT12⟩ := HR11.out.own.below HB12.out (by omega)
            cases e1
            have v0 : w12.cell? ⟨g, j * 17 + 9, none⟩ = some (.int .i64 (M1 j 9)) := hT12.cell hl (j := 9) (by decide)
            have v1 : w12.cell? ⟨g, j * 17 + 9 + 1, none⟩ = some (.int .i64 (M1 j 10)) := hT12.cell hl (j := 10) (by decide)
            have v2 : w12.cell? ⟨g, j * 17 + 9 + 2, none⟩ = some (.int .i64 (M1 j 11)) := hT12.cell hl (j := 11) (by decide)
            have u0 : w12.frozen? ⟨g, j * 17 + 9, none⟩ = false := hT12.free _
            have u1 : w12.frozen? ⟨g, j * 17 + 9 + 1, none⟩ = false := hT12.free _
            have u2 : w12.frozen? ⟨g, j * 17 + 9 + 2, none⟩ = false := hT12.free _
            have zb := hT12.lt
            go_wp2
            go_roundg (n - (j + 1))
            case measure => have := HK.out; omega
            case rel =>
              refine ⟨j + 1, by first | (simp; done) | (simp; exact hw1) | rfl, by omega, rfl, ⟨?_, row_set3 HR11.out HB12.out hl (by decide) _ _ _ fun a q => ?_, (HTI.out.mod.trans HM11.out).trans (mod_set3 HB12.out _ _ _)⟩⟩
              · exact ((((HTI.out.blk.mod HM11.out fun e => hgb (by cases e; rfl)).below HB12.out).far hgb).far hgb).far hgb
              · rw [HX1.out]; exact moveF_succ M2 j a q
        · have d0 : decide ((j : Int) < (n : Int)) = false := decide_eq_false (by omega)
          have ej : j = n := by omega
          rw [ej] at HTI
          clear hl hj HK
          obtain ⟨zt, ct, ft⟩ := id HTI.out.blk
          have HMf : Hid (Mod S w wr) := Lib.hid (mod_step ((HMe.out.trans (HM6.out.mono fun x _ e => e ▸ HW.out.sb))) HTI.out.mod fun x e => .inr (Nat.le_trans HL4.out (HAL.out.2 x e)))
          have HTf : Hid (wr.ownsRow 0 44 6 (.slice TA m TC) m (rowsL (touchS M n) 6 m)) := Lib.hid (row_mod (row_mod HT5.out HM6.out fun x e h => by have := HTB.out x e; have := HAL.out.1; omega) HTI.out.mod fun x e h => by have := HTL.out x e; have := HAL.out.2 x h; omega)
          have HRf : Hid (BW wr t 65536 p D n R) := Lib.hid ((HTR.out.mod HM6.out fun x hx e => HW.out.rb (e ▸ hx)).mod HTI.out.mod fun x hx e => by have := HAL.out.2 x e; have := HL4.out; have := HW.out.lt x (HW.out.sr x hx); omega)
          go_wp2_with fail
          refine (places_c (moveF M2 n) (touchS M n) A2 TA n cap2 m TC wr (HTI.out.row.own.reads) HTI.out.row.nil (by omega) (reads_row HTf.out) (by omega)).mono ?_
          rintro e w7 ⟨A4, cap4, rfl, hR7, hb7⟩
          obtain ⟨M4, hM4⟩ : ∃ M4, M4 = placesF (moveF M2 n) (touchS M n) n m := ⟨_, rfl⟩
          rw [← hM4] at hR7
          have HM4 : Hid (M4 = stepM c M n) := Lib.hid (by rw [hM4, HM2.out, HMM.out]; rfl)
          have HR7 := Lib.hid hR7
          have HB7 := Lib.hid (HTI.out.blk.below hb7)
          have HRg := Lib.hid (HRf.out.below hb7)
          have HMg := Lib.hid (HMf.out.below hb7)
          have HLg : Hid (w.heap.size ≤ wr.heap.size) := Lib.hid HMf.out.size
          clear hM4 hR7 hb7 zt ct ft
          obtain ⟨zt, ct, ft⟩ := id HB7.out
          go_upto_region 19 with fail
          refine wp_named ?_
          rintro w8 hw8
          have HM8 : Hid (Mod (· = b) w7 w8) := Lib.hid (by rw [hw8]; exact Mod.set (Mod.refl _ _) (.inl rfl))
          have HB8 : Hid (Blk w8 b #[.int .i64 c.f1, .int .i64 c.f2, .int .i64 c.f3, .int .i64 c.bo, .int .i64 c.ru, .int .i64 c.ro, .int .i64 c.qu, .slice A4 n cap4, .pointer (some ⟨t, 0, none⟩), .int .i64 nx, .int .i64 (st + 1)]) := Lib.hid (by rw [hw8]; exact blk_as (Blk.put HB7.out) (by simp))
          have hA4 : ∀ g, A4 = some ⟨g, 0, none⟩ → w.heap.size ≤ g ∧ g ≠ b := fun g e => by have := at_len HR7.out e; have := HLg.out; have := HAL.out.1; omega
          have HA4 := Lib.hid hA4
          have HR8 : Hid (RowQ 0 w8 A4 n cap4 M4) := Lib.hid ((HR7.out.mod HM8.out fun g e => (HA4.out g e).2).mono (Nat.zero_le _))
          have HRh : Hid (BW w8 t 65536 p D n R) := Lib.hid (HRg.out.mod HM8.out fun x hx e => HW.out.rb (e ▸ hx))
          have HMh : Hid (Mod S w w8) := Lib.hid (HMg.out.trans (HM8.out.mono fun x _ e => e ▸ HW.out.sb))
          have HI8 : Hid (PutI b #[.int .i64 c.f1, .int .i64 c.f2, .int .i64 c.f3, .int .i64 c.bo, .int .i64 c.ru, .int .i64 c.ro, .int .i64 c.qu, .slice A4 n cap4, .pointer (some ⟨t, 0, none⟩), .int .i64 nx, .int .i64 (st + 1)] A4 n cap4 w8 w8 M4 M t p 0 R) := Lib.hid ⟨HB8.out, HR8.out, ⟨D, R, HRh.out, HW.out.td.eq fun i _ q _ => (if_neg (Nat.not_lt_zero i)).symm, fun _ h => .inl h⟩, Mod.refl _ _⟩
          clear hw8 hA4 zt ct ft
          obtain ⟨zt, ct, ft⟩ := id HB8.out
          go_wp2
          clear zt ct ft
          go_loopg [158] n (fun k vi wr => ∃ j : Nat, vi = .int .i64 (j : Int) ∧ j ≤ n ∧ k = n - j ∧ PutI b #[.int .i64 c.f1, .int .i64 c.f2, .int .i64 c.f3, .int .i64 c.bo, .int .i64 c.ru, .int .i64 c.ro, .int .i64 c.qu, .slice A4 n cap4, .pointer (some ⟨t, 0, none⟩), .int .i64 nx, .int .i64 (st + 1)] A4 n cap4 w8 wr M4 M t p j R)
          case atStart => exact ⟨0, rfl, Nat.zero_le _, rfl, HI8.out⟩
          case round =>
            obtain ⟨j, rfl, hj, hk, hti⟩ := hrel
            have HPI := Lib.hid hti
            have HK := Lib.hid hk
            clear hti hk
            by_cases hl : j < n
            · have d0 : decide ((j : Int) < (n : Int)) = true := decide_eq_true (by omega)
              have hw1 : wrap64 ((j : Int) + 1) = (j : Int) + 1 := by unfold wrap64; omega
              obtain ⟨g, eA, _, hT⟩ := HPI.out.row.own (by omega)
              subst eA
              have hgb := (HA4.out g rfl).2
              have hgl := hT.lt
              have HRG : Hid (wr.rangeAt g (j * 17) (rowL17 M4 j)) := Lib.hid (by
                have h := reads_range (oo := 0) (Below.refl wr.heap.size wr) hgl (fun k hk q hq => by rw [Nat.zero_add]; exact hT.cell hk hq) hl
                rwa [Nat.zero_add] at h)
              obtain ⟨zt, ct, ft⟩ := id HPI.out.blk
              clear hT
              go_upto_region 22 with (first | (refine wpList_load_mid rfl 37 (.tmp 160) rfl g (j * 17) rfl (rowL17 M4 j) _ HRG.out Tryz.underlying37 rfl bodyInfoW ?_) | (refine at_store_blk (b := wr.heap.size) (c' := (rowL17 M4 j).toArray) rfl 37 (.tmp 9) (.tmp 161) rfl rfl rfl (Blk.at _ _ _ _ rfl) rfl bodyInfoW (rowL17_one M4 j) ?_; intro w9 hp9 hm9))
              have HV9 : Hid (Below wr.heap.size wr w9) := Lib.hid ((below_alloc _ _).trans (hm9.toBelow (by simp) (fun x h1 (h2 : x = wr.heap.size) => by omega)))
              have HX9 : Hid (Blk w9 wr.heap.size #[.int .i64 (M4 j 0), .int .i64 (M4 j 1), .int .i64 (M4 j 2), .int .i64 (M4 j 3), .int .i64 (M4 j 4), .int .i64 (M4 j 5), .int .i64 (M4 j 6), .int .i64 (M4 j 7), .int .i64 (M4 j 8), .int .i64 (M4 j 9), .int .i64 (M4 j 10), .int .i64 (M4 j 11), .int .i64 (M4 j 12), .int .i64 (M4 j 13), .int .i64 (M4 j 14), .int .i64 (M4 j 15), .int .i64 (M4 j 16)]) := Lib.hid hp9
              have HB9 := Lib.hid (HPI.out.blk.below HV9.out)
              clear hp9 hm9 zt ct ft hgl
              obtain ⟨zt, ct, ft⟩ := id HB9.out
              obtain ⟨zp, cp, fp⟩ := id HX9.out
              try simp only [Act.put]
              refine region_quiet_but 11 (by kernel_rfl) (by kernel_rfl) ?_
              simp only [List.take_succ_cons, List.take_zero, List.drop_succ_cons, List.drop_zero]
              repeat (go_big_quiet_step ((go_at_call 24; exact calls_after (around_c _ _ _ _ _ _ _ _))))
              refine wpQuiet_nil ?_
              rintro w10 hw10
              have hb10 := after_below hw10
              have HV10 := Lib.hid (HV9.out.trans (hb10.mono HV9.out.size))
              clear hb10 hw10 zt ct ft zp cp fp
              obtain ⟨Dk, Rk, hTk, hDk, hRk⟩ := HPI.out.tree
              have hTk := hTk.below HV10.out
              have e40 : ∀ i, M4 i 0 = M i 0 := fun i => by rw [HM4.out]; exact stepT_col c M _ n _ i (by omega)
              have hok : RowOk M4 j := by rw [HM4.out]; exact stepT_ok HW.out.law hl (HW.out.ok j hl)
              have HOK := Lib.hid (And.intro hTk (And.intro hDk (And.intro hRk (And.intro e40 hok))))
              have hput := put_c w10 t (M4 j 0) (boxR M4 j) 65536 (p + j) Dk n Rk hTk (by decide) (by have := HP.out; omega) (keyI (by rw [e40]; have := HW.out.low j hl; have := HW.out.nxb; omega))
              rw [show bxV (boxR M4 j) = .agg #[.int .i64 (sub (M4 j 6) (hf (M4 j 2) (M4 j 3) (M4 j 3))), .int .i64 (sub (M4 j 7) (hf (M4 j 2) (M4 j 3) (M4 j 4))), .int .i64 (sub (M4 j 8) (hf (M4 j 2) (M4 j 3) (M4 j 5))), .int .i64 (add (M4 j 6) (hf (M4 j 2) (M4 j 3) (M4 j 3))), .int .i64 (add (M4 j 7) (hf (M4 j 2) (M4 j 3) (M4 j 4))), .int .i64 (add (M4 j 8) (hf (M4 j 2) (M4 j 3) (M4 j 5)))] from rfl] at hput
              clear hTk hDk hRk e40 hok
              go_wp2_with fail
              with_reducible refine hput.mono ?_
              clear hput
              rintro e w11 ⟨rfl, hm11, R', hT11, hR11⟩
              obtain ⟨_, hDk, hRk, e40, hok⟩ := HOK.out
              have hE : putE Dk n (M4 j 0) (boxR M4 j) = 0 := by
                obtain ⟨h1, h2⟩ := box_right hok
                have h3 : Dk (M4 j 0) = some (boxR (mixF M4 M j) j) := by
                  have := hDk.yes j hl
                  have e : mixF M4 M j j 0 = M4 j 0 := by unfold mixF; rw [if_neg (Nat.lt_irrefl _), e40]
                  rwa [e] at this
                unfold putE
                rw [h1, h2, if_neg (by decide), if_neg (by decide), if_neg (by rw [h3]; simp)]
              have hD : putD Dk n (M4 j 0) (boxR M4 j) = updD Dk (M4 j 0) (boxR M4 j) := if_pos hE
              have hN : putN Dk n (M4 j 0) (boxR M4 j) = n := by
                have h3 : Dk (M4 j 0) = some (boxR (mixF M4 M j) j) := by
                  have := hDk.yes j hl
                  have e : mixF M4 M j j 0 = M4 j 0 := by unfold mixF; rw [if_neg (Nat.lt_irrefl _), e40]
                  rwa [e] at this
                unfold putN
                rw [if_pos hE, h3]
                rfl
              rw [hD, hN] at hT11
              have hsz8 : w8.heap.size ≤ w10.heap.size := Nat.le_trans HPI.out.mod.size HV10.out.size
              have hw08 : w.heap.size ≤ w8.heap.size := HMh.out.size
              have hg8 : g < w8.heap.size := HR8.out.lt rfl
              have hne : ∀ x, Rk x → x ≠ b ∧ x ≠ g := fun x hx => by
                have h1 := HAL.out.1
                have h2 := (HA4.out g rfl).1
                rcases hRk x hx with h | h
                · have := HW.out.lt x (HW.out.sr x h)
                  exact ⟨fun e => HW.out.rb (e ▸ h), by omega⟩
                · exact ⟨by omega, by omega⟩
              have HNX : Hid (PutI b #[.int .i64 c.f1, .int .i64 c.f2, .int .i64 c.f3, .int .i64 c.bo, .int .i64 c.ru, .int .i64 c.ro, .int .i64 c.qu, .slice (some ⟨g, 0, none⟩) n cap4, .pointer (some ⟨t, 0, none⟩), .int .i64 nx, .int .i64 (st + 1)] (some ⟨g, 0, none⟩) n cap4 w8 w11 M4 M t p (j + 1) R) := Lib.hid ⟨(HPI.out.blk.below HV10.out).mod hm11 fun h => (hne b h).1 rfl, (HPI.out.row.below HV10.out).mod hm11 fun g' e h => by cases e; exact (hne g h).2 rfl, ⟨_, R', hT11, mix_tree hDk HW.out.rise (fun i _ => e40 i) hl, fun x hx => (hR11 x hx).elim (hRk x) fun h => .inr (Nat.le_trans hsz8 h)⟩, mod_step (HPI.out.mod.below HV10.out) hm11 hRk⟩
              clear hm11 hT11 hR11 hDk hRk e40 hok hE hD hN hsz8 hw08 hg8 hne HOK
              go_wp2
              go_roundg (n - (j + 1))
              case measure => have := HK.out; omega
              case rel => exact ⟨j + 1, by first | (simp; done) | (simp; exact hw1) | rfl, by omega, rfl, HNX.out⟩
            · have d0 : decide ((j : Int) < (n : Int)) = false := decide_eq_false (by omega)
              have ej : j = n := by omega
              rw [ej] at HPI
              clear hl hj HK
              go_wp2
              (try simp only [Exit.inBlock, Exit.then]); refine bodyPost_end (results_none rfl _ _ _) rfl ?_
              obtain ⟨Dk, Rk, hTk, hDk, hRk⟩ := HPI.out.tree
              have hmod : Mod S w wr := HMh.out.trans (HPI.out.mod.mono fun x _ h => HW.out.sr x h)
              have h1 := HAL.out.1
              have hw08 : w.heap.size ≤ w8.heap.size := HMh.out.size
              refine ⟨rfl, hmod, fun x => S x ∨ (w.heap.size ≤ x ∧ x < wr.heap.size), ⟨A4, cap4, t, Dk, Rk, ?_⟩, fun x h => h.imp id fun h => h.1⟩
              have hX : ∀ i, i < n → ∀ q, M4 i q = stepM c M n i q := fun i _ q => by rw [HM4.out]
              exact { blk := HPI.out.blk, row := HPI.out.row.eq fun i hi q _ => hX i hi q, tree := hTk, td := hDk.eq fun i hi q _ => by unfold mixF; rw [if_pos hi]; exact hX i hi q, rise := HW.out.rise.eq fun i _ => (stepT_col c M _ n _ i (by omega)).symm, ok := fun i hi => stepT_ok HW.out.law hi (HW.out.ok i hi), low := fun i hi => by
                        have e : stepM c M n i 0 = M i 0 := stepT_col c M _ n _ i (by omega)
                        rw [e]; exact HW.out.low i hi
                      nxb := HW.out.nxb
                      few := HW.out.few
                      law := HW.out.law
                      lt := fun x h => h.elim (fun h => Nat.lt_of_lt_of_le (HW.out.lt x h) hmod.size) fun h => h.2
                      sb := .inl HW.out.sb
                      sr := fun x hx => (hRk x hx).elim (fun h => .inl (HW.out.sr x h)) fun h => .inr ⟨by omega, hTk.2 x hx⟩
                      sa := fun g e => .inr ⟨(HA4.out g e).1, HPI.out.row.lt e⟩
                      rb := fun h => (hRk b h).elim HW.out.rb fun h => by omega
                      ra := fun g e => ⟨fun h => (hRk g h).elim (fun h => by have := HW.out.lt g (HW.out.sr g h); have := (HA4.out g e).1; omega) fun h => by have := HR8.out.lt e; omega, (HA4.out g e).2⟩ }
end Go.Proofs.YtniahipadfgkbaaGreat
