/- Proved: Rows.SnapAppliesCardSaid. Conditions: none. -/
import Derived.Test.YtnkinnfpebploaaDoorLift
import Derived.Test.YtnkinnfpebploaaDoorAs
import Derived.Test.YtnkinnfpebploaaDoorTie
import Derived.Test.YtnkinnfpebploaaDoorCards
import Derived.ChangeSame
import Derived.ChangeVars
import Derived.JoinedOf
import Derived.RowKit
import Derived.RowKitTokens
import Derived.LaidLaws
import Derived.LaidHandle
import Derived.Stop.Joined
import Derived.SevenTiedAt
import Derived.Test.YtnkinnfpebploaaDoorSnap1
import Derived.Test.YtnkinnfpebploaaDoorApp
import Derived.Test.YtnkinnfpebploaaDoorOwnTab
import Derived.Test.YtnkinnfpebploaaDoorApply4w
import Derived.Test.YtnkinnfpebploaaDoorOpenB
import Derived.Test.YtnkinnfpebploaaDoorOpen
import Derived.SizedLaws
import Derived.Test.YtnkinnfpebploaaDoorBare
namespace Go.Proofs.YtnkinnfpebploaaDoor
open Go.ChangeShapes Go.WideShapes Go.RowKit
theorem laid_et : Tryd.prog.globalNamed "errors.errorType" = some 0 := by kernel_rfl
theorem laid_rt : (Tryd.prog.cutTypes.find? (·.1 == "internal/reflectlite.rtype")).map (·.2) = some 187 := by kernel_rfl
theorem laid_size : Tryd.prog.types.size = 229 := by kernel_rfl
theorem laid_row : ((List.range 229).filter fun t => Tryd.prog.rowNamed t [101, 114, 114, 111, 114]) = [30] := by kernel_rfl
/-- what the condition gives a walk -/
theorem handle_of_laid {W : World} (h : laidMetH Tryd.prog [("errors.errorType", Rows.laid_errors_errorType)] W) : Handle W := by
  have h' : laidMet Tryd.prog [] W ∧ handlesMet Tryd.prog [("errors.errorType", Rows.laid_errors_errorType)] W := h
  obtain ⟨name, u, ty, e1, e2, e3, e4, e5⟩ := h'.2 _ (List.mem_singleton.2 rfl)
  have en : name = [101, 114, 114, 111, 114] := (Option.some.inj e1).symm
  subst en
  obtain rfl := Option.some.inj (laid_rt.symm.trans e2)
  have hm : ty ∈ (List.range 229).filter fun t => Tryd.prog.rowNamed t [101, 114, 114, 111, 114] := List.mem_filter.2 ⟨List.mem_range.2 (by rw [← laid_size]; exact e3), e4⟩
  rw [laid_row] at hm
  obtain rfl := List.mem_singleton.1 hm
  have hh : typeHandle Tryd.prog 30 = .pointer (some ⟨1, 30, none⟩) := by kernel_rfl
  rw [hh] at e5
  unfold Handle
  simpa using World.var?_cell laid_et e5 0
/-- a world that meets the condition -/
noncomputable def laidWorld (os : Os) : World :=
  let w0 := World.holding Tryd.prog os ⟨#[], #[], []⟩
  { w0 with heap := w0.heap.modify 0 fun
      | .cells _ t frozen => .cells #[.iface 187 (.agg #[.pointer (some ⟨1, 30, none⟩)])] t frozen
      | o => o }
theorem laidWorld_met (os : Os) (args : Array Value) : laidMetH Tryd.prog [("errors.errorType", Rows.laid_errors_errorType)] ((laidWorld os).forCall (fun _ _ => 0) ⟨#[], args, []⟩).memory :=
  laidMetH_of_parts (laidMet_nil _ _) (by kernel_rfl)
end Go.Proofs.YtnkinnfpebploaaDoor
namespace Go.Proofs.YtnkinnfpebploaaDoor
open Go.ChangeShapes Go.WideShapes Go.ChangeAt Go.RowKit Go.BigFrame
theorem seenInfo : (Tryd.prog.info? 142).map (fun i => (i.zero, i.size, i.bytes)) = some (some (.agg #[.int .i64 0, .int .i64 0, .int .i64 0, .int .i64 0, .int .i64 0, .int .i64 0, .int .i64 0, .int .i64 0, .int .i64 0, .int .i64 0, .int .i64 0]), 11, 88) := by kernel_rfl

theorem rowsL_zero (M : Nat → Nat → Int) (c : Nat) : rowsL M c 0 = [] := by simp [rowsL]
theorem rowsL_succ (M : Nat → Nat → Int) (k : Nat) : rowsL M 11 (k + 1) = rowsL M 11 k ++ (#[.int .i64 (M k 0), .int .i64 (M k 1), .int .i64 (M k 2), .int .i64 (M k 3), .int .i64 (M k 4), .int .i64 (M k 5), .int .i64 (M k 6), .int .i64 (M k 7), .int .i64 (M k 8), .int .i64 (M k 9), .int .i64 (M k 10)] : Array Value).toList := by
  unfold rowsL
  rw [Nat.add_mul, List.range_add, List.map_append]
  congr 1
  have e : ∀ j, j < 11 → (k * 11 + j) / 11 = k ∧ (k * 11 + j) % 11 = j := fun j hj => by omega
  simp only [List.range, List.range.loop, List.map]
  rw [(e 0 (by decide)).1, (e 0 (by decide)).2, (e 1 (by decide)).1, (e 1 (by decide)).2, (e 2 (by decide)).1, (e 2 (by decide)).2, (e 3 (by decide)).1, (e 3 (by decide)).2, (e 4 (by decide)).1, (e 4 (by decide)).2, (e 5 (by decide)).1, (e 5 (by decide)).2, (e 6 (by decide)).1, (e 6 (by decide)).2, (e 7 (by decide)).1, (e 7 (by decide)).2, (e 8 (by decide)).1, (e 8 (by decide)).2, (e 9 (by decide)).1, (e 9 (by decide)).2, (e 10 (by decide)).1, (e 10 (by decide)).2]
theorem ints_one (M : Nat → Nat → Int) (k : Nat) : ∀ u ∈ (#[.int .i64 (M k 0), .int .i64 (M k 1), .int .i64 (M k 2), .int .i64 (M k 3), .int .i64 (M k 4), .int .i64 (M k 5), .int .i64 (M k 6), .int .i64 (M k 7), .int .i64 (M k 8), .int .i64 (M k 9), .int .i64 (M k 10)] : Array Value).toList, u.oneCell' = true := by
  intro u hu
  simp at hu
  rcases hu with rfl | rfl | rfl | rfl | rfl | rfl | rfl | rfl | rfl | rfl | rfl <;> rfl

set_option maxRecDepth 100000 in
set_option maxHeartbeats 8000000 in
theorem seen_c (n : Nat) (A : Option Addr) (cap : Nat) (M : Nat → Nat → Int) (w : World) (hn : n ≤ 100000) (hR : Reads w A n 11 M) :
    Calls Tryd.prog 51 #[.slice A n cap] w fun e w' => ∃ SA SC, e = .returned (.slice SA n SC) ∧ (SA = none → n = 0 ∧ SC = 0) ∧ Reads w' SA n 11 M ∧ Below w.heap.size w w' := by
  go_enter Tryd.func51, Tryd.ntmps51
  go_wp2
  go_loopw [3, 4] (fun v i wr => ∃ (k : Nat) (SA : Option Addr) (SC : Nat), k ≤ n ∧ i = .int .i64 k ∧ v = .slice SA k SC ∧ (SA = none → k = 0 ∧ SC = 0) ∧ wr.ownsRow w.heap.size 142 11 (.slice SA k SC) k (rowsL M 11 k) ∧ Below w.heap.size w wr) (fun _ i _ => n - (intOf i).toNat)
  case atStart => exact ⟨0, none, 0, by omega, rfl, rfl, fun _ => ⟨rfl, rfl⟩, by rw [rowsL_zero]; exact ⟨by simp, .inl ⟨rfl, rfl⟩⟩, Below.refl _ _⟩
  case round =>
    obtain ⟨k, SA, SC, hk, rfl, rfl, hZ, hO, hB⟩ := hrel
    by_cases hlt : k < n
    · obtain ⟨b, of, rfl, hb, hc⟩ := hR (by omega)
      have hload : ∀ j, j < 11 → wr.cell? ⟨b, of + k * 11 + j, none⟩ = some (.int .i64 (M k j)) := fun j hj => by rw [Nat.add_assoc]; exact (hB.cell (p := ⟨b, of + (k * 11 + j), none⟩) hb).trans (hc k hlt j hj)
      have HLD := Lib.hid hload
      clear hload hc
      go_upto_region 6 with (refine wp_seenS HLD.out rfl (.tmp 14) rfl rfl ?_)
      refine wp_fresh ?_
      rintro w1 hb1
      have L1 : Blk w1 wr.heap.size #[.int .i64 (M k 0), .int .i64 (M k 1), .int .i64 (M k 2), .int .i64 (M k 3), .int .i64 (M k 4), .int .i64 (M k 5), .int .i64 (M k 6), .int .i64 (M k 7), .int .i64 (M k 8), .int .i64 (M k 9), .int .i64 (M k 10)] := Blk.below (by repeat (with_reducible (first | assumption | (apply Blk.at; simp; done) | apply Blk.alloc | apply Blk.drew | apply Blk.drewN | apply Blk.more | apply Blk.put | (apply Blk.far; focus (first | assumption | (apply Ne.symm; assumption) | (simp; done) | (simp <;> omega)))))) hb1
      have hv1 : Below wr.heap.size wr w1 := ext_below ((Below.refl _ _).alloc (Nat.le_refl _) _) hb1
      have hB1 : Below w.heap.size w w1 := hB.trans (hv1.mono hB.size)
      have HO1 := Lib.hid (row_below hO hv1)
      obtain ⟨zl, cl, fl⟩ := id L1
      have hbs := hB1.size
      have HBS := Lib.hid hbs
      clear L1 hb1 hB HLD hO hZ hv1 hbs
      go_wp2_with (at_builtin; go_must (refine app_one rfl (.tmp 16) (.tmp 28) 103 rfl Tryd.underlying103 seenInfo rfl (by decide) (by decide) w.heap.size (.slice SA k SC) k (rowsL M 11 k) rfl HO1.out #[.int .i64 (M k 0), .int .i64 (M k 1), .int .i64 (M k 2), .int .i64 (M k 3), .int .i64 (M k 4), .int .i64 (M k 5), .int .i64 (M k 6), .int .i64 (M k 7), .int .i64 (M k 8), .int .i64 (M k 9), .int .i64 (M k 10)] rfl (by simp) rfl (ints_one M k) (by omega) HBS.out ?_; intro g c w5 hown hmod hwh hbg; have HO5 := Lib.hid hown; have HM5 := Lib.hid hmod; have HG := Lib.hid hbg; clear hown hmod hwh hbg))
      go_roundw
      case rel => exact ⟨k + 1, _, c, by omega, by go_num, rfl, (fun h => by cases h), (by rw [rowsL_succ]; exact HO5.out), hB1.trans (HM5.out.toBelow hB1.size (fun b hb e => by have := (row_lt HO1.out e).2; omega))⟩
      case measure => simp [intOf]; omega
    · have hkn : n = k := by omega
      subst hkn
      have HO := Lib.hid hO
      clear hO
      go_wp2
      go_ret
      exact ⟨SA, SC, rfl, hZ, fun h => by
        obtain ⟨g, c, e, _, _, _, hT⟩ := tab_of_own HO.out h
        cases e
        exact Reads.of_tab hT h, hB⟩

end Go.Proofs.YtnkinnfpebploaaDoor
namespace Go.Proofs.YtnkinnfpebploaaDoor
open Go.ChangeShapes Go.WideShapes Go.ChangeAt Go.RowKit Go.BigFrame
open B
set_option maxRecDepth 100000 in
set_option maxHeartbeats 16000000 in
theorem rapply_f (n1 : Nat) (A1 : Option Addr) (cap1 : Nat) (M1 : Nat → Nat → Int) (v : Value) (l : List Nat) (w : World) (hn1 : n1 ≤ 100000) (hZ : A1 = none → n1 = 0 ∧ cap1 = 0) (hR1 : Reads w A1 n1 11 M1) (hS : Src w v l) (h8 : ∀ b ∈ l, b < 256) (hl : l.length ≤ 100000) :
    Calls Tryd.prog 63 #[.slice A1 n1 cap1, v] w (RApplyPostF M1 n1 l w) := by
  have HR1 := Lib.hid hR1
  have HSR := Lib.hid hS
  have H8 := Lib.hid h8
  have HZ := Lib.hid hZ
  obtain ⟨AL, cL, rfl⟩ := src_form hS
  clear hR1 hS h8 hZ
  go_enter Tryd.func63, Tryd.ntmps63
  go_wp2_with fail
  refine (rright_c n1 A1 cap1 M1 _ (by omega) HR1.out).mono ?_
  rintro e w1 ⟨d1, rfl, hd1, hb1⟩
  cases d1 with
  | false =>
    have HNO : Hid (¬ RightV n1 M1) := Lib.hid (fun h => by have := hd1.2 h; cases this)
    clear hd1
    go_wp2
    exact bodyPost_ret (v := .tuple #[.slice none 0 0, .int .i64 1]) (by simp [results, Tryd.results63, go_sem, *]) rfl ⟨.inl ⟨HNO.out, rfl⟩, hb1⟩
  | true =>
    have HY1 : Hid (RightV n1 M1) := Lib.hid (hd1.1 rfl)
    have h60 : n1 ≤ 60 := HY1.out.2
    clear hd1 hn1
    go_wp2_with fail
    refine (ropen_c _ l _ (Rdb.of_src (HSR.out.below hb1)) H8.out hl).mono ?_
    rintro e w2 ⟨tv, rfl, htv, hb2⟩
    obtain ⟨tA, tC, rfl⟩ := rowz_form htv
    have hB2 : Below w.heap.size w w2 := hb1.trans (hb2.mono hb1.size)
    go_upto_region 5 with fail
    refine wp_fresh ?_
    rintro w2a hb3
    have p2 : Blk w2a w2.heap.size #[.slice tA (openL l).length tC, .int .i64 0] := Blk.below (by repeat (with_reducible (first | assumption | (apply Blk.at; simp; done) | apply Blk.alloc | apply Blk.drew | apply Blk.drewN | apply Blk.more | apply Blk.put | (apply Blk.far; focus (first | assumption | (apply Ne.symm; assumption) | (simp; done) | (simp <;> omega)))))) hb3
    have c62 : Blk w2a (w2.heap.size + 1) #[.pointer (some ⟨w2.heap.size, 0, none⟩)] := Blk.below (by repeat (with_reducible (first | assumption | (apply Blk.at; simp; done) | apply Blk.alloc | apply Blk.drew | apply Blk.drewN | apply Blk.more | apply Blk.put | (apply Blk.far; focus (first | assumption | (apply Ne.symm; assumption) | (simp; done) | (simp <;> omega)))))) hb3
    have q2 : Blk w2a (w2.heap.size + 1 + 1) #[.bool false] := Blk.below (by repeat (with_reducible (first | assumption | (apply Blk.at; simp; done) | apply Blk.alloc | apply Blk.drew | apply Blk.drewN | apply Blk.more | apply Blk.put | (apply Blk.far; focus (first | assumption | (apply Ne.symm; assumption) | (simp; done) | (simp <;> omega)))))) hb3
    have hv2 : Below w2.heap.size w2 w2a := (by repeat (with_reducible (first | exact Below.refl _ _ | assumption | apply ext_drew | apply ext_drewN | apply ext_alloc | apply ext_more | (refine ext_setCell ?_ (by first | assumption | (simp <;> omega)) _) | (refine ext_below ?_ (by assumption)))))
    have hsa := hv2.size
    have hql := q2.lt
    clear hb3
    go_upto_region 7 with fail
    refine wp_fresh ?_
    rintro w3 hb3
    have p3 := p2.below (w' := w3) ((by repeat (with_reducible (first | exact Below.refl _ _ | assumption | apply ext_drew | apply ext_drewN | apply ext_alloc | apply ext_more | (refine ext_setCell ?_ (by first | assumption | (simp <;> omega)) _) | (refine ext_below ?_ (by assumption))))))
    have c63 := c62.below (w' := w3) ((by repeat (with_reducible (first | exact Below.refl _ _ | assumption | apply ext_drew | apply ext_drewN | apply ext_alloc | apply ext_more | (refine ext_setCell ?_ (by first | assumption | (simp <;> omega)) _) | (refine ext_below ?_ (by assumption))))))
    have q3 := q2.below (w' := w3) ((by repeat (with_reducible (first | exact Below.refl _ _ | assumption | apply ext_drew | apply ext_drewN | apply ext_alloc | apply ext_more | (refine ext_setCell ?_ (by first | assumption | (simp <;> omega)) _) | (refine ext_below ?_ (by assumption))))))
    have c83 : Blk w3 w2a.heap.size #[.func (.func 90) #[] #[.pointer (some ⟨w2.heap.size + 1 + 1, 0, none⟩)]] := Blk.below (by repeat (with_reducible (first | assumption | (apply Blk.at; simp; done) | apply Blk.alloc | apply Blk.drew | apply Blk.drewN | apply Blk.more | apply Blk.put | (apply Blk.far; focus (first | assumption | (apply Ne.symm; assumption) | (simp; done) | (simp <;> omega)))))) hb3
    have hv3' : Below w2a.heap.size w2a w3 := (by repeat (with_reducible (first | exact Below.refl _ _ | assumption | apply ext_drew | apply ext_drewN | apply ext_alloc | apply ext_more | (refine ext_setCell ?_ (by first | assumption | (simp <;> omega)) _) | (refine ext_below ?_ (by assumption)))))
    have hv3 : Below w2.heap.size w2 w3 := ext_below hv2 hv3'
    have hB3 : Below w.heap.size w w3 := ext_below hB2 hv3
    have hsz := hB2.size
    obtain ⟨B0, hB0⟩ : ∃ B0, B0 = w1.heap.size := ⟨_, rfl⟩
    rw [← hB0] at htv
    have hDR : DR w3 B0 w2.heap.size (w2.heap.size + 1 + 1) (.slice tA (openL l).length tC) (openL l) 0 false := ⟨⟨p3, row_below htv hv3, fun e => by have := (row_lt htv e).1; omega, openL_bin l, by rw [openL_length]; omega, by omega⟩, q3, by omega, fun e => by have := (row_lt htv e).1; omega⟩
    have HC : Hid (Cd w3 w2.heap.size (w2.heap.size + 1 + 1) w2a.heap.size (w2.heap.size + 1) (.slice tA (openL l).length tC)) := Lib.hid ⟨p3.lt, q3.lt, c83.lt, c63.lt, fun b hb => Nat.lt_of_lt_of_le (row_lt htv hb).1 hv3.size, by omega, by omega⟩
    obtain ⟨tv, htvv⟩ : ∃ tv, tv = Value.slice tA (openL l).length tC := ⟨_, rfl⟩
    rw [← htvv] at hDR HC
    obtain ⟨p, hp⟩ : ∃ p, p = w2.heap.size := ⟨_, rfl⟩
    obtain ⟨c6, hc6⟩ : ∃ p, p = w2.heap.size + 1 := ⟨_, rfl⟩
    obtain ⟨q, hq⟩ : ∃ p, p = w2.heap.size + 1 + 1 := ⟨_, rfl⟩
    obtain ⟨c8, hc8⟩ : ∃ p, p = w2a.heap.size := ⟨_, rfl⟩
    rw [← hc8, ← hq, ← hc6, ← hp] at HC
    rw [← hq, ← hp] at hDR
    rw [← hc8, ← hq] at c83
    rw [← hc6, ← hp] at c63
    rw [← hc8, ← hq, ← hc6, ← hp]
    have HWS : Hid (w.heap.size ≤ w3.heap.size) := Lib.hid hB3.size
    have HPW : Hid (w.heap.size ≤ p ∧ w.heap.size ≤ q) := Lib.hid ⟨by omega, by omega⟩
    have HBE : Hid (∀ wx, Mod (fun b => b = p ∨ b = q) w3 wx → Below w.heap.size w wx) := Lib.hid (fun wx hm => hB3.trans (hm.toBelow hB3.size (fun b hb e => by have := HPW.out; rcases e with e | e <;> omega)))
    have HRD := Lib.hid (HR1.out.below hB3)
    have HD0 := Lib.hid hDR
    have HE8 := Lib.hid c83
    have HE6 := Lib.hid c63
    obtain ⟨X, hX⟩ : ∃ X, X = applyR (openL l) ((openL l).length + 1) 0 (rowsOf M1 n1) 0 := ⟨_, rfl⟩
    have HXA : Hid (ansR M1 n1 l = ansV M1 n1 l X) := Lib.hid (by rw [hX]; rfl)
    have HX0 := Lib.hid hX
    clear hX hc8 hq hc6 hp htvv hDR hB0 hsz hB3 hv3 hv3' hv2 hsa hql p2 c62 q2 c83 q3 c63 p3 hb3 hb1 hb2 hB2 HPW htv
    go_wp2_with (at_builtin; go_must (refine app_rows rfl (.tmp 32) (.tmp 33) 103 rfl (e := 142) Tryd.underlying103 seenInfoR rfl (by decide) (by decide) w3.heap.size (.slice (some ⟨w3.heap.size, 0, none⟩) 0 0) 0 [] rfl (own_empty 142 11) rfl (HRD.out.below (balloc _ _)) HZ.out (by omega) (by simp) ?_; intro v4 w4 hown hmod hwh; rw [Nat.zero_add, List.nil_append] at hown; have hb4 : Below w3.heap.size w3 w4 := (balloc w3 _).trans (hmod.toBelow (by simp) (fun b hb e => by simp [Value.ownBlock] at e; omega)); obtain ⟨SA0, SC0, rfl⟩ := rowz_form hown; have H4 := Lib.hid (Rw.of_rows (w3 := w3) hown (Nat.le_refl _)); have HB4 := Lib.hid hb4; clear hown hmod hwh hb4))
    go_loopw [10, 11] (fun tx tl wr => ∃ (a f : Nat) (last : Int) (bad : Bool) (all : List Sn) (SA : Option Addr) (SC : Nat), tl = .int .i64 last ∧ tx = .slice SA all.length SC ∧ 8 * l.length < a + f ∧ (bad = false → applyR (openL l) f a all last = X) ∧ (bad = true → X = none) ∧ 0 ≤ last ∧ last ≤ a * 1099511627777 ∧ a ≤ 8 * l.length ∧ all.length ≤ 121 ∧ (∀ r ∈ all, last < r.id → InR r) ∧ Sd w3 wr B0 p q c8 c6 tv (openL l) a bad SA all.length SC all) (fun _ _ wr => 8 * l.length - posOf wr p)
    case atStart => exact ⟨0, (openL l).length + 1, 0, false, rowsOf M1 n1, SA0, SC0, rfl, by rw [rowsOf_length], by rw [openL_length]; omega, fun _ => HX0.out.symm, (fun h => by cases h), by omega, by omega, by omega, by rw [rowsOf_length]; omega, inr_rows HY1.out, ⟨HD0.out.below HB4.out, H4.out, HE8.out.below HB4.out, HE6.out.below HB4.out, Mod.of_below HB4.out⟩⟩
    case round =>
      obtain ⟨a, f, last, bad, all, SA, SC, rfl, rfl, hfa, hXf, hXt, hl0, hl1, ha8, hal, hIn, hSd⟩ := hrel
      have HIN := Lib.hid hIn
      have hdp := posOf_tp hSd.dr.tp
      have HPOS5 := Lib.hid hdp
      obtain ⟨w5, hw5⟩ : ∃ w5, w5 = wr := ⟨_, rfl⟩
      rw [← hw5] at hSd
      rw [← hw5]
      have HW5 := Lib.hid hw5
      clear hIn hw5 HX0 HD0 HE8 HE6 H4 HB4 HRD hdp
      cases bad with
      | true =>
        have HXN : Hid (X = none) := Lib.hid (hXt rfl)
        have H5 := Lib.hid hSd
        clear hXf hXt hSd
        have q_ := H5.out.dr.blk
        obtain ⟨zq, cq, fq⟩ := id q_
        have e8_ := H5.out.e8
        obtain ⟨z8, c8', f8⟩ := id e8_
        have e6_ := H5.out.e6
        obtain ⟨z6, c6', f6⟩ := id e6_
        clear q_ e8_ e6_
        go_wp2_with fail
        refine (rdelta_d n1 all.length A1 SA cap1 SC M1 (mx all) w5 (by omega) (by omega) (HR1.out.below (HBE.out _ H5.out.md)) H5.out.rw.reads).mono ?_
        rintro e w7 ⟨v7, A7, c7, rfl, hv7, hr7, hb7⟩
        have hB7 : Below w.heap.size w w7 := (HBE.out _ H5.out.md).trans (hb7.mono (HBE.out _ H5.out.md).size)
        have q7 := H5.out.dr.blk.below hb7
        subst hv7
        clear zq cq fq hb7 hr7
        obtain ⟨zq, cq, fq⟩ := id q7
        go_wp2
        exact bodyPost_ret (v := .tuple #[.slice none 0 0, .int .i64 3]) (by simp [results, Tryd.results63, go_sem, *]) rfl ⟨.inr (.inl ⟨HY1.out, (by rw [HXA.out, HXN.out]; rfl), rfl⟩), hB7⟩
      | false =>
        obtain ⟨g, rfl⟩ : ∃ g, f = g + 1 := ⟨f - 1, by omega⟩
        have HX : Hid (applyR (openL l) (g + 1) a all last = X) := Lib.hid (hXf rfl)
        have H5 := Lib.hid hSd
        clear hXf hXt hSd
        obtain ⟨gn, ge, ga, hg⟩ : ∃ n e a', getD (openL l) a 2 = (n, e, a') := ⟨_, _, _, rfl⟩
        have hg4 := getD_lt (openL_bin l) a (k := 2) (by decide)
        have hg4' : 0 ≤ gn ∧ gn < 4 := by rw [show ((2 : Nat) : Int) = 2 from rfl, hg] at hg4; simpa using hg4
        have HG := Lib.hid hg
        clear hg4 hg
        have q_ := H5.out.dr.blk
        obtain ⟨zq, cq, fq⟩ := id q_
        have e8_ := H5.out.e8
        obtain ⟨z8, c8', f8⟩ := id e8_
        have e6_ := H5.out.e6
        obtain ⟨z6, c6', f6⟩ := id e6_
        clear q_ e8_ e6_
        go_wp2
        have hd5 := H5.out.below (w' := w5.drew) (ext_drew (Below.refl _ _))
        have hmm0 : Mod (fun b => b = p ∨ b = q) w5 w5.drew := (Mod.refl _ _).drew
        have QQ : Hid (∀ wx, Mod (fun b => b = p ∨ b = q) w5 wx → wx.cell? ⟨c8, 0, none⟩ = some (.func (.func 90) #[] #[.pointer (some ⟨q, 0, none⟩)]) ∧ wx.cell? ⟨c6, 0, none⟩ = some (.pointer (some ⟨p, 0, none⟩))) := Lib.hid (fun wx hm => ⟨(hm.cell H5.out.e8.lt (by have := HC.out.n8; omega)).trans (H5.out.e8.cell 0), (hm.cell H5.out.e6.lt (by have := HC.out.n6; omega)).trans (H5.out.e6.cell 0)⟩)
        clear zq cq fq z8 c8' f8 z6 c6' f6
        refine region_held_tail (fun w' => w'.cell? ⟨c8, 0, none⟩ = some (.func (.func 90) #[] #[.pointer (some ⟨q, 0, none⟩)]) ∧ w'.cell? ⟨c6, 0, none⟩ = some (.pointer (some ⟨p, 0, none⟩))) 6 (by as_aux_lemma => kernel_rfl) (by as_aux_lemma => kernel_rfl) (QQ.out _ hmm0) (fun hHeld => ?_)
        simp only [List.take_succ_cons, List.take_zero]
        refine wpAnyH_take (i := 0) (v := ?vra_0) rfl (by as_aux_lemma => kernel_rfl) (by as_aux_lemma => kernel_rfl) (by as_aux_lemma => kernel_rfl) (fun _ _ _ h => h) (Or.inl ⟨by kernel_rfl, ?yra_0⟩) hHeld ?rra_0
        case yra_0 =>
          intro w hSw
          try dsimp only at hSw
          obtain ⟨e0, e1⟩ := hSw
          go_simp
          try with_reducible rfl
        try simp only [Act.put, List.setIfInBounds_toArray]
        refine wpAnyH_take (i := 1) (v := ?vra_1) rfl (by as_aux_lemma => kernel_rfl) (by as_aux_lemma => kernel_rfl) (by as_aux_lemma => kernel_rfl) (fun _ _ _ h => h) (Or.inl ⟨by kernel_rfl, ?yra_1⟩) hHeld ?rra_1
        case yra_1 =>
          intro w hSw
          try dsimp only at hSw
          obtain ⟨e0, e1⟩ := hSw
          go_simp
          try with_reducible rfl
        try simp only [Act.put]
        refine wpAnyH_ready (rs := [2]) (by as_aux_lemma => kernel_rfl) (by simp) ?_
        refine AllReadyH.cons (o := _) rfl (fun K hK => ?_) AllReadyH.nil
        go_simp
        refine (tdet_eq (tget_c B0 p a 2 tv (openL l) _ hd5.dr.tp) HG.out).mono ?_
        rintro e w6 ⟨rfl, hT6, hm6⟩
        have hd6 := hd5.tape HC.out hT6 hm6
        have hmm1 := hmm0.trans (hm6.mono (T := fun b => b = p ∨ b = q) fun _ _ h => .inl h)
        try dsimp only
        refine hK.out _ _ ?_ (fun hHeld => ?_)
        · exact QQ.out _ hmm1
        clear hK K
        try simp only [Act.put, List.setIfInBounds_toArray, List.set_cons_zero, List.set_cons_succ]
        refine wpAnyH_take (i := 3) (v := ?vra_3) rfl (by as_aux_lemma => kernel_rfl) (by as_aux_lemma => kernel_rfl) (by as_aux_lemma => kernel_rfl) (fun _ _ _ h => h) (Or.inl ⟨by kernel_rfl, ?yra_3⟩) hHeld ?rra_3
        case yra_3 =>
          intro w hSw
          try dsimp only at hSw
          obtain ⟨e0, e1⟩ := hSw
          go_simp
          try with_reducible rfl
        try simp only [Act.put, List.setIfInBounds_toArray]
        refine wpAnyH_take (i := 4) (v := ?vra_4) rfl (by as_aux_lemma => kernel_rfl) (by as_aux_lemma => kernel_rfl) (by as_aux_lemma => kernel_rfl) (fun _ _ _ h => h) (Or.inl ⟨by kernel_rfl, ?yra_4⟩) hHeld ?rra_4
        case yra_4 =>
          intro w hSw
          try dsimp only at hSw
          obtain ⟨e0, e1⟩ := hSw
          go_simp
          try with_reducible rfl
        try simp only [Act.put]
        refine wpAnyH_ready (rs := [5]) (by as_aux_lemma => kernel_rfl) (by simp) ?_
        refine AllReadyH.cons (o := _) rfl (fun K hK => ?_) AllReadyH.nil
        go_simp
        refine (rnumP_c q _ gn ge _ hd6.dr.blk).mono ?_
        rintro e w7 ⟨rfl, hQ7, hm7⟩
        have hd7 := hd6.flag HC.out hQ7 hm7
        have hmm2 := hmm1.trans (hm7.mono (T := fun b => b = p ∨ b = q) fun _ _ h => .inr h)
        try dsimp only
        refine hK.out _ _ ?_ (fun hHeld => ?_)
        · exact QQ.out _ hmm2
        clear hK K
        try simp only [Act.put, List.setIfInBounds_toArray, List.set_cons_zero, List.set_cons_succ]
        refine wpAnyH_done (by as_aux_lemma => kernel_rfl) ?_ _
        clear hHeld
        simp only [TailQ, List.drop_succ_cons, List.drop_zero]
        have H7 := Lib.hid hd7
        clear hd5 hd6 hd7 hT6 hm6 hQ7 hm7 hmm0 hmm1 hmm2 QQ
        by_cases hge : ge = 0
        · subst hge
          have e1 : (false || decide ((0 : Int) ≠ 0)) = false := by decide
          rw [e1] at H7
          have hgx := getD_ok (k := 2) (by decide) HG.out
          have hga8 : a + 2 ≤ 8 * l.length := by have := hgx.2; rw [openL_length] at this; exact this
          have hga : ga = a + 2 := hgx.1
          clear e1 hgx
          have q_ := H7.out.dr.blk
          obtain ⟨zq, cq, fq⟩ := id q_
          have e8_ := H7.out.e8
          obtain ⟨z8, c8', f8⟩ := id e8_
          have e6_ := H7.out.e6
          obtain ⟨z6, c6', f6⟩ := id e6_
          clear q_ e8_ e6_
          by_cases hg3 : gn = 3
          · have HXN : Hid (X = some all) := Lib.hid (by rw [← HX.out]; have h1 := HG.out; rw [hg3] at h1; exact R_end h1)
            subst hg3
            clear HX HG hl0 hl1
            go_wp2_with fail
            refine (rdelta_d n1 all.length A1 SA cap1 SC M1 (mx all) w7 (by omega) (by omega) (HR1.out.below (HBE.out _ H7.out.md)) H7.out.rw.reads).mono ?_
            rintro e w7 ⟨v7, A7, c7, rfl, hv7, hr7, hb7⟩
            have hB7 : Below w.heap.size w w7 := (HBE.out _ H7.out.md).trans (hb7.mono (HBE.out _ H7.out.md).size)
            have q7 := H7.out.dr.blk.below hb7
            have HO7 := Lib.hid (H7.out.rw.reads.below hb7)
            have HNO := Lib.hid (And.intro H7.out.rw.nil H7.out.rw.cap)
            have HFR : Hid (0 < all.length → ∀ x, SA = some x → w.heap.size ≤ x.block) := Lib.hid (fun hn x e => by obtain ⟨b, e2, hb, _⟩ := H7.out.rw.tab hn; rw [e] at e2; cases e2; exact Nat.le_trans HWS.out hb)
            subst hv7
            obtain ⟨N, hN⟩ : ∃ N, N = dN M1 n1 (mx all) all.length := ⟨_, rfl⟩
            obtain ⟨LL, hL⟩ : ∃ L, L = dL M1 n1 (mx all) all.length := ⟨_, rfl⟩
            have HL8 : Hid (∀ b ∈ LL, b < 256) := Lib.hid (by rw [hL]; exact dL_lt _ _ _ _)
            rw [← hL] at hr7
            rw [← hL, ← hN]
            have HL := Lib.hid hL
            have HN := Lib.hid hN
            have hc1 := conv_rdb hr7
            have hc2 := conv_rdb (Rdb.of_src (HSR.out.below hB7))
            clear zq cq fq hb7 hr7 hL hN
            obtain ⟨zq, cq, fq⟩ := id q7
            by_cases hN0 : N = 0
            · have dN0 : (N != 0) = false := by simpa using hN0
              by_cases heq : LL = l
              · have HYA : Hid (ansR M1 n1 l = some all) := Lib.hid (by rw [HXA.out, HXN.out]; exact ansV_yes ⟨by rw [← HN.out]; exact hN0, by rw [← HL.out]; exact heq⟩)
                subst heq
                clear hN0
                go_wp2
                exact bodyPost_ret (v := .tuple #[.slice SA all.length SC, .int .i64 0]) (by simp [results, Tryd.results63, go_sem, *]) rfl ⟨.inr (.inr ⟨HY1.out, all, SA, SC, HYA.out, rfl, HNO.out.1, HNO.out.2, HO7.out, HFR.out⟩), hB7⟩
              · have HNA : Hid (ansR M1 n1 l = none) := Lib.hid (by rw [HXA.out, HXN.out]; exact ansV_no (fun h => heq (by rw [HL.out]; exact h.2)))
                have hne : ((strB LL).toList == (strB l).toList) = false := bne_strS (fun h => heq (strB_injS HL8.out H8.out h))
                clear heq hN0
                go_wp2
                exact bodyPost_ret (v := .tuple #[.slice none 0 0, .int .i64 3]) (by simp [results, Tryd.results63, go_sem, *]) rfl ⟨.inr (.inl ⟨HY1.out, HNA.out, rfl⟩), hB7⟩
            · have dN0 : (N != 0) = true := by simpa using hN0
              have HNA : Hid (ansR M1 n1 l = none) := Lib.hid (by rw [HXA.out, HXN.out]; exact ansV_no (fun h => hN0 (by rw [HN.out]; exact h.1)))
              clear hN0
              go_wp2
              exact bodyPost_ret (v := .tuple #[.slice none 0 0, .int .i64 3]) (by simp [results, Tryd.results63, go_sem, *]) rfl ⟨.inr (.inl ⟨HY1.out, HNA.out, rfl⟩), hB7⟩
          · have dg3 : (gn == 3) = false := by simpa using hg3
            obtain ⟨dn, de, da, hd⟩ : ∃ n e a', varD (openL l) ga = (n, e, a') := ⟨_, _, _, rfl⟩
            have HDV := Lib.hid hd
            clear hd
            go_wp2
            have hd7 := H7.out.below (w' := w7.drew) (ext_drew (Below.refl _ _))
            have hmm0 : Mod (fun b => b = p ∨ b = q) w7 w7.drew := (Mod.refl _ _).drew
            have QQ : Hid (∀ wx, Mod (fun b => b = p ∨ b = q) w7 wx → wx.cell? ⟨c8, 0, none⟩ = some (.func (.func 90) #[] #[.pointer (some ⟨q, 0, none⟩)]) ∧ wx.cell? ⟨c6, 0, none⟩ = some (.pointer (some ⟨p, 0, none⟩))) := Lib.hid (fun wx hm => ⟨(hm.cell H7.out.e8.lt (by have := HC.out.n8; omega)).trans (H7.out.e8.cell 0), (hm.cell H7.out.e6.lt (by have := HC.out.n6; omega)).trans (H7.out.e6.cell 0)⟩)
            clear zq cq fq z8 c8' f8 z6 c6' f6
            refine region_held_tail (fun w' => w'.cell? ⟨c8, 0, none⟩ = some (.func (.func 90) #[] #[.pointer (some ⟨q, 0, none⟩)]) ∧ w'.cell? ⟨c6, 0, none⟩ = some (.pointer (some ⟨p, 0, none⟩))) 6 (by as_aux_lemma => kernel_rfl) (by as_aux_lemma => kernel_rfl) (QQ.out _ hmm0) (fun hHeld => ?_)
            simp only [List.take_succ_cons, List.take_zero]
            refine wpAnyH_take (i := 0) (v := ?vrb_0) rfl (by as_aux_lemma => kernel_rfl) (by as_aux_lemma => kernel_rfl) (by as_aux_lemma => kernel_rfl) (fun _ _ _ h => h) (Or.inl ⟨by kernel_rfl, ?yrb_0⟩) hHeld ?rrb_0
            case yrb_0 =>
              intro w hSw
              try dsimp only at hSw
              obtain ⟨e0, e1⟩ := hSw
              go_simp
              try with_reducible rfl
            try simp only [Act.put, List.setIfInBounds_toArray]
            refine wpAnyH_take (i := 1) (v := ?vrb_1) rfl (by as_aux_lemma => kernel_rfl) (by as_aux_lemma => kernel_rfl) (by as_aux_lemma => kernel_rfl) (fun _ _ _ h => h) (Or.inl ⟨by kernel_rfl, ?yrb_1⟩) hHeld ?rrb_1
            case yrb_1 =>
              intro w hSw
              try dsimp only at hSw
              obtain ⟨e0, e1⟩ := hSw
              go_simp
              try with_reducible rfl
            try simp only [Act.put]
            refine wpAnyH_ready (rs := [2]) (by as_aux_lemma => kernel_rfl) (by simp) ?_
            refine AllReadyH.cons (o := _) rfl (fun K hK => ?_) AllReadyH.nil
            go_simp
            refine (tdet_eq (tvar_c B0 p ga tv (openL l) _ hd7.dr.tp) HDV.out).mono ?_
            rintro e w8 ⟨rfl, hT8, hm8⟩
            have hd8 := hd7.tape HC.out hT8 hm8
            have hmm1 := hmm0.trans (hm8.mono (T := fun b => b = p ∨ b = q) fun _ _ h => .inl h)
            try dsimp only
            refine hK.out _ _ ?_ (fun hHeld => ?_)
            · exact QQ.out _ hmm1
            clear hK K
            try simp only [Act.put, List.setIfInBounds_toArray, List.set_cons_zero, List.set_cons_succ]
            refine wpAnyH_take (i := 3) (v := ?vrb_3) rfl (by as_aux_lemma => kernel_rfl) (by as_aux_lemma => kernel_rfl) (by as_aux_lemma => kernel_rfl) (fun _ _ _ h => h) (Or.inl ⟨by kernel_rfl, ?yrb_3⟩) hHeld ?rrb_3
            case yrb_3 =>
              intro w hSw
              try dsimp only at hSw
              obtain ⟨e0, e1⟩ := hSw
              go_simp
              try with_reducible rfl
            try simp only [Act.put, List.setIfInBounds_toArray]
            refine wpAnyH_take (i := 4) (v := ?vrb_4) rfl (by as_aux_lemma => kernel_rfl) (by as_aux_lemma => kernel_rfl) (by as_aux_lemma => kernel_rfl) (fun _ _ _ h => h) (Or.inl ⟨by kernel_rfl, ?yrb_4⟩) hHeld ?rrb_4
            case yrb_4 =>
              intro w hSw
              try dsimp only at hSw
              obtain ⟨e0, e1⟩ := hSw
              go_simp
              try with_reducible rfl
            try simp only [Act.put]
            refine wpAnyH_ready (rs := [5]) (by as_aux_lemma => kernel_rfl) (by simp) ?_
            refine AllReadyH.cons (o := _) rfl (fun K hK => ?_) AllReadyH.nil
            go_simp
            refine (rnumP_c q _ dn de _ hd8.dr.blk).mono ?_
            rintro e w9 ⟨rfl, hQ9, hm9⟩
            have hd9 := hd8.flag HC.out hQ9 hm9
            have hmm2 := hmm1.trans (hm9.mono (T := fun b => b = p ∨ b = q) fun _ _ h => .inr h)
            try dsimp only
            refine hK.out _ _ ?_ (fun hHeld => ?_)
            · exact QQ.out _ hmm2
            clear hK K
            try simp only [Act.put, List.setIfInBounds_toArray, List.set_cons_zero, List.set_cons_succ]
            refine wpAnyH_done (by as_aux_lemma => kernel_rfl) ?_ _
            clear hHeld
            simp only [TailQ, List.drop_succ_cons, List.drop_zero]
            have H9 := Lib.hid hd9
            clear hd7 hd8 hd9 hT8 hm8 hQ9 hm9 hmm0 hmm1 hmm2 QQ
            by_cases hde : de = 0
            · subst hde
              have e1 : (false || decide ((0 : Int) ≠ 0)) = false := by decide
              rw [e1] at H9
              have hdv := varD_ge HDV.out
              have hda8 : da ≤ 8 * l.length := by have := H9.out.dr.tp.le; rw [openL_length] at this; exact this
              clear e1
              have q_ := H9.out.dr.blk
              obtain ⟨zq, cq, fq⟩ := id q_
              have e8_ := H9.out.e8
              obtain ⟨z8, c8', f8⟩ := id e8_
              have e6_ := H9.out.e6
              obtain ⟨z6, c6', f6⟩ := id e6_
              clear q_ e8_ e6_
              by_cases hdn : 1099511627776 < dn
              · have HXN : Hid (X = none) := Lib.hid (by rw [← HX.out]; exact R_var HG.out hg3 HDV.out (.inr (.inl hdn)))
                have d40 : decide (1099511627776 < dn) = true := decide_eq_true hdn
                clear hdn
                go_wp2
                exact bodyPost_ret (v := .tuple #[.slice none 0 0, .int .i64 3]) (by simp [results, Tryd.results63, go_sem, *]) rfl ⟨.inr (.inl ⟨HY1.out, (by rw [HXA.out, HXN.out]; rfl), rfl⟩), HBE.out _ H9.out.md⟩
              · have d40 : decide (1099511627776 < dn) = false := decide_eq_false hdn
                by_cases h120 : 120 < all.length
                · have HXN : Hid (X = none) := Lib.hid (by rw [← HX.out]; exact R_var HG.out hg3 HDV.out (.inr (.inr h120)))
                  have d120 : decide (120 < (all.length : Int)) = true := decide_eq_true (by omega)
                  clear h120
                  go_wp2
                  exact bodyPost_ret (v := .tuple #[.slice none 0 0, .int .i64 3]) (by simp [results, Tryd.results63, go_sem, *]) rfl ⟨.inr (.inl ⟨HY1.out, (by rw [HXA.out, HXN.out]; rfl), rfl⟩), HBE.out _ H9.out.md⟩
                · have d120 : decide (120 < (all.length : Int)) = false := decide_eq_false (by omega)
                  obtain ⟨now, hnow⟩ : ∃ now, now = last + (dn + 1) := ⟨_, rfl⟩
                  have HNOW := Lib.hid hnow
                  have hn0 : 0 ≤ now ∧ now ≤ da * 1099511627777 := by omega
                  have hln : last < now := by omega
                  go_wp2
                  rw [show last + (dn + 1) = now from hnow.symm]
                  clear hnow
                  go_loopw [14] (fun ti wx => ∃ k : Nat, k ≤ all.length ∧ ti = .int .i64 k ∧ all.take k ++ lowR now (all.drop k) = lowR now all ∧ highR now (all.drop k) = highR now all ∧ w9 = wx) (fun ti _ => all.length - (intOf ti).toNat)
                  case atStart => exact ⟨0, by omega, rfl, by simp, by simp, rfl⟩
                  case round =>
                    obtain ⟨k, hk, rfl, hlo, hhi, hw⟩ := hrel
                    rw [← hw]
                    have HLO := Lib.hid hlo
                    have HHI := Lib.hid hhi
                    have HWW := Lib.hid hw
                    clear hlo hhi hw
                    by_cases hin : k < all.length
                    · obtain ⟨r, hr⟩ : ∃ r, all[k]? = some r := ⟨_, List.getElem?_eq_getElem hin⟩
                      have hdr : all.drop k = r :: all.drop (k + 1) := by
                        rw [List.drop_eq_getElem_cons hin]
                        have := List.getElem?_eq_getElem hin
                        rw [hr] at this
                        rw [Option.some.inj this]
                      obtain ⟨bT, hbS, hbB, hT⟩ := H9.out.rw.tab (by omega)
                      subst hbS
                      have hmx : ∀ j, mx all k j = r.get j := fun j => by unfold mx; rw [hr]; rfl
                      have a0 : w9.cell? ⟨bT, k * 11, none⟩ = some (.int .i64 r.id) := by have := hT.cell hin (j := 0) (by decide); rw [hmx] at this; exact this
                      have HT := Lib.hid hT
                      have HMX := Lib.hid hmx
                      have HRR := Lib.hid hr
                      clear hT hmx hr
                      by_cases hlt : r.id < now
                      · have dlt : decide (r.id < now) = true := decide_eq_true hlt
                        have hlc := low_cons (now := now) (r := r) (t := all.drop (k + 1)) hlt
                        have HLO2 : Hid (all.take (k + 1) ++ lowR now (all.drop (k + 1)) = lowR now all) := Lib.hid (by rw [← HLO.out, hdr, hlc.1, List.take_add_one, HRR.out]; simp)
                        have HHI2 : Hid (highR now (all.drop (k + 1)) = highR now all) := Lib.hid (by rw [← HHI.out, hdr, hlc.2])
                        clear hlt hlc hdr HLO HHI
                        go_wp2
                        go_roundw
                        case rel => exact ⟨k + 1, by omega, by go_num, HLO2.out, HHI2.out, trivial⟩
                        case measure => simp [intOf]; omega
                      · have dlt : decide (r.id < now) = false := decide_eq_false hlt
                        have hls := low_stop (now := now) (r := r) (t := all.drop (k + 1)) hlt
                        have HLOW : Hid (lowR now all = all.take k) := Lib.hid (by rw [← HLO.out, hdr, hls.1, List.append_nil])
                        have HHIR : Hid (highR now all = r :: all.drop (k + 1)) := Lib.hid (by rw [← HHI.out, hdr, hls.2])
                        have HHIGH : Hid (highR now all = all.drop k) := Lib.hid (by rw [HHIR.out, hdr])
                        clear hls hdr HLO HHI hlt
                        by_cases heq : r.id = now
                        · have deq : (r.id == now) = true := by simpa using heq
                          have HEQ : Hid (r.id = now) := Lib.hid heq
                          clear heq
                          by_cases hg1 : gn = 1
                          · have dg1 : (gn == 1) = true := by simpa using hg1
                            have dg0 : (gn == 0) = false := by simp; omega
                            have dg2 : (gn == 2) = false := by simp; omega
                            have HXN : Hid (X = none) := Lib.hid (by rw [← HX.out]; have h1 := HG.out; rw [hg1] at h1; exact R_dup (r := r) (t := all.drop (k + 1)) h1 HDV.out (by omega) (by omega) (by rw [← HNOW.out]; exact HHIR.out) (by rw [← HNOW.out]; exact HEQ.out))
                            go_wp2
                            exact bodyPost_ret (v := .tuple #[.slice none 0 0, .int .i64 3]) (by simp [results, Tryd.results63, go_sem, *]) rfl ⟨.inr (.inl ⟨HY1.out, (by rw [HXA.out, HXN.out]; rfl), rfl⟩), HBE.out _ H9.out.md⟩
                          · have dg1 : (gn == 1) = false := by simpa using hg1
                            by_cases hg0 : gn = 0
                            · have dg0 : (gn == 0) = true := by simpa using hg0
                              have HXS : Hid (applyR (openL l) g da (all.take k ++ all.drop (k + 1)) now = X) := Lib.hid (by
                                rw [← HX.out, HNOW.out]
                                have h1 := HG.out
                                rw [hg0] at h1
                                exact (R_gone (pre := all.take k) (r := r) (t := all.drop (k + 1)) h1 HDV.out (by omega) (by omega) (by rw [← HNOW.out]; exact HLOW.out) (by rw [← HNOW.out]; exact HHIR.out) (by rw [← HNOW.out]; exact HEQ.out)).symm)
                              obtain ⟨hRt, hAt, hslT⟩ := rows_till (P := Tryd.prog) (t := 103) (by kernel_rfl) (fun w' => by kernel_rfl) H9.out.rw.reads H9.out.rw.nil H9.out.rw.cap k (by omega)
                              obtain ⟨A9, hRf, hAf, hslF⟩ := rows_from (P := Tryd.prog) (t := 103) (e := 142) (by kernel_rfl) (fun w' => by kernel_rfl) H9.out.rw.reads H9.out.rw.nil H9.out.rw.cap (k + 1) (by omega) rfl
                              have HRT := Lib.hid hRt
                              have HAT := Lib.hid hAt
                              have HRF := Lib.hid hRf
                              have HAF := Lib.hid hAf
                              have hk1 : ((k + 1 : Nat) : Int) = (k : Int) + 1 := by omega
                              rw [hk1] at hslF
                              have hwk : IntKind.i64.wrap ((k : Int) + 1) = (k : Int) + 1 := by rw [IntKind.wrap_i64]; omega
                              clear hRt hAt hRf hAf hk1
                              go_wp2
                              refine region_held_tail (fun _ => True) 10 (by as_aux_lemma => kernel_rfl) (by as_aux_lemma => kernel_rfl) trivial (fun hHeld => ?_)
                              simp only [List.take_succ_cons, List.take_zero]
                              refine wpAnyH_take (i := 1) (v := ?vgn_1) rfl (by as_aux_lemma => kernel_rfl) (by as_aux_lemma => kernel_rfl) (by as_aux_lemma => kernel_rfl) (fun _ _ _ h => h) (Or.inl ⟨by kernel_rfl, ?ygn_1⟩) hHeld ?rgn_1
                              case ygn_1 =>
                                intro w hSw
                                try dsimp only at hSw
                                go_simp
                                try with_reducible rfl
                              try simp only [Act.put, List.setIfInBounds_toArray]
                              refine wpAnyH_take (i := 2) (v := ?vgn_2) rfl (by as_aux_lemma => kernel_rfl) (by as_aux_lemma => kernel_rfl) (by as_aux_lemma => kernel_rfl) (fun _ _ _ h => h) (Or.inl ⟨by kernel_rfl, ?ygn_2⟩) hHeld ?rgn_2
                              case ygn_2 =>
                                intro w hSw
                                try dsimp only at hSw
                                go_simp
                                try with_reducible rfl
                              try simp only [Act.put]
                              refine wpAnyH_take (i := 3) (v := ?vgn_3) rfl (by as_aux_lemma => kernel_rfl) (by as_aux_lemma => kernel_rfl) (by as_aux_lemma => kernel_rfl) (fun _ _ _ h => h) (Or.inl ⟨by kernel_rfl, ?ygn_3⟩) hHeld ?rgn_3
                              case ygn_3 =>
                                intro w hSw
                                try dsimp only at hSw
                                go_simp
                                try with_reducible rfl
                              try simp only [Act.put]
                              refine wpAnyH_take (i := 5) (v := ?vgn_5) rfl (by as_aux_lemma => kernel_rfl) (by as_aux_lemma => kernel_rfl) (by as_aux_lemma => kernel_rfl) (fun _ _ _ h => h) (Or.inl ⟨by kernel_rfl, ?ygn_5⟩) hHeld ?rgn_5
                              case ygn_5 =>
                                intro w hSw
                                try dsimp only at hSw
                                go_simp
                                try with_reducible rfl
                              try simp only [Act.put]
                              refine wpAnyH_take (i := 6) (v := ?vgn_6) rfl (by as_aux_lemma => kernel_rfl) (by as_aux_lemma => kernel_rfl) (by as_aux_lemma => kernel_rfl) (fun _ _ _ h => h) (Or.inl ⟨by kernel_rfl, ?ygn_6⟩) hHeld ?rgn_6
                              case ygn_6 =>
                                intro w hSw
                                try dsimp only at hSw
                                go_simp
                                try with_reducible rfl
                              try simp only [Act.put]
                              refine wpAnyH_take (i := 7) (v := ?vgn_7) rfl (by as_aux_lemma => kernel_rfl) (by as_aux_lemma => kernel_rfl) (by as_aux_lemma => kernel_rfl) (fun _ _ _ h => h) (Or.inl ⟨by kernel_rfl, ?ygn_7⟩) hHeld ?rgn_7
                              case ygn_7 =>
                                intro w hSw
                                try dsimp only at hSw
                                go_simp
                                try with_reducible rfl
                              try simp only [Act.put]
                              refine wpAnyH_take (i := 8) (v := ?vgn_8) rfl (by as_aux_lemma => kernel_rfl) (by as_aux_lemma => kernel_rfl) (by as_aux_lemma => kernel_rfl) (fun _ _ _ h => h) (Or.inl ⟨by kernel_rfl, ?ygn_8⟩) hHeld ?rgn_8
                              case ygn_8 =>
                                intro w hSw
                                try dsimp only at hSw
                                go_simp
                                try with_reducible rfl
                              try simp only [Act.put]
                              refine wpAnyH_ready (rs := [0]) (by as_aux_lemma => kernel_rfl) (by simp) ?_
                              refine AllReadyH.cons (o := _) rfl (fun K hK => ?_) AllReadyH.nil
                              go_simp
                              try dsimp only
                              refine hK.out _ _ ?_ (fun hHeld => ?_)
                              · exact trivial
                              clear hK K
                              refine any_fresh ?_ hHeld
                              clear hHeld
                              rintro wa hbwa hHeld
                              have hva : Below w9.heap.size w9 wa := (by repeat (with_reducible (first | exact Below.refl _ _ | assumption | apply ext_drew | apply ext_drewN | apply ext_alloc | apply ext_more | (refine ext_setCell ?_ (by first | assumption | (simp <;> omega)) _) | (refine ext_below ?_ (by assumption)))))
                              have ha : wa.ownsRow w9.heap.size 142 11 (.slice (some ⟨w9.heap.size, 0, none⟩) 0 0) 0 [] := row_below (own_empty (w := w9.drew) 142 11) hbwa
                              have hsza := hva.size
                              try simp only [Act.put, List.setIfInBounds_toArray, List.set_cons_zero, List.set_cons_succ]
                              refine wpAnyH_ready (rs := [4]) (by as_aux_lemma => kernel_rfl) (by simp) ?_
                              refine AllReadyH.cons (o := _) rfl (fun K hK => ?_) AllReadyH.nil
                              refine step_rows rfl (.tmp 144) (.tmp 147) 103 rfl (e := 142) Tryd.underlying103 seenInfoR rfl (by decide) (by decide) w9.heap.size (.slice (some ⟨w9.heap.size, 0, none⟩) 0 0) 0 ([]) rfl (ha) rfl (HRT.out.below hva) (HAT.out) (by omega) (by omega) ?_
                              intro vb wb hownwb hmodwb
                              have hvb := below_row hva ha (Nat.le_refl _) hmodwb
                              have hszb := hvb.size
                              rw [Nat.zero_add, List.nil_append] at hownwb
                              refine hK.out _ _ ?_ (fun hHeld => ?_)
                              · trivial
                              clear hK K
                              try simp only [Act.put, List.setIfInBounds_toArray]
                              refine wpAnyH_ready (rs := [9]) (by as_aux_lemma => kernel_rfl) (by simp) ?_
                              refine AllReadyH.cons (o := _) rfl (fun K hK => ?_) AllReadyH.nil
                              refine step_rows rfl (.tmp 148) (.tmp 152) 103 rfl (e := 142) Tryd.underlying103 seenInfoR rfl (by decide) (by decide) w9.heap.size (vb) k (rowsL (mx all) 11 k) rfl (hownwb) rfl (HRF.out.below hvb) (HAF.out) (by omega) (by omega) ?_
                              intro vc wc hownwc hmodwc
                              have hvc := below_row hvb hownwb (Nat.le_refl _) hmodwc
                              refine hK.out _ _ ?_ (fun hHeld => ?_)
                              · trivial
                              clear hK K
                              try simp only [Act.put]
                              refine wpAnyH_done (by as_aux_lemma => kernel_rfl) ?_ _
                              clear hHeld
                              simp only [TailQ, List.drop_succ_cons, List.drop_zero]
                              obtain ⟨al2, hal2⟩ : ∃ al2, al2 = all.take k ++ all.drop (k + 1) := ⟨_, rfl⟩
                              have hrs : rowsL (mx all) 11 k ++ rowsL (fun i j => mx all (k + 1 + i) j) 11 (all.length - (k + 1)) = rowsS al2 := by rw [hal2, rowsS_append, rowsS_take all (by omega), rowsS_drop all (k + 1)]
                              have hrl : k + (all.length - (k + 1)) = al2.length := by rw [hal2]; simp; omega
                              rw [hrs, hrl] at hownwc
                              have HAL := Lib.hid hal2
                              obtain ⟨SA2, SC2, rfl⟩ := rowz_form hownwc
                              have H10 := Lib.hid ((H9.out.below hvc).now (Rw.of_own hownwc H9.out.le))
                              have hal121 : al2.length ≤ 121 := by omega
                              have HIN2 : Hid (∀ x ∈ al2, now < x.id → InR x) := Lib.hid (fun x hx hn => HIN.out x (by rw [HAL.out] at hx; rcases List.mem_append.1 hx with h | h; exact List.mem_of_mem_take h; exact List.mem_of_mem_drop h) (by omega))
                              clear hwk hslT hslF hva ha hsza hbwa hvb hszb hownwb hmodwb hvc hownwc hmodwc hrs hrl hal2
                              go_wp2
                              go_roundw
                              case rel => exact ⟨da, g, now, false, al2, SA2, SC2, by go_num, rfl, by omega, fun _ => by rw [HAL.out]; exact HXS.out, (fun h => by cases h), by omega, by omega, hda8, hal121, HIN2.out, H10.out⟩
                              case measure => rw [posOf_tp H10.out.dr.tp, show posOf w5 p = a from by rw [HW5.out]; exact HPOS5.out]; omega
                            · have dg0 : (gn == 0) = false := by simpa using hg0
                              have dg2 : (gn == 2) = true := by simp; omega
                              have hrm : r ∈ all := List.mem_of_getElem? HRR.out
                              have HRI := Lib.hid (HIN.out r hrm (by rw [HEQ.out]; omega))
                              obtain ⟨nr, σ, hnew⟩ : ∃ nr σ, changeR (openL l) r (da, false) = (nr, σ) := ⟨_, _, rfl⟩
                              have HNEW := Lib.hid hnew
                              obtain ⟨al2, hal2⟩ : ∃ al2, al2 = all.take k ++ nr :: all.drop (k + 1) := ⟨_, rfl⟩
                              have HAL := Lib.hid hal2
                              clear hrm hnew hal2
                              go_upto_if 154 with fail
                              refine wp_cond_true rfl ?_
                              refine chg_way (Lib.hid (fun _ _ d _ _ h => by cases d <;> exact h)) HC H9 hin hbB HT HMX HRI HNEW HAL (Lib.hid ?_)
                              intro v17 v18 v19 v20 v160 v161 v162 v163 v164 v165 v166 v167 v168 v169 v170 v171 v172 v173 v174 v175 v176 v177 v178 v179 v180 v181 v182 v183 v184 v185 v186 v187 v188 v189 v190 v191 v192 v193 v194 v195 v196 v197 v198 v199 v200 v201 v202 v203 v204 v205 v206 v207 v208 v209 v210 v211 v212 v213 w10 hSd
                              have H41 := Lib.hid hSd
                              have HNI : Hid (nr.id = r.id) := Lib.hid (by have := changeR_id (openL l) r (da, false); rw [HNEW.out] at this; exact this)
                              have HLEN : Hid (all.length = al2.length) := Lib.hid (by rw [HAL.out]; simp only [List.length_append, List.length_cons, List.length_take, List.length_drop]; omega)
                              have HIN2 : Hid (∀ x ∈ al2, now < x.id → InR x) := Lib.hid (fun x hx hn => by
                                rw [HAL.out] at hx
                                rcases List.mem_append.1 hx with h | h
                                · exact HIN.out x (List.mem_of_mem_take h) (by omega)
                                · rcases List.mem_cons.1 h with h | h
                                  · rw [h, HNI.out, HEQ.out] at hn; omega
                                  · exact HIN.out x (List.mem_of_mem_drop h) (by omega))
                              have HXS : Hid ((if σ.2 = true then none else applyR (openL l) g σ.1 al2 now) = X) := Lib.hid (by
                                rw [← HX.out, HNOW.out, HAL.out]
                                exact (R_chg (pre := all.take k) (r := r) (t := all.drop (k + 1)) (n := (nr, σ)) HG.out hg3 hg1 hg0 HDV.out (by omega) (by omega) (by rw [← HNOW.out]; exact HLOW.out) (by rw [← HNOW.out]; exact HHIR.out) (by rw [← HNOW.out]; exact HEQ.out) HNEW.out).symm)
                              have HADV : Hid (da ≤ σ.1 ∧ σ.1 ≤ 8 * l.length) := Lib.hid ⟨by have := changeR_adv (openL l) r (da, false); rw [HNEW.out] at this; exact this, by have := H41.out.dr.tp.le; rw [openL_length] at this; exact this⟩
                              clear hSd a0 zq cq fq z8 c8' f8 z6 c6' f6
                              go_wp2
                              go_roundw
                              case rel => first | exact ⟨σ.1, g, now, σ.2, al2, some ⟨bT, 0, none⟩, SC, by go_num, by rw [HLEN.out], by have := HADV.out; omega, (fun h => by have h2 := HXS.out; rw [if_neg (by rw [h]; simp)] at h2; exact h2), (fun h => by have h2 := HXS.out; rw [if_pos h] at h2; exact h2.symm), by omega, by have := HADV.out; omega, HADV.out.2, by have := HLEN.out; omega, HIN2.out, H41.out⟩ | ((repeat apply Exists.intro); exact ⟨⟨σ.1, g, now, σ.2, al2, some ⟨bT, 0, none⟩, SC, by go_num, by rw [HLEN.out], by have := HADV.out; omega, (fun h => by have h2 := HXS.out; rw [if_neg (by rw [h]; simp)] at h2; exact h2), (fun h => by have h2 := HXS.out; rw [if_pos h] at h2; exact h2.symm), by omega, by have := HADV.out; omega, HADV.out.2, by have := HLEN.out; omega, HIN2.out, H41.out⟩, rfl⟩)
                              case measure => rw [posOf_tp H41.out.dr.tp, show posOf w5 p = a from by rw [HW5.out]; exact HPOS5.out]; have := HADV.out; omega
                        · have deq : (r.id == now) = false := by simpa using heq
                          have HNROW : Hid (NoRow now (all.drop k)) := Lib.hid (fun r' t h => by rw [← HHIGH.out, HHIR.out] at h; cases h; exact heq)
                          clear heq HHIR
                          by_cases hg1 : gn = 1
                          · have dg1 : (gn == 1) = true := by simpa using hg1
                            have HG1 := Lib.hid hg1
                            clear dg1
                            subst hg1
                            obtain ⟨nr, σ, hnew⟩ : ∃ nr σ, newR (openL l) now (da, false) = (nr, σ) := ⟨_, _, rfl⟩
                            have HNEW := Lib.hid hnew
                            obtain ⟨al2, hal2⟩ : ∃ al2, al2 = all.take k ++ nr :: all.drop k := ⟨_, rfl⟩
                            have HAL := Lib.hid hal2
                            clear hnew hal2
                            go_upto_if 96 with fail
                            refine wp_cond_true rfl ?_
                            refine new_way (Lib.hid (fun _ _ d _ _ h => by cases d <;> exact h)) HC H9 hk (by omega) HNEW HAL (Lib.hid ?_)
                            intro v16 v103 v104 v105 v106 v107 v108 v109 v110 v111 v112 v113 v114 v115 v116 v117 v118 v119 v120 v121 v122 v123 v124 v125 v126 v127 v128 v129 v130 v131 v132 v133 v134 v135 v136 v137 w10 SA2 SC2 hSd
                            have H41 := Lib.hid hSd
                            have HNI : Hid (nr.id = now) := Lib.hid (by have := newR_id (openL l) now (da, false); rw [HNEW.out] at this; exact this)
                            have HLEN : Hid (al2.length = all.length + 1) := Lib.hid (by rw [HAL.out]; simp only [List.length_append, List.length_cons, List.length_take, List.length_drop]; omega)
                            have HIN2 : Hid (∀ x ∈ al2, now < x.id → InR x) := Lib.hid (fun x hx hn => by
                              rw [HAL.out] at hx
                              rcases List.mem_append.1 hx with h | h
                              · exact HIN.out x (List.mem_of_mem_take h) (by omega)
                              · rcases List.mem_cons.1 h with h | h
                                · rw [h, HNI.out] at hn; omega
                                · exact HIN.out x (List.mem_of_mem_drop h) (by omega))
                            have HXS : Hid ((if σ.2 = true then none else applyR (openL l) g σ.1 al2 now) = X) := Lib.hid (by
                              rw [← HX.out, HNOW.out, HAL.out]
                              have hg := HG.out
                              exact (R_new (pre := all.take k) (D := all.drop k) (n := (nr, σ)) hg HDV.out (by omega) (by omega) (by rw [← HNOW.out]; exact HLOW.out) (by rw [← HNOW.out]; exact HHIGH.out) (by rw [← HNOW.out]; exact HNROW.out) (by rw [← HNOW.out]; exact HNEW.out)).symm)
                            have HADV : Hid (da ≤ σ.1 ∧ σ.1 ≤ 8 * l.length) := Lib.hid ⟨by have := newR_adv (openL l) now (da, false); rw [HNEW.out] at this; exact this, by have := H41.out.dr.tp.le; rw [openL_length] at this; exact this⟩
                            clear hSd zq cq fq z8 c8' f8 z6 c6' f6
                            go_wp2
                            go_roundw
                            case rel => first | exact ⟨σ.1, g, now, σ.2, al2, SA2, SC2, by go_num, rfl, by have := HADV.out; omega, (fun h => by have h2 := HXS.out; rw [if_neg (by rw [h]; simp)] at h2; exact h2), (fun h => by have h2 := HXS.out; rw [if_pos h] at h2; exact h2.symm), by omega, by have := HADV.out; omega, HADV.out.2, by have := HLEN.out; omega, HIN2.out, H41.out⟩ | ((repeat apply Exists.intro); exact ⟨⟨σ.1, g, now, σ.2, al2, SA2, SC2, by go_num, rfl, by have := HADV.out; omega, (fun h => by have h2 := HXS.out; rw [if_neg (by rw [h]; simp)] at h2; exact h2), (fun h => by have h2 := HXS.out; rw [if_pos h] at h2; exact h2.symm), by omega, by have := HADV.out; omega, HADV.out.2, by have := HLEN.out; omega, HIN2.out, H41.out⟩, rfl⟩)
                            case measure => rw [posOf_tp H41.out.dr.tp, show posOf w5 p = a from by rw [HW5.out]; exact HPOS5.out]; have := HADV.out; omega
                          · have dg1 : (gn == 1) = false := by simpa using hg1
                            have HXN : Hid (X = none) := Lib.hid (by rw [← HX.out]; exact R_no (D := all.drop k) HG.out hg3 HDV.out (by omega) (by omega) (by rw [← HNOW.out]; exact HHIGH.out) (by rw [← HNOW.out]; exact HNROW.out) hg1)
                            by_cases hg0 : gn = 0
                            · have dg0 : (gn == 0) = true := by simpa using hg0
                              have dg2 : (gn == 2) = false := by simp; omega
                              go_wp2
                              exact bodyPost_ret (v := .tuple #[.slice none 0 0, .int .i64 3]) (by simp [results, Tryd.results63, go_sem, *]) rfl ⟨.inr (.inl ⟨HY1.out, (by rw [HXA.out, HXN.out]; rfl), rfl⟩), HBE.out _ H9.out.md⟩
                            · have dg0 : (gn == 0) = false := by simpa using hg0
                              have dg2 : (gn == 2) = true := by simp; omega
                              go_wp2
                              exact bodyPost_ret (v := .tuple #[.slice none 0 0, .int .i64 3]) (by simp [results, Tryd.results63, go_sem, *]) rfl ⟨.inr (.inl ⟨HY1.out, (by rw [HXA.out, HXN.out]; rfl), rfl⟩), HBE.out _ H9.out.md⟩
                    · have hie : k = all.length := by omega
                      have dlt : decide ((k : Int) < (all.length : Int)) = false := decide_eq_false (by omega)
                      have hde : all.drop k = [] := by rw [hie]; simp
                      have HLOW : Hid (lowR now all = all.take k) := Lib.hid (by rw [← HLO.out, hde]; simp [lowR])
                      have HHIGH : Hid (highR now all = all.drop k) := Lib.hid (by rw [← HHI.out, hde]; simp [highR])
                      have HNROW : Hid (NoRow now (all.drop k)) := Lib.hid (fun r t h => by rw [hde] at h; cases h)
                      clear hde hie HLO HHI
                      by_cases hg1 : gn = 1
                      · have dg1 : (gn == 1) = true := by simpa using hg1
                        have HG1 := Lib.hid hg1
                        clear dg1
                        subst hg1
                        obtain ⟨nr, σ, hnew⟩ : ∃ nr σ, newR (openL l) now (da, false) = (nr, σ) := ⟨_, _, rfl⟩
                        have HNEW := Lib.hid hnew
                        obtain ⟨al2, hal2⟩ : ∃ al2, al2 = all.take k ++ nr :: all.drop k := ⟨_, rfl⟩
                        have HAL := Lib.hid hal2
                        clear hnew hal2
                        go_upto_if 96 with fail
                        refine wp_cond_true rfl ?_
                        refine new_way (Lib.hid (fun _ _ d _ _ h => by cases d <;> exact h)) HC H9 hk (by omega) HNEW HAL (Lib.hid ?_)
                        intro v16 v103 v104 v105 v106 v107 v108 v109 v110 v111 v112 v113 v114 v115 v116 v117 v118 v119 v120 v121 v122 v123 v124 v125 v126 v127 v128 v129 v130 v131 v132 v133 v134 v135 v136 v137 w10 SA2 SC2 hSd
                        have H41 := Lib.hid hSd
                        have HNI : Hid (nr.id = now) := Lib.hid (by have := newR_id (openL l) now (da, false); rw [HNEW.out] at this; exact this)
                        have HLEN : Hid (al2.length = all.length + 1) := Lib.hid (by rw [HAL.out]; simp only [List.length_append, List.length_cons, List.length_take, List.length_drop]; omega)
                        have HIN2 : Hid (∀ x ∈ al2, now < x.id → InR x) := Lib.hid (fun x hx hn => by
                          rw [HAL.out] at hx
                          rcases List.mem_append.1 hx with h | h
                          · exact HIN.out x (List.mem_of_mem_take h) (by omega)
                          · rcases List.mem_cons.1 h with h | h
                            · rw [h, HNI.out] at hn; omega
                            · exact HIN.out x (List.mem_of_mem_drop h) (by omega))
                        have HXS : Hid ((if σ.2 = true then none else applyR (openL l) g σ.1 al2 now) = X) := Lib.hid (by
                          rw [← HX.out, HNOW.out, HAL.out]
                          have hg := HG.out
                          exact (R_new (pre := all.take k) (D := all.drop k) (n := (nr, σ)) hg HDV.out (by omega) (by omega) (by rw [← HNOW.out]; exact HLOW.out) (by rw [← HNOW.out]; exact HHIGH.out) (by rw [← HNOW.out]; exact HNROW.out) (by rw [← HNOW.out]; exact HNEW.out)).symm)
                        have HADV : Hid (da ≤ σ.1 ∧ σ.1 ≤ 8 * l.length) := Lib.hid ⟨by have := newR_adv (openL l) now (da, false); rw [HNEW.out] at this; exact this, by have := H41.out.dr.tp.le; rw [openL_length] at this; exact this⟩
                        clear hSd zq cq fq z8 c8' f8 z6 c6' f6
                        go_wp2
                        go_roundw
                        case rel => first | exact ⟨σ.1, g, now, σ.2, al2, SA2, SC2, by go_num, rfl, by have := HADV.out; omega, (fun h => by have h2 := HXS.out; rw [if_neg (by rw [h]; simp)] at h2; exact h2), (fun h => by have h2 := HXS.out; rw [if_pos h] at h2; exact h2.symm), by omega, by have := HADV.out; omega, HADV.out.2, by have := HLEN.out; omega, HIN2.out, H41.out⟩ | ((repeat apply Exists.intro); exact ⟨⟨σ.1, g, now, σ.2, al2, SA2, SC2, by go_num, rfl, by have := HADV.out; omega, (fun h => by have h2 := HXS.out; rw [if_neg (by rw [h]; simp)] at h2; exact h2), (fun h => by have h2 := HXS.out; rw [if_pos h] at h2; exact h2.symm), by omega, by have := HADV.out; omega, HADV.out.2, by have := HLEN.out; omega, HIN2.out, H41.out⟩, rfl⟩)
                        case measure => rw [posOf_tp H41.out.dr.tp, show posOf w5 p = a from by rw [HW5.out]; exact HPOS5.out]; have := HADV.out; omega
                      · have dg1 : (gn == 1) = false := by simpa using hg1
                        have HXN : Hid (X = none) := Lib.hid (by rw [← HX.out]; exact R_no (D := all.drop k) HG.out hg3 HDV.out (by omega) (by omega) (by rw [← HNOW.out]; exact HHIGH.out) (by rw [← HNOW.out]; exact HNROW.out) hg1)
                        by_cases hg0 : gn = 0
                        · have dg0 : (gn == 0) = true := by simpa using hg0
                          have dg2 : (gn == 2) = false := by simp; omega
                          go_wp2
                          exact bodyPost_ret (v := .tuple #[.slice none 0 0, .int .i64 3]) (by simp [results, Tryd.results63, go_sem, *]) rfl ⟨.inr (.inl ⟨HY1.out, (by rw [HXA.out, HXN.out]; rfl), rfl⟩), HBE.out _ H9.out.md⟩
                        · have dg0 : (gn == 0) = false := by simpa using hg0
                          have dg2 : (gn == 2) = true := by simp; omega
                          go_wp2
                          exact bodyPost_ret (v := .tuple #[.slice none 0 0, .int .i64 3]) (by simp [results, Tryd.results63, go_sem, *]) rfl ⟨.inr (.inl ⟨HY1.out, (by rw [HXA.out, HXN.out]; rfl), rfl⟩), HBE.out _ H9.out.md⟩
            · have e1 : (false || decide (de ≠ 0)) = true := by simpa using hde
              rw [e1] at H9
              have HXN : Hid (X = none) := Lib.hid (by rw [← HX.out]; exact R_var HG.out hg3 HDV.out (.inl hde))
              clear e1 hde
              have q_ := H9.out.dr.blk
              obtain ⟨zq, cq, fq⟩ := id q_
              have e8_ := H9.out.e8
              obtain ⟨z8, c8', f8⟩ := id e8_
              have e6_ := H9.out.e6
              obtain ⟨z6, c6', f6⟩ := id e6_
              clear q_ e8_ e6_
              go_wp2
              exact bodyPost_ret (v := .tuple #[.slice none 0 0, .int .i64 3]) (by simp [results, Tryd.results63, go_sem, *]) rfl ⟨.inr (.inl ⟨HY1.out, (by rw [HXA.out, HXN.out]; rfl), rfl⟩), HBE.out _ H9.out.md⟩
        · have e1 : (false || decide (ge ≠ 0)) = true := by simpa using hge
          rw [e1] at H7
          have HXN : Hid (X = none) := Lib.hid (by rw [← HX.out]; exact R_bad HG.out hge)
          clear e1 hge
          have q_ := H7.out.dr.blk
          obtain ⟨zq, cq, fq⟩ := id q_
          have e8_ := H7.out.e8
          obtain ⟨z8, c8', f8⟩ := id e8_
          have e6_ := H7.out.e6
          obtain ⟨z6, c6', f6⟩ := id e6_
          clear q_ e8_ e6_
          go_wp2_with fail
          refine (rdelta_d n1 all.length A1 SA cap1 SC M1 (mx all) w7 (by omega) (by omega) (HR1.out.below (HBE.out _ H7.out.md)) H7.out.rw.reads).mono ?_
          rintro e w7 ⟨v7, A7, c7, rfl, hv7, hr7, hb7⟩
          have hB7 : Below w.heap.size w w7 := (HBE.out _ H7.out.md).trans (hb7.mono (HBE.out _ H7.out.md).size)
          have q7 := H7.out.dr.blk.below hb7
          subst hv7
          clear zq cq fq hb7 hr7
          obtain ⟨zq, cq, fq⟩ := id q7
          go_wp2
          exact bodyPost_ret (v := .tuple #[.slice none 0 0, .int .i64 3]) (by simp [results, Tryd.results63, go_sem, *]) rfl ⟨.inr (.inl ⟨HY1.out, (by rw [HXA.out, HXN.out]; rfl), rfl⟩), hB7⟩

theorem rapply_c (n1 : Nat) (A1 : Option Addr) (cap1 : Nat) (M1 : Nat → Nat → Int) (v : Value) (l : List Nat) (w : World) (hn1 : n1 ≤ 100000) (hZ : A1 = none → n1 = 0 ∧ cap1 = 0) (hR1 : Reads w A1 n1 11 M1) (hS : Src w v l) (h8 : ∀ b ∈ l, b < 256) (hl : l.length ≤ 100000) :
    Calls Tryd.prog 63 #[.slice A1 n1 cap1, v] w (RApplyPost M1 n1 l w) :=
  (rapply_f n1 A1 cap1 M1 v l w hn1 hZ hR1 hS h8 hl).mono fun _ _ h => h.weak
end Go.Proofs.YtnkinnfpebploaaDoor
namespace Go.Proofs.YtnkinnfpebploaaDoor
open Go.ChangeShapes Go.WideShapes Go.ChangeAt Go.RowKit Go.Deep
section
variable {H : Type} {enc : TypeId × Value → H} {P : Program} {w : World} {base : Nat} {spare : Nat → Bool} {held : Bool}
theorem trod_cap {t e : TypeId} {v : Value} {d : DataW H} {p : List MemPlace} (ht : P.underlying t = some (.slice e)) (h : DataW.Trod enc P w base spare held t v d p) : ∀ A N cap, v = .slice A N cap → N ≤ cap := by
  intro A N cap hv
  subst hv
  obtain ⟨fuel, hf⟩ := h
  rcases open_slice ht hf with ⟨h0, _⟩ | ⟨a, len, cap', m, n, D, Pl, hcs, _, hl, _⟩
  · simp [Value.cells] at h0
    omega
  · simp [Value.cells] at hcs
    omega
end
end Go.Proofs.YtnkinnfpebploaaDoor
namespace Go.Proofs.YtnkinnfpebploaaDoor
open Go.ChangeShapes Go.WideShapes Go.ChangeAt Go.RowKit Go.Deep
section
variable {H : Type} {enc : TypeId × Value → H} {P : Program} {w : World} {base : Nat} {spare : Nat → Bool} {held : Bool}
theorem trod_nil {t e : TypeId} {A : Option Addr} {N cap : Nat} {d : DataW H} {p : List MemPlace} (ht : P.underlying t = some (.slice e)) (h : DataW.Trod enc P w base spare held t (.slice A N cap) d p) : A = none → N = 0 ∧ cap = 0 := by
  obtain ⟨fuel, hf⟩ := h
  rcases open_slice ht hf with ⟨h0, _⟩ | ⟨a, len, cap', m, n, D, Pl, hcs, _, hl, _⟩
  · simp [Value.cells] at h0
    exact fun _ => h0.2
  · simp [Value.cells] at hcs
    intro h
    rw [h] at hcs
    exact absurd hcs.1 (by simp)
end
end Go.Proofs.YtnkinnfpebploaaDoor
namespace Go.Proofs.YtnkinnfpebploaaDoor
open Go.ChangeShapes Go.WideShapes Go.ChangeAt Go.RowKit Go.Deep
section
variable {H : Type} {enc : TypeId × Value → H} {P : Program} {w : World} {base : Nat} {spare : Nat → Bool} {held : Bool}
theorem trodAll_in : ∀ (ts : List TypeId) (vs : List Value) (ds : List (DataW H)) (ps : List MemPlace), DataW.TrodAll enc P w base spare held ts vs ds ps → ∀ (j : Nat) (t : TypeId) (v : Value), ts[j]? = some t → vs[j]? = some v →
    ∃ d p, ds[j]? = some d ∧ DataW.Trod enc P w base spare held t v d p := by
  intro ts
  induction ts with
  | nil => intro vs ds ps h j t v ht; simp at ht
  | cons t0 ts ih =>
    intro vs ds ps h j t v ht hv
    obtain ⟨v0, vs', d, ds', p, q, rfl, rfl, rfl, h1, h2⟩ := trodAll_cons h
    cases j with
    | zero =>
      simp at ht hv
      subst ht hv
      exact ⟨d, p, rfl, h1⟩
    | succ j =>
      obtain ⟨d', p', h3, h4⟩ := ih _ _ _ h2 j t v (by simpa using ht) (by simpa using hv)
      exact ⟨d', p', by simpa using h3, h4⟩
theorem ds_in {α : Type} {ds gs : List α} {j : Nat} {d : α} (h : ds[j]? = some d) : (ds ++ gs)[j]? = some d := by
  rw [List.getElem?_append_left (List.getElem?_eq_some_iff.1 h).1, h]
/-- a slice's elements, all together -/
theorem slice_reach {ts : List TypeId} {ds : List (DataW H)} {j : Nat} {t e : TypeId} {A : Option Addr} {n cap : Nat} {d : DataW H} {p : List MemPlace} (hz : (DataW.weightsEach P ts ds).all (· ≤ reachBytes) = true) (hj : ts[j]? = some t) (hd : ds[j]? = some d)
    (ht : P.underlying t = some (.slice e)) (h : DataW.Trod enc P w base spare held t (.slice A n cap) d p) : n * P.bytesOf e ≤ reachBytes := by
  obtain ⟨fuel, hf⟩ := h
  rcases open_slice ht hf with ⟨h0, _⟩ | ⟨a, len, c', m, k, D, Pl, hcs, hx, hl, hm, hmm, hD, hi⟩
  · simp [Value.cells] at h0
    obtain ⟨_, rfl, _⟩ := h0
    simp
  · simp [Value.cells] at hcs
    obtain ⟨rfl, rfl, rfl⟩ := hcs
    obtain rfl := (Prod.mk.injEq _ _ _ _ ▸ hD).1
    have h1 := sized_slice hz hj hd ht
    rw [List.length_map, List.length_range] at h1
    exact Nat.le_trans (Nat.mul_le_mul_right _ (by omega)) h1
end
end Go.Proofs.YtnkinnfpebploaaDoor
namespace Go.Proofs.YtnkinnfpebploaaDoor
open Go.ChangeShapes Go.WideShapes Go.ChangeAt Go.RowKit Go.BigFrame
open B
theorem lbare_eq2 (n m : Int) (v : Value) (w : World) (hg : Handle w) (hv : errV n = v) (h : n = m) : Calls Tryd.prog 16 #[v, .int .i64 m] w fun e w' => e = .returned (.bool true) ∧ Below w.heap.size w w' := by
  subst hv
  exact lbare_eq n m w hg h
theorem reads0 (w : World) (A : Option Addr) (M : Nat → Nat → Int) : Reads w A 0 11 M := fun h => absurd h (by omega)
theorem ansV_len {M1 : Nat → Nat → Int} {n1 : Nat} {l : List Nat} {x : Option (List Sn)} {o : List Sn} (h : ansV M1 n1 l x = some o) : o.length ≤ 60 := by
  cases x with
  | none => cases h
  | some y =>
    by_cases hy : dN M1 n1 (mx y) y.length = 0 ∧ dL M1 n1 (mx y) y.length = l
    · rw [ansV_yes hy] at h
      cases h
      exact (d_zero.1 hy.1).2.1.2
    · rw [ansV_no hy] at h
      cases h
set_option maxRecDepth 100000 in
set_option maxHeartbeats 4000000 in
theorem sameView_c (n : Nat) (A1 A2 : Option Addr) (cap1 cap2 : Nat) (M : Nat → Nat → Int) (w : World) (hn : n ≤ 100000) (hR1 : Reads w A1 n 11 M) (hR2 : Reads w A2 n 11 M) :
    Calls Tryd.prog 64 #[.slice A1 n cap1, .slice A2 n cap2] w fun e w' => e = .returned (.bool true) ∧ Below w.heap.size w w' := by
  have HR1 := Lib.hid hR1
  have HR2 := Lib.hid hR2
  clear hR1 hR2
  go_enter Tryd.func64, Tryd.ntmps64
  go_wp2
  go_loopw [5] (fun i wr => ∃ k : Nat, k ≤ n ∧ i = .int .i64 k ∧ Below w.heap.size w wr) (fun i _ => n - (intOf i).toNat)
  case atStart => exact ⟨0, by omega, rfl, Below.refl _ _⟩
  case round =>
    obtain ⟨k, hk, rfl, hb⟩ := hrel
    by_cases hin : k < n
    · have dk : decide ((k : Int) < (n : Int)) = true := decide_eq_true (by omega)
      obtain ⟨bA, oA, rfl, hbA, hcA⟩ := HR1.out.below hb (by omega)
      obtain ⟨bB, oB, rfl, hbB, hcB⟩ := HR2.out.below hb (by omega)
      have HLA : Hid (∀ j, j < 11 → wr.cell? ⟨bA, oA + k * 11 + j, none⟩ = some (.int .i64 (M k j))) := Lib.hid (fun j hj => by rw [Nat.add_assoc]; exact hcA k hin j hj)
      have HLB : Hid (∀ j, j < 11 → wr.cell? ⟨bB, oB + k * 11 + j, none⟩ = some (.int .i64 (M k j))) := Lib.hid (fun j hj => by rw [Nat.add_assoc]; exact hcB k hin j hj)
      have a0 : wr.cell? ⟨bA, oA + k * 11, none⟩ = some (.int .i64 (M k 0)) := HLA.out 0 (by decide)
      have a1 : wr.cell? ⟨bA, oA + k * 11 + 1, none⟩ = some (.int .i64 (M k 1)) := HLA.out 1 (by decide)
      have a2 : wr.cell? ⟨bA, oA + k * 11 + 2, none⟩ = some (.int .i64 (M k 2)) := HLA.out 2 (by decide)
      have a3 : wr.cell? ⟨bA, oA + k * 11 + 3, none⟩ = some (.int .i64 (M k 3)) := HLA.out 3 (by decide)
      have a4 : wr.cell? ⟨bA, oA + k * 11 + 4, none⟩ = some (.int .i64 (M k 4)) := HLA.out 4 (by decide)
      have a5 : wr.cell? ⟨bA, oA + k * 11 + 5, none⟩ = some (.int .i64 (M k 5)) := HLA.out 5 (by decide)
      have a6 : wr.cell? ⟨bA, oA + k * 11 + 6, none⟩ = some (.int .i64 (M k 6)) := HLA.out 6 (by decide)
      have a7 : wr.cell? ⟨bA, oA + k * 11 + 7, none⟩ = some (.int .i64 (M k 7)) := HLA.out 7 (by decide)
      have a8 : wr.cell? ⟨bA, oA + k * 11 + 8, none⟩ = some (.int .i64 (M k 8)) := HLA.out 8 (by decide)
      have a9 : wr.cell? ⟨bA, oA + k * 11 + 9, none⟩ = some (.int .i64 (M k 9)) := HLA.out 9 (by decide)
      have a10 : wr.cell? ⟨bA, oA + k * 11 + 10, none⟩ = some (.int .i64 (M k 10)) := HLA.out 10 (by decide)
      have b0 : wr.cell? ⟨bB, oB + k * 11, none⟩ = some (.int .i64 (M k 0)) := HLB.out 0 (by decide)
      have b1 : wr.cell? ⟨bB, oB + k * 11 + 1, none⟩ = some (.int .i64 (M k 1)) := HLB.out 1 (by decide)
      have b2 : wr.cell? ⟨bB, oB + k * 11 + 2, none⟩ = some (.int .i64 (M k 2)) := HLB.out 2 (by decide)
      have b3 : wr.cell? ⟨bB, oB + k * 11 + 3, none⟩ = some (.int .i64 (M k 3)) := HLB.out 3 (by decide)
      have b4 : wr.cell? ⟨bB, oB + k * 11 + 4, none⟩ = some (.int .i64 (M k 4)) := HLB.out 4 (by decide)
      have b5 : wr.cell? ⟨bB, oB + k * 11 + 5, none⟩ = some (.int .i64 (M k 5)) := HLB.out 5 (by decide)
      have b6 : wr.cell? ⟨bB, oB + k * 11 + 6, none⟩ = some (.int .i64 (M k 6)) := HLB.out 6 (by decide)
      have b7 : wr.cell? ⟨bB, oB + k * 11 + 7, none⟩ = some (.int .i64 (M k 7)) := HLB.out 7 (by decide)
      have b8 : wr.cell? ⟨bB, oB + k * 11 + 8, none⟩ = some (.int .i64 (M k 8)) := HLB.out 8 (by decide)
      have b9 : wr.cell? ⟨bB, oB + k * 11 + 9, none⟩ = some (.int .i64 (M k 9)) := HLB.out 9 (by decide)
      have b10 : wr.cell? ⟨bB, oB + k * 11 + 10, none⟩ = some (.int .i64 (M k 10)) := HLB.out 10 (by decide)
      have hn2 : ∀ w, (binOp .neq 92 (.agg #[.int .i64 (M k 2), .int .i64 (M k 3), .int .i64 (M k 4)]) (.agg #[.int .i64 (M k 2), .int .i64 (M k 3), .int .i64 (M k 4)])).run Tryd.prog w = .ok (.bool false) w := fun w => by rw [run_neq_vec]; simp [eq3]
      have hn5 : ∀ w, (binOp .neq 92 (.agg #[.int .i64 (M k 5), .int .i64 (M k 6), .int .i64 (M k 7)]) (.agg #[.int .i64 (M k 5), .int .i64 (M k 6), .int .i64 (M k 7)])).run Tryd.prog w = .ok (.bool false) w := fun w => by rw [run_neq_vec]; simp [eq3]
      have hn8 : ∀ w, (binOp .neq 92 (.agg #[.int .i64 (M k 8), .int .i64 (M k 9), .int .i64 (M k 10)]) (.agg #[.int .i64 (M k 8), .int .i64 (M k 9), .int .i64 (M k 10)])).run Tryd.prog w = .ok (.bool false) w := fun w => by rw [run_neq_vec]; simp [eq3]
      have hmc := more_cell
      clear hcA hcB
      go_wp2_with fail
      refine region_quiet_all (by kernel_rfl) (by kernel_rfl) ?_
      repeat (go_big_quiet_step (fail))
      refine wpQuiet_nil ?_
      rintro w6 hw6
      have hb6 := ext_below hb (after_below hw6)
      clear hw6 hmc hn2 hn5 hn8 a0 a1 a2 a3 a4 a5 a6 a7 a8 a9 a10 b0 b1 b2 b3 b4 b5 b6 b7 b8 b9 b10
      go_wp2
      go_roundw
      case rel => exact ⟨k + 1, by omega, by go_num, hb6⟩
      case measure => simp [intOf]; omega
    · have dk : decide ((k : Int) < (n : Int)) = false := decide_eq_false (by omega)
      go_wp2
      go_ret
      exact ⟨rfl, hb⟩
set_option maxRecDepth 100000 in
set_option maxHeartbeats 4000000 in
theorem snapApplies_w (A1 : Option Addr) (n1 c1 : Nat) (M1 : Nat → Nat → Int) (v : Value) (l : List Nat) (w : World) (hH : Handle w) (_hn1 : n1 ≤ maxLen) (hR1 : Reads w A1 n1 11 M1) (_hM1 : ∀ i j, -9223372036854775808 ≤ M1 i j ∧ M1 i j ≤ 9223372036854775807) (_hk1 : n1 ≤ 1599289640354) (hcap : n1 ≤ c1) (hZ : A1 = none → n1 = 0 ∧ c1 = 0) (hS : Src w v l) (h8 : ∀ b ∈ l, b < 256) (_hl : l.length ≤ maxLen) :
    Calls Tryd.prog 13 #[.slice A1 n1 c1, v] w fun e w' => e = .returned (.bool true) ∧ Below w.heap.size w w' := by
  have HR1 := Lib.hid hR1
  have HZ := Lib.hid hZ
  have HS := Lib.hid hS
  have H8 := Lib.hid h8
  obtain ⟨AL, cL, rfl⟩ := src_form hS
  clear hR1 hZ hS h8
  by_cases h80 : 80 < n1
  · go_enter Tryd.func13, Tryd.ntmps13
    have hd : decide (80 < (n1 : Int)) = true := decide_eq_true (by omega)
    go_wp2
    go_ret
    exact ⟨rfl, Below.refl _ _⟩
  have hd : decide (80 < (n1 : Int)) = false := decide_eq_false (by omega)
  by_cases h15 : 1500 < l.length
  · go_enter Tryd.func13, Tryd.ntmps13
    have hd2 : decide (1500 < (l.length : Int)) = true := decide_eq_true (by omega)
    go_wp2
    go_ret
    exact ⟨rfl, Below.refl _ _⟩
  have hd2 : decide (1500 < (l.length : Int)) = false := decide_eq_false (by omega)
  have q1 : n1 ≤ 100000 := by omega
  have q2 : l.length ≤ 100000 := by omega
  go_enter Tryd.func13, Tryd.ntmps13
  go_wp2_with fail
  with_reducible refine (seen_c n1 A1 c1 M1 w q1 HR1.out).mono ?_
  rintro e w1 ⟨B1, k1, rfl, hz1, hs1, hb1⟩
  have HS1 := Lib.hid hs1
  have HZ1 := Lib.hid hz1
  clear hs1 hz1
  go_wp2_with fail
  with_reducible refine (rapply_c n1 B1 k1 M1 _ l w1 q1 HZ1.out HS1.out (HS.out.below hb1) H8.out q2).mono ?_
  rintro e w2 ⟨h, hb2⟩
  have hB2 : Below w.heap.size w w2 := hb1.trans (hb2.mono hb1.size)
  rcases h with ⟨hV, rfl⟩ | ⟨hV, hA, rfl⟩ | ⟨hV, o, A, c, hA, rfl, _, _, ho⟩
  · have HV := Lib.hid hV
    clear hV hb1 hb2 HS1 HZ1
    go_wp2_with fail
    with_reducible refine (apply_c n1 A1 c1 M1 _ l w2 q1 hcap HZ.out (HR1.out.below hB2) (HS.out.below hB2) H8.out q2).mono ?_
    rintro e w3 ⟨h, hb3⟩
    have hB3 : Below w.heap.size w w3 := hB2.trans (hb3.mono hB2.size)
    rcases h with ⟨_, rfl⟩ | ⟨h, _⟩ | ⟨h, _⟩
    · clear hb3 hB2
      go_wp2_with fail
      with_reducible refine (lbare_eq2 1 1 (.iface 25 (.int .i64 1)) _ (hH.below hB3) rfl rfl).mono ?_
      rintro e w4 ⟨rfl, hb4⟩
      have hB4 : Below w.heap.size w w4 := hB3.trans (hb4.mono hB3.size)
      clear hb4 hB3
      go_wp2_with fail
      with_reducible refine (sameView_c 0 none none 0 0 M1 _ (by omega) (reads0 _ _ _) (reads0 _ _ _)).mono ?_
      rintro e w5 ⟨rfl, hb5⟩
      have hB5 : Below w.heap.size w w5 := hB4.trans (hb5.mono hB4.size)
      go_wp2
      go_ret
      exact ⟨rfl, hB5⟩
    · exact absurd h HV.out
    · exact absurd h HV.out
  · have HV := Lib.hid hV
    have HA := Lib.hid ((ans_eq M1 l hV.2).symm.trans hA)
    clear hV hA hb1 hb2 HS1 HZ1
    go_wp2_with fail
    with_reducible refine (apply_c n1 A1 c1 M1 _ l w2 q1 hcap HZ.out (HR1.out.below hB2) (HS.out.below hB2) H8.out q2).mono ?_
    rintro e w3 ⟨h, hb3⟩
    have hB3 : Below w.heap.size w w3 := hB2.trans (hb3.mono hB2.size)
    rcases h with ⟨h, _⟩ | ⟨_, _, rfl⟩ | ⟨_, o, A, c, h, _⟩
    · exact absurd HV.out h
    · clear hb3 hB2
      go_wp2_with fail
      with_reducible refine (lbare_eq2 3 3 (.iface 25 (.int .i64 3)) _ (hH.below hB3) rfl rfl).mono ?_
      rintro e w4 ⟨rfl, hb4⟩
      have hB4 : Below w.heap.size w w4 := hB3.trans (hb4.mono hB3.size)
      clear hb4 hB3
      go_wp2_with fail
      with_reducible refine (sameView_c 0 none none 0 0 M1 _ (by omega) (reads0 _ _ _) (reads0 _ _ _)).mono ?_
      rintro e w5 ⟨rfl, hb5⟩
      have hB5 : Below w.heap.size w w5 := hB4.trans (hb5.mono hB4.size)
      go_wp2
      go_ret
      exact ⟨rfl, hB5⟩
    · rw [HA.out] at h; cases h
  · have HV := Lib.hid hV
    have HA : Hid (ansF M1 n1 l = some o) := Lib.hid ((ans_eq M1 l hV.2).symm.trans hA)
    have hlo : o.length ≤ 100000 := by
      have h1 := HA.out
      unfold ansF at h1
      have := ansV_len h1
      omega
    have HO := Lib.hid ho
    clear hV hA hb1 hb2 HS1 HZ1 ho
    go_wp2_with fail
    with_reducible refine (apply_c n1 A1 c1 M1 _ l w2 q1 hcap HZ.out (HR1.out.below hB2) (HS.out.below hB2) H8.out q2).mono ?_
    rintro e w3 ⟨h, hb3⟩
    have hB3 : Below w.heap.size w w3 := hB2.trans (hb3.mono hB2.size)
    rcases h with ⟨h, _⟩ | ⟨_, h, _⟩ | ⟨_, o2, A2, c2, h, rfl, _, _, ho2⟩
    · exact absurd HV.out h
    · rw [HA.out] at h; cases h
    · obtain rfl : o = o2 := by rw [HA.out] at h; exact Option.some.inj h
      have HO3 := Lib.hid (HO.out.below hb3)
      have HP3 := Lib.hid ho2
      clear hb3 hB2 ho2 h HO
      go_wp2_with fail
      with_reducible refine (lbare_eq2 0 0 .nilIface _ (hH.below hB3) rfl rfl).mono ?_
      rintro e w4 ⟨rfl, hb4⟩
      have hB4 : Below w.heap.size w w4 := hB3.trans (hb4.mono hB3.size)
      have HO4 := Lib.hid (HO3.out.below hb4)
      have HP4 := Lib.hid (HP3.out.below hb4)
      clear hb4 hB3 HO3 HP3
      go_wp2_with fail
      with_reducible refine (sameView_c o.length A2 A c2 c (mx o) _ hlo HP4.out HO4.out).mono ?_
      rintro e w5 ⟨rfl, hb5⟩
      have hB5 : Below w.heap.size w w5 := hB4.trans (hb5.mono hB4.size)
      go_wp2
      go_ret
      exact ⟨rfl, hB5⟩
end Go.Proofs.YtnkinnfpebploaaDoor
namespace Go.Proofs.YtnkinnfpebploaaDoor
open Go.ChangeShapes Go.WideShapes Go.ChangeAt Go.RowKit
set_option maxRecDepth 100000 in
theorem snapApplies_lifted (os : Os) (started : os.Started) (H : Type) (enc : TypeId × Value → H) :
    ReturnsInHanded {} Tryd.checked os 13 .any (fun w args => (Rows.snapAppliesSpec.pre enc Tryd.prog Tryd.f13 [] false w args ∧ laidMetH Tryd.prog [("errors.errorType", Rows.laid_errors_errorType)] w) ∧ sizedMet enc Tryd.prog Tryd.f13 (OpenSpec.ofChange Rows.snapAppliesSpec) false w args)
      (Rows.snapAppliesSpec.post enc Tryd.prog Tryd.f13 false true false false) := by
  refine returnsInHanded_of_change_and (C := Tryd.checked) (X := fun w _ => laidMetH Tryd.prog [("errors.errorType", Rows.laid_errors_errorType)] w) (fun _ _ _ hh h => h.of_heap hh) own started (by kernel_rfl) Tryd.func13
    (ChangeSpec.witness_at (enc := enc) (C := Tryd.checked) (os := os) (X := fun w _ => laidMetH Tryd.prog [("errors.errorType", Rows.laid_errors_errorType)] w) false (laidWorld os) #[.slice none 0 0, .slice none 0 0] 8 rfl (by kernel_rfl) (by kernel_rfl) (by kernel_rfl) (by kernel_rfl) (by kernel_rfl) (laidWorld_met os _)) ?_
  intro W base args ds gs before hval0 hW _ hwt hL _
  have hval : ∀ (j : Nat) t v, Tryd.f13.params[j]? = some t → args[j]? = some v → Value.okWide Tryd.prog W .any base t v := hval0
  have hH := handle_of_laid hL
  obtain ⟨p, q, hA0, _⟩ := id hW
  have hsz := (trodAll_length _ _ _ _ hA0).1
  obtain ⟨v0, v1, rfl⟩ : ∃ v0 v1, args = #[v0, v1] := by
    rcases args with ⟨_ | ⟨v0, _ | ⟨v1, _ | ⟨v2, l⟩⟩⟩⟩ <;> first | exact ⟨v0, v1, rfl⟩ | (simp [Tryd.params13] at hsz)
  obtain ⟨d0, p0, g0, t0⟩ := trodAll_in _ _ _ _ hA0 0 101 v0 (by rw [Tryd.params13]; rfl) rfl
  obtain ⟨A0, n0, c0, M0, rfl, hn0, hR0, hM0⟩ := open_rows 8 11 Tryd.underlying101 (by kernel_rfl) (by kernel_rfl) (by decide) (slice_of_okv Tryd.underlying101 (hval 0 101 v0 (by rw [Tryd.params13]; rfl) rfl)) t0
  have hz0 := slice_reach hwt (t := 101) (j := 0) (by rw [Tryd.params13]; rfl) (ds_in g0) Tryd.underlying101 t0
  have hk0 : n0 ≤ 1599289640354 := by
    rw [show Tryd.checked.prog.bytesOf 145 = 88 from by kernel_rfl] at hz0
    unfold reachBytes at hz0
    omega
  obtain ⟨d1, p1, t1⟩ := trodAll_at _ _ _ _ hA0 1 22 v1 (by rw [Tryd.params13]; rfl) rfl
  obtain ⟨l1, hB1, h81, hl1⟩ := open_bytes Tryd.underlying22 Tryd.underlying5 (by kernel_rfl) (slice_of_okv Tryd.underlying22 (hval 1 22 v1 (by rw [Tryd.params13]; rfl) rfl)) t1
  refine (snapApplies_w A0 n0 c0 M0 v1 l1 W hH hn0 hR0 hM0 hk0 (trod_cap Tryd.underlying101 t0 _ _ _ rfl) (trod_nil Tryd.underlying101 t0) hB1 h81 hl1).mono fun e W' ⟨he, hb⟩ => ⟨_, he, ?_⟩
  exact law_post laid (by kernel_rfl) (by kernel_rfl) Tryd.underlying4 rfl (fun ds h => by match ds, h with | [d0, d1], _ => rfl) hW hb

theorem snapApplies_over : Rows.snapAppliesRow.holds Tryd.pinned (OpenSpec.ofChange Rows.snapAppliesSpec) :=
  OpenClaim.holds_of_wide 13 Tryd.f13 rfl rfl rfl rfl rfl rfl rfl ⟨rfl, rfl, rfl, rfl, rfl⟩ rfl rfl rfl rfl rfl (by kernel_rfl) Tryd.func13 (by kernel_rfl)
    (of_decide_eq_true (by kernel_rfl)) (by unfold Func.isWrapper; first | (rw [if_pos (by decide +kernel)]; kernel_rfl) | (rw [if_neg (by decide +kernel)]; exact ⟨rfl, rfl⟩))
    (fun os started H enc _ => snapApplies_lifted os started H enc)
theorem snapApplies_stand : ∀ t ∈ Tryd.f13.params.toList, Tryd.prog.wantsStandIn t = false := by
  rw [Tryd.params13]
  intro t ht
  simp only [List.mem_cons, List.mem_nil_iff, or_false] at ht
  rcases ht with rfl | rfl <;> kernel_rfl
theorem snapApplies_card : Rows.SnapAppliesCardSaid :=
  Claim7.holds_tied_plain_at .later [] [.handle] true Rows.snapAppliesCard.stood.harness true
    snapApplies_over (fun _ h => by cases h) (by kernel_rfl) (fun _ h => by cases h) snapApplies_row_tie rfl ⟨rfl, rfl⟩ (by kernel_rfl) rfl
    (fun f fn hf hfn => by
      obtain rfl : f = 13 := Option.some.inj ((show Tryd.prog.funcNamed "gyre/gyrelaw.SnapApplies" = some 13 by kernel_rfl).symm.trans hf) |>.symm
      obtain rfl : fn = Tryd.f13 := (Option.some.inj (Tryd.func13.symm.trans hfn)).symm
      exact ⟨by kernel_rfl, fun j t ht => snapApplies_stand t (List.mem_of_getElem? (by simpa using ht))⟩)
    (by kernel_rfl)
#print axioms snapApplies_card
end Go.Proofs.YtnkinnfpebploaaDoor
