/- The contract of gyreref.Delta. Conditions: none but that there are not too many. -/
import Derived.Test.YtefhmbmbhiehdaaKClC
import Derived.Test.YtefhmbmbhiehdaaKClA
namespace Go.Proofs.Ytefhmbmbhiehdaa
open Go.ChangeShapes Go.WideShapes Go.ChangeAt Go.RowKit Go.BigFrame
open B
section
variable {M1 M2 : Nat → Nat → Int} {n1 n2 i k f : Nat}
theorem ids_gone (hf : n1 + n2 ≤ i + k + f) (_hi : i ≤ n1) (hk : k ≤ n2) (h : Gone M1 n1 M2 n2 i k) : ∃ g, n1 + n2 ≤ i + 1 + k + g ∧ idsF M1 n1 M2 n2 f i k = M1 i 0 :: idsF M1 n1 M2 n2 g (i + 1) k := by
  have := h.1
  obtain ⟨g, rfl⟩ : ∃ g, f = g + 1 := ⟨f - 1, by omega⟩
  exact ⟨g, by omega, by conv => lhs; unfold idsF; rw [if_pos (Or.inl h.1), if_pos h]⟩
theorem ids_came (hf : n1 + n2 ≤ i + k + f) (hi : i ≤ n1) (_hk : k ≤ n2) (hg : ¬ Gone M1 n1 M2 n2 i k) (h : Came M1 n1 M2 n2 i k) : ∃ g, n1 + n2 ≤ i + (k + 1) + g ∧ idsF M1 n1 M2 n2 f i k = M2 k 0 :: idsF M1 n1 M2 n2 g i (k + 1) := by
  have := h.1
  obtain ⟨g, rfl⟩ : ∃ g, f = g + 1 := ⟨f - 1, by omega⟩
  exact ⟨g, by omega, by conv => lhs; unfold idsF; rw [if_pos (Or.inr h.1), if_neg hg, if_pos h]⟩
theorem ids_both (hf : n1 + n2 ≤ i + k + f) (hi : i < n1) (hk : k < n2) (hg : ¬ Gone M1 n1 M2 n2 i k) (hc : ¬ Came M1 n1 M2 n2 i k) : ∃ g, n1 + n2 ≤ i + 1 + (k + 1) + g ∧ idsF M1 n1 M2 n2 f i k = M1 i 0 :: idsF M1 n1 M2 n2 g (i + 1) (k + 1) := by
  obtain ⟨g, rfl⟩ : ∃ g, f = g + 1 := ⟨f - 1, by omega⟩
  exact ⟨g, by omega, by conv => lhs; unfold idsF; rw [if_pos (Or.inl hi), if_neg hg, if_neg hc]⟩
theorem ids_end (hi : ¬ i < n1) (hk : ¬ k < n2) : idsF M1 n1 M2 n2 f i k = [] := by
  cases f with
  | zero => rfl
  | succ g => unfold idsF; rw [if_neg (by omega)]
end
theorem vec3L_le (x y z : Int) : (vec3L x y z).length ≤ 234 := by
  unfold vec3L
  have := intL_le x
  have := intL_le y
  have := intL_le z
  simp only [List.length_append]
  omega
theorem restR_new {M1 M2 : Nat → Nat → Int} {n1 n2 k : Nat} {x last : Int} {l : List Int} (h1 : rowOf M1 n1 x = none) (h2 : rowOf M2 n2 x = some k) : restR M1 n1 M2 n2 (x :: l) last = headL 1 x last ++ newL M2 k ++ restR M1 n1 M2 n2 l x := by rw [restR, h1, h2]
theorem restR_gone {M1 M2 : Nat → Nat → Int} {n1 n2 : Nat} {x last : Int} {l : List Int} (h2 : rowOf M2 n2 x = none) : restR M1 n1 M2 n2 (x :: l) last = headL 0 x last ++ restR M1 n1 M2 n2 l x := by rw [restR, h2]
theorem restR_same {M1 M2 : Nat → Nat → Int} {n1 n2 i k : Nat} {x last : Int} {l : List Int} (h1 : rowOf M1 n1 x = some i) (h2 : rowOf M2 n2 x = some k) (h : same11 M1 i M2 k = true) : restR M1 n1 M2 n2 (x :: l) last = restR M1 n1 M2 n2 l last := by rw [restR, h1, h2]; simp only []; rw [if_pos h]
theorem restR_other {M1 M2 : Nat → Nat → Int} {n1 n2 i k : Nat} {x last : Int} {l : List Int} (h1 : rowOf M1 n1 x = some i) (h2 : rowOf M2 n2 x = some k) (h : same11 M1 i M2 k = false) : restR M1 n1 M2 n2 (x :: l) last = headL 2 x last ++ changeL M1 i M2 k ++ restR M1 n1 M2 n2 l x := by rw [restR, h1, h2]; simp only []; rw [if_neg (by rw [h]; simp)]
theorem bit_length (b : Bool) : (bit b).length = 1 := bitsOf_length _ _
theorem run_eql_seenR (x0 x1 x2 x3 x4 x5 x6 x7 x8 x9 x10 y0 y1 y2 y3 y4 y5 y6 y7 y8 y9 y10 : Int) (w : World) : (binOp .eql 102 (.agg #[.int .i64 x0, .int .i64 x1, .int .i64 x2, .int .i64 x3, .int .i64 x4, .int .i64 x5, .int .i64 x6, .int .i64 x7, .int .i64 x8, .int .i64 x9, .int .i64 x10]) (.agg #[.int .i64 y0, .int .i64 y1, .int .i64 y2, .int .i64 y3, .int .i64 y4, .int .i64 y5, .int .i64 y6, .int .i64 y7, .int .i64 y8, .int .i64 y9, .int .i64 y10])).run Try.prog w = .ok (.bool (x0 == y0 && x1 == y1 && eq3 x2 x3 x4 y2 y3 y4 && eq3 x5 x6 x7 y5 y6 y7 && eq3 x8 x9 x10 y8 y9 y10)) w := by
  rw [run_eql_struct, run_equalIn_struct w 9999 _ _ _ (by kernel_rfl) (by kernel_rfl)]
  simp only [Program.fieldsOf, Try.underlying102]
  simp only [Op.eqFields]
  have e1 := fun d w => run_equalIn_vec d x2 x3 x4 y2 y3 y4 w
  have e2 := fun d w => run_equalIn_vec d x5 x6 x7 y5 y6 y7 w
  have e3 := fun d w => run_equalIn_vec d x8 x9 x10 y8 y9 y10 w
  cases h1 : (x0 == y0) <;> cases h2 : (x1 == y1) <;> cases h3 : eq3 x2 x3 x4 y2 y3 y4 <;> cases h4 : eq3 x5 x6 x7 y5 y6 y7 <;> cases h5 : eq3 x8 x9 x10 y8 y9 y10 <;> simp [go_sem, Try.underlying3, h1, h2, h3, h4, h5, e1, e2, e3]

set_option maxRecDepth 100000 in
set_option maxHeartbeats 16000000 in
theorem rdelta_c (n1 n2 : Nat) (A1 A2 : Option Addr) (cap1 cap2 : Nat) (M1 M2 : Nat → Nat → Int) (w : World) (hn1 : n1 ≤ 100000) (hn2 : n2 ≤ 100000) (hR1 : Reads w A1 n1 11 M1) (hR2 : Reads w A2 n2 11 M2) :
    Calls Try.prog 8 #[.slice A1 n1 cap1, .slice A2 n2 cap2] w fun e w' => ((¬ (RightV n1 M1 ∧ RightV n2 M2) ∧ e = .returned (.tuple #[.slice none 0 0, .int .i64 1])) ∨ (RightV n1 M1 ∧ RightV n2 M2 ∧ 31872 < (deltaL M1 n1 M2 n2).length ∧ e = .returned (.tuple #[.slice none 0 0, .int .i64 4])) ∨ (RightV n1 M1 ∧ RightV n2 M2 ∧ ¬ 31872 < (deltaL M1 n1 M2 n2).length ∧ ∃ (D : Option Addr) (c b : Nat), w.heap.size ≤ b ∧ e = .returned (.tuple #[.slice D (pack (deltaL M1 n1 M2 n2)).length c, .int .i64 0]) ∧ BsOf w' b (.slice D (pack (deltaL M1 n1 M2 n2)).length c) (pack (deltaL M1 n1 M2 n2)))) ∧ Below w.heap.size w w' := by
  have HR1 := Lib.hid hR1
  have HR2 := Lib.hid hR2
  clear hR1 hR2
  go_enter Try.func8, Try.ntmps8
  go_wp2_with fail
  refine (rright_c n1 A1 cap1 M1 _ (by omega) HR1.out).mono ?_
  rintro e w1 ⟨d1, rfl, hd1, hb1⟩
  cases d1 with
  | false =>
    have HNO : Hid (¬ (RightV n1 M1 ∧ RightV n2 M2)) := Lib.hid (fun h => by have := hd1.2 h.1; cases this)
    clear hd1
    go_wp2
    exact bodyPost_ret (v := .tuple #[.slice none 0 0, .int .i64 1]) (by simp [results, Try.results8, go_sem, *]) rfl ⟨.inl ⟨HNO.out, rfl⟩, hb1⟩
  | true =>
    have HY1 : Hid (RightV n1 M1) := Lib.hid (hd1.1 rfl)
    clear hd1
    go_wp2_with fail
    refine (rright_c n2 A2 cap2 M2 _ (by omega) (HR2.out.below hb1)).mono ?_
    rintro e w2 ⟨d2, rfl, hd2, hb2⟩
    have hB2 : Below w.heap.size w w2 := hb1.trans (hb2.mono hb1.size)
    cases d2 with
    | false =>
      have HNO : Hid (¬ (RightV n1 M1 ∧ RightV n2 M2)) := Lib.hid (fun h => by have := hd2.2 h.2; cases this)
      clear hd2
      go_wp2
      exact bodyPost_ret (v := .tuple #[.slice none 0 0, .int .i64 1]) (by simp [results, Try.results8, go_sem, *]) rfl ⟨.inl ⟨HNO.out, rfl⟩, hB2⟩
    | true =>
      have HY2 : Hid (RightV n2 M2) := Lib.hid (hd2.1 rfl)
      have hle : n1 ≤ 60 ∧ n2 ≤ 60 := ⟨HY1.out.2, HY2.out.2⟩
      obtain ⟨h60, h61⟩ := hle
      clear hd2 hb1 hb2
      go_wp2
      refine wp_fresh ?_
      rintro w3 hb3
      have P3 : Blk w3 w2.heap.size #[.slice none 0 0] := Blk.below (by repeat (with_reducible (first | assumption | (apply Blk.at; simp; done) | apply Blk.alloc | apply Blk.drew | apply Blk.drewN | apply Blk.more | apply Blk.put | (apply Blk.far; focus (first | assumption | (apply Ne.symm; assumption) | (simp; done) | (simp <;> omega)))))) hb3
      have hB3 : Below w.heap.size w w3 := (by repeat (with_reducible (first | exact Below.refl _ _ | assumption | apply ext_drew | apply ext_drewN | apply ext_alloc | apply ext_more | (refine ext_setCell ?_ (by first | assumption | (simp <;> omega)) _) | (refine ext_below ?_ (by assumption)))))
      have hsz := hB2.size
      obtain ⟨p, hp⟩ : ∃ p, p = w2.heap.size := ⟨_, rfl⟩
      rw [← hp] at P3
      rw [← hp]
      have HWP : Hid (w.heap.size ≤ p) := Lib.hid (by omega)
      clear hb3 hsz hp hB2
      go_loopw [9, 10, 11] (fun v ti tk wr => ∃ (i k f : Nat) (l : List Int) (SA : Option Addr) (SC : Nat), i ≤ n1 ∧ k ≤ n2 ∧ ti = .int .i64 i ∧ tk = .int .i64 k ∧ v = .slice SA l.length SC ∧ n1 + n2 ≤ i + k + f ∧ l ++ idsF M1 n1 M2 n2 f i k = idsF M1 n1 M2 n2 (n1 + n2) 0 0 ∧ l.length ≤ i + k ∧ wr.ownsRow w3.heap.size 3 1 (.slice SA l.length SC) l.length (i64s l) ∧ Below w3.heap.size w3 wr) (fun _ ti tk _ => n1 + n2 - (intOf ti).toNat - (intOf tk).toNat)
      case atStart => exact ⟨0, 0, n1 + n2, [], none, 0, by omega, by omega, rfl, rfl, rfl, by omega, rfl, by simp, ⟨by simp [i64s], .inl ⟨rfl, rfl⟩⟩, Below.refl _ _⟩
      case round =>
        obtain ⟨i, k, f, l, SA, SC, hi, hk, rfl, rfl, rfl, hf, hL, hll, hO, hM⟩ := hrel
        have hBr := hB3.trans (hM.mono hB3.size)
        have HR1' := Lib.hid (HR1.out.below hBr)
        have HR2' := Lib.hid (HR2.out.below hBr)
        have HL := Lib.hid hL
        have HO := Lib.hid hO
        have HM := Lib.hid hM
        have hbs := hM.size
        have HBS := Lib.hid hbs
        clear hL hO hM hBr hbs
        have HOwr := HO
        have HMwr := HM
        have HBSwr := HBS
        clear HO HM HBS
        by_cases hg : Gone M1 n1 M2 n2 i k
        · obtain ⟨g, hgf, hgr⟩ := ids_gone hf hi hk hg
          have hin : i < n1 := hg.1
          have HG : Hid (l ++ [M1 i 0] ++ idsF M1 n1 M2 n2 g (i + 1) k = idsF M1 n1 M2 n2 (n1 + n2) 0 0) := Lib.hid (by rw [List.append_assoc, List.singleton_append, ← hgr]; exact HL.out)
          clear hgr
          by_cases hkn : k < n2
          · have hlt : M1 i 0 < M2 k 0 := hg.2 hkn
            clear hg
            have dk : ((k : Int) == (n2 : Int)) = false := by simpa using (by omega : ¬ (k : Int) = n2)
            have d1 : decide (M1 i 0 ≤ M2 k 0) = true := decide_eq_true (by omega)
            have d2 : (M1 i 0 == M2 k 0) = false := by simpa using (by omega : ¬ M1 i 0 = M2 k 0)
            clear hlt
            obtain ⟨bA, oA, rfl, hlawr, hcA⟩ := HR1'.out (by omega)
            have awr : wr.cell? ⟨bA, oA + i * 11, none⟩ = some (.int .i64 (M1 i 0)) := hcA i hin 0 (by decide)
            clear hcA
            obtain ⟨bB, oB, rfl, hlbwr, hcB⟩ := HR2'.out (by omega)
            have bwr : wr.cell? ⟨bB, oB + k * 11, none⟩ = some (.int .i64 (M2 k 0)) := hcB k hkn 0 (by decide)
            clear hcB
            as_aux_lemma =>
              have hmc := more_cell
              go_wp2_with fail
              refine region_quiet_all (by kernel_rfl) (by kernel_rfl) ?_
              repeat (go_big_quiet_step (fail))
              refine wpQuiet_nil ?_
              rintro w4 hw4
              have hbw4 := after_below hw4
              clear hw4
              have aw4 := (hbw4.cell (p := ⟨bA, oA + i * 11, none⟩) hlawr).trans awr
              have hlaw4 := Nat.lt_of_lt_of_le hlawr hbw4.size
              have bw4 := (hbw4.cell (p := ⟨bB, oB + k * 11, none⟩) hlbwr).trans bwr
              have hlbw4 := Nat.lt_of_lt_of_le hlbwr hbw4.size
              have HOw4 := Lib.hid (row_below HOwr.out hbw4)
              have HMw4 := Lib.hid (ext_below HMwr.out hbw4)
              have HBSw4 := Lib.hid (Nat.le_trans HBSwr.out hbw4.size)
              clear hbw4 HOwr HMwr HBSwr awr hlawr bwr hlbwr
              go_wp2_with fail
              refine region_quiet_all (by kernel_rfl) (by kernel_rfl) ?_
              repeat (go_big_quiet_step (fail))
              refine wpQuiet_nil ?_
              rintro w5 hw5
              have hbw5 := after_below hw5
              clear hw5
              have aw5 := (hbw5.cell (p := ⟨bA, oA + i * 11, none⟩) hlaw4).trans aw4
              have hlaw5 := Nat.lt_of_lt_of_le hlaw4 hbw5.size
              have bw5 := (hbw5.cell (p := ⟨bB, oB + k * 11, none⟩) hlbw4).trans bw4
              have hlbw5 := Nat.lt_of_lt_of_le hlbw4 hbw5.size
              have HOw5 := Lib.hid (row_below HOw4.out hbw5)
              have HMw5 := Lib.hid (ext_below HMw4.out hbw5)
              have HBSw5 := Lib.hid (Nat.le_trans HBSw4.out hbw5.size)
              clear hbw5 HOw4 HMw4 HBSw4 aw4 hlaw4 bw4 hlbw4
              clear hmc
              go_wp2_with (at_builtin; go_must (refine app_one rfl (.tmp 83) (.tmp 89) 71 rfl Try.underlying71 intInfo rfl (by decide) (by decide) w3.heap.size (.slice SA l.length SC) l.length (i64s l) rfl HOw5.out #[.int .i64 (M1 i 0)] rfl (by simp) rfl (one_int _ _) (by omega) HBSw5.out ?_; intro g' c w8 hown hmod hwh hbg; have HO8 := Lib.hid hown; have HM8 := Lib.hid hmod; clear hown hmod hwh hbg))
              go_roundw
              case rel => exact ⟨i + 1, k, g, l ++ [M1 i 0], some ⟨g', 0, none⟩, c, by omega, by omega, by go_num, by go_num, by simp, hgf, HG.out, by simp; omega, by rw [i64s_snoc, List.length_append]; exact HO8.out, HMw5.out.trans (HM8.out.toBelow HMw5.out.size (fun b hb e => by have := (row_lt HOw5.out e).2; omega))⟩
              case measure => simp [intOf]; omega
          · clear hg
            have dk : ((k : Int) == (n2 : Int)) = true := by simpa using (by omega : (k : Int) = n2)
            have dl : decide ((k : Int) < (n2 : Int)) = false := decide_eq_false (by omega)
            obtain ⟨bA, oA, rfl, hlawr, hcA⟩ := HR1'.out (by omega)
            have awr : wr.cell? ⟨bA, oA + i * 11, none⟩ = some (.int .i64 (M1 i 0)) := hcA i hin 0 (by decide)
            clear hcA
            as_aux_lemma =>
              have hmc := more_cell
              go_wp2_with fail
              refine region_quiet_all (by kernel_rfl) (by kernel_rfl) ?_
              repeat (go_big_quiet_step (fail))
              refine wpQuiet_nil ?_
              rintro w4 hw4
              have hbw4 := after_below hw4
              clear hw4
              have aw4 := (hbw4.cell (p := ⟨bA, oA + i * 11, none⟩) hlawr).trans awr
              have hlaw4 := Nat.lt_of_lt_of_le hlawr hbw4.size
              have HOw4 := Lib.hid (row_below HOwr.out hbw4)
              have HMw4 := Lib.hid (ext_below HMwr.out hbw4)
              have HBSw4 := Lib.hid (Nat.le_trans HBSwr.out hbw4.size)
              clear hbw4 HOwr HMwr HBSwr awr hlawr
              go_wp2_with fail
              refine region_quiet_all (by kernel_rfl) (by kernel_rfl) ?_
              repeat (go_big_quiet_step (fail))
              refine wpQuiet_nil ?_
              rintro w5 hw5
              have hbw5 := after_below hw5
              clear hw5
              have aw5 := (hbw5.cell (p := ⟨bA, oA + i * 11, none⟩) hlaw4).trans aw4
              have hlaw5 := Nat.lt_of_lt_of_le hlaw4 hbw5.size
              have HOw5 := Lib.hid (row_below HOw4.out hbw5)
              have HMw5 := Lib.hid (ext_below HMw4.out hbw5)
              have HBSw5 := Lib.hid (Nat.le_trans HBSw4.out hbw5.size)
              clear hbw5 HOw4 HMw4 HBSw4 aw4 hlaw4
              clear hmc
              go_wp2_with (at_builtin; go_must (refine app_one rfl (.tmp 83) (.tmp 89) 71 rfl Try.underlying71 intInfo rfl (by decide) (by decide) w3.heap.size (.slice SA l.length SC) l.length (i64s l) rfl HOw5.out #[.int .i64 (M1 i 0)] rfl (by simp) rfl (one_int _ _) (by omega) HBSw5.out ?_; intro g' c w8 hown hmod hwh hbg; have HO8 := Lib.hid hown; have HM8 := Lib.hid hmod; clear hown hmod hwh hbg))
              go_roundw
              case rel => exact ⟨i + 1, k, g, l ++ [M1 i 0], some ⟨g', 0, none⟩, c, by omega, by omega, by go_num, by go_num, by simp, hgf, HG.out, by simp; omega, by rw [i64s_snoc, List.length_append]; exact HO8.out, HMw5.out.trans (HM8.out.toBelow HMw5.out.size (fun b hb e => by have := (row_lt HOw5.out e).2; omega))⟩
              case measure => simp [intOf]; omega
        · by_cases hc : Came M1 n1 M2 n2 i k
          · obtain ⟨g, hgf, hgr⟩ := ids_came hf hi hk hg hc
            have hkn : k < n2 := hc.1
            have HG : Hid (l ++ [M2 k 0] ++ idsF M1 n1 M2 n2 g i (k + 1) = idsF M1 n1 M2 n2 (n1 + n2) 0 0) := Lib.hid (by rw [List.append_assoc, List.singleton_append, ← hgr]; exact HL.out)
            have dk : ((k : Int) == (n2 : Int)) = false := by simpa using (by omega : ¬ (k : Int) = n2)
            clear hgr
            by_cases hin : i < n1
            · have d1 : decide (M1 i 0 ≤ M2 k 0) = false := decide_eq_false (by have := hc.2 hin; omega)
              clear hg hc
              obtain ⟨bA, oA, rfl, hlawr, hcA⟩ := HR1'.out (by omega)
              have awr : wr.cell? ⟨bA, oA + i * 11, none⟩ = some (.int .i64 (M1 i 0)) := hcA i hin 0 (by decide)
              clear hcA
              obtain ⟨bB, oB, rfl, hlbwr, hcB⟩ := HR2'.out (by omega)
              have bwr : wr.cell? ⟨bB, oB + k * 11, none⟩ = some (.int .i64 (M2 k 0)) := hcB k hkn 0 (by decide)
              clear hcB
              as_aux_lemma =>
                have hmc := more_cell
                go_wp2_with fail
                refine region_quiet_all (by kernel_rfl) (by kernel_rfl) ?_
                repeat (go_big_quiet_step (fail))
                refine wpQuiet_nil ?_
                rintro w4 hw4
                have hbw4 := after_below hw4
                clear hw4
                have aw4 := (hbw4.cell (p := ⟨bA, oA + i * 11, none⟩) hlawr).trans awr
                have hlaw4 := Nat.lt_of_lt_of_le hlawr hbw4.size
                have bw4 := (hbw4.cell (p := ⟨bB, oB + k * 11, none⟩) hlbwr).trans bwr
                have hlbw4 := Nat.lt_of_lt_of_le hlbwr hbw4.size
                have HOw4 := Lib.hid (row_below HOwr.out hbw4)
                have HMw4 := Lib.hid (ext_below HMwr.out hbw4)
                have HBSw4 := Lib.hid (Nat.le_trans HBSwr.out hbw4.size)
                clear hbw4 HOwr HMwr HBSwr awr hlawr bwr hlbwr
                clear hmc
                go_wp2_with (at_builtin; go_must (refine app_one rfl (.tmp 93) (.tmp 99) 71 rfl Try.underlying71 intInfo rfl (by decide) (by decide) w3.heap.size (.slice SA l.length SC) l.length (i64s l) rfl HOw4.out #[.int .i64 (M2 k 0)] rfl (by simp) rfl (one_int _ _) (by omega) HBSw4.out ?_; intro g' c w8 hown hmod hwh hbg; have HO8 := Lib.hid hown; have HM8 := Lib.hid hmod; clear hown hmod hwh hbg))
                go_roundw
                case rel => exact ⟨i, k + 1, g, l ++ [M2 k 0], some ⟨g', 0, none⟩, c, by omega, by omega, by go_num, by go_num, by simp, hgf, HG.out, by simp; omega, by rw [i64s_snoc, List.length_append]; exact HO8.out, HMw4.out.trans (HM8.out.toBelow HMw4.out.size (fun b hb e => by have := (row_lt HOw4.out e).2; omega))⟩
                case measure => simp [intOf]; omega
            · have d1 : decide ((i : Int) < (n1 : Int)) = false := decide_eq_false (by omega)
              clear hg hc
              obtain ⟨bB, oB, rfl, hlbwr, hcB⟩ := HR2'.out (by omega)
              have bwr : wr.cell? ⟨bB, oB + k * 11, none⟩ = some (.int .i64 (M2 k 0)) := hcB k hkn 0 (by decide)
              clear hcB
              as_aux_lemma =>
                have hmc := more_cell
                go_wp2_with fail
                refine region_quiet_all (by kernel_rfl) (by kernel_rfl) ?_
                repeat (go_big_quiet_step (fail))
                refine wpQuiet_nil ?_
                rintro w4 hw4
                have hbw4 := after_below hw4
                clear hw4
                have bw4 := (hbw4.cell (p := ⟨bB, oB + k * 11, none⟩) hlbwr).trans bwr
                have hlbw4 := Nat.lt_of_lt_of_le hlbwr hbw4.size
                have HOw4 := Lib.hid (row_below HOwr.out hbw4)
                have HMw4 := Lib.hid (ext_below HMwr.out hbw4)
                have HBSw4 := Lib.hid (Nat.le_trans HBSwr.out hbw4.size)
                clear hbw4 HOwr HMwr HBSwr bwr hlbwr
                clear hmc
                go_wp2_with (at_builtin; go_must (refine app_one rfl (.tmp 93) (.tmp 99) 71 rfl Try.underlying71 intInfo rfl (by decide) (by decide) w3.heap.size (.slice SA l.length SC) l.length (i64s l) rfl HOw4.out #[.int .i64 (M2 k 0)] rfl (by simp) rfl (one_int _ _) (by omega) HBSw4.out ?_; intro g' c w8 hown hmod hwh hbg; have HO8 := Lib.hid hown; have HM8 := Lib.hid hmod; clear hown hmod hwh hbg))
                go_roundw
                case rel => exact ⟨i, k + 1, g, l ++ [M2 k 0], some ⟨g', 0, none⟩, c, by omega, by omega, by go_num, by go_num, by simp, hgf, HG.out, by simp; omega, by rw [i64s_snoc, List.length_append]; exact HO8.out, HMw4.out.trans (HM8.out.toBelow HMw4.out.size (fun b hb e => by have := (row_lt HOw4.out e).2; omega))⟩
                case measure => simp [intOf]; omega
          · by_cases hin : i < n1
            · have hkn : k < n2 := by
                by_cases h : k < n2
                · exact h
                · exact absurd ⟨hin, fun h' => absurd h' h⟩ hg
              have heq : M1 i 0 = M2 k 0 := by
                have h1 : ¬ M1 i 0 < M2 k 0 := fun h => hg ⟨hin, fun _ => h⟩
                have h2 : ¬ M2 k 0 < M1 i 0 := fun h => hc ⟨hkn, fun _ => h⟩
                omega
              obtain ⟨g, hgf, hgr⟩ := ids_both hf hin hkn hg hc
              have HG : Hid (l ++ [M1 i 0] ++ idsF M1 n1 M2 n2 g (i + 1) (k + 1) = idsF M1 n1 M2 n2 (n1 + n2) 0 0) := Lib.hid (by rw [List.append_assoc, List.singleton_append, ← hgr]; exact HL.out)
              have dk : ((k : Int) == (n2 : Int)) = false := by simpa using (by omega : ¬ (k : Int) = n2)
              clear hgr hg hc
              obtain ⟨bA, oA, rfl, hlawr, hcA⟩ := HR1'.out (by omega)
              have awr : wr.cell? ⟨bA, oA + i * 11, none⟩ = some (.int .i64 (M1 i 0)) := hcA i hin 0 (by decide)
              clear hcA
              obtain ⟨bB, oB, rfl, hlbwr, hcB⟩ := HR2'.out (by omega)
              have bwr : wr.cell? ⟨bB, oB + k * 11, none⟩ = some (.int .i64 (M2 k 0)) := hcB k hkn 0 (by decide)
              clear hcB
              rw [← heq] at bwr
              clear heq
              as_aux_lemma =>
                have hmc := more_cell
                go_wp2_with fail
                refine region_quiet_all (by kernel_rfl) (by kernel_rfl) ?_
                repeat (go_big_quiet_step (fail))
                refine wpQuiet_nil ?_
                rintro w4 hw4
                have hbw4 := after_below hw4
                clear hw4
                have aw4 := (hbw4.cell (p := ⟨bA, oA + i * 11, none⟩) hlawr).trans awr
                have hlaw4 := Nat.lt_of_lt_of_le hlawr hbw4.size
                have bw4 := (hbw4.cell (p := ⟨bB, oB + k * 11, none⟩) hlbwr).trans bwr
                have hlbw4 := Nat.lt_of_lt_of_le hlbwr hbw4.size
                have HOw4 := Lib.hid (row_below HOwr.out hbw4)
                have HMw4 := Lib.hid (ext_below HMwr.out hbw4)
                have HBSw4 := Lib.hid (Nat.le_trans HBSwr.out hbw4.size)
                clear hbw4 HOwr HMwr HBSwr awr hlawr bwr hlbwr
                go_wp2_with fail
                refine region_quiet_all (by kernel_rfl) (by kernel_rfl) ?_
                repeat (go_big_quiet_step (fail))
                refine wpQuiet_nil ?_
                rintro w5 hw5
                have hbw5 := after_below hw5
                clear hw5
                have aw5 := (hbw5.cell (p := ⟨bA, oA + i * 11, none⟩) hlaw4).trans aw4
                have hlaw5 := Nat.lt_of_lt_of_le hlaw4 hbw5.size
                have bw5 := (hbw5.cell (p := ⟨bB, oB + k * 11, none⟩) hlbw4).trans bw4
                have hlbw5 := Nat.lt_of_lt_of_le hlbw4 hbw5.size
                have HOw5 := Lib.hid (row_below HOw4.out hbw5)
                have HMw5 := Lib.hid (ext_below HMw4.out hbw5)
                have HBSw5 := Lib.hid (Nat.le_trans HBSw4.out hbw5.size)
                clear hbw5 HOw4 HMw4 HBSw4 aw4 hlaw4 bw4 hlbw4
                clear hmc
                go_wp2_with (at_builtin; go_must (refine app_one rfl (.tmp 83) (.tmp 89) 71 rfl Try.underlying71 intInfo rfl (by decide) (by decide) w3.heap.size (.slice SA l.length SC) l.length (i64s l) rfl HOw5.out #[.int .i64 (M1 i 0)] rfl (by simp) rfl (one_int _ _) (by omega) HBSw5.out ?_; intro g' c w8 hown hmod hwh hbg; have HO8 := Lib.hid hown; have HM8 := Lib.hid hmod; clear hown hmod hwh hbg))
                go_roundw
                case rel => exact ⟨i + 1, k + 1, g, l ++ [M1 i 0], some ⟨g', 0, none⟩, c, by omega, by omega, by go_num, by go_num, by simp, hgf, HG.out, by simp; omega, by rw [i64s_snoc, List.length_append]; exact HO8.out, HMw5.out.trans (HM8.out.toBelow HMw5.out.size (fun b hb e => by have := (row_lt HOw5.out e).2; omega))⟩
                case measure => simp [intOf]; omega
            · have hkn : ¬ k < n2 := fun h => hc ⟨h, fun h' => absurd h' hin⟩
              have HD : Hid (l = idsF M1 n1 M2 n2 (n1 + n2) 0 0) := Lib.hid (by rw [← HL.out, ids_end hin hkn, List.append_nil])
              clear hg hc
              have hBw := hB3.trans (HMwr.out.mono hB3.size)
              have P4 : Blk wr p #[.slice none 0 0] := P3.below HMwr.out
              obtain ⟨S, hS⟩ : ∃ S : Nat → Prop, S = fun b => b < wr.heap.size ∧ b ≠ p := ⟨_, rfl⟩
              have R0 : Rk S wr p [] := ⟨.slice none 0 0, ⟨P4, ⟨by simp [u8s], .inl ⟨rfl, rfl⟩⟩, by simp [Value.ownBlock], Bin.nil, by simp⟩, fun b hb => by rw [hS] at hb; exact ⟨hb.2, by simp [Value.ownBlock], hb.1⟩⟩
              have HIDS : Hid (∀ c x, l[c]? = some x → ∃ g, SA = some ⟨g, 0, none⟩ ∧ g < wr.heap.size ∧ S g ∧ wr.cell? ⟨g, c, none⟩ = some (.int .i64 x)) := Lib.hid (fun c x hx => by
                have hl0 : 0 < l.length := by have := (List.getElem?_eq_some_iff.1 hx).1; omega
                obtain ⟨g, cap, e, hb, hlt, _⟩ := row_at HOwr.out hl0
                cases e
                have hc := row_cells HOwr.out c _ (i64s_get hx)
                refine ⟨g, rfl, hlt, by rw [hS]; exact ⟨hlt, fun e => by have := P3.lt; omega⟩, ?_⟩
                have e1 : (⟨g, 0, none⟩ : Addr).add c = ⟨g, c, none⟩ := by
                  unfold Addr.add
                  split
                  · rename_i h; subst h; rfl
                  · simp
                rw [e1] at hc
                exact hc)
              have HSL : Hid (∀ b, b < w.heap.size → S b) := Lib.hid (fun b hb => by rw [hS]; exact ⟨Nat.lt_of_lt_of_le hb hBw.size, by have := HWP.out; omega⟩)
              have HRS := Lib.hid (ids_rises HY1.out HY2.out)
              have hll2 : l.length ≤ 200 := by omega
              have hm0 : Mod (fun b => ¬ S b) wr wr := Mod.refl _ _
              obtain ⟨wv, hwv⟩ : ∃ wv : World, wv = wr := ⟨_, rfl⟩
              rw [← hwv] at R0 hm0 HIDS hBw
              rw [← hwv]
              have HBE : Hid (∀ wx, Mod (fun b => ¬ S b) wv wx → Below w.heap.size w wx) := Lib.hid (fun wx hm => hBw.trans (hm.toBelow hBw.size (fun b hb e => e (HSL.out b hb))))
              have HST : Hid (restR M1 n1 M2 n2 l 0 = deltaL M1 n1 M2 n2 ∧ Rises 0 l) := Lib.hid (by rw [HD.out]; exact ⟨deltaL_ids HY1.out HY2.out, HRS.out⟩)
              clear hS P4 hBw HOwr HMwr HBSwr HR1' HR2' HD HL HRS hwv
              go_wp2
              go_loopw [12, 105] (fun tl tc wx => ∃ (c : Nat) (last : Int) (L : List Nat), c ≤ l.length ∧ tc = .int .i64 c ∧ tl = .int .i64 last ∧ L ++ restR M1 n1 M2 n2 (l.drop c) last = deltaL M1 n1 M2 n2 ∧ 0 ≤ last ∧ Rises last (l.drop c) ∧ L.length ≤ c * 1000 ∧ Rk S wx p L ∧ Mod (fun b => ¬ S b) wv wx) (fun _ tc _ => l.length - (intOf tc).toNat)
              case atStart => exact ⟨0, 0, [], by omega, rfl, rfl, by simpa using HST.out.1, by omega, by simpa using HST.out.2, by simp, R0, hm0⟩
              case round =>
                obtain ⟨c, last, L, hc, rfl, rfl, hL, hl0, hri, hlen, hW, hM⟩ := hrel
                have HL := Lib.hid hL
                have HRI := Lib.hid hri
                have HW := Lib.hid hW
                have HM := Lib.hid hM
                clear hL hri hW hM R0 hm0
                by_cases hct : c < l.length
                · obtain ⟨x, hxe⟩ : ∃ x, x = l[c] := ⟨_, rfl⟩
                  have hdr : l.drop c = x :: l.drop (c + 1) := by rw [hxe]; exact List.drop_eq_getElem_cons hct
                  have hxi : l[c]? = some x := by rw [hxe]; exact List.getElem?_eq_getElem hct
                  obtain ⟨g0, rfl, hg0, hsg, hcx⟩ := HIDS.out c x hxi
                  have q0 : wr.cell? ⟨g0, c, none⟩ = some (.int .i64 x) := (HM.out.cell (b := g0) (o := c) hg0 (fun h => h hsg)).trans hcx
                  have HXX : Hid (last < x ∧ x ≤ 1099511627776 ∧ Rises x (l.drop (c + 1))) := Lib.hid (by have := HRI.out; rw [hdr] at this; exact this)
                  have HLX : Hid (L ++ restR M1 n1 M2 n2 (x :: l.drop (c + 1)) last = deltaL M1 n1 M2 n2) := Lib.hid (by rw [← hdr]; exact HL.out)
                  have HBr := HBE.out _ HM.out
                  have HR1' := Lib.hid (HR1.out.below HBr)
                  have HR2' := Lib.hid (HR2.out.below HBr)
                  clear hxe hdr hxi hg0 hsg hcx HRI HL HIDS HBr
                  go_wp2_with fail
                  refine (look_k n1 A1 cap1 M1 x _ (by omega) HR1'.out).mono ?_
                  rintro e w4 ⟨h4, hb4⟩
                  have HW4 := Lib.hid (HW.out.below hb4)
                  have HM4 := Lib.hid (HM.out.below hb4)
                  have HR4 := Lib.hid (HR2'.out.below hb4)
                  clear HR1' HR2' HW HM q0 hb4
                  obtain ⟨r1, hr1, b1, hb1, rfl⟩ : ∃ r1 : Nat → Int, (∀ i, rowOf M1 n1 x = some i → ∀ j, r1 j = M1 i j) ∧ ∃ b1 : Bool, (b1 = true ↔ ∃ i, rowOf M1 n1 x = some i) ∧ e = .returned (.tuple #[.agg #[.int .i64 (r1 0), .int .i64 (r1 1), .int .i64 (r1 2), .int .i64 (r1 3), .int .i64 (r1 4), .int .i64 (r1 5), .int .i64 (r1 6), .int .i64 (r1 7), .int .i64 (r1 8), .int .i64 (r1 9), .int .i64 (r1 10)], .bool b1]) := by
                    rcases h4 with ⟨i1, h1, rfl⟩ | ⟨h1, rfl⟩
                    · exact ⟨fun j => M1 i1 j, (fun i h j => by rw [h1] at h; cases h; rfl), true, ⟨fun _ => ⟨i1, h1⟩, fun _ => rfl⟩, rfl⟩
                    · exact ⟨fun _ => 0, (fun i h => by rw [h1] at h; cases h), false, ⟨(fun h => by cases h), (fun ⟨i, h⟩ => by rw [h1] at h; cases h)⟩, rfl⟩
                  go_wp2_with fail
                  refine calls_fresh ?_
                  rintro w5 hb5
                  have A5 : Blk w5 w4.heap.size #[.int .i64 (r1 0), .int .i64 (r1 1), .int .i64 (r1 2), .int .i64 (r1 3), .int .i64 (r1 4), .int .i64 (r1 5), .int .i64 (r1 6), .int .i64 (r1 7), .int .i64 (r1 8), .int .i64 (r1 9), .int .i64 (r1 10)] := Blk.below (by repeat (with_reducible (first | assumption | (apply Blk.at; simp; done) | apply Blk.alloc | apply Blk.drew | apply Blk.drewN | apply Blk.more | apply Blk.put | (apply Blk.far; focus (first | assumption | (apply Ne.symm; assumption) | (simp; done) | (simp <;> omega)))))) hb5
                  have hv5 : Below w4.heap.size w4 w5 := (by repeat (with_reducible (first | exact Below.refl _ _ | assumption | apply ext_drew | apply ext_drewN | apply ext_alloc | apply ext_more | (refine ext_setCell ?_ (by first | assumption | (simp <;> omega)) _) | (refine ext_below ?_ (by assumption)))))
                  have HR5 := Lib.hid (HR4.out.below hv5)
                  clear hb5 HR4
                  refine (look_k n2 A2 cap2 M2 x _ (by omega) HR5.out).mono ?_
                  rintro e w6 ⟨h6, hb6⟩
                  have A6 := A5.below hb6
                  have hv6 : Below w4.heap.size w4 w6 := hv5.trans (hb6.mono hv5.size)
                  clear HR5 A5 hb6 hv5
                  rcases h6 with ⟨k1, hk1, rfl⟩ | ⟨hk1, rfl⟩
                  · have HROW : Hid (M2 k1 0 = x ∧ k1 < n2) := Lib.hid (by obtain ⟨a, _, b⟩ := rowF_some hk1; exact ⟨a, by omega⟩)
                    have HK : Hid (∀ j, 2 ≤ j → j < 11 → In40 (M2 k1 j)) := Lib.hid ((HY2.out.row HROW.out.2).2)
                    have HKK : Hid (0 ≤ M2 k1 1 ∧ M2 k1 1 ≤ 7) := Lib.hid (HY2.out.row HROW.out.2).1.2.2
                    cases b1 with
                    | false =>
                      have HN : Hid (rowOf M1 n1 x = none) := Lib.hid (by
                        cases h : rowOf M1 n1 x with
                        | none => rfl
                        | some i => exact absurd (hb1.2 ⟨i, h⟩) (by simp))
                      have HFIN : Hid (L ++ (headL 1 x last ++ newL M2 k1) ++ restR M1 n1 M2 n2 (l.drop (c + 1)) x = deltaL M1 n1 M2 n2) := Lib.hid (by rw [← HLX.out, restR_new HN.out hk1]; simp only [List.append_assoc])
                      obtain ⟨z6, c6, f6⟩ := id A6
                      clear hb1 hr1 hk1 HN HLX
                      go_wp2_with fail
                      refine calls_fresh ?_
                      rintro w7 hb7
                      have B7 : Blk w7 w6.heap.size #[.int .i64 (M2 k1 0), .int .i64 (M2 k1 1), .int .i64 (M2 k1 2), .int .i64 (M2 k1 3), .int .i64 (M2 k1 4), .int .i64 (M2 k1 5), .int .i64 (M2 k1 6), .int .i64 (M2 k1 7), .int .i64 (M2 k1 8), .int .i64 (M2 k1 9), .int .i64 (M2 k1 10)] := Blk.below (by repeat (with_reducible (first | assumption | (apply Blk.at; simp; done) | apply Blk.alloc | apply Blk.drew | apply Blk.drewN | apply Blk.more | apply Blk.put | (apply Blk.far; focus (first | assumption | (apply Ne.symm; assumption) | (simp; done) | (simp <;> omega)))))) hb7
                      have hv7' : Below w6.heap.size w6 w7 := (by repeat (with_reducible (first | exact Below.refl _ _ | assumption | apply ext_drew | apply ext_drewN | apply ext_alloc | apply ext_more | (refine ext_setCell ?_ (by first | assumption | (simp <;> omega)) _) | (refine ext_below ?_ (by assumption)))))
                      have A7 := A6.below hv7'
                      have hv7 : Below w4.heap.size w4 w7 := hv6.trans (hv7'.mono hv6.size)
                      obtain ⟨S1, hS1⟩ : ∃ S1 : Nat → Prop, S1 = fun b => S b ∨ (w4.heap.size ≤ b ∧ b < w7.heap.size) := ⟨_, rfl⟩
                      have H7 : Rk S1 w7 p L := by rw [hS1]; exact HW4.out.fresh hv7
                      have HSB : Hid (∀ b, S b → S1 b) := Lib.hid (fun b hb => by rw [hS1]; exact .inl hb)
                      have HC : Hid (S1 w4.heap.size ∧ S1 w6.heap.size) := Lib.hid (by have := A7.lt; have := B7.lt; have := hv6.size; rw [hS1]; exact ⟨.inr ⟨by omega, by omega⟩, .inr ⟨by omega, by omega⟩⟩)
                      have HM7 : Hid (Mod (fun b => ¬ S b) wv w7) := Lib.hid (HM4.out.below hv7)
                      obtain ⟨u1, hu1⟩ : ∃ u, u = w4.heap.size := ⟨_, rfl⟩
                      obtain ⟨u2, hu2⟩ : ∃ u, u = w6.heap.size := ⟨_, rfl⟩
                      rw [← hu1, ← hu2] at HC
                      rw [← hu1] at A7
                      rw [← hu2] at B7
                      try rw [← hu1]
                      try rw [← hu2]
                      clear hS1 hb7 hv7 hv7' hv6 HW4 HM4 A6 z6 c6 f6 hu1 hu2
                      obtain ⟨za, ca, fa⟩ := id A7
                      obtain ⟨zb, cb, fb⟩ := id B7
                      have hl7 : L.length ≤ c * 1000 + 0 := hlen
                      as_aux_lemma =>
                        refine (rput_k S1 p (L) w7 _ _ 1 2 H7 rfl rfl (by decide) (by unfold Lt63; decide) (by omega)).mono ?_
                        rintro e w8 ⟨rfl, H8, hm8⟩
                        have hl8 : (L ++ bitsOf 2 1).length ≤ c * 1000 + 2 := by rw [List.length_append]; have := bitsOf_length 2 1; omega
                        have A8 := A7.mod hm8 (fun h => h HC.out.1)
                        have B8 := B7.mod hm8 (fun h => h HC.out.2)
                        have HX8 := Lib.hid hm8
                        clear hm8 H7 A7 B7 za ca fa zb cb fb hl7
                        obtain ⟨za, ca, fa⟩ := id A8
                        obtain ⟨zb, cb, fb⟩ := id B8
                        have hx1 := HXX.out.1
                        have hx2 := HXX.out.2.1
                        go_wp2_with fail
                        refine (rvar_k S1 p (L ++ bitsOf 2 1) w8 _ (x - last - 1).toNat H8 (by have := HXX.out.1; omega) (by unfold Lt62; have := HXX.out.1; have := HXX.out.2.1; omega) (by omega)).mono ?_
                        rintro e w9 ⟨rfl, H9, hm9⟩
                        have hl9 : (L ++ bitsOf 2 1 ++ varL (x - last - 1).toNat).length ≤ c * 1000 + 80 := by rw [List.length_append]; have := varL_le (x - last - 1).toNat; omega
                        have A9 := A8.mod hm9 (fun h => h HC.out.1)
                        have B9 := B8.mod hm9 (fun h => h HC.out.2)
                        have HX9 := Lib.hid hm9
                        clear hm9 H8 A8 B8 za ca fa zb cb fb hl8
                        obtain ⟨za, ca, fa⟩ := id A9
                        obtain ⟨zb, cb, fb⟩ := id B9
                        clear hx1 hx2
                        go_wp2_with fail
                        refine (rput_k S1 p (L ++ bitsOf 2 1 ++ varL (x - last - 1).toNat) w9 _ _ ((M2 k1 1).toNat) 3 H9 (by have := HKK.out; omega) rfl (by decide) (by unfold Lt63; have := HKK.out; omega) (by omega)).mono ?_
                        rintro e w10 ⟨rfl, H10, hm10⟩
                        have hl10 : (L ++ bitsOf 2 1 ++ varL (x - last - 1).toNat ++ bitsOf 3 ((M2 k1 1).toNat)).length ≤ c * 1000 + 83 := by rw [List.length_append]; have := bitsOf_length 3 ((M2 k1 1).toNat); omega
                        have A10 := A9.mod hm10 (fun h => h HC.out.1)
                        have B10 := B9.mod hm10 (fun h => h HC.out.2)
                        have HX10 := Lib.hid hm10
                        clear hm10 H9 A9 B9 za ca fa zb cb fb hl9
                        obtain ⟨za, ca, fa⟩ := id A10
                        obtain ⟨zb, cb, fb⟩ := id B10
                        go_wp2_with fail
                        refine (rvec_k S1 p (L ++ bitsOf 2 1 ++ varL (x - last - 1).toNat ++ bitsOf 3 ((M2 k1 1).toNat)) (M2 k1 2) (M2 k1 3) (M2 k1 4) 0 0 0 w10 H10 (HK.out 2 (by decide) (by decide)) (HK.out 3 (by decide) (by decide)) (HK.out 4 (by decide) (by decide)) (by unfold In40; decide) (by unfold In40; decide) (by unfold In40; decide) (by omega)).mono ?_
                        rintro e w11 ⟨rfl, H11, hm11⟩
                        have hl11 : (L ++ bitsOf 2 1 ++ varL (x - last - 1).toNat ++ bitsOf 3 ((M2 k1 1).toNat) ++ vec3L ((M2 k1 2) - 0) ((M2 k1 3) - 0) ((M2 k1 4) - 0)).length ≤ c * 1000 + 317 := by rw [List.length_append]; have := vec3L_le ((M2 k1 2) - 0) ((M2 k1 3) - 0) ((M2 k1 4) - 0); omega
                        have A11 := A10.mod hm11 (fun h => h HC.out.1)
                        have B11 := B10.mod hm11 (fun h => h HC.out.2)
                        have HX11 := Lib.hid hm11
                        clear hm11 H10 A10 B10 za ca fa zb cb fb hl10
                        obtain ⟨za, ca, fa⟩ := id A11
                        obtain ⟨zb, cb, fb⟩ := id B11
                        go_wp2_with fail
                        refine (rvec_k S1 p (L ++ bitsOf 2 1 ++ varL (x - last - 1).toNat ++ bitsOf 3 ((M2 k1 1).toNat) ++ vec3L ((M2 k1 2) - 0) ((M2 k1 3) - 0) ((M2 k1 4) - 0)) (M2 k1 5) (M2 k1 6) (M2 k1 7) 0 0 0 w11 H11 (HK.out 5 (by decide) (by decide)) (HK.out 6 (by decide) (by decide)) (HK.out 7 (by decide) (by decide)) (by unfold In40; decide) (by unfold In40; decide) (by unfold In40; decide) (by omega)).mono ?_
                        rintro e w12 ⟨rfl, H12, hm12⟩
                        have hl12 : (L ++ bitsOf 2 1 ++ varL (x - last - 1).toNat ++ bitsOf 3 ((M2 k1 1).toNat) ++ vec3L ((M2 k1 2) - 0) ((M2 k1 3) - 0) ((M2 k1 4) - 0) ++ vec3L ((M2 k1 5) - 0) ((M2 k1 6) - 0) ((M2 k1 7) - 0)).length ≤ c * 1000 + 551 := by rw [List.length_append]; have := vec3L_le ((M2 k1 5) - 0) ((M2 k1 6) - 0) ((M2 k1 7) - 0); omega
                        have A12 := A11.mod hm12 (fun h => h HC.out.1)
                        have B12 := B11.mod hm12 (fun h => h HC.out.2)
                        have HX12 := Lib.hid hm12
                        clear hm12 H11 A11 B11 za ca fa zb cb fb hl11
                        obtain ⟨za, ca, fa⟩ := id A12
                        obtain ⟨zb, cb, fb⟩ := id B12
                        go_wp2_with fail
                        refine (rvec_k S1 p (L ++ bitsOf 2 1 ++ varL (x - last - 1).toNat ++ bitsOf 3 ((M2 k1 1).toNat) ++ vec3L ((M2 k1 2) - 0) ((M2 k1 3) - 0) ((M2 k1 4) - 0) ++ vec3L ((M2 k1 5) - 0) ((M2 k1 6) - 0) ((M2 k1 7) - 0)) (M2 k1 8) (M2 k1 9) (M2 k1 10) 0 0 0 w12 H12 (HK.out 8 (by decide) (by decide)) (HK.out 9 (by decide) (by decide)) (HK.out 10 (by decide) (by decide)) (by unfold In40; decide) (by unfold In40; decide) (by unfold In40; decide) (by omega)).mono ?_
                        rintro e w13 ⟨rfl, H13, hm13⟩
                        have hl13 : (L ++ bitsOf 2 1 ++ varL (x - last - 1).toNat ++ bitsOf 3 ((M2 k1 1).toNat) ++ vec3L ((M2 k1 2) - 0) ((M2 k1 3) - 0) ((M2 k1 4) - 0) ++ vec3L ((M2 k1 5) - 0) ((M2 k1 6) - 0) ((M2 k1 7) - 0) ++ vec3L ((M2 k1 8) - 0) ((M2 k1 9) - 0) ((M2 k1 10) - 0)).length ≤ c * 1000 + 785 := by rw [List.length_append]; have := vec3L_le ((M2 k1 8) - 0) ((M2 k1 9) - 0) ((M2 k1 10) - 0); omega
                        have A13 := A12.mod hm13 (fun h => h HC.out.1)
                        have B13 := B12.mod hm13 (fun h => h HC.out.2)
                        have HX13 := Lib.hid hm13
                        clear hm13 H12 A12 B12 za ca fa zb cb fb hl12
                        obtain ⟨za, ca, fa⟩ := id A13
                        obtain ⟨zb, cb, fb⟩ := id B13
                        go_wp2
                        clear za ca fa zb cb fb A13 B13
                        go_roundw
                        case rel =>
                          have e : L ++ bitsOf 2 1 ++ varL (x - last - 1).toNat ++ bitsOf 3 ((M2 k1 1).toNat) ++ vec3L ((M2 k1 2) - 0) ((M2 k1 3) - 0) ((M2 k1 4) - 0) ++ vec3L ((M2 k1 5) - 0) ((M2 k1 6) - 0) ((M2 k1 7) - 0) ++ vec3L ((M2 k1 8) - 0) ((M2 k1 9) - 0) ((M2 k1 10) - 0) = L ++ (headL 1 x last ++ newL M2 k1) := by
                            unfold headL newL
                            simp only [Int.sub_zero, List.append_assoc]
                          rw [e] at H13 hl13
                          exact ⟨c + 1, x, _, by omega, by go_num, by go_num, HFIN.out, by have := HXX.out; omega, HXX.out.2.2, by omega, H13.mono HSB.out, HM7.out.trans ((((((HX8.out.trans HX9.out).trans HX10.out).trans HX11.out).trans HX12.out).trans HX13.out).mono fun b _ h hb => h (HSB.out b hb))⟩
                        case measure => simp [intOf]; omega
                    | true =>
                      obtain ⟨i1, hi1⟩ := hb1.1 rfl
                      have hrr := hr1 i1 hi1
                      simp only [hrr] at A6
                      simp only [hrr]
                      have HRO : Hid (M1 i1 0 = x ∧ i1 < n1) := Lib.hid (by obtain ⟨a, _, b⟩ := rowF_some hi1; exact ⟨a, by omega⟩)
                      have HI : Hid (∀ j, 2 ≤ j → j < 11 → In40 (M1 i1 j)) := Lib.hid ((HY1.out.row HRO.out.2).2)
                      have hE := fun w => run_eql_seenR (M1 i1 0) (M1 i1 1) (M1 i1 2) (M1 i1 3) (M1 i1 4) (M1 i1 5) (M1 i1 6) (M1 i1 7) (M1 i1 8) (M1 i1 9) (M1 i1 10) (M2 k1 0) (M2 k1 1) (M2 k1 2) (M2 k1 3) (M2 k1 4) (M2 k1 5) (M2 k1 6) (M2 k1 7) (M2 k1 8) (M2 k1 9) (M2 k1 10) w
                      obtain ⟨sE, hsE⟩ : ∃ b : Bool, same11 M1 i1 M2 k1 = b := ⟨_, rfl⟩
                      have hes : (M1 i1 0 == M2 k1 0 && M1 i1 1 == M2 k1 1 && eq3 (M1 i1 2) (M1 i1 3) (M1 i1 4) (M2 k1 2) (M2 k1 3) (M2 k1 4) && eq3 (M1 i1 5) (M1 i1 6) (M1 i1 7) (M2 k1 5) (M2 k1 6) (M2 k1 7) && eq3 (M1 i1 8) (M1 i1 9) (M1 i1 10) (M2 k1 8) (M2 k1 9) (M2 k1 10)) = sE := by
                        rw [← hsE, HRO.out.1, HROW.out.1]
                        unfold same11 neS ne3 eq3
                        simp only [beq_self_eq_true, Bool.true_and, Bool.not_or, Bool.not_not]
                        cases (M1 i1 1 == M2 k1 1) <;> simp
                      rw [hes] at hE
                      have HSE : Hid (same11 M1 i1 M2 k1 = sE) := Lib.hid hsE
                      obtain ⟨z6, c6, f6⟩ := id A6
                      clear hes hsE hrr hr1 hb1
                      cases sE with
                      | true =>
                        have HFIN : Hid (L ++ restR M1 n1 M2 n2 (l.drop (c + 1)) last = deltaL M1 n1 M2 n2) := Lib.hid (by rw [← HLX.out, restR_same hi1 hk1 HSE.out])
                        clear hi1 hk1 HLX HRO HROW
                        go_wp2
                        clear z6 c6 f6 A6
                        go_roundw
                        case rel =>
                          refine ⟨c + 1, last, L, by omega, by go_num, rfl, HFIN.out, hl0, Rises.le (by have := HXX.out.1; omega) HXX.out.2.2, by omega, HW4.out.below ?_, HM4.out.below ?_⟩
                          · exact ext_alloc hv6 _
                          · exact ext_alloc hv6 _
                        case measure => simp [intOf]; omega
                      | false =>
                        have HFIN : Hid (L ++ (headL 2 x last ++ changeL M1 i1 M2 k1) ++ restR M1 n1 M2 n2 (l.drop (c + 1)) x = deltaL M1 n1 M2 n2) := Lib.hid (by rw [← HLX.out, restR_other hi1 hk1 HSE.out]; simp only [List.append_assoc])
                        clear hi1 hk1 HLX HRO HROW
                        go_wp2_with fail
                        refine calls_fresh ?_
                        rintro w7 hb7
                        have B7 : Blk w7 w6.heap.size #[.int .i64 (M2 k1 0), .int .i64 (M2 k1 1), .int .i64 (M2 k1 2), .int .i64 (M2 k1 3), .int .i64 (M2 k1 4), .int .i64 (M2 k1 5), .int .i64 (M2 k1 6), .int .i64 (M2 k1 7), .int .i64 (M2 k1 8), .int .i64 (M2 k1 9), .int .i64 (M2 k1 10)] := Blk.below (by repeat (with_reducible (first | assumption | (apply Blk.at; simp; done) | apply Blk.alloc | apply Blk.drew | apply Blk.drewN | apply Blk.more | apply Blk.put | (apply Blk.far; focus (first | assumption | (apply Ne.symm; assumption) | (simp; done) | (simp <;> omega)))))) hb7
                        have hv7' : Below w6.heap.size w6 w7 := (by repeat (with_reducible (first | exact Below.refl _ _ | assumption | apply ext_drew | apply ext_drewN | apply ext_alloc | apply ext_more | (refine ext_setCell ?_ (by first | assumption | (simp <;> omega)) _) | (refine ext_below ?_ (by assumption)))))
                        have A7 := A6.below hv7'
                        have hv7 : Below w4.heap.size w4 w7 := hv6.trans (hv7'.mono hv6.size)
                        obtain ⟨S1, hS1⟩ : ∃ S1 : Nat → Prop, S1 = fun b => S b ∨ (w4.heap.size ≤ b ∧ b < w7.heap.size) := ⟨_, rfl⟩
                        have H7 : Rk S1 w7 p L := by rw [hS1]; exact HW4.out.fresh hv7
                        have HSB : Hid (∀ b, S b → S1 b) := Lib.hid (fun b hb => by rw [hS1]; exact .inl hb)
                        have HC : Hid (S1 w4.heap.size ∧ S1 w6.heap.size) := Lib.hid (by have := A7.lt; have := B7.lt; have := hv6.size; rw [hS1]; exact ⟨.inr ⟨by omega, by omega⟩, .inr ⟨by omega, by omega⟩⟩)
                        have HM7 : Hid (Mod (fun b => ¬ S b) wv w7) := Lib.hid (HM4.out.below hv7)
                        obtain ⟨u1, hu1⟩ : ∃ u, u = w4.heap.size := ⟨_, rfl⟩
                        obtain ⟨u2, hu2⟩ : ∃ u, u = w6.heap.size := ⟨_, rfl⟩
                        rw [← hu1, ← hu2] at HC
                        rw [← hu1] at A7
                        rw [← hu2] at B7
                        try rw [← hu1]
                        try rw [← hu2]
                        clear hS1 hb7 hv7 hv7' hv6 HW4 HM4 A6 z6 c6 f6 hu1 hu2
                        obtain ⟨za, ca, fa⟩ := id A7
                        obtain ⟨zb, cb, fb⟩ := id B7
                        have hl7 : L.length ≤ c * 1000 + 0 := hlen
                        refine (rput_k S1 p (L) w7 _ _ 2 2 H7 rfl rfl (by decide) (by unfold Lt63; decide) (by omega)).mono ?_
                        rintro e w8 ⟨rfl, H8, hm8⟩
                        have hl8 : (L ++ bitsOf 2 2).length ≤ c * 1000 + 2 := by rw [List.length_append]; have := bitsOf_length 2 2; omega
                        have A8 := A7.mod hm8 (fun h => h HC.out.1)
                        have B8 := B7.mod hm8 (fun h => h HC.out.2)
                        have HX8 := Lib.hid hm8
                        clear hm8 H7 A7 B7 za ca fa zb cb fb hl7
                        obtain ⟨za, ca, fa⟩ := id A8
                        obtain ⟨zb, cb, fb⟩ := id B8
                        have hx1 := HXX.out.1
                        have hx2 := HXX.out.2.1
                        go_wp2_with fail
                        refine (rvar_k S1 p (L ++ bitsOf 2 2) w8 _ (x - last - 1).toNat H8 (by have := HXX.out.1; omega) (by unfold Lt62; have := HXX.out.1; have := HXX.out.2.1; omega) (by omega)).mono ?_
                        rintro e w9 ⟨rfl, H9, hm9⟩
                        have hl9 : (L ++ bitsOf 2 2 ++ varL (x - last - 1).toNat).length ≤ c * 1000 + 80 := by rw [List.length_append]; have := varL_le (x - last - 1).toNat; omega
                        have A9 := A8.mod hm9 (fun h => h HC.out.1)
                        have B9 := B8.mod hm9 (fun h => h HC.out.2)
                        have HX9 := Lib.hid hm9
                        clear hm9 H8 A8 B8 za ca fa zb cb fb hl8
                        obtain ⟨za, ca, fa⟩ := id A9
                        obtain ⟨zb, cb, fb⟩ := id B9
                        clear hx1 hx2
                        obtain ⟨sS, hsS⟩ : ∃ b : Bool, (!(eq3 (M1 i1 2) (M1 i1 3) (M1 i1 4) (M2 k1 2) (M2 k1 3) (M2 k1 4))) = b := ⟨_, rfl⟩
                        obtain ⟨sA, hsA⟩ : ∃ b : Bool, (!(eq3 (M1 i1 5) (M1 i1 6) (M1 i1 7) (M2 k1 5) (M2 k1 6) (M2 k1 7))) = b := ⟨_, rfl⟩
                        obtain ⟨sV, hsV⟩ : ∃ b : Bool, (!(eq3 (M1 i1 8) (M1 i1 9) (M1 i1 10) (M2 k1 8) (M2 k1 9) (M2 k1 10))) = b := ⟨_, rfl⟩
                        obtain ⟨sK, hsK⟩ : ∃ b : Bool, (M1 i1 1 != M2 k1 1) = b := ⟨_, rfl⟩
                        have hnS := fun w => run_neq_vec (M1 i1 2) (M1 i1 3) (M1 i1 4) (M2 k1 2) (M2 k1 3) (M2 k1 4) w
                        have hnA := fun w => run_neq_vec (M1 i1 5) (M1 i1 6) (M1 i1 7) (M2 k1 5) (M2 k1 6) (M2 k1 7) w
                        have hnV := fun w => run_neq_vec (M1 i1 8) (M1 i1 9) (M1 i1 10) (M2 k1 8) (M2 k1 9) (M2 k1 10) w
                        rw [hsS] at hnS
                        rw [hsA] at hnA
                        rw [hsV] at hnV
                        have HSS : Hid (ne3 M1 i1 M2 k1 2 = sS) := Lib.hid hsS
                        have HSA : Hid (ne3 M1 i1 M2 k1 5 = sA) := Lib.hid hsA
                        have HSV : Hid (ne3 M1 i1 M2 k1 8 = sV) := Lib.hid hsV
                        have HSK : Hid ((!(M1 i1 1 == M2 k1 1)) = sK) := Lib.hid hsK
                        clear hsS hsA hsV
                        cases sS with
                        | true =>
                          cases sA with
                          | true =>
                            go_wp2_with fail
                            refine (ryes_k S1 p (L ++ bitsOf 2 2 ++ varL (x - last - 1).toNat) true w9 H9 (by omega)).mono ?_
                            rintro e w10 ⟨rfl, H10, hm10⟩
                            have hl10 : (L ++ bitsOf 2 2 ++ varL (x - last - 1).toNat ++ bit true).length ≤ c * 1000 + 81 := by rw [List.length_append]; have := bit_length true; omega
                            have A10 := A9.mod hm10 (fun h => h HC.out.1)
                            have B10 := B9.mod hm10 (fun h => h HC.out.2)
                            have HX10 := Lib.hid hm10
                            clear hm10 H9 A9 B9 za ca fa zb cb fb hl9
                            obtain ⟨za, ca, fa⟩ := id A10
                            obtain ⟨zb, cb, fb⟩ := id B10
                            go_wp2_with fail
                            refine (ryes_k S1 p (L ++ bitsOf 2 2 ++ varL (x - last - 1).toNat ++ bit true) true w10 H10 (by omega)).mono ?_
                            rintro e w11 ⟨rfl, H11, hm11⟩
                            have hl11 : (L ++ bitsOf 2 2 ++ varL (x - last - 1).toNat ++ bit true ++ bit true).length ≤ c * 1000 + 82 := by rw [List.length_append]; have := bit_length true; omega
                            have A11 := A10.mod hm11 (fun h => h HC.out.1)
                            have B11 := B10.mod hm11 (fun h => h HC.out.2)
                            have HX11 := Lib.hid hm11
                            clear hm11 H10 A10 B10 za ca fa zb cb fb hl10
                            obtain ⟨za, ca, fa⟩ := id A11
                            obtain ⟨zb, cb, fb⟩ := id B11
                            cases sV with
                            | true =>
                              as_aux_lemma =>
                                go_wp2_with fail
                                refine (ryes_k S1 p (L ++ bitsOf 2 2 ++ varL (x - last - 1).toNat ++ bit true ++ bit true) true w11 H11 (by omega)).mono ?_
                                rintro e w12 ⟨rfl, H12, hm12⟩
                                have hl12 : (L ++ bitsOf 2 2 ++ varL (x - last - 1).toNat ++ bit true ++ bit true ++ bit true).length ≤ c * 1000 + 83 := by rw [List.length_append]; have := bit_length true; omega
                                have A12 := A11.mod hm12 (fun h => h HC.out.1)
                                have B12 := B11.mod hm12 (fun h => h HC.out.2)
                                have HX12 := Lib.hid hm12
                                clear hm12 H11 A11 B11 za ca fa zb cb fb hl11
                                obtain ⟨za, ca, fa⟩ := id A12
                                obtain ⟨zb, cb, fb⟩ := id B12
                                go_wp2_with fail
                                refine (rput_k S1 p (L ++ bitsOf 2 2 ++ varL (x - last - 1).toNat ++ bit true ++ bit true ++ bit true) w12 _ _ ((M2 k1 1).toNat) 3 H12 (by have := HKK.out; omega) rfl (by decide) (by unfold Lt63; have := HKK.out; omega) (by omega)).mono ?_
                                rintro e w13 ⟨rfl, H13, hm13⟩
                                have hl13 : (L ++ bitsOf 2 2 ++ varL (x - last - 1).toNat ++ bit true ++ bit true ++ bit true ++ bitsOf 3 ((M2 k1 1).toNat)).length ≤ c * 1000 + 86 := by rw [List.length_append]; have := bitsOf_length 3 ((M2 k1 1).toNat); omega
                                have A13 := A12.mod hm13 (fun h => h HC.out.1)
                                have B13 := B12.mod hm13 (fun h => h HC.out.2)
                                have HX13 := Lib.hid hm13
                                clear hm13 H12 A12 B12 za ca fa zb cb fb hl12
                                obtain ⟨za, ca, fa⟩ := id A13
                                obtain ⟨zb, cb, fb⟩ := id B13
                                go_wp2_with fail
                                refine (rvec_k S1 p (L ++ bitsOf 2 2 ++ varL (x - last - 1).toNat ++ bit true ++ bit true ++ bit true ++ bitsOf 3 ((M2 k1 1).toNat)) (M2 k1 2) (M2 k1 3) (M2 k1 4) (M1 i1 2) (M1 i1 3) (M1 i1 4) w13 H13 (HK.out 2 (by decide) (by decide)) (HK.out 3 (by decide) (by decide)) (HK.out 4 (by decide) (by decide)) (HI.out 2 (by decide) (by decide)) (HI.out 3 (by decide) (by decide)) (HI.out 4 (by decide) (by decide)) (by omega)).mono ?_
                                rintro e w14 ⟨rfl, H14, hm14⟩
                                have hl14 : (L ++ bitsOf 2 2 ++ varL (x - last - 1).toNat ++ bit true ++ bit true ++ bit true ++ bitsOf 3 ((M2 k1 1).toNat) ++ vec3L ((M2 k1 2) - (M1 i1 2)) ((M2 k1 3) - (M1 i1 3)) ((M2 k1 4) - (M1 i1 4))).length ≤ c * 1000 + 320 := by rw [List.length_append]; have := vec3L_le ((M2 k1 2) - (M1 i1 2)) ((M2 k1 3) - (M1 i1 3)) ((M2 k1 4) - (M1 i1 4)); omega
                                have A14 := A13.mod hm14 (fun h => h HC.out.1)
                                have B14 := B13.mod hm14 (fun h => h HC.out.2)
                                have HX14 := Lib.hid hm14
                                clear hm14 H13 A13 B13 za ca fa zb cb fb hl13
                                obtain ⟨za, ca, fa⟩ := id A14
                                obtain ⟨zb, cb, fb⟩ := id B14
                                go_wp2_with fail
                                refine (rvec_k S1 p (L ++ bitsOf 2 2 ++ varL (x - last - 1).toNat ++ bit true ++ bit true ++ bit true ++ bitsOf 3 ((M2 k1 1).toNat) ++ vec3L ((M2 k1 2) - (M1 i1 2)) ((M2 k1 3) - (M1 i1 3)) ((M2 k1 4) - (M1 i1 4))) (M2 k1 5) (M2 k1 6) (M2 k1 7) (M1 i1 5) (M1 i1 6) (M1 i1 7) w14 H14 (HK.out 5 (by decide) (by decide)) (HK.out 6 (by decide) (by decide)) (HK.out 7 (by decide) (by decide)) (HI.out 5 (by decide) (by decide)) (HI.out 6 (by decide) (by decide)) (HI.out 7 (by decide) (by decide)) (by omega)).mono ?_
                                rintro e w15 ⟨rfl, H15, hm15⟩
                                have hl15 : (L ++ bitsOf 2 2 ++ varL (x - last - 1).toNat ++ bit true ++ bit true ++ bit true ++ bitsOf 3 ((M2 k1 1).toNat) ++ vec3L ((M2 k1 2) - (M1 i1 2)) ((M2 k1 3) - (M1 i1 3)) ((M2 k1 4) - (M1 i1 4)) ++ vec3L ((M2 k1 5) - (M1 i1 5)) ((M2 k1 6) - (M1 i1 6)) ((M2 k1 7) - (M1 i1 7))).length ≤ c * 1000 + 554 := by rw [List.length_append]; have := vec3L_le ((M2 k1 5) - (M1 i1 5)) ((M2 k1 6) - (M1 i1 6)) ((M2 k1 7) - (M1 i1 7)); omega
                                have A15 := A14.mod hm15 (fun h => h HC.out.1)
                                have B15 := B14.mod hm15 (fun h => h HC.out.2)
                                have HX15 := Lib.hid hm15
                                clear hm15 H14 A14 B14 za ca fa zb cb fb hl14
                                obtain ⟨za, ca, fa⟩ := id A15
                                obtain ⟨zb, cb, fb⟩ := id B15
                                go_wp2_with fail
                                refine (rvec_k S1 p (L ++ bitsOf 2 2 ++ varL (x - last - 1).toNat ++ bit true ++ bit true ++ bit true ++ bitsOf 3 ((M2 k1 1).toNat) ++ vec3L ((M2 k1 2) - (M1 i1 2)) ((M2 k1 3) - (M1 i1 3)) ((M2 k1 4) - (M1 i1 4)) ++ vec3L ((M2 k1 5) - (M1 i1 5)) ((M2 k1 6) - (M1 i1 6)) ((M2 k1 7) - (M1 i1 7))) (M2 k1 8) (M2 k1 9) (M2 k1 10) (M1 i1 8) (M1 i1 9) (M1 i1 10) w15 H15 (HK.out 8 (by decide) (by decide)) (HK.out 9 (by decide) (by decide)) (HK.out 10 (by decide) (by decide)) (HI.out 8 (by decide) (by decide)) (HI.out 9 (by decide) (by decide)) (HI.out 10 (by decide) (by decide)) (by omega)).mono ?_
                                rintro e w16 ⟨rfl, H16, hm16⟩
                                have hl16 : (L ++ bitsOf 2 2 ++ varL (x - last - 1).toNat ++ bit true ++ bit true ++ bit true ++ bitsOf 3 ((M2 k1 1).toNat) ++ vec3L ((M2 k1 2) - (M1 i1 2)) ((M2 k1 3) - (M1 i1 3)) ((M2 k1 4) - (M1 i1 4)) ++ vec3L ((M2 k1 5) - (M1 i1 5)) ((M2 k1 6) - (M1 i1 6)) ((M2 k1 7) - (M1 i1 7)) ++ vec3L ((M2 k1 8) - (M1 i1 8)) ((M2 k1 9) - (M1 i1 9)) ((M2 k1 10) - (M1 i1 10))).length ≤ c * 1000 + 788 := by rw [List.length_append]; have := vec3L_le ((M2 k1 8) - (M1 i1 8)) ((M2 k1 9) - (M1 i1 9)) ((M2 k1 10) - (M1 i1 10)); omega
                                have A16 := A15.mod hm16 (fun h => h HC.out.1)
                                have B16 := B15.mod hm16 (fun h => h HC.out.2)
                                have HX16 := Lib.hid hm16
                                clear hm16 H15 A15 B15 za ca fa zb cb fb hl15
                                obtain ⟨za, ca, fa⟩ := id A16
                                obtain ⟨zb, cb, fb⟩ := id B16
                                go_wp2
                                clear za ca fa zb cb fb A16 B16
                                go_roundw
                                case rel =>
                                  have e : L ++ bitsOf 2 2 ++ varL (x - last - 1).toNat ++ bit true ++ bit true ++ bit true ++ bitsOf 3 ((M2 k1 1).toNat) ++ vec3L ((M2 k1 2) - (M1 i1 2)) ((M2 k1 3) - (M1 i1 3)) ((M2 k1 4) - (M1 i1 4)) ++ vec3L ((M2 k1 5) - (M1 i1 5)) ((M2 k1 6) - (M1 i1 6)) ((M2 k1 7) - (M1 i1 7)) ++ vec3L ((M2 k1 8) - (M1 i1 8)) ((M2 k1 9) - (M1 i1 9)) ((M2 k1 10) - (M1 i1 10)) = L ++ (headL 2 x last ++ changeL M1 i1 M2 k1) := by
                                    unfold headL changeL neS vecD
                                    rw [HSS.out, HSA.out, HSV.out, HSK.out]
                                    simp [List.append_assoc]
                                  rw [e] at H16 hl16
                                  exact ⟨c + 1, x, _, by omega, by go_num, by go_num, HFIN.out, by have := HXX.out; omega, HXX.out.2.2, by omega, H16.mono HSB.out, HM7.out.trans (((((((((HX8.out.trans HX9.out).trans HX10.out).trans HX11.out).trans HX12.out).trans HX13.out).trans HX14.out).trans HX15.out).trans HX16.out).mono fun b _ h hb => h (HSB.out b hb))⟩
                                case measure => simp [intOf]; omega
                            | false =>
                              as_aux_lemma =>
                                go_wp2_with fail
                                refine (ryes_k S1 p (L ++ bitsOf 2 2 ++ varL (x - last - 1).toNat ++ bit true ++ bit true) false w11 H11 (by omega)).mono ?_
                                rintro e w12 ⟨rfl, H12, hm12⟩
                                have hl12 : (L ++ bitsOf 2 2 ++ varL (x - last - 1).toNat ++ bit true ++ bit true ++ bit false).length ≤ c * 1000 + 83 := by rw [List.length_append]; have := bit_length false; omega
                                have A12 := A11.mod hm12 (fun h => h HC.out.1)
                                have B12 := B11.mod hm12 (fun h => h HC.out.2)
                                have HX12 := Lib.hid hm12
                                clear hm12 H11 A11 B11 za ca fa zb cb fb hl11
                                obtain ⟨za, ca, fa⟩ := id A12
                                obtain ⟨zb, cb, fb⟩ := id B12
                                go_wp2_with fail
                                refine (rput_k S1 p (L ++ bitsOf 2 2 ++ varL (x - last - 1).toNat ++ bit true ++ bit true ++ bit false) w12 _ _ ((M2 k1 1).toNat) 3 H12 (by have := HKK.out; omega) rfl (by decide) (by unfold Lt63; have := HKK.out; omega) (by omega)).mono ?_
                                rintro e w13 ⟨rfl, H13, hm13⟩
                                have hl13 : (L ++ bitsOf 2 2 ++ varL (x - last - 1).toNat ++ bit true ++ bit true ++ bit false ++ bitsOf 3 ((M2 k1 1).toNat)).length ≤ c * 1000 + 86 := by rw [List.length_append]; have := bitsOf_length 3 ((M2 k1 1).toNat); omega
                                have A13 := A12.mod hm13 (fun h => h HC.out.1)
                                have B13 := B12.mod hm13 (fun h => h HC.out.2)
                                have HX13 := Lib.hid hm13
                                clear hm13 H12 A12 B12 za ca fa zb cb fb hl12
                                obtain ⟨za, ca, fa⟩ := id A13
                                obtain ⟨zb, cb, fb⟩ := id B13
                                go_wp2_with fail
                                refine (rvec_k S1 p (L ++ bitsOf 2 2 ++ varL (x - last - 1).toNat ++ bit true ++ bit true ++ bit false ++ bitsOf 3 ((M2 k1 1).toNat)) (M2 k1 2) (M2 k1 3) (M2 k1 4) (M1 i1 2) (M1 i1 3) (M1 i1 4) w13 H13 (HK.out 2 (by decide) (by decide)) (HK.out 3 (by decide) (by decide)) (HK.out 4 (by decide) (by decide)) (HI.out 2 (by decide) (by decide)) (HI.out 3 (by decide) (by decide)) (HI.out 4 (by decide) (by decide)) (by omega)).mono ?_
                                rintro e w14 ⟨rfl, H14, hm14⟩
                                have hl14 : (L ++ bitsOf 2 2 ++ varL (x - last - 1).toNat ++ bit true ++ bit true ++ bit false ++ bitsOf 3 ((M2 k1 1).toNat) ++ vec3L ((M2 k1 2) - (M1 i1 2)) ((M2 k1 3) - (M1 i1 3)) ((M2 k1 4) - (M1 i1 4))).length ≤ c * 1000 + 320 := by rw [List.length_append]; have := vec3L_le ((M2 k1 2) - (M1 i1 2)) ((M2 k1 3) - (M1 i1 3)) ((M2 k1 4) - (M1 i1 4)); omega
                                have A14 := A13.mod hm14 (fun h => h HC.out.1)
                                have B14 := B13.mod hm14 (fun h => h HC.out.2)
                                have HX14 := Lib.hid hm14
                                clear hm14 H13 A13 B13 za ca fa zb cb fb hl13
                                obtain ⟨za, ca, fa⟩ := id A14
                                obtain ⟨zb, cb, fb⟩ := id B14
                                go_wp2_with fail
                                refine (rvec_k S1 p (L ++ bitsOf 2 2 ++ varL (x - last - 1).toNat ++ bit true ++ bit true ++ bit false ++ bitsOf 3 ((M2 k1 1).toNat) ++ vec3L ((M2 k1 2) - (M1 i1 2)) ((M2 k1 3) - (M1 i1 3)) ((M2 k1 4) - (M1 i1 4))) (M2 k1 5) (M2 k1 6) (M2 k1 7) (M1 i1 5) (M1 i1 6) (M1 i1 7) w14 H14 (HK.out 5 (by decide) (by decide)) (HK.out 6 (by decide) (by decide)) (HK.out 7 (by decide) (by decide)) (HI.out 5 (by decide) (by decide)) (HI.out 6 (by decide) (by decide)) (HI.out 7 (by decide) (by decide)) (by omega)).mono ?_
                                rintro e w15 ⟨rfl, H15, hm15⟩
                                have hl15 : (L ++ bitsOf 2 2 ++ varL (x - last - 1).toNat ++ bit true ++ bit true ++ bit false ++ bitsOf 3 ((M2 k1 1).toNat) ++ vec3L ((M2 k1 2) - (M1 i1 2)) ((M2 k1 3) - (M1 i1 3)) ((M2 k1 4) - (M1 i1 4)) ++ vec3L ((M2 k1 5) - (M1 i1 5)) ((M2 k1 6) - (M1 i1 6)) ((M2 k1 7) - (M1 i1 7))).length ≤ c * 1000 + 554 := by rw [List.length_append]; have := vec3L_le ((M2 k1 5) - (M1 i1 5)) ((M2 k1 6) - (M1 i1 6)) ((M2 k1 7) - (M1 i1 7)); omega
                                have A15 := A14.mod hm15 (fun h => h HC.out.1)
                                have B15 := B14.mod hm15 (fun h => h HC.out.2)
                                have HX15 := Lib.hid hm15
                                clear hm15 H14 A14 B14 za ca fa zb cb fb hl14
                                obtain ⟨za, ca, fa⟩ := id A15
                                obtain ⟨zb, cb, fb⟩ := id B15
                                go_wp2
                                clear za ca fa zb cb fb A15 B15
                                go_roundw
                                case rel =>
                                  have e : L ++ bitsOf 2 2 ++ varL (x - last - 1).toNat ++ bit true ++ bit true ++ bit false ++ bitsOf 3 ((M2 k1 1).toNat) ++ vec3L ((M2 k1 2) - (M1 i1 2)) ((M2 k1 3) - (M1 i1 3)) ((M2 k1 4) - (M1 i1 4)) ++ vec3L ((M2 k1 5) - (M1 i1 5)) ((M2 k1 6) - (M1 i1 6)) ((M2 k1 7) - (M1 i1 7)) = L ++ (headL 2 x last ++ changeL M1 i1 M2 k1) := by
                                    unfold headL changeL neS vecD
                                    rw [HSS.out, HSA.out, HSV.out, HSK.out]
                                    simp [List.append_assoc]
                                  rw [e] at H15 hl15
                                  exact ⟨c + 1, x, _, by omega, by go_num, by go_num, HFIN.out, by have := HXX.out; omega, HXX.out.2.2, by omega, H15.mono HSB.out, HM7.out.trans ((((((((HX8.out.trans HX9.out).trans HX10.out).trans HX11.out).trans HX12.out).trans HX13.out).trans HX14.out).trans HX15.out).mono fun b _ h hb => h (HSB.out b hb))⟩
                                case measure => simp [intOf]; omega
                          | false =>
                            go_wp2_with fail
                            refine (ryes_k S1 p (L ++ bitsOf 2 2 ++ varL (x - last - 1).toNat) true w9 H9 (by omega)).mono ?_
                            rintro e w10 ⟨rfl, H10, hm10⟩
                            have hl10 : (L ++ bitsOf 2 2 ++ varL (x - last - 1).toNat ++ bit true).length ≤ c * 1000 + 81 := by rw [List.length_append]; have := bit_length true; omega
                            have A10 := A9.mod hm10 (fun h => h HC.out.1)
                            have B10 := B9.mod hm10 (fun h => h HC.out.2)
                            have HX10 := Lib.hid hm10
                            clear hm10 H9 A9 B9 za ca fa zb cb fb hl9
                            obtain ⟨za, ca, fa⟩ := id A10
                            obtain ⟨zb, cb, fb⟩ := id B10
                            go_wp2_with fail
                            refine (ryes_k S1 p (L ++ bitsOf 2 2 ++ varL (x - last - 1).toNat ++ bit true) false w10 H10 (by omega)).mono ?_
                            rintro e w11 ⟨rfl, H11, hm11⟩
                            have hl11 : (L ++ bitsOf 2 2 ++ varL (x - last - 1).toNat ++ bit true ++ bit false).length ≤ c * 1000 + 82 := by rw [List.length_append]; have := bit_length false; omega
                            have A11 := A10.mod hm11 (fun h => h HC.out.1)
                            have B11 := B10.mod hm11 (fun h => h HC.out.2)
                            have HX11 := Lib.hid hm11
                            clear hm11 H10 A10 B10 za ca fa zb cb fb hl10
                            obtain ⟨za, ca, fa⟩ := id A11
                            obtain ⟨zb, cb, fb⟩ := id B11
                            cases sV with
                            | true =>
                              as_aux_lemma =>
                                go_wp2_with fail
                                refine (ryes_k S1 p (L ++ bitsOf 2 2 ++ varL (x - last - 1).toNat ++ bit true ++ bit false) true w11 H11 (by omega)).mono ?_
                                rintro e w12 ⟨rfl, H12, hm12⟩
                                have hl12 : (L ++ bitsOf 2 2 ++ varL (x - last - 1).toNat ++ bit true ++ bit false ++ bit true).length ≤ c * 1000 + 83 := by rw [List.length_append]; have := bit_length true; omega
                                have A12 := A11.mod hm12 (fun h => h HC.out.1)
                                have B12 := B11.mod hm12 (fun h => h HC.out.2)
                                have HX12 := Lib.hid hm12
                                clear hm12 H11 A11 B11 za ca fa zb cb fb hl11
                                obtain ⟨za, ca, fa⟩ := id A12
                                obtain ⟨zb, cb, fb⟩ := id B12
                                go_wp2_with fail
                                refine (rput_k S1 p (L ++ bitsOf 2 2 ++ varL (x - last - 1).toNat ++ bit true ++ bit false ++ bit true) w12 _ _ ((M2 k1 1).toNat) 3 H12 (by have := HKK.out; omega) rfl (by decide) (by unfold Lt63; have := HKK.out; omega) (by omega)).mono ?_
                                rintro e w13 ⟨rfl, H13, hm13⟩
                                have hl13 : (L ++ bitsOf 2 2 ++ varL (x - last - 1).toNat ++ bit true ++ bit false ++ bit true ++ bitsOf 3 ((M2 k1 1).toNat)).length ≤ c * 1000 + 86 := by rw [List.length_append]; have := bitsOf_length 3 ((M2 k1 1).toNat); omega
                                have A13 := A12.mod hm13 (fun h => h HC.out.1)
                                have B13 := B12.mod hm13 (fun h => h HC.out.2)
                                have HX13 := Lib.hid hm13
                                clear hm13 H12 A12 B12 za ca fa zb cb fb hl12
                                obtain ⟨za, ca, fa⟩ := id A13
                                obtain ⟨zb, cb, fb⟩ := id B13
                                go_wp2_with fail
                                refine (rvec_k S1 p (L ++ bitsOf 2 2 ++ varL (x - last - 1).toNat ++ bit true ++ bit false ++ bit true ++ bitsOf 3 ((M2 k1 1).toNat)) (M2 k1 2) (M2 k1 3) (M2 k1 4) (M1 i1 2) (M1 i1 3) (M1 i1 4) w13 H13 (HK.out 2 (by decide) (by decide)) (HK.out 3 (by decide) (by decide)) (HK.out 4 (by decide) (by decide)) (HI.out 2 (by decide) (by decide)) (HI.out 3 (by decide) (by decide)) (HI.out 4 (by decide) (by decide)) (by omega)).mono ?_
                                rintro e w14 ⟨rfl, H14, hm14⟩
                                have hl14 : (L ++ bitsOf 2 2 ++ varL (x - last - 1).toNat ++ bit true ++ bit false ++ bit true ++ bitsOf 3 ((M2 k1 1).toNat) ++ vec3L ((M2 k1 2) - (M1 i1 2)) ((M2 k1 3) - (M1 i1 3)) ((M2 k1 4) - (M1 i1 4))).length ≤ c * 1000 + 320 := by rw [List.length_append]; have := vec3L_le ((M2 k1 2) - (M1 i1 2)) ((M2 k1 3) - (M1 i1 3)) ((M2 k1 4) - (M1 i1 4)); omega
                                have A14 := A13.mod hm14 (fun h => h HC.out.1)
                                have B14 := B13.mod hm14 (fun h => h HC.out.2)
                                have HX14 := Lib.hid hm14
                                clear hm14 H13 A13 B13 za ca fa zb cb fb hl13
                                obtain ⟨za, ca, fa⟩ := id A14
                                obtain ⟨zb, cb, fb⟩ := id B14
                                go_wp2_with fail
                                refine (rvec_k S1 p (L ++ bitsOf 2 2 ++ varL (x - last - 1).toNat ++ bit true ++ bit false ++ bit true ++ bitsOf 3 ((M2 k1 1).toNat) ++ vec3L ((M2 k1 2) - (M1 i1 2)) ((M2 k1 3) - (M1 i1 3)) ((M2 k1 4) - (M1 i1 4))) (M2 k1 8) (M2 k1 9) (M2 k1 10) (M1 i1 8) (M1 i1 9) (M1 i1 10) w14 H14 (HK.out 8 (by decide) (by decide)) (HK.out 9 (by decide) (by decide)) (HK.out 10 (by decide) (by decide)) (HI.out 8 (by decide) (by decide)) (HI.out 9 (by decide) (by decide)) (HI.out 10 (by decide) (by decide)) (by omega)).mono ?_
                                rintro e w15 ⟨rfl, H15, hm15⟩
                                have hl15 : (L ++ bitsOf 2 2 ++ varL (x - last - 1).toNat ++ bit true ++ bit false ++ bit true ++ bitsOf 3 ((M2 k1 1).toNat) ++ vec3L ((M2 k1 2) - (M1 i1 2)) ((M2 k1 3) - (M1 i1 3)) ((M2 k1 4) - (M1 i1 4)) ++ vec3L ((M2 k1 8) - (M1 i1 8)) ((M2 k1 9) - (M1 i1 9)) ((M2 k1 10) - (M1 i1 10))).length ≤ c * 1000 + 554 := by rw [List.length_append]; have := vec3L_le ((M2 k1 8) - (M1 i1 8)) ((M2 k1 9) - (M1 i1 9)) ((M2 k1 10) - (M1 i1 10)); omega
                                have A15 := A14.mod hm15 (fun h => h HC.out.1)
                                have B15 := B14.mod hm15 (fun h => h HC.out.2)
                                have HX15 := Lib.hid hm15
                                clear hm15 H14 A14 B14 za ca fa zb cb fb hl14
                                obtain ⟨za, ca, fa⟩ := id A15
                                obtain ⟨zb, cb, fb⟩ := id B15
                                go_wp2
                                clear za ca fa zb cb fb A15 B15
                                go_roundw
                                case rel =>
                                  have e : L ++ bitsOf 2 2 ++ varL (x - last - 1).toNat ++ bit true ++ bit false ++ bit true ++ bitsOf 3 ((M2 k1 1).toNat) ++ vec3L ((M2 k1 2) - (M1 i1 2)) ((M2 k1 3) - (M1 i1 3)) ((M2 k1 4) - (M1 i1 4)) ++ vec3L ((M2 k1 8) - (M1 i1 8)) ((M2 k1 9) - (M1 i1 9)) ((M2 k1 10) - (M1 i1 10)) = L ++ (headL 2 x last ++ changeL M1 i1 M2 k1) := by
                                    unfold headL changeL neS vecD
                                    rw [HSS.out, HSA.out, HSV.out, HSK.out]
                                    simp [List.append_assoc]
                                  rw [e] at H15 hl15
                                  exact ⟨c + 1, x, _, by omega, by go_num, by go_num, HFIN.out, by have := HXX.out; omega, HXX.out.2.2, by omega, H15.mono HSB.out, HM7.out.trans ((((((((HX8.out.trans HX9.out).trans HX10.out).trans HX11.out).trans HX12.out).trans HX13.out).trans HX14.out).trans HX15.out).mono fun b _ h hb => h (HSB.out b hb))⟩
                                case measure => simp [intOf]; omega
                            | false =>
                              as_aux_lemma =>
                                go_wp2_with fail
                                refine (ryes_k S1 p (L ++ bitsOf 2 2 ++ varL (x - last - 1).toNat ++ bit true ++ bit false) false w11 H11 (by omega)).mono ?_
                                rintro e w12 ⟨rfl, H12, hm12⟩
                                have hl12 : (L ++ bitsOf 2 2 ++ varL (x - last - 1).toNat ++ bit true ++ bit false ++ bit false).length ≤ c * 1000 + 83 := by rw [List.length_append]; have := bit_length false; omega
                                have A12 := A11.mod hm12 (fun h => h HC.out.1)
                                have B12 := B11.mod hm12 (fun h => h HC.out.2)
                                have HX12 := Lib.hid hm12
                                clear hm12 H11 A11 B11 za ca fa zb cb fb hl11
                                obtain ⟨za, ca, fa⟩ := id A12
                                obtain ⟨zb, cb, fb⟩ := id B12
                                go_wp2_with fail
                                refine (rput_k S1 p (L ++ bitsOf 2 2 ++ varL (x - last - 1).toNat ++ bit true ++ bit false ++ bit false) w12 _ _ ((M2 k1 1).toNat) 3 H12 (by have := HKK.out; omega) rfl (by decide) (by unfold Lt63; have := HKK.out; omega) (by omega)).mono ?_
                                rintro e w13 ⟨rfl, H13, hm13⟩
                                have hl13 : (L ++ bitsOf 2 2 ++ varL (x - last - 1).toNat ++ bit true ++ bit false ++ bit false ++ bitsOf 3 ((M2 k1 1).toNat)).length ≤ c * 1000 + 86 := by rw [List.length_append]; have := bitsOf_length 3 ((M2 k1 1).toNat); omega
                                have A13 := A12.mod hm13 (fun h => h HC.out.1)
                                have B13 := B12.mod hm13 (fun h => h HC.out.2)
                                have HX13 := Lib.hid hm13
                                clear hm13 H12 A12 B12 za ca fa zb cb fb hl12
                                obtain ⟨za, ca, fa⟩ := id A13
                                obtain ⟨zb, cb, fb⟩ := id B13
                                go_wp2_with fail
                                refine (rvec_k S1 p (L ++ bitsOf 2 2 ++ varL (x - last - 1).toNat ++ bit true ++ bit false ++ bit false ++ bitsOf 3 ((M2 k1 1).toNat)) (M2 k1 2) (M2 k1 3) (M2 k1 4) (M1 i1 2) (M1 i1 3) (M1 i1 4) w13 H13 (HK.out 2 (by decide) (by decide)) (HK.out 3 (by decide) (by decide)) (HK.out 4 (by decide) (by decide)) (HI.out 2 (by decide) (by decide)) (HI.out 3 (by decide) (by decide)) (HI.out 4 (by decide) (by decide)) (by omega)).mono ?_
                                rintro e w14 ⟨rfl, H14, hm14⟩
                                have hl14 : (L ++ bitsOf 2 2 ++ varL (x - last - 1).toNat ++ bit true ++ bit false ++ bit false ++ bitsOf 3 ((M2 k1 1).toNat) ++ vec3L ((M2 k1 2) - (M1 i1 2)) ((M2 k1 3) - (M1 i1 3)) ((M2 k1 4) - (M1 i1 4))).length ≤ c * 1000 + 320 := by rw [List.length_append]; have := vec3L_le ((M2 k1 2) - (M1 i1 2)) ((M2 k1 3) - (M1 i1 3)) ((M2 k1 4) - (M1 i1 4)); omega
                                have A14 := A13.mod hm14 (fun h => h HC.out.1)
                                have B14 := B13.mod hm14 (fun h => h HC.out.2)
                                have HX14 := Lib.hid hm14
                                clear hm14 H13 A13 B13 za ca fa zb cb fb hl13
                                obtain ⟨za, ca, fa⟩ := id A14
                                obtain ⟨zb, cb, fb⟩ := id B14
                                go_wp2
                                clear za ca fa zb cb fb A14 B14
                                go_roundw
                                case rel =>
                                  have e : L ++ bitsOf 2 2 ++ varL (x - last - 1).toNat ++ bit true ++ bit false ++ bit false ++ bitsOf 3 ((M2 k1 1).toNat) ++ vec3L ((M2 k1 2) - (M1 i1 2)) ((M2 k1 3) - (M1 i1 3)) ((M2 k1 4) - (M1 i1 4)) = L ++ (headL 2 x last ++ changeL M1 i1 M2 k1) := by
                                    unfold headL changeL neS vecD
                                    rw [HSS.out, HSA.out, HSV.out, HSK.out]
                                    simp [List.append_assoc]
                                  rw [e] at H14 hl14
                                  exact ⟨c + 1, x, _, by omega, by go_num, by go_num, HFIN.out, by have := HXX.out; omega, HXX.out.2.2, by omega, H14.mono HSB.out, HM7.out.trans (((((((HX8.out.trans HX9.out).trans HX10.out).trans HX11.out).trans HX12.out).trans HX13.out).trans HX14.out).mono fun b _ h hb => h (HSB.out b hb))⟩
                                case measure => simp [intOf]; omega
                        | false =>
                          cases sK with
                          | true =>
                            cases sA with
                            | true =>
                              go_wp2_with fail
                              refine (ryes_k S1 p (L ++ bitsOf 2 2 ++ varL (x - last - 1).toNat) true w9 H9 (by omega)).mono ?_
                              rintro e w10 ⟨rfl, H10, hm10⟩
                              have hl10 : (L ++ bitsOf 2 2 ++ varL (x - last - 1).toNat ++ bit true).length ≤ c * 1000 + 81 := by rw [List.length_append]; have := bit_length true; omega
                              have A10 := A9.mod hm10 (fun h => h HC.out.1)
                              have B10 := B9.mod hm10 (fun h => h HC.out.2)
                              have HX10 := Lib.hid hm10
                              clear hm10 H9 A9 B9 za ca fa zb cb fb hl9
                              obtain ⟨za, ca, fa⟩ := id A10
                              obtain ⟨zb, cb, fb⟩ := id B10
                              go_wp2_with fail
                              refine (ryes_k S1 p (L ++ bitsOf 2 2 ++ varL (x - last - 1).toNat ++ bit true) true w10 H10 (by omega)).mono ?_
                              rintro e w11 ⟨rfl, H11, hm11⟩
                              have hl11 : (L ++ bitsOf 2 2 ++ varL (x - last - 1).toNat ++ bit true ++ bit true).length ≤ c * 1000 + 82 := by rw [List.length_append]; have := bit_length true; omega
                              have A11 := A10.mod hm11 (fun h => h HC.out.1)
                              have B11 := B10.mod hm11 (fun h => h HC.out.2)
                              have HX11 := Lib.hid hm11
                              clear hm11 H10 A10 B10 za ca fa zb cb fb hl10
                              obtain ⟨za, ca, fa⟩ := id A11
                              obtain ⟨zb, cb, fb⟩ := id B11
                              cases sV with
                              | true =>
                                as_aux_lemma =>
                                  go_wp2_with fail
                                  refine (ryes_k S1 p (L ++ bitsOf 2 2 ++ varL (x - last - 1).toNat ++ bit true ++ bit true) true w11 H11 (by omega)).mono ?_
                                  rintro e w12 ⟨rfl, H12, hm12⟩
                                  have hl12 : (L ++ bitsOf 2 2 ++ varL (x - last - 1).toNat ++ bit true ++ bit true ++ bit true).length ≤ c * 1000 + 83 := by rw [List.length_append]; have := bit_length true; omega
                                  have A12 := A11.mod hm12 (fun h => h HC.out.1)
                                  have B12 := B11.mod hm12 (fun h => h HC.out.2)
                                  have HX12 := Lib.hid hm12
                                  clear hm12 H11 A11 B11 za ca fa zb cb fb hl11
                                  obtain ⟨za, ca, fa⟩ := id A12
                                  obtain ⟨zb, cb, fb⟩ := id B12
                                  go_wp2_with fail
                                  refine (rput_k S1 p (L ++ bitsOf 2 2 ++ varL (x - last - 1).toNat ++ bit true ++ bit true ++ bit true) w12 _ _ ((M2 k1 1).toNat) 3 H12 (by have := HKK.out; omega) rfl (by decide) (by unfold Lt63; have := HKK.out; omega) (by omega)).mono ?_
                                  rintro e w13 ⟨rfl, H13, hm13⟩
                                  have hl13 : (L ++ bitsOf 2 2 ++ varL (x - last - 1).toNat ++ bit true ++ bit true ++ bit true ++ bitsOf 3 ((M2 k1 1).toNat)).length ≤ c * 1000 + 86 := by rw [List.length_append]; have := bitsOf_length 3 ((M2 k1 1).toNat); omega
                                  have A13 := A12.mod hm13 (fun h => h HC.out.1)
                                  have B13 := B12.mod hm13 (fun h => h HC.out.2)
                                  have HX13 := Lib.hid hm13
                                  clear hm13 H12 A12 B12 za ca fa zb cb fb hl12
                                  obtain ⟨za, ca, fa⟩ := id A13
                                  obtain ⟨zb, cb, fb⟩ := id B13
                                  go_wp2_with fail
                                  refine (rvec_k S1 p (L ++ bitsOf 2 2 ++ varL (x - last - 1).toNat ++ bit true ++ bit true ++ bit true ++ bitsOf 3 ((M2 k1 1).toNat)) (M2 k1 2) (M2 k1 3) (M2 k1 4) (M1 i1 2) (M1 i1 3) (M1 i1 4) w13 H13 (HK.out 2 (by decide) (by decide)) (HK.out 3 (by decide) (by decide)) (HK.out 4 (by decide) (by decide)) (HI.out 2 (by decide) (by decide)) (HI.out 3 (by decide) (by decide)) (HI.out 4 (by decide) (by decide)) (by omega)).mono ?_
                                  rintro e w14 ⟨rfl, H14, hm14⟩
                                  have hl14 : (L ++ bitsOf 2 2 ++ varL (x - last - 1).toNat ++ bit true ++ bit true ++ bit true ++ bitsOf 3 ((M2 k1 1).toNat) ++ vec3L ((M2 k1 2) - (M1 i1 2)) ((M2 k1 3) - (M1 i1 3)) ((M2 k1 4) - (M1 i1 4))).length ≤ c * 1000 + 320 := by rw [List.length_append]; have := vec3L_le ((M2 k1 2) - (M1 i1 2)) ((M2 k1 3) - (M1 i1 3)) ((M2 k1 4) - (M1 i1 4)); omega
                                  have A14 := A13.mod hm14 (fun h => h HC.out.1)
                                  have B14 := B13.mod hm14 (fun h => h HC.out.2)
                                  have HX14 := Lib.hid hm14
                                  clear hm14 H13 A13 B13 za ca fa zb cb fb hl13
                                  obtain ⟨za, ca, fa⟩ := id A14
                                  obtain ⟨zb, cb, fb⟩ := id B14
                                  go_wp2_with fail
                                  refine (rvec_k S1 p (L ++ bitsOf 2 2 ++ varL (x - last - 1).toNat ++ bit true ++ bit true ++ bit true ++ bitsOf 3 ((M2 k1 1).toNat) ++ vec3L ((M2 k1 2) - (M1 i1 2)) ((M2 k1 3) - (M1 i1 3)) ((M2 k1 4) - (M1 i1 4))) (M2 k1 5) (M2 k1 6) (M2 k1 7) (M1 i1 5) (M1 i1 6) (M1 i1 7) w14 H14 (HK.out 5 (by decide) (by decide)) (HK.out 6 (by decide) (by decide)) (HK.out 7 (by decide) (by decide)) (HI.out 5 (by decide) (by decide)) (HI.out 6 (by decide) (by decide)) (HI.out 7 (by decide) (by decide)) (by omega)).mono ?_
                                  rintro e w15 ⟨rfl, H15, hm15⟩
                                  have hl15 : (L ++ bitsOf 2 2 ++ varL (x - last - 1).toNat ++ bit true ++ bit true ++ bit true ++ bitsOf 3 ((M2 k1 1).toNat) ++ vec3L ((M2 k1 2) - (M1 i1 2)) ((M2 k1 3) - (M1 i1 3)) ((M2 k1 4) - (M1 i1 4)) ++ vec3L ((M2 k1 5) - (M1 i1 5)) ((M2 k1 6) - (M1 i1 6)) ((M2 k1 7) - (M1 i1 7))).length ≤ c * 1000 + 554 := by rw [List.length_append]; have := vec3L_le ((M2 k1 5) - (M1 i1 5)) ((M2 k1 6) - (M1 i1 6)) ((M2 k1 7) - (M1 i1 7)); omega
                                  have A15 := A14.mod hm15 (fun h => h HC.out.1)
                                  have B15 := B14.mod hm15 (fun h => h HC.out.2)
                                  have HX15 := Lib.hid hm15
                                  clear hm15 H14 A14 B14 za ca fa zb cb fb hl14
                                  obtain ⟨za, ca, fa⟩ := id A15
                                  obtain ⟨zb, cb, fb⟩ := id B15
                                  go_wp2_with fail
                                  refine (rvec_k S1 p (L ++ bitsOf 2 2 ++ varL (x - last - 1).toNat ++ bit true ++ bit true ++ bit true ++ bitsOf 3 ((M2 k1 1).toNat) ++ vec3L ((M2 k1 2) - (M1 i1 2)) ((M2 k1 3) - (M1 i1 3)) ((M2 k1 4) - (M1 i1 4)) ++ vec3L ((M2 k1 5) - (M1 i1 5)) ((M2 k1 6) - (M1 i1 6)) ((M2 k1 7) - (M1 i1 7))) (M2 k1 8) (M2 k1 9) (M2 k1 10) (M1 i1 8) (M1 i1 9) (M1 i1 10) w15 H15 (HK.out 8 (by decide) (by decide)) (HK.out 9 (by decide) (by decide)) (HK.out 10 (by decide) (by decide)) (HI.out 8 (by decide) (by decide)) (HI.out 9 (by decide) (by decide)) (HI.out 10 (by decide) (by decide)) (by omega)).mono ?_
                                  rintro e w16 ⟨rfl, H16, hm16⟩
                                  have hl16 : (L ++ bitsOf 2 2 ++ varL (x - last - 1).toNat ++ bit true ++ bit true ++ bit true ++ bitsOf 3 ((M2 k1 1).toNat) ++ vec3L ((M2 k1 2) - (M1 i1 2)) ((M2 k1 3) - (M1 i1 3)) ((M2 k1 4) - (M1 i1 4)) ++ vec3L ((M2 k1 5) - (M1 i1 5)) ((M2 k1 6) - (M1 i1 6)) ((M2 k1 7) - (M1 i1 7)) ++ vec3L ((M2 k1 8) - (M1 i1 8)) ((M2 k1 9) - (M1 i1 9)) ((M2 k1 10) - (M1 i1 10))).length ≤ c * 1000 + 788 := by rw [List.length_append]; have := vec3L_le ((M2 k1 8) - (M1 i1 8)) ((M2 k1 9) - (M1 i1 9)) ((M2 k1 10) - (M1 i1 10)); omega
                                  have A16 := A15.mod hm16 (fun h => h HC.out.1)
                                  have B16 := B15.mod hm16 (fun h => h HC.out.2)
                                  have HX16 := Lib.hid hm16
                                  clear hm16 H15 A15 B15 za ca fa zb cb fb hl15
                                  obtain ⟨za, ca, fa⟩ := id A16
                                  obtain ⟨zb, cb, fb⟩ := id B16
                                  go_wp2
                                  clear za ca fa zb cb fb A16 B16
                                  go_roundw
                                  case rel =>
                                    have e : L ++ bitsOf 2 2 ++ varL (x - last - 1).toNat ++ bit true ++ bit true ++ bit true ++ bitsOf 3 ((M2 k1 1).toNat) ++ vec3L ((M2 k1 2) - (M1 i1 2)) ((M2 k1 3) - (M1 i1 3)) ((M2 k1 4) - (M1 i1 4)) ++ vec3L ((M2 k1 5) - (M1 i1 5)) ((M2 k1 6) - (M1 i1 6)) ((M2 k1 7) - (M1 i1 7)) ++ vec3L ((M2 k1 8) - (M1 i1 8)) ((M2 k1 9) - (M1 i1 9)) ((M2 k1 10) - (M1 i1 10)) = L ++ (headL 2 x last ++ changeL M1 i1 M2 k1) := by
                                      unfold headL changeL neS vecD
                                      rw [HSS.out, HSA.out, HSV.out, HSK.out]
                                      simp [List.append_assoc]
                                    rw [e] at H16 hl16
                                    exact ⟨c + 1, x, _, by omega, by go_num, by go_num, HFIN.out, by have := HXX.out; omega, HXX.out.2.2, by omega, H16.mono HSB.out, HM7.out.trans (((((((((HX8.out.trans HX9.out).trans HX10.out).trans HX11.out).trans HX12.out).trans HX13.out).trans HX14.out).trans HX15.out).trans HX16.out).mono fun b _ h hb => h (HSB.out b hb))⟩
                                  case measure => simp [intOf]; omega
                              | false =>
                                as_aux_lemma =>
                                  go_wp2_with fail
                                  refine (ryes_k S1 p (L ++ bitsOf 2 2 ++ varL (x - last - 1).toNat ++ bit true ++ bit true) false w11 H11 (by omega)).mono ?_
                                  rintro e w12 ⟨rfl, H12, hm12⟩
                                  have hl12 : (L ++ bitsOf 2 2 ++ varL (x - last - 1).toNat ++ bit true ++ bit true ++ bit false).length ≤ c * 1000 + 83 := by rw [List.length_append]; have := bit_length false; omega
                                  have A12 := A11.mod hm12 (fun h => h HC.out.1)
                                  have B12 := B11.mod hm12 (fun h => h HC.out.2)
                                  have HX12 := Lib.hid hm12
                                  clear hm12 H11 A11 B11 za ca fa zb cb fb hl11
                                  obtain ⟨za, ca, fa⟩ := id A12
                                  obtain ⟨zb, cb, fb⟩ := id B12
                                  go_wp2_with fail
                                  refine (rput_k S1 p (L ++ bitsOf 2 2 ++ varL (x - last - 1).toNat ++ bit true ++ bit true ++ bit false) w12 _ _ ((M2 k1 1).toNat) 3 H12 (by have := HKK.out; omega) rfl (by decide) (by unfold Lt63; have := HKK.out; omega) (by omega)).mono ?_
                                  rintro e w13 ⟨rfl, H13, hm13⟩
                                  have hl13 : (L ++ bitsOf 2 2 ++ varL (x - last - 1).toNat ++ bit true ++ bit true ++ bit false ++ bitsOf 3 ((M2 k1 1).toNat)).length ≤ c * 1000 + 86 := by rw [List.length_append]; have := bitsOf_length 3 ((M2 k1 1).toNat); omega
                                  have A13 := A12.mod hm13 (fun h => h HC.out.1)
                                  have B13 := B12.mod hm13 (fun h => h HC.out.2)
                                  have HX13 := Lib.hid hm13
                                  clear hm13 H12 A12 B12 za ca fa zb cb fb hl12
                                  obtain ⟨za, ca, fa⟩ := id A13
                                  obtain ⟨zb, cb, fb⟩ := id B13
                                  go_wp2_with fail
                                  refine (rvec_k S1 p (L ++ bitsOf 2 2 ++ varL (x - last - 1).toNat ++ bit true ++ bit true ++ bit false ++ bitsOf 3 ((M2 k1 1).toNat)) (M2 k1 2) (M2 k1 3) (M2 k1 4) (M1 i1 2) (M1 i1 3) (M1 i1 4) w13 H13 (HK.out 2 (by decide) (by decide)) (HK.out 3 (by decide) (by decide)) (HK.out 4 (by decide) (by decide)) (HI.out 2 (by decide) (by decide)) (HI.out 3 (by decide) (by decide)) (HI.out 4 (by decide) (by decide)) (by omega)).mono ?_
                                  rintro e w14 ⟨rfl, H14, hm14⟩
                                  have hl14 : (L ++ bitsOf 2 2 ++ varL (x - last - 1).toNat ++ bit true ++ bit true ++ bit false ++ bitsOf 3 ((M2 k1 1).toNat) ++ vec3L ((M2 k1 2) - (M1 i1 2)) ((M2 k1 3) - (M1 i1 3)) ((M2 k1 4) - (M1 i1 4))).length ≤ c * 1000 + 320 := by rw [List.length_append]; have := vec3L_le ((M2 k1 2) - (M1 i1 2)) ((M2 k1 3) - (M1 i1 3)) ((M2 k1 4) - (M1 i1 4)); omega
                                  have A14 := A13.mod hm14 (fun h => h HC.out.1)
                                  have B14 := B13.mod hm14 (fun h => h HC.out.2)
                                  have HX14 := Lib.hid hm14
                                  clear hm14 H13 A13 B13 za ca fa zb cb fb hl13
                                  obtain ⟨za, ca, fa⟩ := id A14
                                  obtain ⟨zb, cb, fb⟩ := id B14
                                  go_wp2_with fail
                                  refine (rvec_k S1 p (L ++ bitsOf 2 2 ++ varL (x - last - 1).toNat ++ bit true ++ bit true ++ bit false ++ bitsOf 3 ((M2 k1 1).toNat) ++ vec3L ((M2 k1 2) - (M1 i1 2)) ((M2 k1 3) - (M1 i1 3)) ((M2 k1 4) - (M1 i1 4))) (M2 k1 5) (M2 k1 6) (M2 k1 7) (M1 i1 5) (M1 i1 6) (M1 i1 7) w14 H14 (HK.out 5 (by decide) (by decide)) (HK.out 6 (by decide) (by decide)) (HK.out 7 (by decide) (by decide)) (HI.out 5 (by decide) (by decide)) (HI.out 6 (by decide) (by decide)) (HI.out 7 (by decide) (by decide)) (by omega)).mono ?_
                                  rintro e w15 ⟨rfl, H15, hm15⟩
                                  have hl15 : (L ++ bitsOf 2 2 ++ varL (x - last - 1).toNat ++ bit true ++ bit true ++ bit false ++ bitsOf 3 ((M2 k1 1).toNat) ++ vec3L ((M2 k1 2) - (M1 i1 2)) ((M2 k1 3) - (M1 i1 3)) ((M2 k1 4) - (M1 i1 4)) ++ vec3L ((M2 k1 5) - (M1 i1 5)) ((M2 k1 6) - (M1 i1 6)) ((M2 k1 7) - (M1 i1 7))).length ≤ c * 1000 + 554 := by rw [List.length_append]; have := vec3L_le ((M2 k1 5) - (M1 i1 5)) ((M2 k1 6) - (M1 i1 6)) ((M2 k1 7) - (M1 i1 7)); omega
                                  have A15 := A14.mod hm15 (fun h => h HC.out.1)
                                  have B15 := B14.mod hm15 (fun h => h HC.out.2)
                                  have HX15 := Lib.hid hm15
                                  clear hm15 H14 A14 B14 za ca fa zb cb fb hl14
                                  obtain ⟨za, ca, fa⟩ := id A15
                                  obtain ⟨zb, cb, fb⟩ := id B15
                                  go_wp2
                                  clear za ca fa zb cb fb A15 B15
                                  go_roundw
                                  case rel =>
                                    have e : L ++ bitsOf 2 2 ++ varL (x - last - 1).toNat ++ bit true ++ bit true ++ bit false ++ bitsOf 3 ((M2 k1 1).toNat) ++ vec3L ((M2 k1 2) - (M1 i1 2)) ((M2 k1 3) - (M1 i1 3)) ((M2 k1 4) - (M1 i1 4)) ++ vec3L ((M2 k1 5) - (M1 i1 5)) ((M2 k1 6) - (M1 i1 6)) ((M2 k1 7) - (M1 i1 7)) = L ++ (headL 2 x last ++ changeL M1 i1 M2 k1) := by
                                      unfold headL changeL neS vecD
                                      rw [HSS.out, HSA.out, HSV.out, HSK.out]
                                      simp [List.append_assoc]
                                    rw [e] at H15 hl15
                                    exact ⟨c + 1, x, _, by omega, by go_num, by go_num, HFIN.out, by have := HXX.out; omega, HXX.out.2.2, by omega, H15.mono HSB.out, HM7.out.trans ((((((((HX8.out.trans HX9.out).trans HX10.out).trans HX11.out).trans HX12.out).trans HX13.out).trans HX14.out).trans HX15.out).mono fun b _ h hb => h (HSB.out b hb))⟩
                                  case measure => simp [intOf]; omega
                            | false =>
                              go_wp2_with fail
                              refine (ryes_k S1 p (L ++ bitsOf 2 2 ++ varL (x - last - 1).toNat) true w9 H9 (by omega)).mono ?_
                              rintro e w10 ⟨rfl, H10, hm10⟩
                              have hl10 : (L ++ bitsOf 2 2 ++ varL (x - last - 1).toNat ++ bit true).length ≤ c * 1000 + 81 := by rw [List.length_append]; have := bit_length true; omega
                              have A10 := A9.mod hm10 (fun h => h HC.out.1)
                              have B10 := B9.mod hm10 (fun h => h HC.out.2)
                              have HX10 := Lib.hid hm10
                              clear hm10 H9 A9 B9 za ca fa zb cb fb hl9
                              obtain ⟨za, ca, fa⟩ := id A10
                              obtain ⟨zb, cb, fb⟩ := id B10
                              go_wp2_with fail
                              refine (ryes_k S1 p (L ++ bitsOf 2 2 ++ varL (x - last - 1).toNat ++ bit true) false w10 H10 (by omega)).mono ?_
                              rintro e w11 ⟨rfl, H11, hm11⟩
                              have hl11 : (L ++ bitsOf 2 2 ++ varL (x - last - 1).toNat ++ bit true ++ bit false).length ≤ c * 1000 + 82 := by rw [List.length_append]; have := bit_length false; omega
                              have A11 := A10.mod hm11 (fun h => h HC.out.1)
                              have B11 := B10.mod hm11 (fun h => h HC.out.2)
                              have HX11 := Lib.hid hm11
                              clear hm11 H10 A10 B10 za ca fa zb cb fb hl10
                              obtain ⟨za, ca, fa⟩ := id A11
                              obtain ⟨zb, cb, fb⟩ := id B11
                              cases sV with
                              | true =>
                                as_aux_lemma =>
                                  go_wp2_with fail
                                  refine (ryes_k S1 p (L ++ bitsOf 2 2 ++ varL (x - last - 1).toNat ++ bit true ++ bit false) true w11 H11 (by omega)).mono ?_
                                  rintro e w12 ⟨rfl, H12, hm12⟩
                                  have hl12 : (L ++ bitsOf 2 2 ++ varL (x - last - 1).toNat ++ bit true ++ bit false ++ bit true).length ≤ c * 1000 + 83 := by rw [List.length_append]; have := bit_length true; omega
                                  have A12 := A11.mod hm12 (fun h => h HC.out.1)
                                  have B12 := B11.mod hm12 (fun h => h HC.out.2)
                                  have HX12 := Lib.hid hm12
                                  clear hm12 H11 A11 B11 za ca fa zb cb fb hl11
                                  obtain ⟨za, ca, fa⟩ := id A12
                                  obtain ⟨zb, cb, fb⟩ := id B12
                                  go_wp2_with fail
                                  refine (rput_k S1 p (L ++ bitsOf 2 2 ++ varL (x - last - 1).toNat ++ bit true ++ bit false ++ bit true) w12 _ _ ((M2 k1 1).toNat) 3 H12 (by have := HKK.out; omega) rfl (by decide) (by unfold Lt63; have := HKK.out; omega) (by omega)).mono ?_
                                  rintro e w13 ⟨rfl, H13, hm13⟩
                                  have hl13 : (L ++ bitsOf 2 2 ++ varL (x - last - 1).toNat ++ bit true ++ bit false ++ bit true ++ bitsOf 3 ((M2 k1 1).toNat)).length ≤ c * 1000 + 86 := by rw [List.length_append]; have := bitsOf_length 3 ((M2 k1 1).toNat); omega
                                  have A13 := A12.mod hm13 (fun h => h HC.out.1)
                                  have B13 := B12.mod hm13 (fun h => h HC.out.2)
                                  have HX13 := Lib.hid hm13
                                  clear hm13 H12 A12 B12 za ca fa zb cb fb hl12
                                  obtain ⟨za, ca, fa⟩ := id A13
                                  obtain ⟨zb, cb, fb⟩ := id B13
                                  go_wp2_with fail
                                  refine (rvec_k S1 p (L ++ bitsOf 2 2 ++ varL (x - last - 1).toNat ++ bit true ++ bit false ++ bit true ++ bitsOf 3 ((M2 k1 1).toNat)) (M2 k1 2) (M2 k1 3) (M2 k1 4) (M1 i1 2) (M1 i1 3) (M1 i1 4) w13 H13 (HK.out 2 (by decide) (by decide)) (HK.out 3 (by decide) (by decide)) (HK.out 4 (by decide) (by decide)) (HI.out 2 (by decide) (by decide)) (HI.out 3 (by decide) (by decide)) (HI.out 4 (by decide) (by decide)) (by omega)).mono ?_
                                  rintro e w14 ⟨rfl, H14, hm14⟩
                                  have hl14 : (L ++ bitsOf 2 2 ++ varL (x - last - 1).toNat ++ bit true ++ bit false ++ bit true ++ bitsOf 3 ((M2 k1 1).toNat) ++ vec3L ((M2 k1 2) - (M1 i1 2)) ((M2 k1 3) - (M1 i1 3)) ((M2 k1 4) - (M1 i1 4))).length ≤ c * 1000 + 320 := by rw [List.length_append]; have := vec3L_le ((M2 k1 2) - (M1 i1 2)) ((M2 k1 3) - (M1 i1 3)) ((M2 k1 4) - (M1 i1 4)); omega
                                  have A14 := A13.mod hm14 (fun h => h HC.out.1)
                                  have B14 := B13.mod hm14 (fun h => h HC.out.2)
                                  have HX14 := Lib.hid hm14
                                  clear hm14 H13 A13 B13 za ca fa zb cb fb hl13
                                  obtain ⟨za, ca, fa⟩ := id A14
                                  obtain ⟨zb, cb, fb⟩ := id B14
                                  go_wp2_with fail
                                  refine (rvec_k S1 p (L ++ bitsOf 2 2 ++ varL (x - last - 1).toNat ++ bit true ++ bit false ++ bit true ++ bitsOf 3 ((M2 k1 1).toNat) ++ vec3L ((M2 k1 2) - (M1 i1 2)) ((M2 k1 3) - (M1 i1 3)) ((M2 k1 4) - (M1 i1 4))) (M2 k1 8) (M2 k1 9) (M2 k1 10) (M1 i1 8) (M1 i1 9) (M1 i1 10) w14 H14 (HK.out 8 (by decide) (by decide)) (HK.out 9 (by decide) (by decide)) (HK.out 10 (by decide) (by decide)) (HI.out 8 (by decide) (by decide)) (HI.out 9 (by decide) (by decide)) (HI.out 10 (by decide) (by decide)) (by omega)).mono ?_
                                  rintro e w15 ⟨rfl, H15, hm15⟩
                                  have hl15 : (L ++ bitsOf 2 2 ++ varL (x - last - 1).toNat ++ bit true ++ bit false ++ bit true ++ bitsOf 3 ((M2 k1 1).toNat) ++ vec3L ((M2 k1 2) - (M1 i1 2)) ((M2 k1 3) - (M1 i1 3)) ((M2 k1 4) - (M1 i1 4)) ++ vec3L ((M2 k1 8) - (M1 i1 8)) ((M2 k1 9) - (M1 i1 9)) ((M2 k1 10) - (M1 i1 10))).length ≤ c * 1000 + 554 := by rw [List.length_append]; have := vec3L_le ((M2 k1 8) - (M1 i1 8)) ((M2 k1 9) - (M1 i1 9)) ((M2 k1 10) - (M1 i1 10)); omega
                                  have A15 := A14.mod hm15 (fun h => h HC.out.1)
                                  have B15 := B14.mod hm15 (fun h => h HC.out.2)
                                  have HX15 := Lib.hid hm15
                                  clear hm15 H14 A14 B14 za ca fa zb cb fb hl14
                                  obtain ⟨za, ca, fa⟩ := id A15
                                  obtain ⟨zb, cb, fb⟩ := id B15
                                  go_wp2
                                  clear za ca fa zb cb fb A15 B15
                                  go_roundw
                                  case rel =>
                                    have e : L ++ bitsOf 2 2 ++ varL (x - last - 1).toNat ++ bit true ++ bit false ++ bit true ++ bitsOf 3 ((M2 k1 1).toNat) ++ vec3L ((M2 k1 2) - (M1 i1 2)) ((M2 k1 3) - (M1 i1 3)) ((M2 k1 4) - (M1 i1 4)) ++ vec3L ((M2 k1 8) - (M1 i1 8)) ((M2 k1 9) - (M1 i1 9)) ((M2 k1 10) - (M1 i1 10)) = L ++ (headL 2 x last ++ changeL M1 i1 M2 k1) := by
                                      unfold headL changeL neS vecD
                                      rw [HSS.out, HSA.out, HSV.out, HSK.out]
                                      simp [List.append_assoc]
                                    rw [e] at H15 hl15
                                    exact ⟨c + 1, x, _, by omega, by go_num, by go_num, HFIN.out, by have := HXX.out; omega, HXX.out.2.2, by omega, H15.mono HSB.out, HM7.out.trans ((((((((HX8.out.trans HX9.out).trans HX10.out).trans HX11.out).trans HX12.out).trans HX13.out).trans HX14.out).trans HX15.out).mono fun b _ h hb => h (HSB.out b hb))⟩
                                  case measure => simp [intOf]; omega
                              | false =>
                                as_aux_lemma =>
                                  go_wp2_with fail
                                  refine (ryes_k S1 p (L ++ bitsOf 2 2 ++ varL (x - last - 1).toNat ++ bit true ++ bit false) false w11 H11 (by omega)).mono ?_
                                  rintro e w12 ⟨rfl, H12, hm12⟩
                                  have hl12 : (L ++ bitsOf 2 2 ++ varL (x - last - 1).toNat ++ bit true ++ bit false ++ bit false).length ≤ c * 1000 + 83 := by rw [List.length_append]; have := bit_length false; omega
                                  have A12 := A11.mod hm12 (fun h => h HC.out.1)
                                  have B12 := B11.mod hm12 (fun h => h HC.out.2)
                                  have HX12 := Lib.hid hm12
                                  clear hm12 H11 A11 B11 za ca fa zb cb fb hl11
                                  obtain ⟨za, ca, fa⟩ := id A12
                                  obtain ⟨zb, cb, fb⟩ := id B12
                                  go_wp2_with fail
                                  refine (rput_k S1 p (L ++ bitsOf 2 2 ++ varL (x - last - 1).toNat ++ bit true ++ bit false ++ bit false) w12 _ _ ((M2 k1 1).toNat) 3 H12 (by have := HKK.out; omega) rfl (by decide) (by unfold Lt63; have := HKK.out; omega) (by omega)).mono ?_
                                  rintro e w13 ⟨rfl, H13, hm13⟩
                                  have hl13 : (L ++ bitsOf 2 2 ++ varL (x - last - 1).toNat ++ bit true ++ bit false ++ bit false ++ bitsOf 3 ((M2 k1 1).toNat)).length ≤ c * 1000 + 86 := by rw [List.length_append]; have := bitsOf_length 3 ((M2 k1 1).toNat); omega
                                  have A13 := A12.mod hm13 (fun h => h HC.out.1)
                                  have B13 := B12.mod hm13 (fun h => h HC.out.2)
                                  have HX13 := Lib.hid hm13
                                  clear hm13 H12 A12 B12 za ca fa zb cb fb hl12
                                  obtain ⟨za, ca, fa⟩ := id A13
                                  obtain ⟨zb, cb, fb⟩ := id B13
                                  go_wp2_with fail
                                  refine (rvec_k S1 p (L ++ bitsOf 2 2 ++ varL (x - last - 1).toNat ++ bit true ++ bit false ++ bit false ++ bitsOf 3 ((M2 k1 1).toNat)) (M2 k1 2) (M2 k1 3) (M2 k1 4) (M1 i1 2) (M1 i1 3) (M1 i1 4) w13 H13 (HK.out 2 (by decide) (by decide)) (HK.out 3 (by decide) (by decide)) (HK.out 4 (by decide) (by decide)) (HI.out 2 (by decide) (by decide)) (HI.out 3 (by decide) (by decide)) (HI.out 4 (by decide) (by decide)) (by omega)).mono ?_
                                  rintro e w14 ⟨rfl, H14, hm14⟩
                                  have hl14 : (L ++ bitsOf 2 2 ++ varL (x - last - 1).toNat ++ bit true ++ bit false ++ bit false ++ bitsOf 3 ((M2 k1 1).toNat) ++ vec3L ((M2 k1 2) - (M1 i1 2)) ((M2 k1 3) - (M1 i1 3)) ((M2 k1 4) - (M1 i1 4))).length ≤ c * 1000 + 320 := by rw [List.length_append]; have := vec3L_le ((M2 k1 2) - (M1 i1 2)) ((M2 k1 3) - (M1 i1 3)) ((M2 k1 4) - (M1 i1 4)); omega
                                  have A14 := A13.mod hm14 (fun h => h HC.out.1)
                                  have B14 := B13.mod hm14 (fun h => h HC.out.2)
                                  have HX14 := Lib.hid hm14
                                  clear hm14 H13 A13 B13 za ca fa zb cb fb hl13
                                  obtain ⟨za, ca, fa⟩ := id A14
                                  obtain ⟨zb, cb, fb⟩ := id B14
                                  go_wp2
                                  clear za ca fa zb cb fb A14 B14
                                  go_roundw
                                  case rel =>
                                    have e : L ++ bitsOf 2 2 ++ varL (x - last - 1).toNat ++ bit true ++ bit false ++ bit false ++ bitsOf 3 ((M2 k1 1).toNat) ++ vec3L ((M2 k1 2) - (M1 i1 2)) ((M2 k1 3) - (M1 i1 3)) ((M2 k1 4) - (M1 i1 4)) = L ++ (headL 2 x last ++ changeL M1 i1 M2 k1) := by
                                      unfold headL changeL neS vecD
                                      rw [HSS.out, HSA.out, HSV.out, HSK.out]
                                      simp [List.append_assoc]
                                    rw [e] at H14 hl14
                                    exact ⟨c + 1, x, _, by omega, by go_num, by go_num, HFIN.out, by have := HXX.out; omega, HXX.out.2.2, by omega, H14.mono HSB.out, HM7.out.trans (((((((HX8.out.trans HX9.out).trans HX10.out).trans HX11.out).trans HX12.out).trans HX13.out).trans HX14.out).mono fun b _ h hb => h (HSB.out b hb))⟩
                                  case measure => simp [intOf]; omega
                          | false =>
                            cases sA with
                            | true =>
                              go_wp2_with fail
                              refine (ryes_k S1 p (L ++ bitsOf 2 2 ++ varL (x - last - 1).toNat) false w9 H9 (by omega)).mono ?_
                              rintro e w10 ⟨rfl, H10, hm10⟩
                              have hl10 : (L ++ bitsOf 2 2 ++ varL (x - last - 1).toNat ++ bit false).length ≤ c * 1000 + 81 := by rw [List.length_append]; have := bit_length false; omega
                              have A10 := A9.mod hm10 (fun h => h HC.out.1)
                              have B10 := B9.mod hm10 (fun h => h HC.out.2)
                              have HX10 := Lib.hid hm10
                              clear hm10 H9 A9 B9 za ca fa zb cb fb hl9
                              obtain ⟨za, ca, fa⟩ := id A10
                              obtain ⟨zb, cb, fb⟩ := id B10
                              go_wp2_with fail
                              refine (ryes_k S1 p (L ++ bitsOf 2 2 ++ varL (x - last - 1).toNat ++ bit false) true w10 H10 (by omega)).mono ?_
                              rintro e w11 ⟨rfl, H11, hm11⟩
                              have hl11 : (L ++ bitsOf 2 2 ++ varL (x - last - 1).toNat ++ bit false ++ bit true).length ≤ c * 1000 + 82 := by rw [List.length_append]; have := bit_length true; omega
                              have A11 := A10.mod hm11 (fun h => h HC.out.1)
                              have B11 := B10.mod hm11 (fun h => h HC.out.2)
                              have HX11 := Lib.hid hm11
                              clear hm11 H10 A10 B10 za ca fa zb cb fb hl10
                              obtain ⟨za, ca, fa⟩ := id A11
                              obtain ⟨zb, cb, fb⟩ := id B11
                              cases sV with
                              | true =>
                                as_aux_lemma =>
                                  go_wp2_with fail
                                  refine (ryes_k S1 p (L ++ bitsOf 2 2 ++ varL (x - last - 1).toNat ++ bit false ++ bit true) true w11 H11 (by omega)).mono ?_
                                  rintro e w12 ⟨rfl, H12, hm12⟩
                                  have hl12 : (L ++ bitsOf 2 2 ++ varL (x - last - 1).toNat ++ bit false ++ bit true ++ bit true).length ≤ c * 1000 + 83 := by rw [List.length_append]; have := bit_length true; omega
                                  have A12 := A11.mod hm12 (fun h => h HC.out.1)
                                  have B12 := B11.mod hm12 (fun h => h HC.out.2)
                                  have HX12 := Lib.hid hm12
                                  clear hm12 H11 A11 B11 za ca fa zb cb fb hl11
                                  obtain ⟨za, ca, fa⟩ := id A12
                                  obtain ⟨zb, cb, fb⟩ := id B12
                                  go_wp2_with fail
                                  refine (rvec_k S1 p (L ++ bitsOf 2 2 ++ varL (x - last - 1).toNat ++ bit false ++ bit true ++ bit true) (M2 k1 5) (M2 k1 6) (M2 k1 7) (M1 i1 5) (M1 i1 6) (M1 i1 7) w12 H12 (HK.out 5 (by decide) (by decide)) (HK.out 6 (by decide) (by decide)) (HK.out 7 (by decide) (by decide)) (HI.out 5 (by decide) (by decide)) (HI.out 6 (by decide) (by decide)) (HI.out 7 (by decide) (by decide)) (by omega)).mono ?_
                                  rintro e w13 ⟨rfl, H13, hm13⟩
                                  have hl13 : (L ++ bitsOf 2 2 ++ varL (x - last - 1).toNat ++ bit false ++ bit true ++ bit true ++ vec3L ((M2 k1 5) - (M1 i1 5)) ((M2 k1 6) - (M1 i1 6)) ((M2 k1 7) - (M1 i1 7))).length ≤ c * 1000 + 317 := by rw [List.length_append]; have := vec3L_le ((M2 k1 5) - (M1 i1 5)) ((M2 k1 6) - (M1 i1 6)) ((M2 k1 7) - (M1 i1 7)); omega
                                  have A13 := A12.mod hm13 (fun h => h HC.out.1)
                                  have B13 := B12.mod hm13 (fun h => h HC.out.2)
                                  have HX13 := Lib.hid hm13
                                  clear hm13 H12 A12 B12 za ca fa zb cb fb hl12
                                  obtain ⟨za, ca, fa⟩ := id A13
                                  obtain ⟨zb, cb, fb⟩ := id B13
                                  go_wp2_with fail
                                  refine (rvec_k S1 p (L ++ bitsOf 2 2 ++ varL (x - last - 1).toNat ++ bit false ++ bit true ++ bit true ++ vec3L ((M2 k1 5) - (M1 i1 5)) ((M2 k1 6) - (M1 i1 6)) ((M2 k1 7) - (M1 i1 7))) (M2 k1 8) (M2 k1 9) (M2 k1 10) (M1 i1 8) (M1 i1 9) (M1 i1 10) w13 H13 (HK.out 8 (by decide) (by decide)) (HK.out 9 (by decide) (by decide)) (HK.out 10 (by decide) (by decide)) (HI.out 8 (by decide) (by decide)) (HI.out 9 (by decide) (by decide)) (HI.out 10 (by decide) (by decide)) (by omega)).mono ?_
                                  rintro e w14 ⟨rfl, H14, hm14⟩
                                  have hl14 : (L ++ bitsOf 2 2 ++ varL (x - last - 1).toNat ++ bit false ++ bit true ++ bit true ++ vec3L ((M2 k1 5) - (M1 i1 5)) ((M2 k1 6) - (M1 i1 6)) ((M2 k1 7) - (M1 i1 7)) ++ vec3L ((M2 k1 8) - (M1 i1 8)) ((M2 k1 9) - (M1 i1 9)) ((M2 k1 10) - (M1 i1 10))).length ≤ c * 1000 + 551 := by rw [List.length_append]; have := vec3L_le ((M2 k1 8) - (M1 i1 8)) ((M2 k1 9) - (M1 i1 9)) ((M2 k1 10) - (M1 i1 10)); omega
                                  have A14 := A13.mod hm14 (fun h => h HC.out.1)
                                  have B14 := B13.mod hm14 (fun h => h HC.out.2)
                                  have HX14 := Lib.hid hm14
                                  clear hm14 H13 A13 B13 za ca fa zb cb fb hl13
                                  obtain ⟨za, ca, fa⟩ := id A14
                                  obtain ⟨zb, cb, fb⟩ := id B14
                                  go_wp2
                                  clear za ca fa zb cb fb A14 B14
                                  go_roundw
                                  case rel =>
                                    have e : L ++ bitsOf 2 2 ++ varL (x - last - 1).toNat ++ bit false ++ bit true ++ bit true ++ vec3L ((M2 k1 5) - (M1 i1 5)) ((M2 k1 6) - (M1 i1 6)) ((M2 k1 7) - (M1 i1 7)) ++ vec3L ((M2 k1 8) - (M1 i1 8)) ((M2 k1 9) - (M1 i1 9)) ((M2 k1 10) - (M1 i1 10)) = L ++ (headL 2 x last ++ changeL M1 i1 M2 k1) := by
                                      unfold headL changeL neS vecD
                                      rw [HSS.out, HSA.out, HSV.out, HSK.out]
                                      simp [List.append_assoc]
                                    rw [e] at H14 hl14
                                    exact ⟨c + 1, x, _, by omega, by go_num, by go_num, HFIN.out, by have := HXX.out; omega, HXX.out.2.2, by omega, H14.mono HSB.out, HM7.out.trans (((((((HX8.out.trans HX9.out).trans HX10.out).trans HX11.out).trans HX12.out).trans HX13.out).trans HX14.out).mono fun b _ h hb => h (HSB.out b hb))⟩
                                  case measure => simp [intOf]; omega
                              | false =>
                                as_aux_lemma =>
                                  go_wp2_with fail
                                  refine (ryes_k S1 p (L ++ bitsOf 2 2 ++ varL (x - last - 1).toNat ++ bit false ++ bit true) false w11 H11 (by omega)).mono ?_
                                  rintro e w12 ⟨rfl, H12, hm12⟩
                                  have hl12 : (L ++ bitsOf 2 2 ++ varL (x - last - 1).toNat ++ bit false ++ bit true ++ bit false).length ≤ c * 1000 + 83 := by rw [List.length_append]; have := bit_length false; omega
                                  have A12 := A11.mod hm12 (fun h => h HC.out.1)
                                  have B12 := B11.mod hm12 (fun h => h HC.out.2)
                                  have HX12 := Lib.hid hm12
                                  clear hm12 H11 A11 B11 za ca fa zb cb fb hl11
                                  obtain ⟨za, ca, fa⟩ := id A12
                                  obtain ⟨zb, cb, fb⟩ := id B12
                                  go_wp2_with fail
                                  refine (rvec_k S1 p (L ++ bitsOf 2 2 ++ varL (x - last - 1).toNat ++ bit false ++ bit true ++ bit false) (M2 k1 5) (M2 k1 6) (M2 k1 7) (M1 i1 5) (M1 i1 6) (M1 i1 7) w12 H12 (HK.out 5 (by decide) (by decide)) (HK.out 6 (by decide) (by decide)) (HK.out 7 (by decide) (by decide)) (HI.out 5 (by decide) (by decide)) (HI.out 6 (by decide) (by decide)) (HI.out 7 (by decide) (by decide)) (by omega)).mono ?_
                                  rintro e w13 ⟨rfl, H13, hm13⟩
                                  have hl13 : (L ++ bitsOf 2 2 ++ varL (x - last - 1).toNat ++ bit false ++ bit true ++ bit false ++ vec3L ((M2 k1 5) - (M1 i1 5)) ((M2 k1 6) - (M1 i1 6)) ((M2 k1 7) - (M1 i1 7))).length ≤ c * 1000 + 317 := by rw [List.length_append]; have := vec3L_le ((M2 k1 5) - (M1 i1 5)) ((M2 k1 6) - (M1 i1 6)) ((M2 k1 7) - (M1 i1 7)); omega
                                  have A13 := A12.mod hm13 (fun h => h HC.out.1)
                                  have B13 := B12.mod hm13 (fun h => h HC.out.2)
                                  have HX13 := Lib.hid hm13
                                  clear hm13 H12 A12 B12 za ca fa zb cb fb hl12
                                  obtain ⟨za, ca, fa⟩ := id A13
                                  obtain ⟨zb, cb, fb⟩ := id B13
                                  go_wp2
                                  clear za ca fa zb cb fb A13 B13
                                  go_roundw
                                  case rel =>
                                    have e : L ++ bitsOf 2 2 ++ varL (x - last - 1).toNat ++ bit false ++ bit true ++ bit false ++ vec3L ((M2 k1 5) - (M1 i1 5)) ((M2 k1 6) - (M1 i1 6)) ((M2 k1 7) - (M1 i1 7)) = L ++ (headL 2 x last ++ changeL M1 i1 M2 k1) := by
                                      unfold headL changeL neS vecD
                                      rw [HSS.out, HSA.out, HSV.out, HSK.out]
                                      simp [List.append_assoc]
                                    rw [e] at H13 hl13
                                    exact ⟨c + 1, x, _, by omega, by go_num, by go_num, HFIN.out, by have := HXX.out; omega, HXX.out.2.2, by omega, H13.mono HSB.out, HM7.out.trans ((((((HX8.out.trans HX9.out).trans HX10.out).trans HX11.out).trans HX12.out).trans HX13.out).mono fun b _ h hb => h (HSB.out b hb))⟩
                                  case measure => simp [intOf]; omega
                            | false =>
                              go_wp2_with fail
                              refine (ryes_k S1 p (L ++ bitsOf 2 2 ++ varL (x - last - 1).toNat) false w9 H9 (by omega)).mono ?_
                              rintro e w10 ⟨rfl, H10, hm10⟩
                              have hl10 : (L ++ bitsOf 2 2 ++ varL (x - last - 1).toNat ++ bit false).length ≤ c * 1000 + 81 := by rw [List.length_append]; have := bit_length false; omega
                              have A10 := A9.mod hm10 (fun h => h HC.out.1)
                              have B10 := B9.mod hm10 (fun h => h HC.out.2)
                              have HX10 := Lib.hid hm10
                              clear hm10 H9 A9 B9 za ca fa zb cb fb hl9
                              obtain ⟨za, ca, fa⟩ := id A10
                              obtain ⟨zb, cb, fb⟩ := id B10
                              go_wp2_with fail
                              refine (ryes_k S1 p (L ++ bitsOf 2 2 ++ varL (x - last - 1).toNat ++ bit false) false w10 H10 (by omega)).mono ?_
                              rintro e w11 ⟨rfl, H11, hm11⟩
                              have hl11 : (L ++ bitsOf 2 2 ++ varL (x - last - 1).toNat ++ bit false ++ bit false).length ≤ c * 1000 + 82 := by rw [List.length_append]; have := bit_length false; omega
                              have A11 := A10.mod hm11 (fun h => h HC.out.1)
                              have B11 := B10.mod hm11 (fun h => h HC.out.2)
                              have HX11 := Lib.hid hm11
                              clear hm11 H10 A10 B10 za ca fa zb cb fb hl10
                              obtain ⟨za, ca, fa⟩ := id A11
                              obtain ⟨zb, cb, fb⟩ := id B11
                              cases sV with
                              | true =>
                                as_aux_lemma =>
                                  go_wp2_with fail
                                  refine (ryes_k S1 p (L ++ bitsOf 2 2 ++ varL (x - last - 1).toNat ++ bit false ++ bit false) true w11 H11 (by omega)).mono ?_
                                  rintro e w12 ⟨rfl, H12, hm12⟩
                                  have hl12 : (L ++ bitsOf 2 2 ++ varL (x - last - 1).toNat ++ bit false ++ bit false ++ bit true).length ≤ c * 1000 + 83 := by rw [List.length_append]; have := bit_length true; omega
                                  have A12 := A11.mod hm12 (fun h => h HC.out.1)
                                  have B12 := B11.mod hm12 (fun h => h HC.out.2)
                                  have HX12 := Lib.hid hm12
                                  clear hm12 H11 A11 B11 za ca fa zb cb fb hl11
                                  obtain ⟨za, ca, fa⟩ := id A12
                                  obtain ⟨zb, cb, fb⟩ := id B12
                                  go_wp2_with fail
                                  refine (rvec_k S1 p (L ++ bitsOf 2 2 ++ varL (x - last - 1).toNat ++ bit false ++ bit false ++ bit true) (M2 k1 8) (M2 k1 9) (M2 k1 10) (M1 i1 8) (M1 i1 9) (M1 i1 10) w12 H12 (HK.out 8 (by decide) (by decide)) (HK.out 9 (by decide) (by decide)) (HK.out 10 (by decide) (by decide)) (HI.out 8 (by decide) (by decide)) (HI.out 9 (by decide) (by decide)) (HI.out 10 (by decide) (by decide)) (by omega)).mono ?_
                                  rintro e w13 ⟨rfl, H13, hm13⟩
                                  have hl13 : (L ++ bitsOf 2 2 ++ varL (x - last - 1).toNat ++ bit false ++ bit false ++ bit true ++ vec3L ((M2 k1 8) - (M1 i1 8)) ((M2 k1 9) - (M1 i1 9)) ((M2 k1 10) - (M1 i1 10))).length ≤ c * 1000 + 317 := by rw [List.length_append]; have := vec3L_le ((M2 k1 8) - (M1 i1 8)) ((M2 k1 9) - (M1 i1 9)) ((M2 k1 10) - (M1 i1 10)); omega
                                  have A13 := A12.mod hm13 (fun h => h HC.out.1)
                                  have B13 := B12.mod hm13 (fun h => h HC.out.2)
                                  have HX13 := Lib.hid hm13
                                  clear hm13 H12 A12 B12 za ca fa zb cb fb hl12
                                  obtain ⟨za, ca, fa⟩ := id A13
                                  obtain ⟨zb, cb, fb⟩ := id B13
                                  go_wp2
                                  clear za ca fa zb cb fb A13 B13
                                  go_roundw
                                  case rel =>
                                    have e : L ++ bitsOf 2 2 ++ varL (x - last - 1).toNat ++ bit false ++ bit false ++ bit true ++ vec3L ((M2 k1 8) - (M1 i1 8)) ((M2 k1 9) - (M1 i1 9)) ((M2 k1 10) - (M1 i1 10)) = L ++ (headL 2 x last ++ changeL M1 i1 M2 k1) := by
                                      unfold headL changeL neS vecD
                                      rw [HSS.out, HSA.out, HSV.out, HSK.out]
                                      simp [List.append_assoc]
                                    rw [e] at H13 hl13
                                    exact ⟨c + 1, x, _, by omega, by go_num, by go_num, HFIN.out, by have := HXX.out; omega, HXX.out.2.2, by omega, H13.mono HSB.out, HM7.out.trans ((((((HX8.out.trans HX9.out).trans HX10.out).trans HX11.out).trans HX12.out).trans HX13.out).mono fun b _ h hb => h (HSB.out b hb))⟩
                                  case measure => simp [intOf]; omega
                              | false =>
                                as_aux_lemma =>
                                  go_wp2_with fail
                                  refine (ryes_k S1 p (L ++ bitsOf 2 2 ++ varL (x - last - 1).toNat ++ bit false ++ bit false) false w11 H11 (by omega)).mono ?_
                                  rintro e w12 ⟨rfl, H12, hm12⟩
                                  have hl12 : (L ++ bitsOf 2 2 ++ varL (x - last - 1).toNat ++ bit false ++ bit false ++ bit false).length ≤ c * 1000 + 83 := by rw [List.length_append]; have := bit_length false; omega
                                  have A12 := A11.mod hm12 (fun h => h HC.out.1)
                                  have B12 := B11.mod hm12 (fun h => h HC.out.2)
                                  have HX12 := Lib.hid hm12
                                  clear hm12 H11 A11 B11 za ca fa zb cb fb hl11
                                  obtain ⟨za, ca, fa⟩ := id A12
                                  obtain ⟨zb, cb, fb⟩ := id B12
                                  go_wp2
                                  clear za ca fa zb cb fb A12 B12
                                  go_roundw
                                  case rel =>
                                    have e : L ++ bitsOf 2 2 ++ varL (x - last - 1).toNat ++ bit false ++ bit false ++ bit false = L ++ (headL 2 x last ++ changeL M1 i1 M2 k1) := by
                                      unfold headL changeL neS vecD
                                      rw [HSS.out, HSA.out, HSV.out, HSK.out]
                                      simp [List.append_assoc]
                                    rw [e] at H12 hl12
                                    exact ⟨c + 1, x, _, by omega, by go_num, by go_num, HFIN.out, by have := HXX.out; omega, HXX.out.2.2, by omega, H12.mono HSB.out, HM7.out.trans (((((HX8.out.trans HX9.out).trans HX10.out).trans HX11.out).trans HX12.out).mono fun b _ h hb => h (HSB.out b hb))⟩
                                  case measure => simp [intOf]; omega
                  · have HFIN : Hid (L ++ headL 0 x last ++ restR M1 n1 M2 n2 (l.drop (c + 1)) x = deltaL M1 n1 M2 n2) := Lib.hid (by rw [← HLX.out, restR_gone hk1]; simp only [List.append_assoc])
                    obtain ⟨z6, c6, f6⟩ := id A6
                    clear hb1 hr1 hk1 HLX
                    go_wp2_with fail
                    refine calls_fresh ?_
                    rintro w7 hb7
                    have B7 : Blk w7 w6.heap.size #[.int .i64 0, .int .i64 0, .int .i64 0, .int .i64 0, .int .i64 0, .int .i64 0, .int .i64 0, .int .i64 0, .int .i64 0, .int .i64 0, .int .i64 0] := Blk.below (by repeat (with_reducible (first | assumption | (apply Blk.at; simp; done) | apply Blk.alloc | apply Blk.drew | apply Blk.drewN | apply Blk.more | apply Blk.put | (apply Blk.far; focus (first | assumption | (apply Ne.symm; assumption) | (simp; done) | (simp <;> omega)))))) hb7
                    have hv7' : Below w6.heap.size w6 w7 := (by repeat (with_reducible (first | exact Below.refl _ _ | assumption | apply ext_drew | apply ext_drewN | apply ext_alloc | apply ext_more | (refine ext_setCell ?_ (by first | assumption | (simp <;> omega)) _) | (refine ext_below ?_ (by assumption)))))
                    have A7 := A6.below hv7'
                    have hv7 : Below w4.heap.size w4 w7 := hv6.trans (hv7'.mono hv6.size)
                    obtain ⟨S1, hS1⟩ : ∃ S1 : Nat → Prop, S1 = fun b => S b ∨ (w4.heap.size ≤ b ∧ b < w7.heap.size) := ⟨_, rfl⟩
                    have H7 : Rk S1 w7 p L := by rw [hS1]; exact HW4.out.fresh hv7
                    have HSB : Hid (∀ b, S b → S1 b) := Lib.hid (fun b hb => by rw [hS1]; exact .inl hb)
                    have HC : Hid (S1 w4.heap.size ∧ S1 w6.heap.size) := Lib.hid (by have := A7.lt; have := B7.lt; have := hv6.size; rw [hS1]; exact ⟨.inr ⟨by omega, by omega⟩, .inr ⟨by omega, by omega⟩⟩)
                    have HM7 : Hid (Mod (fun b => ¬ S b) wv w7) := Lib.hid (HM4.out.below hv7)
                    obtain ⟨u1, hu1⟩ : ∃ u, u = w4.heap.size := ⟨_, rfl⟩
                    obtain ⟨u2, hu2⟩ : ∃ u, u = w6.heap.size := ⟨_, rfl⟩
                    rw [← hu1, ← hu2] at HC
                    rw [← hu1] at A7
                    rw [← hu2] at B7
                    try rw [← hu1]
                    try rw [← hu2]
                    clear hS1 hb7 hv7 hv7' hv6 HW4 HM4 A6 z6 c6 f6 hu1 hu2
                    obtain ⟨za, ca, fa⟩ := id A7
                    obtain ⟨zb, cb, fb⟩ := id B7
                    have hl7 : L.length ≤ c * 1000 + 0 := hlen
                    as_aux_lemma =>
                      refine (rput_k S1 p (L) w7 _ _ 0 2 H7 rfl rfl (by decide) (by unfold Lt63; decide) (by omega)).mono ?_
                      rintro e w8 ⟨rfl, H8, hm8⟩
                      have hl8 : (L ++ bitsOf 2 0).length ≤ c * 1000 + 2 := by rw [List.length_append]; have := bitsOf_length 2 0; omega
                      have A8 := A7.mod hm8 (fun h => h HC.out.1)
                      have B8 := B7.mod hm8 (fun h => h HC.out.2)
                      have HX8 := Lib.hid hm8
                      clear hm8 H7 A7 B7 za ca fa zb cb fb hl7
                      obtain ⟨za, ca, fa⟩ := id A8
                      obtain ⟨zb, cb, fb⟩ := id B8
                      have hx1 := HXX.out.1
                      have hx2 := HXX.out.2.1
                      go_wp2_with fail
                      refine (rvar_k S1 p (L ++ bitsOf 2 0) w8 _ (x - last - 1).toNat H8 (by have := HXX.out.1; omega) (by unfold Lt62; have := HXX.out.1; have := HXX.out.2.1; omega) (by omega)).mono ?_
                      rintro e w9 ⟨rfl, H9, hm9⟩
                      have hl9 : (L ++ bitsOf 2 0 ++ varL (x - last - 1).toNat).length ≤ c * 1000 + 80 := by rw [List.length_append]; have := varL_le (x - last - 1).toNat; omega
                      have A9 := A8.mod hm9 (fun h => h HC.out.1)
                      have B9 := B8.mod hm9 (fun h => h HC.out.2)
                      have HX9 := Lib.hid hm9
                      clear hm9 H8 A8 B8 za ca fa zb cb fb hl8
                      obtain ⟨za, ca, fa⟩ := id A9
                      obtain ⟨zb, cb, fb⟩ := id B9
                      clear hx1 hx2
                      go_wp2
                      clear za ca fa zb cb fb A9 B9
                      go_roundw
                      case rel =>
                        have e : L ++ bitsOf 2 0 ++ varL (x - last - 1).toNat = L ++ headL 0 x last := by
                          unfold headL
                          simp only [List.append_assoc]
                        rw [e] at H9 hl9
                        exact ⟨c + 1, x, _, by omega, by go_num, by go_num, HFIN.out, by have := HXX.out; omega, HXX.out.2.2, by omega, H9.mono HSB.out, HM7.out.trans ((HX8.out.trans HX9.out).mono fun b _ h hb => h (HSB.out b hb))⟩
                      case measure => simp [intOf]; omega
                · have hce : l.length = c := by omega
                  have HD : Hid (L ++ bitsOf 2 3 = deltaL M1 n1 M2 n2) := Lib.hid (by
                    have := HL.out
                    rw [← hce, List.drop_length] at this
                    exact this)
                  go_wp2_with fail
                  refine (rput_k S p L _ _ _ 3 2 HW.out rfl rfl (by decide) (by unfold Lt63; decide) (by omega)).mono ?_
                  rintro e w4 ⟨rfl, H4, hm4⟩
                  rw [HD.out] at H4
                  have HB4 := HBE.out _ (HM.out.trans hm4)
                  have HK4 := Lib.hid H4
                  clear hm4 HW HM H4 HIDS
                  obtain ⟨v, hRb, _⟩ := HK4.out
                  obtain ⟨A, c', hcell, hrdb, _⟩ := ro_cell ⟨v, hRb⟩
                  have HBIN := Lib.hid hRb.bin
                  have zp := hRb.blk.lt
                  have HRD := Lib.hid hrdb
                  obtain ⟨N, hN⟩ : ∃ N, N = (deltaL M1 n1 M2 n2).length := ⟨_, rfl⟩
                  rw [← hN] at hcell HRD
                  have HN := Lib.hid hN
                  clear hRb hrdb hN HK4
                  by_cases h : 31872 < N
                  · have d : decide (31872 < (N : Int)) = true := decide_eq_true (by omega)
                    have HT : Hid (31872 < (deltaL M1 n1 M2 n2).length) := Lib.hid (by rw [← HN.out]; exact h)
                    clear h
                    go_wp2
                    exact bodyPost_ret (v := .tuple #[.slice none 0 0, .int .i64 4]) (by simp [results, Try.results8, go_sem, *]) rfl ⟨.inr (.inl ⟨HY1.out, HY2.out, HT.out, rfl⟩), HB4⟩
                  · have d : decide (31872 < (N : Int)) = false := decide_eq_false (by omega)
                    have HT : Hid (¬ 31872 < (deltaL M1 n1 M2 n2).length) := Lib.hid (by rw [← HN.out]; exact h)
                    clear h
                    go_wp2_with fail
                    refine (rbytes_o _ (deltaL M1 n1 M2 n2) _ HRD.out HBIN.out (by have := HT.out; omega)).mono ?_
                    rintro e w5 ⟨D, c2, rfl, hBs, hb5⟩
                    have HBS := Lib.hid hBs
                    clear hBs
                    go_wp2
                    exact bodyPost_ret (v := .tuple #[.slice D (pack (deltaL M1 n1 M2 n2)).length c2, .int .i64 0]) (by simp [results, Try.results8, go_sem, *]) rfl ⟨.inr (.inr ⟨HY1.out, HY2.out, HT.out, D, c2, _, HB4.size, rfl, HBS.out⟩), HB4.trans (hb5.mono HB4.size)⟩

end Go.Proofs.Ytefhmbmbhiehdaa
