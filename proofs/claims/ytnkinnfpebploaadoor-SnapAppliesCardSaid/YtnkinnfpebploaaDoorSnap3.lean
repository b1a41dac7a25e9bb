/- The contract of gyreref.RightView. Conditions: none. -/
import Derived.Test.YtnkinnfpebploaaDoorSnap1
import Derived.Test.YtnkinnfpebploaaDoorMod
namespace Go.Proofs.YtnkinnfpebploaaDoor
open Go.ChangeShapes Go.WideShapes Go.ChangeAt Go.RowKit Go.BigFrame

theorem parts_c (a1 a2 a3 : Int) (w : World) : Calls Tryd.prog 69 #[.agg #[.int .i64 a1, .int .i64 a2, .int .i64 a3]] w fun e w' => e = .returned (.slice (some ⟨w.heap.size + 1, 0, none⟩) 3 3) ∧ Blk w' (w.heap.size + 1) #[.int .i64 a1, .int .i64 a2, .int .i64 a3] ∧ Below w.heap.size w w' := by
  go_enter Tryd.func69, Tryd.ntmps69
  go_wp2
  go_ret
  exact ⟨rfl, Blk.at _ _ _ _ (by simp), (by repeat (with_reducible (first | exact Below.refl _ _ | assumption | apply ext_drew | apply ext_drewN | apply ext_alloc | apply ext_more | (refine ext_setCell ?_ (by first | assumption | (simp <;> omega)) _) | (refine ext_below ?_ (by assumption)))))⟩

set_option maxRecDepth 100000 in
set_option maxHeartbeats 8000000 in
theorem rright_c (n : Nat) (A : Option Addr) (cap : Nat) (M : Nat → Nat → Int) (w : World) (hn : n ≤ 9223372036854775807) (hR : Reads w A n 11 M) :
    Calls Tryd.prog 54 #[.slice A n cap] w fun e w' => ∃ d : Bool, e = .returned (.bool d) ∧ (d = true ↔ RightV n M) ∧ Below w.heap.size w w' := by
  go_enter Tryd.func54, Tryd.ntmps54
  go_wp2
  go_loopw [3, 12] (fun l i wr => ∃ k : Nat, k ≤ n ∧ i = .int .i64 k ∧ l = .int .i64 (prevId M k) ∧ (∀ i, i < k → RightRow M i (prevId M i)) ∧ Below w.heap.size w wr) (fun _ i _ => n - (intOf i).toNat)
  case atStart => exact ⟨0, by omega, rfl, rfl, fun i hi => absurd hi (Nat.not_lt_zero i), Below.refl _ _⟩
  case round =>
    obtain ⟨k, hk, rfl, rfl, hin, hB⟩ := hrel
    have HIN := Lib.hid hin
    clear hin
    by_cases hlt : k < n
    · obtain ⟨b, of, rfl, hb, hc⟩ := hR (by omega)
      have hload : ∀ j, j < 11 → wr.cell? ⟨b, of + k * 11 + j, none⟩ = some (.int .i64 (M k j)) := fun j hj => by rw [Nat.add_assoc]; exact (hB.cell (p := ⟨b, of + (k * 11 + j), none⟩) hb).trans (hc k hlt j hj)
      have HLD := Lib.hid hload
      obtain ⟨last, hlast⟩ : ∃ last, prevId M k = last := ⟨_, rfl⟩
      have HPV := Lib.hid hlast
      rw [hlast]
      clear hload hc hlast
      go_upto_region 5 with (refine wp_seenR HLD.out rfl (.tmp 14) rfl rfl ?_)
      refine wp_fresh ?_
      rintro w1 hb1
      have L1 : Blk w1 wr.heap.size #[.int .i64 (M k 0), .int .i64 (M k 1), .int .i64 (M k 2), .int .i64 (M k 3), .int .i64 (M k 4), .int .i64 (M k 5), .int .i64 (M k 6), .int .i64 (M k 7), .int .i64 (M k 8), .int .i64 (M k 9), .int .i64 (M k 10)] := Blk.below (by repeat (with_reducible (first | assumption | (apply Blk.at; simp; done) | apply Blk.alloc | apply Blk.drew | apply Blk.drewN | apply Blk.more | apply Blk.put | (apply Blk.far; focus (first | assumption | (apply Ne.symm; assumption) | (simp; done) | (simp <;> omega)))))) hb1
      have hB1 : Below w.heap.size w w1 := (by repeat (with_reducible (first | exact Below.refl _ _ | assumption | apply ext_drew | apply ext_drewN | apply ext_alloc | apply ext_more | (refine ext_setCell ?_ (by first | assumption | (simp <;> omega)) _) | (refine ext_below ?_ (by assumption)))))
      obtain ⟨zl, cl, fl⟩ := id L1
      have hb9 : w.heap.size ≤ wr.heap.size := hB.size
      clear L1 hb1 hB HLD
      by_cases h0 : M k 0 ≤ last
      · have d0 : decide (M k 0 ≤ last) = true := decide_eq_true h0
        have HNO : Hid (¬ RightV n M) := Lib.hid (fun h => by have h := h.row hlt; unfold RightRow at h; rw [HPV.out] at h; have := h.1.1; omega)
        clear h0
        go_wp2
        go_ret
        exact ⟨false, rfl, ⟨fun h => (by cases h), fun h => absurd h HNO.out⟩, (by repeat (with_reducible (first | exact Below.refl _ _ | assumption | apply ext_drew | apply ext_drewN | apply ext_alloc | apply ext_more | (refine ext_setCell ?_ (by first | assumption | (simp <;> omega)) _) | (refine ext_below ?_ (by assumption)))))⟩
      have d0 : decide (M k 0 ≤ last) = false := decide_eq_false h0
      by_cases h1 : 1099511627776 < M k 0
      · have d1 : decide (1099511627776 < M k 0) = true := decide_eq_true h1
        have HNO : Hid (¬ RightV n M) := Lib.hid (fun h => by have h := h.row hlt; unfold RightRow at h; rw [HPV.out] at h; have := h.1.2.1; omega)
        clear h0 h1
        go_wp2
        go_ret
        exact ⟨false, rfl, ⟨fun h => (by cases h), fun h => absurd h HNO.out⟩, (by repeat (with_reducible (first | exact Below.refl _ _ | assumption | apply ext_drew | apply ext_drewN | apply ext_alloc | apply ext_more | (refine ext_setCell ?_ (by first | assumption | (simp <;> omega)) _) | (refine ext_below ?_ (by assumption)))))⟩
      have d1 : decide (1099511627776 < M k 0) = false := decide_eq_false h1
      by_cases h2 : M k 1 < 0
      · have d2 : decide (M k 1 < 0) = true := decide_eq_true h2
        have HNO : Hid (¬ RightV n M) := Lib.hid (fun h => by have h := h.row hlt; unfold RightRow at h; rw [HPV.out] at h; have := h.1.2.2.1; omega)
        clear h0 h1 h2
        go_wp2
        go_ret
        exact ⟨false, rfl, ⟨fun h => (by cases h), fun h => absurd h HNO.out⟩, (by repeat (with_reducible (first | exact Below.refl _ _ | assumption | apply ext_drew | apply ext_drewN | apply ext_alloc | apply ext_more | (refine ext_setCell ?_ (by first | assumption | (simp <;> omega)) _) | (refine ext_below ?_ (by assumption)))))⟩
      have d2 : decide (M k 1 < 0) = false := decide_eq_false h2
      by_cases h3 : 7 < M k 1
      · have d3 : decide (7 < M k 1) = true := decide_eq_true h3
        have HNO : Hid (¬ RightV n M) := Lib.hid (fun h => by have h := h.row hlt; unfold RightRow at h; rw [HPV.out] at h; have := h.1.2.2.2; omega)
        clear h0 h1 h2 h3
        go_wp2
        go_ret
        exact ⟨false, rfl, ⟨fun h => (by cases h), fun h => absurd h HNO.out⟩, (by repeat (with_reducible (first | exact Below.refl _ _ | assumption | apply ext_drew | apply ext_drewN | apply ext_alloc | apply ext_more | (refine ext_setCell ?_ (by first | assumption | (simp <;> omega)) _) | (refine ext_below ?_ (by assumption)))))⟩
      have d3 : decide (7 < M k 1) = false := decide_eq_false h3
      have HY : Hid (last < M k 0 ∧ M k 0 ≤ 1099511627776 ∧ 0 ≤ M k 1 ∧ M k 1 ≤ 7) := Lib.hid ⟨by omega, by omega, by omega, by omega⟩
      clear h0 h1 h2 h3
      go_wp2
      refine wp_fresh ?_
      rintro w2 hb2
      have hB2 : Below w.heap.size w w2 := (by repeat (with_reducible (first | exact Below.refl _ _ | assumption | apply ext_drew | apply ext_drewN | apply ext_alloc | apply ext_more | (refine ext_setCell ?_ (by first | assumption | (simp <;> omega)) _) | (refine ext_below ?_ (by assumption)))))
      have hnine : ∀ j, j < 9 → w2.cell? ⟨w1.heap.size, j, none⟩ = some (.int .i64 (M k (j + 2))) := by
        have C := (Blk.fresh w1 #[.int .i64 (M k 2), .int .i64 (M k 3), .int .i64 (M k 4), .int .i64 (M k 5), .int .i64 (M k 6), .int .i64 (M k 7), .int .i64 (M k 8), .int .i64 (M k 9), .int .i64 (M k 10)] 92).below hb2
        intro j hj
        rw [C.cell]
        match j, hj with
        | 0, _ => rfl
        | 1, _ => rfl
        | 2, _ => rfl
        | 3, _ => rfl
        | 4, _ => rfl
        | 5, _ => rfl
        | 6, _ => rfl
        | 7, _ => rfl
        | 8, _ => rfl
      have zn : w1.heap.size < w2.heap.size := ((Blk.fresh w1 #[.int .i64 (M k 2), .int .i64 (M k 3), .int .i64 (M k 4), .int .i64 (M k 5), .int .i64 (M k 6), .int .i64 (M k 7), .int .i64 (M k 8), .int .i64 (M k 9), .int .i64 (M k 10)] 92).below hb2).lt
      have HNI := Lib.hid hnine
      have hb99 : w.heap.size ≤ w2.heap.size := hB2.size
      clear hnine hb2 hB1 zl cl fl
      go_loopw [45] (fun i wv => ∃ a : Nat, a ≤ 3 ∧ i = .int .i64 a ∧ (∀ j, j < a * 3 → In40 (M k (j + 2))) ∧ Below w2.heap.size w2 wv) (fun i _ => 3 - (intOf i).toNat)
      case atStart => exact ⟨0, by omega, rfl, fun j hj => absurd hj (by omega), Below.refl _ _⟩
      case round =>
        obtain ⟨a, ha, rfl, hA, hv⟩ := hrel
        have HA := Lib.hid hA
        clear hA
        by_cases hat : a < 3
        · have q0 : wr.cell? ⟨w1.heap.size, a * 3, none⟩ = some (.int .i64 (M k (a * 3 + 2))) := (hv.cell (p := ⟨w1.heap.size, a * 3, none⟩) zn).trans (HNI.out _ (by omega))
          have q1 : wr.cell? ⟨w1.heap.size, a * 3 + 1, none⟩ = some (.int .i64 (M k (a * 3 + 1 + 2))) := (hv.cell (p := ⟨w1.heap.size, a * 3 + 1, none⟩) zn).trans (HNI.out _ (by omega))
          have q2 : wr.cell? ⟨w1.heap.size, a * 3 + 2, none⟩ = some (.int .i64 (M k (a * 3 + 2 + 2))) := (hv.cell (p := ⟨w1.heap.size, a * 3 + 2, none⟩) zn).trans (HNI.out _ (by omega))
          have hBv : Below w.heap.size w wr := hB2.trans (hv.mono hb99)
          obtain ⟨x0, hx0⟩ : ∃ x, M k (a * 3 + 2) = x := ⟨_, rfl⟩
          obtain ⟨x1, hx1⟩ : ∃ x, M k (a * 3 + 1 + 2) = x := ⟨_, rfl⟩
          obtain ⟨x2, hx2⟩ : ∃ x, M k (a * 3 + 2 + 2) = x := ⟨_, rfl⟩
          rw [hx0] at q0
          rw [hx1] at q1
          rw [hx2] at q2
          have HX : Hid (M k (a * 3 + 0 + 2) = x0 ∧ M k (a * 3 + 1 + 2) = x1 ∧ M k (a * 3 + 2 + 2) = x2) := Lib.hid ⟨hx0, hx1, hx2⟩
          clear hx0 hx1 hx2
          go_wp2_with fail
          refine calls_fresh ?_
          rintro w3 hb3
          have hv3 : Below w2.heap.size w2 w3 := ext_below (hv.alloc hv.size _) hb3
          have hB3 : Below w.heap.size w w3 := hB2.trans (hv3.mono hb99)
          clear hb3 hBv hv q0 q1 q2
          refine (parts_c _ _ _ _).mono ?_
          rintro e w4 ⟨rfl, P4, hb4⟩
          have hB4 : Below w.heap.size w w4 := hB3.trans (hb4.mono hB3.size)
          have hv4 : Below w2.heap.size w2 w4 := hv3.trans (hb4.mono hv3.size)
          have hthree : ∀ j, j < 3 → w4.cell? ⟨w3.heap.size + 1, j, none⟩ = some (.int .i64 (M k (a * 3 + j + 2))) := by
            intro j hj
            rw [P4.cell]
            match j, hj with
            | 0, _ => rw [HX.out.1]; rfl
            | 1, _ => rw [HX.out.2.1]; rfl
            | 2, _ => rw [HX.out.2.2]; rfl
          have HTH := Lib.hid hthree
          have z4 := P4.lt
          have hb49 := hB4.size
          clear hthree P4 hb4 hB3 hv3 HX
          go_wp2
          go_loopw [52] (fun i wu => ∃ c : Nat, c ≤ 3 ∧ i = .int .i64 c ∧ (∀ j, j < c → In40 (M k (a * 3 + j + 2))) ∧ Below w4.heap.size w4 wu) (fun i _ => 3 - (intOf i).toNat)
          case atStart => exact ⟨0, by omega, rfl, fun j hj => absurd hj (by omega), Below.refl _ _⟩
          case round =>
            obtain ⟨c, hc, rfl, hC, hu⟩ := hrel
            have HC := Lib.hid hC
            have hBu : Below w.heap.size w wr := hB4.trans (hu.mono hb49)
            clear hC
            by_cases hct : c < 3
            · have q : wr.cell? ⟨w3.heap.size + 1, c, none⟩ = some (.int .i64 (M k (a * 3 + c + 2))) := (hu.cell (p := ⟨w3.heap.size + 1, c, none⟩) z4).trans (HTH.out _ hct)
              obtain ⟨x, hx⟩ : ∃ x, M k (a * 3 + c + 2) = x := ⟨_, rfl⟩
              rw [hx] at q
              by_cases g1 : 1099511627776 < x
              · have e1 : decide (1099511627776 < x) = true := decide_eq_true g1
                have HNO : Hid (¬ RightV n M) := Lib.hid (fun h => by have h := ((h.row hlt).2 (a * 3 + c + 2) (by omega) (by omega)).2; rw [hx] at h; omega)
                clear g1 hx
                go_wp2
                go_ret
                exact ⟨false, rfl, ⟨fun h => (by cases h), fun h => absurd h HNO.out⟩, (by repeat (with_reducible (first | exact Below.refl _ _ | assumption | apply ext_drew | apply ext_drewN | apply ext_alloc | apply ext_more | (refine ext_setCell ?_ (by first | assumption | (simp <;> omega)) _) | (refine ext_below ?_ (by assumption)))))⟩
              have e1 : decide (1099511627776 < x) = false := decide_eq_false g1
              by_cases g2 : x < -1099511627776
              · have e2 : decide (x < -1099511627776) = true := decide_eq_true g2
                have HNO : Hid (¬ RightV n M) := Lib.hid (fun h => by have h := ((h.row hlt).2 (a * 3 + c + 2) (by omega) (by omega)).1; rw [hx] at h; omega)
                clear g1 g2 hx
                go_wp2
                go_ret
                exact ⟨false, rfl, ⟨fun h => (by cases h), fun h => absurd h HNO.out⟩, (by repeat (with_reducible (first | exact Below.refl _ _ | assumption | apply ext_drew | apply ext_drewN | apply ext_alloc | apply ext_more | (refine ext_setCell ?_ (by first | assumption | (simp <;> omega)) _) | (refine ext_below ?_ (by assumption)))))⟩
              have e2 : decide (x < -1099511627776) = false := decide_eq_false g2
              have HIN4 : Hid (In40 (M k (a * 3 + c + 2))) := Lib.hid (by rw [hx]; exact ⟨by omega, by omega⟩)
              clear g1 g2 hx
              go_wp2
              go_roundw
              case rel => exact ⟨c + 1, by omega, by go_num, fun j hj => by
                by_cases e : j < c
                · exact HC.out j e
                · have e' : j = c := by omega
                  rw [e']; exact HIN4.out, (by repeat (with_reducible (first | exact Below.refl _ _ | assumption | apply ext_drew | apply ext_drewN | apply ext_alloc | apply ext_more | (refine ext_setCell ?_ (by first | assumption | (simp <;> omega)) _) | (refine ext_below ?_ (by assumption)))))⟩
              case measure => simp [intOf]; omega
            · have hc3 : c = 3 := by omega
              subst hc3
              have hvu : Below w2.heap.size w2 wr := hv4.trans (hu.mono hv4.size)
              go_wp2
              go_roundw
              case rel => exact ⟨a + 1, by omega, by go_num, fun j hj => by
                by_cases e : j < a * 3
                · exact HA.out j e
                · have := HC.out (j - a * 3) (by omega)
                  rwa [show a * 3 + (j - a * 3) + 2 = j + 2 by omega] at this, hvu⟩
              case measure => simp [intOf]; omega
        · have ha3 : a = 3 := by omega
          subst ha3
          have HRR : Hid (RightRow M k (prevId M k)) := Lib.hid ⟨by rw [HPV.out]; exact HY.out, fun j h1 h2 => by have := HA.out (j - 2) (by omega); rwa [Nat.sub_add_cancel h1] at this⟩
          have hBv : Below w.heap.size w wr := hB2.trans (hv.mono hb99)
          go_wp2
          go_roundw
          case rel => exact ⟨k + 1, by omega, by go_num, rfl, fun i hi => by
            by_cases e : i < k
            · exact HIN.out i e
            · have e' : i = k := by omega
              rw [e']; exact HRR.out, (by repeat (with_reducible (first | exact Below.refl _ _ | assumption | apply ext_drew | apply ext_drewN | apply ext_alloc | apply ext_more | (refine ext_setCell ?_ (by first | assumption | (simp <;> omega)) _) | (refine ext_below ?_ (by assumption)))))⟩
          case measure => simp [intOf]; omega
    · have hkn : n = k := by omega
      subst hkn
      by_cases h60 : n ≤ 60
      · have HYES : Hid (RightV n M) := Lib.hid ⟨HIN.out, h60⟩
        have d60 : decide ((n : Int) ≤ 60) = true := decide_eq_true (by omega)
        go_wp2
        go_ret
        exact ⟨true, rfl, ⟨fun _ => HYES.out, fun _ => rfl⟩, (by repeat (with_reducible (first | exact Below.refl _ _ | assumption | apply ext_drew | apply ext_drewN | apply ext_alloc | apply ext_more | (refine ext_setCell ?_ (by first | assumption | (simp <;> omega)) _) | (refine ext_below ?_ (by assumption)))))⟩
      · have HNO : Hid (¬ RightV n M) := Lib.hid (fun h => h60 h.2)
        have d60 : decide ((n : Int) ≤ 60) = false := decide_eq_false (by omega)
        clear h60
        go_wp2
        go_ret
        exact ⟨false, rfl, ⟨fun h => (by cases h), fun h => absurd h HNO.out⟩, (by repeat (with_reducible (first | exact Below.refl _ _ | assumption | apply ext_drew | apply ext_drewN | apply ext_alloc | apply ext_more | (refine ext_setCell ?_ (by first | assumption | (simp <;> omega)) _) | (refine ext_below ?_ (by assumption)))))⟩

end Go.Proofs.YtnkinnfpebploaaDoor
