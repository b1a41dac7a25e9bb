/- The contract of snap.Right. Conditions: none. -/
import Derived.Test.YtefhmbmbhiehdaaKClC
import Derived.Test.YtefhmbmbhiehdaaKClA
namespace Go.Proofs.Ytefhmbmbhiehdaa
open Go.ChangeShapes Go.WideShapes Go.ChangeAt Go.RowKit Go.BigFrame

set_option maxRecDepth 100000 in
set_option maxHeartbeats 8000000 in
theorem right_c (n : Nat) (A : Option Addr) (cap : Nat) (M : Nat → Nat → Int) (w : World) (hn : n ≤ 9223372036854775807) (hR : Reads w A n 11 M) :
    Calls Try.prog 110 #[.slice A n cap] w fun e w' => ∃ d : Bool, e = .returned (.bool d) ∧ (d = true ↔ RightV n M) ∧ Below w.heap.size w w' := by
  go_enter Try.func110, Try.ntmps110
  go_wp2
  go_loopw [9] (fun i wr => ∃ k : Nat, k ≤ n ∧ i = .int .i64 k ∧ (∀ i, i < k → RightRow M i (prevId M i)) ∧ Below w.heap.size w wr) (fun i _ => n - (intOf i).toNat)
  case atStart => exact ⟨0, by omega, rfl, fun i hi => absurd hi (Nat.not_lt_zero i), Below.refl _ _⟩
  case round =>
    obtain ⟨k, hk, rfl, hin, hB⟩ := hrel
    have HIN := Lib.hid hin
    clear hin
    by_cases hlt : k < n
    · obtain ⟨b, of, rfl, hb, hc⟩ := hR (by omega)
      have hload : ∀ j, j < 11 → wr.cell? ⟨b, of + k * 11 + j, none⟩ = some (.int .i64 (M k j)) := fun j hj => by rw [Nat.add_assoc]; exact (hB.cell (p := ⟨b, of + (k * 11 + j), none⟩) hb).trans (hc k hlt j hj)
      have hprev : ∀ q, q + 1 = k → wr.cell? ⟨b, of + q * 11, none⟩ = some (.int .i64 (M q 0)) := fun q hq => (hB.cell (p := ⟨b, of + (q * 11 + 0), none⟩) hb).trans (hc q (by omega) 0 (by decide))
      have HLD := Lib.hid hload
      have HPR := Lib.hid hprev
      have hbw : b < wr.heap.size := Nat.lt_of_lt_of_le hb hB.size
      clear hload hprev hc
      go_upto_region 5 with (refine wp_seenS HLD.out rfl (.tmp 12) rfl rfl ?_)
      refine wp_fresh ?_
      rintro w1 hb1
      have L1 : Blk w1 wr.heap.size #[.int .i64 (M k 0), .int .i64 (M k 1), .int .i64 (M k 2), .int .i64 (M k 3), .int .i64 (M k 4), .int .i64 (M k 5), .int .i64 (M k 6), .int .i64 (M k 7), .int .i64 (M k 8), .int .i64 (M k 9), .int .i64 (M k 10)] := Blk.below (by repeat (with_reducible (first | assumption | (apply Blk.at; simp; done) | apply Blk.alloc | apply Blk.drew | apply Blk.drewN | apply Blk.more | apply Blk.put | (apply Blk.far; focus (first | assumption | (apply Ne.symm; assumption) | (simp; done) | (simp <;> omega)))))) hb1
      have hB1 : Below w.heap.size w w1 := (by repeat (with_reducible (first | exact Below.refl _ _ | assumption | apply ext_drew | apply ext_drewN | apply ext_alloc | apply ext_more | (refine ext_setCell ?_ (by first | assumption | (simp <;> omega)) _) | (refine ext_below ?_ (by assumption)))))
      have hpv : ∀ q, q + 1 = k → w1.cell? ⟨b, of + q * 11, none⟩ = some (.int .i64 (M q 0)) := fun q hq => (Below.cell (ext_below ((Below.refl wr.heap.size wr).alloc (Nat.le_refl _) _) hb1) (p := ⟨b, of + q * 11, none⟩) hbw).trans (HPR.out q hq)
      obtain ⟨zl, cl, fl⟩ := id L1
      have hb9 : w.heap.size ≤ wr.heap.size := hB.size
      clear L1 hb1 hB HLD HPR hbw
      cases k with
      | zero =>
        have HPV : Hid (prevId M 0 = 0) := Lib.hid rfl
        by_cases h0 : M 0 0 ≤ 0
        · have d0 : decide (M 0 0 ≤ 0) = true := decide_eq_true h0
          have HNO : Hid (¬ RightV n M) := Lib.hid (fun h => by have h := h.row hlt; unfold RightRow at h; rw [HPV.out] at h; have := h.1.1; omega)
          clear h0
          go_wp2
          go_ret
          exact ⟨false, rfl, ⟨fun h => (by cases h), fun h => absurd h HNO.out⟩, (by repeat (with_reducible (first | exact Below.refl _ _ | assumption | apply ext_drew | apply ext_drewN | apply ext_alloc | apply ext_more | (refine ext_setCell ?_ (by first | assumption | (simp <;> omega)) _) | (refine ext_below ?_ (by assumption)))))⟩
        have d0 : decide (M 0 0 ≤ 0) = false := decide_eq_false h0
        by_cases h1 : 1099511627776 < M 0 0
        · have d1 : decide (1099511627776 < M 0 0) = true := decide_eq_true h1
          have HNO : Hid (¬ RightV n M) := Lib.hid (fun h => by have h := h.row hlt; unfold RightRow at h; rw [HPV.out] at h; have := h.1.2.1; omega)
          clear h0 h1
          go_wp2
          go_ret
          exact ⟨false, rfl, ⟨fun h => (by cases h), fun h => absurd h HNO.out⟩, (by repeat (with_reducible (first | exact Below.refl _ _ | assumption | apply ext_drew | apply ext_drewN | apply ext_alloc | apply ext_more | (refine ext_setCell ?_ (by first | assumption | (simp <;> omega)) _) | (refine ext_below ?_ (by assumption)))))⟩
        have d1 : decide (1099511627776 < M 0 0) = false := decide_eq_false h1
        by_cases h2 : M 0 1 < 0
        · have d2 : decide (M 0 1 < 0) = true := decide_eq_true h2
          have HNO : Hid (¬ RightV n M) := Lib.hid (fun h => by have h := h.row hlt; unfold RightRow at h; rw [HPV.out] at h; have := h.1.2.2.1; omega)
          clear h0 h1 h2
          go_wp2
          go_ret
          exact ⟨false, rfl, ⟨fun h => (by cases h), fun h => absurd h HNO.out⟩, (by repeat (with_reducible (first | exact Below.refl _ _ | assumption | apply ext_drew | apply ext_drewN | apply ext_alloc | apply ext_more | (refine ext_setCell ?_ (by first | assumption | (simp <;> omega)) _) | (refine ext_below ?_ (by assumption)))))⟩
        have d2 : decide (M 0 1 < 0) = false := decide_eq_false h2
        by_cases h3 : 7 < M 0 1
        · have d3 : decide (7 < M 0 1) = true := decide_eq_true h3
          have HNO : Hid (¬ RightV n M) := Lib.hid (fun h => by have h := h.row hlt; unfold RightRow at h; rw [HPV.out] at h; have := h.1.2.2.2; omega)
          clear h0 h1 h2 h3
          go_wp2
          go_ret
          exact ⟨false, rfl, ⟨fun h => (by cases h), fun h => absurd h HNO.out⟩, (by repeat (with_reducible (first | exact Below.refl _ _ | assumption | apply ext_drew | apply ext_drewN | apply ext_alloc | apply ext_more | (refine ext_setCell ?_ (by first | assumption | (simp <;> omega)) _) | (refine ext_below ?_ (by assumption)))))⟩
        have d3 : decide (7 < M 0 1) = false := decide_eq_false h3
        have HY : Hid (0 < M 0 0 ∧ M 0 0 ≤ 1099511627776 ∧ 0 ≤ M 0 1 ∧ M 0 1 ≤ 7) := Lib.hid ⟨by omega, by omega, by omega, by omega⟩
        clear h0 h1 h2 h3
        go_wp2_with fail
        refine calls_fresh ?_
        rintro w2 hb2
        have hB2 : Below w.heap.size w w2 := (by repeat (with_reducible (first | exact Below.refl _ _ | assumption | apply ext_drew | apply ext_drewN | apply ext_alloc | apply ext_more | (refine ext_setCell ?_ (by first | assumption | (simp <;> omega)) _) | (refine ext_below ?_ (by assumption)))))
        have hnine : ∀ j, j < 9 → w2.cell? ⟨w1.heap.size, j, none⟩ = some (.int .i64 (M 0 (j + 2))) := by
          have C := (Blk.fresh w1 #[.int .i64 (M 0 2), .int .i64 (M 0 3), .int .i64 (M 0 4), .int .i64 (M 0 5), .int .i64 (M 0 6), .int .i64 (M 0 7), .int .i64 (M 0 8), .int .i64 (M 0 9), .int .i64 (M 0 10)] 3).below hb2
          intro j hj
          rw [C.cell]
          match j, hj with
          | 0, _ => rfl
          | 1, _ => rfl
          | 2, _ => rfl
          | 3, _ => rfl
          | 4, _ => rfl
          | 5, _ => rfl
          | 6, _ => rfl
          | 7, _ => rfl
          | 8, _ => rfl
        obtain ⟨d, hd⟩ : ∃ d : Bool, d = true ↔ ∀ j, j < 9 → In40 (M 0 (j + 2)) := ⟨decide (∀ j : Fin 9, In40 (M 0 (j.val + 2))), by rw [decide_eq_true_iff]; exact ⟨fun h j hj => h ⟨j, hj⟩, fun h j => h j.val j.isLt⟩⟩
        refine (all40_c (fun j => M 0 (j + 2)) d hd w1.heap.size _ hnine).mono ?_
        rintro e w' ⟨rfl, rfl⟩
        have HD := Lib.hid hd
        clear hd hnine
        cases d with
        | false =>
          have HNO : Hid (¬ RightV n M) := Lib.hid (fun h => by have h := (h.row hlt).2; have := HD.out.2 (fun j hj => h (j + 2) (by omega) (by omega)); cases this)
          go_wp2
          go_ret
          exact ⟨false, rfl, ⟨fun h => (by cases h), fun h => absurd h HNO.out⟩, (by repeat (with_reducible (first | exact Below.refl _ _ | assumption | apply ext_drew | apply ext_drewN | apply ext_alloc | apply ext_more | (refine ext_setCell ?_ (by first | assumption | (simp <;> omega)) _) | (refine ext_below ?_ (by assumption)))))⟩
        | true =>
          have HRR : Hid (RightRow M 0 (prevId M 0)) := Lib.hid ⟨by rw [HPV.out]; exact HY.out, fun j h1 h2 => by have := HD.out.1 rfl (j - 2) (by omega); rwa [Nat.sub_add_cancel h1] at this⟩
          go_wp2
          go_roundw
          case rel => exact ⟨0 + 1, by omega, by go_num, fun i hi => by
            by_cases e : i < 0
            · exact HIN.out i e
            · have e' : i = 0 := by omega
              rw [e']; exact HRR.out, (by repeat (with_reducible (first | exact Below.refl _ _ | assumption | apply ext_drew | apply ext_drewN | apply ext_alloc | apply ext_more | (refine ext_setCell ?_ (by first | assumption | (simp <;> omega)) _) | (refine ext_below ?_ (by assumption)))))⟩
          case measure => simp [intOf]; omega
      | succ q =>
        have HPV : Hid (prevId M (q + 1) = M q 0) := Lib.hid rfl
        have q0 := hpv q rfl
        clear hpv

        by_cases h0 : M (q + 1) 0 ≤ M q 0
        · have d0 : decide (M (q + 1) 0 ≤ M q 0) = true := decide_eq_true h0
          have HNO : Hid (¬ RightV n M) := Lib.hid (fun h => by have h := h.row hlt; unfold RightRow at h; rw [HPV.out] at h; have := h.1.1; omega)
          clear h0
          go_wp2
          go_ret
          exact ⟨false, rfl, ⟨fun h => (by cases h), fun h => absurd h HNO.out⟩, (by repeat (with_reducible (first | exact Below.refl _ _ | assumption | apply ext_drew | apply ext_drewN | apply ext_alloc | apply ext_more | (refine ext_setCell ?_ (by first | assumption | (simp <;> omega)) _) | (refine ext_below ?_ (by assumption)))))⟩
        have d0 : decide (M (q + 1) 0 ≤ M q 0) = false := decide_eq_false h0
        by_cases h1 : 1099511627776 < M (q + 1) 0
        · have d1 : decide (1099511627776 < M (q + 1) 0) = true := decide_eq_true h1
          have HNO : Hid (¬ RightV n M) := Lib.hid (fun h => by have h := h.row hlt; unfold RightRow at h; rw [HPV.out] at h; have := h.1.2.1; omega)
          clear h0 h1
          go_wp2
          go_ret
          exact ⟨false, rfl, ⟨fun h => (by cases h), fun h => absurd h HNO.out⟩, (by repeat (with_reducible (first | exact Below.refl _ _ | assumption | apply ext_drew | apply ext_drewN | apply ext_alloc | apply ext_more | (refine ext_setCell ?_ (by first | assumption | (simp <;> omega)) _) | (refine ext_below ?_ (by assumption)))))⟩
        have d1 : decide (1099511627776 < M (q + 1) 0) = false := decide_eq_false h1
        by_cases h2 : M (q + 1) 1 < 0
        · have d2 : decide (M (q + 1) 1 < 0) = true := decide_eq_true h2
          have HNO : Hid (¬ RightV n M) := Lib.hid (fun h => by have h := h.row hlt; unfold RightRow at h; rw [HPV.out] at h; have := h.1.2.2.1; omega)
          clear h0 h1 h2
          go_wp2
          go_ret
          exact ⟨false, rfl, ⟨fun h => (by cases h), fun h => absurd h HNO.out⟩, (by repeat (with_reducible (first | exact Below.refl _ _ | assumption | apply ext_drew | apply ext_drewN | apply ext_alloc | apply ext_more | (refine ext_setCell ?_ (by first | assumption | (simp <;> omega)) _) | (refine ext_below ?_ (by assumption)))))⟩
        have d2 : decide (M (q + 1) 1 < 0) = false := decide_eq_false h2
        by_cases h3 : 7 < M (q + 1) 1
        · have d3 : decide (7 < M (q + 1) 1) = true := decide_eq_true h3
          have HNO : Hid (¬ RightV n M) := Lib.hid (fun h => by have h := h.row hlt; unfold RightRow at h; rw [HPV.out] at h; have := h.1.2.2.2; omega)
          clear h0 h1 h2 h3
          go_wp2
          go_ret
          exact ⟨false, rfl, ⟨fun h => (by cases h), fun h => absurd h HNO.out⟩, (by repeat (with_reducible (first | exact Below.refl _ _ | assumption | apply ext_drew | apply ext_drewN | apply ext_alloc | apply ext_more | (refine ext_setCell ?_ (by first | assumption | (simp <;> omega)) _) | (refine ext_below ?_ (by assumption)))))⟩
        have d3 : decide (7 < M (q + 1) 1) = false := decide_eq_false h3
        have HY : Hid (M q 0 < M (q + 1) 0 ∧ M (q + 1) 0 ≤ 1099511627776 ∧ 0 ≤ M (q + 1) 1 ∧ M (q + 1) 1 ≤ 7) := Lib.hid ⟨by omega, by omega, by omega, by omega⟩
        clear h0 h1 h2 h3
        go_wp2_with fail
        refine calls_fresh ?_
        rintro w2 hb2
        have hB2 : Below w.heap.size w w2 := (by repeat (with_reducible (first | exact Below.refl _ _ | assumption | apply ext_drew | apply ext_drewN | apply ext_alloc | apply ext_more | (refine ext_setCell ?_ (by first | assumption | (simp <;> omega)) _) | (refine ext_below ?_ (by assumption)))))
        have hnine : ∀ j, j < 9 → w2.cell? ⟨w1.heap.size, j, none⟩ = some (.int .i64 (M (q + 1) (j + 2))) := by
          have C := (Blk.fresh w1 #[.int .i64 (M (q + 1) 2), .int .i64 (M (q + 1) 3), .int .i64 (M (q + 1) 4), .int .i64 (M (q + 1) 5), .int .i64 (M (q + 1) 6), .int .i64 (M (q + 1) 7), .int .i64 (M (q + 1) 8), .int .i64 (M (q + 1) 9), .int .i64 (M (q + 1) 10)] 3).below hb2
          intro j hj
          rw [C.cell]
          match j, hj with
          | 0, _ => rfl
          | 1, _ => rfl
          | 2, _ => rfl
          | 3, _ => rfl
          | 4, _ => rfl
          | 5, _ => rfl
          | 6, _ => rfl
          | 7, _ => rfl
          | 8, _ => rfl
        obtain ⟨d, hd⟩ : ∃ d : Bool, d = true ↔ ∀ j, j < 9 → In40 (M (q + 1) (j + 2)) := ⟨decide (∀ j : Fin 9, In40 (M (q + 1) (j.val + 2))), by rw [decide_eq_true_iff]; exact ⟨fun h j hj => h ⟨j, hj⟩, fun h j => h j.val j.isLt⟩⟩
        refine (all40_c (fun j => M (q + 1) (j + 2)) d hd w1.heap.size _ hnine).mono ?_
        rintro e w' ⟨rfl, rfl⟩
        have HD := Lib.hid hd
        clear hd hnine
        cases d with
        | false =>
          have HNO : Hid (¬ RightV n M) := Lib.hid (fun h => by have h := (h.row hlt).2; have := HD.out.2 (fun j hj => h (j + 2) (by omega) (by omega)); cases this)
          go_wp2
          go_ret
          exact ⟨false, rfl, ⟨fun h => (by cases h), fun h => absurd h HNO.out⟩, (by repeat (with_reducible (first | exact Below.refl _ _ | assumption | apply ext_drew | apply ext_drewN | apply ext_alloc | apply ext_more | (refine ext_setCell ?_ (by first | assumption | (simp <;> omega)) _) | (refine ext_below ?_ (by assumption)))))⟩
        | true =>
          have HRR : Hid (RightRow M (q + 1) (prevId M (q + 1))) := Lib.hid ⟨by rw [HPV.out]; exact HY.out, fun j h1 h2 => by have := HD.out.1 rfl (j - 2) (by omega); rwa [Nat.sub_add_cancel h1] at this⟩
          go_wp2
          go_roundw
          case rel => exact ⟨(q + 1) + 1, by omega, by go_num, fun i hi => by
            by_cases e : i < (q + 1)
            · exact HIN.out i e
            · have e' : i = (q + 1) := by omega
              rw [e']; exact HRR.out, (by repeat (with_reducible (first | exact Below.refl _ _ | assumption | apply ext_drew | apply ext_drewN | apply ext_alloc | apply ext_more | (refine ext_setCell ?_ (by first | assumption | (simp <;> omega)) _) | (refine ext_below ?_ (by assumption)))))⟩
          case measure => simp [intOf]; omega
    · have hkn : n = k := by omega
      subst hkn
      by_cases h60 : n ≤ 60
      · have HYES : Hid (RightV n M) := Lib.hid ⟨HIN.out, h60⟩
        have d60 : decide ((n : Int) ≤ 60) = true := decide_eq_true (by omega)
        go_wp2
        go_ret
        exact ⟨true, rfl, ⟨fun _ => HYES.out, fun _ => rfl⟩, (by repeat (with_reducible (first | exact Below.refl _ _ | assumption | apply ext_drew | apply ext_drewN | apply ext_alloc | apply ext_more | (refine ext_setCell ?_ (by first | assumption | (simp <;> omega)) _) | (refine ext_below ?_ (by assumption)))))⟩
      · have HNO : Hid (¬ RightV n M) := Lib.hid (fun h => h60 h.2)
        have d60 : decide ((n : Int) ≤ 60) = false := decide_eq_false (by omega)
        clear h60
        go_wp2
        go_ret
        exact ⟨false, rfl, ⟨fun h => (by cases h), fun h => absurd h HNO.out⟩, (by repeat (with_reducible (first | exact Below.refl _ _ | assumption | apply ext_drew | apply ext_drewN | apply ext_alloc | apply ext_more | (refine ext_setCell ?_ (by first | assumption | (simp <;> omega)) _) | (refine ext_below ?_ (by assumption)))))⟩

end Go.Proofs.Ytefhmbmbhiehdaa
