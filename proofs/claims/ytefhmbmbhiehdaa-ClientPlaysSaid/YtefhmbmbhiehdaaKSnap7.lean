/- Structs compared, as one Bool; the contract of snap.change. Conditions: none. -/
import Derived.Test.YtefhmbmbhiehdaaKClC
import Derived.Deep.RegionHeld3
namespace Go.Proofs.Ytefhmbmbhiehdaa
open Go.ChangeShapes Go.WideShapes Go.ChangeAt Go.RowKit Go.BigFrame
open B

theorem keepK {S1 : Nat → Prop} {u0 u1 u2 : Nat} {w0 w1 : World} {c0 c1 c2 : Array Value} (h : (∀ o, w0.cell? ⟨u0, o, none⟩ = c0[o]?) ∧ (∀ o, w0.cell? ⟨u1, o, none⟩ = c1[o]?) ∧ (∀ o, w0.cell? ⟨u2, o, none⟩ = c2[o]?) ∧ u0 < w0.heap.size ∧ u1 < w0.heap.size ∧ u2 < w0.heap.size) (hm : Mod (fun b => ¬ S1 b) w0 w1) (hc : S1 u0 ∧ S1 u1 ∧ S1 u2) :
    (∀ o, w1.cell? ⟨u0, o, none⟩ = c0[o]?) ∧ (∀ o, w1.cell? ⟨u1, o, none⟩ = c1[o]?) ∧ (∀ o, w1.cell? ⟨u2, o, none⟩ = c2[o]?) ∧ u0 < w1.heap.size ∧ u1 < w1.heap.size ∧ u2 < w1.heap.size :=
  ⟨fun o => (hm.cell h.2.2.2.1 (fun hn => hn hc.1)).trans (h.1 o), fun o => (hm.cell h.2.2.2.2.1 (fun hn => hn hc.2.1)).trans (h.2.1 o), fun o => (hm.cell h.2.2.2.2.2 (fun hn => hn hc.2.2)).trans (h.2.2.1 o), Nat.lt_of_lt_of_le h.2.2.2.1 hm.size, Nat.lt_of_lt_of_le h.2.2.2.2.1 hm.size, Nat.lt_of_lt_of_le h.2.2.2.2.2 hm.size⟩
theorem keepK_drew {u0 u1 u2 : Nat} {w0 : World} {c0 c1 c2 : Array Value} (h : (∀ o, w0.cell? ⟨u0, o, none⟩ = c0[o]?) ∧ (∀ o, w0.cell? ⟨u1, o, none⟩ = c1[o]?) ∧ (∀ o, w0.cell? ⟨u2, o, none⟩ = c2[o]?) ∧ u0 < w0.heap.size ∧ u1 < w0.heap.size ∧ u2 < w0.heap.size) :
    (∀ o, w0.drew.cell? ⟨u0, o, none⟩ = c0[o]?) ∧ (∀ o, w0.drew.cell? ⟨u1, o, none⟩ = c1[o]?) ∧ (∀ o, w0.drew.cell? ⟨u2, o, none⟩ = c2[o]?) ∧ u0 < w0.drew.heap.size ∧ u1 < w0.drew.heap.size ∧ u2 < w0.drew.heap.size := keepK (S1 := fun _ => True) h ((Mod.refl _ w0).drew) ⟨trivial, trivial, trivial⟩

set_option maxRecDepth 100000 in
set_option maxHeartbeats 16000000 in
theorem change_k (S : Nat → Prop) (p i k : Nat) (L : List Nat) (M1 M2 : Nat → Nat → Int) (w : World) (h : Wf S w p L) (hi : ∀ j, 2 ≤ j → j < 11 → In40 (M1 i j)) (hk : ∀ j, 2 ≤ j → j < 11 → In40 (M2 k j)) (hK : 0 ≤ M2 k 1 ∧ M2 k 1 ≤ 7) :
    Calls Try.prog 151 #[.pointer (some ⟨p, 0, none⟩), .agg #[.int .i64 (M1 i 0), .int .i64 (M1 i 1), .int .i64 (M1 i 2), .int .i64 (M1 i 3), .int .i64 (M1 i 4), .int .i64 (M1 i 5), .int .i64 (M1 i 6), .int .i64 (M1 i 7), .int .i64 (M1 i 8), .int .i64 (M1 i 9), .int .i64 (M1 i 10)], .agg #[.int .i64 (M2 k 0), .int .i64 (M2 k 1), .int .i64 (M2 k 2), .int .i64 (M2 k 3), .int .i64 (M2 k 4), .int .i64 (M2 k 5), .int .i64 (M2 k 6), .int .i64 (M2 k 7), .int .i64 (M2 k 8), .int .i64 (M2 k 9), .int .i64 (M2 k 10)]] w fun e w' => e = .returned (.tuple #[]) ∧ WfPost S p (L ++ changeL M1 i M2 k) w w' := by
  have HH := Lib.hid h
  have HI := Lib.hid hi
  have HK := Lib.hid hk
  have HKK := Lib.hid hK
  clear h hi hk hK
  obtain ⟨sS, hsS⟩ : ∃ b : Bool, (!(eq3 (M1 i 2) (M1 i 3) (M1 i 4) (M2 k 2) (M2 k 3) (M2 k 4))) = b := ⟨_, rfl⟩
  obtain ⟨sA, hsA⟩ : ∃ b : Bool, (!(eq3 (M1 i 5) (M1 i 6) (M1 i 7) (M2 k 5) (M2 k 6) (M2 k 7))) = b := ⟨_, rfl⟩
  obtain ⟨sV, hsV⟩ : ∃ b : Bool, (!(eq3 (M1 i 8) (M1 i 9) (M1 i 10) (M2 k 8) (M2 k 9) (M2 k 10))) = b := ⟨_, rfl⟩
  obtain ⟨sK, hsK⟩ : ∃ b : Bool, (M1 i 1 != M2 k 1) = b := ⟨_, rfl⟩
  have hnS := fun w => run_neq_vec (M1 i 2) (M1 i 3) (M1 i 4) (M2 k 2) (M2 k 3) (M2 k 4) w
  have hnA := fun w => run_neq_vec (M1 i 5) (M1 i 6) (M1 i 7) (M2 k 5) (M2 k 6) (M2 k 7) w
  have hnV := fun w => run_neq_vec (M1 i 8) (M1 i 9) (M1 i 10) (M2 k 8) (M2 k 9) (M2 k 10) w
  rw [hsS] at hnS
  rw [hsA] at hnA
  rw [hsV] at hnV
  have HSS : Hid (ne3 M1 i M2 k 2 = sS) := Lib.hid hsS
  have HSA : Hid (ne3 M1 i M2 k 5 = sA) := Lib.hid hsA
  have HSV : Hid (ne3 M1 i M2 k 8 = sV) := Lib.hid hsV
  have HSK : Hid ((!(M1 i 1 == M2 k 1)) = sK) := Lib.hid hsK
  clear hsS hsA hsV
  go_enter Try.func151, Try.ntmps151
  go_wp2_with fail
  refine wp_fresh ?_
  rintro w1 hb1
  have hv1 : Below w.heap.size w w1 := (by repeat (with_reducible (first | exact Below.refl _ _ | assumption | apply ext_drew | apply ext_drewN | apply ext_alloc | apply ext_more | (refine ext_setCell ?_ (by first | assumption | (simp <;> omega)) _) | (refine ext_below ?_ (by assumption)))))
  have A1 : Blk w1 w.heap.size #[.pointer (some ⟨p, 0, none⟩)] := Blk.below (by repeat (with_reducible (first | assumption | (apply Blk.at; simp; done) | apply Blk.alloc | apply Blk.drew | apply Blk.drewN | apply Blk.more | apply Blk.put | (apply Blk.far; focus (first | assumption | (apply Ne.symm; assumption) | (simp; done) | (simp <;> omega)))))) hb1
  have B1 : Blk w1 (w.heap.size + 1) #[.int .i64 (M1 i 0), .int .i64 (M1 i 1), .int .i64 (M1 i 2), .int .i64 (M1 i 3), .int .i64 (M1 i 4), .int .i64 (M1 i 5), .int .i64 (M1 i 6), .int .i64 (M1 i 7), .int .i64 (M1 i 8), .int .i64 (M1 i 9), .int .i64 (M1 i 10)] := Blk.below (by repeat (with_reducible (first | assumption | (apply Blk.at; simp; done) | apply Blk.alloc | apply Blk.drew | apply Blk.drewN | apply Blk.more | apply Blk.put | (apply Blk.far; focus (first | assumption | (apply Ne.symm; assumption) | (simp; done) | (simp <;> omega)))))) hb1
  have C1 : Blk w1 (w.heap.size + 1 + 1) #[.int .i64 (M2 k 0), .int .i64 (M2 k 1), .int .i64 (M2 k 2), .int .i64 (M2 k 3), .int .i64 (M2 k 4), .int .i64 (M2 k 5), .int .i64 (M2 k 6), .int .i64 (M2 k 7), .int .i64 (M2 k 8), .int .i64 (M2 k 9), .int .i64 (M2 k 10)] := Blk.below (by repeat (with_reducible (first | assumption | (apply Blk.at; simp; done) | apply Blk.alloc | apply Blk.drew | apply Blk.drewN | apply Blk.more | apply Blk.put | (apply Blk.far; focus (first | assumption | (apply Ne.symm; assumption) | (simp; done) | (simp <;> omega)))))) hb1
  obtain ⟨S1, hS1⟩ : ∃ S1, S1 = fun b => S b ∨ (w.heap.size ≤ b ∧ b < w1.heap.size) := ⟨_, rfl⟩
  have H1 : Wf S1 w1 p L := by rw [hS1]; exact HH.out.fresh hv1
  have HSB : Hid (∀ b, S b → S1 b) := Lib.hid (fun b hb => by rw [hS1]; exact .inl hb)
  have HC : Hid (S1 w.heap.size ∧ S1 (w.heap.size + 1) ∧ S1 (w.heap.size + 1 + 1)) := Lib.hid (by rw [hS1]; exact ⟨.inr ⟨Nat.le_refl _, A1.lt⟩, .inr ⟨by omega, B1.lt⟩, .inr ⟨by omega, C1.lt⟩⟩)
  have HM1 : Hid (Mod (fun b => ¬ S b) w w1) := Lib.hid (Mod.of_below hv1)
  obtain ⟨u0, hu0⟩ : ∃ u, u = w.heap.size := ⟨_, rfl⟩
  obtain ⟨u1, hu1⟩ : ∃ u, u = w.heap.size + 1 := ⟨_, rfl⟩
  obtain ⟨u2, hu2⟩ : ∃ u, u = w.heap.size + 1 + 1 := ⟨_, rfl⟩
  rw [← hu2, ← hu1, ← hu0] at HC
  rw [← hu0] at A1
  rw [← hu1] at B1
  rw [← hu2] at C1
  rw [← hu2, ← hu1, ← hu0]
  have hS1' : (∀ o, w1.cell? ⟨u0, o, none⟩ = (#[.pointer (some ⟨p, 0, none⟩)] : Array Value)[o]?) ∧ (∀ o, w1.cell? ⟨u1, o, none⟩ = (#[.int .i64 (M1 i 0), .int .i64 (M1 i 1), .int .i64 (M1 i 2), .int .i64 (M1 i 3), .int .i64 (M1 i 4), .int .i64 (M1 i 5), .int .i64 (M1 i 6), .int .i64 (M1 i 7), .int .i64 (M1 i 8), .int .i64 (M1 i 9), .int .i64 (M1 i 10)] : Array Value)[o]?) ∧ (∀ o, w1.cell? ⟨u2, o, none⟩ = (#[.int .i64 (M2 k 0), .int .i64 (M2 k 1), .int .i64 (M2 k 2), .int .i64 (M2 k 3), .int .i64 (M2 k 4), .int .i64 (M2 k 5), .int .i64 (M2 k 6), .int .i64 (M2 k 7), .int .i64 (M2 k 8), .int .i64 (M2 k 9), .int .i64 (M2 k 10)] : Array Value)[o]?) ∧ u0 < w1.heap.size ∧ u1 < w1.heap.size ∧ u2 < w1.heap.size := ⟨A1.cell, B1.cell, C1.cell, A1.lt, B1.lt, C1.lt⟩
  clear hS1 hb1 HH hv1 A1 B1 C1 hu0 hu1 hu2
  cases sS with
  | true =>
    cases sA with
    | true =>
      cases sV with
      | true =>
        refine wp_region_held_drew (S := fun w' => (∀ o, w'.cell? ⟨u0, o, none⟩ = (#[.pointer (some ⟨p, 0, none⟩)] : Array Value)[o]?) ∧ (∀ o, w'.cell? ⟨u1, o, none⟩ = (#[.int .i64 (M1 i 0), .int .i64 (M1 i 1), .int .i64 (M1 i 2), .int .i64 (M1 i 3), .int .i64 (M1 i 4), .int .i64 (M1 i 5), .int .i64 (M1 i 6), .int .i64 (M1 i 7), .int .i64 (M1 i 8), .int .i64 (M1 i 9), .int .i64 (M1 i 10)] : Array Value)[o]?) ∧ (∀ o, w'.cell? ⟨u2, o, none⟩ = (#[.int .i64 (M2 k 0), .int .i64 (M2 k 1), .int .i64 (M2 k 2), .int .i64 (M2 k 3), .int .i64 (M2 k 4), .int .i64 (M2 k 5), .int .i64 (M2 k 6), .int .i64 (M2 k 7), .int .i64 (M2 k 8), .int .i64 (M2 k 9), .int .i64 (M2 k 10)] : Array Value)[o]?) ∧ u0 < w'.heap.size ∧ u1 < w'.heap.size ∧ u2 < w'.heap.size) (by kernel_rfl) ?_ (fun hHeld => ?_)
        · exact keepK_drew hS1'
        refine wpAnyH_take (i := 0) (v := ?v0w1x11_) rfl (by kernel_rfl) (by kernel_rfl) (by kernel_rfl) (fun _ _ _ h => h) (Or.inl ⟨by kernel_rfl, ?y0w1x11_⟩) hHeld ?r0w1x11_
        case y0w1x11_ =>
          intro w hSw
          try dsimp only at hSw
          obtain ⟨e0, e1, e2, l0, l1, l2⟩ := hSw
          go_simp
          try with_reducible rfl
        try simp only [Act.put, List.setIfInBounds_toArray]
        refine wpAnyH_take (i := 1) (v := ?v1w1x11_) rfl (by kernel_rfl) (by kernel_rfl) (by kernel_rfl) (fun _ _ _ h => h) (Or.inl ⟨by kernel_rfl, ?y1w1x11_⟩) hHeld ?r1w1x11_
        case y1w1x11_ =>
          intro w hSw
          try dsimp only at hSw
          obtain ⟨e0, e1, e2, l0, l1, l2⟩ := hSw
          go_simp
          try with_reducible rfl
        try simp only [Act.put]
        refine wpAnyH_take (i := 2) (v := ?v2w1x11_) rfl (by kernel_rfl) (by kernel_rfl) (by kernel_rfl) (fun _ _ _ h => h) (Or.inl ⟨by kernel_rfl, ?y2w1x11_⟩) hHeld ?r2w1x11_
        case y2w1x11_ =>
          intro w hSw
          try dsimp only at hSw
          obtain ⟨e0, e1, e2, l0, l1, l2⟩ := hSw
          go_simp
          try with_reducible rfl
        try simp only [Act.put]
        refine wpAnyH_take (i := 3) (v := ?v3w1x11_) rfl (by kernel_rfl) (by kernel_rfl) (by kernel_rfl) (fun _ _ _ h => h) (Or.inl ⟨by kernel_rfl, ?y3w1x11_⟩) hHeld ?r3w1x11_
        case y3w1x11_ =>
          intro w hSw
          try dsimp only at hSw
          obtain ⟨e0, e1, e2, l0, l1, l2⟩ := hSw
          go_simp
          try with_reducible rfl
        try simp only [Act.put]
        refine wpAnyH_take (i := 4) (v := ?v4w1x11_) rfl (by kernel_rfl) (by kernel_rfl) (by kernel_rfl) (fun _ _ _ h => h) (Or.inl ⟨by kernel_rfl, ?y4w1x11_⟩) hHeld ?r4w1x11_
        case y4w1x11_ =>
          intro w hSw
          try dsimp only at hSw
          obtain ⟨e0, e1, e2, l0, l1, l2⟩ := hSw
          go_simp
          try with_reducible rfl
        try simp only [Act.put]
        refine wpAnyH_take (i := 5) (v := ?v5w1x11_) rfl (by kernel_rfl) (by kernel_rfl) (by kernel_rfl) (fun _ _ _ h => h) (Or.inl ⟨by kernel_rfl, ?y5w1x11_⟩) hHeld ?r5w1x11_
        case y5w1x11_ =>
          intro w hSw
          try dsimp only at hSw
          obtain ⟨e0, e1, e2, l0, l1, l2⟩ := hSw
          go_simp
          try with_reducible rfl
        try simp only [Act.put]
        refine wpAnyH_take (i := 6) (v := ?v6w1x11_) rfl (by kernel_rfl) (by kernel_rfl) (by kernel_rfl) (fun _ _ _ h => h) (Or.inl ⟨by kernel_rfl, ?y6w1x11_⟩) hHeld ?r6w1x11_
        case y6w1x11_ =>
          intro w hSw
          try dsimp only at hSw
          obtain ⟨e0, e1, e2, l0, l1, l2⟩ := hSw
          go_simp
          try with_reducible rfl
        try simp only [Act.put]
        refine wpAnyH_take (i := 7) (v := undef) rfl (by kernel_rfl) (by kernel_rfl) (by kernel_rfl) (fun _ _ _ h => h) (Or.inr ⟨by kernel_rfl, rfl⟩) hHeld ?_
        try simp only [Act.put]
        refine wpAnyH_take (i := 8) (v := undef) rfl (by kernel_rfl) (by kernel_rfl) (by kernel_rfl) (fun _ _ _ h => h) (Or.inr ⟨by kernel_rfl, rfl⟩) hHeld ?_
        try simp only [Act.put]
        refine wpAnyH_take (i := 9) (v := undef) rfl (by kernel_rfl) (by kernel_rfl) (by kernel_rfl) (fun _ _ _ h => h) (Or.inr ⟨by kernel_rfl, rfl⟩) hHeld ?_
        try simp only [Act.put]
        refine wpAnyH_take (i := 10) (v := undef) rfl (by kernel_rfl) (by kernel_rfl) (by kernel_rfl) (fun _ _ _ h => h) (Or.inr ⟨by kernel_rfl, rfl⟩) hHeld ?_
        try simp only [Act.put]
        refine wpAnyH_take (i := 11) (v := undef) rfl (by kernel_rfl) (by kernel_rfl) (by kernel_rfl) (fun _ _ _ h => h) (Or.inr ⟨by kernel_rfl, rfl⟩) hHeld ?_
        try simp only [Act.put]
        refine wpAnyH_take (i := 12) (v := ?v12w1x11_) rfl (by kernel_rfl) (by kernel_rfl) (by kernel_rfl) (fun _ _ _ h => h) (Or.inl ⟨by kernel_rfl, ?y12w1x11_⟩) hHeld ?r12w1x11_
        case y12w1x11_ =>
          intro w hSw
          try dsimp only at hSw
          obtain ⟨e0, e1, e2, l0, l1, l2⟩ := hSw
          go_simp
          try with_reducible rfl
        try simp only [Act.put]
        refine wpAnyH_take (i := 14) (v := ?v14w1x11_) rfl (by kernel_rfl) (by kernel_rfl) (by kernel_rfl) (fun _ _ _ h => h) (Or.inl ⟨by kernel_rfl, ?y14w1x11_⟩) hHeld ?r14w1x11_
        case y14w1x11_ =>
          intro w hSw
          try dsimp only at hSw
          obtain ⟨e0, e1, e2, l0, l1, l2⟩ := hSw
          go_simp
          try with_reducible rfl
        try simp only [Act.put]
        refine wpAnyH_take (i := 15) (v := ?v15w1x11_) rfl (by kernel_rfl) (by kernel_rfl) (by kernel_rfl) (fun _ _ _ h => h) (Or.inl ⟨by kernel_rfl, ?y15w1x11_⟩) hHeld ?r15w1x11_
        case y15w1x11_ =>
          intro w hSw
          try dsimp only at hSw
          obtain ⟨e0, e1, e2, l0, l1, l2⟩ := hSw
          go_simp
          try with_reducible rfl
        try simp only [Act.put]
        refine wpAnyH_take (i := 16) (v := ?v16w1x11_) rfl (by kernel_rfl) (by kernel_rfl) (by kernel_rfl) (fun _ _ _ h => h) (Or.inl ⟨by kernel_rfl, ?y16w1x11_⟩) hHeld ?r16w1x11_
        case y16w1x11_ =>
          intro w hSw
          try dsimp only at hSw
          obtain ⟨e0, e1, e2, l0, l1, l2⟩ := hSw
          go_simp
          try with_reducible rfl
        try simp only [Act.put]
        refine wpAnyH_take (i := 17) (v := ?v17w1x11_) rfl (by kernel_rfl) (by kernel_rfl) (by kernel_rfl) (fun _ _ _ h => h) (Or.inl ⟨by kernel_rfl, ?y17w1x11_⟩) hHeld ?r17w1x11_
        case y17w1x11_ =>
          intro w hSw
          try dsimp only at hSw
          obtain ⟨e0, e1, e2, l0, l1, l2⟩ := hSw
          go_simp
          try with_reducible rfl
        try simp only [Act.put]
        refine wpAnyH_take (i := 18) (v := ?v18w1x11_) rfl (by kernel_rfl) (by kernel_rfl) (by kernel_rfl) (fun _ _ _ h => h) (Or.inl ⟨by kernel_rfl, ?y18w1x11_⟩) hHeld ?r18w1x11_
        case y18w1x11_ =>
          intro w hSw
          try dsimp only at hSw
          obtain ⟨e0, e1, e2, l0, l1, l2⟩ := hSw
          go_simp
          try with_reducible rfl
        try simp only [Act.put]
        refine wpAnyH_take (i := 19) (v := ?v19w1x11_) rfl (by kernel_rfl) (by kernel_rfl) (by kernel_rfl) (fun _ _ _ h => h) (Or.inl ⟨by kernel_rfl, ?y19w1x11_⟩) hHeld ?r19w1x11_
        case y19w1x11_ =>
          intro w hSw
          try dsimp only at hSw
          obtain ⟨e0, e1, e2, l0, l1, l2⟩ := hSw
          go_simp
          try with_reducible rfl
        try simp only [Act.put]
        refine wpAnyH_ready (rs := [13]) (by kernel_rfl) (by simp) ?_
        refine AllReadyH.cons (o := _) rfl (fun K hK => ?_) AllReadyH.nil
        go_simp
        refine (flag_k S1 p u0 (L) true _ (H1.drew) (by have := hHeld.1 0; simpa using this)).mono ?_
        rintro e w2 ⟨rfl, Hw2, hmw2⟩
        have hSw2 := keepK hHeld hmw2 HC.out
        try dsimp only
        refine hK.out _ _ ?_ (fun hHeld => ?_)
        · exact hSw2
        clear hK K
        try simp only [Act.put, List.setIfInBounds_toArray, List.set_cons_zero, List.set_cons_succ]
        refine wpAnyH_ready (rs := [20]) (by kernel_rfl) (by simp) ?_
        refine AllReadyH.cons (o := _) rfl (fun K hK => ?_) AllReadyH.nil
        go_simp
        refine (flag_k S1 p u0 (L ++ bit true) true _ Hw2 (by have := hHeld.1 0; simpa using this)).mono ?_
        rintro e w3 ⟨rfl, Hw3, hmw3⟩
        have hSw3 := keepK hHeld hmw3 HC.out
        try dsimp only
        refine hK.out _ _ ?_ (fun hHeld => ?_)
        · exact hSw3
        clear hK K
        try simp only [Act.put, List.setIfInBounds_toArray, List.set_cons_zero, List.set_cons_succ]
        refine wpAnyH_take (i := 21) (v := ?v21w1x11_) rfl (by kernel_rfl) (by kernel_rfl) (by kernel_rfl) (fun _ _ _ h => h) (Or.inl ⟨by kernel_rfl, ?y21w1x11_⟩) hHeld ?r21w1x11_
        case y21w1x11_ =>
          intro w hSw
          try dsimp only at hSw
          obtain ⟨e0, e1, e2, l0, l1, l2⟩ := hSw
          go_simp
          try with_reducible rfl
        try simp only [Act.put, List.setIfInBounds_toArray]
        refine wpAnyH_take (i := 22) (v := ?v22w1x11_) rfl (by kernel_rfl) (by kernel_rfl) (by kernel_rfl) (fun _ _ _ h => h) (Or.inl ⟨by kernel_rfl, ?y22w1x11_⟩) hHeld ?r22w1x11_
        case y22w1x11_ =>
          intro w hSw
          try dsimp only at hSw
          obtain ⟨e0, e1, e2, l0, l1, l2⟩ := hSw
          go_simp
          try with_reducible rfl
        try simp only [Act.put]
        refine wpAnyH_done (by kernel_rfl) ?_ _
        clear hHeld
        obtain ⟨c0, c1, c2, z0, z1, z2⟩ := id hSw3
        go_wp2_with fail
        refine (flag_k S1 p u0 (L ++ bit true ++ bit true) true _ Hw3 (by have := c0 0; simpa using this)).mono ?_
        rintro e w4 ⟨rfl, Hw4, hmw4⟩
        have hSw4 := keepK hSw3 hmw4 HC.out
        clear c0 c1 c2 z0 z1 z2 hSw3 Hw3
        obtain ⟨c0, c1, c2, z0, z1, z2⟩ := id hSw4
        go_wp2_with fail
        refine (put_k S1 p (L ++ bit true ++ bit true ++ bit true) _ _ _ (M2 k 1).toNat 3 Hw4 (by have := HKK.out; omega) rfl (by decide) (by have := HKK.out; omega)).mono ?_
        rintro e w5 ⟨⟨v5, rfl⟩, Hw5, hmw5⟩
        have hSw5 := keepK hSw4 hmw5 HC.out
        clear c0 c1 c2 z0 z1 z2 hSw4 Hw4
        obtain ⟨c0, c1, c2, z0, z1, z2⟩ := id hSw5
        go_wp2_with fail
        refine (vec_k S1 p (L ++ bit true ++ bit true ++ bit true ++ bitsOf 3 (M2 k 1).toNat) (M2 k 2) (M2 k 3) (M2 k 4) (M1 i 2) (M1 i 3) (M1 i 4) _ Hw5 (HK.out 2 (by decide) (by decide)) (HK.out 3 (by decide) (by decide)) (HK.out 4 (by decide) (by decide)) (HI.out 2 (by decide) (by decide)) (HI.out 3 (by decide) (by decide)) (HI.out 4 (by decide) (by decide))).mono ?_
        rintro e w6 ⟨rfl, Hw6, hmw6⟩
        have hSw6 := keepK hSw5 hmw6 HC.out
        clear c0 c1 c2 z0 z1 z2 hSw5 Hw5
        obtain ⟨c0, c1, c2, z0, z1, z2⟩ := id hSw6
        go_wp2_with fail
        refine (vec_k S1 p (L ++ bit true ++ bit true ++ bit true ++ bitsOf 3 (M2 k 1).toNat ++ vec3L (M2 k 2 - M1 i 2) (M2 k 3 - M1 i 3) (M2 k 4 - M1 i 4)) (M2 k 5) (M2 k 6) (M2 k 7) (M1 i 5) (M1 i 6) (M1 i 7) _ Hw6 (HK.out 5 (by decide) (by decide)) (HK.out 6 (by decide) (by decide)) (HK.out 7 (by decide) (by decide)) (HI.out 5 (by decide) (by decide)) (HI.out 6 (by decide) (by decide)) (HI.out 7 (by decide) (by decide))).mono ?_
        rintro e w7 ⟨rfl, Hw7, hmw7⟩
        have hSw7 := keepK hSw6 hmw7 HC.out
        clear c0 c1 c2 z0 z1 z2 hSw6 Hw6
        obtain ⟨c0, c1, c2, z0, z1, z2⟩ := id hSw7
        go_wp2_with fail
        refine (vec_k S1 p (L ++ bit true ++ bit true ++ bit true ++ bitsOf 3 (M2 k 1).toNat ++ vec3L (M2 k 2 - M1 i 2) (M2 k 3 - M1 i 3) (M2 k 4 - M1 i 4) ++ vec3L (M2 k 5 - M1 i 5) (M2 k 6 - M1 i 6) (M2 k 7 - M1 i 7)) (M2 k 8) (M2 k 9) (M2 k 10) (M1 i 8) (M1 i 9) (M1 i 10) _ Hw7 (HK.out 8 (by decide) (by decide)) (HK.out 9 (by decide) (by decide)) (HK.out 10 (by decide) (by decide)) (HI.out 8 (by decide) (by decide)) (HI.out 9 (by decide) (by decide)) (HI.out 10 (by decide) (by decide))).mono ?_
        rintro e w8 ⟨rfl, Hw8, hmw8⟩
        have hSw8 := keepK hSw7 hmw8 HC.out
        clear c0 c1 c2 z0 z1 z2 hSw7 Hw7
        obtain ⟨c0, c1, c2, z0, z1, z2⟩ := id hSw8
        clear c0 c1 c2 z0 z1 z2
        go_wp2
        go_end0
        refine ⟨rfl, ?_⟩
        have e : L ++ bit true ++ bit true ++ bit true ++ bitsOf 3 (M2 k 1).toNat ++ vec3L (M2 k 2 - M1 i 2) (M2 k 3 - M1 i 3) (M2 k 4 - M1 i 4) ++ vec3L (M2 k 5 - M1 i 5) (M2 k 6 - M1 i 6) (M2 k 7 - M1 i 7) ++ vec3L (M2 k 8 - M1 i 8) (M2 k 9 - M1 i 9) (M2 k 10 - M1 i 10) = L ++ changeL M1 i M2 k := by
          unfold changeL neS vecD
          rw [HSS.out, HSA.out, HSV.out, HSK.out]
          simp [List.append_assoc]
        rw [← e]
        exact WfPost.back ⟨Hw8, ((((((((Mod.refl _ w1).drew.trans hmw2).trans hmw3).trans hmw4).trans hmw5).trans hmw6).trans hmw7).trans hmw8)⟩ HSB.out HM1.out
      | false =>
        refine wp_region_held_drew (S := fun w' => (∀ o, w'.cell? ⟨u0, o, none⟩ = (#[.pointer (some ⟨p, 0, none⟩)] : Array Value)[o]?) ∧ (∀ o, w'.cell? ⟨u1, o, none⟩ = (#[.int .i64 (M1 i 0), .int .i64 (M1 i 1), .int .i64 (M1 i 2), .int .i64 (M1 i 3), .int .i64 (M1 i 4), .int .i64 (M1 i 5), .int .i64 (M1 i 6), .int .i64 (M1 i 7), .int .i64 (M1 i 8), .int .i64 (M1 i 9), .int .i64 (M1 i 10)] : Array Value)[o]?) ∧ (∀ o, w'.cell? ⟨u2, o, none⟩ = (#[.int .i64 (M2 k 0), .int .i64 (M2 k 1), .int .i64 (M2 k 2), .int .i64 (M2 k 3), .int .i64 (M2 k 4), .int .i64 (M2 k 5), .int .i64 (M2 k 6), .int .i64 (M2 k 7), .int .i64 (M2 k 8), .int .i64 (M2 k 9), .int .i64 (M2 k 10)] : Array Value)[o]?) ∧ u0 < w'.heap.size ∧ u1 < w'.heap.size ∧ u2 < w'.heap.size) (by kernel_rfl) ?_ (fun hHeld => ?_)
        · exact keepK_drew hS1'
        refine wpAnyH_take (i := 0) (v := ?v0w1x10_) rfl (by kernel_rfl) (by kernel_rfl) (by kernel_rfl) (fun _ _ _ h => h) (Or.inl ⟨by kernel_rfl, ?y0w1x10_⟩) hHeld ?r0w1x10_
        case y0w1x10_ =>
          intro w hSw
          try dsimp only at hSw
          obtain ⟨e0, e1, e2, l0, l1, l2⟩ := hSw
          go_simp
          try with_reducible rfl
        try simp only [Act.put, List.setIfInBounds_toArray]
        refine wpAnyH_take (i := 1) (v := ?v1w1x10_) rfl (by kernel_rfl) (by kernel_rfl) (by kernel_rfl) (fun _ _ _ h => h) (Or.inl ⟨by kernel_rfl, ?y1w1x10_⟩) hHeld ?r1w1x10_
        case y1w1x10_ =>
          intro w hSw
          try dsimp only at hSw
          obtain ⟨e0, e1, e2, l0, l1, l2⟩ := hSw
          go_simp
          try with_reducible rfl
        try simp only [Act.put]
        refine wpAnyH_take (i := 2) (v := ?v2w1x10_) rfl (by kernel_rfl) (by kernel_rfl) (by kernel_rfl) (fun _ _ _ h => h) (Or.inl ⟨by kernel_rfl, ?y2w1x10_⟩) hHeld ?r2w1x10_
        case y2w1x10_ =>
          intro w hSw
          try dsimp only at hSw
          obtain ⟨e0, e1, e2, l0, l1, l2⟩ := hSw
          go_simp
          try with_reducible rfl
        try simp only [Act.put]
        refine wpAnyH_take (i := 3) (v := ?v3w1x10_) rfl (by kernel_rfl) (by kernel_rfl) (by kernel_rfl) (fun _ _ _ h => h) (Or.inl ⟨by kernel_rfl, ?y3w1x10_⟩) hHeld ?r3w1x10_
        case y3w1x10_ =>
          intro w hSw
          try dsimp only at hSw
          obtain ⟨e0, e1, e2, l0, l1, l2⟩ := hSw
          go_simp
          try with_reducible rfl
        try simp only [Act.put]
        refine wpAnyH_take (i := 4) (v := ?v4w1x10_) rfl (by kernel_rfl) (by kernel_rfl) (by kernel_rfl) (fun _ _ _ h => h) (Or.inl ⟨by kernel_rfl, ?y4w1x10_⟩) hHeld ?r4w1x10_
        case y4w1x10_ =>
          intro w hSw
          try dsimp only at hSw
          obtain ⟨e0, e1, e2, l0, l1, l2⟩ := hSw
          go_simp
          try with_reducible rfl
        try simp only [Act.put]
        refine wpAnyH_take (i := 5) (v := ?v5w1x10_) rfl (by kernel_rfl) (by kernel_rfl) (by kernel_rfl) (fun _ _ _ h => h) (Or.inl ⟨by kernel_rfl, ?y5w1x10_⟩) hHeld ?r5w1x10_
        case y5w1x10_ =>
          intro w hSw
          try dsimp only at hSw
          obtain ⟨e0, e1, e2, l0, l1, l2⟩ := hSw
          go_simp
          try with_reducible rfl
        try simp only [Act.put]
        refine wpAnyH_take (i := 6) (v := ?v6w1x10_) rfl (by kernel_rfl) (by kernel_rfl) (by kernel_rfl) (fun _ _ _ h => h) (Or.inl ⟨by kernel_rfl, ?y6w1x10_⟩) hHeld ?r6w1x10_
        case y6w1x10_ =>
          intro w hSw
          try dsimp only at hSw
          obtain ⟨e0, e1, e2, l0, l1, l2⟩ := hSw
          go_simp
          try with_reducible rfl
        try simp only [Act.put]
        refine wpAnyH_take (i := 7) (v := undef) rfl (by kernel_rfl) (by kernel_rfl) (by kernel_rfl) (fun _ _ _ h => h) (Or.inr ⟨by kernel_rfl, rfl⟩) hHeld ?_
        try simp only [Act.put]
        refine wpAnyH_take (i := 8) (v := undef) rfl (by kernel_rfl) (by kernel_rfl) (by kernel_rfl) (fun _ _ _ h => h) (Or.inr ⟨by kernel_rfl, rfl⟩) hHeld ?_
        try simp only [Act.put]
        refine wpAnyH_take (i := 9) (v := undef) rfl (by kernel_rfl) (by kernel_rfl) (by kernel_rfl) (fun _ _ _ h => h) (Or.inr ⟨by kernel_rfl, rfl⟩) hHeld ?_
        try simp only [Act.put]
        refine wpAnyH_take (i := 10) (v := undef) rfl (by kernel_rfl) (by kernel_rfl) (by kernel_rfl) (fun _ _ _ h => h) (Or.inr ⟨by kernel_rfl, rfl⟩) hHeld ?_
        try simp only [Act.put]
        refine wpAnyH_take (i := 11) (v := undef) rfl (by kernel_rfl) (by kernel_rfl) (by kernel_rfl) (fun _ _ _ h => h) (Or.inr ⟨by kernel_rfl, rfl⟩) hHeld ?_
        try simp only [Act.put]
        refine wpAnyH_take (i := 12) (v := ?v12w1x10_) rfl (by kernel_rfl) (by kernel_rfl) (by kernel_rfl) (fun _ _ _ h => h) (Or.inl ⟨by kernel_rfl, ?y12w1x10_⟩) hHeld ?r12w1x10_
        case y12w1x10_ =>
          intro w hSw
          try dsimp only at hSw
          obtain ⟨e0, e1, e2, l0, l1, l2⟩ := hSw
          go_simp
          try with_reducible rfl
        try simp only [Act.put]
        refine wpAnyH_take (i := 14) (v := ?v14w1x10_) rfl (by kernel_rfl) (by kernel_rfl) (by kernel_rfl) (fun _ _ _ h => h) (Or.inl ⟨by kernel_rfl, ?y14w1x10_⟩) hHeld ?r14w1x10_
        case y14w1x10_ =>
          intro w hSw
          try dsimp only at hSw
          obtain ⟨e0, e1, e2, l0, l1, l2⟩ := hSw
          go_simp
          try with_reducible rfl
        try simp only [Act.put]
        refine wpAnyH_take (i := 15) (v := ?v15w1x10_) rfl (by kernel_rfl) (by kernel_rfl) (by kernel_rfl) (fun _ _ _ h => h) (Or.inl ⟨by kernel_rfl, ?y15w1x10_⟩) hHeld ?r15w1x10_
        case y15w1x10_ =>
          intro w hSw
          try dsimp only at hSw
          obtain ⟨e0, e1, e2, l0, l1, l2⟩ := hSw
          go_simp
          try with_reducible rfl
        try simp only [Act.put]
        refine wpAnyH_take (i := 16) (v := ?v16w1x10_) rfl (by kernel_rfl) (by kernel_rfl) (by kernel_rfl) (fun _ _ _ h => h) (Or.inl ⟨by kernel_rfl, ?y16w1x10_⟩) hHeld ?r16w1x10_
        case y16w1x10_ =>
          intro w hSw
          try dsimp only at hSw
          obtain ⟨e0, e1, e2, l0, l1, l2⟩ := hSw
          go_simp
          try with_reducible rfl
        try simp only [Act.put]
        refine wpAnyH_take (i := 17) (v := ?v17w1x10_) rfl (by kernel_rfl) (by kernel_rfl) (by kernel_rfl) (fun _ _ _ h => h) (Or.inl ⟨by kernel_rfl, ?y17w1x10_⟩) hHeld ?r17w1x10_
        case y17w1x10_ =>
          intro w hSw
          try dsimp only at hSw
          obtain ⟨e0, e1, e2, l0, l1, l2⟩ := hSw
          go_simp
          try with_reducible rfl
        try simp only [Act.put]
        refine wpAnyH_take (i := 18) (v := ?v18w1x10_) rfl (by kernel_rfl) (by kernel_rfl) (by kernel_rfl) (fun _ _ _ h => h) (Or.inl ⟨by kernel_rfl, ?y18w1x10_⟩) hHeld ?r18w1x10_
        case y18w1x10_ =>
          intro w hSw
          try dsimp only at hSw
          obtain ⟨e0, e1, e2, l0, l1, l2⟩ := hSw
          go_simp
          try with_reducible rfl
        try simp only [Act.put]
        refine wpAnyH_take (i := 19) (v := ?v19w1x10_) rfl (by kernel_rfl) (by kernel_rfl) (by kernel_rfl) (fun _ _ _ h => h) (Or.inl ⟨by kernel_rfl, ?y19w1x10_⟩) hHeld ?r19w1x10_
        case y19w1x10_ =>
          intro w hSw
          try dsimp only at hSw
          obtain ⟨e0, e1, e2, l0, l1, l2⟩ := hSw
          go_simp
          try with_reducible rfl
        try simp only [Act.put]
        refine wpAnyH_ready (rs := [13]) (by kernel_rfl) (by simp) ?_
        refine AllReadyH.cons (o := _) rfl (fun K hK => ?_) AllReadyH.nil
        go_simp
        refine (flag_k S1 p u0 (L) true _ (H1.drew) (by have := hHeld.1 0; simpa using this)).mono ?_
        rintro e w2 ⟨rfl, Hw2, hmw2⟩
        have hSw2 := keepK hHeld hmw2 HC.out
        try dsimp only
        refine hK.out _ _ ?_ (fun hHeld => ?_)
        · exact hSw2
        clear hK K
        try simp only [Act.put, List.setIfInBounds_toArray, List.set_cons_zero, List.set_cons_succ]
        refine wpAnyH_ready (rs := [20]) (by kernel_rfl) (by simp) ?_
        refine AllReadyH.cons (o := _) rfl (fun K hK => ?_) AllReadyH.nil
        go_simp
        refine (flag_k S1 p u0 (L ++ bit true) true _ Hw2 (by have := hHeld.1 0; simpa using this)).mono ?_
        rintro e w3 ⟨rfl, Hw3, hmw3⟩
        have hSw3 := keepK hHeld hmw3 HC.out
        try dsimp only
        refine hK.out _ _ ?_ (fun hHeld => ?_)
        · exact hSw3
        clear hK K
        try simp only [Act.put, List.setIfInBounds_toArray, List.set_cons_zero, List.set_cons_succ]
        refine wpAnyH_take (i := 21) (v := ?v21w1x10_) rfl (by kernel_rfl) (by kernel_rfl) (by kernel_rfl) (fun _ _ _ h => h) (Or.inl ⟨by kernel_rfl, ?y21w1x10_⟩) hHeld ?r21w1x10_
        case y21w1x10_ =>
          intro w hSw
          try dsimp only at hSw
          obtain ⟨e0, e1, e2, l0, l1, l2⟩ := hSw
          go_simp
          try with_reducible rfl
        try simp only [Act.put, List.setIfInBounds_toArray]
        refine wpAnyH_take (i := 22) (v := ?v22w1x10_) rfl (by kernel_rfl) (by kernel_rfl) (by kernel_rfl) (fun _ _ _ h => h) (Or.inl ⟨by kernel_rfl, ?y22w1x10_⟩) hHeld ?r22w1x10_
        case y22w1x10_ =>
          intro w hSw
          try dsimp only at hSw
          obtain ⟨e0, e1, e2, l0, l1, l2⟩ := hSw
          go_simp
          try with_reducible rfl
        try simp only [Act.put]
        refine wpAnyH_done (by kernel_rfl) ?_ _
        clear hHeld
        obtain ⟨c0, c1, c2, z0, z1, z2⟩ := id hSw3
        go_wp2_with fail
        refine (flag_k S1 p u0 (L ++ bit true ++ bit true) false _ Hw3 (by have := c0 0; simpa using this)).mono ?_
        rintro e w4 ⟨rfl, Hw4, hmw4⟩
        have hSw4 := keepK hSw3 hmw4 HC.out
        clear c0 c1 c2 z0 z1 z2 hSw3 Hw3
        obtain ⟨c0, c1, c2, z0, z1, z2⟩ := id hSw4
        go_wp2_with fail
        refine (put_k S1 p (L ++ bit true ++ bit true ++ bit false) _ _ _ (M2 k 1).toNat 3 Hw4 (by have := HKK.out; omega) rfl (by decide) (by have := HKK.out; omega)).mono ?_
        rintro e w5 ⟨⟨v5, rfl⟩, Hw5, hmw5⟩
        have hSw5 := keepK hSw4 hmw5 HC.out
        clear c0 c1 c2 z0 z1 z2 hSw4 Hw4
        obtain ⟨c0, c1, c2, z0, z1, z2⟩ := id hSw5
        go_wp2_with fail
        refine (vec_k S1 p (L ++ bit true ++ bit true ++ bit false ++ bitsOf 3 (M2 k 1).toNat) (M2 k 2) (M2 k 3) (M2 k 4) (M1 i 2) (M1 i 3) (M1 i 4) _ Hw5 (HK.out 2 (by decide) (by decide)) (HK.out 3 (by decide) (by decide)) (HK.out 4 (by decide) (by decide)) (HI.out 2 (by decide) (by decide)) (HI.out 3 (by decide) (by decide)) (HI.out 4 (by decide) (by decide))).mono ?_
        rintro e w6 ⟨rfl, Hw6, hmw6⟩
        have hSw6 := keepK hSw5 hmw6 HC.out
        clear c0 c1 c2 z0 z1 z2 hSw5 Hw5
        obtain ⟨c0, c1, c2, z0, z1, z2⟩ := id hSw6
        go_wp2_with fail
        refine (vec_k S1 p (L ++ bit true ++ bit true ++ bit false ++ bitsOf 3 (M2 k 1).toNat ++ vec3L (M2 k 2 - M1 i 2) (M2 k 3 - M1 i 3) (M2 k 4 - M1 i 4)) (M2 k 5) (M2 k 6) (M2 k 7) (M1 i 5) (M1 i 6) (M1 i 7) _ Hw6 (HK.out 5 (by decide) (by decide)) (HK.out 6 (by decide) (by decide)) (HK.out 7 (by decide) (by decide)) (HI.out 5 (by decide) (by decide)) (HI.out 6 (by decide) (by decide)) (HI.out 7 (by decide) (by decide))).mono ?_
        rintro e w7 ⟨rfl, Hw7, hmw7⟩
        have hSw7 := keepK hSw6 hmw7 HC.out
        clear c0 c1 c2 z0 z1 z2 hSw6 Hw6
        obtain ⟨c0, c1, c2, z0, z1, z2⟩ := id hSw7
        clear c0 c1 c2 z0 z1 z2
        go_wp2
        go_end0
        refine ⟨rfl, ?_⟩
        have e : L ++ bit true ++ bit true ++ bit false ++ bitsOf 3 (M2 k 1).toNat ++ vec3L (M2 k 2 - M1 i 2) (M2 k 3 - M1 i 3) (M2 k 4 - M1 i 4) ++ vec3L (M2 k 5 - M1 i 5) (M2 k 6 - M1 i 6) (M2 k 7 - M1 i 7) = L ++ changeL M1 i M2 k := by
          unfold changeL neS vecD
          rw [HSS.out, HSA.out, HSV.out, HSK.out]
          simp [List.append_assoc]
        rw [← e]
        exact WfPost.back ⟨Hw7, (((((((Mod.refl _ w1).drew.trans hmw2).trans hmw3).trans hmw4).trans hmw5).trans hmw6).trans hmw7)⟩ HSB.out HM1.out
    | false =>
      cases sV with
      | true =>
        refine wp_region_held_drew (S := fun w' => (∀ o, w'.cell? ⟨u0, o, none⟩ = (#[.pointer (some ⟨p, 0, none⟩)] : Array Value)[o]?) ∧ (∀ o, w'.cell? ⟨u1, o, none⟩ = (#[.int .i64 (M1 i 0), .int .i64 (M1 i 1), .int .i64 (M1 i 2), .int .i64 (M1 i 3), .int .i64 (M1 i 4), .int .i64 (M1 i 5), .int .i64 (M1 i 6), .int .i64 (M1 i 7), .int .i64 (M1 i 8), .int .i64 (M1 i 9), .int .i64 (M1 i 10)] : Array Value)[o]?) ∧ (∀ o, w'.cell? ⟨u2, o, none⟩ = (#[.int .i64 (M2 k 0), .int .i64 (M2 k 1), .int .i64 (M2 k 2), .int .i64 (M2 k 3), .int .i64 (M2 k 4), .int .i64 (M2 k 5), .int .i64 (M2 k 6), .int .i64 (M2 k 7), .int .i64 (M2 k 8), .int .i64 (M2 k 9), .int .i64 (M2 k 10)] : Array Value)[o]?) ∧ u0 < w'.heap.size ∧ u1 < w'.heap.size ∧ u2 < w'.heap.size) (by kernel_rfl) ?_ (fun hHeld => ?_)
        · exact keepK_drew hS1'
        refine wpAnyH_take (i := 0) (v := ?v0w1x01_) rfl (by kernel_rfl) (by kernel_rfl) (by kernel_rfl) (fun _ _ _ h => h) (Or.inl ⟨by kernel_rfl, ?y0w1x01_⟩) hHeld ?r0w1x01_
        case y0w1x01_ =>
          intro w hSw
          try dsimp only at hSw
          obtain ⟨e0, e1, e2, l0, l1, l2⟩ := hSw
          go_simp
          try with_reducible rfl
        try simp only [Act.put, List.setIfInBounds_toArray]
        refine wpAnyH_take (i := 1) (v := ?v1w1x01_) rfl (by kernel_rfl) (by kernel_rfl) (by kernel_rfl) (fun _ _ _ h => h) (Or.inl ⟨by kernel_rfl, ?y1w1x01_⟩) hHeld ?r1w1x01_
        case y1w1x01_ =>
          intro w hSw
          try dsimp only at hSw
          obtain ⟨e0, e1, e2, l0, l1, l2⟩ := hSw
          go_simp
          try with_reducible rfl
        try simp only [Act.put]
        refine wpAnyH_take (i := 2) (v := ?v2w1x01_) rfl (by kernel_rfl) (by kernel_rfl) (by kernel_rfl) (fun _ _ _ h => h) (Or.inl ⟨by kernel_rfl, ?y2w1x01_⟩) hHeld ?r2w1x01_
        case y2w1x01_ =>
          intro w hSw
          try dsimp only at hSw
          obtain ⟨e0, e1, e2, l0, l1, l2⟩ := hSw
          go_simp
          try with_reducible rfl
        try simp only [Act.put]
        refine wpAnyH_take (i := 3) (v := ?v3w1x01_) rfl (by kernel_rfl) (by kernel_rfl) (by kernel_rfl) (fun _ _ _ h => h) (Or.inl ⟨by kernel_rfl, ?y3w1x01_⟩) hHeld ?r3w1x01_
        case y3w1x01_ =>
          intro w hSw
          try dsimp only at hSw
          obtain ⟨e0, e1, e2, l0, l1, l2⟩ := hSw
          go_simp
          try with_reducible rfl
        try simp only [Act.put]
        refine wpAnyH_take (i := 4) (v := ?v4w1x01_) rfl (by kernel_rfl) (by kernel_rfl) (by kernel_rfl) (fun _ _ _ h => h) (Or.inl ⟨by kernel_rfl, ?y4w1x01_⟩) hHeld ?r4w1x01_
        case y4w1x01_ =>
          intro w hSw
          try dsimp only at hSw
          obtain ⟨e0, e1, e2, l0, l1, l2⟩ := hSw
          go_simp
          try with_reducible rfl
        try simp only [Act.put]
        refine wpAnyH_take (i := 5) (v := ?v5w1x01_) rfl (by kernel_rfl) (by kernel_rfl) (by kernel_rfl) (fun _ _ _ h => h) (Or.inl ⟨by kernel_rfl, ?y5w1x01_⟩) hHeld ?r5w1x01_
        case y5w1x01_ =>
          intro w hSw
          try dsimp only at hSw
          obtain ⟨e0, e1, e2, l0, l1, l2⟩ := hSw
          go_simp
          try with_reducible rfl
        try simp only [Act.put]
        refine wpAnyH_take (i := 6) (v := ?v6w1x01_) rfl (by kernel_rfl) (by kernel_rfl) (by kernel_rfl) (fun _ _ _ h => h) (Or.inl ⟨by kernel_rfl, ?y6w1x01_⟩) hHeld ?r6w1x01_
        case y6w1x01_ =>
          intro w hSw
          try dsimp only at hSw
          obtain ⟨e0, e1, e2, l0, l1, l2⟩ := hSw
          go_simp
          try with_reducible rfl
        try simp only [Act.put]
        refine wpAnyH_take (i := 7) (v := undef) rfl (by kernel_rfl) (by kernel_rfl) (by kernel_rfl) (fun _ _ _ h => h) (Or.inr ⟨by kernel_rfl, rfl⟩) hHeld ?_
        try simp only [Act.put]
        refine wpAnyH_take (i := 8) (v := undef) rfl (by kernel_rfl) (by kernel_rfl) (by kernel_rfl) (fun _ _ _ h => h) (Or.inr ⟨by kernel_rfl, rfl⟩) hHeld ?_
        try simp only [Act.put]
        refine wpAnyH_take (i := 9) (v := undef) rfl (by kernel_rfl) (by kernel_rfl) (by kernel_rfl) (fun _ _ _ h => h) (Or.inr ⟨by kernel_rfl, rfl⟩) hHeld ?_
        try simp only [Act.put]
        refine wpAnyH_take (i := 10) (v := undef) rfl (by kernel_rfl) (by kernel_rfl) (by kernel_rfl) (fun _ _ _ h => h) (Or.inr ⟨by kernel_rfl, rfl⟩) hHeld ?_
        try simp only [Act.put]
        refine wpAnyH_take (i := 11) (v := undef) rfl (by kernel_rfl) (by kernel_rfl) (by kernel_rfl) (fun _ _ _ h => h) (Or.inr ⟨by kernel_rfl, rfl⟩) hHeld ?_
        try simp only [Act.put]
        refine wpAnyH_take (i := 12) (v := ?v12w1x01_) rfl (by kernel_rfl) (by kernel_rfl) (by kernel_rfl) (fun _ _ _ h => h) (Or.inl ⟨by kernel_rfl, ?y12w1x01_⟩) hHeld ?r12w1x01_
        case y12w1x01_ =>
          intro w hSw
          try dsimp only at hSw
          obtain ⟨e0, e1, e2, l0, l1, l2⟩ := hSw
          go_simp
          try with_reducible rfl
        try simp only [Act.put]
        refine wpAnyH_take (i := 14) (v := ?v14w1x01_) rfl (by kernel_rfl) (by kernel_rfl) (by kernel_rfl) (fun _ _ _ h => h) (Or.inl ⟨by kernel_rfl, ?y14w1x01_⟩) hHeld ?r14w1x01_
        case y14w1x01_ =>
          intro w hSw
          try dsimp only at hSw
          obtain ⟨e0, e1, e2, l0, l1, l2⟩ := hSw
          go_simp
          try with_reducible rfl
        try simp only [Act.put]
        refine wpAnyH_take (i := 15) (v := ?v15w1x01_) rfl (by kernel_rfl) (by kernel_rfl) (by kernel_rfl) (fun _ _ _ h => h) (Or.inl ⟨by kernel_rfl, ?y15w1x01_⟩) hHeld ?r15w1x01_
        case y15w1x01_ =>
          intro w hSw
          try dsimp only at hSw
          obtain ⟨e0, e1, e2, l0, l1, l2⟩ := hSw
          go_simp
          try with_reducible rfl
        try simp only [Act.put]
        refine wpAnyH_take (i := 16) (v := ?v16w1x01_) rfl (by kernel_rfl) (by kernel_rfl) (by kernel_rfl) (fun _ _ _ h => h) (Or.inl ⟨by kernel_rfl, ?y16w1x01_⟩) hHeld ?r16w1x01_
        case y16w1x01_ =>
          intro w hSw
          try dsimp only at hSw
          obtain ⟨e0, e1, e2, l0, l1, l2⟩ := hSw
          go_simp
          try with_reducible rfl
        try simp only [Act.put]
        refine wpAnyH_take (i := 17) (v := ?v17w1x01_) rfl (by kernel_rfl) (by kernel_rfl) (by kernel_rfl) (fun _ _ _ h => h) (Or.inl ⟨by kernel_rfl, ?y17w1x01_⟩) hHeld ?r17w1x01_
        case y17w1x01_ =>
          intro w hSw
          try dsimp only at hSw
          obtain ⟨e0, e1, e2, l0, l1, l2⟩ := hSw
          go_simp
          try with_reducible rfl
        try simp only [Act.put]
        refine wpAnyH_take (i := 18) (v := ?v18w1x01_) rfl (by kernel_rfl) (by kernel_rfl) (by kernel_rfl) (fun _ _ _ h => h) (Or.inl ⟨by kernel_rfl, ?y18w1x01_⟩) hHeld ?r18w1x01_
        case y18w1x01_ =>
          intro w hSw
          try dsimp only at hSw
          obtain ⟨e0, e1, e2, l0, l1, l2⟩ := hSw
          go_simp
          try with_reducible rfl
        try simp only [Act.put]
        refine wpAnyH_take (i := 19) (v := ?v19w1x01_) rfl (by kernel_rfl) (by kernel_rfl) (by kernel_rfl) (fun _ _ _ h => h) (Or.inl ⟨by kernel_rfl, ?y19w1x01_⟩) hHeld ?r19w1x01_
        case y19w1x01_ =>
          intro w hSw
          try dsimp only at hSw
          obtain ⟨e0, e1, e2, l0, l1, l2⟩ := hSw
          go_simp
          try with_reducible rfl
        try simp only [Act.put]
        refine wpAnyH_ready (rs := [13]) (by kernel_rfl) (by simp) ?_
        refine AllReadyH.cons (o := _) rfl (fun K hK => ?_) AllReadyH.nil
        go_simp
        refine (flag_k S1 p u0 (L) true _ (H1.drew) (by have := hHeld.1 0; simpa using this)).mono ?_
        rintro e w2 ⟨rfl, Hw2, hmw2⟩
        have hSw2 := keepK hHeld hmw2 HC.out
        try dsimp only
        refine hK.out _ _ ?_ (fun hHeld => ?_)
        · exact hSw2
        clear hK K
        try simp only [Act.put, List.setIfInBounds_toArray, List.set_cons_zero, List.set_cons_succ]
        refine wpAnyH_ready (rs := [20]) (by kernel_rfl) (by simp) ?_
        refine AllReadyH.cons (o := _) rfl (fun K hK => ?_) AllReadyH.nil
        go_simp
        refine (flag_k S1 p u0 (L ++ bit true) false _ Hw2 (by have := hHeld.1 0; simpa using this)).mono ?_
        rintro e w3 ⟨rfl, Hw3, hmw3⟩
        have hSw3 := keepK hHeld hmw3 HC.out
        try dsimp only
        refine hK.out _ _ ?_ (fun hHeld => ?_)
        · exact hSw3
        clear hK K
        try simp only [Act.put, List.setIfInBounds_toArray, List.set_cons_zero, List.set_cons_succ]
        refine wpAnyH_take (i := 21) (v := ?v21w1x01_) rfl (by kernel_rfl) (by kernel_rfl) (by kernel_rfl) (fun _ _ _ h => h) (Or.inl ⟨by kernel_rfl, ?y21w1x01_⟩) hHeld ?r21w1x01_
        case y21w1x01_ =>
          intro w hSw
          try dsimp only at hSw
          obtain ⟨e0, e1, e2, l0, l1, l2⟩ := hSw
          go_simp
          try with_reducible rfl
        try simp only [Act.put, List.setIfInBounds_toArray]
        refine wpAnyH_take (i := 22) (v := ?v22w1x01_) rfl (by kernel_rfl) (by kernel_rfl) (by kernel_rfl) (fun _ _ _ h => h) (Or.inl ⟨by kernel_rfl, ?y22w1x01_⟩) hHeld ?r22w1x01_
        case y22w1x01_ =>
          intro w hSw
          try dsimp only at hSw
          obtain ⟨e0, e1, e2, l0, l1, l2⟩ := hSw
          go_simp
          try with_reducible rfl
        try simp only [Act.put]
        refine wpAnyH_done (by kernel_rfl) ?_ _
        clear hHeld
        obtain ⟨c0, c1, c2, z0, z1, z2⟩ := id hSw3
        go_wp2_with fail
        refine (flag_k S1 p u0 (L ++ bit true ++ bit false) true _ Hw3 (by have := c0 0; simpa using this)).mono ?_
        rintro e w4 ⟨rfl, Hw4, hmw4⟩
        have hSw4 := keepK hSw3 hmw4 HC.out
        clear c0 c1 c2 z0 z1 z2 hSw3 Hw3
        obtain ⟨c0, c1, c2, z0, z1, z2⟩ := id hSw4
        go_wp2_with fail
        refine (put_k S1 p (L ++ bit true ++ bit false ++ bit true) _ _ _ (M2 k 1).toNat 3 Hw4 (by have := HKK.out; omega) rfl (by decide) (by have := HKK.out; omega)).mono ?_
        rintro e w5 ⟨⟨v5, rfl⟩, Hw5, hmw5⟩
        have hSw5 := keepK hSw4 hmw5 HC.out
        clear c0 c1 c2 z0 z1 z2 hSw4 Hw4
        obtain ⟨c0, c1, c2, z0, z1, z2⟩ := id hSw5
        go_wp2_with fail
        refine (vec_k S1 p (L ++ bit true ++ bit false ++ bit true ++ bitsOf 3 (M2 k 1).toNat) (M2 k 2) (M2 k 3) (M2 k 4) (M1 i 2) (M1 i 3) (M1 i 4) _ Hw5 (HK.out 2 (by decide) (by decide)) (HK.out 3 (by decide) (by decide)) (HK.out 4 (by decide) (by decide)) (HI.out 2 (by decide) (by decide)) (HI.out 3 (by decide) (by decide)) (HI.out 4 (by decide) (by decide))).mono ?_
        rintro e w6 ⟨rfl, Hw6, hmw6⟩
        have hSw6 := keepK hSw5 hmw6 HC.out
        clear c0 c1 c2 z0 z1 z2 hSw5 Hw5
        obtain ⟨c0, c1, c2, z0, z1, z2⟩ := id hSw6
        go_wp2_with fail
        refine (vec_k S1 p (L ++ bit true ++ bit false ++ bit true ++ bitsOf 3 (M2 k 1).toNat ++ vec3L (M2 k 2 - M1 i 2) (M2 k 3 - M1 i 3) (M2 k 4 - M1 i 4)) (M2 k 8) (M2 k 9) (M2 k 10) (M1 i 8) (M1 i 9) (M1 i 10) _ Hw6 (HK.out 8 (by decide) (by decide)) (HK.out 9 (by decide) (by decide)) (HK.out 10 (by decide) (by decide)) (HI.out 8 (by decide) (by decide)) (HI.out 9 (by decide) (by decide)) (HI.out 10 (by decide) (by decide))).mono ?_
        rintro e w7 ⟨rfl, Hw7, hmw7⟩
        have hSw7 := keepK hSw6 hmw7 HC.out
        clear c0 c1 c2 z0 z1 z2 hSw6 Hw6
        obtain ⟨c0, c1, c2, z0, z1, z2⟩ := id hSw7
        clear c0 c1 c2 z0 z1 z2
        go_wp2
        go_end0
        refine ⟨rfl, ?_⟩
        have e : L ++ bit true ++ bit false ++ bit true ++ bitsOf 3 (M2 k 1).toNat ++ vec3L (M2 k 2 - M1 i 2) (M2 k 3 - M1 i 3) (M2 k 4 - M1 i 4) ++ vec3L (M2 k 8 - M1 i 8) (M2 k 9 - M1 i 9) (M2 k 10 - M1 i 10) = L ++ changeL M1 i M2 k := by
          unfold changeL neS vecD
          rw [HSS.out, HSA.out, HSV.out, HSK.out]
          simp [List.append_assoc]
        rw [← e]
        exact WfPost.back ⟨Hw7, (((((((Mod.refl _ w1).drew.trans hmw2).trans hmw3).trans hmw4).trans hmw5).trans hmw6).trans hmw7)⟩ HSB.out HM1.out
      | false =>
        refine wp_region_held_drew (S := fun w' => (∀ o, w'.cell? ⟨u0, o, none⟩ = (#[.pointer (some ⟨p, 0, none⟩)] : Array Value)[o]?) ∧ (∀ o, w'.cell? ⟨u1, o, none⟩ = (#[.int .i64 (M1 i 0), .int .i64 (M1 i 1), .int .i64 (M1 i 2), .int .i64 (M1 i 3), .int .i64 (M1 i 4), .int .i64 (M1 i 5), .int .i64 (M1 i 6), .int .i64 (M1 i 7), .int .i64 (M1 i 8), .int .i64 (M1 i 9), .int .i64 (M1 i 10)] : Array Value)[o]?) ∧ (∀ o, w'.cell? ⟨u2, o, none⟩ = (#[.int .i64 (M2 k 0), .int .i64 (M2 k 1), .int .i64 (M2 k 2), .int .i64 (M2 k 3), .int .i64 (M2 k 4), .int .i64 (M2 k 5), .int .i64 (M2 k 6), .int .i64 (M2 k 7), .int .i64 (M2 k 8), .int .i64 (M2 k 9), .int .i64 (M2 k 10)] : Array Value)[o]?) ∧ u0 < w'.heap.size ∧ u1 < w'.heap.size ∧ u2 < w'.heap.size) (by kernel_rfl) ?_ (fun hHeld => ?_)
        · exact keepK_drew hS1'
        refine wpAnyH_take (i := 0) (v := ?v0w1x00_) rfl (by kernel_rfl) (by kernel_rfl) (by kernel_rfl) (fun _ _ _ h => h) (Or.inl ⟨by kernel_rfl, ?y0w1x00_⟩) hHeld ?r0w1x00_
        case y0w1x00_ =>
          intro w hSw
          try dsimp only at hSw
          obtain ⟨e0, e1, e2, l0, l1, l2⟩ := hSw
          go_simp
          try with_reducible rfl
        try simp only [Act.put, List.setIfInBounds_toArray]
        refine wpAnyH_take (i := 1) (v := ?v1w1x00_) rfl (by kernel_rfl) (by kernel_rfl) (by kernel_rfl) (fun _ _ _ h => h) (Or.inl ⟨by kernel_rfl, ?y1w1x00_⟩) hHeld ?r1w1x00_
        case y1w1x00_ =>
          intro w hSw
          try dsimp only at hSw
          obtain ⟨e0, e1, e2, l0, l1, l2⟩ := hSw
          go_simp
          try with_reducible rfl
        try simp only [Act.put]
        refine wpAnyH_take (i := 2) (v := ?v2w1x00_) rfl (by kernel_rfl) (by kernel_rfl) (by kernel_rfl) (fun _ _ _ h => h) (Or.inl ⟨by kernel_rfl, ?y2w1x00_⟩) hHeld ?r2w1x00_
        case y2w1x00_ =>
          intro w hSw
          try dsimp only at hSw
          obtain ⟨e0, e1, e2, l0, l1, l2⟩ := hSw
          go_simp
          try with_reducible rfl
        try simp only [Act.put]
        refine wpAnyH_take (i := 3) (v := ?v3w1x00_) rfl (by kernel_rfl) (by kernel_rfl) (by kernel_rfl) (fun _ _ _ h => h) (Or.inl ⟨by kernel_rfl, ?y3w1x00_⟩) hHeld ?r3w1x00_
        case y3w1x00_ =>
          intro w hSw
          try dsimp only at hSw
          obtain ⟨e0, e1, e2, l0, l1, l2⟩ := hSw
          go_simp
          try with_reducible rfl
        try simp only [Act.put]
        refine wpAnyH_take (i := 4) (v := ?v4w1x00_) rfl (by kernel_rfl) (by kernel_rfl) (by kernel_rfl) (fun _ _ _ h => h) (Or.inl ⟨by kernel_rfl, ?y4w1x00_⟩) hHeld ?r4w1x00_
        case y4w1x00_ =>
          intro w hSw
          try dsimp only at hSw
          obtain ⟨e0, e1, e2, l0, l1, l2⟩ := hSw
          go_simp
          try with_reducible rfl
        try simp only [Act.put]
        refine wpAnyH_take (i := 5) (v := ?v5w1x00_) rfl (by kernel_rfl) (by kernel_rfl) (by kernel_rfl) (fun _ _ _ h => h) (Or.inl ⟨by kernel_rfl, ?y5w1x00_⟩) hHeld ?r5w1x00_
        case y5w1x00_ =>
          intro w hSw
          try dsimp only at hSw
          obtain ⟨e0, e1, e2, l0, l1, l2⟩ := hSw
          go_simp
          try with_reducible rfl
        try simp only [Act.put]
        refine wpAnyH_take (i := 6) (v := ?v6w1x00_) rfl (by kernel_rfl) (by kernel_rfl) (by kernel_rfl) (fun _ _ _ h => h) (Or.inl ⟨by kernel_rfl, ?y6w1x00_⟩) hHeld ?r6w1x00_
        case y6w1x00_ =>
          intro w hSw
          try dsimp only at hSw
          obtain ⟨e0, e1, e2, l0, l1, l2⟩ := hSw
          go_simp
          try with_reducible rfl
        try simp only [Act.put]
        refine wpAnyH_take (i := 7) (v := undef) rfl (by kernel_rfl) (by kernel_rfl) (by kernel_rfl) (fun _ _ _ h => h) (Or.inr ⟨by kernel_rfl, rfl⟩) hHeld ?_
        try simp only [Act.put]
        refine wpAnyH_take (i := 8) (v := undef) rfl (by kernel_rfl) (by kernel_rfl) (by kernel_rfl) (fun _ _ _ h => h) (Or.inr ⟨by kernel_rfl, rfl⟩) hHeld ?_
        try simp only [Act.put]
        refine wpAnyH_take (i := 9) (v := undef) rfl (by kernel_rfl) (by kernel_rfl) (by kernel_rfl) (fun _ _ _ h => h) (Or.inr ⟨by kernel_rfl, rfl⟩) hHeld ?_
        try simp only [Act.put]
        refine wpAnyH_take (i := 10) (v := undef) rfl (by kernel_rfl) (by kernel_rfl) (by kernel_rfl) (fun _ _ _ h => h) (Or.inr ⟨by kernel_rfl, rfl⟩) hHeld ?_
        try simp only [Act.put]
        refine wpAnyH_take (i := 11) (v := undef) rfl (by kernel_rfl) (by kernel_rfl) (by kernel_rfl) (fun _ _ _ h => h) (Or.inr ⟨by kernel_rfl, rfl⟩) hHeld ?_
        try simp only [Act.put]
        refine wpAnyH_take (i := 12) (v := ?v12w1x00_) rfl (by kernel_rfl) (by kernel_rfl) (by kernel_rfl) (fun _ _ _ h => h) (Or.inl ⟨by kernel_rfl, ?y12w1x00_⟩) hHeld ?r12w1x00_
        case y12w1x00_ =>
          intro w hSw
          try dsimp only at hSw
          obtain ⟨e0, e1, e2, l0, l1, l2⟩ := hSw
          go_simp
          try with_reducible rfl
        try simp only [Act.put]
        refine wpAnyH_take (i := 14) (v := ?v14w1x00_) rfl (by kernel_rfl) (by kernel_rfl) (by kernel_rfl) (fun _ _ _ h => h) (Or.inl ⟨by kernel_rfl, ?y14w1x00_⟩) hHeld ?r14w1x00_
        case y14w1x00_ =>
          intro w hSw
          try dsimp only at hSw
          obtain ⟨e0, e1, e2, l0, l1, l2⟩ := hSw
          go_simp
          try with_reducible rfl
        try simp only [Act.put]
        refine wpAnyH_take (i := 15) (v := ?v15w1x00_) rfl (by kernel_rfl) (by kernel_rfl) (by kernel_rfl) (fun _ _ _ h => h) (Or.inl ⟨by kernel_rfl, ?y15w1x00_⟩) hHeld ?r15w1x00_
        case y15w1x00_ =>
          intro w hSw
          try dsimp only at hSw
          obtain ⟨e0, e1, e2, l0, l1, l2⟩ := hSw
          go_simp
          try with_reducible rfl
        try simp only [Act.put]
        refine wpAnyH_take (i := 16) (v := ?v16w1x00_) rfl (by kernel_rfl) (by kernel_rfl) (by kernel_rfl) (fun _ _ _ h => h) (Or.inl ⟨by kernel_rfl, ?y16w1x00_⟩) hHeld ?r16w1x00_
        case y16w1x00_ =>
          intro w hSw
          try dsimp only at hSw
          obtain ⟨e0, e1, e2, l0, l1, l2⟩ := hSw
          go_simp
          try with_reducible rfl
        try simp only [Act.put]
        refine wpAnyH_take (i := 17) (v := ?v17w1x00_) rfl (by kernel_rfl) (by kernel_rfl) (by kernel_rfl) (fun _ _ _ h => h) (Or.inl ⟨by kernel_rfl, ?y17w1x00_⟩) hHeld ?r17w1x00_
        case y17w1x00_ =>
          intro w hSw
          try dsimp only at hSw
          obtain ⟨e0, e1, e2, l0, l1, l2⟩ := hSw
          go_simp
          try with_reducible rfl
        try simp only [Act.put]
        refine wpAnyH_take (i := 18) (v := ?v18w1x00_) rfl (by kernel_rfl) (by kernel_rfl) (by kernel_rfl) (fun _ _ _ h => h) (Or.inl ⟨by kernel_rfl, ?y18w1x00_⟩) hHeld ?r18w1x00_
        case y18w1x00_ =>
          intro w hSw
          try dsimp only at hSw
          obtain ⟨e0, e1, e2, l0, l1, l2⟩ := hSw
          go_simp
          try with_reducible rfl
        try simp only [Act.put]
        refine wpAnyH_take (i := 19) (v := ?v19w1x00_) rfl (by kernel_rfl) (by kernel_rfl) (by kernel_rfl) (fun _ _ _ h => h) (Or.inl ⟨by kernel_rfl, ?y19w1x00_⟩) hHeld ?r19w1x00_
        case y19w1x00_ =>
          intro w hSw
          try dsimp only at hSw
          obtain ⟨e0, e1, e2, l0, l1, l2⟩ := hSw
          go_simp
          try with_reducible rfl
        try simp only [Act.put]
        refine wpAnyH_ready (rs := [13]) (by kernel_rfl) (by simp) ?_
        refine AllReadyH.cons (o := _) rfl (fun K hK => ?_) AllReadyH.nil
        go_simp
        refine (flag_k S1 p u0 (L) true _ (H1.drew) (by have := hHeld.1 0; simpa using this)).mono ?_
        rintro e w2 ⟨rfl, Hw2, hmw2⟩
        have hSw2 := keepK hHeld hmw2 HC.out
        try dsimp only
        refine hK.out _ _ ?_ (fun hHeld => ?_)
        · exact hSw2
        clear hK K
        try simp only [Act.put, List.setIfInBounds_toArray, List.set_cons_zero, List.set_cons_succ]
        refine wpAnyH_ready (rs := [20]) (by kernel_rfl) (by simp) ?_
        refine AllReadyH.cons (o := _) rfl (fun K hK => ?_) AllReadyH.nil
        go_simp
        refine (flag_k S1 p u0 (L ++ bit true) false _ Hw2 (by have := hHeld.1 0; simpa using this)).mono ?_
        rintro e w3 ⟨rfl, Hw3, hmw3⟩
        have hSw3 := keepK hHeld hmw3 HC.out
        try dsimp only
        refine hK.out _ _ ?_ (fun hHeld => ?_)
        · exact hSw3
        clear hK K
        try simp only [Act.put, List.setIfInBounds_toArray, List.set_cons_zero, List.set_cons_succ]
        refine wpAnyH_take (i := 21) (v := ?v21w1x00_) rfl (by kernel_rfl) (by kernel_rfl) (by kernel_rfl) (fun _ _ _ h => h) (Or.inl ⟨by kernel_rfl, ?y21w1x00_⟩) hHeld ?r21w1x00_
        case y21w1x00_ =>
          intro w hSw
          try dsimp only at hSw
          obtain ⟨e0, e1, e2, l0, l1, l2⟩ := hSw
          go_simp
          try with_reducible rfl
        try simp only [Act.put, List.setIfInBounds_toArray]
        refine wpAnyH_take (i := 22) (v := ?v22w1x00_) rfl (by kernel_rfl) (by kernel_rfl) (by kernel_rfl) (fun _ _ _ h => h) (Or.inl ⟨by kernel_rfl, ?y22w1x00_⟩) hHeld ?r22w1x00_
        case y22w1x00_ =>
          intro w hSw
          try dsimp only at hSw
          obtain ⟨e0, e1, e2, l0, l1, l2⟩ := hSw
          go_simp
          try with_reducible rfl
        try simp only [Act.put]
        refine wpAnyH_done (by kernel_rfl) ?_ _
        clear hHeld
        obtain ⟨c0, c1, c2, z0, z1, z2⟩ := id hSw3
        go_wp2_with fail
        refine (flag_k S1 p u0 (L ++ bit true ++ bit false) false _ Hw3 (by have := c0 0; simpa using this)).mono ?_
        rintro e w4 ⟨rfl, Hw4, hmw4⟩
        have hSw4 := keepK hSw3 hmw4 HC.out
        clear c0 c1 c2 z0 z1 z2 hSw3 Hw3
        obtain ⟨c0, c1, c2, z0, z1, z2⟩ := id hSw4
        go_wp2_with fail
        refine (put_k S1 p (L ++ bit true ++ bit false ++ bit false) _ _ _ (M2 k 1).toNat 3 Hw4 (by have := HKK.out; omega) rfl (by decide) (by have := HKK.out; omega)).mono ?_
        rintro e w5 ⟨⟨v5, rfl⟩, Hw5, hmw5⟩
        have hSw5 := keepK hSw4 hmw5 HC.out
        clear c0 c1 c2 z0 z1 z2 hSw4 Hw4
        obtain ⟨c0, c1, c2, z0, z1, z2⟩ := id hSw5
        go_wp2_with fail
        refine (vec_k S1 p (L ++ bit true ++ bit false ++ bit false ++ bitsOf 3 (M2 k 1).toNat) (M2 k 2) (M2 k 3) (M2 k 4) (M1 i 2) (M1 i 3) (M1 i 4) _ Hw5 (HK.out 2 (by decide) (by decide)) (HK.out 3 (by decide) (by decide)) (HK.out 4 (by decide) (by decide)) (HI.out 2 (by decide) (by decide)) (HI.out 3 (by decide) (by decide)) (HI.out 4 (by decide) (by decide))).mono ?_
        rintro e w6 ⟨rfl, Hw6, hmw6⟩
        have hSw6 := keepK hSw5 hmw6 HC.out
        clear c0 c1 c2 z0 z1 z2 hSw5 Hw5
        obtain ⟨c0, c1, c2, z0, z1, z2⟩ := id hSw6
        clear c0 c1 c2 z0 z1 z2
        go_wp2
        go_end0
        refine ⟨rfl, ?_⟩
        have e : L ++ bit true ++ bit false ++ bit false ++ bitsOf 3 (M2 k 1).toNat ++ vec3L (M2 k 2 - M1 i 2) (M2 k 3 - M1 i 3) (M2 k 4 - M1 i 4) = L ++ changeL M1 i M2 k := by
          unfold changeL neS vecD
          rw [HSS.out, HSA.out, HSV.out, HSK.out]
          simp [List.append_assoc]
        rw [← e]
        exact WfPost.back ⟨Hw6, ((((((Mod.refl _ w1).drew.trans hmw2).trans hmw3).trans hmw4).trans hmw5).trans hmw6)⟩ HSB.out HM1.out
  | false =>
    cases sK with
    | true =>
      cases sA with
      | true =>
        cases sV with
        | true =>
          refine wp_region_held_drew (S := fun w' => (∀ o, w'.cell? ⟨u0, o, none⟩ = (#[.pointer (some ⟨p, 0, none⟩)] : Array Value)[o]?) ∧ (∀ o, w'.cell? ⟨u1, o, none⟩ = (#[.int .i64 (M1 i 0), .int .i64 (M1 i 1), .int .i64 (M1 i 2), .int .i64 (M1 i 3), .int .i64 (M1 i 4), .int .i64 (M1 i 5), .int .i64 (M1 i 6), .int .i64 (M1 i 7), .int .i64 (M1 i 8), .int .i64 (M1 i 9), .int .i64 (M1 i 10)] : Array Value)[o]?) ∧ (∀ o, w'.cell? ⟨u2, o, none⟩ = (#[.int .i64 (M2 k 0), .int .i64 (M2 k 1), .int .i64 (M2 k 2), .int .i64 (M2 k 3), .int .i64 (M2 k 4), .int .i64 (M2 k 5), .int .i64 (M2 k 6), .int .i64 (M2 k 7), .int .i64 (M2 k 8), .int .i64 (M2 k 9), .int .i64 (M2 k 10)] : Array Value)[o]?) ∧ u0 < w'.heap.size ∧ u1 < w'.heap.size ∧ u2 < w'.heap.size) (by kernel_rfl) ?_ (fun hHeld => ?_)
          · exact keepK_drew hS1'
          refine wpAnyH_take (i := 0) (v := ?v0w0011_) rfl (by kernel_rfl) (by kernel_rfl) (by kernel_rfl) (fun _ _ _ h => h) (Or.inl ⟨by kernel_rfl, ?y0w0011_⟩) hHeld ?r0w0011_
          case y0w0011_ =>
            intro w hSw
            try dsimp only at hSw
            obtain ⟨e0, e1, e2, l0, l1, l2⟩ := hSw
            go_simp
            try with_reducible rfl
          try simp only [Act.put, List.setIfInBounds_toArray]
          refine wpAnyH_take (i := 1) (v := ?v1w0011_) rfl (by kernel_rfl) (by kernel_rfl) (by kernel_rfl) (fun _ _ _ h => h) (Or.inl ⟨by kernel_rfl, ?y1w0011_⟩) hHeld ?r1w0011_
          case y1w0011_ =>
            intro w hSw
            try dsimp only at hSw
            obtain ⟨e0, e1, e2, l0, l1, l2⟩ := hSw
            go_simp
            try with_reducible rfl
          try simp only [Act.put]
          refine wpAnyH_take (i := 2) (v := ?v2w0011_) rfl (by kernel_rfl) (by kernel_rfl) (by kernel_rfl) (fun _ _ _ h => h) (Or.inl ⟨by kernel_rfl, ?y2w0011_⟩) hHeld ?r2w0011_
          case y2w0011_ =>
            intro w hSw
            try dsimp only at hSw
            obtain ⟨e0, e1, e2, l0, l1, l2⟩ := hSw
            go_simp
            try with_reducible rfl
          try simp only [Act.put]
          refine wpAnyH_take (i := 3) (v := ?v3w0011_) rfl (by kernel_rfl) (by kernel_rfl) (by kernel_rfl) (fun _ _ _ h => h) (Or.inl ⟨by kernel_rfl, ?y3w0011_⟩) hHeld ?r3w0011_
          case y3w0011_ =>
            intro w hSw
            try dsimp only at hSw
            obtain ⟨e0, e1, e2, l0, l1, l2⟩ := hSw
            go_simp
            try with_reducible rfl
          try simp only [Act.put]
          refine wpAnyH_take (i := 4) (v := ?v4w0011_) rfl (by kernel_rfl) (by kernel_rfl) (by kernel_rfl) (fun _ _ _ h => h) (Or.inl ⟨by kernel_rfl, ?y4w0011_⟩) hHeld ?r4w0011_
          case y4w0011_ =>
            intro w hSw
            try dsimp only at hSw
            obtain ⟨e0, e1, e2, l0, l1, l2⟩ := hSw
            go_simp
            try with_reducible rfl
          try simp only [Act.put]
          refine wpAnyH_take (i := 5) (v := ?v5w0011_) rfl (by kernel_rfl) (by kernel_rfl) (by kernel_rfl) (fun _ _ _ h => h) (Or.inl ⟨by kernel_rfl, ?y5w0011_⟩) hHeld ?r5w0011_
          case y5w0011_ =>
            intro w hSw
            try dsimp only at hSw
            obtain ⟨e0, e1, e2, l0, l1, l2⟩ := hSw
            go_simp
            try with_reducible rfl
          try simp only [Act.put]
          refine wpAnyH_take (i := 6) (v := ?v6w0011_) rfl (by kernel_rfl) (by kernel_rfl) (by kernel_rfl) (fun _ _ _ h => h) (Or.inl ⟨by kernel_rfl, ?y6w0011_⟩) hHeld ?r6w0011_
          case y6w0011_ =>
            intro w hSw
            try dsimp only at hSw
            obtain ⟨e0, e1, e2, l0, l1, l2⟩ := hSw
            go_simp
            try with_reducible rfl
          try simp only [Act.put]
          refine wpAnyH_take (i := 7) (v := ?v7w0011_) rfl (by kernel_rfl) (by kernel_rfl) (by kernel_rfl) (fun _ _ _ h => h) (Or.inl ⟨by kernel_rfl, ?y7w0011_⟩) hHeld ?r7w0011_
          case y7w0011_ =>
            intro w hSw
            try dsimp only at hSw
            obtain ⟨e0, e1, e2, l0, l1, l2⟩ := hSw
            go_simp
            try with_reducible rfl
          try simp only [Act.put]
          refine wpAnyH_take (i := 8) (v := ?v8w0011_) rfl (by kernel_rfl) (by kernel_rfl) (by kernel_rfl) (fun _ _ _ h => h) (Or.inl ⟨by kernel_rfl, ?y8w0011_⟩) hHeld ?r8w0011_
          case y8w0011_ =>
            intro w hSw
            try dsimp only at hSw
            obtain ⟨e0, e1, e2, l0, l1, l2⟩ := hSw
            go_simp
            try with_reducible rfl
          try simp only [Act.put]
          refine wpAnyH_take (i := 9) (v := ?v9w0011_) rfl (by kernel_rfl) (by kernel_rfl) (by kernel_rfl) (fun _ _ _ h => h) (Or.inl ⟨by kernel_rfl, ?y9w0011_⟩) hHeld ?r9w0011_
          case y9w0011_ =>
            intro w hSw
            try dsimp only at hSw
            obtain ⟨e0, e1, e2, l0, l1, l2⟩ := hSw
            go_simp
            try with_reducible rfl
          try simp only [Act.put]
          refine wpAnyH_take (i := 10) (v := ?v10w0011_) rfl (by kernel_rfl) (by kernel_rfl) (by kernel_rfl) (fun _ _ _ h => h) (Or.inl ⟨by kernel_rfl, ?y10w0011_⟩) hHeld ?r10w0011_
          case y10w0011_ =>
            intro w hSw
            try dsimp only at hSw
            obtain ⟨e0, e1, e2, l0, l1, l2⟩ := hSw
            go_simp
            try with_reducible rfl
          try simp only [Act.put]
          refine wpAnyH_take (i := 11) (v := ?v11w0011_) rfl (by kernel_rfl) (by kernel_rfl) (by kernel_rfl) (fun _ _ _ h => h) (Or.inl ⟨by kernel_rfl, ?y11w0011_⟩) hHeld ?r11w0011_
          case y11w0011_ =>
            intro w hSw
            try dsimp only at hSw
            obtain ⟨e0, e1, e2, l0, l1, l2⟩ := hSw
            go_simp
            try with_reducible rfl
          try simp only [Act.put]
          refine wpAnyH_take (i := 12) (v := ?v12w0011_) rfl (by kernel_rfl) (by kernel_rfl) (by kernel_rfl) (fun _ _ _ h => h) (Or.inl ⟨by kernel_rfl, ?y12w0011_⟩) hHeld ?r12w0011_
          case y12w0011_ =>
            intro w hSw
            try dsimp only at hSw
            obtain ⟨e0, e1, e2, l0, l1, l2⟩ := hSw
            go_simp
            try with_reducible rfl
          try simp only [Act.put]
          refine wpAnyH_take (i := 14) (v := ?v14w0011_) rfl (by kernel_rfl) (by kernel_rfl) (by kernel_rfl) (fun _ _ _ h => h) (Or.inl ⟨by kernel_rfl, ?y14w0011_⟩) hHeld ?r14w0011_
          case y14w0011_ =>
            intro w hSw
            try dsimp only at hSw
            obtain ⟨e0, e1, e2, l0, l1, l2⟩ := hSw
            go_simp
            try with_reducible rfl
          try simp only [Act.put]
          refine wpAnyH_take (i := 15) (v := ?v15w0011_) rfl (by kernel_rfl) (by kernel_rfl) (by kernel_rfl) (fun _ _ _ h => h) (Or.inl ⟨by kernel_rfl, ?y15w0011_⟩) hHeld ?r15w0011_
          case y15w0011_ =>
            intro w hSw
            try dsimp only at hSw
            obtain ⟨e0, e1, e2, l0, l1, l2⟩ := hSw
            go_simp
            try with_reducible rfl
          try simp only [Act.put]
          refine wpAnyH_take (i := 16) (v := ?v16w0011_) rfl (by kernel_rfl) (by kernel_rfl) (by kernel_rfl) (fun _ _ _ h => h) (Or.inl ⟨by kernel_rfl, ?y16w0011_⟩) hHeld ?r16w0011_
          case y16w0011_ =>
            intro w hSw
            try dsimp only at hSw
            obtain ⟨e0, e1, e2, l0, l1, l2⟩ := hSw
            go_simp
            try with_reducible rfl
          try simp only [Act.put]
          refine wpAnyH_take (i := 17) (v := ?v17w0011_) rfl (by kernel_rfl) (by kernel_rfl) (by kernel_rfl) (fun _ _ _ h => h) (Or.inl ⟨by kernel_rfl, ?y17w0011_⟩) hHeld ?r17w0011_
          case y17w0011_ =>
            intro w hSw
            try dsimp only at hSw
            obtain ⟨e0, e1, e2, l0, l1, l2⟩ := hSw
            go_simp
            try with_reducible rfl
          try simp only [Act.put]
          refine wpAnyH_take (i := 18) (v := ?v18w0011_) rfl (by kernel_rfl) (by kernel_rfl) (by kernel_rfl) (fun _ _ _ h => h) (Or.inl ⟨by kernel_rfl, ?y18w0011_⟩) hHeld ?r18w0011_
          case y18w0011_ =>
            intro w hSw
            try dsimp only at hSw
            obtain ⟨e0, e1, e2, l0, l1, l2⟩ := hSw
            go_simp
            try with_reducible rfl
          try simp only [Act.put]
          refine wpAnyH_take (i := 19) (v := ?v19w0011_) rfl (by kernel_rfl) (by kernel_rfl) (by kernel_rfl) (fun _ _ _ h => h) (Or.inl ⟨by kernel_rfl, ?y19w0011_⟩) hHeld ?r19w0011_
          case y19w0011_ =>
            intro w hSw
            try dsimp only at hSw
            obtain ⟨e0, e1, e2, l0, l1, l2⟩ := hSw
            go_simp
            try with_reducible rfl
          try simp only [Act.put]
          refine wpAnyH_ready (rs := [13]) (by kernel_rfl) (by simp) ?_
          refine AllReadyH.cons (o := _) rfl (fun K hK => ?_) AllReadyH.nil
          go_simp
          refine (flag_k S1 p u0 (L) true _ (H1.drew) (by have := hHeld.1 0; simpa using this)).mono ?_
          rintro e w2 ⟨rfl, Hw2, hmw2⟩
          have hSw2 := keepK hHeld hmw2 HC.out
          try dsimp only
          refine hK.out _ _ ?_ (fun hHeld => ?_)
          · exact hSw2
          clear hK K
          try simp only [Act.put, List.setIfInBounds_toArray, List.set_cons_zero, List.set_cons_succ]
          refine wpAnyH_ready (rs := [20]) (by kernel_rfl) (by simp) ?_
          refine AllReadyH.cons (o := _) rfl (fun K hK => ?_) AllReadyH.nil
          go_simp
          refine (flag_k S1 p u0 (L ++ bit true) true _ Hw2 (by have := hHeld.1 0; simpa using this)).mono ?_
          rintro e w3 ⟨rfl, Hw3, hmw3⟩
          have hSw3 := keepK hHeld hmw3 HC.out
          try dsimp only
          refine hK.out _ _ ?_ (fun hHeld => ?_)
          · exact hSw3
          clear hK K
          try simp only [Act.put, List.setIfInBounds_toArray, List.set_cons_zero, List.set_cons_succ]
          refine wpAnyH_take (i := 21) (v := ?v21w0011_) rfl (by kernel_rfl) (by kernel_rfl) (by kernel_rfl) (fun _ _ _ h => h) (Or.inl ⟨by kernel_rfl, ?y21w0011_⟩) hHeld ?r21w0011_
          case y21w0011_ =>
            intro w hSw
            try dsimp only at hSw
            obtain ⟨e0, e1, e2, l0, l1, l2⟩ := hSw
            go_simp
            try with_reducible rfl
          try simp only [Act.put, List.setIfInBounds_toArray]
          refine wpAnyH_take (i := 22) (v := ?v22w0011_) rfl (by kernel_rfl) (by kernel_rfl) (by kernel_rfl) (fun _ _ _ h => h) (Or.inl ⟨by kernel_rfl, ?y22w0011_⟩) hHeld ?r22w0011_
          case y22w0011_ =>
            intro w hSw
            try dsimp only at hSw
            obtain ⟨e0, e1, e2, l0, l1, l2⟩ := hSw
            go_simp
            try with_reducible rfl
          try simp only [Act.put]
          refine wpAnyH_done (by kernel_rfl) ?_ _
          clear hHeld
          obtain ⟨c0, c1, c2, z0, z1, z2⟩ := id hSw3
          go_wp2_with fail
          refine (flag_k S1 p u0 (L ++ bit true ++ bit true) true _ Hw3 (by have := c0 0; simpa using this)).mono ?_
          rintro e w4 ⟨rfl, Hw4, hmw4⟩
          have hSw4 := keepK hSw3 hmw4 HC.out
          clear c0 c1 c2 z0 z1 z2 hSw3 Hw3
          obtain ⟨c0, c1, c2, z0, z1, z2⟩ := id hSw4
          go_wp2_with fail
          refine (put_k S1 p (L ++ bit true ++ bit true ++ bit true) _ _ _ (M2 k 1).toNat 3 Hw4 (by have := HKK.out; omega) rfl (by decide) (by have := HKK.out; omega)).mono ?_
          rintro e w5 ⟨⟨v5, rfl⟩, Hw5, hmw5⟩
          have hSw5 := keepK hSw4 hmw5 HC.out
          clear c0 c1 c2 z0 z1 z2 hSw4 Hw4
          obtain ⟨c0, c1, c2, z0, z1, z2⟩ := id hSw5
          go_wp2_with fail
          refine (vec_k S1 p (L ++ bit true ++ bit true ++ bit true ++ bitsOf 3 (M2 k 1).toNat) (M2 k 2) (M2 k 3) (M2 k 4) (M1 i 2) (M1 i 3) (M1 i 4) _ Hw5 (HK.out 2 (by decide) (by decide)) (HK.out 3 (by decide) (by decide)) (HK.out 4 (by decide) (by decide)) (HI.out 2 (by decide) (by decide)) (HI.out 3 (by decide) (by decide)) (HI.out 4 (by decide) (by decide))).mono ?_
          rintro e w6 ⟨rfl, Hw6, hmw6⟩
          have hSw6 := keepK hSw5 hmw6 HC.out
          clear c0 c1 c2 z0 z1 z2 hSw5 Hw5
          obtain ⟨c0, c1, c2, z0, z1, z2⟩ := id hSw6
          go_wp2_with fail
          refine (vec_k S1 p (L ++ bit true ++ bit true ++ bit true ++ bitsOf 3 (M2 k 1).toNat ++ vec3L (M2 k 2 - M1 i 2) (M2 k 3 - M1 i 3) (M2 k 4 - M1 i 4)) (M2 k 5) (M2 k 6) (M2 k 7) (M1 i 5) (M1 i 6) (M1 i 7) _ Hw6 (HK.out 5 (by decide) (by decide)) (HK.out 6 (by decide) (by decide)) (HK.out 7 (by decide) (by decide)) (HI.out 5 (by decide) (by decide)) (HI.out 6 (by decide) (by decide)) (HI.out 7 (by decide) (by decide))).mono ?_
          rintro e w7 ⟨rfl, Hw7, hmw7⟩
          have hSw7 := keepK hSw6 hmw7 HC.out
          clear c0 c1 c2 z0 z1 z2 hSw6 Hw6
          obtain ⟨c0, c1, c2, z0, z1, z2⟩ := id hSw7
          go_wp2_with fail
          refine (vec_k S1 p (L ++ bit true ++ bit true ++ bit true ++ bitsOf 3 (M2 k 1).toNat ++ vec3L (M2 k 2 - M1 i 2) (M2 k 3 - M1 i 3) (M2 k 4 - M1 i 4) ++ vec3L (M2 k 5 - M1 i 5) (M2 k 6 - M1 i 6) (M2 k 7 - M1 i 7)) (M2 k 8) (M2 k 9) (M2 k 10) (M1 i 8) (M1 i 9) (M1 i 10) _ Hw7 (HK.out 8 (by decide) (by decide)) (HK.out 9 (by decide) (by decide)) (HK.out 10 (by decide) (by decide)) (HI.out 8 (by decide) (by decide)) (HI.out 9 (by decide) (by decide)) (HI.out 10 (by decide) (by decide))).mono ?_
          rintro e w8 ⟨rfl, Hw8, hmw8⟩
          have hSw8 := keepK hSw7 hmw8 HC.out
          clear c0 c1 c2 z0 z1 z2 hSw7 Hw7
          obtain ⟨c0, c1, c2, z0, z1, z2⟩ := id hSw8
          clear c0 c1 c2 z0 z1 z2
          go_wp2
          go_end0
          refine ⟨rfl, ?_⟩
          have e : L ++ bit true ++ bit true ++ bit true ++ bitsOf 3 (M2 k 1).toNat ++ vec3L (M2 k 2 - M1 i 2) (M2 k 3 - M1 i 3) (M2 k 4 - M1 i 4) ++ vec3L (M2 k 5 - M1 i 5) (M2 k 6 - M1 i 6) (M2 k 7 - M1 i 7) ++ vec3L (M2 k 8 - M1 i 8) (M2 k 9 - M1 i 9) (M2 k 10 - M1 i 10) = L ++ changeL M1 i M2 k := by
            unfold changeL neS vecD
            rw [HSS.out, HSA.out, HSV.out, HSK.out]
            simp [List.append_assoc]
          rw [← e]
          exact WfPost.back ⟨Hw8, ((((((((Mod.refl _ w1).drew.trans hmw2).trans hmw3).trans hmw4).trans hmw5).trans hmw6).trans hmw7).trans hmw8)⟩ HSB.out HM1.out
        | false =>
          refine wp_region_held_drew (S := fun w' => (∀ o, w'.cell? ⟨u0, o, none⟩ = (#[.pointer (some ⟨p, 0, none⟩)] : Array Value)[o]?) ∧ (∀ o, w'.cell? ⟨u1, o, none⟩ = (#[.int .i64 (M1 i 0), .int .i64 (M1 i 1), .int .i64 (M1 i 2), .int .i64 (M1 i 3), .int .i64 (M1 i 4), .int .i64 (M1 i 5), .int .i64 (M1 i 6), .int .i64 (M1 i 7), .int .i64 (M1 i 8), .int .i64 (M1 i 9), .int .i64 (M1 i 10)] : Array Value)[o]?) ∧ (∀ o, w'.cell? ⟨u2, o, none⟩ = (#[.int .i64 (M2 k 0), .int .i64 (M2 k 1), .int .i64 (M2 k 2), .int .i64 (M2 k 3), .int .i64 (M2 k 4), .int .i64 (M2 k 5), .int .i64 (M2 k 6), .int .i64 (M2 k 7), .int .i64 (M2 k 8), .int .i64 (M2 k 9), .int .i64 (M2 k 10)] : Array Value)[o]?) ∧ u0 < w'.heap.size ∧ u1 < w'.heap.size ∧ u2 < w'.heap.size) (by kernel_rfl) ?_ (fun hHeld => ?_)
          · exact keepK_drew hS1'
          refine wpAnyH_take (i := 0) (v := ?v0w0010_) rfl (by kernel_rfl) (by kernel_rfl) (by kernel_rfl) (fun _ _ _ h => h) (Or.inl ⟨by kernel_rfl, ?y0w0010_⟩) hHeld ?r0w0010_
          case y0w0010_ =>
            intro w hSw
            try dsimp only at hSw
            obtain ⟨e0, e1, e2, l0, l1, l2⟩ := hSw
            go_simp
            try with_reducible rfl
          try simp only [Act.put, List.setIfInBounds_toArray]
          refine wpAnyH_take (i := 1) (v := ?v1w0010_) rfl (by kernel_rfl) (by kernel_rfl) (by kernel_rfl) (fun _ _ _ h => h) (Or.inl ⟨by kernel_rfl, ?y1w0010_⟩) hHeld ?r1w0010_
          case y1w0010_ =>
            intro w hSw
            try dsimp only at hSw
            obtain ⟨e0, e1, e2, l0, l1, l2⟩ := hSw
            go_simp
            try with_reducible rfl
          try simp only [Act.put]
          refine wpAnyH_take (i := 2) (v := ?v2w0010_) rfl (by kernel_rfl) (by kernel_rfl) (by kernel_rfl) (fun _ _ _ h => h) (Or.inl ⟨by kernel_rfl, ?y2w0010_⟩) hHeld ?r2w0010_
          case y2w0010_ =>
            intro w hSw
            try dsimp only at hSw
            obtain ⟨e0, e1, e2, l0, l1, l2⟩ := hSw
            go_simp
            try with_reducible rfl
          try simp only [Act.put]
          refine wpAnyH_take (i := 3) (v := ?v3w0010_) rfl (by kernel_rfl) (by kernel_rfl) (by kernel_rfl) (fun _ _ _ h => h) (Or.inl ⟨by kernel_rfl, ?y3w0010_⟩) hHeld ?r3w0010_
          case y3w0010_ =>
            intro w hSw
            try dsimp only at hSw
            obtain ⟨e0, e1, e2, l0, l1, l2⟩ := hSw
            go_simp
            try with_reducible rfl
          try simp only [Act.put]
          refine wpAnyH_take (i := 4) (v := ?v4w0010_) rfl (by kernel_rfl) (by kernel_rfl) (by kernel_rfl) (fun _ _ _ h => h) (Or.inl ⟨by kernel_rfl, ?y4w0010_⟩) hHeld ?r4w0010_
          case y4w0010_ =>
            intro w hSw
            try dsimp only at hSw
            obtain ⟨e0, e1, e2, l0, l1, l2⟩ := hSw
            go_simp
            try with_reducible rfl
          try simp only [Act.put]
          refine wpAnyH_take (i := 5) (v := ?v5w0010_) rfl (by kernel_rfl) (by kernel_rfl) (by kernel_rfl) (fun _ _ _ h => h) (Or.inl ⟨by kernel_rfl, ?y5w0010_⟩) hHeld ?r5w0010_
          case y5w0010_ =>
            intro w hSw
            try dsimp only at hSw
            obtain ⟨e0, e1, e2, l0, l1, l2⟩ := hSw
            go_simp
            try with_reducible rfl
          try simp only [Act.put]
          refine wpAnyH_take (i := 6) (v := ?v6w0010_) rfl (by kernel_rfl) (by kernel_rfl) (by kernel_rfl) (fun _ _ _ h => h) (Or.inl ⟨by kernel_rfl, ?y6w0010_⟩) hHeld ?r6w0010_
          case y6w0010_ =>
            intro w hSw
            try dsimp only at hSw
            obtain ⟨e0, e1, e2, l0, l1, l2⟩ := hSw
            go_simp
            try with_reducible rfl
          try simp only [Act.put]
          refine wpAnyH_take (i := 7) (v := ?v7w0010_) rfl (by kernel_rfl) (by kernel_rfl) (by kernel_rfl) (fun _ _ _ h => h) (Or.inl ⟨by kernel_rfl, ?y7w0010_⟩) hHeld ?r7w0010_
          case y7w0010_ =>
            intro w hSw
            try dsimp only at hSw
            obtain ⟨e0, e1, e2, l0, l1, l2⟩ := hSw
            go_simp
            try with_reducible rfl
          try simp only [Act.put]
          refine wpAnyH_take (i := 8) (v := ?v8w0010_) rfl (by kernel_rfl) (by kernel_rfl) (by kernel_rfl) (fun _ _ _ h => h) (Or.inl ⟨by kernel_rfl, ?y8w0010_⟩) hHeld ?r8w0010_
          case y8w0010_ =>
            intro w hSw
            try dsimp only at hSw
            obtain ⟨e0, e1, e2, l0, l1, l2⟩ := hSw
            go_simp
            try with_reducible rfl
          try simp only [Act.put]
          refine wpAnyH_take (i := 9) (v := ?v9w0010_) rfl (by kernel_rfl) (by kernel_rfl) (by kernel_rfl) (fun _ _ _ h => h) (Or.inl ⟨by kernel_rfl, ?y9w0010_⟩) hHeld ?r9w0010_
          case y9w0010_ =>
            intro w hSw
            try dsimp only at hSw
            obtain ⟨e0, e1, e2, l0, l1, l2⟩ := hSw
            go_simp
            try with_reducible rfl
          try simp only [Act.put]
          refine wpAnyH_take (i := 10) (v := ?v10w0010_) rfl (by kernel_rfl) (by kernel_rfl) (by kernel_rfl) (fun _ _ _ h => h) (Or.inl ⟨by kernel_rfl, ?y10w0010_⟩) hHeld ?r10w0010_
          case y10w0010_ =>
            intro w hSw
            try dsimp only at hSw
            obtain ⟨e0, e1, e2, l0, l1, l2⟩ := hSw
            go_simp
            try with_reducible rfl
          try simp only [Act.put]
          refine wpAnyH_take (i := 11) (v := ?v11w0010_) rfl (by kernel_rfl) (by kernel_rfl) (by kernel_rfl) (fun _ _ _ h => h) (Or.inl ⟨by kernel_rfl, ?y11w0010_⟩) hHeld ?r11w0010_
          case y11w0010_ =>
            intro w hSw
            try dsimp only at hSw
            obtain ⟨e0, e1, e2, l0, l1, l2⟩ := hSw
            go_simp
            try with_reducible rfl
          try simp only [Act.put]
          refine wpAnyH_take (i := 12) (v := ?v12w0010_) rfl (by kernel_rfl) (by kernel_rfl) (by kernel_rfl) (fun _ _ _ h => h) (Or.inl ⟨by kernel_rfl, ?y12w0010_⟩) hHeld ?r12w0010_
          case y12w0010_ =>
            intro w hSw
            try dsimp only at hSw
            obtain ⟨e0, e1, e2, l0, l1, l2⟩ := hSw
            go_simp
            try with_reducible rfl
          try simp only [Act.put]
          refine wpAnyH_take (i := 14) (v := ?v14w0010_) rfl (by kernel_rfl) (by kernel_rfl) (by kernel_rfl) (fun _ _ _ h => h) (Or.inl ⟨by kernel_rfl, ?y14w0010_⟩) hHeld ?r14w0010_
          case y14w0010_ =>
            intro w hSw
            try dsimp only at hSw
            obtain ⟨e0, e1, e2, l0, l1, l2⟩ := hSw
            go_simp
            try with_reducible rfl
          try simp only [Act.put]
          refine wpAnyH_take (i := 15) (v := ?v15w0010_) rfl (by kernel_rfl) (by kernel_rfl) (by kernel_rfl) (fun _ _ _ h => h) (Or.inl ⟨by kernel_rfl, ?y15w0010_⟩) hHeld ?r15w0010_
          case y15w0010_ =>
            intro w hSw
            try dsimp only at hSw
            obtain ⟨e0, e1, e2, l0, l1, l2⟩ := hSw
            go_simp
            try with_reducible rfl
          try simp only [Act.put]
          refine wpAnyH_take (i := 16) (v := ?v16w0010_) rfl (by kernel_rfl) (by kernel_rfl) (by kernel_rfl) (fun _ _ _ h => h) (Or.inl ⟨by kernel_rfl, ?y16w0010_⟩) hHeld ?r16w0010_
          case y16w0010_ =>
            intro w hSw
            try dsimp only at hSw
            obtain ⟨e0, e1, e2, l0, l1, l2⟩ := hSw
            go_simp
            try with_reducible rfl
          try simp only [Act.put]
          refine wpAnyH_take (i := 17) (v := ?v17w0010_) rfl (by kernel_rfl) (by kernel_rfl) (by kernel_rfl) (fun _ _ _ h => h) (Or.inl ⟨by kernel_rfl, ?y17w0010_⟩) hHeld ?r17w0010_
          case y17w0010_ =>
            intro w hSw
            try dsimp only at hSw
            obtain ⟨e0, e1, e2, l0, l1, l2⟩ := hSw
            go_simp
            try with_reducible rfl
          try simp only [Act.put]
          refine wpAnyH_take (i := 18) (v := ?v18w0010_) rfl (by kernel_rfl) (by kernel_rfl) (by kernel_rfl) (fun _ _ _ h => h) (Or.inl ⟨by kernel_rfl, ?y18w0010_⟩) hHeld ?r18w0010_
          case y18w0010_ =>
            intro w hSw
            try dsimp only at hSw
            obtain ⟨e0, e1, e2, l0, l1, l2⟩ := hSw
            go_simp
            try with_reducible rfl
          try simp only [Act.put]
          refine wpAnyH_take (i := 19) (v := ?v19w0010_) rfl (by kernel_rfl) (by kernel_rfl) (by kernel_rfl) (fun _ _ _ h => h) (Or.inl ⟨by kernel_rfl, ?y19w0010_⟩) hHeld ?r19w0010_
          case y19w0010_ =>
            intro w hSw
            try dsimp only at hSw
            obtain ⟨e0, e1, e2, l0, l1, l2⟩ := hSw
            go_simp
            try with_reducible rfl
          try simp only [Act.put]
          refine wpAnyH_ready (rs := [13]) (by kernel_rfl) (by simp) ?_
          refine AllReadyH.cons (o := _) rfl (fun K hK => ?_) AllReadyH.nil
          go_simp
          refine (flag_k S1 p u0 (L) true _ (H1.drew) (by have := hHeld.1 0; simpa using this)).mono ?_
          rintro e w2 ⟨rfl, Hw2, hmw2⟩
          have hSw2 := keepK hHeld hmw2 HC.out
          try dsimp only
          refine hK.out _ _ ?_ (fun hHeld => ?_)
          · exact hSw2
          clear hK K
          try simp only [Act.put, List.setIfInBounds_toArray, List.set_cons_zero, List.set_cons_succ]
          refine wpAnyH_ready (rs := [20]) (by kernel_rfl) (by simp) ?_
          refine AllReadyH.cons (o := _) rfl (fun K hK => ?_) AllReadyH.nil
          go_simp
          refine (flag_k S1 p u0 (L ++ bit true) true _ Hw2 (by have := hHeld.1 0; simpa using this)).mono ?_
          rintro e w3 ⟨rfl, Hw3, hmw3⟩
          have hSw3 := keepK hHeld hmw3 HC.out
          try dsimp only
          refine hK.out _ _ ?_ (fun hHeld => ?_)
          · exact hSw3
          clear hK K
          try simp only [Act.put, List.setIfInBounds_toArray, List.set_cons_zero, List.set_cons_succ]
          refine wpAnyH_take (i := 21) (v := ?v21w0010_) rfl (by kernel_rfl) (by kernel_rfl) (by kernel_rfl) (fun _ _ _ h => h) (Or.inl ⟨by kernel_rfl, ?y21w0010_⟩) hHeld ?r21w0010_
          case y21w0010_ =>
            intro w hSw
            try dsimp only at hSw
            obtain ⟨e0, e1, e2, l0, l1, l2⟩ := hSw
            go_simp
            try with_reducible rfl
          try simp only [Act.put, List.setIfInBounds_toArray]
          refine wpAnyH_take (i := 22) (v := ?v22w0010_) rfl (by kernel_rfl) (by kernel_rfl) (by kernel_rfl) (fun _ _ _ h => h) (Or.inl ⟨by kernel_rfl, ?y22w0010_⟩) hHeld ?r22w0010_
          case y22w0010_ =>
            intro w hSw
            try dsimp only at hSw
            obtain ⟨e0, e1, e2, l0, l1, l2⟩ := hSw
            go_simp
            try with_reducible rfl
          try simp only [Act.put]
          refine wpAnyH_done (by kernel_rfl) ?_ _
          clear hHeld
          obtain ⟨c0, c1, c2, z0, z1, z2⟩ := id hSw3
          go_wp2_with fail
          refine (flag_k S1 p u0 (L ++ bit true ++ bit true) false _ Hw3 (by have := c0 0; simpa using this)).mono ?_
          rintro e w4 ⟨rfl, Hw4, hmw4⟩
          have hSw4 := keepK hSw3 hmw4 HC.out
          clear c0 c1 c2 z0 z1 z2 hSw3 Hw3
          obtain ⟨c0, c1, c2, z0, z1, z2⟩ := id hSw4
          go_wp2_with fail
          refine (put_k S1 p (L ++ bit true ++ bit true ++ bit false) _ _ _ (M2 k 1).toNat 3 Hw4 (by have := HKK.out; omega) rfl (by decide) (by have := HKK.out; omega)).mono ?_
          rintro e w5 ⟨⟨v5, rfl⟩, Hw5, hmw5⟩
          have hSw5 := keepK hSw4 hmw5 HC.out
          clear c0 c1 c2 z0 z1 z2 hSw4 Hw4
          obtain ⟨c0, c1, c2, z0, z1, z2⟩ := id hSw5
          go_wp2_with fail
          refine (vec_k S1 p (L ++ bit true ++ bit true ++ bit false ++ bitsOf 3 (M2 k 1).toNat) (M2 k 2) (M2 k 3) (M2 k 4) (M1 i 2) (M1 i 3) (M1 i 4) _ Hw5 (HK.out 2 (by decide) (by decide)) (HK.out 3 (by decide) (by decide)) (HK.out 4 (by decide) (by decide)) (HI.out 2 (by decide) (by decide)) (HI.out 3 (by decide) (by decide)) (HI.out 4 (by decide) (by decide))).mono ?_
          rintro e w6 ⟨rfl, Hw6, hmw6⟩
          have hSw6 := keepK hSw5 hmw6 HC.out
          clear c0 c1 c2 z0 z1 z2 hSw5 Hw5
          obtain ⟨c0, c1, c2, z0, z1, z2⟩ := id hSw6
          go_wp2_with fail
          refine (vec_k S1 p (L ++ bit true ++ bit true ++ bit false ++ bitsOf 3 (M2 k 1).toNat ++ vec3L (M2 k 2 - M1 i 2) (M2 k 3 - M1 i 3) (M2 k 4 - M1 i 4)) (M2 k 5) (M2 k 6) (M2 k 7) (M1 i 5) (M1 i 6) (M1 i 7) _ Hw6 (HK.out 5 (by decide) (by decide)) (HK.out 6 (by decide) (by decide)) (HK.out 7 (by decide) (by decide)) (HI.out 5 (by decide) (by decide)) (HI.out 6 (by decide) (by decide)) (HI.out 7 (by decide) (by decide))).mono ?_
          rintro e w7 ⟨rfl, Hw7, hmw7⟩
          have hSw7 := keepK hSw6 hmw7 HC.out
          clear c0 c1 c2 z0 z1 z2 hSw6 Hw6
          obtain ⟨c0, c1, c2, z0, z1, z2⟩ := id hSw7
          clear c0 c1 c2 z0 z1 z2
          go_wp2
          go_end0
          refine ⟨rfl, ?_⟩
          have e : L ++ bit true ++ bit true ++ bit false ++ bitsOf 3 (M2 k 1).toNat ++ vec3L (M2 k 2 - M1 i 2) (M2 k 3 - M1 i 3) (M2 k 4 - M1 i 4) ++ vec3L (M2 k 5 - M1 i 5) (M2 k 6 - M1 i 6) (M2 k 7 - M1 i 7) = L ++ changeL M1 i M2 k := by
            unfold changeL neS vecD
            rw [HSS.out, HSA.out, HSV.out, HSK.out]
            simp [List.append_assoc]
          rw [← e]
          exact WfPost.back ⟨Hw7, (((((((Mod.refl _ w1).drew.trans hmw2).trans hmw3).trans hmw4).trans hmw5).trans hmw6).trans hmw7)⟩ HSB.out HM1.out
      | false =>
        cases sV with
        | true =>
          refine wp_region_held_drew (S := fun w' => (∀ o, w'.cell? ⟨u0, o, none⟩ = (#[.pointer (some ⟨p, 0, none⟩)] : Array Value)[o]?) ∧ (∀ o, w'.cell? ⟨u1, o, none⟩ = (#[.int .i64 (M1 i 0), .int .i64 (M1 i 1), .int .i64 (M1 i 2), .int .i64 (M1 i 3), .int .i64 (M1 i 4), .int .i64 (M1 i 5), .int .i64 (M1 i 6), .int .i64 (M1 i 7), .int .i64 (M1 i 8), .int .i64 (M1 i 9), .int .i64 (M1 i 10)] : Array Value)[o]?) ∧ (∀ o, w'.cell? ⟨u2, o, none⟩ = (#[.int .i64 (M2 k 0), .int .i64 (M2 k 1), .int .i64 (M2 k 2), .int .i64 (M2 k 3), .int .i64 (M2 k 4), .int .i64 (M2 k 5), .int .i64 (M2 k 6), .int .i64 (M2 k 7), .int .i64 (M2 k 8), .int .i64 (M2 k 9), .int .i64 (M2 k 10)] : Array Value)[o]?) ∧ u0 < w'.heap.size ∧ u1 < w'.heap.size ∧ u2 < w'.heap.size) (by kernel_rfl) ?_ (fun hHeld => ?_)
          · exact keepK_drew hS1'
          refine wpAnyH_take (i := 0) (v := ?v0w0001_) rfl (by kernel_rfl) (by kernel_rfl) (by kernel_rfl) (fun _ _ _ h => h) (Or.inl ⟨by kernel_rfl, ?y0w0001_⟩) hHeld ?r0w0001_
          case y0w0001_ =>
            intro w hSw
            try dsimp only at hSw
            obtain ⟨e0, e1, e2, l0, l1, l2⟩ := hSw
            go_simp
            try with_reducible rfl
          try simp only [Act.put, List.setIfInBounds_toArray]
          refine wpAnyH_take (i := 1) (v := ?v1w0001_) rfl (by kernel_rfl) (by kernel_rfl) (by kernel_rfl) (fun _ _ _ h => h) (Or.inl ⟨by kernel_rfl, ?y1w0001_⟩) hHeld ?r1w0001_
          case y1w0001_ =>
            intro w hSw
            try dsimp only at hSw
            obtain ⟨e0, e1, e2, l0, l1, l2⟩ := hSw
            go_simp
            try with_reducible rfl
          try simp only [Act.put]
          refine wpAnyH_take (i := 2) (v := ?v2w0001_) rfl (by kernel_rfl) (by kernel_rfl) (by kernel_rfl) (fun _ _ _ h => h) (Or.inl ⟨by kernel_rfl, ?y2w0001_⟩) hHeld ?r2w0001_
          case y2w0001_ =>
            intro w hSw
            try dsimp only at hSw
            obtain ⟨e0, e1, e2, l0, l1, l2⟩ := hSw
            go_simp
            try with_reducible rfl
          try simp only [Act.put]
          refine wpAnyH_take (i := 3) (v := ?v3w0001_) rfl (by kernel_rfl) (by kernel_rfl) (by kernel_rfl) (fun _ _ _ h => h) (Or.inl ⟨by kernel_rfl, ?y3w0001_⟩) hHeld ?r3w0001_
          case y3w0001_ =>
            intro w hSw
            try dsimp only at hSw
            obtain ⟨e0, e1, e2, l0, l1, l2⟩ := hSw
            go_simp
            try with_reducible rfl
          try simp only [Act.put]
          refine wpAnyH_take (i := 4) (v := ?v4w0001_) rfl (by kernel_rfl) (by kernel_rfl) (by kernel_rfl) (fun _ _ _ h => h) (Or.inl ⟨by kernel_rfl, ?y4w0001_⟩) hHeld ?r4w0001_
          case y4w0001_ =>
            intro w hSw
            try dsimp only at hSw
            obtain ⟨e0, e1, e2, l0, l1, l2⟩ := hSw
            go_simp
            try with_reducible rfl
          try simp only [Act.put]
          refine wpAnyH_take (i := 5) (v := ?v5w0001_) rfl (by kernel_rfl) (by kernel_rfl) (by kernel_rfl) (fun _ _ _ h => h) (Or.inl ⟨by kernel_rfl, ?y5w0001_⟩) hHeld ?r5w0001_
          case y5w0001_ =>
            intro w hSw
            try dsimp only at hSw
            obtain ⟨e0, e1, e2, l0, l1, l2⟩ := hSw
            go_simp
            try with_reducible rfl
          try simp only [Act.put]
          refine wpAnyH_take (i := 6) (v := ?v6w0001_) rfl (by kernel_rfl) (by kernel_rfl) (by kernel_rfl) (fun _ _ _ h => h) (Or.inl ⟨by kernel_rfl, ?y6w0001_⟩) hHeld ?r6w0001_
          case y6w0001_ =>
            intro w hSw
            try dsimp only at hSw
            obtain ⟨e0, e1, e2, l0, l1, l2⟩ := hSw
            go_simp
            try with_reducible rfl
          try simp only [Act.put]
          refine wpAnyH_take (i := 7) (v := ?v7w0001_) rfl (by kernel_rfl) (by kernel_rfl) (by kernel_rfl) (fun _ _ _ h => h) (Or.inl ⟨by kernel_rfl, ?y7w0001_⟩) hHeld ?r7w0001_
          case y7w0001_ =>
            intro w hSw
            try dsimp only at hSw
            obtain ⟨e0, e1, e2, l0, l1, l2⟩ := hSw
            go_simp
            try with_reducible rfl
          try simp only [Act.put]
          refine wpAnyH_take (i := 8) (v := ?v8w0001_) rfl (by kernel_rfl) (by kernel_rfl) (by kernel_rfl) (fun _ _ _ h => h) (Or.inl ⟨by kernel_rfl, ?y8w0001_⟩) hHeld ?r8w0001_
          case y8w0001_ =>
            intro w hSw
            try dsimp only at hSw
            obtain ⟨e0, e1, e2, l0, l1, l2⟩ := hSw
            go_simp
            try with_reducible rfl
          try simp only [Act.put]
          refine wpAnyH_take (i := 9) (v := ?v9w0001_) rfl (by kernel_rfl) (by kernel_rfl) (by kernel_rfl) (fun _ _ _ h => h) (Or.inl ⟨by kernel_rfl, ?y9w0001_⟩) hHeld ?r9w0001_
          case y9w0001_ =>
            intro w hSw
            try dsimp only at hSw
            obtain ⟨e0, e1, e2, l0, l1, l2⟩ := hSw
            go_simp
            try with_reducible rfl
          try simp only [Act.put]
          refine wpAnyH_take (i := 10) (v := ?v10w0001_) rfl (by kernel_rfl) (by kernel_rfl) (by kernel_rfl) (fun _ _ _ h => h) (Or.inl ⟨by kernel_rfl, ?y10w0001_⟩) hHeld ?r10w0001_
          case y10w0001_ =>
            intro w hSw
            try dsimp only at hSw
            obtain ⟨e0, e1, e2, l0, l1, l2⟩ := hSw
            go_simp
            try with_reducible rfl
          try simp only [Act.put]
          refine wpAnyH_take (i := 11) (v := ?v11w0001_) rfl (by kernel_rfl) (by kernel_rfl) (by kernel_rfl) (fun _ _ _ h => h) (Or.inl ⟨by kernel_rfl, ?y11w0001_⟩) hHeld ?r11w0001_
          case y11w0001_ =>
            intro w hSw
            try dsimp only at hSw
            obtain ⟨e0, e1, e2, l0, l1, l2⟩ := hSw
            go_simp
            try with_reducible rfl
          try simp only [Act.put]
          refine wpAnyH_take (i := 12) (v := ?v12w0001_) rfl (by kernel_rfl) (by kernel_rfl) (by kernel_rfl) (fun _ _ _ h => h) (Or.inl ⟨by kernel_rfl, ?y12w0001_⟩) hHeld ?r12w0001_
          case y12w0001_ =>
            intro w hSw
            try dsimp only at hSw
            obtain ⟨e0, e1, e2, l0, l1, l2⟩ := hSw
            go_simp
            try with_reducible rfl
          try simp only [Act.put]
          refine wpAnyH_take (i := 14) (v := ?v14w0001_) rfl (by kernel_rfl) (by kernel_rfl) (by kernel_rfl) (fun _ _ _ h => h) (Or.inl ⟨by kernel_rfl, ?y14w0001_⟩) hHeld ?r14w0001_
          case y14w0001_ =>
            intro w hSw
            try dsimp only at hSw
            obtain ⟨e0, e1, e2, l0, l1, l2⟩ := hSw
            go_simp
            try with_reducible rfl
          try simp only [Act.put]
          refine wpAnyH_take (i := 15) (v := ?v15w0001_) rfl (by kernel_rfl) (by kernel_rfl) (by kernel_rfl) (fun _ _ _ h => h) (Or.inl ⟨by kernel_rfl, ?y15w0001_⟩) hHeld ?r15w0001_
          case y15w0001_ =>
            intro w hSw
            try dsimp only at hSw
            obtain ⟨e0, e1, e2, l0, l1, l2⟩ := hSw
            go_simp
            try with_reducible rfl
          try simp only [Act.put]
          refine wpAnyH_take (i := 16) (v := ?v16w0001_) rfl (by kernel_rfl) (by kernel_rfl) (by kernel_rfl) (fun _ _ _ h => h) (Or.inl ⟨by kernel_rfl, ?y16w0001_⟩) hHeld ?r16w0001_
          case y16w0001_ =>
            intro w hSw
            try dsimp only at hSw
            obtain ⟨e0, e1, e2, l0, l1, l2⟩ := hSw
            go_simp
            try with_reducible rfl
          try simp only [Act.put]
          refine wpAnyH_take (i := 17) (v := ?v17w0001_) rfl (by kernel_rfl) (by kernel_rfl) (by kernel_rfl) (fun _ _ _ h => h) (Or.inl ⟨by kernel_rfl, ?y17w0001_⟩) hHeld ?r17w0001_
          case y17w0001_ =>
            intro w hSw
            try dsimp only at hSw
            obtain ⟨e0, e1, e2, l0, l1, l2⟩ := hSw
            go_simp
            try with_reducible rfl
          try simp only [Act.put]
          refine wpAnyH_take (i := 18) (v := ?v18w0001_) rfl (by kernel_rfl) (by kernel_rfl) (by kernel_rfl) (fun _ _ _ h => h) (Or.inl ⟨by kernel_rfl, ?y18w0001_⟩) hHeld ?r18w0001_
          case y18w0001_ =>
            intro w hSw
            try dsimp only at hSw
            obtain ⟨e0, e1, e2, l0, l1, l2⟩ := hSw
            go_simp
            try with_reducible rfl
          try simp only [Act.put]
          refine wpAnyH_take (i := 19) (v := ?v19w0001_) rfl (by kernel_rfl) (by kernel_rfl) (by kernel_rfl) (fun _ _ _ h => h) (Or.inl ⟨by kernel_rfl, ?y19w0001_⟩) hHeld ?r19w0001_
          case y19w0001_ =>
            intro w hSw
            try dsimp only at hSw
            obtain ⟨e0, e1, e2, l0, l1, l2⟩ := hSw
            go_simp
            try with_reducible rfl
          try simp only [Act.put]
          refine wpAnyH_ready (rs := [13]) (by kernel_rfl) (by simp) ?_
          refine AllReadyH.cons (o := _) rfl (fun K hK => ?_) AllReadyH.nil
          go_simp
          refine (flag_k S1 p u0 (L) true _ (H1.drew) (by have := hHeld.1 0; simpa using this)).mono ?_
          rintro e w2 ⟨rfl, Hw2, hmw2⟩
          have hSw2 := keepK hHeld hmw2 HC.out
          try dsimp only
          refine hK.out _ _ ?_ (fun hHeld => ?_)
          · exact hSw2
          clear hK K
          try simp only [Act.put, List.setIfInBounds_toArray, List.set_cons_zero, List.set_cons_succ]
          refine wpAnyH_ready (rs := [20]) (by kernel_rfl) (by simp) ?_
          refine AllReadyH.cons (o := _) rfl (fun K hK => ?_) AllReadyH.nil
          go_simp
          refine (flag_k S1 p u0 (L ++ bit true) false _ Hw2 (by have := hHeld.1 0; simpa using this)).mono ?_
          rintro e w3 ⟨rfl, Hw3, hmw3⟩
          have hSw3 := keepK hHeld hmw3 HC.out
          try dsimp only
          refine hK.out _ _ ?_ (fun hHeld => ?_)
          · exact hSw3
          clear hK K
          try simp only [Act.put, List.setIfInBounds_toArray, List.set_cons_zero, List.set_cons_succ]
          refine wpAnyH_take (i := 21) (v := ?v21w0001_) rfl (by kernel_rfl) (by kernel_rfl) (by kernel_rfl) (fun _ _ _ h => h) (Or.inl ⟨by kernel_rfl, ?y21w0001_⟩) hHeld ?r21w0001_
          case y21w0001_ =>
            intro w hSw
            try dsimp only at hSw
            obtain ⟨e0, e1, e2, l0, l1, l2⟩ := hSw
            go_simp
            try with_reducible rfl
          try simp only [Act.put, List.setIfInBounds_toArray]
          refine wpAnyH_take (i := 22) (v := ?v22w0001_) rfl (by kernel_rfl) (by kernel_rfl) (by kernel_rfl) (fun _ _ _ h => h) (Or.inl ⟨by kernel_rfl, ?y22w0001_⟩) hHeld ?r22w0001_
          case y22w0001_ =>
            intro w hSw
            try dsimp only at hSw
            obtain ⟨e0, e1, e2, l0, l1, l2⟩ := hSw
            go_simp
            try with_reducible rfl
          try simp only [Act.put]
          refine wpAnyH_done (by kernel_rfl) ?_ _
          clear hHeld
          obtain ⟨c0, c1, c2, z0, z1, z2⟩ := id hSw3
          go_wp2_with fail
          refine (flag_k S1 p u0 (L ++ bit true ++ bit false) true _ Hw3 (by have := c0 0; simpa using this)).mono ?_
          rintro e w4 ⟨rfl, Hw4, hmw4⟩
          have hSw4 := keepK hSw3 hmw4 HC.out
          clear c0 c1 c2 z0 z1 z2 hSw3 Hw3
          obtain ⟨c0, c1, c2, z0, z1, z2⟩ := id hSw4
          go_wp2_with fail
          refine (put_k S1 p (L ++ bit true ++ bit false ++ bit true) _ _ _ (M2 k 1).toNat 3 Hw4 (by have := HKK.out; omega) rfl (by decide) (by have := HKK.out; omega)).mono ?_
          rintro e w5 ⟨⟨v5, rfl⟩, Hw5, hmw5⟩
          have hSw5 := keepK hSw4 hmw5 HC.out
          clear c0 c1 c2 z0 z1 z2 hSw4 Hw4
          obtain ⟨c0, c1, c2, z0, z1, z2⟩ := id hSw5
          go_wp2_with fail
          refine (vec_k S1 p (L ++ bit true ++ bit false ++ bit true ++ bitsOf 3 (M2 k 1).toNat) (M2 k 2) (M2 k 3) (M2 k 4) (M1 i 2) (M1 i 3) (M1 i 4) _ Hw5 (HK.out 2 (by decide) (by decide)) (HK.out 3 (by decide) (by decide)) (HK.out 4 (by decide) (by decide)) (HI.out 2 (by decide) (by decide)) (HI.out 3 (by decide) (by decide)) (HI.out 4 (by decide) (by decide))).mono ?_
          rintro e w6 ⟨rfl, Hw6, hmw6⟩
          have hSw6 := keepK hSw5 hmw6 HC.out
          clear c0 c1 c2 z0 z1 z2 hSw5 Hw5
          obtain ⟨c0, c1, c2, z0, z1, z2⟩ := id hSw6
          go_wp2_with fail
          refine (vec_k S1 p (L ++ bit true ++ bit false ++ bit true ++ bitsOf 3 (M2 k 1).toNat ++ vec3L (M2 k 2 - M1 i 2) (M2 k 3 - M1 i 3) (M2 k 4 - M1 i 4)) (M2 k 8) (M2 k 9) (M2 k 10) (M1 i 8) (M1 i 9) (M1 i 10) _ Hw6 (HK.out 8 (by decide) (by decide)) (HK.out 9 (by decide) (by decide)) (HK.out 10 (by decide) (by decide)) (HI.out 8 (by decide) (by decide)) (HI.out 9 (by decide) (by decide)) (HI.out 10 (by decide) (by decide))).mono ?_
          rintro e w7 ⟨rfl, Hw7, hmw7⟩
          have hSw7 := keepK hSw6 hmw7 HC.out
          clear c0 c1 c2 z0 z1 z2 hSw6 Hw6
          obtain ⟨c0, c1, c2, z0, z1, z2⟩ := id hSw7
          clear c0 c1 c2 z0 z1 z2
          go_wp2
          go_end0
          refine ⟨rfl, ?_⟩
          have e : L ++ bit true ++ bit false ++ bit true ++ bitsOf 3 (M2 k 1).toNat ++ vec3L (M2 k 2 - M1 i 2) (M2 k 3 - M1 i 3) (M2 k 4 - M1 i 4) ++ vec3L (M2 k 8 - M1 i 8) (M2 k 9 - M1 i 9) (M2 k 10 - M1 i 10) = L ++ changeL M1 i M2 k := by
            unfold changeL neS vecD
            rw [HSS.out, HSA.out, HSV.out, HSK.out]
            simp [List.append_assoc]
          rw [← e]
          exact WfPost.back ⟨Hw7, (((((((Mod.refl _ w1).drew.trans hmw2).trans hmw3).trans hmw4).trans hmw5).trans hmw6).trans hmw7)⟩ HSB.out HM1.out
        | false =>
          refine wp_region_held_drew (S := fun w' => (∀ o, w'.cell? ⟨u0, o, none⟩ = (#[.pointer (some ⟨p, 0, none⟩)] : Array Value)[o]?) ∧ (∀ o, w'.cell? ⟨u1, o, none⟩ = (#[.int .i64 (M1 i 0), .int .i64 (M1 i 1), .int .i64 (M1 i 2), .int .i64 (M1 i 3), .int .i64 (M1 i 4), .int .i64 (M1 i 5), .int .i64 (M1 i 6), .int .i64 (M1 i 7), .int .i64 (M1 i 8), .int .i64 (M1 i 9), .int .i64 (M1 i 10)] : Array Value)[o]?) ∧ (∀ o, w'.cell? ⟨u2, o, none⟩ = (#[.int .i64 (M2 k 0), .int .i64 (M2 k 1), .int .i64 (M2 k 2), .int .i64 (M2 k 3), .int .i64 (M2 k 4), .int .i64 (M2 k 5), .int .i64 (M2 k 6), .int .i64 (M2 k 7), .int .i64 (M2 k 8), .int .i64 (M2 k 9), .int .i64 (M2 k 10)] : Array Value)[o]?) ∧ u0 < w'.heap.size ∧ u1 < w'.heap.size ∧ u2 < w'.heap.size) (by kernel_rfl) ?_ (fun hHeld => ?_)
          · exact keepK_drew hS1'
          refine wpAnyH_take (i := 0) (v := ?v0w0000_) rfl (by kernel_rfl) (by kernel_rfl) (by kernel_rfl) (fun _ _ _ h => h) (Or.inl ⟨by kernel_rfl, ?y0w0000_⟩) hHeld ?r0w0000_
          case y0w0000_ =>
            intro w hSw
            try dsimp only at hSw
            obtain ⟨e0, e1, e2, l0, l1, l2⟩ := hSw
            go_simp
            try with_reducible rfl
          try simp only [Act.put, List.setIfInBounds_toArray]
          refine wpAnyH_take (i := 1) (v := ?v1w0000_) rfl (by kernel_rfl) (by kernel_rfl) (by kernel_rfl) (fun _ _ _ h => h) (Or.inl ⟨by kernel_rfl, ?y1w0000_⟩) hHeld ?r1w0000_
          case y1w0000_ =>
            intro w hSw
            try dsimp only at hSw
            obtain ⟨e0, e1, e2, l0, l1, l2⟩ := hSw
            go_simp
            try with_reducible rfl
          try simp only [Act.put]
          refine wpAnyH_take (i := 2) (v := ?v2w0000_) rfl (by kernel_rfl) (by kernel_rfl) (by kernel_rfl) (fun _ _ _ h => h) (Or.inl ⟨by kernel_rfl, ?y2w0000_⟩) hHeld ?r2w0000_
          case y2w0000_ =>
            intro w hSw
            try dsimp only at hSw
            obtain ⟨e0, e1, e2, l0, l1, l2⟩ := hSw
            go_simp
            try with_reducible rfl
          try simp only [Act.put]
          refine wpAnyH_take (i := 3) (v := ?v3w0000_) rfl (by kernel_rfl) (by kernel_rfl) (by kernel_rfl) (fun _ _ _ h => h) (Or.inl ⟨by kernel_rfl, ?y3w0000_⟩) hHeld ?r3w0000_
          case y3w0000_ =>
            intro w hSw
            try dsimp only at hSw
            obtain ⟨e0, e1, e2, l0, l1, l2⟩ := hSw
            go_simp
            try with_reducible rfl
          try simp only [Act.put]
          refine wpAnyH_take (i := 4) (v := ?v4w0000_) rfl (by kernel_rfl) (by kernel_rfl) (by kernel_rfl) (fun _ _ _ h => h) (Or.inl ⟨by kernel_rfl, ?y4w0000_⟩) hHeld ?r4w0000_
          case y4w0000_ =>
            intro w hSw
            try dsimp only at hSw
            obtain ⟨e0, e1, e2, l0, l1, l2⟩ := hSw
            go_simp
            try with_reducible rfl
          try simp only [Act.put]
          refine wpAnyH_take (i := 5) (v := ?v5w0000_) rfl (by kernel_rfl) (by kernel_rfl) (by kernel_rfl) (fun _ _ _ h => h) (Or.inl ⟨by kernel_rfl, ?y5w0000_⟩) hHeld ?r5w0000_
          case y5w0000_ =>
            intro w hSw
            try dsimp only at hSw
            obtain ⟨e0, e1, e2, l0, l1, l2⟩ := hSw
            go_simp
            try with_reducible rfl
          try simp only [Act.put]
          refine wpAnyH_take (i := 6) (v := ?v6w0000_) rfl (by kernel_rfl) (by kernel_rfl) (by kernel_rfl) (fun _ _ _ h => h) (Or.inl ⟨by kernel_rfl, ?y6w0000_⟩) hHeld ?r6w0000_
          case y6w0000_ =>
            intro w hSw
            try dsimp only at hSw
            obtain ⟨e0, e1, e2, l0, l1, l2⟩ := hSw
            go_simp
            try with_reducible rfl
          try simp only [Act.put]
          refine wpAnyH_take (i := 7) (v := ?v7w0000_) rfl (by kernel_rfl) (by kernel_rfl) (by kernel_rfl) (fun _ _ _ h => h) (Or.inl ⟨by kernel_rfl, ?y7w0000_⟩) hHeld ?r7w0000_
          case y7w0000_ =>
            intro w hSw
            try dsimp only at hSw
            obtain ⟨e0, e1, e2, l0, l1, l2⟩ := hSw
            go_simp
            try with_reducible rfl
          try simp only [Act.put]
          refine wpAnyH_take (i := 8) (v := ?v8w0000_) rfl (by kernel_rfl) (by kernel_rfl) (by kernel_rfl) (fun _ _ _ h => h) (Or.inl ⟨by kernel_rfl, ?y8w0000_⟩) hHeld ?r8w0000_
          case y8w0000_ =>
            intro w hSw
            try dsimp only at hSw
            obtain ⟨e0, e1, e2, l0, l1, l2⟩ := hSw
            go_simp
            try with_reducible rfl
          try simp only [Act.put]
          refine wpAnyH_take (i := 9) (v := ?v9w0000_) rfl (by kernel_rfl) (by kernel_rfl) (by kernel_rfl) (fun _ _ _ h => h) (Or.inl ⟨by kernel_rfl, ?y9w0000_⟩) hHeld ?r9w0000_
          case y9w0000_ =>
            intro w hSw
            try dsimp only at hSw
            obtain ⟨e0, e1, e2, l0, l1, l2⟩ := hSw
            go_simp
            try with_reducible rfl
          try simp only [Act.put]
          refine wpAnyH_take (i := 10) (v := ?v10w0000_) rfl (by kernel_rfl) (by kernel_rfl) (by kernel_rfl) (fun _ _ _ h => h) (Or.inl ⟨by kernel_rfl, ?y10w0000_⟩) hHeld ?r10w0000_
          case y10w0000_ =>
            intro w hSw
            try dsimp only at hSw
            obtain ⟨e0, e1, e2, l0, l1, l2⟩ := hSw
            go_simp
            try with_reducible rfl
          try simp only [Act.put]
          refine wpAnyH_take (i := 11) (v := ?v11w0000_) rfl (by kernel_rfl) (by kernel_rfl) (by kernel_rfl) (fun _ _ _ h => h) (Or.inl ⟨by kernel_rfl, ?y11w0000_⟩) hHeld ?r11w0000_
          case y11w0000_ =>
            intro w hSw
            try dsimp only at hSw
            obtain ⟨e0, e1, e2, l0, l1, l2⟩ := hSw
            go_simp
            try with_reducible rfl
          try simp only [Act.put]
          refine wpAnyH_take (i := 12) (v := ?v12w0000_) rfl (by kernel_rfl) (by kernel_rfl) (by kernel_rfl) (fun _ _ _ h => h) (Or.inl ⟨by kernel_rfl, ?y12w0000_⟩) hHeld ?r12w0000_
          case y12w0000_ =>
            intro w hSw
            try dsimp only at hSw
            obtain ⟨e0, e1, e2, l0, l1, l2⟩ := hSw
            go_simp
            try with_reducible rfl
          try simp only [Act.put]
          refine wpAnyH_take (i := 14) (v := ?v14w0000_) rfl (by kernel_rfl) (by kernel_rfl) (by kernel_rfl) (fun _ _ _ h => h) (Or.inl ⟨by kernel_rfl, ?y14w0000_⟩) hHeld ?r14w0000_
          case y14w0000_ =>
            intro w hSw
            try dsimp only at hSw
            obtain ⟨e0, e1, e2, l0, l1, l2⟩ := hSw
            go_simp
            try with_reducible rfl
          try simp only [Act.put]
          refine wpAnyH_take (i := 15) (v := ?v15w0000_) rfl (by kernel_rfl) (by kernel_rfl) (by kernel_rfl) (fun _ _ _ h => h) (Or.inl ⟨by kernel_rfl, ?y15w0000_⟩) hHeld ?r15w0000_
          case y15w0000_ =>
            intro w hSw
            try dsimp only at hSw
            obtain ⟨e0, e1, e2, l0, l1, l2⟩ := hSw
            go_simp
            try with_reducible rfl
          try simp only [Act.put]
          refine wpAnyH_take (i := 16) (v := ?v16w0000_) rfl (by kernel_rfl) (by kernel_rfl) (by kernel_rfl) (fun _ _ _ h => h) (Or.inl ⟨by kernel_rfl, ?y16w0000_⟩) hHeld ?r16w0000_
          case y16w0000_ =>
            intro w hSw
            try dsimp only at hSw
            obtain ⟨e0, e1, e2, l0, l1, l2⟩ := hSw
            go_simp
            try with_reducible rfl
          try simp only [Act.put]
          refine wpAnyH_take (i := 17) (v := ?v17w0000_) rfl (by kernel_rfl) (by kernel_rfl) (by kernel_rfl) (fun _ _ _ h => h) (Or.inl ⟨by kernel_rfl, ?y17w0000_⟩) hHeld ?r17w0000_
          case y17w0000_ =>
            intro w hSw
            try dsimp only at hSw
            obtain ⟨e0, e1, e2, l0, l1, l2⟩ := hSw
            go_simp
            try with_reducible rfl
          try simp only [Act.put]
          refine wpAnyH_take (i := 18) (v := ?v18w0000_) rfl (by kernel_rfl) (by kernel_rfl) (by kernel_rfl) (fun _ _ _ h => h) (Or.inl ⟨by kernel_rfl, ?y18w0000_⟩) hHeld ?r18w0000_
          case y18w0000_ =>
            intro w hSw
            try dsimp only at hSw
            obtain ⟨e0, e1, e2, l0, l1, l2⟩ := hSw
            go_simp
            try with_reducible rfl
          try simp only [Act.put]
          refine wpAnyH_take (i := 19) (v := ?v19w0000_) rfl (by kernel_rfl) (by kernel_rfl) (by kernel_rfl) (fun _ _ _ h => h) (Or.inl ⟨by kernel_rfl, ?y19w0000_⟩) hHeld ?r19w0000_
          case y19w0000_ =>
            intro w hSw
            try dsimp only at hSw
            obtain ⟨e0, e1, e2, l0, l1, l2⟩ := hSw
            go_simp
            try with_reducible rfl
          try simp only [Act.put]
          refine wpAnyH_ready (rs := [13]) (by kernel_rfl) (by simp) ?_
          refine AllReadyH.cons (o := _) rfl (fun K hK => ?_) AllReadyH.nil
          go_simp
          refine (flag_k S1 p u0 (L) true _ (H1.drew) (by have := hHeld.1 0; simpa using this)).mono ?_
          rintro e w2 ⟨rfl, Hw2, hmw2⟩
          have hSw2 := keepK hHeld hmw2 HC.out
          try dsimp only
          refine hK.out _ _ ?_ (fun hHeld => ?_)
          · exact hSw2
          clear hK K
          try simp only [Act.put, List.setIfInBounds_toArray, List.set_cons_zero, List.set_cons_succ]
          refine wpAnyH_ready (rs := [20]) (by kernel_rfl) (by simp) ?_
          refine AllReadyH.cons (o := _) rfl (fun K hK => ?_) AllReadyH.nil
          go_simp
          refine (flag_k S1 p u0 (L ++ bit true) false _ Hw2 (by have := hHeld.1 0; simpa using this)).mono ?_
          rintro e w3 ⟨rfl, Hw3, hmw3⟩
          have hSw3 := keepK hHeld hmw3 HC.out
          try dsimp only
          refine hK.out _ _ ?_ (fun hHeld => ?_)
          · exact hSw3
          clear hK K
          try simp only [Act.put, List.setIfInBounds_toArray, List.set_cons_zero, List.set_cons_succ]
          refine wpAnyH_take (i := 21) (v := ?v21w0000_) rfl (by kernel_rfl) (by kernel_rfl) (by kernel_rfl) (fun _ _ _ h => h) (Or.inl ⟨by kernel_rfl, ?y21w0000_⟩) hHeld ?r21w0000_
          case y21w0000_ =>
            intro w hSw
            try dsimp only at hSw
            obtain ⟨e0, e1, e2, l0, l1, l2⟩ := hSw
            go_simp
            try with_reducible rfl
          try simp only [Act.put, List.setIfInBounds_toArray]
          refine wpAnyH_take (i := 22) (v := ?v22w0000_) rfl (by kernel_rfl) (by kernel_rfl) (by kernel_rfl) (fun _ _ _ h => h) (Or.inl ⟨by kernel_rfl, ?y22w0000_⟩) hHeld ?r22w0000_
          case y22w0000_ =>
            intro w hSw
            try dsimp only at hSw
            obtain ⟨e0, e1, e2, l0, l1, l2⟩ := hSw
            go_simp
            try with_reducible rfl
          try simp only [Act.put]
          refine wpAnyH_done (by kernel_rfl) ?_ _
          clear hHeld
          obtain ⟨c0, c1, c2, z0, z1, z2⟩ := id hSw3
          go_wp2_with fail
          refine (flag_k S1 p u0 (L ++ bit true ++ bit false) false _ Hw3 (by have := c0 0; simpa using this)).mono ?_
          rintro e w4 ⟨rfl, Hw4, hmw4⟩
          have hSw4 := keepK hSw3 hmw4 HC.out
          clear c0 c1 c2 z0 z1 z2 hSw3 Hw3
          obtain ⟨c0, c1, c2, z0, z1, z2⟩ := id hSw4
          go_wp2_with fail
          refine (put_k S1 p (L ++ bit true ++ bit false ++ bit false) _ _ _ (M2 k 1).toNat 3 Hw4 (by have := HKK.out; omega) rfl (by decide) (by have := HKK.out; omega)).mono ?_
          rintro e w5 ⟨⟨v5, rfl⟩, Hw5, hmw5⟩
          have hSw5 := keepK hSw4 hmw5 HC.out
          clear c0 c1 c2 z0 z1 z2 hSw4 Hw4
          obtain ⟨c0, c1, c2, z0, z1, z2⟩ := id hSw5
          go_wp2_with fail
          refine (vec_k S1 p (L ++ bit true ++ bit false ++ bit false ++ bitsOf 3 (M2 k 1).toNat) (M2 k 2) (M2 k 3) (M2 k 4) (M1 i 2) (M1 i 3) (M1 i 4) _ Hw5 (HK.out 2 (by decide) (by decide)) (HK.out 3 (by decide) (by decide)) (HK.out 4 (by decide) (by decide)) (HI.out 2 (by decide) (by decide)) (HI.out 3 (by decide) (by decide)) (HI.out 4 (by decide) (by decide))).mono ?_
          rintro e w6 ⟨rfl, Hw6, hmw6⟩
          have hSw6 := keepK hSw5 hmw6 HC.out
          clear c0 c1 c2 z0 z1 z2 hSw5 Hw5
          obtain ⟨c0, c1, c2, z0, z1, z2⟩ := id hSw6
          clear c0 c1 c2 z0 z1 z2
          go_wp2
          go_end0
          refine ⟨rfl, ?_⟩
          have e : L ++ bit true ++ bit false ++ bit false ++ bitsOf 3 (M2 k 1).toNat ++ vec3L (M2 k 2 - M1 i 2) (M2 k 3 - M1 i 3) (M2 k 4 - M1 i 4) = L ++ changeL M1 i M2 k := by
            unfold changeL neS vecD
            rw [HSS.out, HSA.out, HSV.out, HSK.out]
            simp [List.append_assoc]
          rw [← e]
          exact WfPost.back ⟨Hw6, ((((((Mod.refl _ w1).drew.trans hmw2).trans hmw3).trans hmw4).trans hmw5).trans hmw6)⟩ HSB.out HM1.out
    | false =>
      cases sA with
      | true =>
        cases sV with
        | true =>
          refine wp_region_held_drew (S := fun w' => (∀ o, w'.cell? ⟨u0, o, none⟩ = (#[.pointer (some ⟨p, 0, none⟩)] : Array Value)[o]?) ∧ (∀ o, w'.cell? ⟨u1, o, none⟩ = (#[.int .i64 (M1 i 0), .int .i64 (M1 i 1), .int .i64 (M1 i 2), .int .i64 (M1 i 3), .int .i64 (M1 i 4), .int .i64 (M1 i 5), .int .i64 (M1 i 6), .int .i64 (M1 i 7), .int .i64 (M1 i 8), .int .i64 (M1 i 9), .int .i64 (M1 i 10)] : Array Value)[o]?) ∧ (∀ o, w'.cell? ⟨u2, o, none⟩ = (#[.int .i64 (M2 k 0), .int .i64 (M2 k 1), .int .i64 (M2 k 2), .int .i64 (M2 k 3), .int .i64 (M2 k 4), .int .i64 (M2 k 5), .int .i64 (M2 k 6), .int .i64 (M2 k 7), .int .i64 (M2 k 8), .int .i64 (M2 k 9), .int .i64 (M2 k 10)] : Array Value)[o]?) ∧ u0 < w'.heap.size ∧ u1 < w'.heap.size ∧ u2 < w'.heap.size) (by kernel_rfl) ?_ (fun hHeld => ?_)
          · exact keepK_drew hS1'
          refine wpAnyH_take (i := 0) (v := ?v0w0111_) rfl (by kernel_rfl) (by kernel_rfl) (by kernel_rfl) (fun _ _ _ h => h) (Or.inl ⟨by kernel_rfl, ?y0w0111_⟩) hHeld ?r0w0111_
          case y0w0111_ =>
            intro w hSw
            try dsimp only at hSw
            obtain ⟨e0, e1, e2, l0, l1, l2⟩ := hSw
            go_simp
            try with_reducible rfl
          try simp only [Act.put, List.setIfInBounds_toArray]
          refine wpAnyH_take (i := 1) (v := ?v1w0111_) rfl (by kernel_rfl) (by kernel_rfl) (by kernel_rfl) (fun _ _ _ h => h) (Or.inl ⟨by kernel_rfl, ?y1w0111_⟩) hHeld ?r1w0111_
          case y1w0111_ =>
            intro w hSw
            try dsimp only at hSw
            obtain ⟨e0, e1, e2, l0, l1, l2⟩ := hSw
            go_simp
            try with_reducible rfl
          try simp only [Act.put]
          refine wpAnyH_take (i := 2) (v := ?v2w0111_) rfl (by kernel_rfl) (by kernel_rfl) (by kernel_rfl) (fun _ _ _ h => h) (Or.inl ⟨by kernel_rfl, ?y2w0111_⟩) hHeld ?r2w0111_
          case y2w0111_ =>
            intro w hSw
            try dsimp only at hSw
            obtain ⟨e0, e1, e2, l0, l1, l2⟩ := hSw
            go_simp
            try with_reducible rfl
          try simp only [Act.put]
          refine wpAnyH_take (i := 3) (v := ?v3w0111_) rfl (by kernel_rfl) (by kernel_rfl) (by kernel_rfl) (fun _ _ _ h => h) (Or.inl ⟨by kernel_rfl, ?y3w0111_⟩) hHeld ?r3w0111_
          case y3w0111_ =>
            intro w hSw
            try dsimp only at hSw
            obtain ⟨e0, e1, e2, l0, l1, l2⟩ := hSw
            go_simp
            try with_reducible rfl
          try simp only [Act.put]
          refine wpAnyH_take (i := 4) (v := ?v4w0111_) rfl (by kernel_rfl) (by kernel_rfl) (by kernel_rfl) (fun _ _ _ h => h) (Or.inl ⟨by kernel_rfl, ?y4w0111_⟩) hHeld ?r4w0111_
          case y4w0111_ =>
            intro w hSw
            try dsimp only at hSw
            obtain ⟨e0, e1, e2, l0, l1, l2⟩ := hSw
            go_simp
            try with_reducible rfl
          try simp only [Act.put]
          refine wpAnyH_take (i := 5) (v := ?v5w0111_) rfl (by kernel_rfl) (by kernel_rfl) (by kernel_rfl) (fun _ _ _ h => h) (Or.inl ⟨by kernel_rfl, ?y5w0111_⟩) hHeld ?r5w0111_
          case y5w0111_ =>
            intro w hSw
            try dsimp only at hSw
            obtain ⟨e0, e1, e2, l0, l1, l2⟩ := hSw
            go_simp
            try with_reducible rfl
          try simp only [Act.put]
          refine wpAnyH_take (i := 6) (v := ?v6w0111_) rfl (by kernel_rfl) (by kernel_rfl) (by kernel_rfl) (fun _ _ _ h => h) (Or.inl ⟨by kernel_rfl, ?y6w0111_⟩) hHeld ?r6w0111_
          case y6w0111_ =>
            intro w hSw
            try dsimp only at hSw
            obtain ⟨e0, e1, e2, l0, l1, l2⟩ := hSw
            go_simp
            try with_reducible rfl
          try simp only [Act.put]
          refine wpAnyH_take (i := 7) (v := ?v7w0111_) rfl (by kernel_rfl) (by kernel_rfl) (by kernel_rfl) (fun _ _ _ h => h) (Or.inl ⟨by kernel_rfl, ?y7w0111_⟩) hHeld ?r7w0111_
          case y7w0111_ =>
            intro w hSw
            try dsimp only at hSw
            obtain ⟨e0, e1, e2, l0, l1, l2⟩ := hSw
            go_simp
            try with_reducible rfl
          try simp only [Act.put]
          refine wpAnyH_take (i := 8) (v := ?v8w0111_) rfl (by kernel_rfl) (by kernel_rfl) (by kernel_rfl) (fun _ _ _ h => h) (Or.inl ⟨by kernel_rfl, ?y8w0111_⟩) hHeld ?r8w0111_
          case y8w0111_ =>
            intro w hSw
            try dsimp only at hSw
            obtain ⟨e0, e1, e2, l0, l1, l2⟩ := hSw
            go_simp
            try with_reducible rfl
          try simp only [Act.put]
          refine wpAnyH_take (i := 9) (v := ?v9w0111_) rfl (by kernel_rfl) (by kernel_rfl) (by kernel_rfl) (fun _ _ _ h => h) (Or.inl ⟨by kernel_rfl, ?y9w0111_⟩) hHeld ?r9w0111_
          case y9w0111_ =>
            intro w hSw
            try dsimp only at hSw
            obtain ⟨e0, e1, e2, l0, l1, l2⟩ := hSw
            go_simp
            try with_reducible rfl
          try simp only [Act.put]
          refine wpAnyH_take (i := 10) (v := ?v10w0111_) rfl (by kernel_rfl) (by kernel_rfl) (by kernel_rfl) (fun _ _ _ h => h) (Or.inl ⟨by kernel_rfl, ?y10w0111_⟩) hHeld ?r10w0111_
          case y10w0111_ =>
            intro w hSw
            try dsimp only at hSw
            obtain ⟨e0, e1, e2, l0, l1, l2⟩ := hSw
            go_simp
            try with_reducible rfl
          try simp only [Act.put]
          refine wpAnyH_take (i := 11) (v := ?v11w0111_) rfl (by kernel_rfl) (by kernel_rfl) (by kernel_rfl) (fun _ _ _ h => h) (Or.inl ⟨by kernel_rfl, ?y11w0111_⟩) hHeld ?r11w0111_
          case y11w0111_ =>
            intro w hSw
            try dsimp only at hSw
            obtain ⟨e0, e1, e2, l0, l1, l2⟩ := hSw
            go_simp
            try with_reducible rfl
          try simp only [Act.put]
          refine wpAnyH_take (i := 12) (v := ?v12w0111_) rfl (by kernel_rfl) (by kernel_rfl) (by kernel_rfl) (fun _ _ _ h => h) (Or.inl ⟨by kernel_rfl, ?y12w0111_⟩) hHeld ?r12w0111_
          case y12w0111_ =>
            intro w hSw
            try dsimp only at hSw
            obtain ⟨e0, e1, e2, l0, l1, l2⟩ := hSw
            go_simp
            try with_reducible rfl
          try simp only [Act.put]
          refine wpAnyH_take (i := 14) (v := ?v14w0111_) rfl (by kernel_rfl) (by kernel_rfl) (by kernel_rfl) (fun _ _ _ h => h) (Or.inl ⟨by kernel_rfl, ?y14w0111_⟩) hHeld ?r14w0111_
          case y14w0111_ =>
            intro w hSw
            try dsimp only at hSw
            obtain ⟨e0, e1, e2, l0, l1, l2⟩ := hSw
            go_simp
            try with_reducible rfl
          try simp only [Act.put]
          refine wpAnyH_take (i := 15) (v := ?v15w0111_) rfl (by kernel_rfl) (by kernel_rfl) (by kernel_rfl) (fun _ _ _ h => h) (Or.inl ⟨by kernel_rfl, ?y15w0111_⟩) hHeld ?r15w0111_
          case y15w0111_ =>
            intro w hSw
            try dsimp only at hSw
            obtain ⟨e0, e1, e2, l0, l1, l2⟩ := hSw
            go_simp
            try with_reducible rfl
          try simp only [Act.put]
          refine wpAnyH_take (i := 16) (v := ?v16w0111_) rfl (by kernel_rfl) (by kernel_rfl) (by kernel_rfl) (fun _ _ _ h => h) (Or.inl ⟨by kernel_rfl, ?y16w0111_⟩) hHeld ?r16w0111_
          case y16w0111_ =>
            intro w hSw
            try dsimp only at hSw
            obtain ⟨e0, e1, e2, l0, l1, l2⟩ := hSw
            go_simp
            try with_reducible rfl
          try simp only [Act.put]
          refine wpAnyH_take (i := 17) (v := ?v17w0111_) rfl (by kernel_rfl) (by kernel_rfl) (by kernel_rfl) (fun _ _ _ h => h) (Or.inl ⟨by kernel_rfl, ?y17w0111_⟩) hHeld ?r17w0111_
          case y17w0111_ =>
            intro w hSw
            try dsimp only at hSw
            obtain ⟨e0, e1, e2, l0, l1, l2⟩ := hSw
            go_simp
            try with_reducible rfl
          try simp only [Act.put]
          refine wpAnyH_take (i := 18) (v := ?v18w0111_) rfl (by kernel_rfl) (by kernel_rfl) (by kernel_rfl) (fun _ _ _ h => h) (Or.inl ⟨by kernel_rfl, ?y18w0111_⟩) hHeld ?r18w0111_
          case y18w0111_ =>
            intro w hSw
            try dsimp only at hSw
            obtain ⟨e0, e1, e2, l0, l1, l2⟩ := hSw
            go_simp
            try with_reducible rfl
          try simp only [Act.put]
          refine wpAnyH_take (i := 19) (v := ?v19w0111_) rfl (by kernel_rfl) (by kernel_rfl) (by kernel_rfl) (fun _ _ _ h => h) (Or.inl ⟨by kernel_rfl, ?y19w0111_⟩) hHeld ?r19w0111_
          case y19w0111_ =>
            intro w hSw
            try dsimp only at hSw
            obtain ⟨e0, e1, e2, l0, l1, l2⟩ := hSw
            go_simp
            try with_reducible rfl
          try simp only [Act.put]
          refine wpAnyH_ready (rs := [13]) (by kernel_rfl) (by simp) ?_
          refine AllReadyH.cons (o := _) rfl (fun K hK => ?_) AllReadyH.nil
          go_simp
          refine (flag_k S1 p u0 (L) false _ (H1.drew) (by have := hHeld.1 0; simpa using this)).mono ?_
          rintro e w2 ⟨rfl, Hw2, hmw2⟩
          have hSw2 := keepK hHeld hmw2 HC.out
          try dsimp only
          refine hK.out _ _ ?_ (fun hHeld => ?_)
          · exact hSw2
          clear hK K
          try simp only [Act.put, List.setIfInBounds_toArray, List.set_cons_zero, List.set_cons_succ]
          refine wpAnyH_ready (rs := [20]) (by kernel_rfl) (by simp) ?_
          refine AllReadyH.cons (o := _) rfl (fun K hK => ?_) AllReadyH.nil
          go_simp
          refine (flag_k S1 p u0 (L ++ bit false) true _ Hw2 (by have := hHeld.1 0; simpa using this)).mono ?_
          rintro e w3 ⟨rfl, Hw3, hmw3⟩
          have hSw3 := keepK hHeld hmw3 HC.out
          try dsimp only
          refine hK.out _ _ ?_ (fun hHeld => ?_)
          · exact hSw3
          clear hK K
          try simp only [Act.put, List.setIfInBounds_toArray, List.set_cons_zero, List.set_cons_succ]
          refine wpAnyH_take (i := 21) (v := ?v21w0111_) rfl (by kernel_rfl) (by kernel_rfl) (by kernel_rfl) (fun _ _ _ h => h) (Or.inl ⟨by kernel_rfl, ?y21w0111_⟩) hHeld ?r21w0111_
          case y21w0111_ =>
            intro w hSw
            try dsimp only at hSw
            obtain ⟨e0, e1, e2, l0, l1, l2⟩ := hSw
            go_simp
            try with_reducible rfl
          try simp only [Act.put, List.setIfInBounds_toArray]
          refine wpAnyH_take (i := 22) (v := ?v22w0111_) rfl (by kernel_rfl) (by kernel_rfl) (by kernel_rfl) (fun _ _ _ h => h) (Or.inl ⟨by kernel_rfl, ?y22w0111_⟩) hHeld ?r22w0111_
          case y22w0111_ =>
            intro w hSw
            try dsimp only at hSw
            obtain ⟨e0, e1, e2, l0, l1, l2⟩ := hSw
            go_simp
            try with_reducible rfl
          try simp only [Act.put]
          refine wpAnyH_done (by kernel_rfl) ?_ _
          clear hHeld
          obtain ⟨c0, c1, c2, z0, z1, z2⟩ := id hSw3
          go_wp2_with fail
          refine (flag_k S1 p u0 (L ++ bit false ++ bit true) true _ Hw3 (by have := c0 0; simpa using this)).mono ?_
          rintro e w4 ⟨rfl, Hw4, hmw4⟩
          have hSw4 := keepK hSw3 hmw4 HC.out
          clear c0 c1 c2 z0 z1 z2 hSw3 Hw3
          obtain ⟨c0, c1, c2, z0, z1, z2⟩ := id hSw4
          go_wp2_with fail
          refine (vec_k S1 p (L ++ bit false ++ bit true ++ bit true) (M2 k 5) (M2 k 6) (M2 k 7) (M1 i 5) (M1 i 6) (M1 i 7) _ Hw4 (HK.out 5 (by decide) (by decide)) (HK.out 6 (by decide) (by decide)) (HK.out 7 (by decide) (by decide)) (HI.out 5 (by decide) (by decide)) (HI.out 6 (by decide) (by decide)) (HI.out 7 (by decide) (by decide))).mono ?_
          rintro e w5 ⟨rfl, Hw5, hmw5⟩
          have hSw5 := keepK hSw4 hmw5 HC.out
          clear c0 c1 c2 z0 z1 z2 hSw4 Hw4
          obtain ⟨c0, c1, c2, z0, z1, z2⟩ := id hSw5
          go_wp2_with fail
          refine (vec_k S1 p (L ++ bit false ++ bit true ++ bit true ++ vec3L (M2 k 5 - M1 i 5) (M2 k 6 - M1 i 6) (M2 k 7 - M1 i 7)) (M2 k 8) (M2 k 9) (M2 k 10) (M1 i 8) (M1 i 9) (M1 i 10) _ Hw5 (HK.out 8 (by decide) (by decide)) (HK.out 9 (by decide) (by decide)) (HK.out 10 (by decide) (by decide)) (HI.out 8 (by decide) (by decide)) (HI.out 9 (by decide) (by decide)) (HI.out 10 (by decide) (by decide))).mono ?_
          rintro e w6 ⟨rfl, Hw6, hmw6⟩
          have hSw6 := keepK hSw5 hmw6 HC.out
          clear c0 c1 c2 z0 z1 z2 hSw5 Hw5
          obtain ⟨c0, c1, c2, z0, z1, z2⟩ := id hSw6
          clear c0 c1 c2 z0 z1 z2
          go_wp2
          go_end0
          refine ⟨rfl, ?_⟩
          have e : L ++ bit false ++ bit true ++ bit true ++ vec3L (M2 k 5 - M1 i 5) (M2 k 6 - M1 i 6) (M2 k 7 - M1 i 7) ++ vec3L (M2 k 8 - M1 i 8) (M2 k 9 - M1 i 9) (M2 k 10 - M1 i 10) = L ++ changeL M1 i M2 k := by
            unfold changeL neS vecD
            rw [HSS.out, HSA.out, HSV.out, HSK.out]
            simp [List.append_assoc]
          rw [← e]
          exact WfPost.back ⟨Hw6, ((((((Mod.refl _ w1).drew.trans hmw2).trans hmw3).trans hmw4).trans hmw5).trans hmw6)⟩ HSB.out HM1.out
        | false =>
          refine wp_region_held_drew (S := fun w' => (∀ o, w'.cell? ⟨u0, o, none⟩ = (#[.pointer (some ⟨p, 0, none⟩)] : Array Value)[o]?) ∧ (∀ o, w'.cell? ⟨u1, o, none⟩ = (#[.int .i64 (M1 i 0), .int .i64 (M1 i 1), .int .i64 (M1 i 2), .int .i64 (M1 i 3), .int .i64 (M1 i 4), .int .i64 (M1 i 5), .int .i64 (M1 i 6), .int .i64 (M1 i 7), .int .i64 (M1 i 8), .int .i64 (M1 i 9), .int .i64 (M1 i 10)] : Array Value)[o]?) ∧ (∀ o, w'.cell? ⟨u2, o, none⟩ = (#[.int .i64 (M2 k 0), .int .i64 (M2 k 1), .int .i64 (M2 k 2), .int .i64 (M2 k 3), .int .i64 (M2 k 4), .int .i64 (M2 k 5), .int .i64 (M2 k 6), .int .i64 (M2 k 7), .int .i64 (M2 k 8), .int .i64 (M2 k 9), .int .i64 (M2 k 10)] : Array Value)[o]?) ∧ u0 < w'.heap.size ∧ u1 < w'.heap.size ∧ u2 < w'.heap.size) (by kernel_rfl) ?_ (fun hHeld => ?_)
          · exact keepK_drew hS1'
          refine wpAnyH_take (i := 0) (v := ?v0w0110_) rfl (by kernel_rfl) (by kernel_rfl) (by kernel_rfl) (fun _ _ _ h => h) (Or.inl ⟨by kernel_rfl, ?y0w0110_⟩) hHeld ?r0w0110_
          case y0w0110_ =>
            intro w hSw
            try dsimp only at hSw
            obtain ⟨e0, e1, e2, l0, l1, l2⟩ := hSw
            go_simp
            try with_reducible rfl
          try simp only [Act.put, List.setIfInBounds_toArray]
          refine wpAnyH_take (i := 1) (v := ?v1w0110_) rfl (by kernel_rfl) (by kernel_rfl) (by kernel_rfl) (fun _ _ _ h => h) (Or.inl ⟨by kernel_rfl, ?y1w0110_⟩) hHeld ?r1w0110_
          case y1w0110_ =>
            intro w hSw
            try dsimp only at hSw
            obtain ⟨e0, e1, e2, l0, l1, l2⟩ := hSw
            go_simp
            try with_reducible rfl
          try simp only [Act.put]
          refine wpAnyH_take (i := 2) (v := ?v2w0110_) rfl (by kernel_rfl) (by kernel_rfl) (by kernel_rfl) (fun _ _ _ h => h) (Or.inl ⟨by kernel_rfl, ?y2w0110_⟩) hHeld ?r2w0110_
          case y2w0110_ =>
            intro w hSw
            try dsimp only at hSw
            obtain ⟨e0, e1, e2, l0, l1, l2⟩ := hSw
            go_simp
            try with_reducible rfl
          try simp only [Act.put]
          refine wpAnyH_take (i := 3) (v := ?v3w0110_) rfl (by kernel_rfl) (by kernel_rfl) (by kernel_rfl) (fun _ _ _ h => h) (Or.inl ⟨by kernel_rfl, ?y3w0110_⟩) hHeld ?r3w0110_
          case y3w0110_ =>
            intro w hSw
            try dsimp only at hSw
            obtain ⟨e0, e1, e2, l0, l1, l2⟩ := hSw
            go_simp
            try with_reducible rfl
          try simp only [Act.put]
          refine wpAnyH_take (i := 4) (v := ?v4w0110_) rfl (by kernel_rfl) (by kernel_rfl) (by kernel_rfl) (fun _ _ _ h => h) (Or.inl ⟨by kernel_rfl, ?y4w0110_⟩) hHeld ?r4w0110_
          case y4w0110_ =>
            intro w hSw
            try dsimp only at hSw
            obtain ⟨e0, e1, e2, l0, l1, l2⟩ := hSw
            go_simp
            try with_reducible rfl
          try simp only [Act.put]
          refine wpAnyH_take (i := 5) (v := ?v5w0110_) rfl (by kernel_rfl) (by kernel_rfl) (by kernel_rfl) (fun _ _ _ h => h) (Or.inl ⟨by kernel_rfl, ?y5w0110_⟩) hHeld ?r5w0110_
          case y5w0110_ =>
            intro w hSw
            try dsimp only at hSw
            obtain ⟨e0, e1, e2, l0, l1, l2⟩ := hSw
            go_simp
            try with_reducible rfl
          try simp only [Act.put]
          refine wpAnyH_take (i := 6) (v := ?v6w0110_) rfl (by kernel_rfl) (by kernel_rfl) (by kernel_rfl) (fun _ _ _ h => h) (Or.inl ⟨by kernel_rfl, ?y6w0110_⟩) hHeld ?r6w0110_
          case y6w0110_ =>
            intro w hSw
            try dsimp only at hSw
            obtain ⟨e0, e1, e2, l0, l1, l2⟩ := hSw
            go_simp
            try with_reducible rfl
          try simp only [Act.put]
          refine wpAnyH_take (i := 7) (v := ?v7w0110_) rfl (by kernel_rfl) (by kernel_rfl) (by kernel_rfl) (fun _ _ _ h => h) (Or.inl ⟨by kernel_rfl, ?y7w0110_⟩) hHeld ?r7w0110_
          case y7w0110_ =>
            intro w hSw
            try dsimp only at hSw
            obtain ⟨e0, e1, e2, l0, l1, l2⟩ := hSw
            go_simp
            try with_reducible rfl
          try simp only [Act.put]
          refine wpAnyH_take (i := 8) (v := ?v8w0110_) rfl (by kernel_rfl) (by kernel_rfl) (by kernel_rfl) (fun _ _ _ h => h) (Or.inl ⟨by kernel_rfl, ?y8w0110_⟩) hHeld ?r8w0110_
          case y8w0110_ =>
            intro w hSw
            try dsimp only at hSw
            obtain ⟨e0, e1, e2, l0, l1, l2⟩ := hSw
            go_simp
            try with_reducible rfl
          try simp only [Act.put]
          refine wpAnyH_take (i := 9) (v := ?v9w0110_) rfl (by kernel_rfl) (by kernel_rfl) (by kernel_rfl) (fun _ _ _ h => h) (Or.inl ⟨by kernel_rfl, ?y9w0110_⟩) hHeld ?r9w0110_
          case y9w0110_ =>
            intro w hSw
            try dsimp only at hSw
            obtain ⟨e0, e1, e2, l0, l1, l2⟩ := hSw
            go_simp
            try with_reducible rfl
          try simp only [Act.put]
          refine wpAnyH_take (i := 10) (v := ?v10w0110_) rfl (by kernel_rfl) (by kernel_rfl) (by kernel_rfl) (fun _ _ _ h => h) (Or.inl ⟨by kernel_rfl, ?y10w0110_⟩) hHeld ?r10w0110_
          case y10w0110_ =>
            intro w hSw
            try dsimp only at hSw
            obtain ⟨e0, e1, e2, l0, l1, l2⟩ := hSw
            go_simp
            try with_reducible rfl
          try simp only [Act.put]
          refine wpAnyH_take (i := 11) (v := ?v11w0110_) rfl (by kernel_rfl) (by kernel_rfl) (by kernel_rfl) (fun _ _ _ h => h) (Or.inl ⟨by kernel_rfl, ?y11w0110_⟩) hHeld ?r11w0110_
          case y11w0110_ =>
            intro w hSw
            try dsimp only at hSw
            obtain ⟨e0, e1, e2, l0, l1, l2⟩ := hSw
            go_simp
            try with_reducible rfl
          try simp only [Act.put]
          refine wpAnyH_take (i := 12) (v := ?v12w0110_) rfl (by kernel_rfl) (by kernel_rfl) (by kernel_rfl) (fun _ _ _ h => h) (Or.inl ⟨by kernel_rfl, ?y12w0110_⟩) hHeld ?r12w0110_
          case y12w0110_ =>
            intro w hSw
            try dsimp only at hSw
            obtain ⟨e0, e1, e2, l0, l1, l2⟩ := hSw
            go_simp
            try with_reducible rfl
          try simp only [Act.put]
          refine wpAnyH_take (i := 14) (v := ?v14w0110_) rfl (by kernel_rfl) (by kernel_rfl) (by kernel_rfl) (fun _ _ _ h => h) (Or.inl ⟨by kernel_rfl, ?y14w0110_⟩) hHeld ?r14w0110_
          case y14w0110_ =>
            intro w hSw
            try dsimp only at hSw
            obtain ⟨e0, e1, e2, l0, l1, l2⟩ := hSw
            go_simp
            try with_reducible rfl
          try simp only [Act.put]
          refine wpAnyH_take (i := 15) (v := ?v15w0110_) rfl (by kernel_rfl) (by kernel_rfl) (by kernel_rfl) (fun _ _ _ h => h) (Or.inl ⟨by kernel_rfl, ?y15w0110_⟩) hHeld ?r15w0110_
          case y15w0110_ =>
            intro w hSw
            try dsimp only at hSw
            obtain ⟨e0, e1, e2, l0, l1, l2⟩ := hSw
            go_simp
            try with_reducible rfl
          try simp only [Act.put]
          refine wpAnyH_take (i := 16) (v := ?v16w0110_) rfl (by kernel_rfl) (by kernel_rfl) (by kernel_rfl) (fun _ _ _ h => h) (Or.inl ⟨by kernel_rfl, ?y16w0110_⟩) hHeld ?r16w0110_
          case y16w0110_ =>
            intro w hSw
            try dsimp only at hSw
            obtain ⟨e0, e1, e2, l0, l1, l2⟩ := hSw
            go_simp
            try with_reducible rfl
          try simp only [Act.put]
          refine wpAnyH_take (i := 17) (v := ?v17w0110_) rfl (by kernel_rfl) (by kernel_rfl) (by kernel_rfl) (fun _ _ _ h => h) (Or.inl ⟨by kernel_rfl, ?y17w0110_⟩) hHeld ?r17w0110_
          case y17w0110_ =>
            intro w hSw
            try dsimp only at hSw
            obtain ⟨e0, e1, e2, l0, l1, l2⟩ := hSw
            go_simp
            try with_reducible rfl
          try simp only [Act.put]
          refine wpAnyH_take (i := 18) (v := ?v18w0110_) rfl (by kernel_rfl) (by kernel_rfl) (by kernel_rfl) (fun _ _ _ h => h) (Or.inl ⟨by kernel_rfl, ?y18w0110_⟩) hHeld ?r18w0110_
          case y18w0110_ =>
            intro w hSw
            try dsimp only at hSw
            obtain ⟨e0, e1, e2, l0, l1, l2⟩ := hSw
            go_simp
            try with_reducible rfl
          try simp only [Act.put]
          refine wpAnyH_take (i := 19) (v := ?v19w0110_) rfl (by kernel_rfl) (by kernel_rfl) (by kernel_rfl) (fun _ _ _ h => h) (Or.inl ⟨by kernel_rfl, ?y19w0110_⟩) hHeld ?r19w0110_
          case y19w0110_ =>
            intro w hSw
            try dsimp only at hSw
            obtain ⟨e0, e1, e2, l0, l1, l2⟩ := hSw
            go_simp
            try with_reducible rfl
          try simp only [Act.put]
          refine wpAnyH_ready (rs := [13]) (by kernel_rfl) (by simp) ?_
          refine AllReadyH.cons (o := _) rfl (fun K hK => ?_) AllReadyH.nil
          go_simp
          refine (flag_k S1 p u0 (L) false _ (H1.drew) (by have := hHeld.1 0; simpa using this)).mono ?_
          rintro e w2 ⟨rfl, Hw2, hmw2⟩
          have hSw2 := keepK hHeld hmw2 HC.out
          try dsimp only
          refine hK.out _ _ ?_ (fun hHeld => ?_)
          · exact hSw2
          clear hK K
          try simp only [Act.put, List.setIfInBounds_toArray, List.set_cons_zero, List.set_cons_succ]
          refine wpAnyH_ready (rs := [20]) (by kernel_rfl) (by simp) ?_
          refine AllReadyH.cons (o := _) rfl (fun K hK => ?_) AllReadyH.nil
          go_simp
          refine (flag_k S1 p u0 (L ++ bit false) true _ Hw2 (by have := hHeld.1 0; simpa using this)).mono ?_
          rintro e w3 ⟨rfl, Hw3, hmw3⟩
          have hSw3 := keepK hHeld hmw3 HC.out
          try dsimp only
          refine hK.out _ _ ?_ (fun hHeld => ?_)
          · exact hSw3
          clear hK K
          try simp only [Act.put, List.setIfInBounds_toArray, List.set_cons_zero, List.set_cons_succ]
          refine wpAnyH_take (i := 21) (v := ?v21w0110_) rfl (by kernel_rfl) (by kernel_rfl) (by kernel_rfl) (fun _ _ _ h => h) (Or.inl ⟨by kernel_rfl, ?y21w0110_⟩) hHeld ?r21w0110_
          case y21w0110_ =>
            intro w hSw
            try dsimp only at hSw
            obtain ⟨e0, e1, e2, l0, l1, l2⟩ := hSw
            go_simp
            try with_reducible rfl
          try simp only [Act.put, List.setIfInBounds_toArray]
          refine wpAnyH_take (i := 22) (v := ?v22w0110_) rfl (by kernel_rfl) (by kernel_rfl) (by kernel_rfl) (fun _ _ _ h => h) (Or.inl ⟨by kernel_rfl, ?y22w0110_⟩) hHeld ?r22w0110_
          case y22w0110_ =>
            intro w hSw
            try dsimp only at hSw
            obtain ⟨e0, e1, e2, l0, l1, l2⟩ := hSw
            go_simp
            try with_reducible rfl
          try simp only [Act.put]
          refine wpAnyH_done (by kernel_rfl) ?_ _
          clear hHeld
          obtain ⟨c0, c1, c2, z0, z1, z2⟩ := id hSw3
          go_wp2_with fail
          refine (flag_k S1 p u0 (L ++ bit false ++ bit true) false _ Hw3 (by have := c0 0; simpa using this)).mono ?_
          rintro e w4 ⟨rfl, Hw4, hmw4⟩
          have hSw4 := keepK hSw3 hmw4 HC.out
          clear c0 c1 c2 z0 z1 z2 hSw3 Hw3
          obtain ⟨c0, c1, c2, z0, z1, z2⟩ := id hSw4
          go_wp2_with fail
          refine (vec_k S1 p (L ++ bit false ++ bit true ++ bit false) (M2 k 5) (M2 k 6) (M2 k 7) (M1 i 5) (M1 i 6) (M1 i 7) _ Hw4 (HK.out 5 (by decide) (by decide)) (HK.out 6 (by decide) (by decide)) (HK.out 7 (by decide) (by decide)) (HI.out 5 (by decide) (by decide)) (HI.out 6 (by decide) (by decide)) (HI.out 7 (by decide) (by decide))).mono ?_
          rintro e w5 ⟨rfl, Hw5, hmw5⟩
          have hSw5 := keepK hSw4 hmw5 HC.out
          clear c0 c1 c2 z0 z1 z2 hSw4 Hw4
          obtain ⟨c0, c1, c2, z0, z1, z2⟩ := id hSw5
          clear c0 c1 c2 z0 z1 z2
          go_wp2
          go_end0
          refine ⟨rfl, ?_⟩
          have e : L ++ bit false ++ bit true ++ bit false ++ vec3L (M2 k 5 - M1 i 5) (M2 k 6 - M1 i 6) (M2 k 7 - M1 i 7) = L ++ changeL M1 i M2 k := by
            unfold changeL neS vecD
            rw [HSS.out, HSA.out, HSV.out, HSK.out]
            simp [List.append_assoc]
          rw [← e]
          exact WfPost.back ⟨Hw5, (((((Mod.refl _ w1).drew.trans hmw2).trans hmw3).trans hmw4).trans hmw5)⟩ HSB.out HM1.out
      | false =>
        cases sV with
        | true =>
          refine wp_region_held_drew (S := fun w' => (∀ o, w'.cell? ⟨u0, o, none⟩ = (#[.pointer (some ⟨p, 0, none⟩)] : Array Value)[o]?) ∧ (∀ o, w'.cell? ⟨u1, o, none⟩ = (#[.int .i64 (M1 i 0), .int .i64 (M1 i 1), .int .i64 (M1 i 2), .int .i64 (M1 i 3), .int .i64 (M1 i 4), .int .i64 (M1 i 5), .int .i64 (M1 i 6), .int .i64 (M1 i 7), .int .i64 (M1 i 8), .int .i64 (M1 i 9), .int .i64 (M1 i 10)] : Array Value)[o]?) ∧ (∀ o, w'.cell? ⟨u2, o, none⟩ = (#[.int .i64 (M2 k 0), .int .i64 (M2 k 1), .int .i64 (M2 k 2), .int .i64 (M2 k 3), .int .i64 (M2 k 4), .int .i64 (M2 k 5), .int .i64 (M2 k 6), .int .i64 (M2 k 7), .int .i64 (M2 k 8), .int .i64 (M2 k 9), .int .i64 (M2 k 10)] : Array Value)[o]?) ∧ u0 < w'.heap.size ∧ u1 < w'.heap.size ∧ u2 < w'.heap.size) (by kernel_rfl) ?_ (fun hHeld => ?_)
          · exact keepK_drew hS1'
          refine wpAnyH_take (i := 0) (v := ?v0w0101_) rfl (by kernel_rfl) (by kernel_rfl) (by kernel_rfl) (fun _ _ _ h => h) (Or.inl ⟨by kernel_rfl, ?y0w0101_⟩) hHeld ?r0w0101_
          case y0w0101_ =>
            intro w hSw
            try dsimp only at hSw
            obtain ⟨e0, e1, e2, l0, l1, l2⟩ := hSw
            go_simp
            try with_reducible rfl
          try simp only [Act.put, List.setIfInBounds_toArray]
          refine wpAnyH_take (i := 1) (v := ?v1w0101_) rfl (by kernel_rfl) (by kernel_rfl) (by kernel_rfl) (fun _ _ _ h => h) (Or.inl ⟨by kernel_rfl, ?y1w0101_⟩) hHeld ?r1w0101_
          case y1w0101_ =>
            intro w hSw
            try dsimp only at hSw
            obtain ⟨e0, e1, e2, l0, l1, l2⟩ := hSw
            go_simp
            try with_reducible rfl
          try simp only [Act.put]
          refine wpAnyH_take (i := 2) (v := ?v2w0101_) rfl (by kernel_rfl) (by kernel_rfl) (by kernel_rfl) (fun _ _ _ h => h) (Or.inl ⟨by kernel_rfl, ?y2w0101_⟩) hHeld ?r2w0101_
          case y2w0101_ =>
            intro w hSw
            try dsimp only at hSw
            obtain ⟨e0, e1, e2, l0, l1, l2⟩ := hSw
            go_simp
            try with_reducible rfl
          try simp only [Act.put]
          refine wpAnyH_take (i := 3) (v := ?v3w0101_) rfl (by kernel_rfl) (by kernel_rfl) (by kernel_rfl) (fun _ _ _ h => h) (Or.inl ⟨by kernel_rfl, ?y3w0101_⟩) hHeld ?r3w0101_
          case y3w0101_ =>
            intro w hSw
            try dsimp only at hSw
            obtain ⟨e0, e1, e2, l0, l1, l2⟩ := hSw
            go_simp
            try with_reducible rfl
          try simp only [Act.put]
          refine wpAnyH_take (i := 4) (v := ?v4w0101_) rfl (by kernel_rfl) (by kernel_rfl) (by kernel_rfl) (fun _ _ _ h => h) (Or.inl ⟨by kernel_rfl, ?y4w0101_⟩) hHeld ?r4w0101_
          case y4w0101_ =>
            intro w hSw
            try dsimp only at hSw
            obtain ⟨e0, e1, e2, l0, l1, l2⟩ := hSw
            go_simp
            try with_reducible rfl
          try simp only [Act.put]
          refine wpAnyH_take (i := 5) (v := ?v5w0101_) rfl (by kernel_rfl) (by kernel_rfl) (by kernel_rfl) (fun _ _ _ h => h) (Or.inl ⟨by kernel_rfl, ?y5w0101_⟩) hHeld ?r5w0101_
          case y5w0101_ =>
            intro w hSw
            try dsimp only at hSw
            obtain ⟨e0, e1, e2, l0, l1, l2⟩ := hSw
            go_simp
            try with_reducible rfl
          try simp only [Act.put]
          refine wpAnyH_take (i := 6) (v := ?v6w0101_) rfl (by kernel_rfl) (by kernel_rfl) (by kernel_rfl) (fun _ _ _ h => h) (Or.inl ⟨by kernel_rfl, ?y6w0101_⟩) hHeld ?r6w0101_
          case y6w0101_ =>
            intro w hSw
            try dsimp only at hSw
            obtain ⟨e0, e1, e2, l0, l1, l2⟩ := hSw
            go_simp
            try with_reducible rfl
          try simp only [Act.put]
          refine wpAnyH_take (i := 7) (v := ?v7w0101_) rfl (by kernel_rfl) (by kernel_rfl) (by kernel_rfl) (fun _ _ _ h => h) (Or.inl ⟨by kernel_rfl, ?y7w0101_⟩) hHeld ?r7w0101_
          case y7w0101_ =>
            intro w hSw
            try dsimp only at hSw
            obtain ⟨e0, e1, e2, l0, l1, l2⟩ := hSw
            go_simp
            try with_reducible rfl
          try simp only [Act.put]
          refine wpAnyH_take (i := 8) (v := ?v8w0101_) rfl (by kernel_rfl) (by kernel_rfl) (by kernel_rfl) (fun _ _ _ h => h) (Or.inl ⟨by kernel_rfl, ?y8w0101_⟩) hHeld ?r8w0101_
          case y8w0101_ =>
            intro w hSw
            try dsimp only at hSw
            obtain ⟨e0, e1, e2, l0, l1, l2⟩ := hSw
            go_simp
            try with_reducible rfl
          try simp only [Act.put]
          refine wpAnyH_take (i := 9) (v := ?v9w0101_) rfl (by kernel_rfl) (by kernel_rfl) (by kernel_rfl) (fun _ _ _ h => h) (Or.inl ⟨by kernel_rfl, ?y9w0101_⟩) hHeld ?r9w0101_
          case y9w0101_ =>
            intro w hSw
            try dsimp only at hSw
            obtain ⟨e0, e1, e2, l0, l1, l2⟩ := hSw
            go_simp
            try with_reducible rfl
          try simp only [Act.put]
          refine wpAnyH_take (i := 10) (v := ?v10w0101_) rfl (by kernel_rfl) (by kernel_rfl) (by kernel_rfl) (fun _ _ _ h => h) (Or.inl ⟨by kernel_rfl, ?y10w0101_⟩) hHeld ?r10w0101_
          case y10w0101_ =>
            intro w hSw
            try dsimp only at hSw
            obtain ⟨e0, e1, e2, l0, l1, l2⟩ := hSw
            go_simp
            try with_reducible rfl
          try simp only [Act.put]
          refine wpAnyH_take (i := 11) (v := ?v11w0101_) rfl (by kernel_rfl) (by kernel_rfl) (by kernel_rfl) (fun _ _ _ h => h) (Or.inl ⟨by kernel_rfl, ?y11w0101_⟩) hHeld ?r11w0101_
          case y11w0101_ =>
            intro w hSw
            try dsimp only at hSw
            obtain ⟨e0, e1, e2, l0, l1, l2⟩ := hSw
            go_simp
            try with_reducible rfl
          try simp only [Act.put]
          refine wpAnyH_take (i := 12) (v := ?v12w0101_) rfl (by kernel_rfl) (by kernel_rfl) (by kernel_rfl) (fun _ _ _ h => h) (Or.inl ⟨by kernel_rfl, ?y12w0101_⟩) hHeld ?r12w0101_
          case y12w0101_ =>
            intro w hSw
            try dsimp only at hSw
            obtain ⟨e0, e1, e2, l0, l1, l2⟩ := hSw
            go_simp
            try with_reducible rfl
          try simp only [Act.put]
          refine wpAnyH_take (i := 14) (v := ?v14w0101_) rfl (by kernel_rfl) (by kernel_rfl) (by kernel_rfl) (fun _ _ _ h => h) (Or.inl ⟨by kernel_rfl, ?y14w0101_⟩) hHeld ?r14w0101_
          case y14w0101_ =>
            intro w hSw
            try dsimp only at hSw
            obtain ⟨e0, e1, e2, l0, l1, l2⟩ := hSw
            go_simp
            try with_reducible rfl
          try simp only [Act.put]
          refine wpAnyH_take (i := 15) (v := ?v15w0101_) rfl (by kernel_rfl) (by kernel_rfl) (by kernel_rfl) (fun _ _ _ h => h) (Or.inl ⟨by kernel_rfl, ?y15w0101_⟩) hHeld ?r15w0101_
          case y15w0101_ =>
            intro w hSw
            try dsimp only at hSw
            obtain ⟨e0, e1, e2, l0, l1, l2⟩ := hSw
            go_simp
            try with_reducible rfl
          try simp only [Act.put]
          refine wpAnyH_take (i := 16) (v := ?v16w0101_) rfl (by kernel_rfl) (by kernel_rfl) (by kernel_rfl) (fun _ _ _ h => h) (Or.inl ⟨by kernel_rfl, ?y16w0101_⟩) hHeld ?r16w0101_
          case y16w0101_ =>
            intro w hSw
            try dsimp only at hSw
            obtain ⟨e0, e1, e2, l0, l1, l2⟩ := hSw
            go_simp
            try with_reducible rfl
          try simp only [Act.put]
          refine wpAnyH_take (i := 17) (v := ?v17w0101_) rfl (by kernel_rfl) (by kernel_rfl) (by kernel_rfl) (fun _ _ _ h => h) (Or.inl ⟨by kernel_rfl, ?y17w0101_⟩) hHeld ?r17w0101_
          case y17w0101_ =>
            intro w hSw
            try dsimp only at hSw
            obtain ⟨e0, e1, e2, l0, l1, l2⟩ := hSw
            go_simp
            try with_reducible rfl
          try simp only [Act.put]
          refine wpAnyH_take (i := 18) (v := ?v18w0101_) rfl (by kernel_rfl) (by kernel_rfl) (by kernel_rfl) (fun _ _ _ h => h) (Or.inl ⟨by kernel_rfl, ?y18w0101_⟩) hHeld ?r18w0101_
          case y18w0101_ =>
            intro w hSw
            try dsimp only at hSw
            obtain ⟨e0, e1, e2, l0, l1, l2⟩ := hSw
            go_simp
            try with_reducible rfl
          try simp only [Act.put]
          refine wpAnyH_take (i := 19) (v := ?v19w0101_) rfl (by kernel_rfl) (by kernel_rfl) (by kernel_rfl) (fun _ _ _ h => h) (Or.inl ⟨by kernel_rfl, ?y19w0101_⟩) hHeld ?r19w0101_
          case y19w0101_ =>
            intro w hSw
            try dsimp only at hSw
            obtain ⟨e0, e1, e2, l0, l1, l2⟩ := hSw
            go_simp
            try with_reducible rfl
          try simp only [Act.put]
          refine wpAnyH_ready (rs := [13]) (by kernel_rfl) (by simp) ?_
          refine AllReadyH.cons (o := _) rfl (fun K hK => ?_) AllReadyH.nil
          go_simp
          refine (flag_k S1 p u0 (L) false _ (H1.drew) (by have := hHeld.1 0; simpa using this)).mono ?_
          rintro e w2 ⟨rfl, Hw2, hmw2⟩
          have hSw2 := keepK hHeld hmw2 HC.out
          try dsimp only
          refine hK.out _ _ ?_ (fun hHeld => ?_)
          · exact hSw2
          clear hK K
          try simp only [Act.put, List.setIfInBounds_toArray, List.set_cons_zero, List.set_cons_succ]
          refine wpAnyH_ready (rs := [20]) (by kernel_rfl) (by simp) ?_
          refine AllReadyH.cons (o := _) rfl (fun K hK => ?_) AllReadyH.nil
          go_simp
          refine (flag_k S1 p u0 (L ++ bit false) false _ Hw2 (by have := hHeld.1 0; simpa using this)).mono ?_
          rintro e w3 ⟨rfl, Hw3, hmw3⟩
          have hSw3 := keepK hHeld hmw3 HC.out
          try dsimp only
          refine hK.out _ _ ?_ (fun hHeld => ?_)
          · exact hSw3
          clear hK K
          try simp only [Act.put, List.setIfInBounds_toArray, List.set_cons_zero, List.set_cons_succ]
          refine wpAnyH_take (i := 21) (v := ?v21w0101_) rfl (by kernel_rfl) (by kernel_rfl) (by kernel_rfl) (fun _ _ _ h => h) (Or.inl ⟨by kernel_rfl, ?y21w0101_⟩) hHeld ?r21w0101_
          case y21w0101_ =>
            intro w hSw
            try dsimp only at hSw
            obtain ⟨e0, e1, e2, l0, l1, l2⟩ := hSw
            go_simp
            try with_reducible rfl
          try simp only [Act.put, List.setIfInBounds_toArray]
          refine wpAnyH_take (i := 22) (v := ?v22w0101_) rfl (by kernel_rfl) (by kernel_rfl) (by kernel_rfl) (fun _ _ _ h => h) (Or.inl ⟨by kernel_rfl, ?y22w0101_⟩) hHeld ?r22w0101_
          case y22w0101_ =>
            intro w hSw
            try dsimp only at hSw
            obtain ⟨e0, e1, e2, l0, l1, l2⟩ := hSw
            go_simp
            try with_reducible rfl
          try simp only [Act.put]
          refine wpAnyH_done (by kernel_rfl) ?_ _
          clear hHeld
          obtain ⟨c0, c1, c2, z0, z1, z2⟩ := id hSw3
          go_wp2_with fail
          refine (flag_k S1 p u0 (L ++ bit false ++ bit false) true _ Hw3 (by have := c0 0; simpa using this)).mono ?_
          rintro e w4 ⟨rfl, Hw4, hmw4⟩
          have hSw4 := keepK hSw3 hmw4 HC.out
          clear c0 c1 c2 z0 z1 z2 hSw3 Hw3
          obtain ⟨c0, c1, c2, z0, z1, z2⟩ := id hSw4
          go_wp2_with fail
          refine (vec_k S1 p (L ++ bit false ++ bit false ++ bit true) (M2 k 8) (M2 k 9) (M2 k 10) (M1 i 8) (M1 i 9) (M1 i 10) _ Hw4 (HK.out 8 (by decide) (by decide)) (HK.out 9 (by decide) (by decide)) (HK.out 10 (by decide) (by decide)) (HI.out 8 (by decide) (by decide)) (HI.out 9 (by decide) (by decide)) (HI.out 10 (by decide) (by decide))).mono ?_
          rintro e w5 ⟨rfl, Hw5, hmw5⟩
          have hSw5 := keepK hSw4 hmw5 HC.out
          clear c0 c1 c2 z0 z1 z2 hSw4 Hw4
          obtain ⟨c0, c1, c2, z0, z1, z2⟩ := id hSw5
          clear c0 c1 c2 z0 z1 z2
          go_wp2
          go_end0
          refine ⟨rfl, ?_⟩
          have e : L ++ bit false ++ bit false ++ bit true ++ vec3L (M2 k 8 - M1 i 8) (M2 k 9 - M1 i 9) (M2 k 10 - M1 i 10) = L ++ changeL M1 i M2 k := by
            unfold changeL neS vecD
            rw [HSS.out, HSA.out, HSV.out, HSK.out]
            simp [List.append_assoc]
          rw [← e]
          exact WfPost.back ⟨Hw5, (((((Mod.refl _ w1).drew.trans hmw2).trans hmw3).trans hmw4).trans hmw5)⟩ HSB.out HM1.out
        | false =>
          refine wp_region_held_drew (S := fun w' => (∀ o, w'.cell? ⟨u0, o, none⟩ = (#[.pointer (some ⟨p, 0, none⟩)] : Array Value)[o]?) ∧ (∀ o, w'.cell? ⟨u1, o, none⟩ = (#[.int .i64 (M1 i 0), .int .i64 (M1 i 1), .int .i64 (M1 i 2), .int .i64 (M1 i 3), .int .i64 (M1 i 4), .int .i64 (M1 i 5), .int .i64 (M1 i 6), .int .i64 (M1 i 7), .int .i64 (M1 i 8), .int .i64 (M1 i 9), .int .i64 (M1 i 10)] : Array Value)[o]?) ∧ (∀ o, w'.cell? ⟨u2, o, none⟩ = (#[.int .i64 (M2 k 0), .int .i64 (M2 k 1), .int .i64 (M2 k 2), .int .i64 (M2 k 3), .int .i64 (M2 k 4), .int .i64 (M2 k 5), .int .i64 (M2 k 6), .int .i64 (M2 k 7), .int .i64 (M2 k 8), .int .i64 (M2 k 9), .int .i64 (M2 k 10)] : Array Value)[o]?) ∧ u0 < w'.heap.size ∧ u1 < w'.heap.size ∧ u2 < w'.heap.size) (by kernel_rfl) ?_ (fun hHeld => ?_)
          · exact keepK_drew hS1'
          refine wpAnyH_take (i := 0) (v := ?v0w0100_) rfl (by kernel_rfl) (by kernel_rfl) (by kernel_rfl) (fun _ _ _ h => h) (Or.inl ⟨by kernel_rfl, ?y0w0100_⟩) hHeld ?r0w0100_
          case y0w0100_ =>
            intro w hSw
            try dsimp only at hSw
            obtain ⟨e0, e1, e2, l0, l1, l2⟩ := hSw
            go_simp
            try with_reducible rfl
          try simp only [Act.put, List.setIfInBounds_toArray]
          refine wpAnyH_take (i := 1) (v := ?v1w0100_) rfl (by kernel_rfl) (by kernel_rfl) (by kernel_rfl) (fun _ _ _ h => h) (Or.inl ⟨by kernel_rfl, ?y1w0100_⟩) hHeld ?r1w0100_
          case y1w0100_ =>
            intro w hSw
            try dsimp only at hSw
            obtain ⟨e0, e1, e2, l0, l1, l2⟩ := hSw
            go_simp
            try with_reducible rfl
          try simp only [Act.put]
          refine wpAnyH_take (i := 2) (v := ?v2w0100_) rfl (by kernel_rfl) (by kernel_rfl) (by kernel_rfl) (fun _ _ _ h => h) (Or.inl ⟨by kernel_rfl, ?y2w0100_⟩) hHeld ?r2w0100_
          case y2w0100_ =>
            intro w hSw
            try dsimp only at hSw
            obtain ⟨e0, e1, e2, l0, l1, l2⟩ := hSw
            go_simp
            try with_reducible rfl
          try simp only [Act.put]
          refine wpAnyH_take (i := 3) (v := ?v3w0100_) rfl (by kernel_rfl) (by kernel_rfl) (by kernel_rfl) (fun _ _ _ h => h) (Or.inl ⟨by kernel_rfl, ?y3w0100_⟩) hHeld ?r3w0100_
          case y3w0100_ =>
            intro w hSw
            try dsimp only at hSw
            obtain ⟨e0, e1, e2, l0, l1, l2⟩ := hSw
            go_simp
            try with_reducible rfl
          try simp only [Act.put]
          refine wpAnyH_take (i := 4) (v := ?v4w0100_) rfl (by kernel_rfl) (by kernel_rfl) (by kernel_rfl) (fun _ _ _ h => h) (Or.inl ⟨by kernel_rfl, ?y4w0100_⟩) hHeld ?r4w0100_
          case y4w0100_ =>
            intro w hSw
            try dsimp only at hSw
            obtain ⟨e0, e1, e2, l0, l1, l2⟩ := hSw
            go_simp
            try with_reducible rfl
          try simp only [Act.put]
          refine wpAnyH_take (i := 5) (v := ?v5w0100_) rfl (by kernel_rfl) (by kernel_rfl) (by kernel_rfl) (fun _ _ _ h => h) (Or.inl ⟨by kernel_rfl, ?y5w0100_⟩) hHeld ?r5w0100_
          case y5w0100_ =>
            intro w hSw
            try dsimp only at hSw
            obtain ⟨e0, e1, e2, l0, l1, l2⟩ := hSw
            go_simp
            try with_reducible rfl
          try simp only [Act.put]
          refine wpAnyH_take (i := 6) (v := ?v6w0100_) rfl (by kernel_rfl) (by kernel_rfl) (by kernel_rfl) (fun _ _ _ h => h) (Or.inl ⟨by kernel_rfl, ?y6w0100_⟩) hHeld ?r6w0100_
          case y6w0100_ =>
            intro w hSw
            try dsimp only at hSw
            obtain ⟨e0, e1, e2, l0, l1, l2⟩ := hSw
            go_simp
            try with_reducible rfl
          try simp only [Act.put]
          refine wpAnyH_take (i := 7) (v := ?v7w0100_) rfl (by kernel_rfl) (by kernel_rfl) (by kernel_rfl) (fun _ _ _ h => h) (Or.inl ⟨by kernel_rfl, ?y7w0100_⟩) hHeld ?r7w0100_
          case y7w0100_ =>
            intro w hSw
            try dsimp only at hSw
            obtain ⟨e0, e1, e2, l0, l1, l2⟩ := hSw
            go_simp
            try with_reducible rfl
          try simp only [Act.put]
          refine wpAnyH_take (i := 8) (v := ?v8w0100_) rfl (by kernel_rfl) (by kernel_rfl) (by kernel_rfl) (fun _ _ _ h => h) (Or.inl ⟨by kernel_rfl, ?y8w0100_⟩) hHeld ?r8w0100_
          case y8w0100_ =>
            intro w hSw
            try dsimp only at hSw
            obtain ⟨e0, e1, e2, l0, l1, l2⟩ := hSw
            go_simp
            try with_reducible rfl
          try simp only [Act.put]
          refine wpAnyH_take (i := 9) (v := ?v9w0100_) rfl (by kernel_rfl) (by kernel_rfl) (by kernel_rfl) (fun _ _ _ h => h) (Or.inl ⟨by kernel_rfl, ?y9w0100_⟩) hHeld ?r9w0100_
          case y9w0100_ =>
            intro w hSw
            try dsimp only at hSw
            obtain ⟨e0, e1, e2, l0, l1, l2⟩ := hSw
            go_simp
            try with_reducible rfl
          try simp only [Act.put]
          refine wpAnyH_take (i := 10) (v := ?v10w0100_) rfl (by kernel_rfl) (by kernel_rfl) (by kernel_rfl) (fun _ _ _ h => h) (Or.inl ⟨by kernel_rfl, ?y10w0100_⟩) hHeld ?r10w0100_
          case y10w0100_ =>
            intro w hSw
            try dsimp only at hSw
            obtain ⟨e0, e1, e2, l0, l1, l2⟩ := hSw
            go_simp
            try with_reducible rfl
          try simp only [Act.put]
          refine wpAnyH_take (i := 11) (v := ?v11w0100_) rfl (by kernel_rfl) (by kernel_rfl) (by kernel_rfl) (fun _ _ _ h => h) (Or.inl ⟨by kernel_rfl, ?y11w0100_⟩) hHeld ?r11w0100_
          case y11w0100_ =>
            intro w hSw
            try dsimp only at hSw
            obtain ⟨e0, e1, e2, l0, l1, l2⟩ := hSw
            go_simp
            try with_reducible rfl
          try simp only [Act.put]
          refine wpAnyH_take (i := 12) (v := ?v12w0100_) rfl (by kernel_rfl) (by kernel_rfl) (by kernel_rfl) (fun _ _ _ h => h) (Or.inl ⟨by kernel_rfl, ?y12w0100_⟩) hHeld ?r12w0100_
          case y12w0100_ =>
            intro w hSw
            try dsimp only at hSw
            obtain ⟨e0, e1, e2, l0, l1, l2⟩ := hSw
            go_simp
            try with_reducible rfl
          try simp only [Act.put]
          refine wpAnyH_take (i := 14) (v := ?v14w0100_) rfl (by kernel_rfl) (by kernel_rfl) (by kernel_rfl) (fun _ _ _ h => h) (Or.inl ⟨by kernel_rfl, ?y14w0100_⟩) hHeld ?r14w0100_
          case y14w0100_ =>
            intro w hSw
            try dsimp only at hSw
            obtain ⟨e0, e1, e2, l0, l1, l2⟩ := hSw
            go_simp
            try with_reducible rfl
          try simp only [Act.put]
          refine wpAnyH_take (i := 15) (v := ?v15w0100_) rfl (by kernel_rfl) (by kernel_rfl) (by kernel_rfl) (fun _ _ _ h => h) (Or.inl ⟨by kernel_rfl, ?y15w0100_⟩) hHeld ?r15w0100_
          case y15w0100_ =>
            intro w hSw
            try dsimp only at hSw
            obtain ⟨e0, e1, e2, l0, l1, l2⟩ := hSw
            go_simp
            try with_reducible rfl
          try simp only [Act.put]
          refine wpAnyH_take (i := 16) (v := ?v16w0100_) rfl (by kernel_rfl) (by kernel_rfl) (by kernel_rfl) (fun _ _ _ h => h) (Or.inl ⟨by kernel_rfl, ?y16w0100_⟩) hHeld ?r16w0100_
          case y16w0100_ =>
            intro w hSw
            try dsimp only at hSw
            obtain ⟨e0, e1, e2, l0, l1, l2⟩ := hSw
            go_simp
            try with_reducible rfl
          try simp only [Act.put]
          refine wpAnyH_take (i := 17) (v := ?v17w0100_) rfl (by kernel_rfl) (by kernel_rfl) (by kernel_rfl) (fun _ _ _ h => h) (Or.inl ⟨by kernel_rfl, ?y17w0100_⟩) hHeld ?r17w0100_
          case y17w0100_ =>
            intro w hSw
            try dsimp only at hSw
            obtain ⟨e0, e1, e2, l0, l1, l2⟩ := hSw
            go_simp
            try with_reducible rfl
          try simp only [Act.put]
          refine wpAnyH_take (i := 18) (v := ?v18w0100_) rfl (by kernel_rfl) (by kernel_rfl) (by kernel_rfl) (fun _ _ _ h => h) (Or.inl ⟨by kernel_rfl, ?y18w0100_⟩) hHeld ?r18w0100_
          case y18w0100_ =>
            intro w hSw
            try dsimp only at hSw
            obtain ⟨e0, e1, e2, l0, l1, l2⟩ := hSw
            go_simp
            try with_reducible rfl
          try simp only [Act.put]
          refine wpAnyH_take (i := 19) (v := ?v19w0100_) rfl (by kernel_rfl) (by kernel_rfl) (by kernel_rfl) (fun _ _ _ h => h) (Or.inl ⟨by kernel_rfl, ?y19w0100_⟩) hHeld ?r19w0100_
          case y19w0100_ =>
            intro w hSw
            try dsimp only at hSw
            obtain ⟨e0, e1, e2, l0, l1, l2⟩ := hSw
            go_simp
            try with_reducible rfl
          try simp only [Act.put]
          refine wpAnyH_ready (rs := [13]) (by kernel_rfl) (by simp) ?_
          refine AllReadyH.cons (o := _) rfl (fun K hK => ?_) AllReadyH.nil
          go_simp
          refine (flag_k S1 p u0 (L) false _ (H1.drew) (by have := hHeld.1 0; simpa using this)).mono ?_
          rintro e w2 ⟨rfl, Hw2, hmw2⟩
          have hSw2 := keepK hHeld hmw2 HC.out
          try dsimp only
          refine hK.out _ _ ?_ (fun hHeld => ?_)
          · exact hSw2
          clear hK K
          try simp only [Act.put, List.setIfInBounds_toArray, List.set_cons_zero, List.set_cons_succ]
          refine wpAnyH_ready (rs := [20]) (by kernel_rfl) (by simp) ?_
          refine AllReadyH.cons (o := _) rfl (fun K hK => ?_) AllReadyH.nil
          go_simp
          refine (flag_k S1 p u0 (L ++ bit false) false _ Hw2 (by have := hHeld.1 0; simpa using this)).mono ?_
          rintro e w3 ⟨rfl, Hw3, hmw3⟩
          have hSw3 := keepK hHeld hmw3 HC.out
          try dsimp only
          refine hK.out _ _ ?_ (fun hHeld => ?_)
          · exact hSw3
          clear hK K
          try simp only [Act.put, List.setIfInBounds_toArray, List.set_cons_zero, List.set_cons_succ]
          refine wpAnyH_take (i := 21) (v := ?v21w0100_) rfl (by kernel_rfl) (by kernel_rfl) (by kernel_rfl) (fun _ _ _ h => h) (Or.inl ⟨by kernel_rfl, ?y21w0100_⟩) hHeld ?r21w0100_
          case y21w0100_ =>
            intro w hSw
            try dsimp only at hSw
            obtain ⟨e0, e1, e2, l0, l1, l2⟩ := hSw
            go_simp
            try with_reducible rfl
          try simp only [Act.put, List.setIfInBounds_toArray]
          refine wpAnyH_take (i := 22) (v := ?v22w0100_) rfl (by kernel_rfl) (by kernel_rfl) (by kernel_rfl) (fun _ _ _ h => h) (Or.inl ⟨by kernel_rfl, ?y22w0100_⟩) hHeld ?r22w0100_
          case y22w0100_ =>
            intro w hSw
            try dsimp only at hSw
            obtain ⟨e0, e1, e2, l0, l1, l2⟩ := hSw
            go_simp
            try with_reducible rfl
          try simp only [Act.put]
          refine wpAnyH_done (by kernel_rfl) ?_ _
          clear hHeld
          obtain ⟨c0, c1, c2, z0, z1, z2⟩ := id hSw3
          go_wp2_with fail
          refine (flag_k S1 p u0 (L ++ bit false ++ bit false) false _ Hw3 (by have := c0 0; simpa using this)).mono ?_
          rintro e w4 ⟨rfl, Hw4, hmw4⟩
          have hSw4 := keepK hSw3 hmw4 HC.out
          clear c0 c1 c2 z0 z1 z2 hSw3 Hw3
          obtain ⟨c0, c1, c2, z0, z1, z2⟩ := id hSw4
          clear c0 c1 c2 z0 z1 z2
          go_wp2
          go_end0
          refine ⟨rfl, ?_⟩
          have e : L ++ bit false ++ bit false ++ bit false = L ++ changeL M1 i M2 k := by
            unfold changeL neS vecD
            rw [HSS.out, HSA.out, HSV.out, HSK.out]
            simp [List.append_assoc]
          rw [← e]
          exact WfPost.back ⟨Hw4, ((((Mod.refl _ w1).drew.trans hmw2).trans hmw3).trans hmw4)⟩ HSB.out HM1.out

end Go.Proofs.Ytefhmbmbhiehdaa
