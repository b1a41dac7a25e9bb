/- Proved: Rows.SolveSpeedsSaid: the speeds that touches give bodies are the document's. Conditions: none. -/
import Derived.Test.YtfagkbmphohelaaSolve14
import Derived.Test.YtfagkbmphohelaaSolve15
import Derived.Test.YtfagkbmphohelaaSolve9
import Derived.Test.YtfagkbmphohelaaLift
import Derived.Test.YtfagkbmphohelaaOpen
import Derived.Deep.RegionHeld3
namespace Go.Proofs.Ytfagkbmphohelaa
open Go.ChangeShapes Go.WideShapes Go.ChangeAt Go.RowKit Go.BigFrame

theorem rspeeds_c (M T : Nat → Nat → Int) (B1 B2 : Option Addr) (n cap0 m cap2 : Nat) (bo ru ro : Int) (w : World) (hR : Reads w B1 n 17 M) (hA0 : B1 = none → n = 0 ∧ cap0 = 0) (hn : n ≤ 1000000) (hRT : Reads w B2 m 6 T) (hm : m ≤ 1000000) :
    Calls Try.prog 81 #[.slice B1 n cap0, .slice B2 m cap2, .agg #[.int .i64 bo, .int .i64 ru, .int .i64 ro]] w fun e w' => ∃ A cap, e = .returned (.slice A n cap) ∧ OwnB w.heap.size w' A n (speedsF M T n m bo ru ro) ∧ Below w.heap.size w w' := by
  by_cases hr : RightL bo ru ro
  · obtain ⟨R, rfl⟩ : ∃ R : Nat, ro = R := ⟨ro.toNat, by have := hr.2.2.1; omega⟩
    unfold speedsF
    rw [if_pos hr, Int.toNat_natCast]
    exact rspeeds_1 M T B1 B2 n cap0 m cap2 R bo ru w hR hA0 hn hRT hm (Lib.hid hr) hr.1 (by have := hr.2.2.2; omega)
  · unfold speedsF
    rw [if_neg hr]
    exact rspeeds_0 M T B1 B2 n cap0 m cap2 bo ru ro w hR hA0 hn (Lib.hid hr)

section
variable {w w' : World}
theorem keepS {w w0 w1 : World} {b b' : Nat} {cs cs' : Array Value} (h : (∀ o, w0.cell? ⟨b, o, none⟩ = cs[o]?) ∧ (∀ o, w0.cell? ⟨b', o, none⟩ = cs'[o]?) ∧ b < w0.heap.size ∧ b' < w0.heap.size ∧ Below w.heap.size w w0) (hb : Below w0.heap.size w0 w1) :
    (∀ o, w1.cell? ⟨b, o, none⟩ = cs[o]?) ∧ (∀ o, w1.cell? ⟨b', o, none⟩ = cs'[o]?) ∧ b < w1.heap.size ∧ b' < w1.heap.size ∧ Below w.heap.size w w1 :=
  ⟨fun o => (hb.cell (p := ⟨b, o, none⟩) h.2.2.1).trans (h.1 o), fun o => (hb.cell (p := ⟨b', o, none⟩) h.2.2.2.1).trans (h.2.1 o), Nat.lt_of_lt_of_le h.2.2.1 hb.size, Nat.lt_of_lt_of_le h.2.2.2.1 hb.size, ext_below h.2.2.2.2 hb⟩
theorem keepS_drewN {w w0 : World} {b b' : Nat} {cs cs' : Array Value} (h : (∀ o, w0.cell? ⟨b, o, none⟩ = cs[o]?) ∧ (∀ o, w0.cell? ⟨b', o, none⟩ = cs'[o]?) ∧ b < w0.heap.size ∧ b' < w0.heap.size ∧ Below w.heap.size w w0) (n : Nat) :
    (∀ o, (w0.drewN n).cell? ⟨b, o, none⟩ = cs[o]?) ∧ (∀ o, (w0.drewN n).cell? ⟨b', o, none⟩ = cs'[o]?) ∧ b < (w0.drewN n).heap.size ∧ b' < (w0.drewN n).heap.size ∧ Below w.heap.size w (w0.drewN n) := keepS h (ext_drewN (Below.refl _ _) n)
theorem keepS_drew {w w0 : World} {b b' : Nat} {cs cs' : Array Value} (h : (∀ o, w0.cell? ⟨b, o, none⟩ = cs[o]?) ∧ (∀ o, w0.cell? ⟨b', o, none⟩ = cs'[o]?) ∧ b < w0.heap.size ∧ b' < w0.heap.size ∧ Below w.heap.size w w0) :
    (∀ o, w0.drew.cell? ⟨b, o, none⟩ = cs[o]?) ∧ (∀ o, w0.drew.cell? ⟨b', o, none⟩ = cs'[o]?) ∧ b < w0.drew.heap.size ∧ b' < w0.drew.heap.size ∧ Below w.heap.size w w0.drew := keepS h (Below.refl _ _).drew
theorem keepR {w w0 : World} {b b' n' c : Nat} {A' : Option Addr} {M' : Nat → Nat → Int} {cs cs' : Array Value} (h : (∀ o, w0.cell? ⟨b, o, none⟩ = cs[o]?) ∧ (∀ o, w0.cell? ⟨b', o, none⟩ = cs'[o]?) ∧ b < w0.heap.size ∧ b' < w0.heap.size ∧ Below w.heap.size w w0) (r : Reads w A' n' c M') : Reads w0 A' n' c M' := r.below h.2.2.2.2
end
set_option maxRecDepth 100000 in
set_option maxHeartbeats 8000000 in
theorem solveSpeeds_w (A0 : Option Addr) (n0 c0 : Nat) (M0 : Nat → Nat → Int) (A1 : Option Addr) (n1 c1 : Nat) (M1 : Nat → Nat → Int) (bo ru ro : Int) (w : World) (_hn0 : n0 ≤ maxLen) (hR0 : Reads w A0 n0 17 M0) (_ : ∀ i j, -9223372036854775808 ≤ M0 i j ∧ M0 i j ≤ 9223372036854775807) (hZ0 : A0 = none → n0 = 0 ∧ c0 = 0)
    (_hn1 : n1 ≤ maxLen) (hR1 : Reads w A1 n1 6 M1) (_ : ∀ i j, -9223372036854775808 ≤ M1 i j ∧ M1 i j ≤ 9223372036854775807) (_hZ1 : A1 = none → n1 = 0 ∧ c1 = 0) :
    Calls Try.prog 12 #[.slice A0 n0 c0, .slice A1 n1 c1, .agg #[.int .i64 bo, .int .i64 ru, .int .i64 ro]] w fun e w' => e = .returned (.bool true) ∧ Below w.heap.size w w' := by
  by_cases h0 : 30 < n0
  · go_enter Try.func12, Try.ntmps12
    go_wp2
    go_ret
    exact ⟨rfl, (by repeat (with_reducible (first | exact Below.refl _ _ | assumption | apply ext_drew | apply ext_drewN | apply ext_alloc | apply ext_more | (refine ext_setCell ?_ (by first | assumption | (simp <;> omega)) _) | (refine ext_below ?_ (by assumption)))))⟩
  by_cases h1 : 60 < n1
  · go_enter Try.func12, Try.ntmps12
    go_wp2
    go_ret
    exact ⟨rfl, (by repeat (with_reducible (first | exact Below.refl _ _ | assumption | apply ext_drew | apply ext_drewN | apply ext_alloc | apply ext_more | (refine ext_setCell ?_ (by first | assumption | (simp <;> omega)) _) | (refine ext_below ?_ (by assumption)))))⟩
  go_enter Try.func12, Try.ntmps12
  go_wp2_with fail
  refine calls_here ?_
  rintro w1 hb1
  have L1 : Blk w1 w.heap.size #[.int .i64 bo, .int .i64 ru, .int .i64 ro] := Blk.below (by repeat (with_reducible (first | assumption | (apply Blk.at; simp; done) | apply Blk.alloc | apply Blk.drew | apply Blk.drewN | apply Blk.more | apply Blk.put | (apply Blk.far; focus (first | assumption | (apply Ne.symm; assumption) | (simp; done) | (simp <;> omega)))))) hb1
  have hB1 : Below w.heap.size w w1 := (by repeat (with_reducible (first | exact Below.refl _ _ | assumption | apply ext_drew | apply ext_drewN | apply ext_alloc | apply ext_more | (refine ext_setCell ?_ (by first | assumption | (simp <;> omega)) _) | (refine ext_below ?_ (by assumption)))))
  refine (alone_c M0 A0 n0 c0 _ (by omega) (hR0.below hB1)).mono ?_
  rintro e w2 ⟨⟨b, rfl⟩, hb2⟩
  have hB2 : Below w.heap.size w w2 := hB1.trans (hb2.mono hB1.size)
  have L2 : Blk w2 w.heap.size #[.int .i64 bo, .int .i64 ru, .int .i64 ro] := L1.below hb2
  clear L1 hB1 hb1 hb2
  obtain ⟨zl, cl, fl⟩ := id L2
  cases b with
  | false =>
    go_wp2
    go_ret
    exact ⟨rfl, hB2⟩
  | true =>
    go_wp2_with fail
    refine wp_fresh ?_
    rintro w3 hb3
    have L3 : Blk w3 w.heap.size #[.int .i64 bo, .int .i64 ru, .int .i64 ro] := Blk.below (by repeat (with_reducible (first | assumption | (apply Blk.at; simp; done) | apply Blk.alloc | apply Blk.drew | apply Blk.drewN | apply Blk.more | apply Blk.put | (apply Blk.far; focus (first | assumption | (apply Ne.symm; assumption) | (simp; done) | (simp <;> omega)))))) hb3
    have P3 : Blk w3 w2.heap.size #[.int .i64 bo, .int .i64 ru, .int .i64 ro] := Blk.below (by repeat (with_reducible (first | assumption | (apply Blk.at; simp; done) | apply Blk.alloc | apply Blk.drew | apply Blk.drewN | apply Blk.more | apply Blk.put | (apply Blk.far; focus (first | assumption | (apply Ne.symm; assumption) | (simp; done) | (simp <;> omega)))))) hb3
    have hB3 : Below w.heap.size w w3 := (by repeat (with_reducible (first | exact Below.refl _ _ | assumption | apply ext_drew | apply ext_drewN | apply ext_alloc | apply ext_more | (refine ext_setCell ?_ (by first | assumption | (simp <;> omega)) _) | (refine ext_below ?_ (by assumption)))))
    clear L2 hB2 zl cl fl hb3
    have hR3 := hR0.below hB3
    have hS3 := hR1.below hB3
    obtain ⟨zl, cl, fl⟩ := id L3
    obtain ⟨zp, cp, fp⟩ := id P3
    obtain ⟨d, hd⟩ : ∃ d, decide (RightL bo ru ro) = d := ⟨_, rfl⟩
    have HD := Lib.hid hd
    clear hd
    obtain ⟨hq1, hq2⟩ : n0 ≤ 1000000 ∧ n1 ≤ 1000000 := by omega
    have hS3' : (∀ o, w3.cell? ⟨w.heap.size, o, none⟩ = (#[.int .i64 bo, .int .i64 ru, .int .i64 ro] : Array Value)[o]?) ∧ (∀ o, w3.cell? ⟨w2.heap.size, o, none⟩ = (#[.int .i64 bo, .int .i64 ru, .int .i64 ro] : Array Value)[o]?) ∧ w.heap.size < w3.heap.size ∧ w2.heap.size < w3.heap.size ∧ Below w3.heap.size w3 w3 := ⟨cl, cp, zl, zp, Below.refl _ _⟩
    go_region_held3 (fun w' => (∀ o, w'.cell? ⟨w.heap.size, o, none⟩ = (#[.int .i64 bo, .int .i64 ru, .int .i64 ro] : Array Value)[o]?) ∧ (∀ o, w'.cell? ⟨w2.heap.size, o, none⟩ = (#[.int .i64 bo, .int .i64 ru, .int .i64 ro] : Array Value)[o]?) ∧ w.heap.size < w'.heap.size ∧ w2.heap.size < w'.heap.size ∧ Below w3.heap.size w3 w')
      (first | assumption | (with_reducible exact keepS_drewN (by assumption) _) | (with_reducible exact keepS_drew (by assumption)))
      (first
        | (go_at_call 78; refine (right_c bo ru ro _).mono ?_; rintro e w4 ⟨rfl, hb4⟩; rw [HD.out]; have hS4 := keepS (by assumption) hb4)
        | (go_at_call 79; refine (rright_c bo ru ro _).mono ?_; rintro e w5 ⟨rfl, hb5⟩; rw [HD.out]; have hS5 := keepS (by assumption) hb5)
        | (go_at_call 80; go_must (refine (speeds_c M0 M1 A0 A1 n0 c0 n1 c1 bo ru ro _ (keepR (by assumption) hR3) hZ0 hq1 (keepR (by assumption) hS3) hq2).mono ?_; rintro e w6 ⟨B1, k1, rfl, hO1, hb6⟩; have hS6 := keepS (by assumption) hb6; replace hO1 := hO1.own))
        | (go_at_call 81; go_must (refine (rspeeds_c M0 M1 A0 A1 n0 c0 n1 c1 bo ru ro _ (keepR (by assumption) hR3) hZ0 hq1 (keepR (by assumption) hS3) hq2).mono ?_; rintro e w7 ⟨B2, k2, rfl, hO2, hb7⟩; have hS7 := keepS (by assumption) hb7; replace hO2 := hO2.own))
        | (go_at_call 73; go_must (refine (same_o (speedsF M0 M1 n0 n1 bo ru ro) _ _ n0 _ _ _ hq1 (by repeat (with_reducible (first | assumption | apply Own.alloc | apply Own.drew | apply Own.drewN | (refine Own.below ?_ (by assumption))))) (by repeat (with_reducible (first | assumption | apply Own.alloc | apply Own.drew | apply Own.drewN | (refine Own.below ?_ (by assumption)))))).mono ?_; rintro e w8 ⟨rfl, hb8⟩; have hS8 := keepS (by assumption) hb8)))
    all_goals
      go_wp2
      go_ret
      exact ⟨rfl, hB3.trans (Below.mono (by repeat (with_reducible (first | exact hS8.2.2.2.2 | apply ext_drewN | apply ext_drew))) hB3.size)⟩

set_option maxRecDepth 100000 in
theorem solveSpeeds_lifted (os : Os) (started : os.Started) (H : Type) (enc : TypeId × Value → H) :
    ReturnsInHanded {} Try.checked os 12 .any (Rows.solveSpeedsSpec.pre6 enc Try.prog Try.f12 Rows.solveSpeedsRow.domain false) (Rows.solveSpeedsSpec.post enc Try.prog Try.f12 false true false false) := by
  refine returnsInHanded_of_change (C := Try.checked) own started (by kernel_rfl) Try.func12
    (ChangeSpec.witness6 (enc := enc) (C := Try.checked) false ⟨#[], #[.slice none 0 0, .slice none 0 0, .agg #[.int .i64 0, .int .i64 0, .int .i64 0]], []⟩ 8 (by kernel_rfl) (by kernel_rfl) (by kernel_rfl) (by kernel_rfl)) ?_
  intro W base args ds gs before hval0 hW hcnd _
  have hval : ∀ (j : Nat) t v, Try.f12.params[j]? = some t → args[j]? = some v → Value.okWide Try.prog W .any base t v := hval0
  obtain ⟨p, q, hA0, _⟩ := id hW
  have hsz := (trodAll_length _ _ _ _ hA0).1
  obtain ⟨v0, v1, v2, rfl⟩ : ∃ v0 v1 v2, args = #[v0, v1, v2] := by
    rcases args with ⟨_ | ⟨v0, _ | ⟨v1, _ | ⟨v2, _ | ⟨v3, l⟩⟩⟩⟩⟩ <;> first | exact ⟨v0, v1, v2, rfl⟩ | (simp [Try.params12] at hsz)
  obtain ⟨d0, p0, t0⟩ := trodAll_at _ _ _ _ hA0 0 85 v0 (by rw [Try.params12]; rfl) rfl
  obtain ⟨A0, n0, c0, M0, rfl, hn0, hR0, hM0⟩ := open_rows 8 17 Try.underlying85 (by kernel_rfl) (by kernel_rfl) (by decide) (slice_of_okv Try.underlying85 (hval 0 85 v0 (by rw [Try.params12]; rfl) rfl)) t0
  have hZ0 := slice_nil0 Try.underlying85 t0
  obtain ⟨d1, p1, t1⟩ := trodAll_at _ _ _ _ hA0 1 86 v1 (by rw [Try.params12]; rfl) rfl
  obtain ⟨A1, n1, c1, M1, rfl, hn1, hR1, hM1⟩ := open_rows 8 6 Try.underlying86 (by kernel_rfl) (by kernel_rfl) (by decide) (slice_of_okv Try.underlying86 (hval 1 86 v1 (by rw [Try.params12]; rfl) rfl)) t1
  have hZ1 := slice_nil0 Try.underlying86 t1
  obtain ⟨l2, e2, rfl, b2⟩ := agg_of_ok 3 Try.underlying3 Try.underlying95 (by kernel_rfl) (by kernel_rfl) (hval 2 95 v2 (by rw [Try.params12]; rfl) rfl)
  obtain ⟨a2_0, a2_1, a2_2, rfl⟩ := list3 l2 e2
  refine (solveSpeeds_w A0 n0 c0 M0 A1 n1 c1 M1 a2_0 a2_1 a2_2 W hn0 hR0 hM0 hZ0 hn1 hR1 hM1 hZ1).mono fun e W' ⟨he, hb⟩ => ⟨_, he, ?_⟩
  exact law_post laid (by kernel_rfl) (by kernel_rfl) Try.underlying4 rfl (fun ds h => by match ds, h with | [d0, d1, d2], _ => rfl) hW hb

theorem solveSpeeds_over : Rows.solveSpeedsRow.holds Try.pinned (OpenSpec.ofChange Rows.solveSpeedsSpec) :=
  OpenClaim.holds_of_wide 12 Try.f12 rfl rfl rfl rfl rfl rfl rfl ⟨rfl, rfl, rfl, rfl, rfl⟩ rfl rfl rfl rfl rfl (by kernel_rfl) Try.func12 (by kernel_rfl)
    (of_decide_eq_true (by kernel_rfl)) (by unfold Func.isWrapper; first | (rw [if_pos (by decide +kernel)]; kernel_rfl) | (rw [if_neg (by decide +kernel)]; exact ⟨rfl, rfl⟩))
    (fun os started H enc _ => solveSpeeds_lifted os started H enc)

theorem solveSpeeds_holds : Rows.SolveSpeedsSaid := solveSpeeds_over
#print axioms solveSpeeds_holds
end Go.Proofs.Ytfagkbmphohelaa
