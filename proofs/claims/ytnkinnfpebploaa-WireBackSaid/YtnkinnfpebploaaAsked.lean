/- The contract of wire.Asked. Conditions: none. -/
import Derived.Test.YtnkinnfpebploaaRead
import Derived.Test.YtnkinnfpebploaaWasks
import Derived.Test.YtnkinnfpebploaaApp
namespace Go.Proofs.Ytnkinnfpebploaa
open Go.ChangeShapes Go.WideShapes Go.ChangeAt Go.RowKit Go.BigFrame
open B
/-- what bits tell as a command, one read behind the other: the number, the error's number, the place -/
structure Pr (T : List Nat) (n1 e1 n2 e2 n3 e3 k e4 n5 e5 n6 e6 n7 e7 n8 e8 : Int) (a1 a2 a3 a4 a5 a6 a7 a8 : Nat) : Prop where
  h1 : varD T 0 = (n1, e1, a1)
  h2 : varD T a1 = (n2, e2, a2)
  h3 : varD T a2 = (n3, e3, a3)
  h4 : getD T a3 2 = (k, e4, a4)
  h5 : varD T a4 = (n5, e5, a5)
  h6 : intD T a5 = (n6, e6, a6)
  h7 : intD T a6 = (n7, e7, a7)
  h8 : intD T a7 = (n8, e8, a8)
def cb (k n : Int) : Int := if k ≠ 0 then n else 0
def cx (k n : Int) : Int := if k = 1 then n else 0
/-- a command is told, and just so -/
def Good (l : List Nat) (n1 e1 n2 e2 n3 e3 k e4 n5 e5 n6 e6 n7 e7 n8 e8 : Int) : Prop :=
  (e1 = 0 ∧ e2 = 0 ∧ e3 = 0 ∧ e4 = 0 ∧ (k ≠ 0 → e5 = 0) ∧ (k = 1 → e6 = 0 ∧ e7 = 0 ∧ e8 = 0)) ∧ k ≤ 2 ∧ AskOk n1 n2 n3 k (cb k n5) (cx k n6) (cx k n7) (cx k n8) ∧ pack (askL n1 n2 n3 k (cb k n5) (cx k n6) (cx k n7) (cx k n8)) = l
def AskedPost (l : List Nat) (n1 e1 n2 e2 n3 e3 k e4 n5 e5 n6 e6 n7 e7 n8 e8 : Int) (w : World) (e : Ending) (w' : World) : Prop :=
  (Good l n1 e1 n2 e2 n3 e3 k e4 n5 e5 n6 e6 n7 e7 n8 e8 ∧ e = .returned (.tuple #[.agg #[.int .i64 n1, .int .i64 n2, .int .i64 n3, .int .i64 k, .int .i64 (cb k n5), .int .i64 (cx k n6), .int .i64 (cx k n7), .int .i64 (cx k n8)], .nilIface]) ∧ Below w.heap.size w w') ∨
  (¬ Good l n1 e1 n2 e2 n3 e3 k e4 n5 e5 n6 e6 n7 e7 n8 e8 ∧ e = .returned (.tuple #[.agg #[.int .i64 0, .int .i64 0, .int .i64 0, .int .i64 0, .int .i64 0, .int .i64 0, .int .i64 0, .int .i64 0], .iface 43 (.int .i64 3)]) ∧ Below w.heap.size w w')
theorem varD_nn {T : List Nat} {a : Nat} {n e : Int} {b : Nat} (h : varD T a = (n, e, b)) : 0 ≤ n := by
  unfold varD at h
  split at h
  · cases h; omega
  · cases h; omega
theorem getD_nn {T : List Nat} (hT : Bin T) {a : Nat} {n e : Int} {b : Nat} (h : getD T a 2 = (n, e, b)) : 0 ≤ n ∧ n ≤ 3 := by
  unfold getD at h
  rw [if_neg (by decide)] at h
  split at h
  · cases h; omega
  · cases h
    have := getV_lt hT a 2
    simp only [Int.reduceToNat]
    omega
/-- what is not so -/
def BadW (n1 e1 n2 e2 n3 e3 k e4 n5 e5 n6 e6 n7 e7 n8 e8 : Int) : Prop :=
  ((((((False ∨ e1 ≠ 0 ∨ 70368744177664 < n1) ∨ e2 ≠ 0 ∨ 70368744177664 < n2) ∨ e3 ≠ 0 ∨ 70368744177664 < n3) ∨ e4 ≠ 0) ∨ 2 < k) ∨ (k ≠ 0 ∧ (e5 ≠ 0 ∨ 70368744177664 < n5))) ∨ (k = 1 ∧ ((e6 ≠ 0 ∨ n6 < -6553600 ∨ 6553600 < n6) ∨ (e7 ≠ 0 ∨ n7 < -6553600 ∨ 6553600 < n7) ∨ (e8 ≠ 0 ∨ n8 < -6553600 ∨ 6553600 < n8)))
theorem not_good {l : List Nat} {n1 e1 n2 e2 n3 e3 k e4 n5 e5 n6 e6 n7 e7 n8 e8 : Int} (h : BadW n1 e1 n2 e2 n3 e3 k e4 n5 e5 n6 e6 n7 e7 n8 e8) : ¬ Good l n1 e1 n2 e2 n3 e3 k e4 n5 e5 n6 e6 n7 e7 n8 e8 := by
  rintro ⟨⟨g1, g2, g3, g4, g5, g6⟩, gk, ⟨ga, gb, gc⟩, _⟩
  have t1 := ga n1 (by simp)
  have t2 := ga n2 (by simp)
  have t3 := ga n3 (by simp)
  unfold InTop at t1 t2 t3
  unfold BadW at h
  rcases h with (((((h | h) | h) | h) | h) | ⟨h0, h⟩) | ⟨h0, h⟩
  · rcases h with h | h
    · exact h.elim
    · omega
  · omega
  · omega
  · omega
  · omega
  · have h5 := g5 h0
    have h6 := gb h0
    unfold InTop cb at h6
    rw [if_pos h0] at h6
    omega
  · obtain ⟨h6, h7, h8⟩ := g6 h0
    have i6 := gc h0 (cx k n6) (by simp)
    have i7 := gc h0 (cx k n7) (by simp)
    have i8 := gc h0 (cx k n8) (by simp)
    unfold InSp cx at i6 i7 i8
    rw [if_pos h0] at i6 i7 i8
    omega
theorem good_of {l : List Nat} {n1 e1 n2 e2 n3 e3 k e4 n5 e5 n6 e6 n7 e7 n8 e8 : Int} (h : ¬ BadW n1 e1 n2 e2 n3 e3 k e4 n5 e5 n6 e6 n7 e7 n8 e8) (p1 : 0 ≤ n1) (p2 : 0 ≤ n2) (p3 : 0 ≤ n3) (p5 : 0 ≤ n5) :
    AskOk n1 n2 n3 k (cb k n5) (cx k n6) (cx k n7) (cx k n8) ∧ k ≤ 2 ∧ (pack (askL n1 n2 n3 k (cb k n5) (cx k n6) (cx k n7) (cx k n8)) = l → Good l n1 e1 n2 e2 n3 e3 k e4 n5 e5 n6 e6 n7 e7 n8 e8) := by
  unfold BadW at h
  simp only [not_or, not_and, false_or] at h
  obtain ⟨⟨⟨⟨⟨⟨a1, a2⟩, b1, b2⟩, c1, c2⟩, d1⟩, dk⟩, f⟩ := (⟨h.1, trivial⟩ : _ ∧ True).1
  have g := h.2
  have hA : AskOk n1 n2 n3 k (cb k n5) (cx k n6) (cx k n7) (cx k n8) := by
    refine ⟨fun i hi => ?_, fun h0 => ?_, fun h0 => ?_⟩
    · unfold InTop
      simp only [List.mem_cons, List.mem_nil_iff, or_false] at hi
      omega
    · have := f h0
      unfold InTop cb
      rw [if_pos h0]
      omega
    · have := g h0
      intro i hi
      unfold InSp
      simp only [cx, if_pos h0, List.mem_cons, List.mem_nil_iff, or_false] at hi
      omega
  refine ⟨hA, by omega, fun hp => ⟨⟨by omega, by omega, by omega, by omega, fun h0 => ?_, fun h0 => ?_⟩, by omega, hA, hp⟩⟩
  · have := f h0; omega
  · have := g h0; omega

theorem askL_le (t n s k b x y z : Int) : (askL t n s k b x y z).length ≤ 700 := by
  unfold askL
  have h1 := varsL_le [t, n, s]
  have h2 := varsL_le [b]
  have h3 : (intsL [x, y, z]).length ≤ 234 := by
    unfold intsL
    simp only [List.flatMap_cons, List.flatMap_nil, List.length_append, List.append_nil]
    have := intL_le x; have := intL_le y; have := intL_le z
    omega
  simp only [List.length_cons, List.length_nil] at h1 h2
  simp only [List.length_append, bitsOf_length]
  split <;> split <;> first | omega | (simp only [List.length_nil]; omega)
theorem mod2_above {w w' : World} {B p q : Nat} (k : Mod (fun b => b = p ∨ b = q) w w') (hB : B ≤ w.heap.size) (hp : B ≤ p) (hq : B ≤ q) : Below B w w' := k.toBelow hB fun _ hb e => by omega
theorem Blk.eqs {w : World} {b : Nat} {cs cs' : Array Value} (h : Blk w b cs) (e : cs = cs') : Blk w b cs' := e ▸ h
set_option maxRecDepth 100000 in
set_option maxHeartbeats 8000000 in
theorem wasked_c (v : Value) (l : List Nat) (n1 e1 n2 e2 n3 e3 k e4 n5 e5 n6 e6 n7 e7 n8 e8 : Int) (a1 a2 a3 a4 a5 a6 a7 a8 : Nat) (w : World) (hS : Src w v l) (h8 : ∀ b ∈ l, b < 256) (hl : l.length ≤ 1000000) (hpr : Pr (openL l) n1 e1 n2 e2 n3 e3 k e4 n5 e5 n6 e6 n7 e7 n8 e8 a1 a2 a3 a4 a5 a6 a7 a8) :
    Calls Try.prog 6 #[v] w (AskedPost l n1 e1 n2 e2 n3 e3 k e4 n5 e5 n6 e6 n7 e7 n8 e8 w) := by
  have HPR := Lib.hid hpr
  have HSR : Hid (∀ w', Below w.heap.size w w' → Src w' v l) := Lib.hid (fun w' k => hS.below k)
  have H8 := Lib.hid h8
  have hk03 := getD_nn (openL_bin l) hpr.h4
  have p1 := varD_nn hpr.h1
  have p2 := varD_nn hpr.h2
  have p3 := varD_nn hpr.h3
  have p5 := varD_nn hpr.h5
  have HP1 := Lib.hid p1
  have HP2 := Lib.hid p2
  have HP3 := Lib.hid p3
  have HP5 := Lib.hid p5
  have HK := Lib.hid hk03
  clear hpr hS h8 p1 p2 p3 p5 hk03
  go_enter Try.func6, Try.ntmps6
  go_wp2_with fail
  refine (read_c v l _ (HSR.out _ (balloc _ _)) H8.out hl).mono ?_
  rintro e w1 ⟨p, rv, rfl, hp, hRd, hb1⟩
  have hX1 := (Blk.fresh w #[.int .i64 0, .int .i64 0, .int .i64 0, .int .i64 0, .int .i64 0, .int .i64 0, .int .i64 0, .int .i64 0] 25).below hb1
  have hB1 : Below w.heap.size w w1 := (balloc _ _).trans (hb1.mono (by simp))
  have hpl := hRd.blk.lt
  have hpw : w.heap.size < p := by simp at hp; omega
  have hRd' : Rd w1 w.heap.size p rv l 0 := ⟨hRd.blk, (by obtain ⟨h1, h2 | ⟨g, cap, cur, a, b, c⟩⟩ := hRd.row; exact ⟨h1, .inl h2⟩; exact ⟨h1, .inr ⟨g, cap, cur, a, by simp at b; omega, c⟩⟩), hRd.ne, hRd.ok, hRd.len, hRd.le⟩
  have hrvx : rv.ownBlock ≠ some w.heap.size := fun e => by have := (row_lt hRd.row e).2; simp at this; omega
  clear hRd hb1 hp
  go_wp2_with fail
  refine calls_anew ?_
  intro w2 hb2
  have hq2 : Below w1.heap.size w1 w2 := (balloc w1 (.cells #[.pointer (some ⟨p, 0, none⟩), .bool false] 56)).trans (hb2.mono (by simp))
  have hR2 : RR w2 w.heap.size p w1.heap.size rv l 0 false := ⟨hRd'.below hq2, (Blk.fresh w1 _ _).below hb2, by omega, fun e => by have := (row_lt hRd'.row e).1; omega⟩
  have hX2 := hX1.below hq2
  have hB2 := hB1.trans (hq2.mono hB1.size)
  obtain ⟨x0, hx0⟩ : ∃ x0, x0 = w.heap.size := ⟨_, rfl⟩
  obtain ⟨q, hq⟩ : ∃ q, q = w1.heap.size := ⟨_, rfl⟩
  rw [← hx0] at hX2 hrvx
  rw [← hq] at hR2
  rw [← hx0, ← hq]
  have hxp : x0 < p := by omega
  have hxq : x0 < q := by omega
  have HPW : Hid (w.heap.size ≤ p) := Lib.hid (by omega)
  have HQW : Hid (w.heap.size ≤ q) := Lib.hid (by omega)
  have HXW : Hid (w.heap.size ≤ x0) := Lib.hid (by omega)
  have HRX := Lib.hid hrvx
  obtain ⟨b2, hb2'⟩ : ∃ b : Bool, b = false := ⟨_, rfl⟩
  rw [← hb2'] at hR2
  have HB2 : Hid (b2 = true ↔ False) := Lib.hid (by rw [hb2']; simp)
  clear hb2 hq2 hX1 hB1 hRd' hpl hx0 hq hpw hb2' hrvx

  go_wp2_with fail
  refine (num_c w.heap.size p q 0 b2 rv l n1 e1 a1 _ hR2 HPR.out.h1).mono ?_
  rintro e w3 ⟨b3, rfl, hR3, hM3, hb3⟩
  have hX3 := hX2.mod hM3 (by rintro (e | e) <;> omega)
  have hB3 := hB2.trans (mod2_above hM3 hB2.size HPW.out HQW.out)
  have HB3 := Lib.hid hb3
  clear hR2 hM3 hX2 hB2 hb3
  go_wp2_with fail
  refine (num_c w.heap.size p q a1 b3 rv l n2 e2 a2 _ hR3 HPR.out.h2).mono ?_
  rintro e w4 ⟨b4, rfl, hR4, hM4, hb4⟩
  have hX4 := hX3.mod hM4 (by rintro (e | e) <;> omega)
  have hB4 := hB3.trans (mod2_above hM4 hB3.size HPW.out HQW.out)
  have HB4 := Lib.hid hb4
  clear hR3 hM4 hX3 hB3 hb4
  go_wp2_with fail
  refine (num_c w.heap.size p q a2 b4 rv l n3 e3 a3 _ hR4 HPR.out.h3).mono ?_
  rintro e w5 ⟨b5, rfl, hR5, hM5, hb5⟩
  have hX5 := hX4.mod hM5 (by rintro (e | e) <;> omega)
  have hB5 := hB4.trans (mod2_above hM5 hB4.size HPW.out HQW.out)
  have HB5 := Lib.hid hb5
  clear hR4 hM5 hX4 hB4 hb5
  go_wp2_with fail
  refine calls_anew ?_
  intro w6 hb6
  have hC6 : Blk w6 w5.heap.size #[.int .i64 n1, .int .i64 n2, .int .i64 n3, .int .i64 0, .int .i64 0, .int .i64 0, .int .i64 0, .int .i64 0] := Blk.below (by repeat (with_reducible (first | assumption | (apply Blk.at; simp; done) | apply Blk.alloc | apply Blk.drew | apply Blk.drewN | apply Blk.more | apply Blk.put | (apply Blk.far; focus (first | assumption | (apply Ne.symm; assumption) | (simp; done) | (simp <;> omega)))))) hb6
  have hq6 : Below w5.heap.size w5 w6 := (by repeat (with_reducible (first | exact Below.refl _ _ | assumption | apply ext_drew | apply ext_drewN | apply ext_alloc | apply ext_more | (refine ext_setCell ?_ (by simp <;> omega) _) | (refine ext_below ?_ (by assumption)))))
  have hR6 := hR5.below hq6
  have hX6 := hX5.below hq6
  have hB6 := hB5.trans (hq6.mono hB5.size)
  have hlt5 : p < w5.heap.size ∧ q < w5.heap.size ∧ x0 < w5.heap.size ∧ rv.ownBlock ≠ some w5.heap.size := ⟨hR5.rd.blk.lt, hR5.blk.lt, hX5.lt, fun e => by have := (row_lt hR5.rd.row e).1; omega⟩
  have HCW : Hid (w.heap.size ≤ w5.heap.size) := Lib.hid hB5.size
  obtain ⟨cc, hcc⟩ : ∃ cc, cc = w5.heap.size := ⟨_, rfl⟩
  rw [← hcc] at hC6 hlt5 HCW
  rw [← hcc]
  obtain ⟨hpc, hqc, hxc, hrc⟩ := hlt5
  have HRC := Lib.hid hrc
  clear hb6 hq6 hR5 hX5 hB5 hcc hrc
  refine (rput_c w.heap.size p q a3 b5 rv l k e4 a4 2 _ hR6 HPR.out.h4).mono ?_
  rintro e w7 ⟨b7, rfl, hR7, hM7, hb7⟩
  have hX7 := hX6.mod hM7 (by rintro (e | e) <;> omega)
  have hC7 := hC6.mod hM7 (by rintro (e | e) <;> omega)
  have hB7 := hB6.trans (mod2_above hM7 hB6.size HPW.out HQW.out)
  have HB7 := Lib.hid hb7
  clear hR6 hM7 hX6 hC6 hB6 hb7
  obtain ⟨z7, c7, f7⟩ := id hC7
  go_upto_region 4 with fail
  refine wp_fresh ?_
  intro w8 hb8
  have hset : Mod (· = cc) w7 w8 := Mod.below ((Mod.refl _ _).set (.inl rfl)) hb8
  have hR8 := hR7.mod hset (by omega) (by omega) (fun b hb e => HRC.out (e ▸ hb))
  have hX8 := hX7.mod hset (by omega)
  have hC8 : Blk w8 cc #[.int .i64 n1, .int .i64 n2, .int .i64 n3, .int .i64 k, .int .i64 0, .int .i64 0, .int .i64 0, .int .i64 0] := Blk.eqs ((hC7.put (i := 3) (v := .int .i64 k)).below hb8) rfl
  have hB8 := hB7.trans (mod_base hset hB7.size HCW.out)
  clear hb8 hset hR7 hX7 hC7 hB7 z7 c7 f7
  go_cut [] (fun wx => ∃ bad : Bool, RR wx w.heap.size p q rv l a4 bad ∧ Blk wx cc #[.int .i64 n1, .int .i64 n2, .int .i64 n3, .int .i64 k, .int .i64 0, .int .i64 0, .int .i64 0, .int .i64 0] ∧ Blk wx x0 #[.int .i64 0, .int .i64 0, .int .i64 0, .int .i64 0, .int .i64 0, .int .i64 0, .int .i64 0, .int .i64 0] ∧ Below w.heap.size w wx ∧ (bad = true ↔ ((((False ∨ e1 ≠ 0 ∨ 70368744177664 < n1) ∨ e2 ≠ 0 ∨ 70368744177664 < n2) ∨ e3 ≠ 0 ∨ 70368744177664 < n3) ∨ e4 ≠ 0) ∨ 2 < k))
  case first =>
    have k1 : w8.cell? ⟨q, 1, none⟩ = some (.bool b7) := hR8.blk.cell 1
    have z1 := hR8.blk.lt
    have f1 := hR8.blk.free
    obtain ⟨z8, c8, f8⟩ := id hC8
    have HT := Lib.hid hR8
    cases b7 with
    | true =>
      go_wp2
      go_meet
      exact ⟨true, HT.out.setBad true, Blk.far (by omega) hC8, Blk.far (by omega) hX8, hB8.setCell HQW.out _, by have h1 := HB7.out; have h2 := HB5.out; have h3 := HB4.out; have h4 := HB3.out; have h5 := HB2.out; simp only [h2, h3, h4, h5] at h1; constructor; exact fun _ => .inl (h1.1 (by trivial)); exact fun _ => rfl⟩
    | false =>
      go_wp2
      go_meet
      exact ⟨decide (2 < k), HT.out.setBad _, Blk.far (by omega) hC8, Blk.far (by omega) hX8, hB8.setCell HQW.out _, by have h1 := HB7.out; have h2 := HB5.out; have h3 := HB4.out; have h4 := HB3.out; have h5 := HB2.out; simp only [h2, h3, h4, h5] at h1; rw [decide_eq_true_iff]; constructor; exact fun h => .inr h; exact fun h => h.elim (fun h' => by have := h1.2 h'; cases this) id⟩
  case rest =>
    clear hR8 hX8 hC8 hB8
    obtain ⟨b9, hR9, hC9, hX9, hB9, hb9⟩ := hcut
    have HB9 := Lib.hid hb9
    clear hb9 HB7 HB5 HB4 HB3 HB2
    obtain ⟨z9, c9, f9⟩ := id hC9
    go_upto_if 38 with fail
    go_cut [] (fun wx => ∃ (bad : Bool) (aa : Nat), RR wx w.heap.size p q rv l aa bad ∧ Blk wx cc #[.int .i64 n1, .int .i64 n2, .int .i64 n3, .int .i64 k, .int .i64 (cb k n5), .int .i64 0, .int .i64 0, .int .i64 0] ∧ Blk wx x0 #[.int .i64 0, .int .i64 0, .int .i64 0, .int .i64 0, .int .i64 0, .int .i64 0, .int .i64 0, .int .i64 0] ∧ Below w.heap.size w wx ∧ (k = 1 → aa = a5) ∧ (bad = true ↔ (((((False ∨ e1 ≠ 0 ∨ 70368744177664 < n1) ∨ e2 ≠ 0 ∨ 70368744177664 < n2) ∨ e3 ≠ 0 ∨ 70368744177664 < n3) ∨ e4 ≠ 0) ∨ 2 < k) ∨ (k ≠ 0 ∧ (e5 ≠ 0 ∨ 70368744177664 < n5))))
    case first =>
      by_cases hk0 : k = 0
      · have e1 : (k != 0) = false := by simpa using hk0
        have HK0 := Lib.hid hk0
        clear hk0
        go_wp2
        go_meet
        exact ⟨b9, a4, hR9, Blk.eqs hC9 (by rw [HK0.out]; rfl), hX9, hB9, fun h => by have := HK0.out; omega, by rw [HB9.out]; constructor; exact fun h => .inl h; exact fun h => h.elim id (fun h' => absurd HK0.out h'.1)⟩
      · have e1 : (k != 0) = true := by simpa using hk0
        have HK0 := Lib.hid hk0
        clear hk0
        go_wp2_with fail
        refine (num_c w.heap.size p q a4 b9 rv l n5 e5 a5 _ hR9 HPR.out.h5).mono ?_
        rintro e w10 ⟨b10, rfl, hR10, hM10, hb10⟩
        have hX10 := hX9.mod hM10 (by rintro (e | e) <;> omega)
        have hC10 := hC9.mod hM10 (by rintro (e | e) <;> omega)
        have hB10 := hB9.trans (mod2_above hM10 hB9.size HPW.out HQW.out)
        have HB10 := Lib.hid hb10
        clear hR9 hM10 hX9 hC9 hB9 hb10 z9 c9 f9
        obtain ⟨z10, c10, f10⟩ := id hC10
        have HRR := Lib.hid hR10
        go_wp2
        go_meet
        exact ⟨b10, a5, HRR.out.mod (S := (· = cc)) ((Mod.refl _ _).set (.inl rfl)) (by omega) (by omega) (fun b hb e => HRC.out (e ▸ hb)), Blk.eqs (hC10.put (i := 4) (v := .int .i64 n5)) (by simp [cb, HK0.out]), Blk.far (by omega) hX10, hB10.setCell HCW.out _, fun _ => rfl, by have h1 := HB10.out; rw [HB9.out] at h1; rw [h1]; constructor; exact fun h => h.elim .inl (fun h' => .inr ⟨HK0.out, h'⟩); exact fun h => h.elim .inl (fun h' => .inr h'.2)⟩
    case rest =>
      clear hR9 hC9 hX9 hB9 z9 c9 f9
      obtain ⟨b11, aa, hR11, hC11, hX11, hB11, haa, hb11⟩ := hcut
      have HB11 := Lib.hid hb11
      have HAA := Lib.hid haa
      clear hb11 haa HB9
      obtain ⟨z11, c11, f11⟩ := id hC11
      go_upto_if 44 with fail
      go_cut [] (fun wx => ∃ (bad : Bool) (aa : Nat), RR wx w.heap.size p q rv l aa bad ∧ Blk wx cc #[.int .i64 n1, .int .i64 n2, .int .i64 n3, .int .i64 k, .int .i64 (cb k n5), .int .i64 (cx k n6), .int .i64 (cx k n7), .int .i64 (cx k n8)] ∧ Blk wx x0 #[.int .i64 0, .int .i64 0, .int .i64 0, .int .i64 0, .int .i64 0, .int .i64 0, .int .i64 0, .int .i64 0] ∧ Below w.heap.size w wx ∧ (bad = true ↔ BadW n1 e1 n2 e2 n3 e3 k e4 n5 e5 n6 e6 n7 e7 n8 e8))
      case first =>
        by_cases hk1 : k = 1
        · have e1 : (k == 1) = true := by simpa using hk1
          obtain rfl := HAA.out hk1
          have HK1 := Lib.hid hk1
          clear hk1
          go_wp2_with fail
          refine (part_c w.heap.size p q aa b11 rv l n6 e6 a6 _ hR11 HPR.out.h6).mono ?_
          rintro e w12 ⟨b12, rfl, hR12, hM12, hb12⟩
          have hX12 := hX11.mod hM12 (by rintro (e | e) <;> omega)
          have hC12 := hC11.mod hM12 (by rintro (e | e) <;> omega)
          have hB12 := hB11.trans (mod2_above hM12 hB11.size HPW.out HQW.out)
          have HB12 := Lib.hid hb12
          clear hR11 hM12 hX11 hC11 hB11 hb12 z11 c11 f11
          go_wp2_with fail
          refine (part_c w.heap.size p q a6 b12 rv l n7 e7 a7 _ hR12 HPR.out.h7).mono ?_
          rintro e w13 ⟨b13, rfl, hR13, hM13, hb13⟩
          have hX13 := hX12.mod hM13 (by rintro (e | e) <;> omega)
          have hC13 := hC12.mod hM13 (by rintro (e | e) <;> omega)
          have hB13 := hB12.trans (mod2_above hM13 hB12.size HPW.out HQW.out)
          have HB13 := Lib.hid hb13
          clear hR12 hM13 hX12 hC12 hB12 hb13
          go_wp2_with fail
          refine (part_c w.heap.size p q a7 b13 rv l n8 e8 a8 _ hR13 HPR.out.h8).mono ?_
          rintro e w14 ⟨b14, rfl, hR14, hM14, hb14⟩
          have hX14 := hX13.mod hM14 (by rintro (e | e) <;> omega)
          have hC14 := hC13.mod hM14 (by rintro (e | e) <;> omega)
          have hB14 := hB13.trans (mod2_above hM14 hB13.size HPW.out HQW.out)
          have HB14 := Lib.hid hb14
          clear hR13 hM14 hX13 hC13 hB13 hb14
          obtain ⟨z14, c14, f14⟩ := id hC14
          have HRR := Lib.hid hR14
          go_wp2
          go_meet
          refine ⟨b14, a8, HRR.out.mod ((((Mod.refl (fun b => b = cc) w14).set (.inl rfl)).set (.inl rfl)).set (.inl rfl)) (by omega) (by omega) (fun b hb e => HRC.out (e ▸ hb)), Blk.eqs (((hC14.put (i := 5) (v := .int .i64 n6)).put (i := 6) (v := .int .i64 n7)).put (i := 7) (v := .int .i64 n8)) (by simp [cx, HK1.out]), Blk.far (by omega) (Blk.far (by omega) (Blk.far (by omega) hX14)), ((hB14.setCell HCW.out _).setCell HCW.out _).setCell HCW.out _, ?_⟩
          have h1 := HB14.out
          have h2 := HB13.out
          have h3 := HB12.out
          rw [HB11.out] at h3
          rw [h3] at h2
          rw [h2] at h1
          rw [h1]
          have hk := HK1.out
          clear h1 h2 h3
          unfold BadW
          simp only [hk, true_and]
          constructor
          · rintro (((h | h) | h) | h)
            · exact .inl h
            · exact .inr (.inl h)
            · exact .inr (.inr (.inl h))
            · exact .inr (.inr (.inr h))
          · rintro (h | h | h | h)
            · exact .inl (.inl (.inl h))
            · exact .inl (.inl (.inr h))
            · exact .inl (.inr h)
            · exact .inr h
        · have e1 : (k == 1) = false := by simpa using hk1
          have HK1 := Lib.hid hk1
          clear hk1
          go_wp2
          go_meet
          exact ⟨b11, aa, hR11, Blk.eqs hC11 (by simp [cx, HK1.out]), hX11, hB11, by rw [HB11.out]; unfold BadW; constructor; exact fun h => .inl h; exact fun h => h.elim id (fun h' => absurd h'.1 HK1.out)⟩
      case rest =>
        clear hR11 hC11 hX11 hB11 z11 c11 f11
        obtain ⟨b15, a15, hR15, hC15, hX15, hB15, hb15⟩ := hcut
        have HB15 := Lib.hid hb15
        clear hb15 HB11 HAA
        have k1 : wc.cell? ⟨q, 1, none⟩ = some (.bool b15) := hR15.blk.cell 1
        have zq := hR15.blk.lt
        obtain ⟨z15, c15, f15⟩ := id hC15
        obtain ⟨zx, cx0, fx⟩ := id hX15
        cases b15 with
        | true =>
          have hng : ¬ Good l n1 e1 n2 e2 n3 e3 k e4 n5 e5 n6 e6 n7 e7 n8 e8 := not_good (HB15.out.1 (by trivial))
          have HNG := Lib.hid hng
          clear hng
          go_wp2
          exact bodyPost_ret (v := .tuple #[.agg #[.int .i64 0, .int .i64 0, .int .i64 0, .int .i64 0, .int .i64 0, .int .i64 0, .int .i64 0, .int .i64 0], .iface 43 (.int .i64 3)]) (by simp [results, Try.results6, go_sem, *]) rfl (.inr ⟨HNG.out, rfl, (by repeat (with_reducible (first | assumption | (refine ext_setCell ?_ (HXW.out) _))))⟩)
        | false =>
          have hgo := good_of (l := l) (fun h => by have := HB15.out.2 h; cases this) HP1.out HP2.out HP3.out HP5.out
          obtain ⟨hA, hk2, hG⟩ := hgo
          have HA := Lib.hid hA
          have HG := Lib.hid hG
          have HK2 := Lib.hid hk2
          clear hA hG hk2
          go_wp2_with fail
          refine (ask_c n1 n2 n3 k (cb k n5) (cx k n6) (cx k n7) (cx k n8) _ HK.out.1 HK2.out).mono ?_
          rintro e w16 (⟨_, A', c', rfl, hBs, hb16⟩ | ⟨hno, _⟩)
          rotate_left
          · exact absurd HA.out hno
          obtain ⟨PL, hPL⟩ : ∃ PL, PL = pack (askL n1 n2 n3 k (cb k n5) (cx k n6) (cx k n7) (cx k n8)) := ⟨_, rfl⟩
          have hP8 : ∀ x ∈ PL, x < 256 := by rw [hPL]; exact pack_lt (askL_bin _ _ _ _ _ _ _ _)
          have hPn : PL.length ≤ 1000000 := by rw [hPL, pack_length]; unfold bytesOf; have := askL_le n1 n2 n3 k (cb k n5) (cx k n6) (cx k n7) (cx k n8); omega
          rw [← hPL] at hBs
          rw [← hPL]
          have HPL := Lib.hid hPL
          have HP8 := Lib.hid hP8
          have HPN := Lib.hid hPn
          have hC16 := hC15.below hb16
          have hX16 := hX15.below hb16
          have hB16 := hB15.trans (hb16.mono hB15.size)
          clear hPL hP8 hPn hR15 hC15 hX15 z15 c15 f15 zx cx0 fx k1 zq
          go_wp2_with fail
          refine (equal_c _ v PL l _ (Rdb.of_row hBs) (Rdb.of_src (HSR.out _ hB16)) HPN.out hl HP8.out H8.out).mono ?_
          rintro e w17 ⟨⟨bb, rfl, hbb⟩, hb17⟩
          have hC17 := hC16.below hb17
          have hX17 := hX16.below hb17
          have hB17 := hB16.trans (hb17.mono hB16.size)
          have HBB := Lib.hid hbb
          clear hBs hC16 hX16 hb16 hb17 hB16 hB15 hbb
          obtain ⟨z17, c17, f17⟩ := id hC17
          obtain ⟨zx, cx0, fx⟩ := id hX17
          cases bb with
          | true =>
            have hgood := HG.out (by rw [← HPL.out]; exact HBB.out.1 (by trivial))
            have HGO := Lib.hid hgood
            clear hgood
            go_wp2
            exact bodyPost_ret (v := .tuple #[.agg #[.int .i64 n1, .int .i64 n2, .int .i64 n3, .int .i64 k, .int .i64 (cb k n5), .int .i64 (cx k n6), .int .i64 (cx k n7), .int .i64 (cx k n8)], .nilIface]) (by simp [results, Try.results6, go_sem, *]) rfl (.inl ⟨HGO.out, rfl, (by repeat (with_reducible (first | assumption | (refine ext_setCell ?_ (HXW.out) _))))⟩)
          | false =>
            have hng : ¬ Good l n1 e1 n2 e2 n3 e3 k e4 n5 e5 n6 e6 n7 e7 n8 e8 := fun h => by
              have h4 := h.2.2.2
              rw [← HPL.out] at h4
              have := HBB.out.2 h4
              cases this
            have HNG := Lib.hid hng
            clear hng
            go_wp2
            exact bodyPost_ret (v := .tuple #[.agg #[.int .i64 0, .int .i64 0, .int .i64 0, .int .i64 0, .int .i64 0, .int .i64 0, .int .i64 0, .int .i64 0], .iface 43 (.int .i64 3)]) (by simp [results, Try.results6, go_sem, *]) rfl (.inr ⟨HNG.out, rfl, (by repeat (with_reducible (first | assumption | (refine ext_setCell ?_ (HXW.out) _))))⟩)

end Go.Proofs.Ytnkinnfpebploaa
