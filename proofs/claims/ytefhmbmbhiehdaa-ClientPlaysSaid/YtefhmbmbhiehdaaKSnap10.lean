/- The contract of snap.Delta. Conditions: none but that there are not too many. -/
import Derived.Test.YtefhmbmbhiehdaaKSnap7
import Derived.Test.YtefhmbmbhiehdaaKSnap2
import Derived.Deep.CutBlock
namespace Go.Proofs.Ytefhmbmbhiehdaa
open Go.ChangeShapes Go.WideShapes Go.ChangeAt Go.RowKit Go.BigFrame
open B

theorem run_neq_seen (x0 x1 x2 x3 x4 x5 x6 x7 x8 x9 x10 y0 y1 y2 y3 y4 y5 y6 y7 y8 y9 y10 : Int) (w : World) : (binOp .neq 106 (.agg #[.int .i64 x0, .int .i64 x1, .int .i64 x2, .int .i64 x3, .int .i64 x4, .int .i64 x5, .int .i64 x6, .int .i64 x7, .int .i64 x8, .int .i64 x9, .int .i64 x10]) (.agg #[.int .i64 y0, .int .i64 y1, .int .i64 y2, .int .i64 y3, .int .i64 y4, .int .i64 y5, .int .i64 y6, .int .i64 y7, .int .i64 y8, .int .i64 y9, .int .i64 y10])).run Try.prog w = .ok (.bool (!(x0 == y0 && x1 == y1 && eq3 x2 x3 x4 y2 y3 y4 && eq3 x5 x6 x7 y5 y6 y7 && eq3 x8 x9 x10 y8 y9 y10))) w := by
  rw [run_neq_struct, run_equalIn_struct w 9999 _ _ _ (by kernel_rfl) (by kernel_rfl)]
  simp only [Program.fieldsOf, Try.underlying106]
  simp only [Op.eqFields]
  have e1 := fun d w => run_equalIn_vec d x2 x3 x4 y2 y3 y4 w
  have e2 := fun d w => run_equalIn_vec d x5 x6 x7 y5 y6 y7 w
  have e3 := fun d w => run_equalIn_vec d x8 x9 x10 y8 y9 y10 w
  cases h1 : (x0 == y0) <;> cases h2 : (x1 == y1) <;> cases h3 : eq3 x2 x3 x4 y2 y3 y4 <;> cases h4 : eq3 x5 x6 x7 y5 y6 y7 <;> cases h5 : eq3 x8 x9 x10 y8 y9 y10 <;> simp [go_sem, Try.underlying3, h1, h2, h3, h4, h5, e1, e2, e3]

theorem keep9 {bB : Nat} {w0 w1 : World} {s0 s1 s2 s3 s4 s5 s6 s7 s8 : Nat} {v0 v1 v2 v3 v4 v5 v6 v7 v8 : Value} (h : w0.cell? ⟨bB, s0, none⟩ = some v0 ∧ w0.cell? ⟨bB, s1, none⟩ = some v1 ∧ w0.cell? ⟨bB, s2, none⟩ = some v2 ∧ w0.cell? ⟨bB, s3, none⟩ = some v3 ∧ w0.cell? ⟨bB, s4, none⟩ = some v4 ∧ w0.cell? ⟨bB, s5, none⟩ = some v5 ∧ w0.cell? ⟨bB, s6, none⟩ = some v6 ∧ w0.cell? ⟨bB, s7, none⟩ = some v7 ∧ w0.cell? ⟨bB, s8, none⟩ = some v8 ∧ bB < w0.heap.size) (hb : Below w0.heap.size w0 w1) :
    w1.cell? ⟨bB, s0, none⟩ = some v0 ∧ w1.cell? ⟨bB, s1, none⟩ = some v1 ∧ w1.cell? ⟨bB, s2, none⟩ = some v2 ∧ w1.cell? ⟨bB, s3, none⟩ = some v3 ∧ w1.cell? ⟨bB, s4, none⟩ = some v4 ∧ w1.cell? ⟨bB, s5, none⟩ = some v5 ∧ w1.cell? ⟨bB, s6, none⟩ = some v6 ∧ w1.cell? ⟨bB, s7, none⟩ = some v7 ∧ w1.cell? ⟨bB, s8, none⟩ = some v8 ∧ bB < w1.heap.size := by
  obtain ⟨h0, h1, h2, h3, h4, h5, h6, h7, h8, hl⟩ := h
  exact ⟨(hb.cell (p := ⟨bB, s0, none⟩) hl).trans h0, (hb.cell (p := ⟨bB, s1, none⟩) hl).trans h1, (hb.cell (p := ⟨bB, s2, none⟩) hl).trans h2, (hb.cell (p := ⟨bB, s3, none⟩) hl).trans h3, (hb.cell (p := ⟨bB, s4, none⟩) hl).trans h4, (hb.cell (p := ⟨bB, s5, none⟩) hl).trans h5, (hb.cell (p := ⟨bB, s6, none⟩) hl).trans h6, (hb.cell (p := ⟨bB, s7, none⟩) hl).trans h7, (hb.cell (p := ⟨bB, s8, none⟩) hl).trans h8, Nat.lt_of_lt_of_le hl hb.size⟩
theorem keep9_drew {bB : Nat} {w0 : World} {s0 s1 s2 s3 s4 s5 s6 s7 s8 : Nat} {v0 v1 v2 v3 v4 v5 v6 v7 v8 : Value} (h : w0.cell? ⟨bB, s0, none⟩ = some v0 ∧ w0.cell? ⟨bB, s1, none⟩ = some v1 ∧ w0.cell? ⟨bB, s2, none⟩ = some v2 ∧ w0.cell? ⟨bB, s3, none⟩ = some v3 ∧ w0.cell? ⟨bB, s4, none⟩ = some v4 ∧ w0.cell? ⟨bB, s5, none⟩ = some v5 ∧ w0.cell? ⟨bB, s6, none⟩ = some v6 ∧ w0.cell? ⟨bB, s7, none⟩ = some v7 ∧ w0.cell? ⟨bB, s8, none⟩ = some v8 ∧ bB < w0.heap.size)  :
    w0.drew.cell? ⟨bB, s0, none⟩ = some v0 ∧ w0.drew.cell? ⟨bB, s1, none⟩ = some v1 ∧ w0.drew.cell? ⟨bB, s2, none⟩ = some v2 ∧ w0.drew.cell? ⟨bB, s3, none⟩ = some v3 ∧ w0.drew.cell? ⟨bB, s4, none⟩ = some v4 ∧ w0.drew.cell? ⟨bB, s5, none⟩ = some v5 ∧ w0.drew.cell? ⟨bB, s6, none⟩ = some v6 ∧ w0.drew.cell? ⟨bB, s7, none⟩ = some v7 ∧ w0.drew.cell? ⟨bB, s8, none⟩ = some v8 ∧ bB < w0.drew.heap.size := keep9 h ((Below.refl _ _).drew)
theorem keep9_drewN {bB : Nat} {w0 : World} {s0 s1 s2 s3 s4 s5 s6 s7 s8 : Nat} {v0 v1 v2 v3 v4 v5 v6 v7 v8 : Value} (h : w0.cell? ⟨bB, s0, none⟩ = some v0 ∧ w0.cell? ⟨bB, s1, none⟩ = some v1 ∧ w0.cell? ⟨bB, s2, none⟩ = some v2 ∧ w0.cell? ⟨bB, s3, none⟩ = some v3 ∧ w0.cell? ⟨bB, s4, none⟩ = some v4 ∧ w0.cell? ⟨bB, s5, none⟩ = some v5 ∧ w0.cell? ⟨bB, s6, none⟩ = some v6 ∧ w0.cell? ⟨bB, s7, none⟩ = some v7 ∧ w0.cell? ⟨bB, s8, none⟩ = some v8 ∧ bB < w0.heap.size) (n : Nat) :
    (w0.drewN n).cell? ⟨bB, s0, none⟩ = some v0 ∧ (w0.drewN n).cell? ⟨bB, s1, none⟩ = some v1 ∧ (w0.drewN n).cell? ⟨bB, s2, none⟩ = some v2 ∧ (w0.drewN n).cell? ⟨bB, s3, none⟩ = some v3 ∧ (w0.drewN n).cell? ⟨bB, s4, none⟩ = some v4 ∧ (w0.drewN n).cell? ⟨bB, s5, none⟩ = some v5 ∧ (w0.drewN n).cell? ⟨bB, s6, none⟩ = some v6 ∧ (w0.drewN n).cell? ⟨bB, s7, none⟩ = some v7 ∧ (w0.drewN n).cell? ⟨bB, s8, none⟩ = some v8 ∧ bB < (w0.drewN n).heap.size := keep9 h (ext_drewN (Below.refl _ _) n)
theorem keep9_alloc {bB : Nat} {w0 : World} {s0 s1 s2 s3 s4 s5 s6 s7 s8 : Nat} {v0 v1 v2 v3 v4 v5 v6 v7 v8 : Value} (h : w0.cell? ⟨bB, s0, none⟩ = some v0 ∧ w0.cell? ⟨bB, s1, none⟩ = some v1 ∧ w0.cell? ⟨bB, s2, none⟩ = some v2 ∧ w0.cell? ⟨bB, s3, none⟩ = some v3 ∧ w0.cell? ⟨bB, s4, none⟩ = some v4 ∧ w0.cell? ⟨bB, s5, none⟩ = some v5 ∧ w0.cell? ⟨bB, s6, none⟩ = some v6 ∧ w0.cell? ⟨bB, s7, none⟩ = some v7 ∧ w0.cell? ⟨bB, s8, none⟩ = some v8 ∧ bB < w0.heap.size) (o : Obj) :
    (w0.alloc o).cell? ⟨bB, s0, none⟩ = some v0 ∧ (w0.alloc o).cell? ⟨bB, s1, none⟩ = some v1 ∧ (w0.alloc o).cell? ⟨bB, s2, none⟩ = some v2 ∧ (w0.alloc o).cell? ⟨bB, s3, none⟩ = some v3 ∧ (w0.alloc o).cell? ⟨bB, s4, none⟩ = some v4 ∧ (w0.alloc o).cell? ⟨bB, s5, none⟩ = some v5 ∧ (w0.alloc o).cell? ⟨bB, s6, none⟩ = some v6 ∧ (w0.alloc o).cell? ⟨bB, s7, none⟩ = some v7 ∧ (w0.alloc o).cell? ⟨bB, s8, none⟩ = some v8 ∧ bB < (w0.alloc o).heap.size := keep9 h ((Below.refl _ _).alloc (Nat.le_refl _) o)
section
variable {M1 M2 : Nat → Nat → Int} {n1 n2 i k f : Nat} {last : Int}
theorem rest_gone (hf : n1 + n2 ≤ i + k + f) (_hi : i ≤ n1) (hk : k ≤ n2) (h : Gone M1 n1 M2 n2 i k) : ∃ g, n1 + n2 ≤ i + 1 + k + g ∧ restF M1 n1 M2 n2 f i k last = headL 0 (M1 i 0) last ++ restF M1 n1 M2 n2 g (i + 1) k (M1 i 0) := by
  have := h.1
  obtain ⟨g, rfl⟩ : ∃ g, f = g + 1 := ⟨f - 1, by omega⟩
  exact ⟨g, by omega, by conv => lhs; unfold restF; rw [if_pos (Or.inl h.1), if_pos h]⟩
theorem rest_came (hf : n1 + n2 ≤ i + k + f) (hi : i ≤ n1) (_hk : k ≤ n2) (hg : ¬ Gone M1 n1 M2 n2 i k) (h : Came M1 n1 M2 n2 i k) : ∃ g, n1 + n2 ≤ i + (k + 1) + g ∧ restF M1 n1 M2 n2 f i k last = headL 1 (M2 k 0) last ++ newL M2 k ++ restF M1 n1 M2 n2 g i (k + 1) (M2 k 0) := by
  have := h.1
  obtain ⟨g, rfl⟩ : ∃ g, f = g + 1 := ⟨f - 1, by omega⟩
  exact ⟨g, by omega, by conv => lhs; unfold restF; rw [if_pos (Or.inr h.1), if_neg hg, if_pos h]⟩
theorem rest_same (hf : n1 + n2 ≤ i + k + f) (hi : i < n1) (hk : k < n2) (hg : ¬ Gone M1 n1 M2 n2 i k) (hc : ¬ Came M1 n1 M2 n2 i k) (h : same11 M1 i M2 k = true) : ∃ g, n1 + n2 ≤ i + 1 + (k + 1) + g ∧ restF M1 n1 M2 n2 f i k last = restF M1 n1 M2 n2 g (i + 1) (k + 1) last := by
  obtain ⟨g, rfl⟩ : ∃ g, f = g + 1 := ⟨f - 1, by omega⟩
  exact ⟨g, by omega, by conv => lhs; unfold restF; rw [if_pos (Or.inl hi), if_neg hg, if_neg hc, if_pos h]⟩
theorem rest_other (hf : n1 + n2 ≤ i + k + f) (hi : i < n1) (hk : k < n2) (hg : ¬ Gone M1 n1 M2 n2 i k) (hc : ¬ Came M1 n1 M2 n2 i k) (h : ¬ same11 M1 i M2 k = true) : ∃ g, n1 + n2 ≤ i + 1 + (k + 1) + g ∧ restF M1 n1 M2 n2 f i k last = headL 2 (M2 k 0) last ++ changeL M1 i M2 k ++ restF M1 n1 M2 n2 g (i + 1) (k + 1) (M2 k 0) := by
  obtain ⟨g, rfl⟩ : ∃ g, f = g + 1 := ⟨f - 1, by omega⟩
  exact ⟨g, by omega, by conv => lhs; unfold restF; rw [if_pos (Or.inl hi), if_neg hg, if_neg hc, if_neg h]⟩
theorem rest_end (hi : ¬ i < n1) (hk : ¬ k < n2) : restF M1 n1 M2 n2 f i k last = bitsOf 2 3 := by
  cases f with
  | zero => rfl
  | succ g => unfold restF; rw [if_neg (by omega)]
end

set_option maxRecDepth 100000 in
set_option maxHeartbeats 16000000 in
theorem delta_c (n1 n2 : Nat) (A1 A2 : Option Addr) (cap1 cap2 : Nat) (M1 M2 : Nat → Nat → Int) (w : World) (hn1 : n1 ≤ 100000) (hn2 : n2 ≤ 100000) (hR1 : Reads w A1 n1 11 M1) (hR2 : Reads w A2 n2 11 M2) :
    Calls Try.prog 114 #[.slice A1 n1 cap1, .slice A2 n2 cap2] w fun e w' => ((¬ (RightV n1 M1 ∧ RightV n2 M2) ∧ e = .returned (.tuple #[.slice none 0 0, (.iface 38 (.int .i64 1))])) ∨ (RightV n1 M1 ∧ RightV n2 M2 ∧ 31872 < (deltaL M1 n1 M2 n2).length ∧ e = .returned (.tuple #[.slice none 0 0, (.iface 38 (.int .i64 4))])) ∨ (RightV n1 M1 ∧ RightV n2 M2 ∧ ¬ 31872 < (deltaL M1 n1 M2 n2).length ∧ ∃ (D : Option Addr) (c b : Nat), w.heap.size ≤ b ∧ e = .returned (.tuple #[.slice D (pack (deltaL M1 n1 M2 n2)).length c, .nilIface]) ∧ BsOf w' b (.slice D (pack (deltaL M1 n1 M2 n2)).length c) (pack (deltaL M1 n1 M2 n2)))) ∧ Below w.heap.size w w' := by
  have HR1 := Lib.hid hR1
  have HR2 := Lib.hid hR2
  clear hR1 hR2
  go_enter Try.func114, Try.ntmps114
  go_wp2_with fail
  refine (right_c n1 A1 cap1 M1 _ (by omega) HR1.out).mono ?_
  rintro e w1 ⟨d1, rfl, hd1, hb1⟩
  cases d1 with
  | false =>
    have HNO : Hid (¬ (RightV n1 M1 ∧ RightV n2 M2)) := Lib.hid (fun h => by have := hd1.2 h.1; cases this)
    clear hd1
    go_wp2
    exact bodyPost_ret (v := .tuple #[.slice none 0 0, .iface 38 (.int .i64 1)]) (by simp [results, Try.results114, go_sem, *]) rfl ⟨.inl ⟨HNO.out, rfl⟩, hb1⟩
  | true =>
    have HY1 : Hid (RightV n1 M1) := Lib.hid (hd1.1 rfl)
    clear hd1
    go_wp2_with fail
    refine (right_c n2 A2 cap2 M2 _ (by omega) (HR2.out.below hb1)).mono ?_
    rintro e w2 ⟨d2, rfl, hd2, hb2⟩
    have hB2 : Below w.heap.size w w2 := hb1.trans (hb2.mono hb1.size)
    cases d2 with
    | false =>
      have HNO : Hid (¬ (RightV n1 M1 ∧ RightV n2 M2)) := Lib.hid (fun h => by have := hd2.2 h.2; cases this)
      clear hd2
      go_wp2
      exact bodyPost_ret (v := .tuple #[.slice none 0 0, .iface 38 (.int .i64 1)]) (by simp [results, Try.results114, go_sem, *]) rfl ⟨.inl ⟨HNO.out, rfl⟩, hB2⟩
    | true =>
      have HY2 : Hid (RightV n2 M2) := Lib.hid (hd2.1 rfl)
      clear hd2 hb1 hb2
      go_wp2
      refine wp_fresh ?_
      rintro w3 hb3
      have hk3 : Below (w2.alloc (.cells #[.slice none 0 0, .int .i64 0] 194)).heap.size (w2.alloc (.cells #[.slice none 0 0, .int .i64 0] 194)) w3 := (by repeat (with_reducible (first | exact Below.refl _ _ | assumption | apply ext_drew | apply ext_drewN | apply ext_alloc | apply ext_more | (refine ext_setCell ?_ (by first | assumption | (simp <;> omega)) _) | (refine ext_below ?_ (by assumption)))))
      have Q1 : Blk w3 (w2.heap.size + 1) #[.pointer (some ⟨w2.heap.size, 0, none⟩)] := Blk.below (by repeat (with_reducible (first | assumption | (apply Blk.at; simp; done) | apply Blk.alloc | apply Blk.drew | apply Blk.drewN | apply Blk.more | apply Blk.put | (apply Blk.far; focus (first | assumption | (apply Ne.symm; assumption) | (simp; done) | (simp <;> omega)))))) hb3
      have Q2 : Blk w3 (w2.heap.size + 1 + 1) #[.int .i64 0] := Blk.below (by repeat (with_reducible (first | assumption | (apply Blk.at; simp; done) | apply Blk.alloc | apply Blk.drew | apply Blk.drewN | apply Blk.more | apply Blk.put | (apply Blk.far; focus (first | assumption | (apply Ne.symm; assumption) | (simp; done) | (simp <;> omega)))))) hb3
      have W3 : Wk (fun b => b < w2.heap.size) (w2.alloc (.cells #[.slice none 0 0, .int .i64 0] 194)) w2.heap.size [] := wk_new rfl (fun b h => h) (Below.refl _ _)
      have W4 := W3.fresh hk3
      obtain ⟨S, hS⟩ : ∃ S : Nat → Prop, S = fun b => b < w2.heap.size ∨ ((w2.alloc (.cells #[.slice none 0 0, .int .i64 0] 194)).heap.size ≤ b ∧ b < w3.heap.size) := ⟨_, rfl⟩
      rw [← hS] at W4
      have H0 : Wf S w3 w2.heap.size [] := .inl W4
      have HSL : Hid (∀ b, b < w2.heap.size → S b) := Lib.hid (fun b hb => by rw [hS]; exact .inl hb)
      have HQ : Hid (S (w2.heap.size + 1) ∧ S (w2.heap.size + 1 + 1)) := Lib.hid (by rw [hS]; exact ⟨.inr ⟨by simp, Q1.lt⟩, .inr ⟨by simp, Q2.lt⟩⟩)
      have hB3 : Below w.heap.size w w3 := ext_below (hB2.alloc hB2.size _) hk3
      have hsz := hB2.size
      have hm0 : Mod (fun b => ¬ S b ∨ b = w2.heap.size + 1 + 1) w3 w3 := Mod.refl _ _
      obtain ⟨p, hp⟩ : ∃ p, p = w2.heap.size := ⟨_, rfl⟩
      obtain ⟨q1, hq1⟩ : ∃ q, q = w2.heap.size + 1 := ⟨_, rfl⟩
      obtain ⟨q2, hq2⟩ : ∃ q, q = w2.heap.size + 1 + 1 := ⟨_, rfl⟩
      have HWS : Hid (w.heap.size ≤ p ∧ w.heap.size ≤ q2) := Lib.hid ⟨by omega, by omega⟩
      have HNE : Hid (q1 ≠ q2) := Lib.hid (by omega)
      rw [← hq2, ← hq1] at HQ
      rw [← hp] at H0 HSL
      rw [← hq1, ← hp] at Q1
      rw [← hq2] at Q2 hm0
      rw [← hq2, ← hq1, ← hp]
      have HBE : Hid (∀ wx, Mod (fun b => ¬ S b ∨ b = q2) w3 wx → Below w.heap.size w wx) := Lib.hid (fun wx hm => hB3.trans (hm.toBelow hB3.size (fun b hb e => by
        rcases e with e | e
        · exact e (HSL.out b (Nat.lt_of_lt_of_le hb HWS.out.1))
        · have := HWS.out.2; omega)))
      clear hb3 hk3 W3 W4 hS hB3 hsz hp hq1 hq2 hB2
      go_loopw [9, 10] (fun ti tk wr => ∃ (i k f : Nat) (last : Int) (L : List Nat), i ≤ n1 ∧ k ≤ n2 ∧ ti = .int .i64 i ∧ tk = .int .i64 k ∧ n1 + n2 ≤ i + k + f ∧ L ++ restF M1 n1 M2 n2 f i k last = deltaL M1 n1 M2 n2 ∧ 0 ≤ last ∧ (i < n1 → last < M1 i 0) ∧ (k < n2 → last < M2 k 0) ∧ Wf S wr p L ∧ Blk wr q1 #[.pointer (some ⟨p, 0, none⟩)] ∧ Blk wr q2 #[.int .i64 last] ∧ Mod (fun b => ¬ S b ∨ b = q2) w3 wr) (fun ti tk _ => n1 + n2 - (intOf ti).toNat - (intOf tk).toNat)
      case atStart => exact ⟨0, 0, n1 + n2, 0, [], by omega, by omega, rfl, rfl, by omega, rfl, by omega, fun h => by have := HY1.out.pos h; omega, fun h => by have := HY2.out.pos h; omega, H0, Q1, Q2, hm0⟩
      case round =>
        obtain ⟨i, k, f, last, L, hi, hk, rfl, rfl, hf, hL, hl0, hl1, hl2, hW, hQ1, hQ2, hM⟩ := hrel
        have hBr := HBE.out _ hM
        have HR1' := Lib.hid (HR1.out.below hBr)
        have HR2' := Lib.hid (HR2.out.below hBr)
        have HL := Lib.hid hL
        have HW := Lib.hid hW
        have HM := Lib.hid hM
        have HBr := Lib.hid hBr
        clear hL hW hM H0 Q1 Q2 hm0 hBr
        obtain ⟨z1, c1, f1⟩ := id hQ1
        by_cases hg : Gone M1 n1 M2 n2 i k
        · obtain ⟨g, hgf, hgr⟩ := rest_gone (last := last) hf hi hk hg
          have hin : i < n1 := hg.1
          have HG : Hid (L ++ headL 0 (M1 i 0) last ++ restF M1 n1 M2 n2 g (i + 1) k (M1 i 0) = deltaL M1 n1 M2 n2) := Lib.hid (by rw [List.append_assoc, ← hgr]; exact HL.out)
          have HT : Hid ((i + 1 < n1 → M1 i 0 < M1 (i + 1) 0) ∧ (k < n2 → M1 i 0 < M2 k 0) ∧ last < M1 i 0 ∧ M1 i 0 ≤ 1099511627776) := Lib.hid ⟨fun h => HY1.out.ids (by omega) h, hg.2, hl1 hin, HY1.out.top hin⟩
          obtain ⟨bA, oA, rfl, hbA, hcA⟩ := HR1'.out (by omega)
          have a0 : wr.cell? ⟨bA, oA + i * 11, none⟩ = some (.int .i64 (M1 i 0)) := hcA i hin 0 (by decide)
          clear hgr hcA hl1 hl2
          by_cases hk2 : k < n2
          · have hlt : M1 i 0 < M2 k 0 := hg.2 hk2
            clear hg
            obtain ⟨bB, oB, rfl, hbB, hcB⟩ := HR2'.out (by omega)
            have b0 : wr.cell? ⟨bB, oB + k * 11, none⟩ = some (.int .i64 (M2 k 0)) := hcB k hk2 0 (by decide)
            have dk : ((k : Int) == (n2 : Int)) = false := by simpa using (by omega : ¬ (k : Int) = n2)
            clear hcB
            have hmc := more_cell
            go_wp2_with fail
            refine region_quiet_all (by kernel_rfl) (by kernel_rfl) ?_
            repeat (go_big_quiet_step (fail))
            refine wpQuiet_nil ?_
            rintro w4 hw4
            have hb4 := after_below hw4
            have HW4 := Lib.hid (HW.out.below hb4)
            have Q1' := hQ1.below hb4
            have Q2' := hQ2.below hb4
            have HM4 := Lib.hid (HM.out.below hb4)
            have a0' : w4.cell? ⟨bA, oA + i * 11, none⟩ = some (.int .i64 (M1 i 0)) := (hb4.cell (p := ⟨bA, oA + i * 11, none⟩) hbA).trans a0
            clear hw4 hb4 hmc a0 hQ1 hQ2 HW HM z1 c1 f1
            go_wp2_with fail
            refine (head_k S p q1 q2 0 _ (M1 i 0) last L _ HW4.out rfl (by decide) Q1' Q2' HQ.out.1 HQ.out.2 ⟨HT.out.2.2.1, HT.out.2.2.2, hl0⟩).mono ?_
            rintro e w5 ⟨rfl, H5, Q5, hm5⟩
            have Q1'' := Q1'.mod hm5 (fun e => e.elim (fun h => h HQ.out.1) HNE.out)
            have HM5 := Lib.hid (HM4.out.trans hm5)
            have H5 := Lib.hid H5
            clear hm5 Q1' Q2' HW4 HM4 a0'
            go_wp2
            go_roundw
            case rel => exact ⟨i + 1, k, g, M1 i 0, _, by omega, by omega, by go_num, rfl, hgf, HG.out, by have := HT.out.2.2.1; omega, HT.out.1, HT.out.2.1, H5.out, Q1'', Q5, HM5.out⟩
            case measure => simp [intOf]; omega
          · have dk : ((k : Int) == (n2 : Int)) = true := by simpa using (by omega : (k : Int) = n2)
            clear hg
            have hmc := more_cell
            go_wp2_with fail
            refine region_quiet_all (by kernel_rfl) (by kernel_rfl) ?_
            repeat (go_big_quiet_step (fail))
            refine wpQuiet_nil ?_
            rintro w4 hw4
            have hb4 := after_below hw4
            have HW4 := Lib.hid (HW.out.below hb4)
            have Q1' := hQ1.below hb4
            have Q2' := hQ2.below hb4
            have HM4 := Lib.hid (HM.out.below hb4)
            have a0' : w4.cell? ⟨bA, oA + i * 11, none⟩ = some (.int .i64 (M1 i 0)) := (hb4.cell (p := ⟨bA, oA + i * 11, none⟩) hbA).trans a0
            clear hw4 hb4 hmc a0 hQ1 hQ2 HW HM z1 c1 f1
            go_wp2_with fail
            refine (head_k S p q1 q2 0 _ (M1 i 0) last L _ HW4.out rfl (by decide) Q1' Q2' HQ.out.1 HQ.out.2 ⟨HT.out.2.2.1, HT.out.2.2.2, hl0⟩).mono ?_
            rintro e w5 ⟨rfl, H5, Q5, hm5⟩
            have Q1'' := Q1'.mod hm5 (fun e => e.elim (fun h => h HQ.out.1) HNE.out)
            have HM5 := Lib.hid (HM4.out.trans hm5)
            have H5 := Lib.hid H5
            clear hm5 Q1' Q2' HW4 HM4 a0'
            go_wp2
            go_roundw
            case rel => exact ⟨i + 1, k, g, M1 i 0, _, by omega, by omega, by go_num, rfl, hgf, HG.out, by have := HT.out.2.2.1; omega, HT.out.1, HT.out.2.1, H5.out, Q1'', Q5, HM5.out⟩
            case measure => simp [intOf]; omega
        · by_cases hc : Came M1 n1 M2 n2 i k
          · obtain ⟨g, hgf, hgr⟩ := rest_came (last := last) hf hi hk hg hc
            have hkn : k < n2 := hc.1
            have HG : Hid (L ++ headL 1 (M2 k 0) last ++ newL M2 k ++ restF M1 n1 M2 n2 g i (k + 1) (M2 k 0) = deltaL M1 n1 M2 n2) := Lib.hid (by rw [List.append_assoc, List.append_assoc, ← List.append_assoc (headL _ _ _), ← hgr]; exact HL.out)
            have HT : Hid ((i < n1 → M2 k 0 < M1 i 0) ∧ (k + 1 < n2 → M2 k 0 < M2 (k + 1) 0) ∧ last < M2 k 0 ∧ M2 k 0 ≤ 1099511627776) := Lib.hid ⟨hc.2, fun h => HY2.out.ids (by omega) h, hl2 hkn, HY2.out.top hkn⟩
            have HKK : Hid (0 ≤ M2 k 1 ∧ M2 k 1 ≤ 7) := Lib.hid (HY2.out.row hkn).1.2.2
            obtain ⟨bB, oB, rfl, hbB, hcB⟩ := HR2'.out (by omega)
            have b0 : wr.cell? ⟨bB, oB + k * 11, none⟩ = some (.int .i64 (M2 k 0)) := hcB k hkn 0 (by decide)
            have HB0 := Lib.hid b0
            have dk : ((k : Int) == (n2 : Int)) = false := by simpa using (by omega : ¬ (k : Int) = n2)
            clear hgr hcB hl1 hl2 hg hc
            by_cases hin : i < n1
            · have hlt : M2 k 0 < M1 i 0 := HT.out.1 hin
              obtain ⟨bA, oA, rfl, hbA, hcA⟩ := HR1'.out (by omega)
              have a0 : wr.cell? ⟨bA, oA + i * 11, none⟩ = some (.int .i64 (M1 i 0)) := hcA i hin 0 (by decide)
              have d1 : decide (M1 i 0 < M2 k 0) = false := decide_eq_false (by omega)
              have d2 : decide (M2 k 0 < M1 i 0) = true := decide_eq_true hlt
              have di : ((i : Int) == (n1 : Int)) = false := by simpa using (by omega : ¬ (i : Int) = n1)
              clear hcA hlt
              have hmc := more_cell
              go_wp2_with fail
              refine region_quiet_all (by kernel_rfl) (by kernel_rfl) ?_
              repeat (go_big_quiet_step (fail))
              refine wpQuiet_nil ?_
              rintro w4 hw4
              have hb4 := after_below hw4
              have a4 : w4.cell? ⟨bA, oA + i * 11, none⟩ = some (.int .i64 (M1 i 0)) := (hb4.cell (p := ⟨bA, oA + i * 11, none⟩) hbA).trans a0
              have hA4 := Nat.lt_of_lt_of_le hbA hb4.size
              have b4 : w4.cell? ⟨bB, oB + k * 11, none⟩ = some (.int .i64 (M2 k 0)) := (hb4.cell (p := ⟨bB, oB + k * 11, none⟩) hbB).trans b0
              have hB4 := Nat.lt_of_lt_of_le hbB hb4.size
              clear hw4 b0 z1 c1 f1
              go_wp2_with fail
              refine region_quiet_all (by kernel_rfl) (by kernel_rfl) ?_
              repeat (go_big_quiet_step (fail))
              refine wpQuiet_nil ?_
              rintro w5 hw5
              have hb5 := ext_below hb4 (after_below hw5)
              have b5 : w5.cell? ⟨bB, oB + k * 11, none⟩ = some (.int .i64 (M2 k 0)) := (hb5.cell (p := ⟨bB, oB + k * 11 + 0, none⟩) hbB).trans (HB0.out)
              have HW5 := Lib.hid (HW.out.below hb5)
              have Q15 := hQ1.below hb5
              have Q25 := hQ2.below hb5
              have HM5 := Lib.hid (HM.out.below hb5)
              clear hw5 hb4 hb5 b4 hB4 hQ1 hQ2 HW HM hmc a0 a4 hA4
              go_wp2_with fail
              refine (head_k S p q1 q2 1 _ (M2 k 0) last L _ HW5.out rfl (by decide) Q15 Q25 HQ.out.1 HQ.out.2 ⟨HT.out.2.2.1, HT.out.2.2.2, hl0⟩).mono ?_
              rintro e w6 ⟨rfl, H6, Q26, hm6⟩
              have Q16 := Q15.mod hm6 (fun e => e.elim (fun h => h HQ.out.1) HNE.out)
              have HM6 := Lib.hid (HM5.out.trans hm6)
              have HB6 := HBE.out _ HM6.out
              have HS6 := Lib.hid (HR2.out.below HB6)
              have H6 := Lib.hid H6
              clear hm6 Q15 Q25 HW5 HM5 b5 HB6
              obtain ⟨bD, oD, eB, hbD, hcD⟩ := HS6.out (by omega)
              cases eB
              have bk : w6.cell? ⟨bB, oB + k * 11 + 1, none⟩ = some (.int .i64 (M2 k 1)) := by rw [Nat.add_assoc]; exact hcD k hkn 1 (by decide)
              clear hcD
              obtain ⟨z6, c6, f6⟩ := id Q16
              have hmc := more_cell
              go_wp2_with fail
              refine region_quiet_but 6 (by kernel_rfl) (by kernel_rfl) ?_
              simp only [List.take_succ_cons, List.take_zero, List.drop_succ_cons, List.drop_zero]
              repeat (go_big_quiet_step (fail))
              refine wpQuiet_nil ?_
              rintro w7 hw7
              have hb7 := after_below hw7
              have HW7 := Lib.hid (H6.out.below hb7)
              have Q17 := Q16.below hb7
              have Q27 := Q26.below hb7
              have HM7 := Lib.hid (HM6.out.below hb7)
              clear hw7 hb7 Q16 Q26 H6 HM6 z6 c6 f6 hmc hbD bk
              go_wp2_with fail
              refine (put_k S p (L ++ headL 1 (M2 k 0) last) _ _ _ (M2 k 1).toNat 3 HW7.out (by have := HKK.out; omega) rfl (by decide) (by have := HKK.out; omega)).mono ?_
              rintro e w8 ⟨⟨v8, rfl⟩, H8, hm8⟩
              have Q18 := Q17.mod hm8 (fun h => h HQ.out.1)
              have Q28 := Q27.mod hm8 (fun h => h HQ.out.2)
              have HM8 := Lib.hid (HM7.out.trans (hm8.mono fun b _ h => .inl h))
              have HB8 := HBE.out _ HM8.out
              have HS8 := Lib.hid (HR2.out.below HB8)
              have H8 := Lib.hid H8
              clear hm8 Q17 Q27 HW7 HM7 HB8
              obtain ⟨bD, oD, eB, hbD, hcD⟩ := HS8.out (by omega)
              cases eB
              have hS9 : w8.cell? ⟨bB, oB + k * 11 + 2, none⟩ = some (.int .i64 (M2 k 2)) ∧ w8.cell? ⟨bB, oB + k * 11 + 2 + 1, none⟩ = some (.int .i64 (M2 k 3)) ∧ w8.cell? ⟨bB, oB + k * 11 + 2 + 2, none⟩ = some (.int .i64 (M2 k 4)) ∧ w8.cell? ⟨bB, oB + k * 11 + 5, none⟩ = some (.int .i64 (M2 k 5)) ∧ w8.cell? ⟨bB, oB + k * 11 + 5 + 1, none⟩ = some (.int .i64 (M2 k 6)) ∧ w8.cell? ⟨bB, oB + k * 11 + 5 + 2, none⟩ = some (.int .i64 (M2 k 7)) ∧ w8.cell? ⟨bB, oB + k * 11 + 8, none⟩ = some (.int .i64 (M2 k 8)) ∧ w8.cell? ⟨bB, oB + k * 11 + 8 + 1, none⟩ = some (.int .i64 (M2 k 9)) ∧ w8.cell? ⟨bB, oB + k * 11 + 8 + 2, none⟩ = some (.int .i64 (M2 k 10)) ∧ bB < w8.heap.size := ⟨by have := hcD k hkn 2 (by decide); rwa [← Nat.add_assoc] at this, by have := hcD k hkn 3 (by decide); rwa [← Nat.add_assoc] at this, by have := hcD k hkn 4 (by decide); rwa [← Nat.add_assoc] at this, by have := hcD k hkn 5 (by decide); rwa [← Nat.add_assoc] at this, by have := hcD k hkn 6 (by decide); rwa [← Nat.add_assoc] at this, by have := hcD k hkn 7 (by decide); rwa [← Nat.add_assoc] at this, by have := hcD k hkn 8 (by decide); rwa [← Nat.add_assoc] at this, by have := hcD k hkn 9 (by decide); rwa [← Nat.add_assoc] at this, by have := hcD k hkn 10 (by decide); rwa [← Nat.add_assoc] at this, hbD⟩
              clear hcD
              go_wp2_with fail
              go_region_held3 (fun w' => w'.cell? ⟨bB, oB + k * 11 + 2, none⟩ = some (.int .i64 (M2 k 2)) ∧ w'.cell? ⟨bB, oB + k * 11 + 2 + 1, none⟩ = some (.int .i64 (M2 k 3)) ∧ w'.cell? ⟨bB, oB + k * 11 + 2 + 2, none⟩ = some (.int .i64 (M2 k 4)) ∧ w'.cell? ⟨bB, oB + k * 11 + 5, none⟩ = some (.int .i64 (M2 k 5)) ∧ w'.cell? ⟨bB, oB + k * 11 + 5 + 1, none⟩ = some (.int .i64 (M2 k 6)) ∧ w'.cell? ⟨bB, oB + k * 11 + 5 + 2, none⟩ = some (.int .i64 (M2 k 7)) ∧ w'.cell? ⟨bB, oB + k * 11 + 8, none⟩ = some (.int .i64 (M2 k 8)) ∧ w'.cell? ⟨bB, oB + k * 11 + 8 + 1, none⟩ = some (.int .i64 (M2 k 9)) ∧ w'.cell? ⟨bB, oB + k * 11 + 8 + 2, none⟩ = some (.int .i64 (M2 k 10)) ∧ bB < w'.heap.size) (first | assumption | (with_reducible exact keep9_drew (by assumption)) | (with_reducible exact keep9_drewN (by assumption) _) | (with_reducible exact keep9_alloc (by assumption) _) | (with_reducible exact keep9_drew (keep9_alloc (by assumption) _)) | (with_reducible exact keep9_drewN (keep9_alloc (by assumption) _) _)) (fail)
              go_wp2
              refine wp_fresh ?_
              rintro w9 hb9
              have U9 : Blk w9 w8.heap.size #[.int .i64 (M2 k 2), .int .i64 (M2 k 3), .int .i64 (M2 k 4), .int .i64 (M2 k 5), .int .i64 (M2 k 6), .int .i64 (M2 k 7), .int .i64 (M2 k 8), .int .i64 (M2 k 9), .int .i64 (M2 k 10)] := Blk.below (by repeat (with_reducible (first | assumption | (apply Blk.at; simp; done) | apply Blk.alloc | apply Blk.drew | apply Blk.drewN | apply Blk.more | apply Blk.put | (apply Blk.far; focus (first | assumption | (apply Ne.symm; assumption) | (simp; done) | (simp <;> omega)))))) hb9
              have hv9 : Below w8.heap.size w8 w9 := (by repeat (with_reducible (first | exact Below.refl _ _ | assumption | apply ext_drew | apply ext_drewN | apply ext_alloc | apply ext_more | (refine ext_setCell ?_ (by first | assumption | (simp <;> omega)) _) | (refine ext_below ?_ (by assumption)))))
              obtain ⟨S1, hS1⟩ : ∃ S1 : Nat → Prop, S1 = fun b => S b ∨ (w8.heap.size ≤ b ∧ b < w9.heap.size) := ⟨_, rfl⟩
              have H9 : Wf S1 w9 p (L ++ headL 1 (M2 k 0) last ++ bitsOf 3 (M2 k 1).toNat) := by rw [hS1]; exact H8.out.fresh hv9
              have HSB : Hid (∀ b, S b → S1 b) := Lib.hid (fun b hb => by rw [hS1]; exact .inl hb)
              have HCU : Hid (S1 w8.heap.size) := Lib.hid (by rw [hS1]; exact .inr ⟨Nat.le_refl _, U9.lt⟩)
              have HV9 : Hid (Mod (fun b => ¬ S b) w8 w9) := Lib.hid (Mod.of_below hv9)
              have Q19 := Q18.below hv9
              have Q29 := Q28.below hv9
              obtain ⟨u, hu⟩ : ∃ u, u = w8.heap.size := ⟨_, rfl⟩
              rw [← hu] at U9 HCU
              rw [← hu]
              clear hS1 hb9 hv9 hS9 hbD Q18 Q28 H8 hu
              obtain ⟨zu, cu, fu⟩ := id U9
              obtain ⟨zq, cq, fq⟩ := id Q19
              refine wp_loop_rounds 4 ?_
              rw [rounds_succ]
              go_wp2_with fail
              refine calls_fresh ?_
              rintro w10 hb10
              have hv10 : Below w9.heap.size w9 w10 := (by repeat (with_reducible (first | exact Below.refl _ _ | assumption | apply ext_drew | apply ext_drewN | apply ext_alloc | apply ext_more | (refine ext_setCell ?_ (by first | assumption | (simp <;> omega)) _) | (refine ext_below ?_ (by assumption)))))
              have HH10 := Lib.hid (H9.below hv10)
              have U10 := U9.below hv10
              have Q110 := Q19.below hv10
              have Q210 := Q29.below hv10
              have HV10 : Hid (Mod (fun b => ¬ S1 b) w9 w10) := Lib.hid (Mod.of_below hv10)
              clear hb10 hv10 H9 U9 Q19 Q29 zu cu fu zq cq fq
              refine (vec_k S1 p (L ++ headL 1 (M2 k 0) last ++ bitsOf 3 (M2 k 1).toNat) (M2 k 2) (M2 k 3) (M2 k 4) 0 0 0 _ HH10.out ((HY2.out.row hkn).2 2 (by decide) (by decide)) ((HY2.out.row hkn).2 3 (by decide) (by decide)) ((HY2.out.row hkn).2 4 (by decide) (by decide)) (by decide) (by decide) (by decide)).mono ?_
              rintro e w11 ⟨rfl, H11, hm11⟩
              have U11 := U10.mod hm11 (fun h => h HCU.out)
              have Q111 := Q110.mod hm11 (fun h => h (HSB.out _ HQ.out.1))
              have Q211 := Q210.mod hm11 (fun h => h (HSB.out _ HQ.out.2))
              have HV11 := Lib.hid hm11
              clear hm11 HH10 U10 Q110 Q210
              obtain ⟨zu, cu, fu⟩ := id U11
              obtain ⟨zq, cq, fq⟩ := id Q111
              go_wp2
              rw [rounds_succ]
              go_wp2_with fail
              refine calls_fresh ?_
              rintro w12 hb12
              have hv12 : Below w11.heap.size w11 w12 := (by repeat (with_reducible (first | exact Below.refl _ _ | assumption | apply ext_drew | apply ext_drewN | apply ext_alloc | apply ext_more | (refine ext_setCell ?_ (by first | assumption | (simp <;> omega)) _) | (refine ext_below ?_ (by assumption)))))
              have HH12 := Lib.hid (H11.below hv12)
              have U12 := U11.below hv12
              have Q112 := Q111.below hv12
              have Q212 := Q211.below hv12
              have HV12 : Hid (Mod (fun b => ¬ S1 b) w11 w12) := Lib.hid (Mod.of_below hv12)
              clear hb12 hv12 H11 U11 Q111 Q211 zu cu fu zq cq fq
              refine (vec_k S1 p (L ++ headL 1 (M2 k 0) last ++ bitsOf 3 (M2 k 1).toNat ++ vec3L ((M2 k 2) - 0) ((M2 k 3) - 0) ((M2 k 4) - 0)) (M2 k 5) (M2 k 6) (M2 k 7) 0 0 0 _ HH12.out ((HY2.out.row hkn).2 5 (by decide) (by decide)) ((HY2.out.row hkn).2 6 (by decide) (by decide)) ((HY2.out.row hkn).2 7 (by decide) (by decide)) (by decide) (by decide) (by decide)).mono ?_
              rintro e w13 ⟨rfl, H13, hm13⟩
              have U13 := U12.mod hm13 (fun h => h HCU.out)
              have Q113 := Q112.mod hm13 (fun h => h (HSB.out _ HQ.out.1))
              have Q213 := Q212.mod hm13 (fun h => h (HSB.out _ HQ.out.2))
              have HV13 := Lib.hid hm13
              clear hm13 HH12 U12 Q112 Q212
              obtain ⟨zu, cu, fu⟩ := id U13
              obtain ⟨zq, cq, fq⟩ := id Q113
              go_wp2
              rw [rounds_succ]
              go_wp2_with fail
              refine calls_fresh ?_
              rintro w14 hb14
              have hv14 : Below w13.heap.size w13 w14 := (by repeat (with_reducible (first | exact Below.refl _ _ | assumption | apply ext_drew | apply ext_drewN | apply ext_alloc | apply ext_more | (refine ext_setCell ?_ (by first | assumption | (simp <;> omega)) _) | (refine ext_below ?_ (by assumption)))))
              have HH14 := Lib.hid (H13.below hv14)
              have U14 := U13.below hv14
              have Q114 := Q113.below hv14
              have Q214 := Q213.below hv14
              have HV14 : Hid (Mod (fun b => ¬ S1 b) w13 w14) := Lib.hid (Mod.of_below hv14)
              clear hb14 hv14 H13 U13 Q113 Q213 zu cu fu zq cq fq
              refine (vec_k S1 p (L ++ headL 1 (M2 k 0) last ++ bitsOf 3 (M2 k 1).toNat ++ vec3L ((M2 k 2) - 0) ((M2 k 3) - 0) ((M2 k 4) - 0) ++ vec3L ((M2 k 5) - 0) ((M2 k 6) - 0) ((M2 k 7) - 0)) (M2 k 8) (M2 k 9) (M2 k 10) 0 0 0 _ HH14.out ((HY2.out.row hkn).2 8 (by decide) (by decide)) ((HY2.out.row hkn).2 9 (by decide) (by decide)) ((HY2.out.row hkn).2 10 (by decide) (by decide)) (by decide) (by decide) (by decide)).mono ?_
              rintro e w15 ⟨rfl, H15, hm15⟩
              have U15 := U14.mod hm15 (fun h => h HCU.out)
              have Q115 := Q114.mod hm15 (fun h => h (HSB.out _ HQ.out.1))
              have Q215 := Q214.mod hm15 (fun h => h (HSB.out _ HQ.out.2))
              have HV15 := Lib.hid hm15
              clear hm15 HH14 U14 Q114 Q214
              obtain ⟨zu, cu, fu⟩ := id U15
              obtain ⟨zq, cq, fq⟩ := id Q115
              go_wp2
              rw [rounds_succ]
              go_wp2
              go_roundw
              case rel =>
                have e : L ++ headL 1 (M2 k 0) last ++ bitsOf 3 (M2 k 1).toNat ++ vec3L ((M2 k 2) - 0) ((M2 k 3) - 0) ((M2 k 4) - 0) ++ vec3L ((M2 k 5) - 0) ((M2 k 6) - 0) ((M2 k 7) - 0) ++ vec3L ((M2 k 8) - 0) ((M2 k 9) - 0) ((M2 k 10) - 0) = L ++ headL 1 (M2 k 0) last ++ newL M2 k := by
                  unfold newL
                  simp only [Int.sub_zero, List.append_assoc]
                rw [e] at H15
                exact ⟨i, k + 1, g, M2 k 0, _, by omega, by omega, by go_num, by go_num, hgf, HG.out, by have := HT.out.2.2.1; omega, HT.out.1, HT.out.2.1, H15.mono HSB.out, Q115, Q215, HM8.out.trans ((HV9.out.trans ((((((HV10.out.trans HV11.out).trans HV12.out).trans HV13.out).trans HV14.out).trans HV15.out).mono fun b _ h hb => h (HSB.out b hb))).mono fun b _ h => .inl h)⟩
              case measure => simp [intOf]; omega
            · have d1 : decide ((i : Int) < (n1 : Int)) = false := decide_eq_false (by omega)
              have di : ((i : Int) == (n1 : Int)) = true := by simpa using (by omega : (i : Int) = n1)
              have hmc := more_cell
              go_wp2_with fail
              refine region_quiet_all (by kernel_rfl) (by kernel_rfl) ?_
              repeat (go_big_quiet_step (fail))
              refine wpQuiet_nil ?_
              rintro w4 hw4
              have hb4 := after_below hw4
              have b4 : w4.cell? ⟨bB, oB + k * 11, none⟩ = some (.int .i64 (M2 k 0)) := (hb4.cell (p := ⟨bB, oB + k * 11, none⟩) hbB).trans b0
              have hB4 := Nat.lt_of_lt_of_le hbB hb4.size
              clear hw4 b0 z1 c1 f1
              go_wp2_with fail
              refine region_quiet_all (by kernel_rfl) (by kernel_rfl) ?_
              repeat (go_big_quiet_step (fail))
              refine wpQuiet_nil ?_
              rintro w5 hw5
              have hb5 := ext_below hb4 (after_below hw5)
              have b5 : w5.cell? ⟨bB, oB + k * 11, none⟩ = some (.int .i64 (M2 k 0)) := (hb5.cell (p := ⟨bB, oB + k * 11 + 0, none⟩) hbB).trans (HB0.out)
              have HW5 := Lib.hid (HW.out.below hb5)
              have Q15 := hQ1.below hb5
              have Q25 := hQ2.below hb5
              have HM5 := Lib.hid (HM.out.below hb5)
              clear hw5 hb4 hb5 b4 hB4 hQ1 hQ2 HW HM hmc di
              go_wp2_with fail
              refine (head_k S p q1 q2 1 _ (M2 k 0) last L _ HW5.out rfl (by decide) Q15 Q25 HQ.out.1 HQ.out.2 ⟨HT.out.2.2.1, HT.out.2.2.2, hl0⟩).mono ?_
              rintro e w6 ⟨rfl, H6, Q26, hm6⟩
              have Q16 := Q15.mod hm6 (fun e => e.elim (fun h => h HQ.out.1) HNE.out)
              have HM6 := Lib.hid (HM5.out.trans hm6)
              have HB6 := HBE.out _ HM6.out
              have HS6 := Lib.hid (HR2.out.below HB6)
              have H6 := Lib.hid H6
              clear hm6 Q15 Q25 HW5 HM5 b5 HB6
              obtain ⟨bD, oD, eB, hbD, hcD⟩ := HS6.out (by omega)
              cases eB
              have bk : w6.cell? ⟨bB, oB + k * 11 + 1, none⟩ = some (.int .i64 (M2 k 1)) := by rw [Nat.add_assoc]; exact hcD k hkn 1 (by decide)
              clear hcD
              obtain ⟨z6, c6, f6⟩ := id Q16
              have hmc := more_cell
              go_wp2_with fail
              refine region_quiet_but 6 (by kernel_rfl) (by kernel_rfl) ?_
              simp only [List.take_succ_cons, List.take_zero, List.drop_succ_cons, List.drop_zero]
              repeat (go_big_quiet_step (fail))
              refine wpQuiet_nil ?_
              rintro w7 hw7
              have hb7 := after_below hw7
              have HW7 := Lib.hid (H6.out.below hb7)
              have Q17 := Q16.below hb7
              have Q27 := Q26.below hb7
              have HM7 := Lib.hid (HM6.out.below hb7)
              clear hw7 hb7 Q16 Q26 H6 HM6 z6 c6 f6 hmc hbD bk
              go_wp2_with fail
              refine (put_k S p (L ++ headL 1 (M2 k 0) last) _ _ _ (M2 k 1).toNat 3 HW7.out (by have := HKK.out; omega) rfl (by decide) (by have := HKK.out; omega)).mono ?_
              rintro e w8 ⟨⟨v8, rfl⟩, H8, hm8⟩
              have Q18 := Q17.mod hm8 (fun h => h HQ.out.1)
              have Q28 := Q27.mod hm8 (fun h => h HQ.out.2)
              have HM8 := Lib.hid (HM7.out.trans (hm8.mono fun b _ h => .inl h))
              have HB8 := HBE.out _ HM8.out
              have HS8 := Lib.hid (HR2.out.below HB8)
              have H8 := Lib.hid H8
              clear hm8 Q17 Q27 HW7 HM7 HB8
              obtain ⟨bD, oD, eB, hbD, hcD⟩ := HS8.out (by omega)
              cases eB
              have hS9 : w8.cell? ⟨bB, oB + k * 11 + 2, none⟩ = some (.int .i64 (M2 k 2)) ∧ w8.cell? ⟨bB, oB + k * 11 + 2 + 1, none⟩ = some (.int .i64 (M2 k 3)) ∧ w8.cell? ⟨bB, oB + k * 11 + 2 + 2, none⟩ = some (.int .i64 (M2 k 4)) ∧ w8.cell? ⟨bB, oB + k * 11 + 5, none⟩ = some (.int .i64 (M2 k 5)) ∧ w8.cell? ⟨bB, oB + k * 11 + 5 + 1, none⟩ = some (.int .i64 (M2 k 6)) ∧ w8.cell? ⟨bB, oB + k * 11 + 5 + 2, none⟩ = some (.int .i64 (M2 k 7)) ∧ w8.cell? ⟨bB, oB + k * 11 + 8, none⟩ = some (.int .i64 (M2 k 8)) ∧ w8.cell? ⟨bB, oB + k * 11 + 8 + 1, none⟩ = some (.int .i64 (M2 k 9)) ∧ w8.cell? ⟨bB, oB + k * 11 + 8 + 2, none⟩ = some (.int .i64 (M2 k 10)) ∧ bB < w8.heap.size := ⟨by have := hcD k hkn 2 (by decide); rwa [← Nat.add_assoc] at this, by have := hcD k hkn 3 (by decide); rwa [← Nat.add_assoc] at this, by have := hcD k hkn 4 (by decide); rwa [← Nat.add_assoc] at this, by have := hcD k hkn 5 (by decide); rwa [← Nat.add_assoc] at this, by have := hcD k hkn 6 (by decide); rwa [← Nat.add_assoc] at this, by have := hcD k hkn 7 (by decide); rwa [← Nat.add_assoc] at this, by have := hcD k hkn 8 (by decide); rwa [← Nat.add_assoc] at this, by have := hcD k hkn 9 (by decide); rwa [← Nat.add_assoc] at this, by have := hcD k hkn 10 (by decide); rwa [← Nat.add_assoc] at this, hbD⟩
              clear hcD
              go_wp2_with fail
              go_region_held3 (fun w' => w'.cell? ⟨bB, oB + k * 11 + 2, none⟩ = some (.int .i64 (M2 k 2)) ∧ w'.cell? ⟨bB, oB + k * 11 + 2 + 1, none⟩ = some (.int .i64 (M2 k 3)) ∧ w'.cell? ⟨bB, oB + k * 11 + 2 + 2, none⟩ = some (.int .i64 (M2 k 4)) ∧ w'.cell? ⟨bB, oB + k * 11 + 5, none⟩ = some (.int .i64 (M2 k 5)) ∧ w'.cell? ⟨bB, oB + k * 11 + 5 + 1, none⟩ = some (.int .i64 (M2 k 6)) ∧ w'.cell? ⟨bB, oB + k * 11 + 5 + 2, none⟩ = some (.int .i64 (M2 k 7)) ∧ w'.cell? ⟨bB, oB + k * 11 + 8, none⟩ = some (.int .i64 (M2 k 8)) ∧ w'.cell? ⟨bB, oB + k * 11 + 8 + 1, none⟩ = some (.int .i64 (M2 k 9)) ∧ w'.cell? ⟨bB, oB + k * 11 + 8 + 2, none⟩ = some (.int .i64 (M2 k 10)) ∧ bB < w'.heap.size) (first | assumption | (with_reducible exact keep9_drew (by assumption)) | (with_reducible exact keep9_drewN (by assumption) _) | (with_reducible exact keep9_alloc (by assumption) _) | (with_reducible exact keep9_drew (keep9_alloc (by assumption) _)) | (with_reducible exact keep9_drewN (keep9_alloc (by assumption) _) _)) (fail)
              go_wp2
              refine wp_fresh ?_
              rintro w9 hb9
              have U9 : Blk w9 w8.heap.size #[.int .i64 (M2 k 2), .int .i64 (M2 k 3), .int .i64 (M2 k 4), .int .i64 (M2 k 5), .int .i64 (M2 k 6), .int .i64 (M2 k 7), .int .i64 (M2 k 8), .int .i64 (M2 k 9), .int .i64 (M2 k 10)] := Blk.below (by repeat (with_reducible (first | assumption | (apply Blk.at; simp; done) | apply Blk.alloc | apply Blk.drew | apply Blk.drewN | apply Blk.more | apply Blk.put | (apply Blk.far; focus (first | assumption | (apply Ne.symm; assumption) | (simp; done) | (simp <;> omega)))))) hb9
              have hv9 : Below w8.heap.size w8 w9 := (by repeat (with_reducible (first | exact Below.refl _ _ | assumption | apply ext_drew | apply ext_drewN | apply ext_alloc | apply ext_more | (refine ext_setCell ?_ (by first | assumption | (simp <;> omega)) _) | (refine ext_below ?_ (by assumption)))))
              obtain ⟨S1, hS1⟩ : ∃ S1 : Nat → Prop, S1 = fun b => S b ∨ (w8.heap.size ≤ b ∧ b < w9.heap.size) := ⟨_, rfl⟩
              have H9 : Wf S1 w9 p (L ++ headL 1 (M2 k 0) last ++ bitsOf 3 (M2 k 1).toNat) := by rw [hS1]; exact H8.out.fresh hv9
              have HSB : Hid (∀ b, S b → S1 b) := Lib.hid (fun b hb => by rw [hS1]; exact .inl hb)
              have HCU : Hid (S1 w8.heap.size) := Lib.hid (by rw [hS1]; exact .inr ⟨Nat.le_refl _, U9.lt⟩)
              have HV9 : Hid (Mod (fun b => ¬ S b) w8 w9) := Lib.hid (Mod.of_below hv9)
              have Q19 := Q18.below hv9
              have Q29 := Q28.below hv9
              obtain ⟨u, hu⟩ : ∃ u, u = w8.heap.size := ⟨_, rfl⟩
              rw [← hu] at U9 HCU
              rw [← hu]
              clear hS1 hb9 hv9 hS9 hbD Q18 Q28 H8 hu
              obtain ⟨zu, cu, fu⟩ := id U9
              obtain ⟨zq, cq, fq⟩ := id Q19
              refine wp_loop_rounds 4 ?_
              rw [rounds_succ]
              go_wp2_with fail
              refine calls_fresh ?_
              rintro w10 hb10
              have hv10 : Below w9.heap.size w9 w10 := (by repeat (with_reducible (first | exact Below.refl _ _ | assumption | apply ext_drew | apply ext_drewN | apply ext_alloc | apply ext_more | (refine ext_setCell ?_ (by first | assumption | (simp <;> omega)) _) | (refine ext_below ?_ (by assumption)))))
              have HH10 := Lib.hid (H9.below hv10)
              have U10 := U9.below hv10
              have Q110 := Q19.below hv10
              have Q210 := Q29.below hv10
              have HV10 : Hid (Mod (fun b => ¬ S1 b) w9 w10) := Lib.hid (Mod.of_below hv10)
              clear hb10 hv10 H9 U9 Q19 Q29 zu cu fu zq cq fq
              refine (vec_k S1 p (L ++ headL 1 (M2 k 0) last ++ bitsOf 3 (M2 k 1).toNat) (M2 k 2) (M2 k 3) (M2 k 4) 0 0 0 _ HH10.out ((HY2.out.row hkn).2 2 (by decide) (by decide)) ((HY2.out.row hkn).2 3 (by decide) (by decide)) ((HY2.out.row hkn).2 4 (by decide) (by decide)) (by decide) (by decide) (by decide)).mono ?_
              rintro e w11 ⟨rfl, H11, hm11⟩
              have U11 := U10.mod hm11 (fun h => h HCU.out)
              have Q111 := Q110.mod hm11 (fun h => h (HSB.out _ HQ.out.1))
              have Q211 := Q210.mod hm11 (fun h => h (HSB.out _ HQ.out.2))
              have HV11 := Lib.hid hm11
              clear hm11 HH10 U10 Q110 Q210
              obtain ⟨zu, cu, fu⟩ := id U11
              obtain ⟨zq, cq, fq⟩ := id Q111
              go_wp2
              rw [rounds_succ]
              go_wp2_with fail
              refine calls_fresh ?_
              rintro w12 hb12
              have hv12 : Below w11.heap.size w11 w12 := (by repeat (with_reducible (first | exact Below.refl _ _ | assumption | apply ext_drew | apply ext_drewN | apply ext_alloc | apply ext_more | (refine ext_setCell ?_ (by first | assumption | (simp <;> omega)) _) | (refine ext_below ?_ (by assumption)))))
              have HH12 := Lib.hid (H11.below hv12)
              have U12 := U11.below hv12
              have Q112 := Q111.below hv12
              have Q212 := Q211.below hv12
              have HV12 : Hid (Mod (fun b => ¬ S1 b) w11 w12) := Lib.hid (Mod.of_below hv12)
              clear hb12 hv12 H11 U11 Q111 Q211 zu cu fu zq cq fq
              refine (vec_k S1 p (L ++ headL 1 (M2 k 0) last ++ bitsOf 3 (M2 k 1).toNat ++ vec3L ((M2 k 2) - 0) ((M2 k 3) - 0) ((M2 k 4) - 0)) (M2 k 5) (M2 k 6) (M2 k 7) 0 0 0 _ HH12.out ((HY2.out.row hkn).2 5 (by decide) (by decide)) ((HY2.out.row hkn).2 6 (by decide) (by decide)) ((HY2.out.row hkn).2 7 (by decide) (by decide)) (by decide) (by decide) (by decide)).mono ?_
              rintro e w13 ⟨rfl, H13, hm13⟩
              have U13 := U12.mod hm13 (fun h => h HCU.out)
              have Q113 := Q112.mod hm13 (fun h => h (HSB.out _ HQ.out.1))
              have Q213 := Q212.mod hm13 (fun h => h (HSB.out _ HQ.out.2))
              have HV13 := Lib.hid hm13
              clear hm13 HH12 U12 Q112 Q212
              obtain ⟨zu, cu, fu⟩ := id U13
              obtain ⟨zq, cq, fq⟩ := id Q113
              go_wp2
              rw [rounds_succ]
              go_wp2_with fail
              refine calls_fresh ?_
              rintro w14 hb14
              have hv14 : Below w13.heap.size w13 w14 := (by repeat (with_reducible (first | exact Below.refl _ _ | assumption | apply ext_drew | apply ext_drewN | apply ext_alloc | apply ext_more | (refine ext_setCell ?_ (by first | assumption | (simp <;> omega)) _) | (refine ext_below ?_ (by assumption)))))
              have HH14 := Lib.hid (H13.below hv14)
              have U14 := U13.below hv14
              have Q114 := Q113.below hv14
              have Q214 := Q213.below hv14
              have HV14 : Hid (Mod (fun b => ¬ S1 b) w13 w14) := Lib.hid (Mod.of_below hv14)
              clear hb14 hv14 H13 U13 Q113 Q213 zu cu fu zq cq fq
              refine (vec_k S1 p (L ++ headL 1 (M2 k 0) last ++ bitsOf 3 (M2 k 1).toNat ++ vec3L ((M2 k 2) - 0) ((M2 k 3) - 0) ((M2 k 4) - 0) ++ vec3L ((M2 k 5) - 0) ((M2 k 6) - 0) ((M2 k 7) - 0)) (M2 k 8) (M2 k 9) (M2 k 10) 0 0 0 _ HH14.out ((HY2.out.row hkn).2 8 (by decide) (by decide)) ((HY2.out.row hkn).2 9 (by decide) (by decide)) ((HY2.out.row hkn).2 10 (by decide) (by decide)) (by decide) (by decide) (by decide)).mono ?_
              rintro e w15 ⟨rfl, H15, hm15⟩
              have U15 := U14.mod hm15 (fun h => h HCU.out)
              have Q115 := Q114.mod hm15 (fun h => h (HSB.out _ HQ.out.1))
              have Q215 := Q214.mod hm15 (fun h => h (HSB.out _ HQ.out.2))
              have HV15 := Lib.hid hm15
              clear hm15 HH14 U14 Q114 Q214
              obtain ⟨zu, cu, fu⟩ := id U15
              obtain ⟨zq, cq, fq⟩ := id Q115
              go_wp2
              rw [rounds_succ]
              go_wp2
              go_roundw
              case rel =>
                have e : L ++ headL 1 (M2 k 0) last ++ bitsOf 3 (M2 k 1).toNat ++ vec3L ((M2 k 2) - 0) ((M2 k 3) - 0) ((M2 k 4) - 0) ++ vec3L ((M2 k 5) - 0) ((M2 k 6) - 0) ((M2 k 7) - 0) ++ vec3L ((M2 k 8) - 0) ((M2 k 9) - 0) ((M2 k 10) - 0) = L ++ headL 1 (M2 k 0) last ++ newL M2 k := by
                  unfold newL
                  simp only [Int.sub_zero, List.append_assoc]
                rw [e] at H15
                exact ⟨i, k + 1, g, M2 k 0, _, by omega, by omega, by go_num, by go_num, hgf, HG.out, by have := HT.out.2.2.1; omega, HT.out.1, HT.out.2.1, H15.mono HSB.out, Q115, Q215, HM8.out.trans ((HV9.out.trans ((((((HV10.out.trans HV11.out).trans HV12.out).trans HV13.out).trans HV14.out).trans HV15.out).mono fun b _ h hb => h (HSB.out b hb))).mono fun b _ h => .inl h)⟩
              case measure => simp [intOf]; omega
          · by_cases hin : i < n1
            · have hkn : k < n2 := by
                by_cases h : k < n2
                · exact h
                · exact absurd ⟨hin, fun h' => absurd h' h⟩ hg
              have heq : M1 i 0 = M2 k 0 := by
                have h1 : ¬ M1 i 0 < M2 k 0 := fun h => hg ⟨hin, fun _ => h⟩
                have h2 : ¬ M2 k 0 < M1 i 0 := fun h => hc ⟨hkn, fun _ => h⟩
                omega
              obtain ⟨bA, oA, rfl, hbA, hcA⟩ := HR1'.out (by omega)
              obtain ⟨bB, oB, rfl, hbB, hcB⟩ := HR2'.out (by omega)
              have a0 : wr.cell? ⟨bA, oA + i * 11, none⟩ = some (.int .i64 (M1 i 0)) := hcA i hin 0 (by decide)
              have b0 : wr.cell? ⟨bB, oB + k * 11, none⟩ = some (.int .i64 (M1 i 0)) := by rw [heq]; exact hcB k hkn 0 (by decide)
              have HLA : Hid (∀ j, j < 11 → wr.cell? ⟨bA, oA + i * 11 + j, none⟩ = some (.int .i64 (M1 i j))) := Lib.hid (fun j hj => by rw [Nat.add_assoc]; exact hcA i hin j hj)
              have HLB : Hid (∀ j, j < 11 → wr.cell? ⟨bB, oB + k * 11 + j, none⟩ = some (.int .i64 (M2 k j))) := Lib.hid (fun j hj => by rw [Nat.add_assoc]; exact hcB k hkn j hj)
              have dk : ((k : Int) == (n2 : Int)) = false := by simpa using (by omega : ¬ (k : Int) = n2)
              have di : ((i : Int) == (n1 : Int)) = false := by simpa using (by omega : ¬ (i : Int) = n1)
              obtain ⟨sb, hsb⟩ : ∃ b : Bool, same11 M1 i M2 k = b := ⟨_, rfl⟩
              have hnq : ∀ w, (binOp .neq 106 (.agg #[.int .i64 (M1 i 0), .int .i64 (M1 i 1), .int .i64 (M1 i 2), .int .i64 (M1 i 3), .int .i64 (M1 i 4), .int .i64 (M1 i 5), .int .i64 (M1 i 6), .int .i64 (M1 i 7), .int .i64 (M1 i 8), .int .i64 (M1 i 9), .int .i64 (M1 i 10)]) (.agg #[.int .i64 (M2 k 0), .int .i64 (M2 k 1), .int .i64 (M2 k 2), .int .i64 (M2 k 3), .int .i64 (M2 k 4), .int .i64 (M2 k 5), .int .i64 (M2 k 6), .int .i64 (M2 k 7), .int .i64 (M2 k 8), .int .i64 (M2 k 9), .int .i64 (M2 k 10)])).run Try.prog w = .ok (.bool (!sb)) w := fun w => by
                rw [run_neq_seen, ← hsb, show (M1 i 0 == M2 k 0) = true by simpa using heq]
                unfold same11 neS ne3 eq3
                cases (M1 i 1 == M2 k 1) <;> simp
              have HT : Hid ((i + 1 < n1 → last < M1 (i + 1) 0) ∧ (k + 1 < n2 → last < M2 (k + 1) 0) ∧ (i + 1 < n1 → M2 k 0 < M1 (i + 1) 0) ∧ (k + 1 < n2 → M2 k 0 < M2 (k + 1) 0) ∧ last < M2 k 0 ∧ M2 k 0 ≤ 1099511627776) := Lib.hid ⟨fun h => by have := HY1.out.ids (i := i) (by omega) h; have := hl1 hin; omega, fun h => by have := HY2.out.ids (i := k) (by omega) h; have := hl2 hkn; omega, fun h => by have := HY1.out.ids (i := i) (by omega) h; omega, fun h => HY2.out.ids (by omega) h, hl2 hkn, HY2.out.top hkn⟩
              have HEQ := Lib.hid heq
              have HG := Lib.hid hg
              have HCC := Lib.hid hc
              have HSB := Lib.hid hsb
              clear hcA hcB heq hg hc hl1 hl2 hsb
              have hmc := more_cell
              go_wp2_with fail
              refine region_quiet_all (by kernel_rfl) (by kernel_rfl) ?_
              repeat (go_big_quiet_step (fail))
              refine wpQuiet_nil ?_
              rintro w4 hw4
              have hb4 := after_below hw4
              have a4 : w4.cell? ⟨bA, oA + i * 11, none⟩ = some (.int .i64 (M1 i 0)) := (hb4.cell (p := ⟨bA, oA + i * 11, none⟩) hbA).trans a0
              have b4 : w4.cell? ⟨bB, oB + k * 11, none⟩ = some (.int .i64 (M1 i 0)) := (hb4.cell (p := ⟨bB, oB + k * 11, none⟩) hbB).trans b0
              have hA4 := Nat.lt_of_lt_of_le hbA hb4.size
              have hB4 := Nat.lt_of_lt_of_le hbB hb4.size
              clear hw4 a0 b0 z1 c1 f1
              go_wp2_with fail
              refine region_quiet_all (by kernel_rfl) (by kernel_rfl) ?_
              repeat (go_big_quiet_step (fail))
              refine wpQuiet_nil ?_
              rintro w5 hw5
              have hb5 := ext_below hb4 (after_below hw5)
              clear hw5 hb4 a4 b4 hA4 hB4
              have HL5 : Hid (∀ j, j < 11 → w5.cell? ⟨bA, oA + i * 11 + j, none⟩ = some (.int .i64 (M1 i j))) := Lib.hid (fun j hj => (hb5.cell (p := ⟨bA, oA + i * 11 + j, none⟩) hbA).trans (HLA.out j hj))
              have HK5 : Hid (∀ j, j < 11 → w5.cell? ⟨bB, oB + k * 11 + j, none⟩ = some (.int .i64 (M2 k j))) := Lib.hid (fun j hj => (hb5.cell (p := ⟨bB, oB + k * 11 + j, none⟩) hbB).trans (HLB.out j hj))
              have hA5 := Nat.lt_of_lt_of_le hbA hb5.size
              have hB5 := Nat.lt_of_lt_of_le hbB hb5.size
              go_wp2_with fail
              refine region_quiet_all (by kernel_rfl) (by kernel_rfl) ?_
              repeat (go_big_quiet_step (fail))
              go_big_quiet_want
              refine quiet_seenS hA5 HL5.out (.tmp 37) rfl rfl ?_
              simp only [Act.put, List.setIfInBounds_toArray, List.set_cons_zero, List.set_cons_succ]
              go_big_quiet_on
              repeat (go_big_quiet_step (fail))
              go_big_quiet_want
              refine quiet_seenS hB5 HK5.out (.tmp 41) rfl rfl ?_
              simp only [Act.put, List.setIfInBounds_toArray, List.set_cons_zero, List.set_cons_succ]
              go_big_quiet_on
              repeat (go_big_quiet_step (fail))
              refine wpQuiet_nil ?_
              rintro w6 hw6
              have hb6 := ext_below hb5 (after_below hw6)
              have HW6 := Lib.hid (HW.out.below hb6)
              have Q16 := hQ1.below hb6
              have Q26 := hQ2.below hb6
              have HM6 := Lib.hid (HM.out.below hb6)
              have b6 : w6.cell? ⟨bB, oB + k * 11, none⟩ = some (.int .i64 (M2 k 0)) := (hb6.cell (p := ⟨bB, oB + k * 11 + 0, none⟩) hbB).trans (HLB.out 0 (by decide))
              have hbA6 := Nat.lt_of_lt_of_le hbA hb6.size
              have hbB6 := Nat.lt_of_lt_of_le hbB hb6.size
              clear hw6 hb5 hb6 hA5 hB5 hQ1 hQ2 HW HM HL5 HK5 hmc hnq
              cases sb with
              | true =>
                obtain ⟨g, hgf, hgr⟩ := rest_same (last := last) hf hin hkn HG.out HCC.out HSB.out
                have HGR := Lib.hid hgr
                clear hgr b6
                go_wp2
                go_roundw
                case rel => exact ⟨i + 1, k + 1, g, last, L, by omega, by omega, by go_num, by go_num, hgf, by rw [← HGR.out]; exact HL.out, hl0, HT.out.1, HT.out.2.1, HW6.out, Q16, Q26, HM6.out⟩
                case measure => simp [intOf]; omega
              | false =>
                obtain ⟨g, hgf, hgr⟩ := rest_other (last := last) hf hin hkn HG.out HCC.out (by rw [HSB.out]; decide)
                have HGR : Hid (L ++ headL 2 (M2 k 0) last ++ changeL M1 i M2 k ++ restF M1 n1 M2 n2 g (i + 1) (k + 1) (M2 k 0) = deltaL M1 n1 M2 n2) := Lib.hid (by rw [List.append_assoc, List.append_assoc, ← List.append_assoc (headL _ _ _), ← hgr]; exact HL.out)
                clear hgr
                obtain ⟨z1, c1, f1⟩ := id Q16
                go_wp2_with fail
                refine (head_k S p q1 q2 2 _ (M2 k 0) last L _ HW6.out rfl (by decide) Q16 Q26 HQ.out.1 HQ.out.2 ⟨HT.out.2.2.2.2.1, HT.out.2.2.2.2.2, hl0⟩).mono ?_
                rintro e w7 ⟨rfl, H7, Q27, hm7⟩
                have Q17 := Q16.mod hm7 (fun e => e.elim (fun h => h HQ.out.1) HNE.out)
                have HM7 := Lib.hid (HM6.out.trans hm7)
                have HB7 := HBE.out _ HM7.out
                have HR7 := Lib.hid (HR1.out.below HB7)
                have HS7 := Lib.hid (HR2.out.below HB7)
                have H7 := Lib.hid H7
                clear hm7 Q16 Q26 HW6 HM6 b6 z1 c1 f1 hbA6 hbB6 HB7 HLA HLB
                obtain ⟨bC, oC, eA, hbC, hcC⟩ := HR7.out (by omega)
                obtain ⟨bD, oD, eB, hbD, hcD⟩ := HS7.out (by omega)
                cases eA
                cases eB
                have HL7 : Hid (∀ j, j < 11 → w7.cell? ⟨bA, oA + i * 11 + j, none⟩ = some (.int .i64 (M1 i j))) := Lib.hid (fun j hj => by rw [Nat.add_assoc]; exact hcC i hin j hj)
                have HK7 : Hid (∀ j, j < 11 → w7.cell? ⟨bB, oB + k * 11 + j, none⟩ = some (.int .i64 (M2 k j))) := Lib.hid (fun j hj => by rw [Nat.add_assoc]; exact hcD k hkn j hj)
                obtain ⟨z7, c7, f7⟩ := id Q17
                have hmc := more_cell
                clear hcC hcD
                go_wp2_with fail
                refine region_quiet_but 9 (by kernel_rfl) (by kernel_rfl) ?_
                simp only [List.take_succ_cons, List.take_zero, List.drop_succ_cons, List.drop_zero]
                repeat (go_big_quiet_step (fail))
                go_big_quiet_want
                refine quiet_seenS hbC HL7.out (.tmp 54) rfl rfl ?_
                simp only [Act.put, List.setIfInBounds_toArray, List.set_cons_zero, List.set_cons_succ]
                go_big_quiet_on
                repeat (go_big_quiet_step (fail))
                go_big_quiet_want
                refine quiet_seenS hbD HK7.out (.tmp 58) rfl rfl ?_
                simp only [Act.put, List.setIfInBounds_toArray, List.set_cons_zero, List.set_cons_succ]
                go_big_quiet_on
                repeat (go_big_quiet_step (fail))
                refine wpQuiet_nil ?_
                rintro w8 hw8
                have hb8 := after_below hw8
                have HW8 := Lib.hid (H7.out.below hb8)
                have Q18 := Q17.below hb8
                have Q28 := Q27.below hb8
                have HM8 := Lib.hid (HM7.out.below hb8)
                clear hw8 hb8 Q17 Q27 H7 HM7 z7 c7 f7 hmc hbC hbD HL7 HK7
                go_wp2_with fail
                refine (change_k S p i k (L ++ headL 2 (M2 k 0) last) M1 M2 _ HW8.out (HY1.out.row hin).2 (HY2.out.row hkn).2 (HY2.out.row hkn).1.2.2).mono ?_
                rintro e w9 ⟨rfl, H9, hm9⟩
                have Q19 := Q18.mod hm9 (fun h => h HQ.out.1)
                have Q29 := Q28.mod hm9 (fun h => h HQ.out.2)
                have HM9 := Lib.hid (HM8.out.trans (hm9.mono fun b _ h => .inl h))
                have H9 := Lib.hid H9
                clear hm9 Q18 Q28 HW8 HM8
                go_wp2
                go_roundw
                case rel => exact ⟨i + 1, k + 1, g, M2 k 0, _, by omega, by omega, by go_num, by go_num, hgf, HGR.out, by have := HT.out.2.2.2.2.1; omega, HT.out.2.2.1, HT.out.2.2.2.1, H9.out, Q19, Q29, HM9.out⟩
                case measure => simp [intOf]; omega
            · have hkn : ¬ k < n2 := fun h => hc ⟨h, fun h' => absurd h' hin⟩
              have HD : Hid (L ++ bitsOf 2 3 = deltaL M1 n1 M2 n2) := Lib.hid (by rw [← HL.out, rest_end hin hkn])
              clear hg hc hl1 hl2
              go_wp2_with fail
              refine (put_k S p L _ _ _ 3 2 HW.out rfl rfl (by decide) (by decide)).mono ?_
              rintro e w4 ⟨⟨v, rfl⟩, H4, hm4⟩
              rw [HD.out] at H4
              have H4 := Lib.hid H4
              have Q14 := hQ1.mod hm4 (fun h => h HQ.out.1)
              have HB4 := HBE.out _ (HM.out.trans (hm4.mono fun b _ h => .inl h))
              clear hm4 hQ1 hQ2 HW HM z1 c1 f1
              obtain ⟨z1, c1, f1⟩ := id Q14
              go_wp2_with fail
              refine (many_k S p _ _ H4.out).mono ?_
              rintro e w' ⟨⟨m, rfl, hm1, hm2⟩, rfl⟩
              by_cases h : 31872 < m
              · have d : decide (31872 < (m : Int)) = true := decide_eq_true (by omega)
                have HTL := Lib.hid (hm1.1 h)
                clear h hm1 hm2
                go_wp2
                exact bodyPost_ret (v := .tuple #[.slice none 0 0, .iface 38 (.int .i64 4)]) (by simp [results, Try.results114, go_sem, *]) rfl ⟨.inr (.inl ⟨HY1.out, HY2.out, HTL.out, rfl⟩), HB4⟩
              · have d : decide (31872 < (m : Int)) = false := decide_eq_false (by omega)
                have HTL := Lib.hid (fun h' => h (hm1.2 h'))
                have HWK := Lib.hid (hm2 h)
                clear h hm1 hm2
                go_wp2_with fail
                refine (bytes_k S p _ _ HWK.out).mono ?_
                rintro e w5 ⟨D, c, rfl, hBs, hne, hb5⟩
                have HBS := Lib.hid hBs
                clear hBs hne
                go_wp2
                exact bodyPost_ret (v := .tuple #[.slice D (pack (deltaL M1 n1 M2 n2)).length c, .nilIface]) (by simp [results, Try.results114, go_sem, *]) rfl ⟨.inr (.inr ⟨HY1.out, HY2.out, HTL.out, D, c, _, HB4.size, rfl, HBS.out⟩), HB4.trans (hb5.mono HB4.size)⟩

end Go.Proofs.Ytefhmbmbhiehdaa
