/- The document's bits, and what must stay; the contracts of the closures of gyreref.Delta. Conditions: none. -/
import Derived.Test.YtnkinnfpebploaaDoorSnap3
import Derived.Test.YtnkinnfpebploaaDoorSnap6
namespace Go.Proofs.YtnkinnfpebploaaDoor
open Go Go.ChangeShapes Go.WideShapes Go.ChangeAt Go.RowKit Go.BigFrame
open B
section
variable {S : Nat → Prop} {w w' w1 : World} {p : Nat} {L : List Nat}
/-- the document's bits at block p; the blocks of S are none of their own -/
def Rk (S : Nat → Prop) (w : World) (p : Nat) (L : List Nat) : Prop := ∃ v, Rb w p p v L ∧ ∀ b, S b → b ≠ p ∧ v.ownBlock ≠ some b ∧ b < w.heap.size
def RkPost (S : Nat → Prop) (p : Nat) (L : List Nat) (w w' : World) : Prop := Rk S w' p L ∧ Mod (fun b => ¬ S b) w w'
theorem Rk.lt (h : Rk S w p L) : p < w.heap.size := by obtain ⟨v, h, _⟩ := h; exact h.blk.lt
theorem Rk.bin (h : Rk S w p L) : Bin L := by obtain ⟨v, h, _⟩ := h; exact h.bin
theorem Rk.low {T : Nat → Prop} (h : Rk S w p L) (k : Mod T w w') (hT : ∀ b, T b → S b) : Rk S w' p L := by
  obtain ⟨v, h, hs⟩ := h
  refine ⟨v, ?_, fun b hb => ⟨(hs b hb).1, (hs b hb).2.1, Nat.lt_of_lt_of_le (hs b hb).2.2 k.size⟩⟩
  exact ⟨h.blk.mod k (fun e => (hs _ (hT _ e)).1 rfl), row_mod h.row k (fun b e hb => (hs b (hT b hb)).2.1 e), h.ne, h.bin, h.lim⟩
theorem Rk.below (h : Rk S w p L) (k : Below w.heap.size w w') : Rk S w' p L := h.low (T := fun _ => False) (Mod.of_below k) (fun _ h => h.elim)
theorem Rk.fresh (h : Rk S w p L) (k : Below w.heap.size w w') : Rk (fun b => S b ∨ (w.heap.size ≤ b ∧ b < w'.heap.size)) w' p L := by
  obtain ⟨v, h, hs⟩ := h
  refine ⟨v, ⟨h.blk.below k, row_below h.row k, h.ne, h.bin, h.lim⟩, fun b hb => ?_⟩
  rcases hb with hb | ⟨hb, hb'⟩
  · exact ⟨(hs b hb).1, (hs b hb).2.1, Nat.lt_of_lt_of_le (hs b hb).2.2 k.size⟩
  · exact ⟨by have := h.blk.lt; omega, fun e => by have := (row_lt h.row e).1; omega, hb'⟩
theorem Rk.mono {S' : Nat → Prop} (h : Rk S w p L) (hS : ∀ b, S' b → S b) : Rk S' w p L := by
  obtain ⟨v, h, hs⟩ := h
  exact ⟨v, h, fun b hb => hs b (hS b hb)⟩
theorem RkPost.back {w0 : World} {S' : Nat → Prop} (h : RkPost S' p L w w') (hS : ∀ b, S b → S' b) (k : Mod (fun b => ¬ S b) w0 w) : RkPost S p L w0 w' :=
  ⟨h.1.mono hS, k.trans (h.2.mono fun b _ hn hb => hn (hS b hb))⟩
theorem rk_post {v : Value} {L' : List Nat} (hs : ∀ b, S b → b ≠ p ∧ v.ownBlock ≠ some b ∧ b < w.heap.size) (k : RbPost p p v L' w w') : RkPost S p L' w w' := by
  obtain ⟨v', h', t⟩ := k
  refine ⟨⟨v', h', fun b hb => ⟨(hs b hb).1, fun e => ?_, Nat.lt_of_lt_of_le (hs b hb).2.2 t.mod.size⟩⟩, t.mod.mono fun b _ hb hS => ?_⟩
  · rcases t.own with ho | ho
    · exact (hs b hb).2.1 (ho ▸ e)
    · have := ho b e; have := (hs b hb).2.2; omega
  · rcases hb with hb | hb
    · exact (hs b hS).1 hb
    · exact (hs b hS).2.1 hb
end
theorem rput_k (S : Nat → Prop) (p : Nat) (L : List Nat) (w : World) (n width : Int) (k j : Nat) (h : Rk S w p L) (ek : n = k) (ej : width = j) (hw : j ≤ 62) (hn : Lt63 k) (hl : L.length + j ≤ 1000000) :
    Calls Tryd.prog 28 #[.pointer (some ⟨p, 0, none⟩), .int .i64 n, .int .i64 width] w fun e w' => e = .returned (.tuple #[]) ∧ RkPost S p (L ++ bitsOf j k) w w' := by
  obtain ⟨v, h, hs⟩ := h
  exact (rput_i p p n width k j v L w h (Nat.le_of_lt h.blk.lt) ek ej hw hn hl).mono fun e w' ⟨he, hp⟩ => ⟨he, rk_post hs hp⟩
theorem rvar_k (S : Nat → Prop) (p : Nat) (L : List Nat) (w : World) (n : Int) (k : Nat) (h : Rk S w p L) (ek : n = k) (hn : Lt62 k) (hl : L.length + 78 ≤ 1000000) :
    Calls Tryd.prog 30 #[.pointer (some ⟨p, 0, none⟩), .int .i64 n] w fun e w' => e = .returned (.tuple #[]) ∧ RkPost S p (L ++ varL k) w w' := by
  obtain ⟨v, h, hs⟩ := h
  exact (rvarw_i p p k n v L w h (Nat.le_of_lt h.blk.lt) ek hn (by have := pieces6 k; omega)).mono fun e w' ⟨he, hp⟩ => ⟨he, rk_post hs hp⟩
theorem rint_k (S : Nat → Prop) (p : Nat) (L : List Nat) (w : World) (n : Int) (h : Rk S w p L) (h1 : -1152921504606846976 ≤ n) (h2 : n ≤ 1152921504606846976) (hl : L.length + 78 ≤ 1000000) :
    Calls Tryd.prog 32 #[.pointer (some ⟨p, 0, none⟩), .int .i64 n] w fun e w' => e = .returned (.tuple #[]) ∧ RkPost S p (L ++ intL n) w w' := by
  obtain ⟨v, h, hs⟩ := h
  exact (rintw_ok p p n v L w h (Nat.le_of_lt h.blk.lt) h1 h2 (by have := pieces6 (zig n); omega)).mono fun e w' ⟨he, hp⟩ => ⟨he, rk_post hs hp⟩

theorem ryes_k (S : Nat → Prop) (p : Nat) (L : List Nat) (y : Bool) (w : World) (h : Rk S w p L) (hl : L.length + 1 ≤ 1000000) :
    Calls Tryd.prog 72 #[.bool y, .pointer (some ⟨p, 0, none⟩)] w fun e w' => e = .returned (.tuple #[]) ∧ RkPost S p (L ++ bit y) w w' := by
  have HH := Lib.hid h
  have HL := Lib.hid hl
  clear h hl
  cases y with
  | false =>
    go_enter Tryd.func72, Tryd.ntmps72
    go_wp2_with fail
    refine (rput_k S p L w _ _ 0 1 HH.out rfl rfl (by decide) (by unfold Lt63; decide) HL.out).mono ?_
    rintro e w' ⟨rfl, hp⟩
    have HP := Lib.hid hp
    clear hp
    go_wp2
    go_end0
    exact ⟨rfl, HP.out⟩
  | true =>
    go_enter Tryd.func72, Tryd.ntmps72
    go_wp2_with fail
    refine (rput_k S p L w _ _ 1 1 HH.out rfl rfl (by decide) (by unfold Lt63; decide) HL.out).mono ?_
    rintro e w' ⟨rfl, hp⟩
    have HP := Lib.hid hp
    clear hp
    go_wp2
    go_end0
    exact ⟨rfl, HP.out⟩

set_option maxRecDepth 100000 in
set_option maxHeartbeats 8000000 in
theorem rvec_k (S : Nat → Prop) (p : Nat) (L : List Nat) (x1 x2 x3 y1 y2 y3 : Int) (w : World) (h : Rk S w p L) (i1 : In40 x1) (i2 : In40 x2) (i3 : In40 x3) (j1 : In40 y1) (j2 : In40 y2) (j3 : In40 y3) (hl : L.length + 234 ≤ 1000000) :
    Calls Tryd.prog 71 #[.agg #[.int .i64 x1, .int .i64 x2, .int .i64 x3], .agg #[.int .i64 y1, .int .i64 y2, .int .i64 y3], .pointer (some ⟨p, 0, none⟩)] w fun e w' => e = .returned (.tuple #[]) ∧ RkPost S p (L ++ vec3L (x1 - y1) (x2 - y2) (x3 - y3)) w w' := by
  have HH := Lib.hid h
  have HL := Lib.hid hl
  unfold In40 at i1 i2 i3 j1 j2 j3
  clear h hl
  go_enter Tryd.func71, Tryd.ntmps71
  go_wp2_with fail
  refine calls_fresh ?_
  rintro w1 hb1
  have hv1 : Below w.heap.size w w1 := (by repeat (with_reducible (first | exact Below.refl _ _ | assumption | apply ext_drew | apply ext_drewN | apply ext_alloc | apply ext_more | (refine ext_setCell ?_ (by first | assumption | (simp <;> omega)) _) | (refine ext_below ?_ (by assumption)))))
  have D1 : Blk w1 (w.heap.size + 1) #[.int .i64 y1, .int .i64 y2, .int .i64 y3] := Blk.below (by repeat (with_reducible (first | assumption | (apply Blk.at; simp; done) | apply Blk.alloc | apply Blk.drew | apply Blk.drewN | apply Blk.more | apply Blk.put | (apply Blk.far; focus (first | assumption | (apply Ne.symm; assumption) | (simp; done) | (simp <;> omega)))))) hb1
  refine (parts_c _ _ _ _).mono ?_
  rintro e w2 ⟨rfl, P2, hb2⟩
  have hv2 : Below w.heap.size w w2 := hv1.trans (hb2.mono hv1.size)
  have D2 := D1.below hb2
  obtain ⟨S1, hS1⟩ : ∃ S1, S1 = fun b => S b ∨ (w.heap.size ≤ b ∧ b < w2.heap.size) := ⟨_, rfl⟩
  have H2 : Rk S1 w2 p L := by rw [hS1]; exact HH.out.fresh hv2
  have HSS : Hid (∀ b, S b → S1 b) := Lib.hid (fun b hb => by rw [hS1]; exact .inl hb)
  have hsz1 := hv1.size
  have HC : Hid (S1 (w1.heap.size + 1) ∧ S1 (w.heap.size + 1)) := Lib.hid (by rw [hS1]; exact ⟨.inr ⟨by omega, P2.lt⟩, .inr ⟨by omega, D2.lt⟩⟩)
  have HMM : Hid (Mod (fun b => ¬ S b) w w2) := Lib.hid (Mod.of_below hv2)
  obtain ⟨u0, hu0⟩ : ∃ u, u = w1.heap.size + 1 := ⟨_, rfl⟩
  obtain ⟨u1, hu1⟩ : ∃ u, u = w.heap.size + 1 := ⟨_, rfl⟩
  rw [← hu1, ← hu0] at HC
  rw [← hu0] at P2
  rw [← hu1] at D2
  rw [← hu1, ← hu0]
  obtain ⟨z0, c0, f0⟩ := id P2
  obtain ⟨z1, c1, f1⟩ := id D2
  clear hS1 hb1 hb2 HH hv1 hv2 D1 hu0 hu1 hsz1
  go_wp2
  refine wp_loop_rounds 4 ?_
  rw [rounds_succ]
  go_wp2_with fail
  refine calls_fresh ?_
  rintro w3 hb3
  have hv3 : Below w2.heap.size w2 w3 := (by repeat (with_reducible (first | exact Below.refl _ _ | assumption | apply ext_drew | apply ext_drewN | apply ext_alloc | apply ext_more | (refine ext_setCell ?_ (by first | assumption | (simp <;> omega)) _) | (refine ext_below ?_ (by assumption)))))
  have HH3 := Lib.hid (H2.below hv3)
  have P3 := P2.below hv3
  have D3 := D2.below hv3
  have HMv3 : Hid (Mod (fun b => ¬ S1 b) w2 w3) := Lib.hid (Mod.of_below hv3)
  clear hb3 hv3 H2 P2 D2 z0 c0 f0 z1 c1 f1
  refine (parts_c _ _ _ _).mono ?_
  rintro e w4 ⟨rfl, Q4, hb4⟩
  have HH4 := Lib.hid (HH3.out.below hb4)
  have P4 := P3.below hb4
  have D4 := D3.below hb4
  have HMv4 : Hid (Mod (fun b => ¬ S1 b) w3 w4) := Lib.hid (Mod.of_below hb4)
  obtain ⟨z0, c0, f0⟩ := id P4
  obtain ⟨z1, c1, f1⟩ := id D4
  obtain ⟨zq, cq, fq⟩ := id Q4
  clear hb4 P3 D3 HH3 Q4
  go_wp2_with fail
  refine (rint_k S1 p (L) w4 (x1 - y1) HH4.out (by omega) (by omega) (by have := HL.out; skip; omega)).mono ?_
  rintro e w5 ⟨rfl, H5, hm5⟩
  have P5 := P4.mod hm5 (fun hn => hn HC.out.1)
  have D5 := D4.mod hm5 (fun hn => hn HC.out.2)
  have HMv5 := Lib.hid hm5
  clear hm5 HH4 P4 D4 z0 c0 f0 z1 c1 f1 zq cq fq
  obtain ⟨z0, c0, f0⟩ := id P5
  obtain ⟨z1, c1, f1⟩ := id D5
  go_wp2
  rw [rounds_succ]
  go_wp2_with fail
  refine calls_fresh ?_
  rintro w6 hb6
  have hv6 : Below w5.heap.size w5 w6 := (by repeat (with_reducible (first | exact Below.refl _ _ | assumption | apply ext_drew | apply ext_drewN | apply ext_alloc | apply ext_more | (refine ext_setCell ?_ (by first | assumption | (simp <;> omega)) _) | (refine ext_below ?_ (by assumption)))))
  have HH6 := Lib.hid (H5.below hv6)
  have P6 := P5.below hv6
  have D6 := D5.below hv6
  have HMv6 : Hid (Mod (fun b => ¬ S1 b) w5 w6) := Lib.hid (Mod.of_below hv6)
  clear hb6 hv6 H5 P5 D5 z0 c0 f0 z1 c1 f1
  refine (parts_c _ _ _ _).mono ?_
  rintro e w7 ⟨rfl, Q7, hb7⟩
  have HH7 := Lib.hid (HH6.out.below hb7)
  have P7 := P6.below hb7
  have D7 := D6.below hb7
  have HMv7 : Hid (Mod (fun b => ¬ S1 b) w6 w7) := Lib.hid (Mod.of_below hb7)
  obtain ⟨z0, c0, f0⟩ := id P7
  obtain ⟨z1, c1, f1⟩ := id D7
  obtain ⟨zq, cq, fq⟩ := id Q7
  clear hb7 P6 D6 HH6 Q7
  go_wp2_with fail
  refine (rint_k S1 p (L ++ intL (x1 - y1)) w7 (x2 - y2) HH7.out (by omega) (by omega) (by have := HL.out; simp only [List.length_append]; have := intL_le (x1 - y1); have := intL_le (x2 - y2); omega)).mono ?_
  rintro e w8 ⟨rfl, H8, hm8⟩
  have P8 := P7.mod hm8 (fun hn => hn HC.out.1)
  have D8 := D7.mod hm8 (fun hn => hn HC.out.2)
  have HMv8 := Lib.hid hm8
  clear hm8 HH7 P7 D7 z0 c0 f0 z1 c1 f1 zq cq fq
  obtain ⟨z0, c0, f0⟩ := id P8
  obtain ⟨z1, c1, f1⟩ := id D8
  go_wp2
  rw [rounds_succ]
  go_wp2_with fail
  refine calls_fresh ?_
  rintro w9 hb9
  have hv9 : Below w8.heap.size w8 w9 := (by repeat (with_reducible (first | exact Below.refl _ _ | assumption | apply ext_drew | apply ext_drewN | apply ext_alloc | apply ext_more | (refine ext_setCell ?_ (by first | assumption | (simp <;> omega)) _) | (refine ext_below ?_ (by assumption)))))
  have HH9 := Lib.hid (H8.below hv9)
  have P9 := P8.below hv9
  have D9 := D8.below hv9
  have HMv9 : Hid (Mod (fun b => ¬ S1 b) w8 w9) := Lib.hid (Mod.of_below hv9)
  clear hb9 hv9 H8 P8 D8 z0 c0 f0 z1 c1 f1
  refine (parts_c _ _ _ _).mono ?_
  rintro e w10 ⟨rfl, Q10, hb10⟩
  have HH10 := Lib.hid (HH9.out.below hb10)
  have P10 := P9.below hb10
  have D10 := D9.below hb10
  have HMv10 : Hid (Mod (fun b => ¬ S1 b) w9 w10) := Lib.hid (Mod.of_below hb10)
  obtain ⟨z0, c0, f0⟩ := id P10
  obtain ⟨z1, c1, f1⟩ := id D10
  obtain ⟨zq, cq, fq⟩ := id Q10
  clear hb10 P9 D9 HH9 Q10
  go_wp2_with fail
  refine (rint_k S1 p (L ++ intL (x1 - y1) ++ intL (x2 - y2)) w10 (x3 - y3) HH10.out (by omega) (by omega) (by have := HL.out; simp only [List.length_append]; have := intL_le (x1 - y1); have := intL_le (x2 - y2); omega)).mono ?_
  rintro e w11 ⟨rfl, H11, hm11⟩
  have P11 := P10.mod hm11 (fun hn => hn HC.out.1)
  have D11 := D10.mod hm11 (fun hn => hn HC.out.2)
  have HMv11 := Lib.hid hm11
  clear hm11 HH10 P10 D10 z0 c0 f0 z1 c1 f1 zq cq fq
  obtain ⟨z0, c0, f0⟩ := id P11
  obtain ⟨z1, c1, f1⟩ := id D11
  go_wp2
  rw [rounds_succ]
  go_wp2
  go_end0
  refine ⟨rfl, ?_⟩
  have e : L ++ intL (x1 - y1) ++ intL (x2 - y2) ++ intL (x3 - y3) = L ++ vec3L (x1 - y1) (x2 - y2) (x3 - y3) := by unfold vec3L; simp only [List.append_assoc]
  rw [← e]
  exact RkPost.back ⟨H11, ((((((((HMv3.out.trans HMv4.out).trans HMv5.out).trans HMv6.out).trans HMv7.out).trans HMv8.out).trans HMv9.out).trans HMv10.out).trans HMv11.out)⟩ HSS.out HMM.out

end Go.Proofs.YtnkinnfpebploaaDoor
