/- Remove of broad.Tree. Conditions: none. -/
import Derived.Test.YtefhmbmbhiehdaaKBt11
namespace Go.Proofs.Ytefhmbmbhiehdaa
open Go Go.Maps Go.RowKit Go.BigFrame Go.ChangeShapes Go.WideShapes
set_option maxRecDepth 100000 in
set_option maxHeartbeats 4000000 in
theorem remove_no (w : World) (t : Nat) (id_ : Int) (nv fv : Value) (rt : Int) (som : Bool) (lf bx : Nat) (fat : Int) (m mb n nb : Nat) (f : Int → Option Nat) (D : Int → Option Bx) (hH : BH w t nv fv rt som lf bx fat m mb n nb f D) (hkey : keyOf Try.prog 3 (.int .i64 id_) = some (.int .i64 id_)) (hf : f id_ = none) :
    Calls Try.prog 29 #[.pointer (some ⟨t, 0, none⟩), .int .i64 id_] w fun e w' => e = .returned (errV 7) ∧ w = w' := by
  have HH := Lib.hid hH
  have HKEY := Lib.hid hkey
  have HF := Lib.hid hf
  clear hH hkey hf
  obtain ⟨zt, ct, ft⟩ := id HH.out.blk
  go_enter Try.func29, Try.ntmps29
  go_wp2_with (at_lookup; refine at_lookT rfl _ _ rfl Try.underlying118 (zero_intT _) rfl HH.out.lfm rfl HKEY.out ?_; rw [HF.out])
  go_ret
  exact ⟨rfl, rfl⟩
set_option maxRecDepth 100000 in
set_option maxHeartbeats 4000000 in
theorem remove_yes (w : World) (t : Nat) (id_ : Int) (nv fv : Value) (rt : Int) (som : Bool) (lf bx : Nat) (fat : Int) (m mb n nb : Nat) (f : Int → Option Nat) (D : Int → Option Bx) (hH : BH w t nv fv rt som lf bx fat m mb n nb f D) (hkey : keyOf Try.prog 3 (.int .i64 id_) = some (.int .i64 id_)) (k : Nat) (hf : f id_ = some k) (hd : (D id_).isSome = true) (R : World → Prop) (HO : Calls Try.prog 63 #[.pointer (some ⟨t, 0, none⟩), .int .i64 (k : Int)] w fun e w2 => e = .returned (.tuple #[]) ∧ Mod (fun x => x ≠ bx) w w2 ∧ (∃ nv2 fv2 rt2 som2, Blk w2 t #[nv2, fv2, .int .i64 rt2, .bool som2, .map (some lf), .map (some bx), .int .i64 fat]) ∧ ∀ w3, Mod (· = bx) w2 w3 → VI w3 bx mb (nb - 1) (fun y => (delD D id_ y).map bxV) → R w3) :
    Calls Try.prog 29 #[.pointer (some ⟨t, 0, none⟩), .int .i64 id_] w fun e w' => e = .returned .nilIface ∧ R w' := by
  have HD := Lib.hid hd
  clear hd
  have HH := Lib.hid hH
  have HKEY := Lib.hid hkey
  have HF := Lib.hid hf
  clear hH hkey hf
  obtain ⟨zt, ct, ft⟩ := id HH.out.blk
  go_enter Try.func29, Try.ntmps29
  go_upto_region 4 with (at_lookup; refine at_lookT rfl _ _ rfl Try.underlying118 (zero_intT _) rfl HH.out.lfm rfl HKEY.out ?_; rw [HF.out])
  go_wp2_with fail
  refine HO.mono ?_
  rintro e w2 ⟨rfl, hm2, ⟨nv2, fv2, rt2, som2, hb2⟩, hR⟩
  have HRR := Lib.hid hR
  have HB2 := Lib.hid hb2
  have HX2 := Lib.hid (HH.out.bxm.mod hm2 (fun h => h rfl))
  clear hm2 hb2 hR zt ct ft HO
  obtain ⟨zt, ct, ft⟩ := id HB2.out
  go_wp2_with (at_delete; go_must (refine at_delT rfl (.tmp 25) (.tmp 26) rfl Try.underlying117 rfl HX2.out rfl HKEY.out (by rw [Option.isSome_map]; exact HD.out) ?_; intro w3 h3 k3; rw [bx_less] at h3; have H3 := Lib.hid (HRR.out w3 k3 h3); clear h3 k3))
  go_ret
  exact ⟨rfl, H3.out⟩
/-- what Remove leaves -/
def remD (D : Int → Option Bx) (id : Int) : Int → Option Bx := if (D id).isSome then delD D id else D
def remN (D : Int → Option Bx) (n : Nat) (id : Int) : Nat := if (D id).isSome then n - 1 else n
def remE (D : Int → Option Bx) (id : Int) : Int := if (D id).isSome then 0 else 7
def RemPost (w : World) (t : Nat) (fat : Int) (p : Nat) (D : Int → Option Bx) (n : Nat) (S : Nat → Prop) (id : Int) (w' : World) : Prop :=
  Mod S w w' ∧ ∃ S', BW w' t fat (p + 1) (remD D id) (remN D n id) S' ∧ ∀ x, S' x → S x ∨ w.heap.size ≤ x
theorem remove_c (w : World) (t : Nat) (id_ : Int) (fat : Int) (p : Nat) (D : Int → Option Bx) (n : Nat) (S : Nat → Prop) (hB : BW w t fat p D n S) (hp : p < 300000) (hkey : keyOf Try.prog 3 (.int .i64 id_) = some (.int .i64 id_)) :
    Calls Try.prog 29 #[.pointer (some ⟨t, 0, none⟩), .int .i64 id_] w fun e w' => e = .returned (errV (remE D id_)) ∧ RemPost w t fat p D n S id_ w' := by
  have still : (D id_).isSome = false → RemPost w t fat p D n S id_ w := fun hd => ⟨Mod.refl _ _, S, by rw [show remD D id_ = D from if_neg (by rw [hd]; exact Bool.false_ne_true), show remN D n id_ = n from if_neg (by rw [hd]; exact Bool.false_ne_true)]; exact hB.le (by omega), fun x hx => .inl hx⟩
  obtain ⟨hB', hL⟩ := id hB
  rcases hB' with ⟨lf, bx, hF, hD, hn, hS⟩ | ⟨s, M, F, m, mb, f, o, hX, h1, h2, h3, h4, h5, h6⟩
  · subst hD hn
    refine (remove_no w t id_ (.slice none 0 0) (.slice none 0 0) 0 false lf bx fat 0 0 0 0 (fun _ => none) (fun _ => none) ⟨hF.blk, hF.lfm, hF.bxm, hF.bt⟩ hkey rfl).mono ?_
    rintro e w' ⟨rfl, rfl⟩
    exact ⟨rfl, still rfl⟩
  · cases hf : f id_ with
    | none =>
      have hD : (D id_).isSome = false := by rw [← hX.bxs.same id_, hf]; rfl
      refine (remove_no w t id_ _ _ _ _ _ _ _ _ _ _ _ _ _ hX.head hkey hf).mono ?_
      rintro e w' ⟨rfl, rfl⟩
      exact ⟨by unfold remE; rw [if_neg (by rw [hD]; exact Bool.false_ne_true)], still hD⟩
    | some k =>
      have hD : (D id_).isSome = true := by rw [← hX.bxs.same id_, hf]; rfl
      have hbxl := hX.bxm.lt
      have hcall := remove_yes w t id_ _ _ _ _ _ _ _ _ _ _ _ _ _ hX.head hkey k hf hD (fun w' => RemPost w t fat p D n S id_ w') (by
        refine Calls.mono (out_c w t s M F m n f k id_ o hX.tw hX.tre hf hkey (by omega)) ?_
        rintro e w2 ⟨rfl, s1, M1, F1, o1, hP1⟩
        have hc1 := hP1.chg
        refine ⟨rfl, hc1.mod.mono (fun x _ h => hX.bxne x h), ⟨.slice (some ⟨s1.nb, 0, none⟩) s1.nn s1.cap, s1.fv, s1.root, s1.som, by rw [← hc1.bx, ← hc1.lf, ← hc1.fat]; exact hP1.tw.blk⟩, ?_⟩
        intro w3 hm3 hv3
        have hbx1 : ∀ x, TB t s1 x → s1.bx ≠ x := fun x hx e => by
          rw [hc1.bx] at e
          rcases hc1.own x hx with h | h
          · exact hX.bxne x h e.symm
          · omega
        have hW3 := hP1.tw.mod hm3 (fun x hx e => hbx1 x hx (by rw [hc1.bx]; exact e.symm))
        have hmm : Mod (BB t s) w w3 := (hc1.mod.mono fun x _ h => .inl h).trans (hm3.mono fun x _ e => .inr e)
        have hs1 := hP1.nn
        have hP : PutP w w3 t s m mb (n - 1) (delD D id_) s1 M1 F1 m mb (fun y => if y = id_ then none else f y) o1 := by
          refine ⟨⟨hW3, hP1.tre, by rw [hc1.bx]; exact hv3, ⟨fun y => ?_, fun y q b' q1 q2 => ?_⟩, hbx1 _ (.inl rfl), hbx1 _ (.inr (.inl rfl)), hbx1 _ (.inr (.inr (.inr rfl))), fun e => hbx1 _ (.inr (.inr (.inl e))) rfl⟩, hc1.fat, by omega, by omega, by omega, hmm, fun x hx => ?_⟩
          · unfold delD
            by_cases e : y = id_
            · simp [e]
            · simp only [e, if_false]
              exact hX.bxs.same y
          · have hr := hP1.row y q q1
            unfold delD at q2
            by_cases e : y = id_
            · simp only [e, if_true] at q2
              cases q2
            · simp only [e, if_false] at q1 q2
              have e4 : nodeBx M1 q = nodeBx M q := by
                unfold nodeBx
                rw [hr 0 (by omega), hr 1 (by omega), hr 2 (by omega), hr 3 (by omega), hr 4 (by omega), hr 5 (by omega)]
              rw [e4]
              exact hX.bxs.ins y q b' q1 q2
          · rcases hx with h | h
            · exact (hc1.own x h).imp .inl id
            · exact .inl (.inr (h.trans hc1.bx))
        have := BW.of h6 hL h1 h2 h3 h4 (by omega) hP
        unfold RemPost
        rw [show remD D id_ = delD D id_ from if_pos hD, show remN D n id_ = n - 1 from if_pos hD]
        exact this)
      refine hcall.mono ?_
      rintro e w' ⟨rfl, h⟩
      exact ⟨by unfold remE; rw [if_pos hD]; rfl, h⟩
end Go.Proofs.Ytefhmbmbhiehdaa
