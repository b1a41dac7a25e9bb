/- broad.Tree's trees, in plain Lean: how high they are; a leaf hung in; the boxes around. Conditions: none. -/
import Derived.Test.YtefhmbmbhiehdaaKBtP
import Derived.Test.YtefhmbmbhiehdaaKBt5
namespace Go.Proofs.Ytefhmbmbhiehdaa
/-- how high a tree is -/
def Tr.h : Tr → Int
  | .lf _ => 0
  | .nd _ l r => 1 + max l.h r.h
/-- no node has one side higher by more than one -/
def Tr.bal : Tr → Prop
  | .lf _ => True
  | .nd _ l r => l.h ≤ r.h + 1 ∧ r.h ≤ l.h + 1 ∧ l.bal ∧ r.bal
theorem Tr.h0 (T : Tr) : 0 ≤ T.h := by
  induction T with
  | lf k => exact Int.le_refl 0
  | nd k l r hl hr => simp only [Tr.h]; omega
theorem Rep.h {M : Nat → Nat → Int} : ∀ {T : Tr} {up : Int}, Rep M up T → M T.ix 10 = T.h := by
  intro T
  induction T with
  | lf k => intro up h; exact h.2.2
  | nd k l r hl hr =>
    intro up ⟨_, _, _, hf, h1, h2⟩
    rw [show (Tr.nd k l r).ix = k from rfl, hf.ht, hl h1, hr h2]
    rfl
/-- a way whose place has a tree of this height -/
def Cx.bal : Cx → Int → Prop
  | .top, _ => True
  | .lft _ c r, h => h ≤ r.h + 1 ∧ r.h ≤ h + 1 ∧ r.bal ∧ c.bal (1 + max h r.h)
  | .rgt _ l c, h => h ≤ l.h + 1 ∧ l.h ≤ h + 1 ∧ l.bal ∧ c.bal (1 + max l.h h)
/-- a tree in a place where there was a tree as high, or higher or lower by one -/
def Bal1 (T : Tr) (c : Cx) : Prop := T.bal ∧ ∃ g, c.bal g ∧ T.h ≤ g + 1 ∧ g ≤ T.h + 1
theorem bal_no {T : Tr} {c : Cx} {n : Nat} {l r : Tr} {c2 : Cx} {M : Nat → Nat → Int} (hop : Opens T c n l r c2) (hl : Rep M n l) (hr : Rep M n r) (hrot : M (kidM M l.ix r.ix) 10 ≤ M (othM M l.ix r.ix) 10 + 1) (ih : Bal1 T c) : Bal1 (.nd n l r) c2 := by
  obtain ⟨hT, g, hg, g1, g2⟩ := ih
  have el := hl.h
  have er := hr.h
  have key : l.h ≤ r.h + 1 ∧ r.h ≤ l.h + 1 := by
    by_cases hlt : M l.ix 10 < M r.ix 10
    · have e1 : kidM M l.ix r.ix = r.ix := if_pos hlt
      have e2 : othM M l.ix r.ix = l.ix := if_pos hlt
      rw [e1, e2] at hrot
      omega
    · have e1 : kidM M l.ix r.ix = l.ix := if_neg hlt
      have e2 : othM M l.ix r.ix = r.ix := if_neg hlt
      rw [e1, e2] at hrot
      omega
  cases hop with
  | lft =>
    obtain ⟨b1, b2, b3, b4⟩ := hg
    refine ⟨⟨key.1, key.2, hT, b3⟩, _, b4, ?_, ?_⟩ <;> simp only [Tr.h] <;> omega
  | rgt =>
    obtain ⟨b1, b2, b3, b4⟩ := hg
    refine ⟨⟨key.1, key.2, b3, hT⟩, _, b4, ?_, ?_⟩ <;> simp only [Tr.h] <;> omega
theorem bal_yes {T : Tr} {c : Cx} {n : Nat} {l r : Tr} {c2 : Cx} {M : Nat → Nat → Int} {kk : Nat} {O P Q : Tr} (hop : Opens T c n l r c2) (hl : Rep M n l) (hr : Rep M n r) (ht : Turned M l r kk O P Q) (ih : Bal1 T c) : Bal1 (.nd kk P (.nd n O Q)) c2 := by
  obtain ⟨hT, g, hg, g1, g2⟩ := ih
  obtain ⟨⟨A, B, hk, hab⟩, low, two⟩ := ht
  have hlr : ∃ o : Tr, True := ⟨O, trivial⟩
  have facts : ∃ up, Rep M n O ∧ Rep M n (.nd kk A B) ∧ up = (n : Int) := by
    rcases hk with ⟨e1, e2⟩ | ⟨e1, e2⟩
    · subst e1 e2; exact ⟨_, hr, hl, rfl⟩
    · subst e1 e2; exact ⟨_, hl, hr, rfl⟩
  obtain ⟨_, hO, hK, _⟩ := facts
  have eO := hO.h
  have eK : M kk 10 = (Tr.nd kk A B).h := hK.h
  have hPQ : M P.ix 10 = P.h ∧ M Q.ix 10 = Q.h := by
    obtain ⟨_, _, _, _, hA, hB⟩ := hK
    rcases hab with ⟨e1, e2⟩ | ⟨e1, e2⟩
    · subst e1 e2; exact ⟨hA.h, hB.h⟩
    · subst e1 e2; exact ⟨hB.h, hA.h⟩
  rw [eO, eK] at low
  rw [hPQ.1, hPQ.2] at two
  have hKe : (Tr.nd kk A B).h = 1 + P.h := by
    simp only [Tr.h]
    rcases hab with ⟨e1, e2⟩ | ⟨e1, e2⟩ <;> subst e1 e2 <;> omega
  have fin : (Tr.nd kk A B).bal → O.bal → (Tr.nd kk A B).h ≤ O.h + 2 → (Tr.nd kk P (.nd n O Q)).bal ∧ O.h + 2 ≤ (Tr.nd kk P (.nd n O Q)).h ∧ (Tr.nd kk P (.nd n O Q)).h ≤ O.h + 3 := by
    intro bK bO hle
    obtain ⟨k1, k2, k3, k4⟩ := bK
    rw [hKe] at low hle
    have hb : P.bal ∧ Q.bal ∧ P.h ≤ Q.h + 1 := by
      rcases hab with ⟨e1, e2⟩ | ⟨e1, e2⟩
      · subst e1 e2; exact ⟨k3, k4, k1⟩
      · subst e1 e2; exact ⟨k4, k3, k2⟩
    refine ⟨⟨?_, ?_, hb.1, ?_, ?_, bO, hb.2.1⟩, ?_, ?_⟩ <;> (try simp only [Tr.h]) <;> omega
  cases hop with
  | lft =>
    obtain ⟨b1, b2, b3, b4⟩ := hg
    rcases hk with ⟨e1, e2⟩ | ⟨e1, e2⟩
    · subst e1 e2
      obtain ⟨f1, f2, f3⟩ := fin hT b3 (by omega)
      exact ⟨f1, _, b4, by omega, by omega⟩
    · subst e1 e2
      obtain ⟨f1, f2, f3⟩ := fin b3 hT (by omega)
      exact ⟨f1, _, b4, by omega, by omega⟩
  | rgt =>
    obtain ⟨b1, b2, b3, b4⟩ := hg
    rcases hk with ⟨e1, e2⟩ | ⟨e1, e2⟩
    · subst e1 e2
      obtain ⟨f1, f2, f3⟩ := fin b3 hT (by omega)
      exact ⟨f1, _, b4, by omega, by omega⟩
    · subst e1 e2
      obtain ⟨f1, f2, f3⟩ := fin hT b3 (by omega)
      exact ⟨f1, _, b4, by omega, by omega⟩
/-- mend makes what is too high right -/
theorem Mends.bal {T0 : Tr} {c0 : Cx} (h0 : Bal1 T0 c0) {T : Tr} {c : Cx} (hm : Mends T0 c0 T c) : Bal1 T c := by
  induction hm with
  | at0 => exact h0
  | no T c n l r c2 M hm hop hl hr hrot ih => exact bal_no hop hl hr hrot ih
  | yes T c n l r c2 M kk O P Q hm hop hl hr ht ih => exact bal_yes hop hl hr ht ih
/-- the same where a leaf became two -/
theorem Mends.balIn {a i k : Nat} {c0 : Cx} (h0 : c0.bal 0) {T : Tr} {c : Cx} (hm : Mends (.lf a) (.lft i c0 (.lf k)) T c) : (T = .lf a ∧ c = .lft i c0 (.lf k)) ∨ Bal1 T c := by
  induction hm with
  | at0 => exact .inl ⟨rfl, rfl⟩
  | no T c n l r c2 M hm hop hl hr hrot ih =>
    rcases ih with ⟨rfl, rfl⟩ | ih
    · cases hop
      exact .inr ⟨⟨by simp [Tr.h], by simp [Tr.h], trivial, trivial⟩, 0, h0, by simp [Tr.h], by simp [Tr.h]⟩
    · exact .inr (bal_no hop hl hr hrot ih)
  | yes T c n l r c2 M kk O P Q hm hop hl hr ht ih =>
    rcases ih with ⟨rfl, rfl⟩ | ih
    · cases hop
      obtain ⟨⟨A, B, hk, _⟩, _, _⟩ := ht
      rcases hk with ⟨e, _⟩ | ⟨e, _⟩ <;> cases e
    · exact .inr (bal_yes hop hl hr ht ih)
/-- so many leaves at least -/
def fewest : Nat → Nat
  | 0 => 1
  | 1 => 2
  | n + 2 => fewest n + fewest (n + 1)
theorem fewest_mono : ∀ n, fewest n ≤ fewest (n + 1) ∧ 1 ≤ fewest n := by
  intro n
  induction n using Nat.strongRecOn with
  | ind n ih =>
    match n with
    | 0 => exact ⟨by decide, by decide⟩
    | 1 => exact ⟨by decide, by decide⟩
    | n + 2 =>
      have := ih n (by omega)
      have := ih (n + 1) (by omega)
      refine ⟨?_, ?_⟩
      · show fewest (n + 2) ≤ fewest (n + 1) + fewest (n + 2)
        omega
      · show 1 ≤ fewest n + fewest (n + 1)
        omega
theorem fewest_le {a b : Nat} (h : a ≤ b) : fewest a ≤ fewest b := by
  induction h with
  | refl => exact Nat.le_refl _
  | step _ ih => exact Nat.le_trans ih (fewest_mono _).1
theorem Tr.fewest {T : Tr} (h : T.bal) : fewest T.h.toNat ≤ T.lvs.length := by
  induction T with
  | lf k => exact Nat.le_refl 1
  | nd k l r hl hr =>
    obtain ⟨h1, h2, h3, h4⟩ := h
    have a := hl h3
    have b := hr h4
    have l0 := l.h0
    have r0 := r.h0
    simp only [Tr.lvs, List.length_append, Tr.h]
    rcases Int.lt_or_le l.h r.h with hlt | hle
    · obtain ⟨m, hm⟩ : ∃ m : Nat, l.h = m := ⟨l.h.toNat, by omega⟩
      have e : r.h = m + 1 := by omega
      have e2 : (1 + max l.h r.h).toNat = m + 2 := by omega
      rw [e2]
      rw [hm] at a
      rw [e] at b
      have ea : ((m : Int)).toNat = m := by omega
      have eb : ((m : Int) + 1).toNat = m + 1 := by omega
      rw [ea] at a
      rw [eb] at b
      show Go.Proofs.Ytefhmbmbhiehdaa.fewest m + Go.Proofs.Ytefhmbmbhiehdaa.fewest (m + 1) ≤ _
      omega
    · obtain ⟨m, hm⟩ : ∃ m : Nat, l.h = m := ⟨l.h.toNat, by omega⟩
      have e2 : (1 + max l.h r.h).toNat = m + 1 := by omega
      rw [e2]
      rw [hm] at a hle h1
      have ea : ((m : Int)).toNat = m := by omega
      rw [ea] at a
      cases m with
      | zero =>
        show 2 ≤ _
        have := (fewest_mono r.h.toNat).2
        have := (fewest_mono 0).2
        omega
      | succ m =>
        have hb : Go.Proofs.Ytefhmbmbhiehdaa.fewest m ≤ Go.Proofs.Ytefhmbmbhiehdaa.fewest r.h.toNat := fewest_le (by omega)
        show Go.Proofs.Ytefhmbmbhiehdaa.fewest m + Go.Proofs.Ytefhmbmbhiehdaa.fewest (m + 1) ≤ _
        omega
/-- a tree of at most sixty leaves is not high -/
theorem Tr.low {T : Tr} (h : T.bal) (hl : T.lvs.length ≤ 60) : T.h ≤ 8 := by
  rcases Int.lt_or_le 8 T.h with h8 | h8
  · have a := Tr.fewest h
    have b : Go.Proofs.Ytefhmbmbhiehdaa.fewest 9 ≤ Go.Proofs.Ytefhmbmbhiehdaa.fewest T.h.toNat := fewest_le (by omega)
    have c : Go.Proofs.Ytefhmbmbhiehdaa.fewest 9 = 89 := by decide
    omega
  · exact h8
theorem Tr.h_lt (T : Tr) : T.h < T.lvs.length := by
  induction T with
  | lf k => simp [Tr.h, Tr.lvs]
  | nd k l r hl hr => simp only [Tr.h, Tr.lvs, List.length_append]; have := l.h0; have := r.h0; omega
theorem Tr.lvs_pos (T : Tr) : 1 ≤ T.lvs.length := by
  have := T.h0
  have := T.h_lt
  omega
/-- more than one leaf: a node is there -/
theorem Tr.h_pos {T : Tr} (h : 2 ≤ T.lvs.length) : 1 ≤ T.h := by
  cases T with
  | lf k => simp [Tr.lvs] at h
  | nd k l r => simp only [Tr.h]; have := l.h0; omega
/-- a node's box is around its leaves' -/
theorem Rep.around {M : Nat → Nat → Int} : ∀ {T : Tr} {up : Int}, Rep M up T → ∀ k ∈ T.lvs, (∀ j, j < 3 → M T.ix j ≤ M k j) ∧ ∀ j, 3 ≤ j → j < 6 → M k j ≤ M T.ix j := by
  intro T
  induction T with
  | lf k =>
    intro up h x hx
    have e : x = k := by simpa [Tr.lvs] using hx
    subst e
    exact ⟨fun _ _ => Int.le_refl _, fun _ _ _ => Int.le_refl _⟩
  | nd k l r hl hr =>
    intro up ⟨_, _, _, hf, h1, h2⟩ x hx
    rw [show (Tr.nd k l r).ix = k from rfl]
    rcases List.mem_append.1 hx with hx | hx
    · have a := hl h1 x hx
      refine ⟨fun j hj => ?_, fun j h3 hj => ?_⟩
      · have := hf.lo j hj; have := a.1 j hj; omega
      · have := hf.hi j h3 hj; have := a.2 j h3 hj; omega
    · have a := hr h2 x hx
      refine ⟨fun j hj => ?_, fun j h3 hj => ?_⟩
      · have := hf.lo j hj; have := a.1 j hj; omega
      · have := hf.hi j h3 hj; have := a.2 j h3 hj; omega
/-- a leaf is reached: what is below, what is above -/
theorem Tr.zip {M : Nat → Nat → Int} {root : Int} : ∀ {T : Tr} {c : Cx}, Rep M c.up T → RepC M root T.ix c → ∀ k ∈ T.lvs, ∃ c2, Rep M c2.up (.lf k) ∧ RepC M root k c2 ∧ (k :: c2.all).Perm (T.all ++ c.all) ∧ (k :: c2.lvs).Perm (T.lvs ++ c.lvs) ∧ (T.bal → c.bal T.h → c2.bal 0) := by
  intro T
  induction T with
  | lf x =>
    intro c hT hc k hk
    have e : k = x := by simpa [Tr.lvs] using hk
    subst e
    exact ⟨c, hT, hc, List.Perm.refl _, List.Perm.refl _, fun _ h => h⟩
  | nd x l r hl hr =>
    intro c ⟨h6, h7, h8, hf, h1, h2⟩ hc k hk
    rcases List.mem_append.1 hk with hk | hk
    · obtain ⟨c2, q1, q2, q3, q4, q5⟩ := hl (c := .lft x c r) h1 ⟨h1.up, h7, h8, h2, hc⟩ k hk
      refine ⟨c2, q1, q2, q3.trans ?_, q4.trans ?_, fun hb hcb => q5 (by obtain ⟨b1, b2, b3, b4⟩ := hb; exact b3) (by obtain ⟨b1, b2, b3, b4⟩ := hb; exact ⟨b1, b2, b4, hcb⟩)⟩
      · simp only [Cx.all, Tr.all, List.cons_append, List.append_assoc]
        exact List.perm_middle
      · simp only [Cx.lvs, Tr.lvs, List.append_assoc]
        exact List.Perm.refl _
    · obtain ⟨c2, q1, q2, q3, q4, q5⟩ := hr (c := .rgt x l c) h2 ⟨h2.up, h7, h8, h1, hc⟩ k hk
      refine ⟨c2, q1, q2, q3.trans ?_, q4.trans ?_, fun hb hcb => q5 (by obtain ⟨b1, b2, b3, b4⟩ := hb; exact b4) (by obtain ⟨b1, b2, b3, b4⟩ := hb; exact ⟨b2, b1, b3, hcb⟩)⟩
      · simp only [Cx.all, Tr.all, List.cons_append, List.append_assoc]
        refine List.perm_middle.trans (List.Perm.cons x ?_)
        rw [← List.append_assoc, ← List.append_assoc]
        exact List.Perm.append_right _ List.perm_append_comm
      · simp only [Cx.lvs, Tr.lvs, List.append_assoc]
        rw [← List.append_assoc, ← List.append_assoc]
        exact List.Perm.append_right _ List.perm_append_comm
theorem hangM_congr {M M2 : Nat → Nat → Int} {up was is : Int} {y j : Nat} (e : M2 y j = M y j) (eu : 0 ≤ up → M2 up.toNat 7 = M up.toNat 7) : hangM M2 up was is y j = hangM M up was is y j := by
  unfold hangM
  split
  · exact e
  · rename_i h0
    rw [eu (by omega)]
    split
    · unfold put1; rw [e]
    · unfold put1; rw [e]
/-- a leaf hung in: what is to be mended then -/
theorem in_step {M : Nat → Nat → Int} {root : Int} {a k i : Nat} {c : Cx} {x : Nat → Int} (hA : Rep M c.up (.lf a)) (hC : RepC M root a c) (hk7 : M k 7 = -1) (hk10 : M k 10 = 0) (hnd : (a :: k :: i :: c.all).Nodup) (x6 : x 6 = c.up) (x7 : x 7 = a) (x8 : x 8 = k) (x10 : x 10 = 0) :
    Rep (hangM (put1 (put1 (setRow M i x) a 6 i) k 6 i) c.up a i) (i : Int) (.lf a) ∧ RepC (hangM (put1 (put1 (setRow M i x) a 6 i) k 6 i) c.up a i) (hangR root c.up i) a (.lft i c (.lf k)) ∧ Kept M (hangM (put1 (put1 (setRow M i x) a 6 i) k 6 i) c.up a i) (a :: i :: k :: c.all) (a :: k :: c.lvs) ∧
    ∀ y, hangM (put1 (put1 (setRow M i x) a 6 i) k 6 i) c.up a i y 10 = if y = i then 0 else M y 10 := by
  obtain ⟨n1, n2⟩ := List.nodup_cons.1 hnd
  obtain ⟨n3, n4⟩ := List.nodup_cons.1 n2
  obtain ⟨n5, n6⟩ := List.nodup_cons.1 n4
  have hak : a ≠ k := fun e => n1 (by simp [e])
  have hai : a ≠ i := fun e => n1 (by simp [e])
  have hki : k ≠ i := fun e => n3 (by simp [e])
  have hac : a ∉ c.all := fun h => n1 (by simp [h])
  have hkc : k ∉ c.all := fun h => n3 (by simp [h])
  obtain ⟨M2, e2⟩ : ∃ M2, M2 = put1 (put1 (setRow M i x) a 6 i) k 6 i := ⟨_, rfl⟩
  rw [← e2]
  have far : ∀ y, y ≠ i → ∀ j, (y = a ∨ y = k → j ≠ 6) → M2 y j = M y j := fun y hy j hj => by
    rw [e2]
    unfold put1 setRow
    by_cases h6 : j = 6
    · rw [if_neg (fun h => hj (.inr h.1) h.2), if_neg (fun h => hj (.inl h.1) h.2), if_neg hy]
    · rw [if_neg (fun h => h6 h.2), if_neg (fun h => h6 h.2), if_neg hy]
  have atI : ∀ j, M2 i j = x j := fun j => by
    rw [e2]
    unfold put1 setRow
    rw [if_neg (fun h => hki h.1.symm), if_neg (fun h => hai h.1.symm), if_pos rfl]
  have a6 : M2 a 6 = i := by
    rw [e2]
    unfold put1
    rw [if_neg (fun h => hak h.1), if_pos ⟨rfl, rfl⟩]
  have k6 : M2 k 6 = i := by
    rw [e2]
    unfold put1
    rw [if_pos ⟨rfl, rfl⟩]
  have upc : ∀ y : Nat, 0 ≤ c.up → y = c.up.toNat → y ∈ c.all := fun y h0 e => Cx.up_mem (by omega)
  have oth : ∀ y j, y ∉ c.all → hangM M2 c.up a i y j = M2 y j := fun y j hy => hangM_other (fun h0 e => absurd (upc y h0 e) hy)
  have hic : i ∉ c.all := n5
  have hcy : ∀ y ∈ c.all, ∀ j, hangM M2 c.up a i y j = hangM M c.up a i y j := fun y hy j => hangM_congr (far y (fun e => hic (e ▸ hy)) j (fun h => absurd hy (h.elim (fun e => e ▸ hac) (fun e => e ▸ hkc)))) (fun h0 => by
    have hm := upc _ h0 rfl
    exact far _ (fun e => hic (e ▸ hm)) 7 (fun _ => by omega))
  refine ⟨⟨?_, ?_, ?_⟩, ⟨?_, ?_, ?_, ⟨?_, ?_, ?_⟩, hC.hang n6 hac hcy ?_⟩, ⟨fun y hy j => ?_, fun y hy j hj => ?_⟩, fun y => ?_⟩
  · rw [oth a _ hac, a6]
  · rw [oth a _ hac, far a hai 7 (fun _ => by omega)]; exact hA.2.1
  · rw [oth a _ hac, far a hai 10 (fun _ => by omega)]; exact hA.2.2
  · rw [oth a _ hac, a6]
  · rw [oth i _ hic, atI, x7]
  · rw [oth i _ hic, atI, x8]; rfl
  · rw [oth k _ hkc, k6]
  · rw [oth k _ hkc, far k hki 7 (fun _ => by omega)]; exact hk7
  · rw [oth k _ hkc, far k hki 10 (fun _ => by omega)]; exact hk10
  · rw [oth i _ hic, atI, x6]
  · simp only [List.mem_cons, not_or] at hy
    rw [oth y _ hy.2.2.2]
    exact far y hy.2.1 j (fun h => h.elim (fun e => absurd e hy.1) (fun e => absurd e hy.2.2.1))
  · simp only [List.mem_cons] at hy
    have hyi : y ≠ i := fun e => by
      subst e
      rcases hy with e | e | h
      · exact hai e.symm
      · exact hki e.symm
      · exact hic (c.lvs_sub _ h)
    rw [hangM_other (fun h0 e => ?_)]
    · exact far y hyi j (fun _ => hj)
    · rcases hy with h | h | h
      · exact absurd (upc y h0 e) (h ▸ hac)
      · exact absurd (upc y h0 e) (h ▸ hkc)
      · exact absurd (show (y : Int) = c.up by omega) (Cx.up_no n6 y h)
  · rw [hangM_other (fun _ _ => by omega)]
    by_cases h : y = i
    · rw [if_pos h, h, atI, x10]
    · rw [if_neg h, far y h 10 (fun _ => by omega)]
end Go.Proofs.Ytefhmbmbhiehdaa
