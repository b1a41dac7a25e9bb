/- broad.Tree as a whole, in plain Lean: what a leaf put in, or taken out, leaves; which bodies meet a box. Conditions: none. -/
import Derived.Test.YtniahipadfgkbaaGreatKG2
import Derived.Test.YtniahipadfgkbaaGreatKG3
import Derived.Test.YtniahipadfgkbaaGreatKIseeP
namespace Go.Proofs.YtniahipadfgkbaaGreat
/-- how high a tree is -/
def Tr.h : Tr → Int
  | .lf _ => 0
  | .nd _ l r => 1 + max l.h r.h
/-- no node has one side higher by more than one -/
def Tr.bal : Tr → Prop
  | .lf _ => True
  | .nd _ l r => l.h ≤ r.h + 1 ∧ r.h ≤ l.h + 1 ∧ l.bal ∧ r.bal
theorem Tr.h0 (T : Tr) : 0 ≤ T.h := by
  induction T with
  | lf k => exact Int.le_refl 0
  | nd k l r hl hr => simp only [Tr.h]; omega
theorem Rep.h {M : Nat → Nat → Int} : ∀ {T : Tr} {up : Int}, Rep M up T → M T.ix 10 = T.h := by
  intro T
  induction T with
  | lf k => intro up h; exact h.2.2
  | nd k l r hl hr =>
    intro up ⟨_, _, _, hf, h1, h2⟩
    rw [show (Tr.nd k l r).ix = k from rfl, hf.ht, hl h1, hr h2]
    rfl
/-- a way whose place has a tree of this height -/
def Cx.bal : Cx → Int → Prop
  | .top, _ => True
  | .lft _ c r, h => h ≤ r.h + 1 ∧ r.h ≤ h + 1 ∧ r.bal ∧ c.bal (1 + max h r.h)
  | .rgt _ l c, h => h ≤ l.h + 1 ∧ l.h ≤ h + 1 ∧ l.bal ∧ c.bal (1 + max l.h h)
/-- a tree in a place where there was a tree as high, or higher or lower by one -/
def Bal1 (T : Tr) (c : Cx) : Prop := T.bal ∧ ∃ g, c.bal g ∧ T.h ≤ g + 1 ∧ g ≤ T.h + 1
theorem bal_no {T : Tr} {c : Cx} {n : Nat} {l r : Tr} {c2 : Cx} {M : Nat → Nat → Int} (hop : Opens T c n l r c2) (hl : Rep M n l) (hr : Rep M n r) (hrot : M (kidM M l.ix r.ix) 10 ≤ M (othM M l.ix r.ix) 10 + 1) (ih : Bal1 T c) : Bal1 (.nd n l r) c2 := by
  obtain ⟨hT, g, hg, g1, g2⟩ := ih
  have el := hl.h
  have er := hr.h
  have key : l.h ≤ r.h + 1 ∧ r.h ≤ l.h + 1 := by
    by_cases hlt : M l.ix 10 < M r.ix 10
    · have e1 : kidM M l.ix r.ix = r.ix := if_pos hlt
      have e2 : othM M l.ix r.ix = l.ix := if_pos hlt
      rw [e1, e2] at hrot
      omega
    · have e1 : kidM M l.ix r.ix = l.ix := if_neg hlt
      have e2 : othM M l.ix r.ix = r.ix := if_neg hlt
      rw [e1, e2] at hrot
      omega
  cases hop with
  | lft =>
    obtain ⟨b1, b2, b3, b4⟩ := hg
    refine ⟨⟨key.1, key.2, hT, b3⟩, _, b4, ?_, ?_⟩ <;> simp only [Tr.h] <;> omega
  | rgt =>
    obtain ⟨b1, b2, b3, b4⟩ := hg
    refine ⟨⟨key.1, key.2, b3, hT⟩, _, b4, ?_, ?_⟩ <;> simp only [Tr.h] <;> omega
theorem bal_yes {T : Tr} {c : Cx} {n : Nat} {l r : Tr} {c2 : Cx} {M : Nat → Nat → Int} {kk : Nat} {O P Q : Tr} (hop : Opens T c n l r c2) (hl : Rep M n l) (hr : Rep M n r) (ht : Turned M l r kk O P Q) (ih : Bal1 T c) : Bal1 (.nd kk P (.nd n O Q)) c2 := by
  obtain ⟨hT, g, hg, g1, g2⟩ := ih
  obtain ⟨⟨A, B, hk, hab⟩, low, two⟩ := ht
  have hlr : ∃ o : Tr, True := ⟨O, trivial⟩
  have facts : ∃ up, Rep M n O ∧ Rep M n (.nd kk A B) ∧ up = (n : Int) := by
    rcases hk with ⟨e1, e2⟩ | ⟨e1, e2⟩
    · subst e1 e2; exact ⟨_, hr, hl, rfl⟩
    · subst e1 e2; exact ⟨_, hl, hr, rfl⟩
  obtain ⟨_, hO, hK, _⟩ := facts
  have eO := hO.h
  have eK : M kk 10 = (Tr.nd kk A B).h := hK.h
  have hPQ : M P.ix 10 = P.h ∧ M Q.ix 10 = Q.h := by
    obtain ⟨_, _, _, _, hA, hB⟩ := hK
    rcases hab with ⟨e1, e2⟩ | ⟨e1, e2⟩
    · subst e1 e2; exact ⟨hA.h, hB.h⟩
    · subst e1 e2; exact ⟨hB.h, hA.h⟩
  rw [eO, eK] at low
  rw [hPQ.1, hPQ.2] at two
  have hKe : (Tr.nd kk A B).h = 1 + P.h := by
    simp only [Tr.h]
    rcases hab with ⟨e1, e2⟩ | ⟨e1, e2⟩ <;> subst e1 e2 <;> omega
  have fin : (Tr.nd kk A B).bal → O.bal → (Tr.nd kk A B).h ≤ O.h + 2 → (Tr.nd kk P (.nd n O Q)).bal ∧ O.h + 2 ≤ (Tr.nd kk P (.nd n O Q)).h ∧ (Tr.nd kk P (.nd n O Q)).h ≤ O.h + 3 := by
    intro bK bO hle
    obtain ⟨k1, k2, k3, k4⟩ := bK
    rw [hKe] at low hle
    have hb : P.bal ∧ Q.bal ∧ P.h ≤ Q.h + 1 := by
      rcases hab with ⟨e1, e2⟩ | ⟨e1, e2⟩
      · subst e1 e2; exact ⟨k3, k4, k1⟩
      · subst e1 e2; exact ⟨k4, k3, k2⟩
    refine ⟨⟨?_, ?_, hb.1, ?_, ?_, bO, hb.2.1⟩, ?_, ?_⟩ <;> (try simp only [Tr.h]) <;> omega
  cases hop with
  | lft =>
    obtain ⟨b1, b2, b3, b4⟩ := hg
    rcases hk with ⟨e1, e2⟩ | ⟨e1, e2⟩
    · subst e1 e2
      obtain ⟨f1, f2, f3⟩ := fin hT b3 (by omega)
      exact ⟨f1, _, b4, by omega, by omega⟩
    · subst e1 e2
      obtain ⟨f1, f2, f3⟩ := fin b3 hT (by omega)
      exact ⟨f1, _, b4, by omega, by omega⟩
  | rgt =>
    obtain ⟨b1, b2, b3, b4⟩ := hg
    rcases hk with ⟨e1, e2⟩ | ⟨e1, e2⟩
    · subst e1 e2
      obtain ⟨f1, f2, f3⟩ := fin b3 hT (by omega)
      exact ⟨f1, _, b4, by omega, by omega⟩
    · subst e1 e2
      obtain ⟨f1, f2, f3⟩ := fin hT b3 (by omega)
      exact ⟨f1, _, b4, by omega, by omega⟩
/-- mend makes what is too high right -/
theorem Mends.bal {T0 : Tr} {c0 : Cx} (h0 : Bal1 T0 c0) {T : Tr} {c : Cx} (hm : Mends T0 c0 T c) : Bal1 T c := by
  induction hm with
  | at0 => exact h0
  | no T c n l r c2 M hm hop hl hr hrot ih => exact bal_no hop hl hr hrot ih
  | yes T c n l r c2 M kk O P Q hm hop hl hr ht ih => exact bal_yes hop hl hr ht ih
/-- the same where a leaf became two -/
theorem Mends.balIn {a i k : Nat} {c0 : Cx} (h0 : c0.bal 0) {T : Tr} {c : Cx} (hm : Mends (.lf a) (.lft i c0 (.lf k)) T c) : (T = .lf a ∧ c = .lft i c0 (.lf k)) ∨ Bal1 T c := by
  induction hm with
  | at0 => exact .inl ⟨rfl, rfl⟩
  | no T c n l r c2 M hm hop hl hr hrot ih =>
    rcases ih with ⟨rfl, rfl⟩ | ih
    · cases hop
      exact .inr ⟨⟨by simp [Tr.h], by simp [Tr.h], trivial, trivial⟩, 0, h0, by simp [Tr.h], by simp [Tr.h]⟩
    · exact .inr (bal_no hop hl hr hrot ih)
  | yes T c n l r c2 M kk O P Q hm hop hl hr ht ih =>
    rcases ih with ⟨rfl, rfl⟩ | ih
    · cases hop
      obtain ⟨⟨A, B, hk, _⟩, _, _⟩ := ht
      rcases hk with ⟨e, _⟩ | ⟨e, _⟩ <;> cases e
    · exact .inr (bal_yes hop hl hr ht ih)
/-- so many leaves at least -/
def fewest : Nat → Nat
  | 0 => 1
  | 1 => 2
  | n + 2 => fewest n + fewest (n + 1)
theorem fewest_mono : ∀ n, fewest n ≤ fewest (n + 1) ∧ 1 ≤ fewest n := by
  intro n
  induction n using Nat.strongRecOn with
  | ind n ih =>
    match n with
    | 0 => exact ⟨by decide, by decide⟩
    | 1 => exact ⟨by decide, by decide⟩
    | n + 2 =>
      have := ih n (by omega)
      have := ih (n + 1) (by omega)
      refine ⟨?_, ?_⟩
      · show fewest (n + 2) ≤ fewest (n + 1) + fewest (n + 2)
        omega
      · show 1 ≤ fewest n + fewest (n + 1)
        omega
theorem fewest_le {a b : Nat} (h : a ≤ b) : fewest a ≤ fewest b := by
  induction h with
  | refl => exact Nat.le_refl _
  | step _ ih => exact Nat.le_trans ih (fewest_mono _).1
theorem Tr.fewest {T : Tr} (h : T.bal) : fewest T.h.toNat ≤ T.lvs.length := by
  induction T with
  | lf k => exact Nat.le_refl 1
  | nd k l r hl hr =>
    obtain ⟨h1, h2, h3, h4⟩ := h
    have a := hl h3
    have b := hr h4
    have l0 := l.h0
    have r0 := r.h0
    simp only [Tr.lvs, List.length_append, Tr.h]
    rcases Int.lt_or_le l.h r.h with hlt | hle
    · obtain ⟨m, hm⟩ : ∃ m : Nat, l.h = m := ⟨l.h.toNat, by omega⟩
      have e : r.h = m + 1 := by omega
      have e2 : (1 + max l.h r.h).toNat = m + 2 := by omega
      rw [e2]
      rw [hm] at a
      rw [e] at b
      have ea : ((m : Int)).toNat = m := by omega
      have eb : ((m : Int) + 1).toNat = m + 1 := by omega
      rw [ea] at a
      rw [eb] at b
      show Go.Proofs.YtniahipadfgkbaaGreat.fewest m + Go.Proofs.YtniahipadfgkbaaGreat.fewest (m + 1) ≤ _
      omega
    · obtain ⟨m, hm⟩ : ∃ m : Nat, l.h = m := ⟨l.h.toNat, by omega⟩
      have e2 : (1 + max l.h r.h).toNat = m + 1 := by omega
      rw [e2]
      rw [hm] at a hle h1
      have ea : ((m : Int)).toNat = m := by omega
      rw [ea] at a
      cases m with
      | zero =>
        show 2 ≤ _
        have := (fewest_mono r.h.toNat).2
        have := (fewest_mono 0).2
        omega
      | succ m =>
        have hb : Go.Proofs.YtniahipadfgkbaaGreat.fewest m ≤ Go.Proofs.YtniahipadfgkbaaGreat.fewest r.h.toNat := fewest_le (by omega)
        show Go.Proofs.YtniahipadfgkbaaGreat.fewest m + Go.Proofs.YtniahipadfgkbaaGreat.fewest (m + 1) ≤ _
        omega
/-- a tree of at most sixty leaves is not high -/
theorem Tr.low {T : Tr} (h : T.bal) (hl : T.lvs.length ≤ 60) : T.h ≤ 8 := by
  rcases Int.lt_or_le 8 T.h with h8 | h8
  · have a := Tr.fewest h
    have b : Go.Proofs.YtniahipadfgkbaaGreat.fewest 9 ≤ Go.Proofs.YtniahipadfgkbaaGreat.fewest T.h.toNat := fewest_le (by omega)
    have c : Go.Proofs.YtniahipadfgkbaaGreat.fewest 9 = 89 := by decide
    omega
  · exact h8
theorem Tr.h_lt (T : Tr) : T.h < T.lvs.length := by
  induction T with
  | lf k => simp [Tr.h, Tr.lvs]
  | nd k l r hl hr => simp only [Tr.h, Tr.lvs, List.length_append]; have := l.h0; have := r.h0; omega
theorem Tr.lvs_pos (T : Tr) : 1 ≤ T.lvs.length := by
  have := T.h0
  have := T.h_lt
  omega
/-- a node's box is around its leaves' -/
theorem Rep.around {M : Nat → Nat → Int} : ∀ {T : Tr} {up : Int}, Rep M up T → ∀ k ∈ T.lvs, (∀ j, j < 3 → M T.ix j ≤ M k j) ∧ ∀ j, 3 ≤ j → j < 6 → M k j ≤ M T.ix j := by
  intro T
  induction T with
  | lf k =>
    intro up h x hx
    have e : x = k := by simpa [Tr.lvs] using hx
    subst e
    exact ⟨fun _ _ => Int.le_refl _, fun _ _ _ => Int.le_refl _⟩
  | nd k l r hl hr =>
    intro up ⟨_, _, _, hf, h1, h2⟩ x hx
    rw [show (Tr.nd k l r).ix = k from rfl]
    rcases List.mem_append.1 hx with hx | hx
    · have a := hl h1 x hx
      refine ⟨fun j hj => ?_, fun j h3 hj => ?_⟩
      · have := hf.lo j hj; have := a.1 j hj; omega
      · have := hf.hi j h3 hj; have := a.2 j h3 hj; omega
    · have a := hr h2 x hx
      refine ⟨fun j hj => ?_, fun j h3 hj => ?_⟩
      · have := hf.lo j hj; have := a.1 j hj; omega
      · have := hf.hi j h3 hj; have := a.2 j h3 hj; omega
/-- a leaf is reached: what is below, what is above -/
theorem Tr.zip {M : Nat → Nat → Int} {root : Int} : ∀ {T : Tr} {c : Cx}, Rep M c.up T → RepC M root T.ix c → ∀ k ∈ T.lvs, ∃ c2, Rep M c2.up (.lf k) ∧ RepC M root k c2 ∧ (k :: c2.all).Perm (T.all ++ c.all) ∧ (k :: c2.lvs).Perm (T.lvs ++ c.lvs) ∧ (T.bal → c.bal T.h → c2.bal 0) := by
  intro T
  induction T with
  | lf x =>
    intro c hT hc k hk
    have e : k = x := by simpa [Tr.lvs] using hk
    subst e
    exact ⟨c, hT, hc, List.Perm.refl _, List.Perm.refl _, fun _ h => h⟩
  | nd x l r hl hr =>
    intro c ⟨h6, h7, h8, hf, h1, h2⟩ hc k hk
    rcases List.mem_append.1 hk with hk | hk
    · obtain ⟨c2, q1, q2, q3, q4, q5⟩ := hl (c := .lft x c r) h1 ⟨h1.up, h7, h8, h2, hc⟩ k hk
      refine ⟨c2, q1, q2, q3.trans ?_, q4.trans ?_, fun hb hcb => q5 (by obtain ⟨b1, b2, b3, b4⟩ := hb; exact b3) (by obtain ⟨b1, b2, b3, b4⟩ := hb; exact ⟨b1, b2, b4, hcb⟩)⟩
      · simp only [Cx.all, Tr.all, List.cons_append, List.append_assoc]
        exact List.perm_middle
      · simp only [Cx.lvs, Tr.lvs, List.append_assoc]
        exact List.Perm.refl _
    · obtain ⟨c2, q1, q2, q3, q4, q5⟩ := hr (c := .rgt x l c) h2 ⟨h2.up, h7, h8, h1, hc⟩ k hk
      refine ⟨c2, q1, q2, q3.trans ?_, q4.trans ?_, fun hb hcb => q5 (by obtain ⟨b1, b2, b3, b4⟩ := hb; exact b4) (by obtain ⟨b1, b2, b3, b4⟩ := hb; exact ⟨b2, b1, b3, hcb⟩)⟩
      · simp only [Cx.all, Tr.all, List.cons_append, List.append_assoc]
        refine List.perm_middle.trans (List.Perm.cons x ?_)
        rw [← List.append_assoc, ← List.append_assoc]
        exact List.Perm.append_right _ List.perm_append_comm
      · simp only [Cx.lvs, Tr.lvs, List.append_assoc]
        rw [← List.append_assoc, ← List.append_assoc]
        exact List.Perm.append_right _ List.perm_append_comm
theorem hangM_congr {M M2 : Nat → Nat → Int} {up was is : Int} {y j : Nat} (e : M2 y j = M y j) (eu : 0 ≤ up → M2 up.toNat 7 = M up.toNat 7) : hangM M2 up was is y j = hangM M up was is y j := by
  unfold hangM
  split
  · exact e
  · rename_i h0
    rw [eu (by omega)]
    split
    · unfold put1; rw [e]
    · unfold put1; rw [e]
/-- a leaf hung in: what is to be mended then -/
theorem in_step {M : Nat → Nat → Int} {root : Int} {a k i : Nat} {c : Cx} {x : Nat → Int} (hA : Rep M c.up (.lf a)) (hC : RepC M root a c) (hk7 : M k 7 = -1) (hk10 : M k 10 = 0) (hnd : (a :: k :: i :: c.all).Nodup) (x6 : x 6 = c.up) (x7 : x 7 = a) (x8 : x 8 = k) (x10 : x 10 = 0) :
    Rep (hangM (put1 (put1 (setRow M i x) a 6 i) k 6 i) c.up a i) (i : Int) (.lf a) ∧ RepC (hangM (put1 (put1 (setRow M i x) a 6 i) k 6 i) c.up a i) (hangR root c.up i) a (.lft i c (.lf k)) ∧ Kept M (hangM (put1 (put1 (setRow M i x) a 6 i) k 6 i) c.up a i) (a :: i :: k :: c.all) (a :: k :: c.lvs) ∧
    ∀ y, hangM (put1 (put1 (setRow M i x) a 6 i) k 6 i) c.up a i y 10 = if y = i then 0 else M y 10 := by
  obtain ⟨n1, n2⟩ := List.nodup_cons.1 hnd
  obtain ⟨n3, n4⟩ := List.nodup_cons.1 n2
  obtain ⟨n5, n6⟩ := List.nodup_cons.1 n4
  have hak : a ≠ k := fun e => n1 (by simp [e])
  have hai : a ≠ i := fun e => n1 (by simp [e])
  have hki : k ≠ i := fun e => n3 (by simp [e])
  have hac : a ∉ c.all := fun h => n1 (by simp [h])
  have hkc : k ∉ c.all := fun h => n3 (by simp [h])
  obtain ⟨M2, e2⟩ : ∃ M2, M2 = put1 (put1 (setRow M i x) a 6 i) k 6 i := ⟨_, rfl⟩
  rw [← e2]
  have far : ∀ y, y ≠ i → ∀ j, (y = a ∨ y = k → j ≠ 6) → M2 y j = M y j := fun y hy j hj => by
    rw [e2]
    unfold put1 setRow
    by_cases h6 : j = 6
    · rw [if_neg (fun h => hj (.inr h.1) h.2), if_neg (fun h => hj (.inl h.1) h.2), if_neg hy]
    · rw [if_neg (fun h => h6 h.2), if_neg (fun h => h6 h.2), if_neg hy]
  have atI : ∀ j, M2 i j = x j := fun j => by
    rw [e2]
    unfold put1 setRow
    rw [if_neg (fun h => hki h.1.symm), if_neg (fun h => hai h.1.symm), if_pos rfl]
  have a6 : M2 a 6 = i := by
    rw [e2]
    unfold put1
    rw [if_neg (fun h => hak h.1), if_pos ⟨rfl, rfl⟩]
  have k6 : M2 k 6 = i := by
    rw [e2]
    unfold put1
    rw [if_pos ⟨rfl, rfl⟩]
  have upc : ∀ y : Nat, 0 ≤ c.up → y = c.up.toNat → y ∈ c.all := fun y h0 e => Cx.up_mem (by omega)
  have oth : ∀ y j, y ∉ c.all → hangM M2 c.up a i y j = M2 y j := fun y j hy => hangM_other (fun h0 e => absurd (upc y h0 e) hy)
  have hic : i ∉ c.all := n5
  have hcy : ∀ y ∈ c.all, ∀ j, hangM M2 c.up a i y j = hangM M c.up a i y j := fun y hy j => hangM_congr (far y (fun e => hic (e ▸ hy)) j (fun h => absurd hy (h.elim (fun e => e ▸ hac) (fun e => e ▸ hkc)))) (fun h0 => by
    have hm := upc _ h0 rfl
    exact far _ (fun e => hic (e ▸ hm)) 7 (fun _ => by omega))
  refine ⟨⟨?_, ?_, ?_⟩, ⟨?_, ?_, ?_, ⟨?_, ?_, ?_⟩, hC.hang n6 hac hcy ?_⟩, ⟨fun y hy j => ?_, fun y hy j hj => ?_⟩, fun y => ?_⟩
  · rw [oth a _ hac, a6]
  · rw [oth a _ hac, far a hai 7 (fun _ => by omega)]; exact hA.2.1
  · rw [oth a _ hac, far a hai 10 (fun _ => by omega)]; exact hA.2.2
  · rw [oth a _ hac, a6]
  · rw [oth i _ hic, atI, x7]
  · rw [oth i _ hic, atI, x8]; rfl
  · rw [oth k _ hkc, k6]
  · rw [oth k _ hkc, far k hki 7 (fun _ => by omega)]; exact hk7
  · rw [oth k _ hkc, far k hki 10 (fun _ => by omega)]; exact hk10
  · rw [oth i _ hic, atI, x6]
  · simp only [List.mem_cons, not_or] at hy
    rw [oth y _ hy.2.2.2]
    exact far y hy.2.1 j (fun h => h.elim (fun e => absurd e hy.1) (fun e => absurd e hy.2.2.1))
  · simp only [List.mem_cons] at hy
    have hyi : y ≠ i := fun e => by
      subst e
      rcases hy with e | e | h
      · exact hai e.symm
      · exact hki e.symm
      · exact hic (c.lvs_sub _ h)
    rw [hangM_other (fun h0 e => ?_)]
    · exact far y hyi j (fun _ => hj)
    · rcases hy with h | h | h
      · exact absurd (upc y h0 e) (h ▸ hac)
      · exact absurd (upc y h0 e) (h ▸ hkc)
      · exact absurd (show (y : Int) = c.up by omega) (Cx.up_no n6 y h)
  · rw [hangM_other (fun _ _ => by omega)]
    by_cases h : y = i
    · rw [if_pos h, h, atI, x10]
    · rw [if_neg h, far y h 10 (fun _ => by omega)]
end Go.Proofs.YtniahipadfgkbaaGreat
namespace Go.Proofs.YtniahipadfgkbaaGreat
def oall : Option Tr → List Nat
  | none => []
  | some T => T.all
/-- the nodes make a tree (or none), whose leaves are the bodies' -/
structure Tre (som : Bool) (root : Int) (nn : Nat) (M : Nat → Nat → Int) (F : List Nat) (n : Nat) (f : Int → Option Nat) (o : Option Tr) : Prop where
  nd : (oall o ++ F).Nodup
  lt : ∀ x ∈ oall o ++ F, x < nn
  high : ∀ x, x < nn → 0 ≤ M x 10 ∧ M x 10 ≤ 1000000
  none_ : o = none → som = false ∧ (∀ id, f id = none) ∧ n = 0
  some_ : ∀ T, o = some T → som = true ∧ root = T.ix ∧ Rep M (-1) T ∧ T.bal ∧ (∀ id k, f id = some k ↔ k ∈ T.lvs ∧ M k 9 = id) ∧ T.lvs.length = n
theorem nodup_bound : ∀ {n : Nat} {l : List Nat}, l.Nodup → (∀ x ∈ l, x < n) → l.length ≤ n := by
  intro n
  induction n with
  | zero =>
    intro l h hl
    cases l with
    | nil => exact Nat.le_refl 0
    | cons a l => exact absurd (hl a (by simp)) (by omega)
  | succ n ih =>
    intro l h hl
    have h1 := ih (l := l.erase n) (h.erase n) (fun x hx => by
      have h2 := hl x (List.mem_of_mem_erase hx)
      have h3 : x ≠ n := (h.mem_erase_iff.1 hx).1
      omega)
    have h4 : l.length ≤ (l.erase n).length + 1 := by rw [List.length_erase]; split <;> omega
    omega
theorem lvs_nodup : ∀ T : Tr, T.all.Nodup → T.lvs.Nodup := by
  intro T
  induction T with
  | lf k => intro _; simp [Tr.lvs]
  | nd k l r hl hr =>
    intro h
    obtain ⟨h1, h2, h3⟩ := List.nodup_append.1 (List.nodup_cons.1 h).2
    exact List.nodup_append.2 ⟨hl h1, hr h2, fun x hx y hy => h3 x (l.lvs_sub x hx) y (r.lvs_sub y hy)⟩
/-- a new node is one that was free, or the next one -/
def NodeWay (F : List Nat) (nn : Nat) (i : Nat) (F' : List Nat) (nn' : Nat) : Prop := (F = [] ∧ F' = [] ∧ i = nn ∧ nn' = nn + 1) ∨ (F = F' ++ [i] ∧ nn' = nn)
theorem NodeWay.facts {F F' : List Nat} {nn nn' i : Nat} (h : NodeWay F nn i F' nn') {A : List Nat} (hn : (A ++ F).Nodup) (hl : ∀ x ∈ A ++ F, x < nn) :
    (A ++ i :: F').Nodup ∧ (∀ x ∈ A ++ i :: F', x < nn') ∧ nn ≤ nn' ∧ nn' ≤ nn + 1 ∧ i < nn' ∧ (∀ x, x < nn' → x ≠ i → x < nn) := by
  rcases h with ⟨rfl, rfl, rfl, rfl⟩ | ⟨rfl, rfl⟩
  · rw [List.append_nil] at hn hl
    refine ⟨?_, fun x hx => ?_, by omega, by omega, by omega, fun x _ _ => by omega⟩
    · refine List.nodup_append.2 ⟨hn, by simp, fun x hx y hy e => ?_⟩
      have e2 : y = i := by simpa using hy
      have := hl x hx
      omega
    · rcases List.mem_append.1 hx with h | h
      · have := hl x h; omega
      · have e2 : x = i := by simpa using h
        omega
  · have hp : (A ++ (F' ++ [i])).Perm (A ++ i :: F') := List.Perm.append_left A (List.perm_append_comm (l₁ := F') (l₂ := [i]))
    refine ⟨hp.nodup_iff.1 hn, fun x hx => hl x (hp.mem_iff.2 hx), by omega, by omega, hl i (by simp), fun x hx _ => hx⟩
/-- the first leaf -/
theorem Tre.in_top {root : Int} {nn nn' k : Nat} {M : Nat → Nat → Int} {F F' : List Nat} {n n' : Nat} {f : Int → Option Nat} {som : Bool} {x : Nat → Int} {id : Int} (h : Tre som root nn M F n f none) (hw : NodeWay F nn k F' nn') (x7 : x 7 = -1) (x9 : x 9 = id) (x10 : x 10 = 0) (hn' : n' = n + 1) :
    Tre true k nn' (put1 (setRow M k x) k 6 (-1)) F' n' (fun y => if y = id then some k else f y) (some (.lf k)) := by
  obtain ⟨a1, a2, a3, a4, a5, a6⟩ := hw.facts (A := []) h.nd h.lt
  obtain ⟨_, hf, h0⟩ := h.none_ rfl
  have ek : ∀ j, j ≠ 6 → put1 (setRow M k x) k 6 (-1) k j = x j := fun j hj => by
    unfold put1 setRow
    rw [if_neg (fun h => hj h.2), if_pos rfl]
  refine ⟨a1, a2, fun y hy => ?_, fun e => (by cases e), fun T e => ?_⟩
  · by_cases e : y = k
    · subst e
      rw [ek 10 (by omega), x10]
      omega
    · have : put1 (setRow M k x) k 6 (-1) y 10 = M y 10 := by
        unfold put1 setRow
        rw [if_neg (fun h => e h.1), if_neg e]
      rw [this]
      exact h.high y (a6 y hy e)
  · cases e
    refine ⟨rfl, rfl, ⟨by simp [put1], by rw [ek 7 (by omega), x7], by rw [ek 10 (by omega), x10]⟩, trivial, fun id' k' => ?_, by rw [hn', h0]; rfl⟩
    have em : k' ∈ (Tr.lf k).lvs ↔ k' = k := by simp [Tr.lvs]
    rw [em]
    by_cases e : id' = id
    · rw [if_pos e]
      constructor
      · intro e2
        have e3 : k = k' := Option.some.inj e2
        subst e3
        exact ⟨rfl, by rw [ek 9 (by omega), x9, e]⟩
      · rintro ⟨e2, _⟩
        rw [e2]
    · rw [if_neg e, hf]
      constructor
      · intro e2; cases e2
      · rintro ⟨e2, e3⟩
        subst e2
        rw [ek 9 (by omega), x9] at e3
        exact absurd e3.symm e
/-- one leaf more -/
theorem Tre.in_up {root : Int} {nn nn1 nn2 k i : Nat} {M M' : Nat → Nat → Int} {F F1 F2 : List Nat} {n n' : Nat} {f : Int → Option Nat} {som : Bool} {x : Nat → Int} {id : Int} {T T' : Tr} (h : Tre som root nn M F n f (some T)) (hw : NodeWay F nn k F1 nn1) (hw2 : NodeWay F1 nn1 i F2 nn2) (x9 : x 9 = id) (hf : f id = none) (hn' : n' = n + 1)
    (hR : Rep M' (-1) T') (hb : T'.bal) (ha : T'.all.Perm (i :: k :: T.all)) (hl : T'.lvs.Perm (k :: T.lvs)) (hK : Kept (setRow M k x) M' (i :: k :: T.all) (k :: T.lvs)) (hh : ∀ y, y < nn2 → 0 ≤ M' y 10 ∧ M' y 10 ≤ 1000000) :
    Tre true T'.ix nn2 M' F2 n' (fun y => if y = id then some k else f y) (some T') := by
  obtain ⟨a1, a2, a3, a4, a5, a6⟩ := hw.facts h.nd h.lt
  have b0 : (T.all ++ k :: F1).Perm ((k :: T.all) ++ F1) := List.perm_middle
  obtain ⟨b1, b2, b3, b4, b5, b6⟩ := hw2.facts (A := k :: T.all) (b0.nodup_iff.1 a1) (fun y hy => a2 y (b0.mem_iff.2 hy))
  have c0 : ((k :: T.all) ++ i :: F2).Perm (T'.all ++ F2) := List.perm_middle.trans (List.Perm.append_right F2 ha.symm)
  obtain ⟨_, _, _, _, hid, hlen⟩ := h.some_ T rfl
  have hkT : k ∉ T.all := by
    have := (b0.nodup_iff.1 a1)
    rw [List.cons_append] at this
    exact fun hm => (List.nodup_cons.1 this).1 (List.mem_append_left _ hm)
  refine ⟨c0.nodup_iff.1 b1, fun y hy => b2 y (c0.mem_iff.2 hy), hh, fun e => by (cases e), fun T'' e => ?_⟩
  cases e
  refine ⟨rfl, rfl, hR, hb, fun id' k' => ?_, by rw [hl.length_eq, List.length_cons, hlen, hn']⟩
  rw [hl.mem_iff, List.mem_cons]
  have ek : M' k 9 = id := by rw [hK.leaf k (by simp) 9 (by omega)]; simp [setRow, x9]
  have eo : ∀ y ∈ T.lvs, M' y 9 = M y 9 := fun y hy => by
    rw [hK.leaf y (by simp [hy]) 9 (by omega)]
    unfold setRow
    rw [if_neg (fun e : y = k => hkT (e ▸ T.lvs_sub y hy))]
  by_cases e : id' = id
  · rw [if_pos e]
    constructor
    · intro e2
      have e3 : k = k' := Option.some.inj e2
      subst e3
      exact ⟨.inl rfl, by rw [ek, e]⟩
    · rintro ⟨e2 | e2, e3⟩
      · rw [e2]
      · rw [eo k' e2] at e3
        have := (hid id' k').2 ⟨e2, e3⟩
        rw [e, hf] at this
        cases this
  · rw [if_neg e, hid]
    constructor
    · rintro ⟨e2, e3⟩
      exact ⟨.inr e2, by rw [eo k' e2, e3]⟩
    · rintro ⟨e2 | e2, e3⟩
      · subst e2
        rw [ek] at e3
        exact absurd e3.symm e
      · exact ⟨e2, by rw [← eo k' e2]; exact e3⟩
/-- the last leaf taken out -/
theorem Tre.out_top {root root' : Int} {nn k : Nat} {M : Nat → Nat → Int} {F : List Nat} {n : Nat} {f : Int → Option Nat} {som : Bool} {id : Int} (h : Tre som root nn M F n f (some (.lf k))) (hf : f id = some k) :
    Tre false root' nn M (F ++ [k]) (n - 1) (fun y => if y = id then none else f y) none := by
  obtain ⟨_, _, _, _, hid, hlen⟩ := h.some_ _ rfl
  have hp : (oall none ++ (F ++ [k])).Perm (oall (some (.lf k)) ++ F) := List.perm_append_comm (l₁ := F) (l₂ := [k])
  have hk9 := ((hid id k).1 hf).2
  refine ⟨hp.nodup_iff.2 h.nd, fun x hx => h.lt x (hp.mem_iff.1 hx), h.high, fun _ => ⟨rfl, fun id' => ?_, by rw [← hlen]; rfl⟩, fun T e => (by cases e)⟩
  by_cases e : id' = id
  · rw [if_pos e]
  · rw [if_neg e]
    cases hq : f id' with
    | none => rfl
    | some k' =>
      obtain ⟨h1, h2⟩ := (hid id' k').1 hq
      have e2 : k' = k := by simpa [Tr.lvs] using h1
      subst e2
      exact absurd (h2.symm.trans hk9) e
/-- one leaf less -/
theorem Tre.out_up {root : Int} {nn k U : Nat} {M M' : Nat → Nat → Int} {F : List Nat} {n : Nat} {f : Int → Option Nat} {som : Bool} {id : Int} {T T' : Tr} {all lvs : List Nat} (h : Tre som root nn M F n f (some T)) (hf : f id = some k) (hp : (k :: U :: all).Perm T.all) (hq : (k :: lvs).Perm T.lvs)
    (hR : Rep M' (-1) T') (hb : T'.bal) (ha : T'.all.Perm all) (hl : T'.lvs.Perm lvs) (hK : Kept M M' all lvs) (hh : ∀ y, y < nn → 0 ≤ M' y 10 ∧ M' y 10 ≤ 1000000) :
    Tre true T'.ix nn M' (F ++ [k] ++ [U]) (n - 1) (fun y => if y = id then none else f y) (some T') := by
  obtain ⟨_, _, _, _, hid, hlen⟩ := h.some_ _ rfl
  have hk9 := ((hid id k).1 hf).2
  have hpp : (T'.all ++ (F ++ [k] ++ [U])).Perm (T.all ++ F) := by
    refine List.Perm.trans ?_ (List.Perm.append_right F hp)
    refine List.Perm.trans (List.Perm.append_right _ ha) ?_
    have e : all ++ (F ++ [k] ++ [U]) = (all ++ F) ++ [k, U] := by simp
    rw [e]
    exact List.perm_append_comm.trans (List.Perm.refl _)
  have hlT : k ∉ lvs := by
    have : T.lvs.Nodup := by
      have hn := (List.nodup_append.1 h.nd).1
      have hn : T.all.Nodup := hn
      exact lvs_nodup T hn
    exact (List.nodup_cons.1 (hq.nodup_iff.2 this)).1
  refine ⟨hpp.nodup_iff.2 h.nd, fun x hx => h.lt x (hpp.mem_iff.1 hx), hh, fun e => by (cases e), fun T'' e => ?_⟩
  cases e
  refine ⟨rfl, rfl, hR, hb, fun id' k' => ?_, by rw [hl.length_eq, ← hlen, ← hq.length_eq]; rfl⟩
  rw [hl.mem_iff]
  by_cases e : id' = id
  · rw [if_pos e]
    constructor
    · intro e2; cases e2
    · rintro ⟨e2, e3⟩
      rw [hK.leaf k' e2 9 (by omega)] at e3
      have := (hid id' k').2 ⟨hq.mem_iff.1 (List.mem_cons_of_mem _ e2), e3⟩
      rw [e, hf] at this
      exact absurd e2 (fun h => hlT (by rw [Option.some.inj this]; exact h))
  · rw [if_neg e, hid, ← hq.mem_iff, List.mem_cons]
    constructor
    · rintro ⟨e2 | e2, e3⟩
      · subst e2
        exact absurd (e3.symm.trans hk9) e
      · exact ⟨e2, by rw [hK.leaf k' e2 9 (by omega), e3]⟩
    · rintro ⟨e2, e3⟩
      exact ⟨.inr e2, by rw [← hK.leaf k' e2 9 (by omega)]; exact e3⟩
/-- a node's box -/
def nodeBx (M : Nat → Nat → Int) (k : Nat) : Bx := ⟨M k 0, M k 1, M k 2, M k 3, M k 4, M k 5⟩
/-- a box lies in another one -/
def inX (b c : Bx) : Prop := c.a1 ≤ b.a1 ∧ c.a2 ≤ b.a2 ∧ c.a3 ≤ b.a3 ∧ b.b1 ≤ c.b1 ∧ b.b2 ≤ c.b2 ∧ b.b3 ≤ c.b3
theorem inX_meet {b c q : Bx} (h : inX b c) (hm : meetX b q = true) : meetX c q = true := by
  unfold meetX at hm ⊢
  simp only [Bool.and_eq_true, decide_eq_true_eq] at hm ⊢
  obtain ⟨h1, h2, h3, h4, h5, h6⟩ := h
  obtain ⟨⟨⟨⟨⟨m1, m2⟩, m3⟩, m4⟩, m5⟩, m6⟩ := hm
  refine ⟨⟨⟨⟨⟨?_, ?_⟩, ?_⟩, ?_⟩, ?_⟩, ?_⟩ <;> omega
theorem Rep.inX {M : Nat → Nat → Int} {T : Tr} {up : Int} (h : Rep M up T) {k : Nat} (hk : k ∈ T.lvs) {b : Bx} (hb : inX b (nodeBx M k)) : inX b (nodeBx M T.ix) := by
  obtain ⟨lo, hi⟩ := h.around k hk
  obtain ⟨h1, h2, h3, h4, h5, h6⟩ := hb
  have := lo 0 (by omega)
  have := lo 1 (by omega)
  have := lo 2 (by omega)
  have := hi 3 (by omega) (by omega)
  have := hi 4 (by omega) (by omega)
  have := hi 5 (by omega) (by omega)
  simp only [nodeBx] at h1 h2 h3 h4 h5 h6
  refine ⟨?_, ?_, ?_, ?_, ?_, ?_⟩ <;> simp only [nodeBx] <;> omega
/-- is the body's box one that meets this one -/
def meetD (D : Int → Option Bx) (q : Bx) (id : Int) : Bool := match D id with | none => false | some b => meetX b q
theorem meetD_iff {D : Int → Option Bx} {q : Bx} {id : Int} : meetD D q id = true ↔ ∃ b, D id = some b ∧ meetX b q = true := by
  unfold meetD
  cases D id with
  | none => simp
  | some b => simp
/-- a tree's bodies whose boxes meet this one -/
def qOf (M : Nat → Nat → Int) (D : Int → Option Bx) (q : Bx) (T : Tr) : List Int := (T.lvs.filter fun k => meetD D q (M k 9)).map fun k => M k 9
theorem qOf_nd (M : Nat → Nat → Int) (D : Int → Option Bx) (q : Bx) (k : Nat) (l r : Tr) : qOf M D q (.nd k l r) = qOf M D q l ++ qOf M D q r := by simp [qOf, Tr.lvs]
theorem qOf_lf (M : Nat → Nat → Int) (D : Int → Option Bx) (q : Bx) (k : Nat) : qOf M D q (.lf k) = if meetD D q (M k 9) then [M k 9] else [] := by
  unfold qOf
  cases h : meetD D q (M k 9) <;> simp [Tr.lvs, h]
theorem qOf_none {M : Nat → Nat → Int} {D : Int → Option Bx} {q : Bx} {T : Tr} {up : Int} (h : Rep M up T) (hb : ∀ k ∈ T.lvs, ∀ b, D (M k 9) = some b → inX b (nodeBx M k)) (hm : meetX (nodeBx M T.ix) q = false) : qOf M D q T = [] := by
  unfold qOf
  rw [List.filter_eq_nil_iff.2, List.map_nil]
  intro k hk e
  obtain ⟨b, e1, e2⟩ := meetD_iff.1 e
  have := inX_meet (h.inX hk (hb k hk b e1)) e2
  rw [hm] at this
  cases this
/-- the leaves' boxes are around the bodies' -/
structure Bxs (M : Nat → Nat → Int) (f : Int → Option Nat) (D : Int → Option Bx) : Prop where
  same : ∀ id, (f id).isSome = (D id).isSome
  ins : ∀ id k b, f id = some k → D id = some b → inX b (nodeBx M k)
theorem qOf_all {som : Bool} {root : Int} {nn : Nat} {M : Nat → Nat → Int} {F : List Nat} {n : Nat} {f : Int → Option Nat} {T : Tr} {D : Int → Option Bx} {q : Bx} (h : Tre som root nn M F n f (some T)) (hB : Bxs M f D) :
    (qOf M D q T).Nodup ∧ (qOf M D q T).length ≤ n ∧ ∀ x, x ∈ qOf M D q T ↔ ∃ b, D x = some b ∧ meetX b q = true := by
  obtain ⟨_, _, _, _, hid, hlen⟩ := h.some_ _ rfl
  have hnd : T.lvs.Nodup := lvs_nodup T (List.nodup_append.1 h.nd).1
  refine ⟨?_, ?_, fun x => ?_⟩
  · unfold qOf
    refine List.pairwise_map.2 (List.Pairwise.filter _ (List.Pairwise.imp_of_mem ?_ hnd))
    intro a b ha hb hne e
    have e1 := (hid (M a 9) a).2 ⟨ha, rfl⟩
    have e2 := (hid (M a 9) b).2 ⟨hb, e.symm⟩
    rw [e1] at e2
    exact hne (Option.some.inj e2)
  · unfold qOf
    rw [List.length_map, ← hlen]
    exact List.length_filter_le _ _
  · unfold qOf
    simp only [List.mem_map, List.mem_filter]
    constructor
    · rintro ⟨k, ⟨_, h2⟩, rfl⟩
      exact meetD_iff.1 h2
    · rintro ⟨b, h1, h2⟩
      have hs := hB.same x
      rw [h1] at hs
      obtain ⟨k, hk⟩ := Option.isSome_iff_exists.1 hs
      obtain ⟨h3, h4⟩ := (hid x k).1 hk
      exact ⟨k, ⟨h3, by rw [h4]; exact meetD_iff.2 ⟨b, h1, h2⟩⟩, h4⟩
theorem Bxs.leaf {som : Bool} {root : Int} {nn : Nat} {M : Nat → Nat → Int} {F : List Nat} {n : Nat} {f : Int → Option Nat} {T : Tr} {D : Int → Option Bx} (h : Tre som root nn M F n f (some T)) (hB : Bxs M f D) : ∀ k ∈ T.lvs, ∀ b, D (M k 9) = some b → inX b (nodeBx M k) := by
  obtain ⟨_, _, _, _, hid, hlen⟩ := h.some_ _ rfl
  exact fun k hk b e => hB.ins (M k 9) k b ((hid _ k).2 ⟨hk, rfl⟩) e
end Go.Proofs.YtniahipadfgkbaaGreat
