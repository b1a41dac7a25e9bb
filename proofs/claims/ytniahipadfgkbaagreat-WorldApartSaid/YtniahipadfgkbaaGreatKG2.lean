/- node of broad.Tree. Conditions: none. -/
import Derived.Test.YtniahipadfgkbaaGreatKG1
import Derived.Deep.LoopGhost
import Derived.Test.YtniahipadfgkbaaGreatKX3
import Derived.Test.YtniahipadfgkbaaGreatKIseeP
import Derived.Test.YtniahipadfgkbaaGreatKY1
namespace Go.Proofs.YtniahipadfgkbaaGreat
/-- a tree of nodes' numbers -/
inductive Tr where
  | lf (k : Nat)
  | nd (k : Nat) (l r : Tr)
def Tr.ix : Tr → Nat
  | .lf k => k
  | .nd k _ _ => k
def Tr.all : Tr → List Nat
  | .lf k => [k]
  | .nd k l r => k :: (l.all ++ r.all)
def Tr.lvs : Tr → List Nat
  | .lf k => [k]
  | .nd _ l r => l.lvs ++ r.lvs
theorem Tr.ix_mem (T : Tr) : T.ix ∈ T.all := by cases T <;> simp [Tr.ix, Tr.all]
theorem Tr.lvs_sub : ∀ (T : Tr), ∀ k ∈ T.lvs, k ∈ T.all := by
  intro T
  induction T with
  | lf k => simp [Tr.lvs, Tr.all]
  | nd k l r hl hr =>
    intro x hx
    rcases List.mem_append.1 hx with h | h
    · exact List.mem_cons_of_mem _ (List.mem_append_left _ (hl x h))
    · exact List.mem_cons_of_mem _ (List.mem_append_right _ (hr x h))
/-- row k is made of its two kids' -/
structure Fit (M : Nat → Nat → Int) (k l r : Nat) : Prop where
  lo : ∀ j, j < 3 → M k j = min (M l j) (M r j)
  hi : ∀ j, 3 ≤ j → j < 6 → M k j = max (M l j) (M r j)
  ht : M k 10 = 1 + max (M l 10) (M r 10)
/-- the rows are as the tree says -/
def Rep (M : Nat → Nat → Int) : Int → Tr → Prop
  | up, .lf k => M k 6 = up ∧ M k 7 = -1 ∧ M k 10 = 0
  | up, .nd k l r => M k 6 = up ∧ M k 7 = (l.ix : Int) ∧ M k 8 = (r.ix : Int) ∧ Fit M k l.ix r.ix ∧ Rep M k l ∧ Rep M k r
theorem Rep.up {M : Nat → Nat → Int} {up : Int} {T : Tr} (h : Rep M up T) : M T.ix 6 = up := by cases T <;> exact h.1
theorem Fit.congr {M M' : Nat → Nat → Int} {k l r : Nat} (h : Fit M k l r) (ek : ∀ j, j ≠ 6 → M' k j = M k j) (el : ∀ j, j ≠ 6 → M' l j = M l j) (er : ∀ j, j ≠ 6 → M' r j = M r j) : Fit M' k l r :=
  ⟨fun j hj => by rw [ek j (by omega), el j (by omega), er j (by omega)]; exact h.lo j hj, fun j h3 hj => by rw [ek j (by omega), el j (by omega), er j (by omega)]; exact h.hi j h3 hj, by rw [ek 10 (by omega), el 10 (by omega), er 10 (by omega)]; exact h.ht⟩
/-- other rows written, and who is above the tree -/
theorem Rep.move {M M' : Nat → Nat → Int} : ∀ {T : Tr} {up up' : Int}, Rep M up T → T.all.Nodup → (∀ k ∈ T.all, ∀ j, j ≠ 6 → M' k j = M k j) → (∀ k ∈ T.all, k ≠ T.ix → M' k 6 = M k 6) → M' T.ix 6 = up' → Rep M' up' T := by
  intro T
  induction T with
  | lf k =>
    intro up up' h _ e _ h6
    have := e k (by simp [Tr.all])
    exact ⟨h6, by rw [this 7 (by omega)]; exact h.2.1, by rw [this 10 (by omega)]; exact h.2.2⟩
  | nd k l r hl hr =>
    intro up up' ⟨_, h7, h8, hf, h1, h2⟩ hnd e e6 h6
    have hnd' := List.nodup_cons.1 hnd
    have hap := List.nodup_append.1 hnd'.2
    have ml : ∀ x ∈ l.all, x ∈ (Tr.nd k l r).all := fun x hx => List.mem_cons_of_mem _ (List.mem_append_left _ hx)
    have mr : ∀ x ∈ r.all, x ∈ (Tr.nd k l r).all := fun x hx => List.mem_cons_of_mem _ (List.mem_append_right _ hx)
    have nl : ∀ x ∈ l.all, x ≠ k := fun x hx e => hnd'.1 (e ▸ List.mem_append_left _ hx)
    have nr : ∀ x ∈ r.all, x ≠ k := fun x hx e => hnd'.1 (e ▸ List.mem_append_right _ hx)
    have ek := e k (by simp [Tr.all])
    refine ⟨h6, by rw [ek 7 (by omega)]; exact h7, by rw [ek 8 (by omega)]; exact h8, hf.congr ek (e _ (ml _ l.ix_mem)) (e _ (mr _ r.ix_mem)), ?_, ?_⟩
    · exact hl h1 hap.1 (fun x hx => e x (ml x hx)) (fun x hx _ => e6 x (ml x hx) (nl x hx)) (by rw [e6 _ (ml _ l.ix_mem) (nl _ l.ix_mem)]; exact h1.up)
    · exact hr h2 hap.2.1 (fun x hx => e x (mr x hx)) (fun x hx _ => e6 x (mr x hx) (nr x hx)) (by rw [e6 _ (mr _ r.ix_mem) (nr _ r.ix_mem)]; exact h2.up)
theorem Rep.same {M M' : Nat → Nat → Int} {T : Tr} {up : Int} (h : Rep M up T) (hn : T.all.Nodup) (e : ∀ k ∈ T.all, ∀ j, M' k j = M k j) : Rep M' up T :=
  h.move hn (fun k hk j _ => e k hk j) (fun k hk _ => e k hk 6) (by rw [e _ T.ix_mem]; exact h.up)
theorem Rep.height {M : Nat → Nat → Int} : ∀ {T : Tr} {up : Int}, Rep M up T → 0 ≤ M T.ix 10 ∧ M T.ix 10 < T.all.length := by
  intro T
  induction T with
  | lf k => intro up h; rw [show (Tr.lf k).ix = k from rfl, h.2.2]; simp [Tr.all]
  | nd k l r hl hr =>
    intro up ⟨_, _, _, hf, h1, h2⟩
    have a := hl h1
    have b := hr h2
    have hh := hf.ht
    rw [show (Tr.nd k l r).ix = k from rfl, hh]
    simp only [Tr.all, List.length_cons, List.length_append]
    omega
/-- the way from a node up to the root; its nodes are not yet fitted -/
inductive Cx where
  | top
  | lft (k : Nat) (c : Cx) (r : Tr)
  | rgt (k : Nat) (l : Tr) (c : Cx)
def Cx.all : Cx → List Nat
  | .top => []
  | .lft k c r => k :: (r.all ++ c.all)
  | .rgt k l c => k :: (l.all ++ c.all)
def Cx.lvs : Cx → List Nat
  | .top => []
  | .lft _ c r => r.lvs ++ c.lvs
  | .rgt _ l c => l.lvs ++ c.lvs
def Cx.dep : Cx → Nat
  | .top => 0
  | .lft _ c _ => c.dep + 1
  | .rgt _ _ c => c.dep + 1
def RepC (M : Nat → Nat → Int) (root : Int) : Nat → Cx → Prop
  | h, .top => M h 6 = -1 ∧ root = h
  | h, .lft k c r => M h 6 = k ∧ M k 7 = h ∧ M k 8 = (r.ix : Int) ∧ Rep M k r ∧ RepC M root k c
  | h, .rgt k l c => M h 6 = k ∧ M k 7 = (l.ix : Int) ∧ M k 8 = h ∧ Rep M k l ∧ RepC M root k c
/-- the node above -/
def Cx.up : Cx → Int
  | .top => -1
  | .lft k _ _ => k
  | .rgt k _ _ => k
theorem RepC.up {M : Nat → Nat → Int} {root : Int} {h : Nat} {c : Cx} (r : RepC M root h c) : M h 6 = c.up := by cases c <;> exact r.1
theorem RepC.same {M M' : Nat → Nat → Int} {root : Int} : ∀ {c : Cx} {h : Nat}, RepC M root h c → c.all.Nodup → (∀ k ∈ c.all, ∀ j, M' k j = M k j) → M' h 6 = M h 6 → RepC M' root h c := by
  intro c
  induction c with
  | top => intro h hr _ _ e; exact ⟨by rw [e]; exact hr.1, hr.2⟩
  | lft k c r ih =>
    intro h ⟨h1, h2, h3, h4, h5⟩ hn e e6
    have hn' := List.nodup_cons.1 hn
    have hap := List.nodup_append.1 hn'.2
    have ek := e k (by simp [Cx.all])
    refine ⟨by rw [e6]; exact h1, by rw [ek]; exact h2, by rw [ek]; exact h3, h4.same hap.1 (fun x hx => e x (by simp [Cx.all, hx])), ih h5 hap.2.1 (fun x hx => e x (by simp [Cx.all, hx])) (ek 6)⟩
  | rgt k l c ih =>
    intro h ⟨h1, h2, h3, h4, h5⟩ hn e e6
    have hn' := List.nodup_cons.1 hn
    have hap := List.nodup_append.1 hn'.2
    have ek := e k (by simp [Cx.all])
    refine ⟨by rw [e6]; exact h1, by rw [ek]; exact h2, by rw [ek]; exact h3, h4.same hap.1 (fun x hx => e x (by simp [Cx.all, hx])), ih h5 hap.2.1 (fun x hx => e x (by simp [Cx.all, hx])) (ek 6)⟩
theorem fitM_row {M : Nat → Nat → Int} {n k : Nat} (h : k ≠ n) (j : Nat) : fitM M n k j = M k j := by simp [fitM, put1, h]
theorem fitM_col {M : Nat → Nat → Int} {n j : Nat} (h6 : 6 ≤ j) (h10 : j ≠ 10) : fitM M n n j = M n j := by
  have a0 : j ≠ 0 := by omega
  have a1 : j ≠ 1 := by omega
  have a2 : j ≠ 2 := by omega
  have a3 : j ≠ 3 := by omega
  have a4 : j ≠ 4 := by omega
  have a5 : j ≠ 5 := by omega
  simp [fitM, put1, h10, a0, a1, a2, a3, a4, a5]
theorem fitM_fit {M : Nat → Nat → Int} {n l r : Nat} (hl : M n 7 = (l : Int)) (hr : M n 8 = (r : Int)) (hnl : l ≠ n) (hnr : r ≠ n) : Fit (fitM M n) n l r := by
  refine ⟨fun j hj => ?_, fun j h3 hj => ?_, ?_⟩
  · rw [fitM_row hnl, fitM_row hnr]
    have : j = 0 ∨ j = 1 ∨ j = 2 := by omega
    rcases this with rfl | rfl | rfl <;> simp [fitM, put1, hl, hr]
  · rw [fitM_row hnl, fitM_row hnr]
    have : j = 3 ∨ j = 4 ∨ j = 5 := by omega
    rcases this with rfl | rfl | rfl <;> simp [fitM, put1, hl, hr]
  · rw [fitM_row hnl, fitM_row hnr]
    simp [fitM, put1, hl, hr]
/-- one node fitted -/
theorem step_no {M : Nat → Nat → Int} {root : Int} {n : Nat} {l r : Tr} {c : Cx} (h7 : M n 7 = (l.ix : Int)) (h8 : M n 8 = (r.ix : Int)) (hl : Rep M n l) (hr : Rep M n r) (hc : RepC M root n c) (hn : (n :: (l.all ++ r.all) ++ c.all).Nodup) :
    Rep (fitM M n) c.up (.nd n l r) ∧ RepC (fitM M n) root n c := by
  obtain ⟨hnn, hca, hdj⟩ := List.nodup_append.1 hn
  have hn1 := List.nodup_cons.1 hnn
  have hap := List.nodup_append.1 hn1.2
  have nl : ∀ x ∈ l.all, x ≠ n := fun x hx e => hn1.1 (e ▸ List.mem_append_left _ hx)
  have nr : ∀ x ∈ r.all, x ≠ n := fun x hx e => hn1.1 (e ▸ List.mem_append_right _ hx)
  have nc : ∀ x ∈ c.all, x ≠ n := fun x hx e => hdj n (by simp) x hx e.symm
  refine ⟨⟨?_, ?_, ?_, fitM_fit h7 h8 (nl _ l.ix_mem) (nr _ r.ix_mem), hl.same hap.1 (fun x hx j => fitM_row (nl x hx) j), hr.same hap.2.1 (fun x hx j => fitM_row (nr x hx) j)⟩, hc.same hca (fun x hx j => fitM_row (nc x hx) j) (fitM_col (by omega) (by omega))⟩
  · rw [fitM_col (by omega) (by omega)]; exact hc.up
  · rw [fitM_col (by omega) (by omega)]; exact h7
  · rw [fitM_col (by omega) (by omega)]; exact h8
theorem hangM_other {M : Nat → Nat → Int} {up was is : Int} {x j : Nat} (h : 0 ≤ up → x = up.toNat → j ≠ 7 ∧ j ≠ 8) : hangM M up was is x j = M x j := by
  unfold hangM
  split
  · rfl
  · rename_i h0
    have h0' : 0 ≤ up := by omega
    split
    · unfold put1
      rw [if_neg]
      rintro ⟨e1, e2⟩
      exact (h h0' e1).1 e2
    · unfold put1
      rw [if_neg]
      rintro ⟨e1, e2⟩
      exact (h h0' e1).2 e2
theorem turn_row {M : Nat → Nat → Int} {n kk o p q x j : Nat} (hn : x ≠ n) (hk : x ≠ kk) (hq : x = q → j ≠ 6) (hu : 0 ≤ M n 6 → x = (M n 6).toNat → j ≠ 7 ∧ j ≠ 8) : turnM M n kk o p q x j = M x j := by
  unfold turnM
  rw [fitM_row hn]
  have e : ∀ (A : Nat → Nat → Int) (v : Int), put1 A q 6 v x j = A x j := fun A v => by
    unfold put1
    rw [if_neg]
    rintro ⟨e1, e2⟩
    exact hq e1 e2
  have e1 : ∀ (A : Nat → Nat → Int) (i : Nat) (v : Int), put1 A n i v x j = A x j := fun A i v => by
    unfold put1
    rw [if_neg (fun h => hn h.1)]
  have e2 : ∀ (A : Nat → Nat → Int) (i : Nat) (v : Int), put1 A kk i v x j = A x j := fun A i v => by
    unfold put1
    rw [if_neg (fun h => hk h.1)]
  rw [e2, e2, e1, e, e1, e1, e2, hangM_other hu]
theorem turn_n {M : Nat → Nat → Int} {n kk o p q : Nat} (hk : n ≠ kk) : turnM M n kk o p q n 6 = kk ∧ turnM M n kk o p q n 7 = o ∧ turnM M n kk o p q n 8 = q := by
  unfold turnM
  refine ⟨?_, ?_, ?_⟩
  · rw [fitM_col (by omega) (by omega)]
    simp [put1, hk]
  · rw [fitM_col (by omega) (by omega)]
    simp [put1, hk]
  · rw [fitM_col (by omega) (by omega)]
    simp [put1, hk]
theorem turn_k {M : Nat → Nat → Int} {n kk o p q : Nat} (hk : kk ≠ n) (hq : kk ≠ q) : turnM M n kk o p q kk 6 = M n 6 ∧ turnM M n kk o p q kk 7 = p ∧ turnM M n kk o p q kk 8 = n := by
  unfold turnM
  refine ⟨?_, ?_, ?_⟩
  · rw [fitM_row hk]
    simp [put1, hk, hq]
  · rw [fitM_row hk]
    simp [put1]
  · rw [fitM_row hk]
    simp [put1]
/-- a turn: what is there then is one to be fitted -/
theorem step_turn {M : Nat → Nat → Int} {root : Int} {n kk : Nat} {O P Q : Tr} {c : Cx} (hO : Rep M n O) (hP : Rep M kk P) (hQ : Rep M kk Q) (hc : RepC M root n c) (hn : (n :: kk :: (O.all ++ (P.all ++ Q.all)) ++ c.all).Nodup) :
    turnM M n kk O.ix P.ix Q.ix kk 7 = (P.ix : Int) ∧ turnM M n kk O.ix P.ix Q.ix kk 8 = ((Tr.nd n O Q).ix : Int) ∧ Rep (turnM M n kk O.ix P.ix Q.ix) kk P ∧ Rep (turnM M n kk O.ix P.ix Q.ix) kk (.nd n O Q) ∧ RepC (turnM M n kk O.ix P.ix Q.ix) (hangR root (M n 6) kk) kk c := by
  obtain ⟨hnn, hca, hdj⟩ := List.nodup_append.1 hn
  obtain ⟨h1, h2⟩ := List.nodup_cons.1 hnn
  obtain ⟨h3, h4⟩ := List.nodup_cons.1 h2
  obtain ⟨h5, h6, h7⟩ := List.nodup_append.1 h4
  obtain ⟨h8, h9, h10⟩ := List.nodup_append.1 h6
  have nk : n ≠ kk := fun e => h1 (by simp [e])
  have on : ∀ x ∈ O.all, x ≠ n := fun x hx e => h1 (by simp [← e, hx])
  have pn : ∀ x ∈ P.all, x ≠ n := fun x hx e => h1 (by simp [← e, hx])
  have qn : ∀ x ∈ Q.all, x ≠ n := fun x hx e => h1 (by simp [← e, hx])
  have ok : ∀ x ∈ O.all, x ≠ kk := fun x hx e => h3 (by simp [← e, hx])
  have pk : ∀ x ∈ P.all, x ≠ kk := fun x hx e => h3 (by simp [← e, hx])
  have qk : ∀ x ∈ Q.all, x ≠ kk := fun x hx e => h3 (by simp [← e, hx])
  have oq : ∀ x ∈ O.all, ∀ y ∈ Q.all, x ≠ y := fun x hx y hy => h7 x hx y (List.mem_append_right _ hy)
  have pq : ∀ x ∈ P.all, ∀ y ∈ Q.all, x ≠ y := h10
  have cn : ∀ x ∈ c.all, x ≠ n := fun x hx e => hdj n (by simp) x hx e.symm
  have ck : ∀ x ∈ c.all, x ≠ kk := fun x hx e => hdj kk (by simp) x hx e.symm
  have co : ∀ x ∈ c.all, ∀ y ∈ O.all, x ≠ y := fun x hx y hy e => hdj y (by simp [hy]) x hx e.symm
  have cp : ∀ x ∈ c.all, ∀ y ∈ P.all, x ≠ y := fun x hx y hy e => hdj y (by simp [hy]) x hx e.symm
  have cq : ∀ x ∈ c.all, ∀ y ∈ Q.all, x ≠ y := fun x hx y hy e => hdj y (by simp [hy]) x hx e.symm
  have hup : M n 6 = c.up := hc.up
  have cup : ∀ x : Nat, 0 ≤ M n 6 → x = (M n 6).toNat → x ∈ c.all := fun x h0 e => by
    rw [hup] at h0 e
    cases c with
    | top => simp [Cx.up] at h0
    | lft k c r => simp [Cx.up] at e; simp [Cx.all, e]
    | rgt k l c => simp [Cx.up] at e; simp [Cx.all, e]
  have rowO : ∀ x ∈ O.all, ∀ j, turnM M n kk O.ix P.ix Q.ix x j = M x j := fun x hx j => turn_row (on x hx) (ok x hx) (fun e => absurd e (oq x hx _ Q.ix_mem)) (fun h0 e => absurd rfl (co x (cup x h0 e) x hx))
  have rowP : ∀ x ∈ P.all, ∀ j, turnM M n kk O.ix P.ix Q.ix x j = M x j := fun x hx j => turn_row (pn x hx) (pk x hx) (fun e => absurd e (pq x hx _ Q.ix_mem)) (fun h0 e => absurd rfl (cp x (cup x h0 e) x hx))
  have rowQ : ∀ x ∈ Q.all, ∀ j, (x = Q.ix → j ≠ 6) → turnM M n kk O.ix P.ix Q.ix x j = M x j := fun x hx j hj => turn_row (qn x hx) (qk x hx) hj (fun h0 e => absurd rfl (cq x (cup x h0 e) x hx))
  obtain ⟨tn6, tn7, tn8⟩ := turn_n (M := M) (o := O.ix) (p := P.ix) (q := Q.ix) nk
  obtain ⟨tk6, tk7, tk8⟩ := turn_k (M := M) (o := O.ix) (p := P.ix) (Ne.symm nk) (fun e => qk _ Q.ix_mem e.symm)
  have q6 : turnM M n kk O.ix P.ix Q.ix Q.ix 6 = n := by
    unfold turnM
    rw [fitM_row (qn _ Q.ix_mem)]
    simp [put1, qn _ Q.ix_mem, qk _ Q.ix_mem]
  have hO' : Rep (turnM M n kk O.ix P.ix Q.ix) n O := hO.same h5 rowO
  have hQ' : Rep (turnM M n kk O.ix P.ix Q.ix) n Q := hQ.move h9 (fun x hx j hj => rowQ x hx j (fun _ => hj)) (fun x hx hne => rowQ x hx 6 (fun e => absurd e hne)) q6
  have hf : Fit (turnM M n kk O.ix P.ix Q.ix) n O.ix Q.ix := by
    unfold turnM
    refine fitM_fit ?_ ?_ (on _ O.ix_mem) (qn _ Q.ix_mem)
    · simp [put1, nk]
    · simp [put1, nk]
  have rowc : ∀ x ∈ c.all, ∀ j, (0 ≤ M n 6 → x = (M n 6).toNat → j ≠ 7 ∧ j ≠ 8) → turnM M n kk O.ix P.ix Q.ix x j = M x j := fun x hx j hj => turn_row (cn x hx) (ck x hx) (fun e => absurd e (cq x hx _ Q.ix_mem)) hj
  refine ⟨tk7, tk8, hP.same h8 rowP, ⟨tn6, tn7, tn8, hf, hO', hQ'⟩, ?_⟩
  cases c with
  | top =>
    obtain ⟨c1, c2⟩ := hc
    refine ⟨by rw [tk6]; exact c1, ?_⟩
    rw [c1]
    rfl
  | lft k c r =>
    obtain ⟨c1, c2, c3, c4, c5⟩ := hc
    have hn' := List.nodup_cons.1 hca
    have hap := List.nodup_append.1 hn'.2
    have hkm : k ∈ (Cx.lft k c r).all := by simp [Cx.all]
    have er : hangR root (M n 6) kk = root := by rw [c1]; unfold hangR; rw [if_neg (by omega)]
    have hk0 : ¬ ((k : Int) < 0) := by omega
    rw [er]
    refine ⟨by rw [tk6]; exact c1, ?_, ?_, c4.same hap.1 (fun x hx j => rowc x (by simp [Cx.all, hx]) j (fun _ e => ?_)), c5.same hap.2.1 (fun x hx j => rowc x (by simp [Cx.all, hx]) j (fun _ e => ?_)) (rowc k hkm 6 (fun _ _ => by omega))⟩
    · unfold turnM
      rw [fitM_row (cn k hkm)]
      simp [put1, cn k hkm, ck k hkm, cq k hkm _ Q.ix_mem, hangM, c1, c2, hk0]
    · unfold turnM
      rw [fitM_row (cn k hkm)]
      simp [put1, cn k hkm, ck k hkm, cq k hkm _ Q.ix_mem, hangM, c1, c2, c3, hk0]
    · rw [c1, Int.toNat_natCast] at e
      exact absurd (List.mem_append_left _ (e ▸ hx)) hn'.1
    · rw [c1, Int.toNat_natCast] at e
      exact absurd (List.mem_append_right _ (e ▸ hx)) hn'.1
  | rgt k l c =>
    obtain ⟨c1, c2, c3, c4, c5⟩ := hc
    have hn' := List.nodup_cons.1 hca
    have hap := List.nodup_append.1 hn'.2
    have hkm : k ∈ (Cx.rgt k l c).all := by simp [Cx.all]
    have hlm : l.ix ∈ (Cx.rgt k l c).all := by simp [Cx.all, l.ix_mem]
    have er : hangR root (M n 6) kk = root := by rw [c1]; unfold hangR; rw [if_neg (by omega)]
    have hln : ¬ ((l.ix : Int) = n) := fun e => cn _ hlm (by omega)
    have hk0 : ¬ ((k : Int) < 0) := by omega
    rw [er]
    refine ⟨by rw [tk6]; exact c1, ?_, ?_, c4.same hap.1 (fun x hx j => rowc x (by simp [Cx.all, hx]) j (fun _ e => ?_)), c5.same hap.2.1 (fun x hx j => rowc x (by simp [Cx.all, hx]) j (fun _ e => ?_)) (rowc k hkm 6 (fun _ _ => by omega))⟩
    · unfold turnM
      rw [fitM_row (cn k hkm)]
      simp [put1, cn k hkm, ck k hkm, cq k hkm _ Q.ix_mem, hangM, c1, c2, hk0, hln]
    · unfold turnM
      rw [fitM_row (cn k hkm)]
      simp [put1, cn k hkm, ck k hkm, cq k hkm _ Q.ix_mem, hangM, c1, c2, hk0, hln]
    · rw [c1, Int.toNat_natCast] at e
      exact absurd (List.mem_append_left _ (e ▸ hx)) hn'.1
    · rw [c1, Int.toNat_natCast] at e
      exact absurd (List.mem_append_right _ (e ▸ hx)) hn'.1
theorem Rep.kids {M : Nat → Nat → Int} {up : Int} {T : Tr} (h : Rep M up T) (h0 : 0 < M T.ix 10) : ∃ k A B, T = .nd k A B := by
  cases T with
  | lf k => rw [show (Tr.lf k).ix = k from rfl, h.2.2] at h0; omega
  | nd k l r => exact ⟨k, l, r, rfl⟩
/-- which trees a turn makes -/
structure Turned (M : Nat → Nat → Int) (l r : Tr) (kk : Nat) (O P Q : Tr) : Prop where
  kid : ∃ A B, (l = .nd kk A B ∧ r = O ∨ r = .nd kk A B ∧ l = O) ∧ (A = P ∧ B = Q ∨ A = Q ∧ B = P)
  low : M O.ix 10 + 1 < M kk 10
  two : M Q.ix 10 ≤ M P.ix 10
/-- a node that is to be turned: its higher kid, that one's kids -/
theorem mend_yes {M : Nat → Nat → Int} {n : Nat} {l r : Tr} (hl : Rep M n l) (hr : Rep M n r) (hrot : ¬ M (kidM M l.ix r.ix) 10 ≤ M (othM M l.ix r.ix) 10 + 1) :
    ∃ (kk : Nat) (A B O P Q : Tr), kidM M l.ix r.ix = kk ∧ othM M l.ix r.ix = O.ix ∧ M kk 7 = (A.ix : Int) ∧ M kk 8 = (B.ix : Int) ∧ kidM M A.ix B.ix = P.ix ∧ othM M A.ix B.ix = Q.ix ∧ Rep M n O ∧ Rep M kk P ∧ Rep M kk Q ∧ (kk :: (O.all ++ (P.all ++ Q.all))).Perm (l.all ++ r.all) ∧ (O.lvs ++ (P.lvs ++ Q.lvs)).Perm (l.lvs ++ r.lvs) ∧ A.ix ∈ (P.all ++ Q.all) ∧ B.ix ∈ (P.all ++ Q.all) ∧ Turned M l r kk O P Q := by
  have key : ∀ (K O : Tr), Rep M n K → Rep M n O → kidM M l.ix r.ix = K.ix → othM M l.ix r.ix = O.ix → (K.all ++ O.all).Perm (l.all ++ r.all) → (K.lvs ++ O.lvs).Perm (l.lvs ++ r.lvs) → (l = K ∧ r = O ∨ r = K ∧ l = O) → ∃ (kk : Nat) (A B O P Q : Tr), kidM M l.ix r.ix = kk ∧ othM M l.ix r.ix = O.ix ∧ M kk 7 = (A.ix : Int) ∧ M kk 8 = (B.ix : Int) ∧ kidM M A.ix B.ix = P.ix ∧ othM M A.ix B.ix = Q.ix ∧ Rep M n O ∧ Rep M kk P ∧ Rep M kk Q ∧ (kk :: (O.all ++ (P.all ++ Q.all))).Perm (l.all ++ r.all) ∧ (O.lvs ++ (P.lvs ++ Q.lvs)).Perm (l.lvs ++ r.lvs) ∧ A.ix ∈ (P.all ++ Q.all) ∧ B.ix ∈ (P.all ++ Q.all) ∧ Turned M l r kk O P Q := by
    intro K O hK hO ek eo pa pl hko
    rw [ek, eo] at hrot
    have h0 := hO.height.1
    obtain ⟨kk, A, B, rfl⟩ := hK.kids (by omega)
    obtain ⟨k6, k7, k8, kf, kA, kB⟩ := hK
    by_cases hab : M A.ix 10 < M B.ix 10
    · refine ⟨kk, A, B, O, B, A, ek, eo, k7, k8, if_pos hab, if_pos hab, hO, kB, kA, ?_, ?_, by simp [A.ix_mem], by simp [B.ix_mem], ⟨A, B, hko, .inr ⟨rfl, rfl⟩⟩, Int.not_le.1 hrot, Int.le_of_lt hab⟩
      · refine List.Perm.trans ?_ pa
        simp only [Tr.all, List.cons_append]
        refine List.Perm.cons kk ?_
        exact (List.perm_append_comm).trans (List.Perm.append_right _ List.perm_append_comm)
      · refine List.Perm.trans ?_ pl
        simp only [Tr.lvs]
        exact (List.perm_append_comm).trans (List.Perm.append_right _ List.perm_append_comm)
    · refine ⟨kk, A, B, O, A, B, ek, eo, k7, k8, if_neg hab, if_neg hab, hO, kA, kB, ?_, ?_, by simp [A.ix_mem], by simp [B.ix_mem], ⟨A, B, hko, .inl ⟨rfl, rfl⟩⟩, Int.not_le.1 hrot, Int.not_lt.1 hab⟩
      · refine List.Perm.trans ?_ pa
        simp only [Tr.all, List.cons_append]
        exact List.Perm.cons kk List.perm_append_comm
      · refine List.Perm.trans ?_ pl
        simp only [Tr.lvs]
        exact List.perm_append_comm
  by_cases hlr : M l.ix 10 < M r.ix 10
  · exact key r l hr hl (if_pos hlr) (if_pos hlr) List.perm_append_comm List.perm_append_comm (.inr ⟨rfl, rfl⟩)
  · exact key l r hl hr (if_neg hlr) (if_neg hlr) (List.Perm.refl _) (List.Perm.refl _) (.inl ⟨rfl, rfl⟩)
theorem Cx.lvs_sub : ∀ (c : Cx), ∀ k ∈ c.lvs, k ∈ c.all := by
  intro c
  induction c with
  | top => intro k h; cases h
  | lft k c r ih =>
    intro x hx
    rcases List.mem_append.1 hx with h | h
    · simp [Cx.all, r.lvs_sub x h]
    · simp [Cx.all, ih x h]
  | rgt k l c ih =>
    intro x hx
    rcases List.mem_append.1 hx with h | h
    · simp [Cx.all, l.lvs_sub x h]
    · simp [Cx.all, ih x h]
/-- the node above is no leaf -/
theorem Cx.up_no {c : Cx} (hn : c.all.Nodup) : ∀ x ∈ c.lvs, ¬ ((x : Int) = c.up) := by
  intro x hx e
  cases c with
  | top => cases hx
  | lft k c r =>
    have hn' := List.nodup_cons.1 hn
    have e' : x = k := by simp only [Cx.up] at e; omega
    rcases List.mem_append.1 hx with h | h
    · exact hn'.1 (e' ▸ List.mem_append_left _ (r.lvs_sub x h))
    · exact hn'.1 (e' ▸ List.mem_append_right _ (c.lvs_sub x h))
  | rgt k l c =>
    have hn' := List.nodup_cons.1 hn
    have e' : x = k := by simp only [Cx.up] at e; omega
    rcases List.mem_append.1 hx with h | h
    · exact hn'.1 (e' ▸ List.mem_append_left _ (l.lvs_sub x h))
    · exact hn'.1 (e' ▸ List.mem_append_right _ (c.lvs_sub x h))
theorem Cx.up_mem {c : Cx} {x : Nat} (h : (x : Int) = c.up) : x ∈ c.all := by
  cases c with
  | top => simp only [Cx.up] at h; omega
  | lft k c r => simp only [Cx.up] at h; have : x = k := by omega
                 simp [Cx.all, this]
  | rgt k l c => simp only [Cx.up] at h; have : x = k := by omega
                 simp [Cx.all, this]
/-- one node up -/
inductive Opens (T : Tr) : Cx → Nat → Tr → Tr → Cx → Prop where
  | lft (k : Nat) (c : Cx) (r : Tr) : Opens T (.lft k c r) k T r c
  | rgt (k : Nat) (l : Tr) (c : Cx) : Opens T (.rgt k l c) k l T c
theorem cx_open {M : Nat → Nat → Int} {root : Int} {T : Tr} {c : Cx} (hT : Rep M c.up T) (hc : RepC M root T.ix c) (h0 : 0 ≤ c.up) :
    ∃ (n : Nat) (l r : Tr) (c2 : Cx), Opens T c n l r c2 ∧ c.up = n ∧ M n 7 = (l.ix : Int) ∧ M n 8 = (r.ix : Int) ∧ Rep M n l ∧ Rep M n r ∧ RepC M root n c2 ∧ (n :: (l.all ++ r.all) ++ c2.all).Perm (T.all ++ c.all) ∧ (l.lvs ++ r.lvs ++ c2.lvs).Perm (T.lvs ++ c.lvs) ∧ c2.dep + 1 = c.dep := by
  cases c with
  | top => simp [Cx.up] at h0
  | lft k c r =>
    obtain ⟨_, c2, c3, c4, c5⟩ := hc
    refine ⟨k, T, r, c, .lft k c r, rfl, c2, c3, hT, c4, c5, ?_, ?_, rfl⟩
    · simp only [Cx.all, List.cons_append, List.append_assoc]
      exact (List.perm_middle (l₁ := T.all)).symm
    · simp only [Cx.lvs, List.append_assoc]
      exact List.Perm.refl _
  | rgt k l c =>
    obtain ⟨_, c2, c3, c4, c5⟩ := hc
    refine ⟨k, l, T, c, .rgt k l c, rfl, c2, c3, c4, hT, c5, ?_, ?_, rfl⟩
    · simp only [Cx.all, List.cons_append, List.append_assoc]
      refine List.Perm.trans ?_ (List.perm_middle (l₁ := T.all)).symm
      refine List.Perm.cons k ?_
      rw [← List.append_assoc, ← List.append_assoc]
      exact List.Perm.append_right _ List.perm_append_comm
    · simp only [Cx.lvs, List.append_assoc]
      rw [← List.append_assoc, ← List.append_assoc]
      exact List.Perm.append_right _ List.perm_append_comm
/-- what a step leaves -/
structure Kept (M M' : Nat → Nat → Int) (all lvs : List Nat) : Prop where
  out : ∀ k, k ∉ all → ∀ j, M' k j = M k j
  leaf : ∀ k ∈ lvs, ∀ j, j ≠ 6 → M' k j = M k j
theorem Kept.trans {M M' M'' : Nat → Nat → Int} {all lvs : List Nat} (h : Kept M M' all lvs) (k : Kept M' M'' all lvs) : Kept M M'' all lvs :=
  ⟨fun x hx j => (k.out x hx j).trans (h.out x hx j), fun x hx j hj => (k.leaf x hx j hj).trans (h.leaf x hx j hj)⟩
theorem fit_kept {M : Nat → Nat → Int} {all lvs : List Nat} {n : Nat} (hn : n ∈ all) (hl : n ∉ lvs) : Kept M (fitM M n) all lvs :=
  ⟨fun x hx j => fitM_row (fun e => hx (by rw [e]; exact hn)) j, fun x hx j _ => fitM_row (fun e => hl (by rw [← e]; exact hx)) j⟩
/-- nothing to turn: the node is fitted -/
theorem mstep_no {M : Nat → Nat → Int} {root : Int} {n : Nat} {l r : Tr} {c : Cx} {all lvs : List Nat} (h7 : M n 7 = (l.ix : Int)) (h8 : M n 8 = (r.ix : Int)) (hl : Rep M n l) (hr : Rep M n r) (hc : RepC M root n c) (hp : (n :: (l.all ++ r.all) ++ c.all).Perm all) (hq : (l.lvs ++ r.lvs ++ c.lvs).Perm lvs) (hnd : all.Nodup) :
    Rep (fitM M n) c.up (.nd n l r) ∧ RepC (fitM M n) root (Tr.nd n l r).ix c ∧ ((Tr.nd n l r).all ++ c.all).Perm all ∧ ((Tr.nd n l r).lvs ++ c.lvs).Perm lvs ∧ Kept M (fitM M n) all lvs := by
  have hn := hp.nodup_iff.2 hnd
  obtain ⟨h1, h2⟩ := step_no h7 h8 hl hr hc hn
  obtain ⟨hnn, hca, hdj⟩ := List.nodup_append.1 hn
  have hn1 := List.nodup_cons.1 hnn
  refine ⟨h1, h2, hp, hq, fit_kept (hp.mem_iff.1 (by simp)) (fun h => ?_)⟩
  have h3 := hq.mem_iff.2 h
  rcases List.mem_append.1 h3 with h3 | h3
  · rcases List.mem_append.1 h3 with h3 | h3
    · exact hn1.1 (List.mem_append_left _ (l.lvs_sub _ h3))
    · exact hn1.1 (List.mem_append_right _ (r.lvs_sub _ h3))
  · exact hdj n (by simp) n (c.lvs_sub _ h3) rfl
/-- a turn, and the node that is there then fitted -/
theorem mstep_yes {M : Nat → Nat → Int} {root : Int} {n kk : Nat} {O P Q : Tr} {c : Cx} {all lvs : List Nat} (hO : Rep M n O) (hP : Rep M kk P) (hQ : Rep M kk Q) (hc : RepC M root n c) (hp : (n :: kk :: (O.all ++ (P.all ++ Q.all)) ++ c.all).Perm all) (hq : (O.lvs ++ (P.lvs ++ Q.lvs) ++ c.lvs).Perm lvs) (hnd : all.Nodup) :
    Rep (fitM (turnM M n kk O.ix P.ix Q.ix) kk) c.up (.nd kk P (.nd n O Q)) ∧ RepC (fitM (turnM M n kk O.ix P.ix Q.ix) kk) (hangR root (M n 6) kk) (Tr.nd kk P (.nd n O Q)).ix c ∧ ((Tr.nd kk P (.nd n O Q)).all ++ c.all).Perm all ∧ ((Tr.nd kk P (.nd n O Q)).lvs ++ c.lvs).Perm lvs ∧ Kept M (fitM (turnM M n kk O.ix P.ix Q.ix) kk) all lvs := by
  have hn := hp.nodup_iff.2 hnd
  obtain ⟨s7, s8, sP, sN, sC⟩ := step_turn hO hP hQ hc hn
  have hp2 : (kk :: (P.all ++ (Tr.nd n O Q).all) ++ c.all).Perm all := by
    refine List.Perm.trans (List.Perm.append_right _ ?_) hp
    refine List.Perm.trans ?_ (List.Perm.swap n kk _)
    refine List.Perm.cons kk ?_
    simp only [Tr.all]
    refine List.Perm.trans List.perm_middle (List.Perm.cons n ?_)
    rw [← List.append_assoc, ← List.append_assoc]
    exact List.Perm.append_right _ List.perm_append_comm
  have hq2 : (P.lvs ++ (Tr.nd n O Q).lvs ++ c.lvs).Perm lvs := by
    refine List.Perm.trans (List.Perm.append_right _ ?_) hq
    simp only [Tr.lvs]
    rw [← List.append_assoc, ← List.append_assoc]
    exact List.Perm.append_right _ List.perm_append_comm
  obtain ⟨f1, f2, f3, f4, f5⟩ := mstep_no s7 s8 sP sN sC hp2 hq2 hnd
  obtain ⟨hnn, hca, hdj⟩ := List.nodup_append.1 hn
  obtain ⟨h1, h2⟩ := List.nodup_cons.1 hnn
  obtain ⟨h3, h4⟩ := List.nodup_cons.1 h2
  have hup : M n 6 = c.up := hc.up
  refine ⟨f1, f2, f3, f4, Kept.trans ⟨fun x hx j => turn_row (fun e => hx (e ▸ hp.mem_iff.1 (by simp))) (fun e => hx (e ▸ hp.mem_iff.1 (by simp))) (fun e => absurd (e ▸ hp.mem_iff.1 (by simp [Q.ix_mem])) hx) (fun h0 e => absurd (hp.mem_iff.1 (List.mem_append_right _ (Cx.up_mem (x := x) (by omega)))) hx), fun x hx j hj => ?_⟩ f5⟩
  have hx' := hq.mem_iff.2 hx
  have hin : x ∈ O.all ++ (P.all ++ Q.all) ∨ x ∈ c.lvs := by
    rcases List.mem_append.1 hx' with h | h
    · left
      rcases List.mem_append.1 h with h | h
      · simp [O.lvs_sub x h]
      · rcases List.mem_append.1 h with h | h
        · simp [P.lvs_sub x h]
        · simp [Q.lvs_sub x h]
    · exact .inr h
  refine turn_row (fun e => ?_) (fun e => ?_) (fun _ => hj) (fun h0 e => ?_)
  · rcases hin with h | h
    · exact h1 (e ▸ List.mem_cons_of_mem _ h)
    · exact hdj n (by simp) x (c.lvs_sub x h) e.symm
  · rcases hin with h | h
    · exact h3 (e ▸ h)
    · exact hdj kk (by simp) x (c.lvs_sub x h) e.symm
  · have hxu : (x : Int) = c.up := by omega
    rcases hin with h | h
    · exact absurd rfl (hdj x (List.mem_cons_of_mem _ (List.mem_cons_of_mem _ h)) x (Cx.up_mem hxu))
    · exact absurd hxu (Cx.up_no hca x h)
/-- what mend does with trees -/
inductive Mends (T0 : Tr) (c0 : Cx) : Tr → Cx → Prop where
  | at0 : Mends T0 c0 T0 c0
  | no (T : Tr) (c : Cx) (n : Nat) (l r : Tr) (c2 : Cx) (M : Nat → Nat → Int) : Mends T0 c0 T c → Opens T c n l r c2 → Rep M n l → Rep M n r → M (kidM M l.ix r.ix) 10 ≤ M (othM M l.ix r.ix) 10 + 1 → Mends T0 c0 (.nd n l r) c2
  | yes (T : Tr) (c : Cx) (n : Nat) (l r : Tr) (c2 : Cx) (M : Nat → Nat → Int) (kk : Nat) (O P Q : Tr) : Mends T0 c0 T c → Opens T c n l r c2 → Rep M n l → Rep M n r → Turned M l r kk O P Q → Mends T0 c0 (.nd kk P (.nd n O Q)) c2
theorem Rep.heights {M : Nat → Nat → Int} : ∀ {T : Tr} {up : Int}, Rep M up T → ∀ k ∈ T.all, 0 ≤ M k 10 ∧ M k 10 < T.all.length := by
  intro T
  induction T with
  | lf k =>
    intro up h x hx
    have e : x = k := by simpa [Tr.all] using hx
    subst e
    exact h.height
  | nd k l r hl hr =>
    intro up h x hx
    rcases List.mem_cons.1 hx with rfl | hx
    · exact h.height
    · obtain ⟨_, _, _, _, h1, h2⟩ := h
      simp only [Tr.all, List.length_cons, List.length_append]
      rcases List.mem_append.1 hx with hx | hx
      · have := hl h1 x hx
        omega
      · have := hr h2 x hx
        omega
/-- heights stay small -/
theorem high_kept {M M' : Nat → Nat → Int} {up : Int} {T : Tr} {c : Cx} {all : List Nat} {nn : Nat} (hT : Rep M' up T) (hp : (T.all ++ c.all).Perm all) (hl : all.length ≤ 1000000) (ho : ∀ x, x ∉ T.all → M' x 10 = M x 10) (hh : ∀ k, k < nn → 0 ≤ M k 10 ∧ M k 10 ≤ 1000000) :
    ∀ k, k < nn → 0 ≤ M' k 10 ∧ M' k 10 ≤ 1000000 := by
  intro k hk
  by_cases h : k ∈ T.all
  · have h1 := hT.heights k h
    have h2 := hp.length_eq
    rw [List.length_append] at h2
    omega
  · rw [ho k h]
    exact hh k hk
end Go.Proofs.YtniahipadfgkbaaGreat
namespace Go.Proofs.YtniahipadfgkbaaGreat
open Go Go.Maps Go.RowKit Go.BigFrame Go.ChangeShapes Go.WideShapes
/-- what mend keeps from round to round -/
structure MendR (w0 wr : World) (t : Nat) (s : BT) (M0 : Nat → Nat → Int) (T0 : Tr) (c0 : Cx) (all lvs : List Nat) (M : Nat → Nat → Int) (rt : Int) (T : Tr) (c : Cx) : Prop where
  blk : Blk wr t { s with root := rt }.cs
  nt : NT wr s.nb s.cap s.nn M
  rep : Rep M c.up T
  repc : RepC M rt T.ix c
  perm : (T.all ++ c.all).Perm all
  plv : (T.lvs ++ c.lvs).Perm lvs
  kept : Kept M0 M all lvs
  high : ∀ k, k < s.nn → 0 ≤ M k 10 ∧ M k 10 ≤ 1000000
  mod : Mod (fun x => x = t ∨ x = s.nb) w0 wr
  men : Mends T0 c0 T c
def MendPost (w0 : World) (t : Nat) (s : BT) (M0 : Nat → Nat → Int) (T0 : Tr) (c0 : Cx) (all lvs : List Nat) (e : Ending) (w' : World) : Prop :=
  e = .returned (.tuple #[]) ∧ ∃ (M : Nat → Nat → Int) (T : Tr), MendR w0 w' t s M0 T0 c0 all lvs M (T.ix : Int) T .top
set_option maxRecDepth 100000 in
set_option maxHeartbeats 8000000 in
theorem mend_c (w : World) (t : Nat) (s : BT) (M : Nat → Nat → Int) (T : Tr) (c : Cx) (all lvs : List Nat) (hne : t ≠ s.nb) (hnd : all.Nodup) (hall : ∀ k ∈ all, k < s.nn) (hlen : all.length ≤ 1000000) (hB : Blk w t s.cs) (hN : NT w s.nb s.cap s.nn M) (hT : Rep M c.up T) (hC : RepC M s.root T.ix c) (hp : (T.all ++ c.all).Perm all) (hq : (T.lvs ++ c.lvs).Perm lvs) (hh : ∀ k, k < s.nn → 0 ≤ M k 10 ∧ M k 10 ≤ 1000000) :
    Calls Tryz.prog 75 #[.pointer (some ⟨t, 0, none⟩), .int .i64 c.up] w (MendPost w t s M T c all lvs) := by
  have HR0 : Hid (MendR w w t s M T c all lvs M s.root T c) := Lib.hid ⟨hB, hN, hT, hC, hp, hq, ⟨fun _ _ _ => rfl, fun _ _ _ _ => rfl⟩, hh, Mod.refl _ _, .at0⟩
  have HND := Lib.hid hnd
  have HALL := Lib.hid hall
  have HLEN := Lib.hid hlen
  clear hB hN hT hC hp hq hh hnd hall hlen
  go_enter Tryz.func75, Tryz.ntmps75
  go_wp2
  go_loopg [1] (c.dep + 1) (fun k v wr => ∃ (u : Int) (M' : Nat → Nat → Int) (rt : Int) (T' : Tr) (c' : Cx), v = .int .i64 u ∧ u = c'.up ∧ k = c'.dep + 1 ∧ MendR w wr t s M T c all lvs M' rt T' c')
  case atStart => exact ⟨_, M, s.root, T, c, rfl, rfl, rfl, HR0.out⟩
  case round =>
    obtain ⟨u, M', rt, T', c', rfl, hu, hk, hR⟩ := hrel
    have HR := Lib.hid hR
    clear hR HR0
    by_cases h0 : u < 0
    · have hc : c' = .top := by
        cases c' with
        | top => rfl
        | lft k c r => simp only [Cx.up] at hu; omega
        | rgt k l c => simp only [Cx.up] at hu; omega
      subst hc
      have hu' : u = -1 := hu
      clear hu h0
      subst hu'
      have e : rt = (T'.ix : Int) := HR.out.repc.2
      subst e
      go_wp2
      go_end0
      exact ⟨rfl, M', T', HR.out⟩
    · obtain ⟨n, l, r, c2, hop, hun, h7, h8, hl, hr, hc2, hp2, hq2, hd⟩ := cx_open HR.out.rep HR.out.repc (by omega)
      have hP := hp2.trans HR.out.perm
      have hQ := hq2.trans HR.out.plv
      have hn : n < s.nn := HALL.out n (hP.mem_iff.1 (by simp))
      have hll : l.ix < s.nn := HALL.out _ (hP.mem_iff.1 (by simp [l.ix_mem]))
      have hrl : r.ix < s.nn := HALL.out _ (hP.mem_iff.1 (by simp [r.ix_mem]))
      have hnd2 := List.nodup_cons.1 (List.nodup_append.1 (hP.nodup_iff.2 HND.out)).1
      have hnl : n ≠ l.ix := fun e => hnd2.1 (by rw [e]; exact List.mem_append_left _ l.ix_mem)
      have hnr : n ≠ r.ix := fun e => hnd2.1 (by rw [e]; exact List.mem_append_right _ r.ix_mem)
      have hun' : u = (n : Int) := hu.trans hun
      have hkd : c2.dep + 1 < gk := by omega
      clear hu h0 hk hd hun
      subst hun'
      have H78 := Lib.hid (And.intro h7 h8)
      have HLR := Lib.hid (And.intro hl (And.intro hr hc2))
      have HPQ := Lib.hid (And.intro hP hQ)
      have HOP := Lib.hid hop
      have HN0 := Lib.hid (And.intro (And.intro hn (And.intro hll hrl)) (And.intro hnl hnr))
      have HKD := Lib.hid hkd
      have HNE := Lib.hid hne
      clear hop h7 h8 hl hr hc2 hp2 hq2 hP hQ hnd2 hn hll hrl hnl hnr hkd
      by_cases hrot : M' (kidM M' l.ix r.ix) 10 ≤ M' (othM M' l.ix r.ix) 10 + 1
      · have HRO := Lib.hid hrot
        clear hrot
        go_wp2_with fail
        refine (turn_no _ t { s with root := rt } M' n l.ix r.ix HR.out.blk HR.out.nt HNE.out HN0.out.1.1 H78.out.1 H78.out.2 HN0.out.1.2.1 HN0.out.1.2.2 HR.out.high HRO.out).mono ?_
        rintro e wa ⟨rfl, hba⟩
        have HBA := Lib.hid hba
        clear hba
        go_wp2_with fail
        refine (fit_c _ t { s with root := rt } M' n l.ix r.ix (HR.out.blk.below HBA.out) (HR.out.nt.below HBA.out) HNE.out HN0.out.1.1 H78.out.1 H78.out.2 HN0.out.1.2.1 HN0.out.1.2.2 HN0.out.2.1 HN0.out.2.2 ?hs).mono ?_
        case hs =>
          have a := HR.out.high _ HN0.out.1.2.1
          have b := HR.out.high _ HN0.out.1.2.2
          exact ⟨a.1, a.2, b.1, b.2⟩
        rintro e wb ⟨rfl, hB, hN, hM⟩
        obtain ⟨s1, s2, s3, s4, s5⟩ := mstep_no H78.out.1 H78.out.2 HLR.out.1 HLR.out.2.1 HLR.out.2.2 HPQ.out.1 HPQ.out.2 HND.out
        have hh2 : ∀ k, k < s.nn → 0 ≤ fitM M' n k 10 ∧ fitM M' n k 10 ≤ 1000000 := high_kept s1 s3 HLEN.out (fun x hx => fitM_row (fun e => hx (by rw [e]; simp [Tr.all])) 10) HR.out.high
        have q6 : wb.cell? ⟨s.nb, n * 11 + 6, none⟩ = some (.int .i64 c2.up) := by rw [← show fitM M' n n 6 = c2.up from s2.up]; exact hN.cell HN0.out.1.1 (j := 6) (by decide)
        have HR2 : Hid (MendR w wb t s M T c all lvs (fitM M' n) rt (.nd n l r) c2) := Lib.hid ⟨hB, hN, s1, s2, s3, s4, HR.out.kept.trans s5, hh2, (HR.out.mod.trans (Mod.of_below HBA.out)).trans (hM.mono fun _ _ e => .inr e), .no _ _ _ _ _ _ _ HR.out.men HOP.out HLR.out.1 HLR.out.2.1 HRO.out⟩
        have hnl := HN0.out.1.1
        clear hB hN hM s1 s2 s3 s4 s5 hh2
        have HB2 : Hid (Blk wb t #[.slice (some ⟨s.nb, 0, none⟩) s.nn s.cap, s.fv, .int .i64 rt, .bool s.som, .map (some s.lf), .map (some s.bx), .int .i64 s.fat]) := Lib.hid HR2.out.blk
        obtain ⟨zt, ct, ft⟩ := id HB2.out
        obtain ⟨u, hu⟩ : ∃ u, u = c2.up := ⟨_, rfl⟩
        rw [← hu] at q6
        have HU := Lib.hid hu
        clear hu
        go_wp2
        go_roundg (c2.dep + 1)
        case measure => exact HKD.out
        case rel => exact ⟨u, _, rt, _, c2, rfl, HU.out, rfl, HR2.out⟩
      · obtain ⟨kk, A, B, O, P, Q, ek, eo, k7, k8, eP, eQ, hO, hP, hQ, pa, pl, mA, mB, hTu⟩ := mend_yes HLR.out.1 HLR.out.2.1 hrot
        have hA : (n :: kk :: (O.all ++ (P.all ++ Q.all)) ++ c2.all).Perm all := (List.Perm.append_right _ (List.Perm.cons n pa)).trans HPQ.out.1
        have hL : (O.lvs ++ (P.lvs ++ Q.lvs) ++ c2.lvs).Perm lvs := (List.Perm.append_right _ pl).trans HPQ.out.2
        have hnd0 := hA.nodup_iff.2 HND.out
        obtain ⟨hnn, _, _⟩ := List.nodup_append.1 hnd0
        obtain ⟨h1, h2⟩ := List.nodup_cons.1 hnn
        obtain ⟨h3, _⟩ := List.nodup_cons.1 h2
        have hkn : kk ≠ n := fun e => h1 (by rw [e]; simp)
        have hkP : kk ≠ P.ix := fun e => h3 (by rw [e]; simp [P.ix_mem])
        have mAB : ∀ x ∈ P.all ++ Q.all, x < s.nn ∧ n ≠ x := fun x hx => ⟨HALL.out x (hA.mem_iff.1 (List.mem_append_left _ (List.mem_cons_of_mem _ (List.mem_cons_of_mem _ (List.mem_append_right _ hx))))), fun e => h1 (by rw [e]; exact List.mem_cons_of_mem _ (List.mem_append_right _ hx))⟩
        have hkk : kk < s.nn := HALL.out kk (hA.mem_iff.1 (by simp))
        have hup : M' n 6 < (s.nn : Int) := by
          rw [HLR.out.2.2.up]
          rcases Int.lt_or_le c2.up 0 with h | h
          · omega
          · have := HALL.out c2.up.toNat (hA.mem_iff.1 (List.mem_append_right _ (Cx.up_mem (by omega))))
            omega
        have hOn : n ≠ O.ix := fun e => h1 (by rw [e]; simp [O.ix_mem])
        have HRO := Lib.hid hrot
        have HX := Lib.hid (And.intro hA (And.intro hL (And.intro hkn (And.intro hkP (And.intro hkk (And.intro hup (And.intro hTu (And.intro hO (And.intro hP hQ)))))))))
        have H7 := Lib.hid (And.intro ek (And.intro eo (And.intro eP (And.intro eQ (And.intro k7 (And.intro k8 (And.intro hOn (And.intro (mAB _ mA) (mAB _ mB)))))))))
        obtain ⟨s7, s8, sP, sN, sC⟩ := step_turn hO hP hQ HLR.out.2.2 hnd0
        have HS := Lib.hid (And.intro s7 (And.intro s8 (And.intro sP sN)))
        clear hrot hA hL hkn hkP hkk hup hTu hO hP hQ ek eo eP eQ k7 k8 hOn mAB mA mB pa pl hnd0 hnn h1 h2 h3 s7 s8 sP sN sC
        go_wp2_with fail
        refine (turn_yes _ t { s with root := rt } M' n l.ix r.ix HR.out.blk HR.out.nt HNE.out HN0.out.1.1 H78.out.1 H78.out.2 HN0.out.1.2.1 HN0.out.1.2.2 HR.out.high A.ix B.ix (by rw [H7.out.1]; exact H7.out.2.2.2.2.1) (by rw [H7.out.1]; exact H7.out.2.2.2.2.2.1) H7.out.2.2.2.2.2.2.2.1.1 H7.out.2.2.2.2.2.2.2.2.1 HX.out.2.2.2.2.2.1 (by rw [H7.out.1]; exact fun e => HX.out.2.2.1 e.symm) (by rw [H7.out.2.1]; exact H7.out.2.2.2.2.2.2.1) H7.out.2.2.2.2.2.2.2.1.2 H7.out.2.2.2.2.2.2.2.2.2 (Int.not_le.2 HRO.out)).mono ?_
        rw [H7.out.1, H7.out.2.1, H7.out.2.2.1, H7.out.2.2.2.1]
        rintro e wa ⟨rfl, hB, hN, hM⟩
        have HA := Lib.hid (And.intro hB (And.intro hN hM))
        clear hB hN hM
        go_wp2_with fail
        refine (fit_c _ t { s with root := hangR rt (M' n 6) kk } (turnM M' n kk O.ix P.ix Q.ix) kk P.ix n HA.out.1 HA.out.2.1 HNE.out HX.out.2.2.2.2.1 HS.out.1 HS.out.2.1 ?hP HN0.out.1.1 HX.out.2.2.2.1 HX.out.2.2.1 ?hs).mono ?_
        case hP => exact HALL.out _ (HX.out.1.mem_iff.1 (by simp [P.ix_mem]))
        case hs =>
          have a := HS.out.2.2.1.height
          have b : 0 ≤ turnM M' n kk O.ix P.ix Q.ix n 10 ∧ turnM M' n kk O.ix P.ix Q.ix n 10 < (Tr.nd n O Q).all.length := HS.out.2.2.2.height
          have hle := HX.out.1.length_eq
          have hlen := HLEN.out
          simp only [Tr.all, List.cons_append, List.length_cons, List.length_append] at b hle
          refine ⟨a.1, ?_, b.1, ?_⟩ <;> omega
        rintro e wb ⟨rfl, hB, hN, hM⟩
        obtain ⟨s1, s2, s3, s4, s5⟩ := mstep_yes HX.out.2.2.2.2.2.2.2.1 HX.out.2.2.2.2.2.2.2.2.1 HX.out.2.2.2.2.2.2.2.2.2 HLR.out.2.2 HX.out.1 HX.out.2.1 HND.out
        have hh2 : ∀ k, k < s.nn → 0 ≤ fitM (turnM M' n kk O.ix P.ix Q.ix) kk k 10 ∧ fitM (turnM M' n kk O.ix P.ix Q.ix) kk k 10 ≤ 1000000 := high_kept s1 s3 HLEN.out (fun x hx => by
          have e1 : x ≠ kk := fun e => hx (by rw [e]; simp [Tr.all])
          have e2 : x ≠ n := fun e => hx (by rw [e]; simp [Tr.all])
          rw [fitM_row e1, turn_row e2 e1 (fun _ => by omega) (fun _ _ => by omega)]) HR.out.high
        have hkl := HX.out.2.2.2.2.1
        have q6 : wb.cell? ⟨s.nb, kk * 11 + 6, none⟩ = some (.int .i64 c2.up) := by rw [← show fitM (turnM M' n kk O.ix P.ix Q.ix) kk kk 6 = c2.up from s2.up]; exact hN.cell hkl (j := 6) (by decide)
        have HR2 : Hid (MendR w wb t s M T c all lvs (fitM (turnM M' n kk O.ix P.ix Q.ix) kk) (hangR rt (M' n 6) kk) (.nd kk P (.nd n O Q)) c2) := Lib.hid ⟨hB, hN, s1, s2, s3, s4, HR.out.kept.trans s5, hh2, (HR.out.mod.trans HA.out.2.2).trans (hM.mono fun _ _ e => .inr e), .yes _ _ _ _ _ _ _ _ _ _ _ HR.out.men HOP.out HLR.out.1 HLR.out.2.1 HX.out.2.2.2.2.2.2.1⟩
        clear hB hN hM s1 s2 s3 s4 s5 hh2
        obtain ⟨u, hu⟩ : ∃ u, u = c2.up := ⟨_, rfl⟩
        rw [← hu] at q6
        have HU := Lib.hid hu
        obtain ⟨rt2, hrt2⟩ : ∃ x, x = hangR rt (M' n 6) kk := ⟨_, rfl⟩
        rw [← hrt2] at HR2
        have HB2 : Hid (Blk wb t #[.slice (some ⟨s.nb, 0, none⟩) s.nn s.cap, s.fv, .int .i64 rt2, .bool s.som, .map (some s.lf), .map (some s.bx), .int .i64 s.fat]) := Lib.hid HR2.out.blk
        obtain ⟨zt, ct, ft⟩ := id HB2.out
        clear hu hrt2
        go_wp2
        go_roundg (c2.dep + 1)
        case measure => exact HKD.out
        case rel => exact ⟨u, _, rt2, _, c2, rfl, HU.out, rfl, HR2.out⟩
end Go.Proofs.YtniahipadfgkbaaGreat
namespace Go.Proofs.YtniahipadfgkbaaGreat
open Go Go.Maps Go.RowKit Go.BigFrame Go.ChangeShapes Go.WideShapes
/-- a row set -/
def setRow (M : Nat → Nat → Int) (i : Nat) (x : Nat → Int) : Nat → Nat → Int := fun a b => if a = i then x b else M a b
theorem rowsL_same {M M' : Nat → Nat → Int} {n : Nat} (h : ∀ k, k < n → ∀ j, j < 11 → M k j = M' k j) : rowsL M 11 n = rowsL M' 11 n := by
  unfold rowsL
  apply List.map_congr_left
  intro q hq
  have hq := List.mem_range.1 hq
  rw [h (q / 11) (by omega) (q % 11) (by omega)]
theorem rowsL_push (M : Nat → Nat → Int) (k : Nat) (x : Nat → Int) : rowsL (setRow M k x) 11 (k + 1) = rowsL M 11 k ++ (#[.int .i64 (x 0), .int .i64 (x 1), .int .i64 (x 2), .int .i64 (x 3), .int .i64 (x 4), .int .i64 (x 5), .int .i64 (x 6), .int .i64 (x 7), .int .i64 (x 8), .int .i64 (x 9), .int .i64 (x 10)] : Array Value).toList := by
  rw [← rowsL_same (M := setRow M k x) (M' := M) (n := k) (fun q hq j _ => by unfold setRow; rw [if_neg (by omega)])]
  unfold rowsL
  rw [Nat.add_mul, List.range_add, List.map_append]
  congr 1
  have e : ∀ j, j < 11 → (k * 11 + j) / 11 = k ∧ (k * 11 + j) % 11 = j := fun j hj => by omega
  simp only [List.range, List.range.loop, List.map]
  rw [(e 0 (by decide)).1, (e 0 (by decide)).2, (e 1 (by decide)).1, (e 1 (by decide)).2, (e 2 (by decide)).1, (e 2 (by decide)).2, (e 3 (by decide)).1, (e 3 (by decide)).2, (e 4 (by decide)).1, (e 4 (by decide)).2, (e 5 (by decide)).1, (e 5 (by decide)).2, (e 6 (by decide)).1, (e 6 (by decide)).2, (e 7 (by decide)).1, (e 7 (by decide)).2, (e 8 (by decide)).1, (e 8 (by decide)).2, (e 9 (by decide)).1, (e 9 (by decide)).2, (e 10 (by decide)).1, (e 10 (by decide)).2]
  simp [setRow]
theorem nodeInfo : (Tryz.prog.info? 93).map (fun i => (i.zero, i.size, i.bytes)) = some (some (.agg #[.int .i64 0, .int .i64 0, .int .i64 0, .int .i64 0, .int .i64 0, .int .i64 0, .int .i64 0, .int .i64 0, .int .i64 0, .int .i64 0, .int .i64 0]), 11, 88) := by kernel_rfl
/-- append(s, x) of one node -/
theorem step_node {ops : Array Oper} {o : Oper} {a : Act} {w : World} {K : Act → World → Prop} {Q : Exit → Act → World → Prop} {E : Prop} (hg : o.guard = none) (s y : Operand) (ho : o.op = .call { callee := .builtin .append, args := #[s, y], argTypes := #[85, 85] })
    (v : Value) (n : Nat) (M : Nat → Nat → Int) (x : Nat → Int) (hs : a.eval s = v) (hown : w.ownsRow 0 93 11 v n (rowsL M 11 n)) {p : Nat} (hx : a.eval y = .slice (some ⟨p, 0, none⟩) 1 1) (hc : Blk w p #[.int .i64 (x 0), .int .i64 (x 1), .int .i64 (x 2), .int .i64 (x 3), .int .i64 (x 4), .int .i64 (x 5), .int .i64 (x 6), .int .i64 (x 7), .int .i64 (x 8), .int .i64 (x 9), .int .i64 (x 10)]) (hn : n < 1000000)
    (hK : ∀ b cap w', NT w' b cap (n + 1) (setRow M n x) → Mod (fun z => v.ownBlock = some z) w w' → (v.ownBlock = some b ∨ b = w.heap.size) → K (a.put o.dst (.slice (some ⟨b, 0, none⟩) (n + 1) cap)) w') :
    if Region.wanted o (yielded ops a.tmps) = true then Oper.wp Tryz.prog o a w K Q else E := by
  have hw : Region.wanted o (yielded ops a.tmps) = true := by simp [Region.wanted, hg]
  rw [if_pos hw]
  obtain ⟨i, hi, hz, hsize, hbytes⟩ := info_three nodeInfo
  obtain ⟨v', w', hr, h2, h3, h4, h5⟩ := run_append_own_at (P := Tryz.prog) w 0 85 o.type 93 i _ 11 88 Tryz.underlying85 hi hz hsize hbytes rfl (by decide) v n (rowsL M 11 n) hown ⟨p, 0, none⟩ 1 1 (#[.int .i64 (x 0), .int .i64 (x 1), .int .i64 (x 2), .int .i64 (x 3), .int .i64 (x 4), .int .i64 (x 5), .int .i64 (x 6), .int .i64 (x 7), .int .i64 (x 8), .int .i64 (x 9), .int .i64 (x 10)] : Array Value).toList rfl (fun j u hu => by
    have e : (⟨p, 0, none⟩ : Addr).add j = ⟨p, j, none⟩ := by cases j with | zero => rfl | succ j => simp [Addr.add]
    rw [e, hc.cell j, ← hu]
    simp) (by intro u hu; simp at hu; rcases hu with rfl | rfl | rfl | rfl | rfl | rfl | rfl | rfl | rfl | rfl | rfl <;> rfl) (by unfold maxLen; omega) (by omega) (Nat.zero_le _)
  rw [← rowsL_push] at h2
  obtain ⟨g, cap, rfl, _, _, _, _⟩ := row_at h2 (by omega)
  unfold Oper.wp execOp
  simp only [ho, resolve, invoke, builtin, Sem.run_bind, Sem.run_pure, Result.andThen_ok, List.map_toArray, List.map_cons, List.map_nil, hs, hx, hr]
  exact hK g cap w' h2 ((mod_grown h3).mono fun _ _ h => h) (by rcases h5 with h5 | h5; exact .inl h5.symm; right; injection h5)
theorem ballocT (w : World) (o : Obj) : Below w.heap.size w (w.alloc o) := by apply ext_alloc; exact Below.refl _ _
theorem any_freshT {P : Program} {md : Region.Mode} {ops : Array Oper} {Q : Exit → Act → World → Prop} {S : World → Prop} {f : Nat} {li : Array Bool} {a : Act} {w : World} (h : ∀ w', Below w.heap.size w w' → S w' → wpAnyH P md ops Q S f li a w') (hS : S w) : wpAnyH P md ops Q S f li a w := h w (Below.refl _ _) hS
theorem NT.congr {w : World} {b cap nn : Nat} {M M' : Nat → Nat → Int} (h : NT w b cap nn M) (e : ∀ k, k < nn → ∀ j, j < 11 → M k j = M' k j) : NT w b cap nn M' := by
  unfold NT
  rw [← rowsL_same e]
  exact h
/-- a row written -/
theorem NT.row {w : World} {b cap nn : Nat} {M : Nat → Nat → Int} (h : NT w b cap nn M) {i : Nat} (hi : i < nn) (x : Nat → Int) : NT (((((((((((w.setCell ⟨b, i * 11, none⟩ (.int .i64 (x 0))).setCell ⟨b, i * 11 + 1, none⟩ (.int .i64 (x 1))).setCell ⟨b, i * 11 + 2, none⟩ (.int .i64 (x 2))).setCell ⟨b, i * 11 + 3, none⟩ (.int .i64 (x 3))).setCell ⟨b, i * 11 + 4, none⟩ (.int .i64 (x 4))).setCell ⟨b, i * 11 + 5, none⟩ (.int .i64 (x 5))).setCell ⟨b, i * 11 + 6, none⟩ (.int .i64 (x 6))).setCell ⟨b, i * 11 + 7, none⟩ (.int .i64 (x 7))).setCell ⟨b, i * 11 + 8, none⟩ (.int .i64 (x 8))).setCell ⟨b, i * 11 + 9, none⟩ (.int .i64 (x 9))).setCell ⟨b, i * 11 + 10, none⟩ (.int .i64 (x 10))) b cap nn (setRow M i x) ∧ Mod (· = b) w (((((((((((w.setCell ⟨b, i * 11, none⟩ (.int .i64 (x 0))).setCell ⟨b, i * 11 + 1, none⟩ (.int .i64 (x 1))).setCell ⟨b, i * 11 + 2, none⟩ (.int .i64 (x 2))).setCell ⟨b, i * 11 + 3, none⟩ (.int .i64 (x 3))).setCell ⟨b, i * 11 + 4, none⟩ (.int .i64 (x 4))).setCell ⟨b, i * 11 + 5, none⟩ (.int .i64 (x 5))).setCell ⟨b, i * 11 + 6, none⟩ (.int .i64 (x 6))).setCell ⟨b, i * 11 + 7, none⟩ (.int .i64 (x 7))).setCell ⟨b, i * 11 + 8, none⟩ (.int .i64 (x 8))).setCell ⟨b, i * 11 + 9, none⟩ (.int .i64 (x 9))).setCell ⟨b, i * 11 + 10, none⟩ (.int .i64 (x 10))) := by
  refine ⟨NT.congr ((((((((((((h).set hi (j := 0) (by decide) (x 0)).set hi (j := 1) (by decide) (x 1)).set hi (j := 2) (by decide) (x 2)).set hi (j := 3) (by decide) (x 3)).set hi (j := 4) (by decide) (x 4)).set hi (j := 5) (by decide) (x 5)).set hi (j := 6) (by decide) (x 6)).set hi (j := 7) (by decide) (x 7)).set hi (j := 8) (by decide) (x 8)).set hi (j := 9) (by decide) (x 9)).set hi (j := 10) (by decide) (x 10)) ?_, (Mod.set (S := (· = b)) (Mod.set (S := (· = b)) (Mod.set (S := (· = b)) (Mod.set (S := (· = b)) (Mod.set (S := (· = b)) (Mod.set (S := (· = b)) (Mod.set (S := (· = b)) (Mod.set (S := (· = b)) (Mod.set (S := (· = b)) (Mod.set (S := (· = b)) (Mod.set (S := (· = b)) (Mod.refl _ _) (.inl rfl)) (.inl rfl)) (.inl rfl)) (.inl rfl)) (.inl rfl)) (.inl rfl)) (.inl rfl)) (.inl rfl)) (.inl rfl)) (.inl rfl)) (.inl rfl))⟩
  intro k _ j hj
  unfold setRow
  by_cases e : k = i
  · rw [if_pos e]
    have : j = 0 ∨ j = 1 ∨ j = 2 ∨ j = 3 ∨ j = 4 ∨ j = 5 ∨ j = 6 ∨ j = 7 ∨ j = 8 ∨ j = 9 ∨ j = 10 := by omega
    rcases this with rfl | rfl | rfl | rfl | rfl | rfl | rfl | rfl | rfl | rfl | rfl <;> simp [put1, e]
  · rw [if_neg e]
    simp [put1, e]
/-- what node reads -/
def NS (t p : Nat) (cs : Array Value) (nv : Value) (n : Nat) (M : Nat → Nat → Int) (x : Nat → Int) (w : World) : Prop := Blk w t cs ∧ Blk w p #[.int .i64 (x 0), .int .i64 (x 1), .int .i64 (x 2), .int .i64 (x 3), .int .i64 (x 4), .int .i64 (x 5), .int .i64 (x 6), .int .i64 (x 7), .int .i64 (x 8), .int .i64 (x 9), .int .i64 (x 10)] ∧ w.ownsRow 0 93 11 nv n (rowsL M 11 n)
theorem NS.below {t p n : Nat} {cs : Array Value} {nv : Value} {M : Nat → Nat → Int} {x : Nat → Int} {w w' : World} (h : NS t p cs nv n M x w) (k : Below w.heap.size w w') : NS t p cs nv n M x w' := ⟨h.1.below k, h.2.1.below k, row_below h.2.2 k⟩
def NodeApp (w : World) (t : Nat) (nv fv : Value) (nn : Nat) (rt : Int) (som : Bool) (lf bx : Option Nat) (fat : Int) (M : Nat → Nat → Int) (x : Nat → Int) (e : Ending) (w' : World) : Prop :=
  e = .returned (.int .i64 (nn : Int)) ∧ ∃ b cap, Blk w' t #[.slice (some ⟨b, 0, none⟩) (nn + 1) cap, fv, .int .i64 rt, .bool som, .map lf, .map bx, .int .i64 fat] ∧ NT w' b cap (nn + 1) (setRow M nn x) ∧ (nv.ownBlock = some b ∨ w.heap.size ≤ b) ∧ Mod (fun y => y = t ∨ nv.ownBlock = some y) w w'
set_option maxRecDepth 100000 in
set_option maxHeartbeats 8000000 in
theorem node_app (w : World) (t : Nat) (nv : Value) (A : Option Addr) (C nn : Nat) (rt : Int) (som : Bool) (lf bx : Option Nat) (fat : Int) (M : Nat → Nat → Int) (x : Nat → Int) (hB : Blk w t #[nv, .slice A 0 C, .int .i64 rt, .bool som, .map lf, .map bx, .int .i64 fat]) (hN : w.ownsRow 0 93 11 nv nn (rowsL M 11 nn)) (hne : nv.ownBlock ≠ some t) (hnn : nn < 900000) :
    Calls Tryz.prog 47 #[.pointer (some ⟨t, 0, none⟩), .agg #[.int .i64 (x 0), .int .i64 (x 1), .int .i64 (x 2), .int .i64 (x 3), .int .i64 (x 4), .int .i64 (x 5), .int .i64 (x 6), .int .i64 (x 7), .int .i64 (x 8), .int .i64 (x 9), .int .i64 (x 10)]] w (NodeApp w t nv (.slice A 0 C) nn rt som lf bx fat M x) := by
  have HB : Hid (Blk w t #[nv, .slice A 0 C, .int .i64 rt, .bool som, .map lf, .map bx, .int .i64 fat]) := Lib.hid hB
  have HN := Lib.hid hN
  have HNE := Lib.hid hne
  have HNN := Lib.hid hnn
  clear hB hN hne hnn
  obtain ⟨zt, ct, ft⟩ := id HB.out
  go_enter Tryz.func47, Tryz.ntmps47
  go_upto_region 7 with fail
  refine wp_fresh ?_
  rintro w2 hb2
  have hp3 : Blk w2 w.heap.size #[.int .i64 (x 0), .int .i64 (x 1), .int .i64 (x 2), .int .i64 (x 3), .int .i64 (x 4), .int .i64 (x 5), .int .i64 (x 6), .int .i64 (x 7), .int .i64 (x 8), .int .i64 (x 9), .int .i64 (x 10)] := Blk.below (by
    refine blk_asB (cs := _) (by repeat (with_reducible (first | assumption | (apply Blk.at; simp; done) | apply Blk.alloc | apply Blk.drew | apply Blk.drewN | apply Blk.more | apply Blk.put | (apply Blk.far; focus (first | assumption | (apply Ne.symm; assumption) | (simp; done) | (simp <;> omega)))))) ?_
    simp only []) hb2
  have hv2 : Below w.heap.size w w2 := (by repeat (with_reducible (first | exact Below.refl _ _ | assumption | apply ext_drew | apply ext_drewN | apply ext_alloc | apply ext_more | (refine ext_setCell ?_ (by first | assumption | (simp <;> omega)) _) | (refine ext_below ?_ (by assumption)))))
  obtain ⟨p3, hpp⟩ : ∃ p3, p3 = w.heap.size := ⟨_, rfl⟩
  have htp : t < p3 := hpp ▸ zt
  have hlp : ∀ b, nv.ownBlock = some b → b < p3 := fun b hb => hpp ▸ (row_lt HN.out hb).1
  rw [← hpp] at hp3
  rw [← hpp]
  have HV2 := Lib.hid hv2
  have hd2 : Below w2.heap.size w2 w2.drew := ext_drew (Below.refl _ _)
  have hS0 : Blk w2.drew t #[nv, .slice A 0 C, .int .i64 rt, .bool som, .map lf, .map bx, .int .i64 fat] ∧ Blk w2.drew p3 #[.int .i64 (x 0), .int .i64 (x 1), .int .i64 (x 2), .int .i64 (x 3), .int .i64 (x 4), .int .i64 (x 5), .int .i64 (x 6), .int .i64 (x 7), .int .i64 (x 8), .int .i64 (x 9), .int .i64 (x 10)] := ⟨(HB.out.below hv2).below hd2, hp3.below hd2⟩
  have HTW := Lib.hid zt
  have HTP : Hid ((t < p3 ∧ ∀ b, nv.ownBlock = some b → b < p3) ∧ w.heap.size ≤ p3) := Lib.hid ⟨⟨htp, hlp⟩, by omega⟩
  clear hb2 hv2 hp3 zt ct ft htp hlp HB hpp hd2
  refine region_held_tail (fun w' => Blk w' t #[nv, .slice A 0 C, .int .i64 rt, .bool som, .map lf, .map bx, .int .i64 fat] ∧ Blk w' p3 #[.int .i64 (x 0), .int .i64 (x 1), .int .i64 (x 2), .int .i64 (x 3), .int .i64 (x 4), .int .i64 (x 5), .int .i64 (x 6), .int .i64 (x 7), .int .i64 (x 8), .int .i64 (x 9), .int .i64 (x 10)]) 8 (by kernel_rfl) (by kernel_rfl) hS0 (fun hHeld => ?_)
  clear hS0
  simp only [List.take_succ_cons, List.take_zero]
  refine wpAnyH_take (i := 0) (v := .pointer (some ⟨t, 0, none⟩)) rfl (by kernel_rfl) (by kernel_rfl) (by kernel_rfl) (fun _ _ _ h => h) (Or.inl ⟨by kernel_rfl, ?yn_0⟩) hHeld ?rn_0
  case yn_0 =>
    intro w hSw
    go_simp
    try with_reducible rfl
  try simp only [Act.put, List.getElem_toArray, List.getElem_cons_zero, List.setIfInBounds_toArray, List.set_cons_zero, List.set_cons_succ]
  refine wpAnyH_take (i := 1) (v := .pointer (some ⟨t, 0, none⟩)) rfl (by kernel_rfl) (by kernel_rfl) (by kernel_rfl) (fun _ _ _ h => h) (Or.inl ⟨by kernel_rfl, ?yn_1⟩) hHeld ?rn_1
  case yn_1 =>
    intro w hSw
    go_simp
    try with_reducible rfl
  try simp only [Act.put, List.getElem_toArray, List.getElem_cons_zero, List.getElem_cons_succ, List.setIfInBounds_toArray, List.set_cons_zero, List.set_cons_succ]
  refine wpAnyH_take (i := 2) (v := .pointer (some ⟨t, 0, none⟩)) rfl (by kernel_rfl) (by kernel_rfl) (by kernel_rfl) (fun _ _ _ h => h) (Or.inl ⟨by kernel_rfl, ?yn_2⟩) hHeld ?rn_2
  case yn_2 =>
    intro w hSw
    go_simp
    try with_reducible rfl
  try simp only [Act.put, List.getElem_toArray, List.getElem_cons_zero, List.getElem_cons_succ, List.setIfInBounds_toArray, List.set_cons_zero, List.set_cons_succ]
  refine wpAnyH_take (i := 3) (v := .pointer (some ⟨t, 0, none⟩)) rfl (by kernel_rfl) (by kernel_rfl) (by kernel_rfl) (fun _ _ _ h => h) (Or.inl ⟨by kernel_rfl, ?yn_3⟩) hHeld ?rn_3
  case yn_3 =>
    intro w hSw
    go_simp
    try with_reducible rfl
  try simp only [Act.put, List.getElem_toArray, List.getElem_cons_zero, List.getElem_cons_succ, List.setIfInBounds_toArray, List.set_cons_zero, List.set_cons_succ]
  refine wpAnyH_take (i := 4) (v := nv) rfl (by kernel_rfl) (by kernel_rfl) (by kernel_rfl) (fun _ _ _ h => h) (Or.inl ⟨by kernel_rfl, ?yn_4⟩) hHeld ?rn_4
  case yn_4 =>
    intro w hSw
    obtain ⟨⟨zt, ct, ft⟩, ⟨z3, c3, f3⟩⟩ := hSw
    go_simp
    try with_reducible rfl
  try simp only [Act.put, List.getElem_toArray, List.getElem_cons_zero, List.getElem_cons_succ, List.setIfInBounds_toArray, List.set_cons_zero, List.set_cons_succ]
  refine wpAnyH_take (i := 5) (v := .agg #[.int .i64 (x 0), .int .i64 (x 1), .int .i64 (x 2), .int .i64 (x 3), .int .i64 (x 4), .int .i64 (x 5), .int .i64 (x 6), .int .i64 (x 7), .int .i64 (x 8), .int .i64 (x 9), .int .i64 (x 10)]) rfl (by kernel_rfl) (by kernel_rfl) (by kernel_rfl) (fun _ _ _ h => h) (Or.inl ⟨by kernel_rfl, ?yn_5⟩) hHeld ?rn_5
  case yn_5 =>
    intro w hSw
    obtain ⟨⟨zt, ct, ft⟩, ⟨z3, c3, f3⟩⟩ := hSw
    go_simp
    try with_reducible rfl
  try simp only [Act.put, List.getElem_toArray, List.getElem_cons_zero, List.getElem_cons_succ, List.setIfInBounds_toArray, List.set_cons_zero, List.set_cons_succ]
  refine wpAnyH_ready (rs := [6]) (by kernel_rfl) (by simp) ?_
  refine AllReadyH.cons (o := _) rfl (fun K hK => ?_) AllReadyH.nil
  go_simp
  try dsimp only
  refine hK.out _ _ ⟨hHeld.1.below (ballocT _ _), hHeld.2.below (ballocT _ _)⟩ (fun hHeld => ?_)
  clear hK K
  try simp only [Act.put, List.getElem_toArray, List.getElem_cons_zero, List.getElem_cons_succ, List.setIfInBounds_toArray, List.set_cons_zero, List.set_cons_succ]
  refine any_freshT ?_ hHeld
  clear hHeld
  rintro w4 hb4 hHeld
  have hv4 : Below w2.heap.size w2 w4 := (by repeat (with_reducible (first | exact Below.refl _ _ | assumption | apply ext_drew | apply ext_drewN | apply ext_alloc | apply ext_more | (refine ext_setCell ?_ (by first | assumption | (simp <;> omega)) _) | (refine ext_below ?_ (by assumption)))))
  have hp6 : Blk w4 w2.heap.size #[.int .i64 (x 0), .int .i64 (x 1), .int .i64 (x 2), .int .i64 (x 3), .int .i64 (x 4), .int .i64 (x 5), .int .i64 (x 6), .int .i64 (x 7), .int .i64 (x 8), .int .i64 (x 9), .int .i64 (x 10)] := (Blk.fresh w2.drew _ _).below hb4
  have HP6 : Hid (w2.heap.size < w4.heap.size) := Lib.hid hp6.lt
  have HN4 : Hid (w4.ownsRow 0 93 11 nv nn (rowsL M 11 nn)) := Lib.hid (row_below (row_below HN.out HV2.out) hv4)
  have HV4 := Lib.hid (HV2.out.trans (hv4.mono HV2.out.size))
  have HB4 := Lib.hid hHeld
  clear hb4 hv4
  refine wpAnyH_ready (rs := [7]) (by kernel_rfl) (by simp) ?_
  refine AllReadyH.cons (o := _) rfl (fun K hK => ?_) AllReadyH.nil
  refine step_node rfl (.tmp 44) (.tmp 46) rfl nv nn M x rfl HN4.out rfl hp6 (by have := HNN.out; omega) ?_
  rintro b cap w5 hN5 hM5 hbo
  refine hK.out _ _ ⟨HB4.out.1.mod hM5 HNE.out, HB4.out.2.mod hM5 (fun e => Nat.lt_irrefl _ (HTP.out.1.2 _ e))⟩ (fun hHeld => ?_)
  clear hK K
  try simp only [Act.put, List.getElem_toArray, List.getElem_cons_zero, List.getElem_cons_succ, List.setIfInBounds_toArray, List.set_cons_zero, List.set_cons_succ]
  have HB5 := Lib.hid hHeld.1
  have HN5 := Lib.hid hN5
  have HM5 := Lib.hid hM5
  have HBO : Hid (nv.ownBlock = some b ∨ w.heap.size ≤ b) := Lib.hid (hbo.imp id (fun e => by rw [e]; exact HV4.out.size))
  refine wpAnyH_done (by kernel_rfl) ?_ _
  clear hHeld hp6 hN5 hM5 hbo
  simp only [TailQ, List.drop_succ_cons, List.drop_zero]
  obtain ⟨zt, ct, ft⟩ := id HB5.out
  have hwn : wrap64 (nn : Int) = nn := by have := HNN.out; unfold wrap64; omega
  go_wp2_with fail
  go_ret
  have hbt : b ≠ t := fun e => by
    rcases HBO.out with h | h
    · exact HNE.out (e ▸ h)
    · have := HTP.out.1.1
      have := HTP.out.2
      have := HTW.out
      omega
  refine ⟨(by show Ending.returned (.int .i64 (wrap64 (nn : Int))) = _; rw [hwn]), b, cap, Blk.put (i := 0) HB5.out, HN5.out.mod (Mod.set (S := (· = t)) (Mod.refl _ _) (.inl rfl)) hbt, HBO.out, ?_⟩
  exact Mod.set (((Mod.of_below HV4.out).trans (HM5.out.mono fun _ _ h => .inr h))) (.inl (.inl rfl))
def NodeFree (w : World) (t nb cap nn g m C : Nat) (zs : List Int) (rt : Int) (som : Bool) (lf bx : Option Nat) (fat : Int) (M : Nat → Nat → Int) (i : Nat) (x : Nat → Int) (e : Ending) (w' : World) : Prop :=
  e = .returned (.int .i64 (i : Int)) ∧ Blk w' t #[.slice (some ⟨nb, 0, none⟩) nn cap, .slice (some ⟨g, 0, none⟩) m C, .int .i64 rt, .bool som, .map lf, .map bx, .int .i64 fat] ∧ NT w' nb cap nn (setRow M i x) ∧ w'.ownsRow 0 3 1 (.slice (some ⟨g, 0, none⟩) m C) m (ints zs) ∧ Mod (fun y => y = t ∨ y = nb) w w'
set_option maxRecDepth 100000 in
set_option maxHeartbeats 8000000 in
theorem node_free (w : World) (t nb cap nn g m C : Nat) (zs : List Int) (rt : Int) (som : Bool) (lf bx : Option Nat) (fat : Int) (M : Nat → Nat → Int) (i : Nat) (x : Nat → Int) (hm : zs.length = m) (hB : Blk w t #[.slice (some ⟨nb, 0, none⟩) nn cap, .slice (some ⟨g, 0, none⟩) (m + 1) C, .int .i64 rt, .bool som, .map lf, .map bx, .int .i64 fat]) (hN : NT w nb cap nn M) (hF : w.ownsRow 0 3 1 (.slice (some ⟨g, 0, none⟩) (m + 1) C) (m + 1) (ints (zs ++ [(i : Int)]))) (hi : i < nn) (htn : t ≠ nb) (htg : t ≠ g) (hgn : g ≠ nb) :
    Calls Tryz.prog 47 #[.pointer (some ⟨t, 0, none⟩), .agg #[.int .i64 (x 0), .int .i64 (x 1), .int .i64 (x 2), .int .i64 (x 3), .int .i64 (x 4), .int .i64 (x 5), .int .i64 (x 6), .int .i64 (x 7), .int .i64 (x 8), .int .i64 (x 9), .int .i64 (x 10)]] w (NodeFree w t nb cap nn g m C zs rt som lf bx fat M i x) := by
  have HB : Hid (Blk w t #[.slice (some ⟨nb, 0, none⟩) nn cap, .slice (some ⟨g, 0, none⟩) (m + 1) C, .int .i64 rt, .bool som, .map lf, .map bx, .int .i64 fat]) := Lib.hid hB
  have HN := Lib.hid hN
  have HF := Lib.hid hF
  have HNE := Lib.hid (And.intro htn (And.intro htg hgn))
  obtain ⟨g', c', hv, -, hgl, hmC, hC, fg, cg, -⟩ := row_at hF (by omega)
  have qi : w.cell? ⟨g, m, none⟩ = some (.int .i64 (i : Int)) := by
    injection hv with e1 e2 e3
    injection e1 with e1
    injection e1 with e1
    subst e1
    refine cg m _ ?_
    subst hm
    simp [ints]
  have hgw : g < w.heap.size := (row_lt hF rfl).1
  have HM := Lib.hid hm
  have HC : Hid (m + 1 ≤ C ∧ C ≤ maxLen) := Lib.hid (by injection hv with e1 e2 e3; subst e3; exact ⟨hmC, hC⟩)
  clear hB hN hF htn htg hgn hv hgl hmC hC fg cg hm
  obtain ⟨zt, ct, ft⟩ := id HB.out
  have hmc1 : m + 1 ≤ C := HC.out.1
  have hm0 : decide ((0 : Int) < (m : Int) + 1) = true := decide_eq_true (by omega)
  have hw1 : wrap64 ((m : Int) + 1 - 1) = m := by have := HC.out.2; unfold maxLen at this; unfold wrap64; omega
  have hw2 : wrap64 (m : Int) = m := by have := HC.out.2; unfold maxLen at this; unfold wrap64; omega
  go_enter Tryz.func47, Tryz.ntmps47
  go_upto_region 5 with fail
  refine wp_fresh ?_
  rintro w2 hb2
  have hB2 : Blk w2 t #[.slice (some ⟨nb, 0, none⟩) nn cap, .slice (some ⟨g, 0, none⟩) m C, .int .i64 rt, .bool som, .map lf, .map bx, .int .i64 fat] := Blk.below (Blk.alloc (Blk.put (i := 1) HB.out) _) hb2
  have hp3 : Blk w2 w.heap.size #[.int .i64 (x 0), .int .i64 (x 1), .int .i64 (x 2), .int .i64 (x 3), .int .i64 (x 4), .int .i64 (x 5), .int .i64 (x 6), .int .i64 (x 7), .int .i64 (x 8), .int .i64 (x 9), .int .i64 (x 10)] := Blk.below (by
    refine blk_asB (cs := _) (by repeat (with_reducible (first | assumption | (apply Blk.at; simp; done) | apply Blk.alloc | apply Blk.drew | apply Blk.drewN | apply Blk.more | apply Blk.put | (apply Blk.far; focus (first | assumption | (apply Ne.symm; assumption) | (simp; done) | (simp <;> omega)))))) ?_
    simp only []) hb2
  have hm2 : Mod (· = t) w w2 := ((Mod.set (S := (· = t)) (Mod.refl _ _) (.inl rfl)).trans (Mod.of_below (ballocT _ _))).trans (Mod.of_below hb2)
  have hN2 : NT w2 nb cap nn M := HN.out.mod hm2 (fun e => HNE.out.1 e.symm)
  have hF2 : w2.ownsRow 0 3 1 (.slice (some ⟨g, 0, none⟩) m C) m (ints zs) := by
    have h := row_take HF.out (k := m) (by omega)
    rw [List.take_left' HM.out] at h
    exact row_mod h hm2 (fun b e => by cases e; exact fun e => HNE.out.2.1 e.symm)
  obtain ⟨p3, hpp⟩ : ∃ p3, p3 = w.heap.size := ⟨_, rfl⟩
  rw [← hpp] at hp3
  rw [← hpp]
  have HN2 := Lib.hid hN2
  have HF2 := Lib.hid hF2
  have HB2 := Lib.hid hB2
  have HP3 := Lib.hid hp3
  have HM2 := Lib.hid hm2
  clear hB2 hp3 hm2 hN2 hF2 hpp hb2 zt ct ft qi hmc1 hm0 hw1 HB HN HF HM hgw
  obtain ⟨zt, ct, ft⟩ := id HB2.out
  obtain ⟨z3, c3, f3⟩ := id HP3.out
  have hmc := more_cell
  refine region_quiet_but 7 (by kernel_rfl) (by kernel_rfl) ?_
  simp only [List.take_succ_cons, List.take_zero, List.drop_succ_cons, List.drop_zero]
  repeat (go_big_quiet_step (fail))
  refine wpQuiet_nil ?_
  rintro w3 hw3
  have hb3 := after_below hw3
  clear hw3 hmc zt ct ft z3 c3 f3 hw2
  have HB3 := Lib.hid (HB2.out.below hb3)
  have HN3 := Lib.hid (HN2.out.below hb3)
  have HF3 := Lib.hid (row_below HF2.out hb3)
  have HM3 : Hid (Mod (· = t) w w3) := Lib.hid (HM2.out.trans (Mod.of_below hb3))
  clear hb3 HB2 HN2 HF2 HM2 HP3
  have q0 := HN3.out.cell hi (j := 0) (by decide)
  have q1 := HN3.out.cell hi (j := 1) (by decide)
  have q2 := HN3.out.cell hi (j := 2) (by decide)
  have q3 := HN3.out.cell hi (j := 3) (by decide)
  have q4 := HN3.out.cell hi (j := 4) (by decide)
  have q5 := HN3.out.cell hi (j := 5) (by decide)
  have q6 := HN3.out.cell hi (j := 6) (by decide)
  have q7 := HN3.out.cell hi (j := 7) (by decide)
  have q8 := HN3.out.cell hi (j := 8) (by decide)
  have q9 := HN3.out.cell hi (j := 9) (by decide)
  have q10 := HN3.out.cell hi (j := 10) (by decide)
  simp only [Nat.add_zero] at q0
  have fq := HN3.out.free
  go_wp2_with fail
  obtain ⟨hN4, hM4⟩ := HN3.out.row hi x
  go_ret
  refine ⟨rfl, HB3.out.mod hM4 HNE.out.1, hN4, row_mod HF3.out hM4 (fun b e => by cases e; exact HNE.out.2.2), (HM3.out.mono fun _ _ h => .inl h).trans (hM4.mono fun _ _ h => .inr h)⟩
end Go.Proofs.YtniahipadfgkbaaGreat
