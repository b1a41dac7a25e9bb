/- broad.Tree's trees, in plain Lean: a node fitted, a node turned. Conditions: none. -/
import Derived.Test.YtefhmbmbhiehdaaDoorKBt2
namespace Go.Proofs.YtefhmbmbhiehdaaDoor
/-- a tree of nodes' numbers -/
inductive Tr where
  | lf (k : Nat)
  | nd (k : Nat) (l r : Tr)
def Tr.ix : Tr → Nat
  | .lf k => k
  | .nd k _ _ => k
def Tr.all : Tr → List Nat
  | .lf k => [k]
  | .nd k l r => k :: (l.all ++ r.all)
def Tr.lvs : Tr → List Nat
  | .lf k => [k]
  | .nd _ l r => l.lvs ++ r.lvs
theorem Tr.ix_mem (T : Tr) : T.ix ∈ T.all := by cases T <;> simp [Tr.ix, Tr.all]
theorem Tr.lvs_sub : ∀ (T : Tr), ∀ k ∈ T.lvs, k ∈ T.all := by
  intro T
  induction T with
  | lf k => simp [Tr.lvs, Tr.all]
  | nd k l r hl hr =>
    intro x hx
    rcases List.mem_append.1 hx with h | h
    · exact List.mem_cons_of_mem _ (List.mem_append_left _ (hl x h))
    · exact List.mem_cons_of_mem _ (List.mem_append_right _ (hr x h))
/-- row k is made of its two kids' -/
structure Fit (M : Nat → Nat → Int) (k l r : Nat) : Prop where
  lo : ∀ j, j < 3 → M k j = min (M l j) (M r j)
  hi : ∀ j, 3 ≤ j → j < 6 → M k j = max (M l j) (M r j)
  ht : M k 10 = 1 + max (M l 10) (M r 10)
/-- the rows are as the tree says -/
def Rep (M : Nat → Nat → Int) : Int → Tr → Prop
  | up, .lf k => M k 6 = up ∧ M k 7 = -1 ∧ M k 10 = 0
  | up, .nd k l r => M k 6 = up ∧ M k 7 = (l.ix : Int) ∧ M k 8 = (r.ix : Int) ∧ Fit M k l.ix r.ix ∧ Rep M k l ∧ Rep M k r
theorem Rep.up {M : Nat → Nat → Int} {up : Int} {T : Tr} (h : Rep M up T) : M T.ix 6 = up := by cases T <;> exact h.1
theorem Fit.congr {M M' : Nat → Nat → Int} {k l r : Nat} (h : Fit M k l r) (ek : ∀ j, j ≠ 6 → M' k j = M k j) (el : ∀ j, j ≠ 6 → M' l j = M l j) (er : ∀ j, j ≠ 6 → M' r j = M r j) : Fit M' k l r :=
  ⟨fun j hj => by rw [ek j (by omega), el j (by omega), er j (by omega)]; exact h.lo j hj, fun j h3 hj => by rw [ek j (by omega), el j (by omega), er j (by omega)]; exact h.hi j h3 hj, by rw [ek 10 (by omega), el 10 (by omega), er 10 (by omega)]; exact h.ht⟩
/-- other rows written, and who is above the tree -/
theorem Rep.move {M M' : Nat → Nat → Int} : ∀ {T : Tr} {up up' : Int}, Rep M up T → T.all.Nodup → (∀ k ∈ T.all, ∀ j, j ≠ 6 → M' k j = M k j) → (∀ k ∈ T.all, k ≠ T.ix → M' k 6 = M k 6) → M' T.ix 6 = up' → Rep M' up' T := by
  intro T
  induction T with
  | lf k =>
    intro up up' h _ e _ h6
    have := e k (by simp [Tr.all])
    exact ⟨h6, by rw [this 7 (by omega)]; exact h.2.1, by rw [this 10 (by omega)]; exact h.2.2⟩
  | nd k l r hl hr =>
    intro up up' ⟨_, h7, h8, hf, h1, h2⟩ hnd e e6 h6
    have hnd' := List.nodup_cons.1 hnd
    have hap := List.nodup_append.1 hnd'.2
    have ml : ∀ x ∈ l.all, x ∈ (Tr.nd k l r).all := fun x hx => List.mem_cons_of_mem _ (List.mem_append_left _ hx)
    have mr : ∀ x ∈ r.all, x ∈ (Tr.nd k l r).all := fun x hx => List.mem_cons_of_mem _ (List.mem_append_right _ hx)
    have nl : ∀ x ∈ l.all, x ≠ k := fun x hx e => hnd'.1 (e ▸ List.mem_append_left _ hx)
    have nr : ∀ x ∈ r.all, x ≠ k := fun x hx e => hnd'.1 (e ▸ List.mem_append_right _ hx)
    have ek := e k (by simp [Tr.all])
    refine ⟨h6, by rw [ek 7 (by omega)]; exact h7, by rw [ek 8 (by omega)]; exact h8, hf.congr ek (e _ (ml _ l.ix_mem)) (e _ (mr _ r.ix_mem)), ?_, ?_⟩
    · exact hl h1 hap.1 (fun x hx => e x (ml x hx)) (fun x hx _ => e6 x (ml x hx) (nl x hx)) (by rw [e6 _ (ml _ l.ix_mem) (nl _ l.ix_mem)]; exact h1.up)
    · exact hr h2 hap.2.1 (fun x hx => e x (mr x hx)) (fun x hx _ => e6 x (mr x hx) (nr x hx)) (by rw [e6 _ (mr _ r.ix_mem) (nr _ r.ix_mem)]; exact h2.up)
theorem Rep.same {M M' : Nat → Nat → Int} {T : Tr} {up : Int} (h : Rep M up T) (hn : T.all.Nodup) (e : ∀ k ∈ T.all, ∀ j, M' k j = M k j) : Rep M' up T :=
  h.move hn (fun k hk j _ => e k hk j) (fun k hk _ => e k hk 6) (by rw [e _ T.ix_mem]; exact h.up)
theorem Rep.height {M : Nat → Nat → Int} : ∀ {T : Tr} {up : Int}, Rep M up T → 0 ≤ M T.ix 10 ∧ M T.ix 10 < T.all.length := by
  intro T
  induction T with
  | lf k => intro up h; rw [show (Tr.lf k).ix = k from rfl, h.2.2]; simp [Tr.all]
  | nd k l r hl hr =>
    intro up ⟨_, _, _, hf, h1, h2⟩
    have a := hl h1
    have b := hr h2
    have hh := hf.ht
    rw [show (Tr.nd k l r).ix = k from rfl, hh]
    simp only [Tr.all, List.length_cons, List.length_append]
    omega
/-- the way from a node up to the root; its nodes are not yet fitted -/
inductive Cx where
  | top
  | lft (k : Nat) (c : Cx) (r : Tr)
  | rgt (k : Nat) (l : Tr) (c : Cx)
def Cx.all : Cx → List Nat
  | .top => []
  | .lft k c r => k :: (r.all ++ c.all)
  | .rgt k l c => k :: (l.all ++ c.all)
def Cx.lvs : Cx → List Nat
  | .top => []
  | .lft _ c r => r.lvs ++ c.lvs
  | .rgt _ l c => l.lvs ++ c.lvs
def Cx.dep : Cx → Nat
  | .top => 0
  | .lft _ c _ => c.dep + 1
  | .rgt _ _ c => c.dep + 1
def RepC (M : Nat → Nat → Int) (root : Int) : Nat → Cx → Prop
  | h, .top => M h 6 = -1 ∧ root = h
  | h, .lft k c r => M h 6 = k ∧ M k 7 = h ∧ M k 8 = (r.ix : Int) ∧ Rep M k r ∧ RepC M root k c
  | h, .rgt k l c => M h 6 = k ∧ M k 7 = (l.ix : Int) ∧ M k 8 = h ∧ Rep M k l ∧ RepC M root k c
/-- the node above -/
def Cx.up : Cx → Int
  | .top => -1
  | .lft k _ _ => k
  | .rgt k _ _ => k
theorem RepC.up {M : Nat → Nat → Int} {root : Int} {h : Nat} {c : Cx} (r : RepC M root h c) : M h 6 = c.up := by cases c <;> exact r.1
theorem RepC.same {M M' : Nat → Nat → Int} {root : Int} : ∀ {c : Cx} {h : Nat}, RepC M root h c → c.all.Nodup → (∀ k ∈ c.all, ∀ j, M' k j = M k j) → M' h 6 = M h 6 → RepC M' root h c := by
  intro c
  induction c with
  | top => intro h hr _ _ e; exact ⟨by rw [e]; exact hr.1, hr.2⟩
  | lft k c r ih =>
    intro h ⟨h1, h2, h3, h4, h5⟩ hn e e6
    have hn' := List.nodup_cons.1 hn
    have hap := List.nodup_append.1 hn'.2
    have ek := e k (by simp [Cx.all])
    refine ⟨by rw [e6]; exact h1, by rw [ek]; exact h2, by rw [ek]; exact h3, h4.same hap.1 (fun x hx => e x (by simp [Cx.all, hx])), ih h5 hap.2.1 (fun x hx => e x (by simp [Cx.all, hx])) (ek 6)⟩
  | rgt k l c ih =>
    intro h ⟨h1, h2, h3, h4, h5⟩ hn e e6
    have hn' := List.nodup_cons.1 hn
    have hap := List.nodup_append.1 hn'.2
    have ek := e k (by simp [Cx.all])
    refine ⟨by rw [e6]; exact h1, by rw [ek]; exact h2, by rw [ek]; exact h3, h4.same hap.1 (fun x hx => e x (by simp [Cx.all, hx])), ih h5 hap.2.1 (fun x hx => e x (by simp [Cx.all, hx])) (ek 6)⟩
theorem fitM_row {M : Nat → Nat → Int} {n k : Nat} (h : k ≠ n) (j : Nat) : fitM M n k j = M k j := by simp [fitM, put1, h]
theorem fitM_col {M : Nat → Nat → Int} {n j : Nat} (h6 : 6 ≤ j) (h10 : j ≠ 10) : fitM M n n j = M n j := by
  have a0 : j ≠ 0 := by omega
  have a1 : j ≠ 1 := by omega
  have a2 : j ≠ 2 := by omega
  have a3 : j ≠ 3 := by omega
  have a4 : j ≠ 4 := by omega
  have a5 : j ≠ 5 := by omega
  simp [fitM, put1, h10, a0, a1, a2, a3, a4, a5]
theorem fitM_fit {M : Nat → Nat → Int} {n l r : Nat} (hl : M n 7 = (l : Int)) (hr : M n 8 = (r : Int)) (hnl : l ≠ n) (hnr : r ≠ n) : Fit (fitM M n) n l r := by
  refine ⟨fun j hj => ?_, fun j h3 hj => ?_, ?_⟩
  · rw [fitM_row hnl, fitM_row hnr]
    have : j = 0 ∨ j = 1 ∨ j = 2 := by omega
    rcases this with rfl | rfl | rfl <;> simp [fitM, put1, hl, hr]
  · rw [fitM_row hnl, fitM_row hnr]
    have : j = 3 ∨ j = 4 ∨ j = 5 := by omega
    rcases this with rfl | rfl | rfl <;> simp [fitM, put1, hl, hr]
  · rw [fitM_row hnl, fitM_row hnr]
    simp [fitM, put1, hl, hr]
/-- one node fitted -/
theorem step_no {M : Nat → Nat → Int} {root : Int} {n : Nat} {l r : Tr} {c : Cx} (h7 : M n 7 = (l.ix : Int)) (h8 : M n 8 = (r.ix : Int)) (hl : Rep M n l) (hr : Rep M n r) (hc : RepC M root n c) (hn : (n :: (l.all ++ r.all) ++ c.all).Nodup) :
    Rep (fitM M n) c.up (.nd n l r) ∧ RepC (fitM M n) root n c := by
  obtain ⟨hnn, hca, hdj⟩ := List.nodup_append.1 hn
  have hn1 := List.nodup_cons.1 hnn
  have hap := List.nodup_append.1 hn1.2
  have nl : ∀ x ∈ l.all, x ≠ n := fun x hx e => hn1.1 (e ▸ List.mem_append_left _ hx)
  have nr : ∀ x ∈ r.all, x ≠ n := fun x hx e => hn1.1 (e ▸ List.mem_append_right _ hx)
  have nc : ∀ x ∈ c.all, x ≠ n := fun x hx e => hdj n (by simp) x hx e.symm
  refine ⟨⟨?_, ?_, ?_, fitM_fit h7 h8 (nl _ l.ix_mem) (nr _ r.ix_mem), hl.same hap.1 (fun x hx j => fitM_row (nl x hx) j), hr.same hap.2.1 (fun x hx j => fitM_row (nr x hx) j)⟩, hc.same hca (fun x hx j => fitM_row (nc x hx) j) (fitM_col (by omega) (by omega))⟩
  · rw [fitM_col (by omega) (by omega)]; exact hc.up
  · rw [fitM_col (by omega) (by omega)]; exact h7
  · rw [fitM_col (by omega) (by omega)]; exact h8
theorem hangM_other {M : Nat → Nat → Int} {up was is : Int} {x j : Nat} (h : 0 ≤ up → x = up.toNat → j ≠ 7 ∧ j ≠ 8) : hangM M up was is x j = M x j := by
  unfold hangM
  split
  · rfl
  · rename_i h0
    have h0' : 0 ≤ up := by omega
    split
    · unfold put1
      rw [if_neg]
      rintro ⟨e1, e2⟩
      exact (h h0' e1).1 e2
    · unfold put1
      rw [if_neg]
      rintro ⟨e1, e2⟩
      exact (h h0' e1).2 e2
theorem turn_row {M : Nat → Nat → Int} {n kk o p q x j : Nat} (hn : x ≠ n) (hk : x ≠ kk) (hq : x = q → j ≠ 6) (hu : 0 ≤ M n 6 → x = (M n 6).toNat → j ≠ 7 ∧ j ≠ 8) : turnM M n kk o p q x j = M x j := by
  unfold turnM
  rw [fitM_row hn]
  have e : ∀ (A : Nat → Nat → Int) (v : Int), put1 A q 6 v x j = A x j := fun A v => by
    unfold put1
    rw [if_neg]
    rintro ⟨e1, e2⟩
    exact hq e1 e2
  have e1 : ∀ (A : Nat → Nat → Int) (i : Nat) (v : Int), put1 A n i v x j = A x j := fun A i v => by
    unfold put1
    rw [if_neg (fun h => hn h.1)]
  have e2 : ∀ (A : Nat → Nat → Int) (i : Nat) (v : Int), put1 A kk i v x j = A x j := fun A i v => by
    unfold put1
    rw [if_neg (fun h => hk h.1)]
  rw [e2, e2, e1, e, e1, e1, e2, hangM_other hu]
theorem turn_n {M : Nat → Nat → Int} {n kk o p q : Nat} (hk : n ≠ kk) : turnM M n kk o p q n 6 = kk ∧ turnM M n kk o p q n 7 = o ∧ turnM M n kk o p q n 8 = q := by
  unfold turnM
  refine ⟨?_, ?_, ?_⟩
  · rw [fitM_col (by omega) (by omega)]
    simp [put1, hk]
  · rw [fitM_col (by omega) (by omega)]
    simp [put1, hk]
  · rw [fitM_col (by omega) (by omega)]
    simp [put1, hk]
theorem turn_k {M : Nat → Nat → Int} {n kk o p q : Nat} (hk : kk ≠ n) (hq : kk ≠ q) : turnM M n kk o p q kk 6 = M n 6 ∧ turnM M n kk o p q kk 7 = p ∧ turnM M n kk o p q kk 8 = n := by
  unfold turnM
  refine ⟨?_, ?_, ?_⟩
  · rw [fitM_row hk]
    simp [put1, hk, hq]
  · rw [fitM_row hk]
    simp [put1]
  · rw [fitM_row hk]
    simp [put1]
/-- a turn: what is there then is one to be fitted -/
theorem step_turn {M : Nat → Nat → Int} {root : Int} {n kk : Nat} {O P Q : Tr} {c : Cx} (hO : Rep M n O) (hP : Rep M kk P) (hQ : Rep M kk Q) (hc : RepC M root n c) (hn : (n :: kk :: (O.all ++ (P.all ++ Q.all)) ++ c.all).Nodup) :
    turnM M n kk O.ix P.ix Q.ix kk 7 = (P.ix : Int) ∧ turnM M n kk O.ix P.ix Q.ix kk 8 = ((Tr.nd n O Q).ix : Int) ∧ Rep (turnM M n kk O.ix P.ix Q.ix) kk P ∧ Rep (turnM M n kk O.ix P.ix Q.ix) kk (.nd n O Q) ∧ RepC (turnM M n kk O.ix P.ix Q.ix) (hangR root (M n 6) kk) kk c := by
  obtain ⟨hnn, hca, hdj⟩ := List.nodup_append.1 hn
  obtain ⟨h1, h2⟩ := List.nodup_cons.1 hnn
  obtain ⟨h3, h4⟩ := List.nodup_cons.1 h2
  obtain ⟨h5, h6, h7⟩ := List.nodup_append.1 h4
  obtain ⟨h8, h9, h10⟩ := List.nodup_append.1 h6
  have nk : n ≠ kk := fun e => h1 (by simp [e])
  have on : ∀ x ∈ O.all, x ≠ n := fun x hx e => h1 (by simp [← e, hx])
  have pn : ∀ x ∈ P.all, x ≠ n := fun x hx e => h1 (by simp [← e, hx])
  have qn : ∀ x ∈ Q.all, x ≠ n := fun x hx e => h1 (by simp [← e, hx])
  have ok : ∀ x ∈ O.all, x ≠ kk := fun x hx e => h3 (by simp [← e, hx])
  have pk : ∀ x ∈ P.all, x ≠ kk := fun x hx e => h3 (by simp [← e, hx])
  have qk : ∀ x ∈ Q.all, x ≠ kk := fun x hx e => h3 (by simp [← e, hx])
  have oq : ∀ x ∈ O.all, ∀ y ∈ Q.all, x ≠ y := fun x hx y hy => h7 x hx y (List.mem_append_right _ hy)
  have pq : ∀ x ∈ P.all, ∀ y ∈ Q.all, x ≠ y := h10
  have cn : ∀ x ∈ c.all, x ≠ n := fun x hx e => hdj n (by simp) x hx e.symm
  have ck : ∀ x ∈ c.all, x ≠ kk := fun x hx e => hdj kk (by simp) x hx e.symm
  have co : ∀ x ∈ c.all, ∀ y ∈ O.all, x ≠ y := fun x hx y hy e => hdj y (by simp [hy]) x hx e.symm
  have cp : ∀ x ∈ c.all, ∀ y ∈ P.all, x ≠ y := fun x hx y hy e => hdj y (by simp [hy]) x hx e.symm
  have cq : ∀ x ∈ c.all, ∀ y ∈ Q.all, x ≠ y := fun x hx y hy e => hdj y (by simp [hy]) x hx e.symm
  have hup : M n 6 = c.up := hc.up
  have cup : ∀ x : Nat, 0 ≤ M n 6 → x = (M n 6).toNat → x ∈ c.all := fun x h0 e => by
    rw [hup] at h0 e
    cases c with
    | top => simp [Cx.up] at h0
    | lft k c r => simp [Cx.up] at e; simp [Cx.all, e]
    | rgt k l c => simp [Cx.up] at e; simp [Cx.all, e]
  have rowO : ∀ x ∈ O.all, ∀ j, turnM M n kk O.ix P.ix Q.ix x j = M x j := fun x hx j => turn_row (on x hx) (ok x hx) (fun e => absurd e (oq x hx _ Q.ix_mem)) (fun h0 e => absurd rfl (co x (cup x h0 e) x hx))
  have rowP : ∀ x ∈ P.all, ∀ j, turnM M n kk O.ix P.ix Q.ix x j = M x j := fun x hx j => turn_row (pn x hx) (pk x hx) (fun e => absurd e (pq x hx _ Q.ix_mem)) (fun h0 e => absurd rfl (cp x (cup x h0 e) x hx))
  have rowQ : ∀ x ∈ Q.all, ∀ j, (x = Q.ix → j ≠ 6) → turnM M n kk O.ix P.ix Q.ix x j = M x j := fun x hx j hj => turn_row (qn x hx) (qk x hx) hj (fun h0 e => absurd rfl (cq x (cup x h0 e) x hx))
  obtain ⟨tn6, tn7, tn8⟩ := turn_n (M := M) (o := O.ix) (p := P.ix) (q := Q.ix) nk
  obtain ⟨tk6, tk7, tk8⟩ := turn_k (M := M) (o := O.ix) (p := P.ix) (Ne.symm nk) (fun e => qk _ Q.ix_mem e.symm)
  have q6 : turnM M n kk O.ix P.ix Q.ix Q.ix 6 = n := by
    unfold turnM
    rw [fitM_row (qn _ Q.ix_mem)]
    simp [put1, qn _ Q.ix_mem, qk _ Q.ix_mem]
  have hO' : Rep (turnM M n kk O.ix P.ix Q.ix) n O := hO.same h5 rowO
  have hQ' : Rep (turnM M n kk O.ix P.ix Q.ix) n Q := hQ.move h9 (fun x hx j hj => rowQ x hx j (fun _ => hj)) (fun x hx hne => rowQ x hx 6 (fun e => absurd e hne)) q6
  have hf : Fit (turnM M n kk O.ix P.ix Q.ix) n O.ix Q.ix := by
    unfold turnM
    refine fitM_fit ?_ ?_ (on _ O.ix_mem) (qn _ Q.ix_mem)
    · simp [put1, nk]
    · simp [put1, nk]
  have rowc : ∀ x ∈ c.all, ∀ j, (0 ≤ M n 6 → x = (M n 6).toNat → j ≠ 7 ∧ j ≠ 8) → turnM M n kk O.ix P.ix Q.ix x j = M x j := fun x hx j hj => turn_row (cn x hx) (ck x hx) (fun e => absurd e (cq x hx _ Q.ix_mem)) hj
  refine ⟨tk7, tk8, hP.same h8 rowP, ⟨tn6, tn7, tn8, hf, hO', hQ'⟩, ?_⟩
  cases c with
  | top =>
    obtain ⟨c1, c2⟩ := hc
    refine ⟨by rw [tk6]; exact c1, ?_⟩
    rw [c1]
    rfl
  | lft k c r =>
    obtain ⟨c1, c2, c3, c4, c5⟩ := hc
    have hn' := List.nodup_cons.1 hca
    have hap := List.nodup_append.1 hn'.2
    have hkm : k ∈ (Cx.lft k c r).all := by simp [Cx.all]
    have er : hangR root (M n 6) kk = root := by rw [c1]; unfold hangR; rw [if_neg (by omega)]
    have hk0 : ¬ ((k : Int) < 0) := by omega
    rw [er]
    refine ⟨by rw [tk6]; exact c1, ?_, ?_, c4.same hap.1 (fun x hx j => rowc x (by simp [Cx.all, hx]) j (fun _ e => ?_)), c5.same hap.2.1 (fun x hx j => rowc x (by simp [Cx.all, hx]) j (fun _ e => ?_)) (rowc k hkm 6 (fun _ _ => by omega))⟩
    · unfold turnM
      rw [fitM_row (cn k hkm)]
      simp [put1, cn k hkm, ck k hkm, cq k hkm _ Q.ix_mem, hangM, c1, c2, hk0]
    · unfold turnM
      rw [fitM_row (cn k hkm)]
      simp [put1, cn k hkm, ck k hkm, cq k hkm _ Q.ix_mem, hangM, c1, c2, c3, hk0]
    · rw [c1, Int.toNat_natCast] at e
      exact absurd (List.mem_append_left _ (e ▸ hx)) hn'.1
    · rw [c1, Int.toNat_natCast] at e
      exact absurd (List.mem_append_right _ (e ▸ hx)) hn'.1
  | rgt k l c =>
    obtain ⟨c1, c2, c3, c4, c5⟩ := hc
    have hn' := List.nodup_cons.1 hca
    have hap := List.nodup_append.1 hn'.2
    have hkm : k ∈ (Cx.rgt k l c).all := by simp [Cx.all]
    have hlm : l.ix ∈ (Cx.rgt k l c).all := by simp [Cx.all, l.ix_mem]
    have er : hangR root (M n 6) kk = root := by rw [c1]; unfold hangR; rw [if_neg (by omega)]
    have hln : ¬ ((l.ix : Int) = n) := fun e => cn _ hlm (by omega)
    have hk0 : ¬ ((k : Int) < 0) := by omega
    rw [er]
    refine ⟨by rw [tk6]; exact c1, ?_, ?_, c4.same hap.1 (fun x hx j => rowc x (by simp [Cx.all, hx]) j (fun _ e => ?_)), c5.same hap.2.1 (fun x hx j => rowc x (by simp [Cx.all, hx]) j (fun _ e => ?_)) (rowc k hkm 6 (fun _ _ => by omega))⟩
    · unfold turnM
      rw [fitM_row (cn k hkm)]
      simp [put1, cn k hkm, ck k hkm, cq k hkm _ Q.ix_mem, hangM, c1, c2, hk0, hln]
    · unfold turnM
      rw [fitM_row (cn k hkm)]
      simp [put1, cn k hkm, ck k hkm, cq k hkm _ Q.ix_mem, hangM, c1, c2, hk0, hln]
    · rw [c1, Int.toNat_natCast] at e
      exact absurd (List.mem_append_left _ (e ▸ hx)) hn'.1
    · rw [c1, Int.toNat_natCast] at e
      exact absurd (List.mem_append_right _ (e ▸ hx)) hn'.1
theorem Rep.kids {M : Nat → Nat → Int} {up : Int} {T : Tr} (h : Rep M up T) (h0 : 0 < M T.ix 10) : ∃ k A B, T = .nd k A B := by
  cases T with
  | lf k => rw [show (Tr.lf k).ix = k from rfl, h.2.2] at h0; omega
  | nd k l r => exact ⟨k, l, r, rfl⟩
/-- which trees a turn makes -/
structure Turned (M : Nat → Nat → Int) (l r : Tr) (kk : Nat) (O P Q : Tr) : Prop where
  kid : ∃ A B, (l = .nd kk A B ∧ r = O ∨ r = .nd kk A B ∧ l = O) ∧ (A = P ∧ B = Q ∨ A = Q ∧ B = P)
  low : M O.ix 10 + 1 < M kk 10
  two : M Q.ix 10 ≤ M P.ix 10
/-- a node that is to be turned: its higher kid, that one's kids -/
theorem mend_yes {M : Nat → Nat → Int} {n : Nat} {l r : Tr} (hl : Rep M n l) (hr : Rep M n r) (hrot : ¬ M (kidM M l.ix r.ix) 10 ≤ M (othM M l.ix r.ix) 10 + 1) :
    ∃ (kk : Nat) (A B O P Q : Tr), kidM M l.ix r.ix = kk ∧ othM M l.ix r.ix = O.ix ∧ M kk 7 = (A.ix : Int) ∧ M kk 8 = (B.ix : Int) ∧ kidM M A.ix B.ix = P.ix ∧ othM M A.ix B.ix = Q.ix ∧ Rep M n O ∧ Rep M kk P ∧ Rep M kk Q ∧ (kk :: (O.all ++ (P.all ++ Q.all))).Perm (l.all ++ r.all) ∧ (O.lvs ++ (P.lvs ++ Q.lvs)).Perm (l.lvs ++ r.lvs) ∧ A.ix ∈ (P.all ++ Q.all) ∧ B.ix ∈ (P.all ++ Q.all) ∧ Turned M l r kk O P Q := by
  have key : ∀ (K O : Tr), Rep M n K → Rep M n O → kidM M l.ix r.ix = K.ix → othM M l.ix r.ix = O.ix → (K.all ++ O.all).Perm (l.all ++ r.all) → (K.lvs ++ O.lvs).Perm (l.lvs ++ r.lvs) → (l = K ∧ r = O ∨ r = K ∧ l = O) → ∃ (kk : Nat) (A B O P Q : Tr), kidM M l.ix r.ix = kk ∧ othM M l.ix r.ix = O.ix ∧ M kk 7 = (A.ix : Int) ∧ M kk 8 = (B.ix : Int) ∧ kidM M A.ix B.ix = P.ix ∧ othM M A.ix B.ix = Q.ix ∧ Rep M n O ∧ Rep M kk P ∧ Rep M kk Q ∧ (kk :: (O.all ++ (P.all ++ Q.all))).Perm (l.all ++ r.all) ∧ (O.lvs ++ (P.lvs ++ Q.lvs)).Perm (l.lvs ++ r.lvs) ∧ A.ix ∈ (P.all ++ Q.all) ∧ B.ix ∈ (P.all ++ Q.all) ∧ Turned M l r kk O P Q := by
    intro K O hK hO ek eo pa pl hko
    rw [ek, eo] at hrot
    have h0 := hO.height.1
    obtain ⟨kk, A, B, rfl⟩ := hK.kids (by omega)
    obtain ⟨k6, k7, k8, kf, kA, kB⟩ := hK
    by_cases hab : M A.ix 10 < M B.ix 10
    · refine ⟨kk, A, B, O, B, A, ek, eo, k7, k8, if_pos hab, if_pos hab, hO, kB, kA, ?_, ?_, by simp [A.ix_mem], by simp [B.ix_mem], ⟨A, B, hko, .inr ⟨rfl, rfl⟩⟩, Int.not_le.1 hrot, Int.le_of_lt hab⟩
      · refine List.Perm.trans ?_ pa
        simp only [Tr.all, List.cons_append]
        refine List.Perm.cons kk ?_
        exact (List.perm_append_comm).trans (List.Perm.append_right _ List.perm_append_comm)
      · refine List.Perm.trans ?_ pl
        simp only [Tr.lvs]
        exact (List.perm_append_comm).trans (List.Perm.append_right _ List.perm_append_comm)
    · refine ⟨kk, A, B, O, A, B, ek, eo, k7, k8, if_neg hab, if_neg hab, hO, kA, kB, ?_, ?_, by simp [A.ix_mem], by simp [B.ix_mem], ⟨A, B, hko, .inl ⟨rfl, rfl⟩⟩, Int.not_le.1 hrot, Int.not_lt.1 hab⟩
      · refine List.Perm.trans ?_ pa
        simp only [Tr.all, List.cons_append]
        exact List.Perm.cons kk List.perm_append_comm
      · refine List.Perm.trans ?_ pl
        simp only [Tr.lvs]
        exact List.perm_append_comm
  by_cases hlr : M l.ix 10 < M r.ix 10
  · exact key r l hr hl (if_pos hlr) (if_pos hlr) List.perm_append_comm List.perm_append_comm (.inr ⟨rfl, rfl⟩)
  · exact key l r hl hr (if_neg hlr) (if_neg hlr) (List.Perm.refl _) (List.Perm.refl _) (.inl ⟨rfl, rfl⟩)
theorem Cx.lvs_sub : ∀ (c : Cx), ∀ k ∈ c.lvs, k ∈ c.all := by
  intro c
  induction c with
  | top => intro k h; cases h
  | lft k c r ih =>
    intro x hx
    rcases List.mem_append.1 hx with h | h
    · simp [Cx.all, r.lvs_sub x h]
    · simp [Cx.all, ih x h]
  | rgt k l c ih =>
    intro x hx
    rcases List.mem_append.1 hx with h | h
    · simp [Cx.all, l.lvs_sub x h]
    · simp [Cx.all, ih x h]
/-- the node above is no leaf -/
theorem Cx.up_no {c : Cx} (hn : c.all.Nodup) : ∀ x ∈ c.lvs, ¬ ((x : Int) = c.up) := by
  intro x hx e
  cases c with
  | top => cases hx
  | lft k c r =>
    have hn' := List.nodup_cons.1 hn
    have e' : x = k := by simp only [Cx.up] at e; omega
    rcases List.mem_append.1 hx with h | h
    · exact hn'.1 (e' ▸ List.mem_append_left _ (r.lvs_sub x h))
    · exact hn'.1 (e' ▸ List.mem_append_right _ (c.lvs_sub x h))
  | rgt k l c =>
    have hn' := List.nodup_cons.1 hn
    have e' : x = k := by simp only [Cx.up] at e; omega
    rcases List.mem_append.1 hx with h | h
    · exact hn'.1 (e' ▸ List.mem_append_left _ (l.lvs_sub x h))
    · exact hn'.1 (e' ▸ List.mem_append_right _ (c.lvs_sub x h))
theorem Cx.up_mem {c : Cx} {x : Nat} (h : (x : Int) = c.up) : x ∈ c.all := by
  cases c with
  | top => simp only [Cx.up] at h; omega
  | lft k c r => simp only [Cx.up] at h; have : x = k := by omega
                 simp [Cx.all, this]
  | rgt k l c => simp only [Cx.up] at h; have : x = k := by omega
                 simp [Cx.all, this]
/-- one node up -/
inductive Opens (T : Tr) : Cx → Nat → Tr → Tr → Cx → Prop where
  | lft (k : Nat) (c : Cx) (r : Tr) : Opens T (.lft k c r) k T r c
  | rgt (k : Nat) (l : Tr) (c : Cx) : Opens T (.rgt k l c) k l T c
theorem cx_open {M : Nat → Nat → Int} {root : Int} {T : Tr} {c : Cx} (hT : Rep M c.up T) (hc : RepC M root T.ix c) (h0 : 0 ≤ c.up) :
    ∃ (n : Nat) (l r : Tr) (c2 : Cx), Opens T c n l r c2 ∧ c.up = n ∧ M n 7 = (l.ix : Int) ∧ M n 8 = (r.ix : Int) ∧ Rep M n l ∧ Rep M n r ∧ RepC M root n c2 ∧ (n :: (l.all ++ r.all) ++ c2.all).Perm (T.all ++ c.all) ∧ (l.lvs ++ r.lvs ++ c2.lvs).Perm (T.lvs ++ c.lvs) ∧ c2.dep + 1 = c.dep := by
  cases c with
  | top => simp [Cx.up] at h0
  | lft k c r =>
    obtain ⟨_, c2, c3, c4, c5⟩ := hc
    refine ⟨k, T, r, c, .lft k c r, rfl, c2, c3, hT, c4, c5, ?_, ?_, rfl⟩
    · simp only [Cx.all, List.cons_append, List.append_assoc]
      exact (List.perm_middle (l₁ := T.all)).symm
    · simp only [Cx.lvs, List.append_assoc]
      exact List.Perm.refl _
  | rgt k l c =>
    obtain ⟨_, c2, c3, c4, c5⟩ := hc
    refine ⟨k, l, T, c, .rgt k l c, rfl, c2, c3, c4, hT, c5, ?_, ?_, rfl⟩
    · simp only [Cx.all, List.cons_append, List.append_assoc]
      refine List.Perm.trans ?_ (List.perm_middle (l₁ := T.all)).symm
      refine List.Perm.cons k ?_
      rw [← List.append_assoc, ← List.append_assoc]
      exact List.Perm.append_right _ List.perm_append_comm
    · simp only [Cx.lvs, List.append_assoc]
      rw [← List.append_assoc, ← List.append_assoc]
      exact List.Perm.append_right _ List.perm_append_comm
/-- what a step leaves -/
structure Kept (M M' : Nat → Nat → Int) (all lvs : List Nat) : Prop where
  out : ∀ k, k ∉ all → ∀ j, M' k j = M k j
  leaf : ∀ k ∈ lvs, ∀ j, j ≠ 6 → M' k j = M k j
theorem Kept.trans {M M' M'' : Nat → Nat → Int} {all lvs : List Nat} (h : Kept M M' all lvs) (k : Kept M' M'' all lvs) : Kept M M'' all lvs :=
  ⟨fun x hx j => (k.out x hx j).trans (h.out x hx j), fun x hx j hj => (k.leaf x hx j hj).trans (h.leaf x hx j hj)⟩
theorem fit_kept {M : Nat → Nat → Int} {all lvs : List Nat} {n : Nat} (hn : n ∈ all) (hl : n ∉ lvs) : Kept M (fitM M n) all lvs :=
  ⟨fun x hx j => fitM_row (fun e => hx (by rw [e]; exact hn)) j, fun x hx j _ => fitM_row (fun e => hl (by rw [← e]; exact hx)) j⟩
/-- nothing to turn: the node is fitted -/
theorem mstep_no {M : Nat → Nat → Int} {root : Int} {n : Nat} {l r : Tr} {c : Cx} {all lvs : List Nat} (h7 : M n 7 = (l.ix : Int)) (h8 : M n 8 = (r.ix : Int)) (hl : Rep M n l) (hr : Rep M n r) (hc : RepC M root n c) (hp : (n :: (l.all ++ r.all) ++ c.all).Perm all) (hq : (l.lvs ++ r.lvs ++ c.lvs).Perm lvs) (hnd : all.Nodup) :
    Rep (fitM M n) c.up (.nd n l r) ∧ RepC (fitM M n) root (Tr.nd n l r).ix c ∧ ((Tr.nd n l r).all ++ c.all).Perm all ∧ ((Tr.nd n l r).lvs ++ c.lvs).Perm lvs ∧ Kept M (fitM M n) all lvs := by
  have hn := hp.nodup_iff.2 hnd
  obtain ⟨h1, h2⟩ := step_no h7 h8 hl hr hc hn
  obtain ⟨hnn, hca, hdj⟩ := List.nodup_append.1 hn
  have hn1 := List.nodup_cons.1 hnn
  refine ⟨h1, h2, hp, hq, fit_kept (hp.mem_iff.1 (by simp)) (fun h => ?_)⟩
  have h3 := hq.mem_iff.2 h
  rcases List.mem_append.1 h3 with h3 | h3
  · rcases List.mem_append.1 h3 with h3 | h3
    · exact hn1.1 (List.mem_append_left _ (l.lvs_sub _ h3))
    · exact hn1.1 (List.mem_append_right _ (r.lvs_sub _ h3))
  · exact hdj n (by simp) n (c.lvs_sub _ h3) rfl
/-- a turn, and the node that is there then fitted -/
theorem mstep_yes {M : Nat → Nat → Int} {root : Int} {n kk : Nat} {O P Q : Tr} {c : Cx} {all lvs : List Nat} (hO : Rep M n O) (hP : Rep M kk P) (hQ : Rep M kk Q) (hc : RepC M root n c) (hp : (n :: kk :: (O.all ++ (P.all ++ Q.all)) ++ c.all).Perm all) (hq : (O.lvs ++ (P.lvs ++ Q.lvs) ++ c.lvs).Perm lvs) (hnd : all.Nodup) :
    Rep (fitM (turnM M n kk O.ix P.ix Q.ix) kk) c.up (.nd kk P (.nd n O Q)) ∧ RepC (fitM (turnM M n kk O.ix P.ix Q.ix) kk) (hangR root (M n 6) kk) (Tr.nd kk P (.nd n O Q)).ix c ∧ ((Tr.nd kk P (.nd n O Q)).all ++ c.all).Perm all ∧ ((Tr.nd kk P (.nd n O Q)).lvs ++ c.lvs).Perm lvs ∧ Kept M (fitM (turnM M n kk O.ix P.ix Q.ix) kk) all lvs := by
  have hn := hp.nodup_iff.2 hnd
  obtain ⟨s7, s8, sP, sN, sC⟩ := step_turn hO hP hQ hc hn
  have hp2 : (kk :: (P.all ++ (Tr.nd n O Q).all) ++ c.all).Perm all := by
    refine List.Perm.trans (List.Perm.append_right _ ?_) hp
    refine List.Perm.trans ?_ (List.Perm.swap n kk _)
    refine List.Perm.cons kk ?_
    simp only [Tr.all]
    refine List.Perm.trans List.perm_middle (List.Perm.cons n ?_)
    rw [← List.append_assoc, ← List.append_assoc]
    exact List.Perm.append_right _ List.perm_append_comm
  have hq2 : (P.lvs ++ (Tr.nd n O Q).lvs ++ c.lvs).Perm lvs := by
    refine List.Perm.trans (List.Perm.append_right _ ?_) hq
    simp only [Tr.lvs]
    rw [← List.append_assoc, ← List.append_assoc]
    exact List.Perm.append_right _ List.perm_append_comm
  obtain ⟨f1, f2, f3, f4, f5⟩ := mstep_no s7 s8 sP sN sC hp2 hq2 hnd
  obtain ⟨hnn, hca, hdj⟩ := List.nodup_append.1 hn
  obtain ⟨h1, h2⟩ := List.nodup_cons.1 hnn
  obtain ⟨h3, h4⟩ := List.nodup_cons.1 h2
  have hup : M n 6 = c.up := hc.up
  refine ⟨f1, f2, f3, f4, Kept.trans ⟨fun x hx j => turn_row (fun e => hx (e ▸ hp.mem_iff.1 (by simp))) (fun e => hx (e ▸ hp.mem_iff.1 (by simp))) (fun e => absurd (e ▸ hp.mem_iff.1 (by simp [Q.ix_mem])) hx) (fun h0 e => absurd (hp.mem_iff.1 (List.mem_append_right _ (Cx.up_mem (x := x) (by omega)))) hx), fun x hx j hj => ?_⟩ f5⟩
  have hx' := hq.mem_iff.2 hx
  have hin : x ∈ O.all ++ (P.all ++ Q.all) ∨ x ∈ c.lvs := by
    rcases List.mem_append.1 hx' with h | h
    · left
      rcases List.mem_append.1 h with h | h
      · simp [O.lvs_sub x h]
      · rcases List.mem_append.1 h with h | h
        · simp [P.lvs_sub x h]
        · simp [Q.lvs_sub x h]
    · exact .inr h
  refine turn_row (fun e => ?_) (fun e => ?_) (fun _ => hj) (fun h0 e => ?_)
  · rcases hin with h | h
    · exact h1 (e ▸ List.mem_cons_of_mem _ h)
    · exact hdj n (by simp) x (c.lvs_sub x h) e.symm
  · rcases hin with h | h
    · exact h3 (e ▸ h)
    · exact hdj kk (by simp) x (c.lvs_sub x h) e.symm
  · have hxu : (x : Int) = c.up := by omega
    rcases hin with h | h
    · exact absurd rfl (hdj x (List.mem_cons_of_mem _ (List.mem_cons_of_mem _ h)) x (Cx.up_mem hxu))
    · exact absurd hxu (Cx.up_no hca x h)
/-- what mend does with trees -/
inductive Mends (T0 : Tr) (c0 : Cx) : Tr → Cx → Prop where
  | at0 : Mends T0 c0 T0 c0
  | no (T : Tr) (c : Cx) (n : Nat) (l r : Tr) (c2 : Cx) (M : Nat → Nat → Int) : Mends T0 c0 T c → Opens T c n l r c2 → Rep M n l → Rep M n r → M (kidM M l.ix r.ix) 10 ≤ M (othM M l.ix r.ix) 10 + 1 → Mends T0 c0 (.nd n l r) c2
  | yes (T : Tr) (c : Cx) (n : Nat) (l r : Tr) (c2 : Cx) (M : Nat → Nat → Int) (kk : Nat) (O P Q : Tr) : Mends T0 c0 T c → Opens T c n l r c2 → Rep M n l → Rep M n r → Turned M l r kk O P Q → Mends T0 c0 (.nd kk P (.nd n O Q)) c2
theorem Rep.heights {M : Nat → Nat → Int} : ∀ {T : Tr} {up : Int}, Rep M up T → ∀ k ∈ T.all, 0 ≤ M k 10 ∧ M k 10 < T.all.length := by
  intro T
  induction T with
  | lf k =>
    intro up h x hx
    have e : x = k := by simpa [Tr.all] using hx
    subst e
    exact h.height
  | nd k l r hl hr =>
    intro up h x hx
    rcases List.mem_cons.1 hx with rfl | hx
    · exact h.height
    · obtain ⟨_, _, _, _, h1, h2⟩ := h
      simp only [Tr.all, List.length_cons, List.length_append]
      rcases List.mem_append.1 hx with hx | hx
      · have := hl h1 x hx
        omega
      · have := hr h2 x hx
        omega
/-- heights stay small -/
theorem high_kept {M M' : Nat → Nat → Int} {up : Int} {T : Tr} {c : Cx} {all : List Nat} {nn : Nat} (hT : Rep M' up T) (hp : (T.all ++ c.all).Perm all) (hl : all.length ≤ 1000000) (ho : ∀ x, x ∉ T.all → M' x 10 = M x 10) (hh : ∀ k, k < nn → 0 ≤ M k 10 ∧ M k 10 ≤ 1000000) :
    ∀ k, k < nn → 0 ≤ M' k 10 ∧ M' k 10 ≤ 1000000 := by
  intro k hk
  by_cases h : k ∈ T.all
  · have h1 := hT.heights k h
    have h2 := hp.length_eq
    rw [List.length_append] at h2
    omega
  · rw [ho k h]
    exact hh k hk
end Go.Proofs.YtefhmbmbhiehdaaDoor
