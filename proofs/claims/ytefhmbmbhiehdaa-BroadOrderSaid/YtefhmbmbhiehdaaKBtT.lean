/- broad.Tree as a whole, in plain Lean: what a leaf put in, or taken out, leaves; which bodies meet a box. Conditions: none. -/
import Derived.Test.YtefhmbmbhiehdaaKBtA
import Derived.Test.YtefhmbmbhiehdaaKIseeP
namespace Go.Proofs.Ytefhmbmbhiehdaa
def oall : Option Tr → List Nat
  | none => []
  | some T => T.all
/-- the nodes make a tree (or none), whose leaves are the bodies' -/
structure Tre (som : Bool) (root : Int) (nn : Nat) (M : Nat → Nat → Int) (F : List Nat) (n : Nat) (f : Int → Option Nat) (o : Option Tr) : Prop where
  nd : (oall o ++ F).Nodup
  lt : ∀ x ∈ oall o ++ F, x < nn
  high : ∀ x, x < nn → 0 ≤ M x 10 ∧ M x 10 ≤ 1000000
  none_ : o = none → som = false ∧ (∀ id, f id = none) ∧ n = 0
  some_ : ∀ T, o = some T → som = true ∧ root = T.ix ∧ Rep M (-1) T ∧ T.bal ∧ (∀ id k, f id = some k ↔ k ∈ T.lvs ∧ M k 9 = id) ∧ T.lvs.length = n
theorem nodup_bound : ∀ {n : Nat} {l : List Nat}, l.Nodup → (∀ x ∈ l, x < n) → l.length ≤ n := by
  intro n
  induction n with
  | zero =>
    intro l h hl
    cases l with
    | nil => exact Nat.le_refl 0
    | cons a l => exact absurd (hl a (by simp)) (by omega)
  | succ n ih =>
    intro l h hl
    have h1 := ih (l := l.erase n) (h.erase n) (fun x hx => by
      have h2 := hl x (List.mem_of_mem_erase hx)
      have h3 : x ≠ n := (h.mem_erase_iff.1 hx).1
      omega)
    have h4 : l.length ≤ (l.erase n).length + 1 := by rw [List.length_erase]; split <;> omega
    omega
theorem lvs_nodup : ∀ T : Tr, T.all.Nodup → T.lvs.Nodup := by
  intro T
  induction T with
  | lf k => intro _; simp [Tr.lvs]
  | nd k l r hl hr =>
    intro h
    obtain ⟨h1, h2, h3⟩ := List.nodup_append.1 (List.nodup_cons.1 h).2
    exact List.nodup_append.2 ⟨hl h1, hr h2, fun x hx y hy => h3 x (l.lvs_sub x hx) y (r.lvs_sub y hy)⟩
/-- a new node is one that was free, or the next one -/
def NodeWay (F : List Nat) (nn : Nat) (i : Nat) (F' : List Nat) (nn' : Nat) : Prop := (F = [] ∧ F' = [] ∧ i = nn ∧ nn' = nn + 1) ∨ (F = F' ++ [i] ∧ nn' = nn)
theorem NodeWay.facts {F F' : List Nat} {nn nn' i : Nat} (h : NodeWay F nn i F' nn') {A : List Nat} (hn : (A ++ F).Nodup) (hl : ∀ x ∈ A ++ F, x < nn) :
    (A ++ i :: F').Nodup ∧ (∀ x ∈ A ++ i :: F', x < nn') ∧ nn ≤ nn' ∧ nn' ≤ nn + 1 ∧ i < nn' ∧ (∀ x, x < nn' → x ≠ i → x < nn) := by
  rcases h with ⟨rfl, rfl, rfl, rfl⟩ | ⟨rfl, rfl⟩
  · rw [List.append_nil] at hn hl
    refine ⟨?_, fun x hx => ?_, by omega, by omega, by omega, fun x _ _ => by omega⟩
    · refine List.nodup_append.2 ⟨hn, by simp, fun x hx y hy e => ?_⟩
      have e2 : y = i := by simpa using hy
      have := hl x hx
      omega
    · rcases List.mem_append.1 hx with h | h
      · have := hl x h; omega
      · have e2 : x = i := by simpa using h
        omega
  · have hp : (A ++ (F' ++ [i])).Perm (A ++ i :: F') := List.Perm.append_left A (List.perm_append_comm (l₁ := F') (l₂ := [i]))
    refine ⟨hp.nodup_iff.1 hn, fun x hx => hl x (hp.mem_iff.2 hx), by omega, by omega, hl i (by simp), fun x hx _ => hx⟩
/-- the first leaf -/
theorem Tre.in_top {root : Int} {nn nn' k : Nat} {M : Nat → Nat → Int} {F F' : List Nat} {n n' : Nat} {f : Int → Option Nat} {som : Bool} {x : Nat → Int} {id : Int} (h : Tre som root nn M F n f none) (hw : NodeWay F nn k F' nn') (x7 : x 7 = -1) (x9 : x 9 = id) (x10 : x 10 = 0) (hn' : n' = n + 1) :
    Tre true k nn' (put1 (setRow M k x) k 6 (-1)) F' n' (fun y => if y = id then some k else f y) (some (.lf k)) := by
  obtain ⟨a1, a2, a3, a4, a5, a6⟩ := hw.facts (A := []) h.nd h.lt
  obtain ⟨_, hf, h0⟩ := h.none_ rfl
  have ek : ∀ j, j ≠ 6 → put1 (setRow M k x) k 6 (-1) k j = x j := fun j hj => by
    unfold put1 setRow
    rw [if_neg (fun h => hj h.2), if_pos rfl]
  refine ⟨a1, a2, fun y hy => ?_, fun e => (by cases e), fun T e => ?_⟩
  · by_cases e : y = k
    · subst e
      rw [ek 10 (by omega), x10]
      omega
    · have : put1 (setRow M k x) k 6 (-1) y 10 = M y 10 := by
        unfold put1 setRow
        rw [if_neg (fun h => e h.1), if_neg e]
      rw [this]
      exact h.high y (a6 y hy e)
  · cases e
    refine ⟨rfl, rfl, ⟨by simp [put1], by rw [ek 7 (by omega), x7], by rw [ek 10 (by omega), x10]⟩, trivial, fun id' k' => ?_, by rw [hn', h0]; rfl⟩
    have em : k' ∈ (Tr.lf k).lvs ↔ k' = k := by simp [Tr.lvs]
    rw [em]
    by_cases e : id' = id
    · rw [if_pos e]
      constructor
      · intro e2
        have e3 : k = k' := Option.some.inj e2
        subst e3
        exact ⟨rfl, by rw [ek 9 (by omega), x9, e]⟩
      · rintro ⟨e2, _⟩
        rw [e2]
    · rw [if_neg e, hf]
      constructor
      · intro e2; cases e2
      · rintro ⟨e2, e3⟩
        subst e2
        rw [ek 9 (by omega), x9] at e3
        exact absurd e3.symm e
/-- one leaf more -/
theorem Tre.in_up {root : Int} {nn nn1 nn2 k i : Nat} {M M' : Nat → Nat → Int} {F F1 F2 : List Nat} {n n' : Nat} {f : Int → Option Nat} {som : Bool} {x : Nat → Int} {id : Int} {T T' : Tr} (h : Tre som root nn M F n f (some T)) (hw : NodeWay F nn k F1 nn1) (hw2 : NodeWay F1 nn1 i F2 nn2) (x9 : x 9 = id) (hf : f id = none) (hn' : n' = n + 1)
    (hR : Rep M' (-1) T') (hb : T'.bal) (ha : T'.all.Perm (i :: k :: T.all)) (hl : T'.lvs.Perm (k :: T.lvs)) (hK : Kept (setRow M k x) M' (i :: k :: T.all) (k :: T.lvs)) (hh : ∀ y, y < nn2 → 0 ≤ M' y 10 ∧ M' y 10 ≤ 1000000) :
    Tre true T'.ix nn2 M' F2 n' (fun y => if y = id then some k else f y) (some T') := by
  obtain ⟨a1, a2, a3, a4, a5, a6⟩ := hw.facts h.nd h.lt
  have b0 : (T.all ++ k :: F1).Perm ((k :: T.all) ++ F1) := List.perm_middle
  obtain ⟨b1, b2, b3, b4, b5, b6⟩ := hw2.facts (A := k :: T.all) (b0.nodup_iff.1 a1) (fun y hy => a2 y (b0.mem_iff.2 hy))
  have c0 : ((k :: T.all) ++ i :: F2).Perm (T'.all ++ F2) := List.perm_middle.trans (List.Perm.append_right F2 ha.symm)
  obtain ⟨_, _, _, _, hid, hlen⟩ := h.some_ T rfl
  have hkT : k ∉ T.all := by
    have := (b0.nodup_iff.1 a1)
    rw [List.cons_append] at this
    exact fun hm => (List.nodup_cons.1 this).1 (List.mem_append_left _ hm)
  refine ⟨c0.nodup_iff.1 b1, fun y hy => b2 y (c0.mem_iff.2 hy), hh, fun e => by (cases e), fun T'' e => ?_⟩
  cases e
  refine ⟨rfl, rfl, hR, hb, fun id' k' => ?_, by rw [hl.length_eq, List.length_cons, hlen, hn']⟩
  rw [hl.mem_iff, List.mem_cons]
  have ek : M' k 9 = id := by rw [hK.leaf k (by simp) 9 (by omega)]; simp [setRow, x9]
  have eo : ∀ y ∈ T.lvs, M' y 9 = M y 9 := fun y hy => by
    rw [hK.leaf y (by simp [hy]) 9 (by omega)]
    unfold setRow
    rw [if_neg (fun e : y = k => hkT (e ▸ T.lvs_sub y hy))]
  by_cases e : id' = id
  · rw [if_pos e]
    constructor
    · intro e2
      have e3 : k = k' := Option.some.inj e2
      subst e3
      exact ⟨.inl rfl, by rw [ek, e]⟩
    · rintro ⟨e2 | e2, e3⟩
      · rw [e2]
      · rw [eo k' e2] at e3
        have := (hid id' k').2 ⟨e2, e3⟩
        rw [e, hf] at this
        cases this
  · rw [if_neg e, hid]
    constructor
    · rintro ⟨e2, e3⟩
      exact ⟨.inr e2, by rw [eo k' e2, e3]⟩
    · rintro ⟨e2 | e2, e3⟩
      · subst e2
        rw [ek] at e3
        exact absurd e3.symm e
      · exact ⟨e2, by rw [← eo k' e2]; exact e3⟩
/-- the last leaf taken out -/
theorem Tre.out_top {root root' : Int} {nn k : Nat} {M : Nat → Nat → Int} {F : List Nat} {n : Nat} {f : Int → Option Nat} {som : Bool} {id : Int} (h : Tre som root nn M F n f (some (.lf k))) (hf : f id = some k) :
    Tre false root' nn M (F ++ [k]) (n - 1) (fun y => if y = id then none else f y) none := by
  obtain ⟨_, _, _, _, hid, hlen⟩ := h.some_ _ rfl
  have hp : (oall none ++ (F ++ [k])).Perm (oall (some (.lf k)) ++ F) := List.perm_append_comm (l₁ := F) (l₂ := [k])
  have hk9 := ((hid id k).1 hf).2
  refine ⟨hp.nodup_iff.2 h.nd, fun x hx => h.lt x (hp.mem_iff.1 hx), h.high, fun _ => ⟨rfl, fun id' => ?_, by rw [← hlen]; rfl⟩, fun T e => (by cases e)⟩
  by_cases e : id' = id
  · rw [if_pos e]
  · rw [if_neg e]
    cases hq : f id' with
    | none => rfl
    | some k' =>
      obtain ⟨h1, h2⟩ := (hid id' k').1 hq
      have e2 : k' = k := by simpa [Tr.lvs] using h1
      subst e2
      exact absurd (h2.symm.trans hk9) e
/-- one leaf less -/
theorem Tre.out_up {root : Int} {nn k U : Nat} {M M' : Nat → Nat → Int} {F : List Nat} {n : Nat} {f : Int → Option Nat} {som : Bool} {id : Int} {T T' : Tr} {all lvs : List Nat} (h : Tre som root nn M F n f (some T)) (hf : f id = some k) (hp : (k :: U :: all).Perm T.all) (hq : (k :: lvs).Perm T.lvs)
    (hR : Rep M' (-1) T') (hb : T'.bal) (ha : T'.all.Perm all) (hl : T'.lvs.Perm lvs) (hK : Kept M M' all lvs) (hh : ∀ y, y < nn → 0 ≤ M' y 10 ∧ M' y 10 ≤ 1000000) :
    Tre true T'.ix nn M' (F ++ [k] ++ [U]) (n - 1) (fun y => if y = id then none else f y) (some T') := by
  obtain ⟨_, _, _, _, hid, hlen⟩ := h.some_ _ rfl
  have hk9 := ((hid id k).1 hf).2
  have hpp : (T'.all ++ (F ++ [k] ++ [U])).Perm (T.all ++ F) := by
    refine List.Perm.trans ?_ (List.Perm.append_right F hp)
    refine List.Perm.trans (List.Perm.append_right _ ha) ?_
    have e : all ++ (F ++ [k] ++ [U]) = (all ++ F) ++ [k, U] := by simp
    rw [e]
    exact List.perm_append_comm.trans (List.Perm.refl _)
  have hlT : k ∉ lvs := by
    have : T.lvs.Nodup := by
      have hn := (List.nodup_append.1 h.nd).1
      have hn : T.all.Nodup := hn
      exact lvs_nodup T hn
    exact (List.nodup_cons.1 (hq.nodup_iff.2 this)).1
  refine ⟨hpp.nodup_iff.2 h.nd, fun x hx => h.lt x (hpp.mem_iff.1 hx), hh, fun e => by (cases e), fun T'' e => ?_⟩
  cases e
  refine ⟨rfl, rfl, hR, hb, fun id' k' => ?_, by rw [hl.length_eq, ← hlen, ← hq.length_eq]; rfl⟩
  rw [hl.mem_iff]
  by_cases e : id' = id
  · rw [if_pos e]
    constructor
    · intro e2; cases e2
    · rintro ⟨e2, e3⟩
      rw [hK.leaf k' e2 9 (by omega)] at e3
      have := (hid id' k').2 ⟨hq.mem_iff.1 (List.mem_cons_of_mem _ e2), e3⟩
      rw [e, hf] at this
      exact absurd e2 (fun h => hlT (by rw [Option.some.inj this]; exact h))
  · rw [if_neg e, hid, ← hq.mem_iff, List.mem_cons]
    constructor
    · rintro ⟨e2 | e2, e3⟩
      · subst e2
        exact absurd (e3.symm.trans hk9) e
      · exact ⟨e2, by rw [hK.leaf k' e2 9 (by omega), e3]⟩
    · rintro ⟨e2, e3⟩
      exact ⟨.inr e2, by rw [← hK.leaf k' e2 9 (by omega)]; exact e3⟩
/-- a node's box -/
def nodeBx (M : Nat → Nat → Int) (k : Nat) : Bx := ⟨M k 0, M k 1, M k 2, M k 3, M k 4, M k 5⟩
/-- a box lies in another one -/
def inX (b c : Bx) : Prop := c.a1 ≤ b.a1 ∧ c.a2 ≤ b.a2 ∧ c.a3 ≤ b.a3 ∧ b.b1 ≤ c.b1 ∧ b.b2 ≤ c.b2 ∧ b.b3 ≤ c.b3
theorem inX_meet {b c q : Bx} (h : inX b c) (hm : meetX b q = true) : meetX c q = true := by
  unfold meetX at hm ⊢
  simp only [Bool.and_eq_true, decide_eq_true_eq] at hm ⊢
  obtain ⟨h1, h2, h3, h4, h5, h6⟩ := h
  obtain ⟨⟨⟨⟨⟨m1, m2⟩, m3⟩, m4⟩, m5⟩, m6⟩ := hm
  refine ⟨⟨⟨⟨⟨?_, ?_⟩, ?_⟩, ?_⟩, ?_⟩, ?_⟩ <;> omega
theorem Rep.inX {M : Nat → Nat → Int} {T : Tr} {up : Int} (h : Rep M up T) {k : Nat} (hk : k ∈ T.lvs) {b : Bx} (hb : inX b (nodeBx M k)) : inX b (nodeBx M T.ix) := by
  obtain ⟨lo, hi⟩ := h.around k hk
  obtain ⟨h1, h2, h3, h4, h5, h6⟩ := hb
  have := lo 0 (by omega)
  have := lo 1 (by omega)
  have := lo 2 (by omega)
  have := hi 3 (by omega) (by omega)
  have := hi 4 (by omega) (by omega)
  have := hi 5 (by omega) (by omega)
  simp only [nodeBx] at h1 h2 h3 h4 h5 h6
  refine ⟨?_, ?_, ?_, ?_, ?_, ?_⟩ <;> simp only [nodeBx] <;> omega
/-- is the body's box one that meets this one -/
def meetD (D : Int → Option Bx) (q : Bx) (id : Int) : Bool := match D id with | none => false | some b => meetX b q
theorem meetD_iff {D : Int → Option Bx} {q : Bx} {id : Int} : meetD D q id = true ↔ ∃ b, D id = some b ∧ meetX b q = true := by
  unfold meetD
  cases D id with
  | none => simp
  | some b => simp
/-- a tree's bodies whose boxes meet this one -/
def qOf (M : Nat → Nat → Int) (D : Int → Option Bx) (q : Bx) (T : Tr) : List Int := (T.lvs.filter fun k => meetD D q (M k 9)).map fun k => M k 9
theorem qOf_nd (M : Nat → Nat → Int) (D : Int → Option Bx) (q : Bx) (k : Nat) (l r : Tr) : qOf M D q (.nd k l r) = qOf M D q l ++ qOf M D q r := by simp [qOf, Tr.lvs]
theorem qOf_lf (M : Nat → Nat → Int) (D : Int → Option Bx) (q : Bx) (k : Nat) : qOf M D q (.lf k) = if meetD D q (M k 9) then [M k 9] else [] := by
  unfold qOf
  cases h : meetD D q (M k 9) <;> simp [Tr.lvs, h]
theorem qOf_none {M : Nat → Nat → Int} {D : Int → Option Bx} {q : Bx} {T : Tr} {up : Int} (h : Rep M up T) (hb : ∀ k ∈ T.lvs, ∀ b, D (M k 9) = some b → inX b (nodeBx M k)) (hm : meetX (nodeBx M T.ix) q = false) : qOf M D q T = [] := by
  unfold qOf
  rw [List.filter_eq_nil_iff.2, List.map_nil]
  intro k hk e
  obtain ⟨b, e1, e2⟩ := meetD_iff.1 e
  have := inX_meet (h.inX hk (hb k hk b e1)) e2
  rw [hm] at this
  cases this
/-- the leaves' boxes are around the bodies' -/
structure Bxs (M : Nat → Nat → Int) (f : Int → Option Nat) (D : Int → Option Bx) : Prop where
  same : ∀ id, (f id).isSome = (D id).isSome
  ins : ∀ id k b, f id = some k → D id = some b → inX b (nodeBx M k)
theorem qOf_all {som : Bool} {root : Int} {nn : Nat} {M : Nat → Nat → Int} {F : List Nat} {n : Nat} {f : Int → Option Nat} {T : Tr} {D : Int → Option Bx} {q : Bx} (h : Tre som root nn M F n f (some T)) (hB : Bxs M f D) :
    (qOf M D q T).Nodup ∧ (qOf M D q T).length ≤ n ∧ ∀ x, x ∈ qOf M D q T ↔ ∃ b, D x = some b ∧ meetX b q = true := by
  obtain ⟨_, _, _, _, hid, hlen⟩ := h.some_ _ rfl
  have hnd : T.lvs.Nodup := lvs_nodup T (List.nodup_append.1 h.nd).1
  refine ⟨?_, ?_, fun x => ?_⟩
  · unfold qOf
    refine List.pairwise_map.2 (List.Pairwise.filter _ (List.Pairwise.imp_of_mem ?_ hnd))
    intro a b ha hb hne e
    have e1 := (hid (M a 9) a).2 ⟨ha, rfl⟩
    have e2 := (hid (M a 9) b).2 ⟨hb, e.symm⟩
    rw [e1] at e2
    exact hne (Option.some.inj e2)
  · unfold qOf
    rw [List.length_map, ← hlen]
    exact List.length_filter_le _ _
  · unfold qOf
    simp only [List.mem_map, List.mem_filter]
    constructor
    · rintro ⟨k, ⟨_, h2⟩, rfl⟩
      exact meetD_iff.1 h2
    · rintro ⟨b, h1, h2⟩
      have hs := hB.same x
      rw [h1] at hs
      obtain ⟨k, hk⟩ := Option.isSome_iff_exists.1 hs
      obtain ⟨h3, h4⟩ := (hid x k).1 hk
      exact ⟨k, ⟨h3, by rw [h4]; exact meetD_iff.2 ⟨b, h1, h2⟩⟩, h4⟩
theorem Bxs.leaf {som : Bool} {root : Int} {nn : Nat} {M : Nat → Nat → Int} {F : List Nat} {n : Nat} {f : Int → Option Nat} {T : Tr} {D : Int → Option Bx} (h : Tre som root nn M F n f (some T)) (hB : Bxs M f D) : ∀ k ∈ T.lvs, ∀ b, D (M k 9) = some b → inX b (nodeBx M k) := by
  obtain ⟨_, _, _, _, hid, hlen⟩ := h.some_ _ rfl
  exact fun k hk b e => hB.ins (M k 9) k b ((hid _ k).2 ⟨hk, rfl⟩) e
end Go.Proofs.Ytefhmbmbhiehdaa
