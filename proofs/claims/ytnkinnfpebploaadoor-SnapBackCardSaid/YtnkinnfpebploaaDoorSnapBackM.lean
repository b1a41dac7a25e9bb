/- Proved: Rows.SnapBackCardSaid. Conditions: none. -/
import Derived.Test.YtnkinnfpebploaaDoorOpenB
import Derived.Test.YtnkinnfpebploaaDoorOpen
import Derived.SizedLaws
import Derived.Test.YtnkinnfpebploaaDoorApply3
import Derived.Test.YtnkinnfpebploaaDoorBare
import Derived.Test.YtnkinnfpebploaaDoorLaid
namespace Go.Proofs.YtnkinnfpebploaaDoor
open Go.ChangeShapes Go.WideShapes Go.ChangeAt Go.RowKit Go.Deep
section
variable {H : Type} {enc : TypeId × Value → H} {P : Program} {w : World} {base : Nat} {spare : Nat → Bool} {held : Bool}
theorem trod_cap {t e : TypeId} {v : Value} {d : DataW H} {p : List MemPlace} (ht : P.underlying t = some (.slice e)) (h : DataW.Trod enc P w base spare held t v d p) : ∀ A N cap, v = .slice A N cap → N ≤ cap := by
  intro A N cap hv
  subst hv
  obtain ⟨fuel, hf⟩ := h
  rcases open_slice ht hf with ⟨h0, _⟩ | ⟨a, len, cap', m, n, D, Pl, hcs, _, hl, _⟩
  · simp [Value.cells] at h0
    omega
  · simp [Value.cells] at hcs
    omega
end
end Go.Proofs.YtnkinnfpebploaaDoor
namespace Go.Proofs.YtnkinnfpebploaaDoor
open Go.ChangeShapes Go.WideShapes Go.ChangeAt Go.RowKit Go.Deep
section
variable {H : Type} {enc : TypeId × Value → H} {P : Program} {w : World} {base : Nat} {spare : Nat → Bool} {held : Bool}
theorem trod_nil {t e : TypeId} {A : Option Addr} {N cap : Nat} {d : DataW H} {p : List MemPlace} (ht : P.underlying t = some (.slice e)) (h : DataW.Trod enc P w base spare held t (.slice A N cap) d p) : A = none → N = 0 ∧ cap = 0 := by
  obtain ⟨fuel, hf⟩ := h
  rcases open_slice ht hf with ⟨h0, _⟩ | ⟨a, len, cap', m, n, D, Pl, hcs, _, hl, _⟩
  · simp [Value.cells] at h0
    exact fun _ => h0.2
  · simp [Value.cells] at hcs
    intro h
    rw [h] at hcs
    exact absurd hcs.1 (by simp)
end
end Go.Proofs.YtnkinnfpebploaaDoor
namespace Go.Proofs.YtnkinnfpebploaaDoor
open Go.ChangeShapes Go.WideShapes Go.ChangeAt Go.RowKit Go.Deep
section
variable {H : Type} {enc : TypeId × Value → H} {P : Program} {w : World} {base : Nat} {spare : Nat → Bool} {held : Bool}
theorem trodAll_in : ∀ (ts : List TypeId) (vs : List Value) (ds : List (DataW H)) (ps : List MemPlace), DataW.TrodAll enc P w base spare held ts vs ds ps → ∀ (j : Nat) (t : TypeId) (v : Value), ts[j]? = some t → vs[j]? = some v →
    ∃ d p, ds[j]? = some d ∧ DataW.Trod enc P w base spare held t v d p := by
  intro ts
  induction ts with
  | nil => intro vs ds ps h j t v ht; simp at ht
  | cons t0 ts ih =>
    intro vs ds ps h j t v ht hv
    obtain ⟨v0, vs', d, ds', p, q, rfl, rfl, rfl, h1, h2⟩ := trodAll_cons h
    cases j with
    | zero =>
      simp at ht hv
      subst ht hv
      exact ⟨d, p, rfl, h1⟩
    | succ j =>
      obtain ⟨d', p', h3, h4⟩ := ih _ _ _ h2 j t v (by simpa using ht) (by simpa using hv)
      exact ⟨d', p', by simpa using h3, h4⟩
theorem ds_in {α : Type} {ds gs : List α} {j : Nat} {d : α} (h : ds[j]? = some d) : (ds ++ gs)[j]? = some d := by
  rw [List.getElem?_append_left (List.getElem?_eq_some_iff.1 h).1, h]
/-- a slice's elements, all together -/
theorem slice_reach {ts : List TypeId} {ds : List (DataW H)} {j : Nat} {t e : TypeId} {A : Option Addr} {n cap : Nat} {d : DataW H} {p : List MemPlace} (hz : (DataW.weightsEach P ts ds).all (· ≤ reachBytes) = true) (hj : ts[j]? = some t) (hd : ds[j]? = some d)
    (ht : P.underlying t = some (.slice e)) (h : DataW.Trod enc P w base spare held t (.slice A n cap) d p) : n * P.bytesOf e ≤ reachBytes := by
  obtain ⟨fuel, hf⟩ := h
  rcases open_slice ht hf with ⟨h0, _⟩ | ⟨a, len, c', m, k, D, Pl, hcs, hx, hl, hm, hmm, hD, hi⟩
  · simp [Value.cells] at h0
    obtain ⟨_, rfl, _⟩ := h0
    simp
  · simp [Value.cells] at hcs
    obtain ⟨rfl, rfl, rfl⟩ := hcs
    obtain rfl := (Prod.mk.injEq _ _ _ _ ▸ hD).1
    have h1 := sized_slice hz hj hd ht
    rw [List.length_map, List.length_range] at h1
    exact Nat.le_trans (Nat.mul_le_mul_right _ (by omega)) h1
end
end Go.Proofs.YtnkinnfpebploaaDoor
namespace Go.Proofs.YtnkinnfpebploaaDoor
open Go Go.RowKit B
section
variable {T Z : List Nat} {a : Nat}
theorem var_at {n : Nat} (h : T.drop a = varL n ++ Z) (hn : n < 4611686018427387904) : varD T a = ((n : Int), 0, a + (varL n).length) := varD_ok (varG_back h hn)
theorem int_at {n : Int} (h : T.drop a = intL n ++ Z) (h1 : -1152921504606846976 ≤ n) (h2 : n ≤ 1152921504606846976) : intD T a = (n, 0, a + (intL n).length) := intD_ok (intG_back h h1 h2)
theorem get_at {k n : Nat} (h : T.drop a = bitsOf k n ++ Z) (h0 : 0 < k) (hk : k ≤ 62) (hn : n < 2 ^ k) : getD T a (k : Int) = ((n : Int), 0, a + (bitsOf k n).length) := by
  have hl := drop_len h (by rw [bitsOf_length]; exact h0)
  rw [bitsOf_length] at hl ⊢
  unfold getD
  rw [if_neg (by omega), if_neg (by simpa using hl)]
  simp only [Int.toNat_natCast]
  rw [getV_bits h hn]
theorem head_at {what : Nat} {id last : Int} (h : T.drop a = headL what id last ++ Z) (hw : what < 4) (h1 : last < id) (h0 : 0 ≤ last) (h2 : id ≤ 1099511627776) :
    ∃ (ga da : Nat) (dn : Int), getD T a 2 = ((what : Int), 0, ga) ∧ varD T ga = (dn, 0, da) ∧ dn ≤ 1099511627776 ∧ last + (dn + 1) = id ∧ T.drop da = Z := by
  unfold headL at h
  rw [List.append_assoc] at h
  have hg := get_at h (by decide) (by decide) (by simpa using hw)
  have h' := drop_more h
  have hd := var_at h' (by omega)
  exact ⟨_, _, _, hg, hd, by omega, by omega, drop_more h'⟩
theorem rI_at {n : Int} {b : Bool} (h : T.drop a = intL n ++ Z) (h1 : -2199023255552 ≤ n) (h2 : n ≤ 2199023255552) : rI T (a, b) = (n, (a + (intL n).length, b)) := by
  unfold rI
  simp only
  rw [int_at h (by omega) (by omega)]
  simp
theorem rG_at {k n : Nat} {b : Bool} (h : T.drop a = bitsOf k n ++ Z) (h0 : 0 < k) (hk : k ≤ 62) (hn : n < 2 ^ k) : rG T (k : Int) (a, b) = ((n : Int), (a + (bitsOf k n).length, b)) := by
  unfold rG
  simp only
  rw [get_at h h0 hk hn]
  simp
theorem v3_at {n1 n2 n3 x y z : Int} {b : Bool} (h : T.drop a = vec3L n1 n2 n3 ++ Z) (h1 : -2199023255552 ≤ n1 ∧ n1 ≤ 2199023255552) (h2 : -2199023255552 ≤ n2 ∧ n2 ≤ 2199023255552) (h3 : -2199023255552 ≤ n3 ∧ n3 ≤ 2199023255552) :
    ∃ a', v3R T x y z (a, b) = ((x + n1, y + n2, z + n3), (a', b)) ∧ T.drop a' = Z := by
  unfold vec3L at h
  rw [List.append_assoc, List.append_assoc] at h
  have e1 := rI_at (b := b) h h1.1 h1.2
  have d1 := drop_more h
  have e2 := rI_at (b := b) d1 h2.1 h2.2
  have d2 := drop_more d1
  have e3 := rI_at (b := b) d2 h3.1 h3.2
  refine ⟨_, ?_, drop_more d2⟩
  unfold v3R
  rw [e1]
  simp only
  rw [e2]
  simp only
  rw [e3]
theorem new_at {M : Nat → Nat → Int} {k : Nat} {last : Int} (h : T.drop a = newL M k ++ Z) (hr : RightRow M k last) : ∃ a', newR T (M k 0) (a, false) = (snOf M k, (a', false)) ∧ T.drop a' = Z := by
  obtain ⟨⟨_, _, k0, k7⟩, h40⟩ := hr
  have hb : ∀ j, 2 ≤ j → j < 11 → -2199023255552 ≤ M k j ∧ M k j ≤ 2199023255552 := fun j h1 h2 => by have := h40 j h1 h2; unfold In40 at this; omega
  unfold newL at h
  rw [List.append_assoc, List.append_assoc, List.append_assoc] at h
  have e1 := rG_at (b := false) h (by decide) (by decide) (by omega)
  have d1 := drop_more h
  obtain ⟨a2, e2, d2⟩ := v3_at (x := 0) (y := 0) (z := 0) (b := false) d1 (hb 2 (by decide) (by decide)) (hb 3 (by decide) (by decide)) (hb 4 (by decide) (by decide))
  obtain ⟨a3, e3, d3⟩ := v3_at (x := 0) (y := 0) (z := 0) (b := false) d2 (hb 5 (by decide) (by decide)) (hb 6 (by decide) (by decide)) (hb 7 (by decide) (by decide))
  obtain ⟨a4, e4, d4⟩ := v3_at (x := 0) (y := 0) (z := 0) (b := false) d3 (hb 8 (by decide) (by decide)) (hb 9 (by decide) (by decide)) (hb 10 (by decide) (by decide))
  refine ⟨a4, ?_, d4⟩
  have e1' : rG T 3 (a, false) = ((((M k 1).toNat : Nat) : Int), (a + (bitsOf 3 (M k 1).toNat).length, false)) := e1
  have c : (((M k 1).toNat : Nat) : Int) = M k 1 := by omega
  unfold newR
  rw [e1']
  simp only
  rw [e2]
  simp only
  rw [e3]
  simp only
  rw [e4]
  simp only [c, Int.zero_add]
  rfl
theorem maybe_at {M1 M2 : Nat → Nat → Int} {i k j : Nat} (h : T.drop a = (if ne3 M1 i M2 k j then vecD M1 i M2 k j else []) ++ Z) (h1 : In40 (M1 i j) ∧ In40 (M1 i (j + 1)) ∧ In40 (M1 i (j + 2))) (h2 : In40 (M2 k j) ∧ In40 (M2 k (j + 1)) ∧ In40 (M2 k (j + 2))) :
    ∃ a', maybe3 T (if ne3 M1 i M2 k j then 1 else 0) (M1 i j) (M1 i (j + 1)) (M1 i (j + 2)) (a, false) = ((M2 k j, M2 k (j + 1), M2 k (j + 2)), (a', false)) ∧ T.drop a' = Z := by
  unfold In40 at h1 h2
  unfold maybe3
  cases hb : ne3 M1 i M2 k j with
  | true =>
    rw [hb] at h
    simp only [if_true] at h ⊢
    unfold vecD at h
    obtain ⟨a', e, d⟩ := v3_at (x := M1 i j) (y := M1 i (j + 1)) (z := M1 i (j + 2)) (b := false) h (by omega) (by omega) (by omega)
    refine ⟨a', ?_, d⟩
    rw [e, show M1 i j + (M2 k j - M1 i j) = M2 k j by omega, show M1 i (j + 1) + (M2 k (j + 1) - M1 i (j + 1)) = M2 k (j + 1) by omega, show M1 i (j + 2) + (M2 k (j + 2) - M1 i (j + 2)) = M2 k (j + 2) by omega]
  | false =>
    rw [hb] at h
    simp only [Bool.false_eq_true, if_false, List.nil_append] at h ⊢
    unfold ne3 at hb
    simp at hb
    refine ⟨a, ?_, h⟩
    rw [hb.1.1, hb.1.2, hb.2]
    simp
theorem bit_at {b : Bool} (h : T.drop a = bit b ++ Z) : rG T 1 (a, false) = (if b then 1 else 0, (a + 1, false)) ∧ T.drop (a + 1) = Z := by
  unfold bit at h
  have hd := drop_more h
  rw [bitsOf_length] at hd
  have e := rG_at (b := false) h (by decide) (by decide) (by cases b <;> simp)
  rw [bitsOf_length] at e
  refine ⟨?_, hd⟩
  rw [show rG T 1 (a, false) = rG T ((1 : Nat) : Int) (a, false) from rfl, e]
  cases b <;> rfl
theorem chg_at {M1 M2 : Nat → Nat → Int} {i k : Nat} {l1 l2 : Int} (h : T.drop a = changeL M1 i M2 k ++ Z) (h1 : RightRow M1 i l1) (h2 : RightRow M2 k l2) (hid : M1 i 0 = M2 k 0) :
    ∃ a', changeR T (snOf M1 i) (a, false) = (snOf M2 k, (a', false)) ∧ T.drop a' = Z := by
  obtain ⟨⟨_, _, k0, k7⟩, h40⟩ := h1
  obtain ⟨⟨_, _, k0', k7'⟩, h40'⟩ := h2
  unfold changeL at h
  simp only [List.append_assoc] at h
  obtain ⟨e1, d1⟩ := bit_at h
  obtain ⟨e2, d2⟩ := bit_at d1
  obtain ⟨e3, d3⟩ := bit_at d2
  -- the kind, and the size
  have hS : ∃ a', (maybeK T (if neS M1 i M2 k then 1 else 0) (M1 i 1) (a + 1 + 1 + 1, false)).1 = M2 k 1 ∧ maybe3 T (if neS M1 i M2 k then 1 else 0) (M1 i 2) (M1 i 3) (M1 i 4) (maybeK T (if neS M1 i M2 k then 1 else 0) (M1 i 1) (a + 1 + 1 + 1, false)).2 = ((M2 k 2, M2 k 3, M2 k 4), (a', false)) ∧
      T.drop a' = (if ne3 M1 i M2 k 5 then vecD M1 i M2 k 5 else []) ++ ((if ne3 M1 i M2 k 8 then vecD M1 i M2 k 8 else []) ++ Z) := by
    have b1 := h40 2 (by decide) (by decide)
    have b2 := h40 3 (by decide) (by decide)
    have b3 := h40 4 (by decide) (by decide)
    have b4 := h40' 2 (by decide) (by decide)
    have b5 := h40' 3 (by decide) (by decide)
    have b6 := h40' 4 (by decide) (by decide)
    unfold In40 at b1 b2 b3 b4 b5 b6
    cases hb : neS M1 i M2 k with
    | true =>
      rw [hb] at d3
      simp only [if_true] at d3
      rw [List.append_assoc] at d3
      have g := rG_at (b := false) d3 (by decide) (by decide) (by omega)
      have d4 := drop_more d3
      have g' : rG T 3 (a + 1 + 1 + 1, false) = ((((M2 k 1).toNat : Nat) : Int), (a + 1 + 1 + 1 + (bitsOf 3 (M2 k 1).toNat).length, false)) := g
      simp only [vecD, Nat.reduceAdd] at d4
      obtain ⟨a5, e5, d5⟩ := v3_at (x := M1 i 2) (y := M1 i 3) (z := M1 i 4) (b := false) d4 (by omega) (by omega) (by omega)
      refine ⟨a5, ?_, ?_, d5⟩
      · simp only [maybeK, if_true, g']; omega
      · simp only [maybeK, maybe3, if_true, g', e5, Prod.mk.injEq, and_true]
        omega
    | false =>
      rw [hb] at d3
      simp only [Bool.false_eq_true, if_false, List.nil_append] at d3
      unfold neS ne3 at hb
      simp at hb
      refine ⟨a + 1 + 1 + 1, ?_, ?_, d3⟩
      · simp [maybeK, hb.2]
      · simp [maybeK, maybe3, hb.1.1.1, hb.1.1.2, hb.1.2]
  obtain ⟨a4, eK, eS, d4⟩ := hS
  obtain ⟨a5, e5, d5⟩ := maybe_at d4 ⟨h40 5 (by decide) (by decide), h40 6 (by decide) (by decide), h40 7 (by decide) (by decide)⟩ ⟨h40' 5 (by decide) (by decide), h40' 6 (by decide) (by decide), h40' 7 (by decide) (by decide)⟩
  obtain ⟨a6, e6, d6⟩ := maybe_at d5 ⟨h40 8 (by decide) (by decide), h40 9 (by decide) (by decide), h40 10 (by decide) (by decide)⟩ ⟨h40' 8 (by decide) (by decide), h40' 9 (by decide) (by decide), h40' 10 (by decide) (by decide)⟩
  refine ⟨a6, ?_, d6⟩
  unfold changeR
  rw [e1]
  simp only
  rw [e2]
  simp only
  rw [e3]
  simp only [snOf]
  rw [eK, eS]
  simp only
  rw [e5]
  simp only
  rw [e6]
  rw [hid]
end
theorem low_app {now : Int} {E D : List Sn} (h : ∀ r ∈ E, r.id < now) : lowR now (E ++ D) = E ++ lowR now D ∧ highR now (E ++ D) = highR now D := by
  unfold lowR highR
  exact tw_append (fun r hr => by simpa using h r hr)
theorem take_snoc {M : Nat → Nat → Int} {n k : Nat} (h : k < n) : (rowsOf M n).take k ++ [snOf M k] = (rowsOf M n).take (k + 1) := by
  have hl : k < (rowsOf M n).length := by rw [rowsOf_length]; exact h
  rw [List.take_add_one, List.getElem?_eq_getElem hl]
  simp [rowsOf]
theorem restF_pos (M1 : Nat → Nat → Int) (n1 : Nat) (M2 : Nat → Nat → Int) (n2 : Nat) : ∀ (f i k : Nat) (last : Int), 2 ≤ (restF M1 n1 M2 n2 f i k last).length := by
  intro f
  induction f with
  | zero => intro i k last; simp [restF, bitsOf_length]
  | succ f ih =>
    intro i k last
    unfold restF
    have hh : ∀ w x y, 2 ≤ (headL w x y).length := fun w x y => by simp [headL, bitsOf_length]
    have h0 := hh 0 (M1 i 0) last
    have h1 := hh 1 (M2 k 0) last
    have h2 := hh 2 (M2 k 0) last
    split
    · split
      · rw [List.length_append]; omega
      · split
        · rw [List.length_append, List.length_append]; omega
        · split
          · exact ih _ _ _
          · rw [List.length_append, List.length_append]; omega
    · simp [bitsOf_length]
theorem headL_len (w : Nat) (x y : Int) : 2 ≤ (headL w x y).length := by simp [headL, bitsOf_length]
section
variable {M1 M2 : Nat → Nat → Int} {n1 n2 : Nat}
theorem same_row {i k : Nat} (hid : M1 i 0 = M2 k 0) (h : same11 M1 i M2 k = true) : snOf M1 i = snOf M2 k := by
  unfold same11 neS ne3 at h
  simp at h
  obtain ⟨⟨⟨⟨⟨a, b⟩, c⟩, d⟩, ⟨e, f⟩, g⟩, ⟨p, q⟩, r⟩ := h
  unfold snOf
  rw [hid, a, b, c, d, e, f, g, p, q, r]
theorem back_rest (T Z0 : List Nat) (h1 : RightV n1 M1) (h2 : RightV n2 M2) : ∀ (m F i k : Nat) (last : Int) (f a : Nat) (out E : List Sn), n1 + n2 ≤ i + k + m → n1 + n2 ≤ i + k + F → i ≤ n1 → k ≤ n2 → 0 ≤ last → (i < n1 → last < M1 i 0) → (k < n2 → last < M2 k 0) →
    (∀ r ∈ E, (i < n1 → r.id < M1 i 0) ∧ (k < n2 → r.id < M2 k 0)) → out ++ E = (rowsOf M2 n2).take k → T.drop a = restF M1 n1 M2 n2 F i k last ++ Z0 → (restF M1 n1 M2 n2 F i k last).length ≤ f → applyF T f a out (E ++ (rowsOf M1 n1).drop i) last = some (rowsOf M2 n2) := by
  intro m
  induction m with
  | zero =>
    intro F i k last f a out E hm hF hi hk hl hl1 hl2 hE ho hd hf
    rw [rest_end (by omega) (by omega)] at hd hf
    rw [bitsOf_length] at hf
    obtain ⟨g, rfl⟩ : ∃ g, f = g + 1 := ⟨f - 1, by omega⟩
    have hg := get_at hd (by decide) (by decide) (by decide)
    rw [F_end hg, ← List.append_assoc, ho, show i = n1 by omega, show k = n2 by omega, drop_end, List.append_nil, List.take_of_length_le (by rw [rowsOf_length]; omega)]
  | succ m ih =>
    intro F i k last f a out E hm hF hi hk hl hl1 hl2 hE ho hd hf
    have h60 := h2.2
    by_cases hend : i < n1 ∨ k < n2
    · by_cases hg : Gone M1 n1 M2 n2 i k
      · obtain ⟨g, hF', e⟩ := rest_gone (M1 := M1) (M2 := M2) (last := last) hF hi hk hg
        rw [e] at hd hf
        rw [List.append_assoc] at hd
        rw [List.length_append] at hf
        have := headL_len 0 (M1 i 0) last
        obtain ⟨f', rfl⟩ : ∃ g, f = g + 1 := ⟨f - 1, by omega⟩
        have hin := hg.1
        obtain ⟨ga, da, dn, q1, q2, q3, q4, q5⟩ := head_at hd (by decide) (hl1 hin) hl (h1.top hin)
        obtain ⟨w1, w2⟩ := low_app (now := M1 i 0) (E := E) (D := (rowsOf M1 n1).drop i) (fun r hr => (hE r hr).1 hin)
        obtain ⟨w3, w4⟩ := low_stop (now := M1 i 0) (r := snOf M1 i) (t := (rowsOf M1 n1).drop (i + 1)) (by simp [snOf])
        rw [drop_rows M1 hin] at w1 w2 ⊢
        rw [w3] at w1
        rw [w4] at w2
        rw [F_gone (O := out ++ E) (r := snOf M1 i) (t := (rowsOf M1 n1).drop (i + 1)) q1 q2 q3 (by rw [q4, w1, List.append_nil]) (by rw [q4, w2]) (by rw [q4]; rfl), q4]
        refine ih g (i + 1) k (M1 i 0) f' da (out ++ E) [] (by omega) hF' (by omega) hk (by have := h1.pos hin; omega) (fun h => h1.ids (by omega) h) hg.2 (fun r hr => by simp at hr) (by rw [List.append_nil, ho]) q5 (by omega)
      · by_cases hc : Came M1 n1 M2 n2 i k
        · obtain ⟨g, hF', e⟩ := rest_came (M1 := M1) (M2 := M2) (last := last) hF hi hk hg hc
          rw [e] at hd hf
          rw [List.append_assoc, List.append_assoc] at hd
          rw [List.length_append, List.length_append] at hf
          have := headL_len 1 (M2 k 0) last
          obtain ⟨f', rfl⟩ : ∃ g, f = g + 1 := ⟨f - 1, by omega⟩
          have hin := hc.1
          obtain ⟨ga, da, dn, q1, q2, q3, q4, q5⟩ := head_at hd (by decide) (hl2 hin) hl (h2.top hin)
          obtain ⟨a6, q6, q7⟩ := new_at q5 (h2.row hin)
          obtain ⟨w1, w2⟩ := low_app (now := M2 k 0) (E := E) (D := (rowsOf M1 n1).drop i) (fun r hr => (hE r hr).2 hin)
          have hst : lowR (M2 k 0) ((rowsOf M1 n1).drop i) = [] ∧ highR (M2 k 0) ((rowsOf M1 n1).drop i) = (rowsOf M1 n1).drop i ∧ NoRow (M2 k 0) ((rowsOf M1 n1).drop i) := by
            by_cases hin1 : i < n1
            · have h3 := hc.2 hin1
              rw [drop_rows M1 hin1]
              obtain ⟨w3, w4⟩ := low_stop (now := M2 k 0) (r := snOf M1 i) (t := (rowsOf M1 n1).drop (i + 1)) (by simp [snOf]; omega)
              refine ⟨w3, w4, fun r t hr => ?_⟩
              cases hr
              simp [snOf]; omega
            · rw [show i = n1 by omega, drop_end]
              exact ⟨rfl, rfl, fun r t hr => by cases hr⟩
          rw [hst.1, List.append_nil] at w1
          rw [hst.2.1] at w2
          have hlen : (out ++ E).length = k := by rw [ho, List.length_take, rowsOf_length]; omega
          rw [F_new (O := out ++ E) (D := (rowsOf M1 n1).drop i) (n := (snOf M2 k, (a6, false))) q1 q2 q3 (by rw [q4, w1]) (by rw [q4, w2]) (by rw [q4]; exact hst.2.2) (by rw [q4]; exact q6), q4]
          rw [if_neg (by rw [hlen]; simp; omega)]
          have := ih g i (k + 1) (M2 k 0) f' a6 (out ++ E ++ [snOf M2 k]) [] (by omega) hF' hi (by omega) (by have := h2.pos hin; omega) (fun h => hc.2 h) (fun h => h2.ids (by omega) h) (fun r hr => by simp at hr) (by rw [List.append_nil, ho, take_snoc hin]) q7 (by omega)
          simpa using this
        · -- both are next
          have hin1 : i < n1 := by
            rcases Nat.lt_or_ge i n1 with h | h
            · exact h
            · exact absurd ⟨by omega, fun h' => by omega⟩ hc
          have hin2 : k < n2 := by
            rcases Nat.lt_or_ge k n2 with h | h
            · exact h
            · exact absurd ⟨by omega, fun h' => by omega⟩ hg
          have hid : M1 i 0 = M2 k 0 := by
            have a1 : ¬ M1 i 0 < M2 k 0 := fun h => hg ⟨hin1, fun _ => h⟩
            have a2 : ¬ M2 k 0 < M1 i 0 := fun h => hc ⟨hin2, fun _ => h⟩
            omega
          by_cases hs : same11 M1 i M2 k = true
          · obtain ⟨g, hF', e⟩ := rest_same (M1 := M1) (M2 := M2) (last := last) hF hin1 hin2 hg hc hs
            rw [e] at hd hf
            have hrow := same_row hid hs
            have hE2 : E ++ (rowsOf M1 n1).drop i = (E ++ [snOf M2 k]) ++ (rowsOf M1 n1).drop (i + 1) := by rw [drop_rows M1 hin1, hrow]; simp
            rw [hE2]
            refine ih g (i + 1) (k + 1) last f a out (E ++ [snOf M2 k]) (by omega) hF' (by omega) (by omega) hl (fun h => by have := h1.ids (show i < i + 1 by omega) h; have := hl1 hin1; omega) (fun h => by have := h2.ids (show k < k + 1 by omega) h; have := hl2 hin2; omega) ?_ (by rw [← List.append_assoc, ho, take_snoc hin2]) hd hf
            intro r hr
            have hr' : r.id ≤ M2 k 0 := by
              rcases List.mem_append.1 hr with h | h
              · have := (hE r h).2 hin2; omega
              · simp at h; subst h; simp [snOf]
            exact ⟨fun h => by have := h1.ids (show i < i + 1 by omega) h; omega, fun h => by have := h2.ids (show k < k + 1 by omega) h; omega⟩
          · obtain ⟨g, hF', e⟩ := rest_other (M1 := M1) (M2 := M2) (last := last) hF hin1 hin2 hg hc hs
            rw [e] at hd hf
            rw [List.append_assoc, List.append_assoc] at hd
            rw [List.length_append, List.length_append] at hf
            have := headL_len 2 (M2 k 0) last
            obtain ⟨f', rfl⟩ : ∃ g, f = g + 1 := ⟨f - 1, by omega⟩
            obtain ⟨ga, da, dn, q1, q2, q3, q4, q5⟩ := head_at hd (by decide) (hl2 hin2) hl (h2.top hin2)
            obtain ⟨a6, q6, q7⟩ := chg_at q5 (h1.row hin1) (h2.row hin2) hid
            obtain ⟨w1, w2⟩ := low_app (now := M2 k 0) (E := E) (D := (rowsOf M1 n1).drop i) (fun r hr => (hE r hr).2 hin2)
            obtain ⟨w3, w4⟩ := low_stop (now := M2 k 0) (r := snOf M1 i) (t := (rowsOf M1 n1).drop (i + 1)) (by simp [snOf]; omega)
            rw [drop_rows M1 hin1] at w1 w2 ⊢
            rw [w3, List.append_nil] at w1
            rw [w4] at w2
            have hlen : (out ++ E).length = k := by rw [ho, List.length_take, rowsOf_length]; omega
            rw [F_chg (O := out ++ E) (r := snOf M1 i) (t := (rowsOf M1 n1).drop (i + 1)) (n := (snOf M2 k, (a6, false))) q1 (by decide) (by decide) (by decide) q2 q3 (by rw [q4, w1]) (by rw [q4, w2]) (by rw [q4]; exact hid) q6, q4]
            rw [if_neg (by rw [hlen]; simp; omega)]
            have := ih g (i + 1) (k + 1) (M2 k 0) f' a6 (out ++ E ++ [snOf M2 k]) [] (by omega) hF' (by omega) (by omega) (by have := h2.pos hin2; omega) (fun h => by rw [← hid]; exact h1.ids (by omega) h) (fun h => h2.ids (by omega) h) (fun r hr => by simp at hr) (by rw [List.append_nil, ho, take_snoc hin2]) q7 (by omega)
            simpa using this
    · rw [rest_end (by omega) (by omega)] at hd hf
      rw [bitsOf_length] at hf
      obtain ⟨g, rfl⟩ : ∃ g, f = g + 1 := ⟨f - 1, by omega⟩
      have hg := get_at hd (by decide) (by decide) (by decide)
      rw [F_end hg, ← List.append_assoc, ho, show i = n1 by omega, show k = n2 by omega, drop_end, List.append_nil, List.take_of_length_le (by rw [rowsOf_length]; omega)]
end
theorem mx_rows (R : List Sn) : rowsOf (mx R) R.length = R := by
  apply List.ext_getElem
  · rw [rowsOf_length]
  · intro k h1 h2
    simp only [rowsOf, List.getElem_map, List.getElem_range]
    unfold snOf mx
    rw [List.getElem?_eq_getElem h2]
    rfl
/-- of a view and what changes from it to another one there is just that one -/
theorem ans_back {R1 R2 : List Sn} (h : dN (mx R1) R1.length (mx R2) R2.length = 0) : ansF (mx R1) R1.length (dL (mx R1) R1.length (mx R2) R2.length) = some R2 := by
  obtain ⟨h1, h2, h3⟩ := d_zero.1 h
  have hd := (d_ok h1 h2 (by omega)).2
  unfold ansF
  have hb : Bin (deltaL (mx R1) R1.length (mx R2) R2.length) := restF_bin _ _ _ _ _ _ _ _
  have key : applyF (openL (dL (mx R1) R1.length (mx R2) R2.length)) ((openL (dL (mx R1) R1.length (mx R2) R2.length)).length + 1) 0 [] (rowsOf (mx R1) R1.length) 0 = some R2 := by
    rw [hd, open_pack hb]
    have := back_rest (deltaL (mx R1) R1.length (mx R2) R2.length ++ List.replicate (8 * bytesOf (deltaL (mx R1) R1.length (mx R2) R2.length) - (deltaL (mx R1) R1.length (mx R2) R2.length).length) 0) _ h1 h2 (R1.length + R2.length) (R1.length + R2.length) 0 0 0 ((deltaL (mx R1) R1.length (mx R2) R2.length ++ List.replicate (8 * bytesOf (deltaL (mx R1) R1.length (mx R2) R2.length) - (deltaL (mx R1) R1.length (mx R2) R2.length).length) 0).length + 1) 0 [] [] (by omega) (by omega) (by omega) (by omega) (by omega) (fun h => by have := h1.pos h; omega) (fun h => by have := h2.pos h; omega) (fun r hr => by simp at hr) rfl rfl (by rw [List.length_append]; unfold deltaL; omega)
    rw [mx_rows R2] at this
    simpa using this
  rw [key]
  exact ansV_yes ⟨h, rfl⟩
theorem rest_self {M : Nat → Nat → Int} {n : Nat} : ∀ (f i : Nat) (last : Int), restF M n M n f i i last = bitsOf 2 3 := by
  intro f
  induction f with
  | zero => intro i last; rfl
  | succ f ih =>
    intro i last
    unfold restF
    by_cases h : i < n
    · rw [if_pos (.inl h), if_neg (fun hg => by have := hg.2 h; omega), if_neg (fun hg => by have := hg.2 h; omega), if_pos (by simp [same11, neS, ne3])]
      exact ih _ _
    · rw [if_neg (by omega)]
theorem self_back {R : List Sn} (h : RightV R.length (mx R)) : dN (mx R) R.length (mx R) R.length = 0 ∧ dL (mx R) R.length (mx R) R.length = [192] := by
  have e : deltaL (mx R) R.length (mx R) R.length = bitsOf 2 3 := rest_self _ _ _
  have := d_ok h h (by rw [e]; simp [bitsOf_length])
  refine ⟨this.1, ?_⟩
  rw [this.2, e]
  decide
theorem reads_list {w : World} {A : Option Addr} {n : Nat} {M : Nat → Nat → Int} (h : Reads w A n 11 M) : ∃ R : List Sn, R.length = n ∧ rowsOf M n = R ∧ Reads w A R.length 11 (mx R) := by
  refine ⟨rowsOf M n, rowsOf_length M n, rfl, ?_⟩
  rw [rowsOf_length]
  intro hn
  obtain ⟨b, ao, e, hb, hc⟩ := h hn
  refine ⟨b, ao, e, hb, fun k hk j hj => ?_⟩
  rw [hc k hk j hj]
  unfold mx rowsOf
  rw [List.getElem?_map, List.getElem?_range hk]
  simp only [Option.map_some, Option.getD_some]
  rw [snOf_get M k j hj]
end Go.Proofs.YtnkinnfpebploaaDoor
namespace Go.Proofs.YtnkinnfpebploaaDoor
open Go.ChangeShapes Go.WideShapes Go.ChangeAt Go.RowKit Go.BigFrame
open B
theorem Src.of_rowS {w : World} {base : Nat} {v : Value} {l : List Nat} (h : w.ownsRow base 5 1 v l.length (u8s l)) : Src w v l := by
  rcases id h.2 with ⟨rfl, h0⟩ | ⟨g, cap, cur, rfl, _⟩
  · exact .inl ⟨rfl, by simpa using h0⟩
  · exact .inr ⟨_, cap, rfl, fun j u hu => row_cells h j u hu⟩
/-- what Delta answers, of lists of rows -/
noncomputable def dNr (R1 R2 : List Sn) : Int := dN (mx R1) R1.length (mx R2) R2.length
noncomputable def dLr (R1 R2 : List Sn) : List Nat := dL (mx R1) R1.length (mx R2) R2.length
theorem dNr_two {R1 R2 : List Sn} (h1 : RightV R1.length (mx R1)) (h2 : RightV R2.length (mx R2)) : dNr R1 R2 = 0 ∨ dNr R1 R2 = 4 := by
  unfold dNr
  by_cases h : 31872 < (deltaL (mx R1) R1.length (mx R2) R2.length).length
  · exact .inr (d_limit h1 h2 h).1
  · exact .inl (d_ok h1 h2 h).1
theorem dLr_len (R1 R2 : List Sn) : (dLr R1 R2).length ≤ 100000 := by
  unfold dLr
  by_cases h : dN (mx R1) R1.length (mx R2) R2.length = 0
  · obtain ⟨h1, h2, h3⟩ := d_zero.1 h
    rw [(d_ok h1 h2 (by omega)).2, pack_length]
    unfold bytesOf
    omega
  · unfold dL
    rw [if_neg h]
    simp
theorem delta_s (R1 R2 : List Sn) (A1 A2 : Option Addr) (cap1 cap2 : Nat) (w : World) (hn1 : R1.length ≤ 100000) (hn2 : R2.length ≤ 100000) (hR1 : Reads w A1 R1.length 11 (mx R1)) (hR2 : Reads w A2 R2.length 11 (mx R2)) :
    Calls Tryd.prog 52 #[.slice A1 R1.length cap1, .slice A2 R2.length cap2] w fun e w' => ∃ (v : Value), e = .returned (.tuple #[v, errV (dNr R1 R2)]) ∧ Src w' v (dLr R1 R2) ∧ Below w.heap.size w w' := by
  refine (delta_c R1.length R2.length A1 A2 cap1 cap2 (mx R1) (mx R2) w hn1 hn2 hR1 hR2).mono ?_
  unfold dNr dLr
  rintro e w' ⟨h, hb⟩
  rcases h with ⟨h, rfl⟩ | ⟨h1, h2, h, rfl⟩ | ⟨h1, h2, h, D, c, b, _, rfl, hB⟩
  · obtain ⟨e1, e2⟩ := d_arg h
    rw [e1, e2]
    exact ⟨_, rfl, .inl ⟨rfl, rfl⟩, hb⟩
  · obtain ⟨e1, e2⟩ := d_limit h1 h2 h
    rw [e1, e2]
    exact ⟨_, rfl, .inl ⟨rfl, rfl⟩, hb⟩
  · obtain ⟨e1, e2⟩ := d_ok h1 h2 h
    rw [e1, e2]
    exact ⟨_, rfl, Src.of_rowS hB, hb⟩
/-- Apply of what Delta told -/
theorem apply_s (R1 R2 : List Sn) (A1 : Option Addr) (cap1 : Nat) (v : Value) (w : World) (hn1 : R1.length ≤ 100000) (hcap : R1.length ≤ cap1) (hZ : A1 = none → R1.length = 0 ∧ cap1 = 0) (hR1 : Reads w A1 R1.length 11 (mx R1)) (hS : Src w v (dLr R1 R2)) (h0 : dNr R1 R2 = 0) :
    Calls Tryd.prog 61 #[.slice A1 R1.length cap1, v] w fun e w' => ∃ (A : Option Addr) (c : Nat), e = .returned (.tuple #[.slice A R2.length c, .nilIface]) ∧ (A = none → R2.length = 0 ∧ c = 0) ∧ R2.length ≤ c ∧ Reads w' A R2.length 11 (mx R2) ∧ Below w.heap.size w w' := by
  refine (apply_c R1.length A1 cap1 (mx R1) v (dLr R1 R2) w hn1 hcap hZ hR1 hS (dL_lt _ _ _ _) (dLr_len _ _)).mono ?_
  rintro e w' ⟨h, hb⟩
  have hV := (d_zero.1 h0).1
  have hA : ansF (mx R1) R1.length (dLr R1 R2) = some R2 := ans_back h0
  rcases h with ⟨h, _⟩ | ⟨_, h, _⟩ | ⟨_, o, A, c, ho, rfl, h1, h2, h3⟩
  · exact absurd hV h
  · rw [hA] at h; cases h
  · rw [hA] at ho; cases ho
    exact ⟨A, c, rfl, h1, h2, h3, hb⟩
set_option maxRecDepth 100000 in
set_option maxHeartbeats 4000000 in
theorem sameViews_c (n : Nat) (A1 A2 : Option Addr) (cap1 cap2 : Nat) (M : Nat → Nat → Int) (w : World) (hn : n ≤ 100000) (hR1 : Reads w A1 n 11 M) (hR2 : Reads w A2 n 11 M) :
    Calls Tryd.prog 62 #[.slice A1 n cap1, .slice A2 n cap2] w fun e w' => e = .returned (.bool true) ∧ Below w.heap.size w w' := by
  have HR1 := Lib.hid hR1
  have HR2 := Lib.hid hR2
  clear hR1 hR2
  go_enter Tryd.func62, Tryd.ntmps62
  go_wp2
  go_loopw [5] (fun i wr => ∃ k : Nat, k ≤ n ∧ i = .int .i64 k ∧ Below w.heap.size w wr) (fun i _ => n - (intOf i).toNat)
  case atStart => exact ⟨0, by omega, rfl, Below.refl _ _⟩
  case round =>
    obtain ⟨k, hk, rfl, hb⟩ := hrel
    by_cases hin : k < n
    · have dk : decide ((k : Int) < (n : Int)) = true := decide_eq_true (by omega)
      obtain ⟨bA, oA, rfl, hbA, hcA⟩ := HR1.out.below hb (by omega)
      obtain ⟨bB, oB, rfl, hbB, hcB⟩ := HR2.out.below hb (by omega)
      have HLA : Hid (∀ j, j < 11 → wr.cell? ⟨bA, oA + k * 11 + j, none⟩ = some (.int .i64 (M k j))) := Lib.hid (fun j hj => by rw [Nat.add_assoc]; exact hcA k hin j hj)
      have HLB : Hid (∀ j, j < 11 → wr.cell? ⟨bB, oB + k * 11 + j, none⟩ = some (.int .i64 (M k j))) := Lib.hid (fun j hj => by rw [Nat.add_assoc]; exact hcB k hin j hj)
      have hnq : ∀ w, (binOp .neq 145 (.agg #[.int .i64 (M k 0), .int .i64 (M k 1), .int .i64 (M k 2), .int .i64 (M k 3), .int .i64 (M k 4), .int .i64 (M k 5), .int .i64 (M k 6), .int .i64 (M k 7), .int .i64 (M k 8), .int .i64 (M k 9), .int .i64 (M k 10)]) (.agg #[.int .i64 (M k 0), .int .i64 (M k 1), .int .i64 (M k 2), .int .i64 (M k 3), .int .i64 (M k 4), .int .i64 (M k 5), .int .i64 (M k 6), .int .i64 (M k 7), .int .i64 (M k 8), .int .i64 (M k 9), .int .i64 (M k 10)])).run Tryd.prog w = .ok (.bool false) w := by
        intro w
        rw [run_neq_seen]
        simp [eq3]
      have hmc := more_cell
      clear hcA hcB
      go_wp2_with fail
      refine region_quiet_all (by kernel_rfl) (by kernel_rfl) ?_
      repeat (go_big_quiet_step (fail))
      go_big_quiet_want
      refine quiet_seenS hbA HLA.out (.tmp 19) rfl rfl ?_
      simp only [Act.put, List.setIfInBounds_toArray, List.set_cons_zero, List.set_cons_succ]
      go_big_quiet_on
      repeat (go_big_quiet_step (fail))
      go_big_quiet_want
      refine quiet_seenS hbB HLB.out (.tmp 23) rfl rfl ?_
      simp only [Act.put, List.setIfInBounds_toArray, List.set_cons_zero, List.set_cons_succ]
      go_big_quiet_on
      repeat (go_big_quiet_step (fail))
      refine wpQuiet_nil ?_
      rintro w6 hw6
      have hb6 := ext_below hb (after_below hw6)
      clear hw6 hmc hnq
      go_wp2
      go_roundw
      case rel => exact ⟨k + 1, by omega, by go_num, hb6⟩
      case measure => simp [intOf]; omega
    · have dk : decide ((k : Int) < (n : Int)) = false := decide_eq_false (by omega)
      go_wp2
      go_ret
      exact ⟨rfl, hb⟩
theorem run_eql_seen (x0 x1 x2 x3 x4 x5 x6 x7 x8 x9 x10 y0 y1 y2 y3 y4 y5 y6 y7 y8 y9 y10 : Int) (w : World) : (binOp .eql 145 (.agg #[.int .i64 x0, .int .i64 x1, .int .i64 x2, .int .i64 x3, .int .i64 x4, .int .i64 x5, .int .i64 x6, .int .i64 x7, .int .i64 x8, .int .i64 x9, .int .i64 x10]) (.agg #[.int .i64 y0, .int .i64 y1, .int .i64 y2, .int .i64 y3, .int .i64 y4, .int .i64 y5, .int .i64 y6, .int .i64 y7, .int .i64 y8, .int .i64 y9, .int .i64 y10])).run Tryd.prog w = .ok (.bool (x0 == y0 && x1 == y1 && eq3 x2 x3 x4 y2 y3 y4 && eq3 x5 x6 x7 y5 y6 y7 && eq3 x8 x9 x10 y8 y9 y10)) w := by
  rw [run_eql_struct, run_equalIn_struct w 9999 _ _ _ (by kernel_rfl) (by kernel_rfl)]
  simp only [Program.fieldsOf, Tryd.underlying145]
  simp only [Op.eqFields]
  have e1 := fun d w => run_equalIn_vec d x2 x3 x4 y2 y3 y4 w
  have e2 := fun d w => run_equalIn_vec d x5 x6 x7 y5 y6 y7 w
  have e3 := fun d w => run_equalIn_vec d x8 x9 x10 y8 y9 y10 w
  cases h1 : (x0 == y0) <;> cases h2 : (x1 == y1) <;> cases h3 : eq3 x2 x3 x4 y2 y3 y4 <;> cases h4 : eq3 x5 x6 x7 y5 y6 y7 <;> cases h5 : eq3 x8 x9 x10 y8 y9 y10 <;> simp [go_sem, Tryd.underlying3, h1, h2, h3, h4, h5, e1, e2, e3]
def oneRow : List Sn := [⟨3, 1, 0, 0, 0, 7, 0, 0, 0, 0, 0⟩]
theorem right_none : RightV ([] : List Sn).length (mx []) := ⟨fun i h => by simp at h, by simp⟩
theorem right_one : RightV oneRow.length (mx oneRow) := by
  refine ⟨fun i h => ?_, by simp [oneRow]⟩
  have : i = 0 := by simp [oneRow] at h; exact h
  subst this
  refine ⟨by decide, fun j h2 h11 => ?_⟩
  match j, h2, h11 with
  | 2, _, _ => decide
  | 3, _, _ => decide
  | 4, _, _ => decide
  | 5, _, _ => decide
  | 6, _, _ => decide
  | 7, _, _ => decide
  | 8, _, _ => decide
  | 9, _, _ => decide
  | 10, _, _ => decide
theorem one_zero : dNr [] oneRow = 0 := by
  refine (d_ok right_none right_one ?_).1
  decide +kernel
theorem reads_one {w : World} {b : Nat} (h : Blk w b #[.int .i64 3, .int .i64 1, .int .i64 0, .int .i64 0, .int .i64 0, .int .i64 7, .int .i64 0, .int .i64 0, .int .i64 0, .int .i64 0, .int .i64 0]) : Reads w (some ⟨b, 0, none⟩) 1 11 (mx oneRow) := fun _ => by
  refine ⟨b, 0, rfl, h.lt, fun k hk j hj => ?_⟩
  obtain rfl : k = 0 := by omega
  have hc := h.cell j
  rw [show 0 + (0 * 11 + j) = j by omega, hc]
  match j, hj with
  | 0, _ => rfl
  | 1, _ => rfl
  | 2, _ => rfl
  | 3, _ => rfl
  | 4, _ => rfl
  | 5, _ => rfl
  | 6, _ => rfl
  | 7, _ => rfl
  | 8, _ => rfl
  | 9, _ => rfl
  | 10, _ => rfl
set_option maxRecDepth 100000 in
set_option maxHeartbeats 4000000 in
theorem viewed_c (w : World) : Calls Tryd.prog 59 #[] w fun e w' => e = .returned (.bool true) ∧ Below w.heap.size w w' := by
  go_enter Tryd.func59, Tryd.ntmps59
  go_wp2_with fail
  refine calls_fresh ?_
  rintro w1 hb1
  have B1 : Blk w1 w.heap.size #[.int .i64 3, .int .i64 1, .int .i64 0, .int .i64 0, .int .i64 0, .int .i64 7, .int .i64 0, .int .i64 0, .int .i64 0, .int .i64 0, .int .i64 0] := Blk.below (by repeat (with_reducible (first | assumption | (apply Blk.at; simp; done) | apply Blk.alloc | apply Blk.drew | apply Blk.drewN | apply Blk.more | apply Blk.put | (apply Blk.far; focus (first | assumption | (apply Ne.symm; assumption) | (simp; done) | (simp <;> omega)))))) hb1
  have hB1 : Below w.heap.size w w1 := ext_below ((Below.refl w.heap.size w).alloc (Nat.le_refl _) _) hb1
  clear hb1
  obtain ⟨b, hb⟩ : ∃ b, b = w.heap.size := ⟨_, rfl⟩
  rw [← hb] at B1
  rw [← hb]
  clear hb
  have HR := Lib.hid (reads_one B1)
  have hbl := B1.lt
  clear B1
  refine (delta_s [] oneRow none (some ⟨b, 0, none⟩) 0 1 _ (by decide) (by decide) (fun h => by simp at h) HR.out).mono ?_
  rintro e w2 ⟨v2, rfl, hs2, hb2⟩
  rw [one_zero, show errV 0 = Value.nilIface from rfl]
  have hB2 := hB1.trans (hb2.mono hB1.size)
  have HS2 := Lib.hid hs2
  have HR2 := Lib.hid (HR.out.below hb2)
  have hbl2 := Nat.lt_of_lt_of_le hbl hb2.size
  clear hs2 hb2 hB1 HR hbl
  go_wp2_with fail
  refine (apply_s [] oneRow none 0 v2 _ (by decide) (by decide) (fun _ => ⟨rfl, rfl⟩) (fun h => by simp at h) HS2.out one_zero).mono ?_
  rintro e w3 ⟨A3, c3, rfl, hz3, hc3, hr3, hb3⟩
  have hB3 := hB2.trans (hb3.mono hB2.size)
  have hR3 := HR2.out.below hb3
  have hbl3 := Nat.lt_of_lt_of_le hbl2 hb3.size
  obtain ⟨bA, oA, rfl, hbA, hcA⟩ := hr3 (by decide)
  obtain ⟨bB, oB, hq, hbB, hcB⟩ := hR3 (by decide)
  cases hq
  have HLA : Hid (∀ j, j < 11 → w3.cell? ⟨bA, oA + j, none⟩ = some (.int .i64 (mx oneRow 0 j))) := Lib.hid (fun j hj => by have := hcA 0 (by decide) j hj; rwa [Nat.zero_mul, Nat.zero_add] at this)
  have HLB : Hid (∀ j, j < 11 → w3.cell? ⟨b, 0 + j, none⟩ = some (.int .i64 (mx oneRow 0 j))) := Lib.hid (fun j hj => by have := hcB 0 (by decide) j hj; rwa [Nat.zero_mul, Nat.zero_add] at this)
  have hnq : ∀ w, (binOp .eql 145 (.agg #[.int .i64 (mx oneRow 0 0), .int .i64 (mx oneRow 0 1), .int .i64 (mx oneRow 0 2), .int .i64 (mx oneRow 0 3), .int .i64 (mx oneRow 0 4), .int .i64 (mx oneRow 0 5), .int .i64 (mx oneRow 0 6), .int .i64 (mx oneRow 0 7), .int .i64 (mx oneRow 0 8), .int .i64 (mx oneRow 0 9), .int .i64 (mx oneRow 0 10)]) (.agg #[.int .i64 (mx oneRow 0 0), .int .i64 (mx oneRow 0 1), .int .i64 (mx oneRow 0 2), .int .i64 (mx oneRow 0 3), .int .i64 (mx oneRow 0 4), .int .i64 (mx oneRow 0 5), .int .i64 (mx oneRow 0 6), .int .i64 (mx oneRow 0 7), .int .i64 (mx oneRow 0 8), .int .i64 (mx oneRow 0 9), .int .i64 (mx oneRow 0 10)])).run Tryd.prog w = .ok (.bool true) w := by
    intro w
    rw [run_eql_seen]
    simp [eq3]
  have hlen : (oneRow.length : Int) = 1 := rfl
  have HZ3 := Lib.hid hz3
  rw [show oneRow.length = 1 from rfl]
  have hmc := more_cell
  clear hcA hcB hR3 hb3 hz3 hc3 HS2 HR2 hlen
  go_wp2_with fail
  refine region_quiet_all (by kernel_rfl) (by kernel_rfl) ?_
  repeat (go_big_quiet_step (fail))
  go_big_quiet_want
  refine quiet_seenS hbA HLA.out (.tmp 32) rfl rfl ?_
  simp only [Act.put, List.setIfInBounds_toArray, List.set_cons_zero, List.set_cons_succ]
  go_big_quiet_on
  repeat (go_big_quiet_step (fail))
  go_big_quiet_want
  refine quiet_seenS hbl3 HLB.out (.tmp 35) rfl rfl ?_
  simp only [Act.put, List.setIfInBounds_toArray, List.set_cons_zero, List.set_cons_succ]
  go_big_quiet_on
  repeat (go_big_quiet_step (fail))
  refine wpQuiet_nil ?_
  rintro w6 hw6
  have hb6 := ext_below hB3 (after_below hw6)
  clear hw6 hmc hnq
  go_wp2
  go_ret
  exact ⟨rfl, hb6⟩
theorem errV_2 {n : Int} {v : Value} (h : errV n = v) : n = 0 ∧ v = .nilIface ∨ n ≠ 0 ∧ v = .iface 25 (.int .i64 n) := by
  subst h
  by_cases h : n = 0
  · subst h; exact .inl ⟨rfl, rfl⟩
  · exact .inr ⟨h, errV_n h⟩
set_option maxRecDepth 100000 in
set_option maxHeartbeats 8000000 in
theorem snapBack_r (R1 R2 R3 : List Sn) (A1 : Option Addr) (c1 : Nat) (A2 : Option Addr) (c2 : Nat) (A3 : Option Addr) (c3 : Nat) (w : World) (hH : Handle w) (hb1 : R1.length ≤ 1599289640354) (hb2 : R2.length ≤ 1599289640354) (hb3 : R3.length ≤ 1599289640354) (hR1 : Reads w A1 R1.length 11 (mx R1)) (hR2 : Reads w A2 R2.length 11 (mx R2)) (hR3 : Reads w A3 R3.length 11 (mx R3)) (hcap : R1.length ≤ c1) (hZ : A1 = none → R1.length = 0 ∧ c1 = 0) :
    Calls Tryd.prog 12 #[.slice A1 R1.length c1, .slice A2 R2.length c2, .slice A3 R3.length c3] w fun e w' => e = .returned (.bool true) ∧ Below w.heap.size w w' := by
  have HR1 := Lib.hid hR1
  have HR2 := Lib.hid hR2
  have HR3 := Lib.hid hR3
  have HZ := Lib.hid hZ
  clear hR1 hR2 hR3 hZ
  by_cases h200 : 200 < R1.length + R2.length + R3.length
  · go_enter Tryd.func12, Tryd.ntmps12
    have hd : decide (200 < (R1.length : Int) + (R2.length : Int) + (R3.length : Int)) = true := decide_eq_true (by omega)
    go_wp2
    go_ret
    exact ⟨rfl, Below.refl _ _⟩
  have hd : decide (200 < (R1.length : Int) + (R2.length : Int) + (R3.length : Int)) = false := decide_eq_false (by omega)
  have q1 : R1.length ≤ 100000 := by omega
  have q2 : R2.length ≤ 100000 := by omega
  have q3 : R3.length ≤ 100000 := by omega
  go_enter Tryd.func12, Tryd.ntmps12
  go_wp2_with fail
  with_reducible refine (viewed_c _).mono ?_
  rintro e w1 ⟨rfl, hB1⟩
  go_wp2_with fail
  with_reducible refine (right_c R1.length A1 c1 (mx R1) _ (by omega) (HR1.out.below hB1)).mono ?_
  rintro e w2 ⟨d1, rfl, hd1, hb2'⟩
  have hB2 : Below w.heap.size w w2 := hB1.trans (hb2'.mono hB1.size)
  have HD1 := Lib.hid hd1
  clear hd1 hb2' hB1
  cases d1 with
  | false =>
    go_wp2
    go_ret
    exact ⟨rfl, hB2⟩
  | true =>
  have HV1 : Hid (RightV R1.length (mx R1)) := Lib.hid (HD1.out.1 rfl)
  go_wp2_with fail
  with_reducible refine (right_c R2.length A2 c2 (mx R2) _ (by omega) (HR2.out.below hB2)).mono ?_
  rintro e w3 ⟨d1, rfl, hd1, hb3'⟩
  have hB3 : Below w.heap.size w w3 := hB2.trans (hb3'.mono hB2.size)
  have HD2 := Lib.hid hd1
  clear hd1 hb3' hB2
  cases d1 with
  | false =>
    go_wp2
    go_ret
    exact ⟨rfl, hB3⟩
  | true =>
  have HV2 : Hid (RightV R2.length (mx R2)) := Lib.hid (HD2.out.1 rfl)
  go_wp2_with fail
  with_reducible refine (right_c R3.length A3 c3 (mx R3) _ (by omega) (HR3.out.below hB3)).mono ?_
  rintro e w4 ⟨d1, rfl, hd1, hb4'⟩
  have hB4 : Below w.heap.size w w4 := hB3.trans (hb4'.mono hB3.size)
  have HD3 := Lib.hid hd1
  clear hd1 hb4' hB3
  cases d1 with
  | false =>
    go_wp2
    go_ret
    exact ⟨rfl, hB4⟩
  | true =>
  have HV3 : Hid (RightV R3.length (mx R3)) := Lib.hid (HD3.out.1 rfl)
  clear HD1 HD2 HD3
  go_wp2_with fail
  with_reducible refine (delta_s R1 R2 A1 A2 c1 c2 _ q1 q2 (HR1.out.below hB4) (HR2.out.below hB4)).mono ?_
  rintro e w5 ⟨v5, rfl, hs5, hb5⟩
  have hB5 : Below w.heap.size w w5 := hB4.trans (hb5.mono hB4.size)
  have HS5 := Lib.hid hs5
  obtain ⟨x5, hx5⟩ : ∃ x, errV (dNr R1 R2) = x := ⟨_, rfl⟩
  rw [hx5]
  have HX5 := Lib.hid hx5
  clear hs5 hb5 hB4 hx5
  go_wp2_with fail
  with_reducible refine (delta_s R2 R3 A2 A3 c2 c3 _ q2 q3 (HR2.out.below hB5) (HR3.out.below hB5)).mono ?_
  rintro e w6 ⟨v6, rfl, hs6, hb6⟩
  have hB6 : Below w.heap.size w w6 := hB5.trans (hb6.mono hB5.size)
  have HS6 := Lib.hid hs6
  have HS56 := Lib.hid (HS5.out.below hb6)
  obtain ⟨x6, hx6⟩ : ∃ x, errV (dNr R2 R3) = x := ⟨_, rfl⟩
  rw [hx6]
  have HX6 := Lib.hid hx6
  clear hs6 hb6 hB5 hx6 HS5
  go_wp2_with fail
  with_reducible refine (delta_s R1 R1 A1 A1 c1 c1 _ q1 q1 (HR1.out.below hB6) (HR1.out.below hB6)).mono ?_
  rintro e w7 ⟨v7, rfl, hs7, hb7⟩
  have hB7 : Below w.heap.size w w7 := hB6.trans (hb7.mono hB6.size)
  have hself := self_back HV1.out
  rw [show dNr R1 R1 = 0 from hself.1, show errV 0 = Value.nilIface from rfl]
  rw [show dLr R1 R1 = [192] from hself.2] at hs7
  have HS7 := Lib.hid hs7
  have HS57 := Lib.hid (HS56.out.below hb7)
  have HS67 := Lib.hid (HS6.out.below hb7)
  clear hs7 hb7 hB6 HS6 HS56 hself
  rcases errV_2 HX5.out with ⟨n5, rfl⟩ | ⟨n5, rfl⟩
  · rcases errV_2 HX6.out with ⟨n6, rfl⟩ | ⟨n6, rfl⟩
    · have HN5 := Lib.hid n5
      have HN6 := Lib.hid n6
      clear n5 n6
      go_wp2_with fail
      with_reducible refine (apply_s R1 R2 A1 c1 v5 _ q1 hcap HZ.out (HR1.out.below hB7) HS57.out HN5.out).mono ?_
      rintro e w8 ⟨A8, c8, rfl, hz8, hc8, hr8, hb8⟩
      have hB8 : Below w.heap.size w w8 := hB7.trans (hb8.mono hB7.size)
      have HR8 := Lib.hid hr8
      have HZ8 := Lib.hid hz8
      have HS68 := Lib.hid (HS67.out.below hb8)
      have HS78 := Lib.hid (HS7.out.below hb8)
      clear hz8 hr8 hb8 hB7 HS57 HS67 HS7
      go_wp2_with fail
      with_reducible refine (apply_s R2 R3 A8 c8 v6 _ q2 hc8 HZ8.out HR8.out HS68.out HN6.out).mono ?_
      rintro e w9 ⟨A9, c9, rfl, hz9, hc9, hr9, hb9⟩
      have hB9 : Below w.heap.size w w9 := hB8.trans (hb9.mono hB8.size)
      have HR9 := Lib.hid hr9
      have HR89 := Lib.hid (HR8.out.below hb9)
      have hs9 := HS78.out.below hb9
      clear hz9 hr9 hb9 hB8 HS68 HS78 HZ8 hc8 hc9
      obtain ⟨A7, cp, rfl, hc7⟩ := Rdb.of_src hs9
      obtain ⟨bu, ou, rfl, hbu, hcell⟩ := hc7 (by decide)
      have u0 : w9.cell? ⟨bu, ou, none⟩ = some (.int .u8 192) := hcell 0 192 rfl
      clear hc7 hcell hs9
      rw [show ([192] : List Nat).length = 1 from rfl]
      go_wp2_with fail
      with_reducible refine (sameViews_c R2.length A8 A2 c8 c2 (mx R2) _ q2 HR89.out (HR2.out.below hB9)).mono ?_
      rintro e w10 ⟨rfl, hb10⟩
      have hB10 : Below w.heap.size w w10 := hB9.trans (hb10.mono hB9.size)
      have HR10 := Lib.hid (HR9.out.below hb10)
      clear hb10 hB9 HR89 HR9 u0 hbu
      go_wp2_with fail
      with_reducible refine (sameViews_c R3.length A9 A3 c9 c3 (mx R3) _ q3 HR10.out (HR3.out.below hB10)).mono ?_
      rintro e w11 ⟨rfl, hb11⟩
      have hB11 : Below w.heap.size w w11 := hB10.trans (hb11.mono hB10.size)
      go_wp2
      go_ret
      exact ⟨rfl, hB11⟩
    · have e6 : dNr R2 R3 = 4 := (dNr_two HV2.out HV3.out).resolve_left n6
      rw [e6]
      clear n5 n6 e6
      go_wp2_with fail
      with_reducible refine (tell_nil _).mono ?_
      rintro e w8 ⟨rfl, rfl⟩
      go_wp2_with fail
      with_reducible refine (tell_hit 4 _ (hH.below hB7)).mono ?_
      rintro e w8 ⟨rfl, hb8⟩
      have hB8 : Below w.heap.size w w8 := hB7.trans (hb8.mono hB7.size)
      clear hB7 hb8
      go_wp2
      go_ret
      exact ⟨rfl, hB8⟩
  · have e5 : dNr R1 R2 = 4 := (dNr_two HV1.out HV2.out).resolve_left n5
    rw [e5]
    clear n5 e5 HX5
    have HXX := HX6
    go_wp2_with fail
    with_reducible refine (tell_hit 4 _ (hH.below hB7)).mono ?_
    rintro e w8 ⟨rfl, hb8⟩
    have hB8 : Below w.heap.size w w8 := hB7.trans (hb8.mono hB7.size)
    clear hB7 hb8
    go_wp2
    go_ret
    exact ⟨rfl, hB8⟩
theorem snapBack_w (A1 : Option Addr) (n1 c1 : Nat) (M1 : Nat → Nat → Int) (A2 : Option Addr) (n2 c2 : Nat) (M2 : Nat → Nat → Int) (A3 : Option Addr) (n3 c3 : Nat) (M3 : Nat → Nat → Int) (w : World) (hH : Handle w)
    (_hn1 : n1 ≤ maxLen) (hR1 : Reads w A1 n1 11 M1) (_hM1 : ∀ i j, -9223372036854775808 ≤ M1 i j ∧ M1 i j ≤ 9223372036854775807) (hk1 : n1 ≤ 1599289640354) (hc1 : n1 ≤ c1) (hz1 : A1 = none → n1 = 0 ∧ c1 = 0)
    (_hn2 : n2 ≤ maxLen) (hR2 : Reads w A2 n2 11 M2) (_hM2 : ∀ i j, -9223372036854775808 ≤ M2 i j ∧ M2 i j ≤ 9223372036854775807) (hk2 : n2 ≤ 1599289640354) (_hc2 : n2 ≤ c2) (_hz2 : A2 = none → n2 = 0 ∧ c2 = 0)
    (_hn3 : n3 ≤ maxLen) (hR3 : Reads w A3 n3 11 M3) (_hM3 : ∀ i j, -9223372036854775808 ≤ M3 i j ∧ M3 i j ≤ 9223372036854775807) (hk3 : n3 ≤ 1599289640354) (_hc3 : n3 ≤ c3) (_hz3 : A3 = none → n3 = 0 ∧ c3 = 0) :
    Calls Tryd.prog 12 #[.slice A1 n1 c1, .slice A2 n2 c2, .slice A3 n3 c3] w fun e w' => e = .returned (.bool true) ∧ Below w.heap.size w w' := by
  obtain ⟨R1, rfl, _, r1⟩ := reads_list hR1
  obtain ⟨R2, rfl, _, r2⟩ := reads_list hR2
  obtain ⟨R3, rfl, _, r3⟩ := reads_list hR3
  exact snapBack_r R1 R2 R3 A1 c1 A2 c2 A3 c3 w hH hk1 hk2 hk3 r1 r2 r3 hc1 hz1
end Go.Proofs.YtnkinnfpebploaaDoor
namespace Go.Proofs.YtnkinnfpebploaaDoor
open Go.ChangeShapes Go.WideShapes Go.ChangeAt Go.RowKit
set_option maxRecDepth 100000 in
theorem snapBack_lifted (os : Os) (started : os.Started) (H : Type) (enc : TypeId × Value → H) :
    ReturnsInHanded {} Tryd.checked os 12 .any (fun w args => (Rows.snapBackSpec.pre enc Tryd.prog Tryd.f12 [] false w args ∧ laidMetH Tryd.prog [("errors.errorType", Rows.laid_errors_errorType)] w) ∧ sizedMet enc Tryd.prog Tryd.f12 (OpenSpec.ofChange Rows.snapBackSpec) false w args)
      (Rows.snapBackSpec.post enc Tryd.prog Tryd.f12 false true false false) := by
  refine returnsInHanded_of_change_and (C := Tryd.checked) (X := fun w _ => laidMetH Tryd.prog [("errors.errorType", Rows.laid_errors_errorType)] w) (fun _ _ _ hh h => h.of_heap hh) own started (by kernel_rfl) Tryd.func12
    (ChangeSpec.witness_at (enc := enc) (C := Tryd.checked) (os := os) (X := fun w _ => laidMetH Tryd.prog [("errors.errorType", Rows.laid_errors_errorType)] w) false (laidWorld os) #[.slice none 0 0, .slice none 0 0, .slice none 0 0] 8 rfl (by kernel_rfl) (by kernel_rfl) (by kernel_rfl) (by kernel_rfl) (by kernel_rfl) (laidWorld_met os _)) ?_
  intro W base args ds gs before hval0 hW _ hwt hL _
  have hval : ∀ (j : Nat) t v, Tryd.f12.params[j]? = some t → args[j]? = some v → Value.okWide Tryd.prog W .any base t v := hval0
  have hH := handle_of_laid hL
  obtain ⟨p, q, hA0, _⟩ := id hW
  have hsz := (trodAll_length _ _ _ _ hA0).1
  obtain ⟨v0, v1, v2, rfl⟩ : ∃ v0 v1 v2, args = #[v0, v1, v2] := by
    rcases args with ⟨_ | ⟨v0, _ | ⟨v1, _ | ⟨v2, _ | ⟨v3, l⟩⟩⟩⟩⟩ <;> first | exact ⟨v0, v1, v2, rfl⟩ | (simp [Tryd.params12] at hsz)
  obtain ⟨d0, p0, g0, t0⟩ := trodAll_in _ _ _ _ hA0 0 101 v0 (by rw [Tryd.params12]; rfl) rfl
  obtain ⟨A0, n0, c0, M0, rfl, hn0, hR0, hM0⟩ := open_rows 8 11 Tryd.underlying101 (by kernel_rfl) (by kernel_rfl) (by decide) (slice_of_okv Tryd.underlying101 (hval 0 101 v0 (by rw [Tryd.params12]; rfl) rfl)) t0
  have hz0 := slice_reach hwt (t := 101) (j := 0) (by rw [Tryd.params12]; rfl) (ds_in g0) Tryd.underlying101 t0
  have hk0 : n0 ≤ 1599289640354 := by
    rw [show Tryd.checked.prog.bytesOf 145 = 88 from by kernel_rfl] at hz0
    unfold reachBytes at hz0
    omega
  obtain ⟨d1, p1, g1, t1⟩ := trodAll_in _ _ _ _ hA0 1 101 v1 (by rw [Tryd.params12]; rfl) rfl
  obtain ⟨A1, n1, c1, M1, rfl, hn1, hR1, hM1⟩ := open_rows 8 11 Tryd.underlying101 (by kernel_rfl) (by kernel_rfl) (by decide) (slice_of_okv Tryd.underlying101 (hval 1 101 v1 (by rw [Tryd.params12]; rfl) rfl)) t1
  have hz1 := slice_reach hwt (t := 101) (j := 1) (by rw [Tryd.params12]; rfl) (ds_in g1) Tryd.underlying101 t1
  have hk1 : n1 ≤ 1599289640354 := by
    rw [show Tryd.checked.prog.bytesOf 145 = 88 from by kernel_rfl] at hz1
    unfold reachBytes at hz1
    omega
  obtain ⟨d2, p2, g2, t2⟩ := trodAll_in _ _ _ _ hA0 2 101 v2 (by rw [Tryd.params12]; rfl) rfl
  obtain ⟨A2, n2, c2, M2, rfl, hn2, hR2, hM2⟩ := open_rows 8 11 Tryd.underlying101 (by kernel_rfl) (by kernel_rfl) (by decide) (slice_of_okv Tryd.underlying101 (hval 2 101 v2 (by rw [Tryd.params12]; rfl) rfl)) t2
  have hz2 := slice_reach hwt (t := 101) (j := 2) (by rw [Tryd.params12]; rfl) (ds_in g2) Tryd.underlying101 t2
  have hk2 : n2 ≤ 1599289640354 := by
    rw [show Tryd.checked.prog.bytesOf 145 = 88 from by kernel_rfl] at hz2
    unfold reachBytes at hz2
    omega
  refine (snapBack_w A0 n0 c0 M0 A1 n1 c1 M1 A2 n2 c2 M2 W hH hn0 hR0 hM0 hk0 (trod_cap Tryd.underlying101 t0 _ _ _ rfl) (trod_nil Tryd.underlying101 t0) hn1 hR1 hM1 hk1 (trod_cap Tryd.underlying101 t1 _ _ _ rfl) (trod_nil Tryd.underlying101 t1) hn2 hR2 hM2 hk2 (trod_cap Tryd.underlying101 t2 _ _ _ rfl) (trod_nil Tryd.underlying101 t2)).mono fun e W' ⟨he, hb⟩ => ⟨_, he, ?_⟩
  exact law_post laid (by kernel_rfl) (by kernel_rfl) Tryd.underlying4 rfl (fun ds h => by match ds, h with | [d0, d1, d2], _ => rfl) hW hb

theorem snapBack_over : Rows.snapBackRow.holds Tryd.pinned (OpenSpec.ofChange Rows.snapBackSpec) :=
  OpenClaim.holds_of_wide 12 Tryd.f12 rfl rfl rfl rfl rfl rfl rfl ⟨rfl, rfl, rfl, rfl, rfl⟩ rfl rfl rfl rfl rfl (by kernel_rfl) Tryd.func12 (by kernel_rfl)
    (of_decide_eq_true (by kernel_rfl)) (by unfold Func.isWrapper; first | (rw [if_pos (by decide +kernel)]; kernel_rfl) | (rw [if_neg (by decide +kernel)]; exact ⟨rfl, rfl⟩))
    (fun os started H enc _ => snapBack_lifted os started H enc)
theorem snapBack_stand : ∀ t ∈ Tryd.f12.params.toList, Tryd.prog.wantsStandIn t = false := by
  rw [Tryd.params12]
  intro t ht
  simp only [List.mem_cons, List.mem_nil_iff, or_false] at ht
  rcases ht with rfl | rfl | rfl <;> kernel_rfl
theorem snapBack_card : Rows.SnapBackCardSaid :=
  Claim7.holds_tied_plain_at .later [] [.handle] true Rows.snapBackCard.stood.harness true
    snapBack_over (fun _ h => by cases h) (by kernel_rfl) (fun _ h => by cases h) snapBack_row_tie rfl ⟨rfl, rfl⟩ (by kernel_rfl) rfl
    (fun f fn hf hfn => by
      obtain rfl : f = 12 := Option.some.inj ((show Tryd.prog.funcNamed "gyre/gyrekeep.SnapBack" = some 12 by kernel_rfl).symm.trans hf) |>.symm
      obtain rfl : fn = Tryd.f12 := (Option.some.inj (Tryd.func12.symm.trans hfn)).symm
      exact ⟨by kernel_rfl, fun j t ht => snapBack_stand t (List.mem_of_getElem? (by simpa using ht))⟩)
    (by kernel_rfl)
#print axioms snapBack_card
end Go.Proofs.YtnkinnfpebploaaDoor
