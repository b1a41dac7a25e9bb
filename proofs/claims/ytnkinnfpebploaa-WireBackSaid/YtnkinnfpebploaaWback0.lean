/- What is told is told again (plain). Conditions: none. -/
import Derived.Test.YtnkinnfpebploaaTold0
import Derived.Test.YtnkinnfpebploaaBitsR
namespace Go.Proofs.Ytnkinnfpebploaa
open B
theorem varD_back {T Z : List Nat} {a n : Nat} (h : T.drop a = varL n ++ Z) (hn : n < 4611686018427387904) : varD T a = ((n : Int), 0, a + (varL n).length) := varD_ok (varG_back h hn)
theorem intD_back {T Z : List Nat} {a : Nat} {n : Int} (h : T.drop a = intL n ++ Z) (h1 : -1152921504606846976 ≤ n) (h2 : n ≤ 1152921504606846976) : intD T a = (n, 0, a + (intL n).length) := intD_ok (intG_back h h1 h2)
theorem getD_back {T Z : List Nat} {a k n : Nat} (h : T.drop a = bitsOf k n ++ Z) (h0 : 0 < k) (hk : k ≤ 62) (hn : n < 2 ^ k) : getD T a (k : Int) = ((n : Int), 0, a + (bitsOf k n).length) := by
  have hl := drop_len h (by rw [bitsOf_length]; exact h0)
  rw [bitsOf_length] at hl ⊢
  unfold getD
  rw [if_neg (by omega), if_neg (by simpa using hl)]
  simp only [Int.toNat_natCast]
  rw [getV_bits h hn]
theorem asked_back {t n s k b x y z : Int} (h : AskOk t n s k b x y z) (h0 : 0 ≤ k) (h2 : k ≤ 2) : ∃ (n5 e5 n6 e6 n7 e7 n8 e8 : Int) (a1 a2 a3 a4 a5 a6 a7 a8 : Nat), Pr (openL (pack (askL t n s k b x y z))) t 0 n 0 s 0 k 0 n5 e5 n6 e6 n7 e7 n8 e8 a1 a2 a3 a4 a5 a6 a7 a8 ∧
    Good (pack (askL t n s k b x y z)) t 0 n 0 s 0 k 0 n5 e5 n6 e6 n7 e7 n8 e8 ∧ cb k n5 = cb k b ∧ cx k n6 = cx k x ∧ cx k n7 = cx k y ∧ cx k n8 = cx k z := by
  obtain ⟨g1, g2, g3⟩ := h
  have i1 := g1 t (by simp)
  have i2 := g1 n (by simp)
  have i3 := g1 s (by simp)
  unfold InTop at i1 i2 i3
  have hT := open_pack (askL_bin t n s k b x y z)
  obtain ⟨Z0, hZ⟩ : ∃ Z, Z = List.replicate (8 * bytesOf (askL t n s k b x y z) - (askL t n s k b x y z).length) 0 := ⟨_, rfl⟩
  rw [← hZ] at hT
  clear hZ
  obtain ⟨T, hTT⟩ : ∃ T, T = openL (pack (askL t n s k b x y z)) := ⟨_, rfl⟩
  have hsame : askL t n s k (cb k b) (cx k x) (cx k y) (cx k z) = askL t n s k b x y z := by
    unfold askL cb cx
    by_cases hk : k = 0
    · simp [hk]
    · by_cases hk1 : k = 1
      · simp [hk1]
      · simp [hk, hk1]
  have hok : AskOk t n s k (cb k b) (cx k x) (cx k y) (cx k z) := by
    refine ⟨g1, fun hk => by unfold cb; rw [if_pos hk]; exact g2 hk, fun hk => by unfold cx; rw [if_pos hk, if_pos hk, if_pos hk]; exact g3 hk⟩
  have d0 : T.drop 0 = varL t.toNat ++ (varL n.toNat ++ (varL s.toNat ++ (bitsOf 2 k.toNat ++ ((if k ≠ 0 then varsL [b] else []) ++ ((if k = 1 then intsL [x, y, z] else []) ++ Z0))))) := by
    rw [hTT, hT]
    unfold askL
    simp [varsL, List.append_assoc]
  rw [← hTT]
  have h1 := varD_back d0 (by omega)
  have d1 := drop_more d0
  have h2' := varD_back d1 (by omega)
  have d2 := drop_more d1
  have h3 := varD_back d2 (by omega)
  have d3 := drop_more d2
  have h4 := getD_back d3 (by omega) (by omega) (by omega)
  have d4 := drop_more d3
  have c1 : ((t.toNat : Nat) : Int) = t := by omega
  have c2 : ((n.toNat : Nat) : Int) = n := by omega
  have c3 : ((s.toNat : Nat) : Int) = s := by omega
  have c4 : ((k.toNat : Nat) : Int) = k := by omega
  rw [c1] at h1
  rw [c2] at h2'
  rw [c3] at h3
  rw [c4] at h4
  obtain ⟨a4, ha4⟩ : ∃ a4, a4 = 0 + (varL t.toNat).length + (varL n.toNat).length + (varL s.toNat).length + (bitsOf 2 k.toNat).length := ⟨_, rfl⟩
  rw [← ha4] at h4 d4
  by_cases hk : k = 0
  · subst hk
    refine ⟨_, _, _, _, _, _, _, _, _, _, _, a4, _, _, _, _, ⟨h1, h2', h3, h4, rfl, rfl, rfl, rfl⟩, ⟨⟨rfl, rfl, rfl, rfl, fun h => absurd rfl h, fun h => by cases h⟩, h2, ?_, ?_⟩, rfl, rfl, rfl, rfl⟩
    · exact hok
    · exact congrArg pack hsame
  · rw [if_pos hk] at d4
    have i5 := g2 hk
    unfold InTop at i5
    have d4' : T.drop a4 = varL b.toNat ++ ((if k = 1 then intsL [x, y, z] else []) ++ Z0) := by rw [d4]; simp [varsL]
    have h5 := varD_back d4' (by omega)
    have d5 := drop_more d4'
    have c5 : ((b.toNat : Nat) : Int) = b := by omega
    rw [c5] at h5
    by_cases hk1 : k = 1
    · rw [if_pos hk1] at d5
      have i6 := g3 hk1 x (by simp)
      have i7 := g3 hk1 y (by simp)
      have i8 := g3 hk1 z (by simp)
      unfold InSp at i6 i7 i8
      have d5' : T.drop (a4 + (varL b.toNat).length) = intL x ++ (intL y ++ (intL z ++ Z0)) := by rw [d5]; simp [intsL]
      have h6 := intD_back d5' (by omega) (by omega)
      have d6 := drop_more d5'
      have h7 := intD_back d6 (by omega) (by omega)
      have d7 := drop_more d6
      have h8 := intD_back d7 (by omega) (by omega)
      exact ⟨_, _, _, _, _, _, _, _, _, _, _, a4, _, _, _, _, ⟨h1, h2', h3, h4, h5, h6, h7, h8⟩, ⟨⟨rfl, rfl, rfl, rfl, fun _ => rfl, fun _ => ⟨rfl, rfl, rfl⟩⟩, h2, hok, congrArg pack hsame⟩, rfl, rfl, rfl, rfl⟩
    · have e : ∀ q : Int, cx k q = 0 := fun q => by unfold cx; rw [if_neg hk1]
      refine ⟨_, _, _, _, _, _, _, _, _, _, _, a4, _, _, _, _, ⟨h1, h2', h3, h4, h5, rfl, rfl, rfl⟩, ⟨⟨rfl, rfl, rfl, rfl, fun _ => rfl, fun h => absurd h hk1⟩, h2, ?_, ?_⟩, rfl, ?_, ?_, ?_⟩
      · simp only [e] at hok ⊢; exact hok
      · simp only [e] at hsame ⊢; exact congrArg pack hsame
      all_goals rw [e, e]
theorem getV_next {T Z : List Nat} {a : Nat} {x : Nat} (h : T.drop a = bitsOf 8 x ++ Z) (hx : x < 256) : getV T a 8 = x ∧ T.drop (a + 8) = Z := by
  refine ⟨getV_bits h hx, ?_⟩
  have := drop_more h
  rwa [bitsOf_length] at this
theorem byts_cons (T : List Nat) (a n : Nat) : byts T a (n + 1) = getV T a 8 :: byts T (a + 8) n := by
  unfold byts
  rw [List.range_succ_eq_map, List.map_cons, List.map_map]
  congr 1
  apply List.map_congr_left
  intro i _
  show getV T (a + 8 * (i + 1)) 8 = getV T (a + 8 + 8 * i) 8
  congr 1
  omega
theorem byts_back {T : List Nat} : ∀ (l : List Nat) (a : Nat) (Z : List Nat), T.drop a = openL l ++ Z → (∀ b ∈ l, b < 256) → byts T a l.length = l
  | [], _, _, _, _ => rfl
  | x :: l, a, Z, h, h8 => by
    have h' : T.drop a = bitsOf 8 x ++ (openL l ++ Z) := by rw [h]; simp [openL]
    obtain ⟨e1, e2⟩ := getV_next h' (h8 x (by simp))
    rw [List.length_cons, byts_cons, e1, byts_back l (a + 8) Z e2 fun b hb => h8 b (by simp [hb])]
theorem told_back {st ba ix ma : Nat} {l : List Nat} (h : RightP st ba ix ma l.length) (h8 : ∀ b ∈ l, b < 256) : ∃ (a1 a2 a3 a4 a5 : Nat), Pt (openL (pack (tellL st ba ix ma l))) st ba ma ix l.length 0 0 0 0 0 a1 a2 a3 a4 a5 ∧
    GoodT (pack (tellL st ba ix ma l)) st ba ma ix l.length 0 0 0 0 0 a5 ∧ byts (openL (pack (tellL st ba ix ma l))) a5 l.length = l := by
  have hr := h
  obtain ⟨r1, r2, r3, r4, r5, r6, r7, r8, r9⟩ := h
  have hT := open_pack (tellL_bin st ba ix ma l)
  obtain ⟨Z0, hZ⟩ : ∃ Z, Z = List.replicate (8 * bytesOf (tellL st ba ix ma l) - (tellL st ba ix ma l).length) 0 := ⟨_, rfl⟩
  rw [← hZ] at hT
  clear hZ
  obtain ⟨T, hTT⟩ : ∃ T, T = openL (pack (tellL st ba ix ma l)) := ⟨_, rfl⟩
  have d0 : T.drop 0 = varL st ++ (varL ba ++ (bitsOf 6 ma ++ (bitsOf 6 ix ++ (bitsOf 7 l.length ++ (openL l ++ Z0))))) := by
    rw [hTT, hT]
    unfold tellL
    simp [List.append_assoc]
  have h1 := varD_back d0 (by omega)
  have d1 := drop_more d0
  have h2 := varD_back d1 (by omega)
  have d2 := drop_more d1
  have h3 := getD_back d2 (by omega) (by omega) (by omega)
  have d3 := drop_more d2
  have h4 := getD_back d3 (by omega) (by omega) (by omega)
  have d4 := drop_more d3
  have h5 := getD_back d4 (by omega) (by omega) (by omega)
  have d5 := drop_more d4
  have hb := byts_back l _ Z0 d5 h8
  have hlen : 0 + (varL st).length + (varL ba).length + (bitsOf 6 ma).length + (bitsOf 6 ix).length + (bitsOf 7 l.length).length + 8 * l.length ≤ T.length := by
    have h1 := congrArg List.length d5
    rw [List.length_drop, List.length_append, openL_length] at h1
    have h2 := drop_len d4 (by rw [bitsOf_length]; omega)
    omega
  rw [← hTT]
  refine ⟨_, _, _, _, _, ⟨h1, h2, h3, h4, h5⟩, ⟨⟨rfl, rfl, rfl, rfl, rfl⟩, ?_, hr, ?_⟩, hb⟩
  · rw [← hTT]; exact hlen
  · rw [← hTT, hb]
end Go.Proofs.Ytnkinnfpebploaa
