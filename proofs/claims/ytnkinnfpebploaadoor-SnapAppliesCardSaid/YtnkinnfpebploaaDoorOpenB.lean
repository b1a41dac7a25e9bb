/- Arguments that are slices of bytes, opened. Conditions: none. -/
import Derived.Test.YtnkinnfpebploaaDoorOpen
import Derived.Test.YtnkinnfpebploaaDoorBits3
import Derived.Test.YtnkinnfpebploaaDoorRbits2
namespace Go.Proofs.YtnkinnfpebploaaDoor
open Go.ChangeShapes Go.WideShapes Go.ChangeAt Go.RowKit Go.Deep
section
variable {H : Type} {enc : TypeId × Value → H} {P : Program} {w : World} {base : Nat} {spare : Nat → Bool} {held : Bool}
theorem u8_wf {n : Int} (h : (Lit.int .u8 n).wf = true) : 0 ≤ n ∧ n ≤ 255 := by
  simp [Lit.wf, IntKind.min, IntKind.max, IntKind.signed, IntKind.bits] at h
  exact h
/-- a slice of bytes -/
theorem open_bytes {t e : TypeId} {v : Value} {d : DataW H} {p : List MemPlace} (ht : P.underlying t = some (.slice e)) (hu : P.underlying e = some (.int .u8)) (hc : P.cellsOf e = 1) (hv : ∃ A n cap, v = .slice A n cap) (h : DataW.Trod enc P w base spare held t v d p) :
    ∃ l : List Nat, Src w v l ∧ (∀ b ∈ l, b < 256) ∧ l.length ≤ maxLen := by
  obtain ⟨fuel, hf⟩ := h
  obtain ⟨A0, n0, c0, rfl⟩ := hv
  rcases open_slice ht hf with ⟨h0, _⟩ | ⟨a, len, cap, m, n, D, Pl, hcs, _, hl, hm, hmm, _, hi⟩
  · simp [Value.cells] at h0
    obtain ⟨rfl, rfl, rfl⟩ := h0
    exact ⟨[], .inl ⟨rfl, rfl⟩, by simp, by simp⟩
  · simp [Value.cells] at hcs
    obtain ⟨e1, e2, e3⟩ := hcs
    subst e1 e2 e3
    have key : ∀ i, i < n0 → ∃ x : Nat, w.cell? (a.add i) = some (.int .u8 (x : Int)) ∧ x < 256 := by
      intro i hil
      have him : i < m := by rw [hmm]; split <;> omega
      obtain ⟨cs', hcs', htr⟩ := hi i him
      obtain ⟨_, hcl, hat⟩ := World.cells?_some hcs'
      obtain ⟨x, rfl, _, hw⟩ := DataW.trod_int hu htr
      rw [hc] at hat
      have h2 := hat 0 (by omega)
      rw [Go.Deep.add_add] at h2
      obtain ⟨w1, w2⟩ := u8_wf hw
      refine ⟨x.toNat, ?_, by omega⟩
      simp only [Nat.mul_one, Nat.add_zero] at h2
      rw [h2, show ((x.toNat : Nat) : Int) = x by omega]
      rfl
    refine ⟨(List.range n0).map fun i => match w.cell? (a.add i) with | some (.int .u8 x) => x.toNat | _ => 0, .inr ⟨a, c0, by simp, ?_⟩, ?_, by simp; omega⟩
    · intro j u hj
      unfold u8s at hj
      simp only [List.getElem?_map, Option.map_map, Option.map_eq_some_iff] at hj
      obtain ⟨i, hi1, hi2⟩ := hj
      have hlt : j < n0 := by
        have := (List.getElem?_eq_some_iff.1 hi1).1
        simpa using this
      have hij : i = j := by
        have := (List.getElem?_eq_some_iff.1 hi1).2
        simpa using this.symm
      subst hij
      obtain ⟨x, hx, _⟩ := key i hlt
      rw [← hi2]
      simp only [Function.comp, hx]
      simp
    · intro b hb
      obtain ⟨i, hi1, rfl⟩ := List.mem_map.1 hb
      obtain ⟨x, hx, hx2⟩ := key i (by simpa using hi1)
      simp only [hx]
      simpa using hx2
end
theorem Rdb.of_src {w : World} {v : Value} {l : List Nat} (h : Src w v l) : Rdb w v l := by
  rcases h with ⟨rfl, rfl⟩ | ⟨ad, cap, rfl, hc⟩
  · exact ⟨none, 0, rfl, fun h => absurd h (by simp)⟩
  · refine ⟨some ad, cap, rfl, fun h0 => ?_⟩
    obtain ⟨x, hx⟩ : ∃ x, l[0]? = some x := ⟨_, List.getElem?_eq_getElem h0⟩
    have h1 := hc 0 (.int .u8 (x : Int)) (by unfold u8s; rw [List.getElem?_map, hx]; rfl)
    have e0 : ad.add 0 = ad := by unfold Addr.add; exact if_pos rfl
    rw [e0] at h1
    have hs := spot_none h1
    refine ⟨ad.block, ad.off, by rw [← hs], lt_of_cell h1, fun j y hy => ?_⟩
    have h2 := hc j (.int .u8 (y : Int)) (by unfold u8s; rw [List.getElem?_map, hy]; rfl)
    rw [hs, add_plain] at h2
    exact h2
end Go.Proofs.YtnkinnfpebploaaDoor
