/- Arguments that are structs of numbers and, at their end, a slice of bytes. Conditions: none. -/
import Derived.Test.YtnkinnfpebploaaOpenB
namespace Go.Proofs.Ytnkinnfpebploaa
open Go.ChangeShapes Go.WideShapes Go.ChangeAt Go.RowKit Go.Deep
section
variable {H : Type} {enc : TypeId × Value → H} {P : Program} {w : World} {base : Nat} {spare : Nat → Bool} {held : Bool}
theorem open_agg_bytes {r : Reach} {b : Nat} {t ti tb te : TypeId} {fs : Array Field} {v : Value} {d : DataW H} {p : List MemPlace} (n : Nat) (hti : P.underlying ti = some (.int .i64)) (htb : P.underlying tb = some (.slice te)) (hte : P.underlying te = some (.int .u8)) (hce : P.cellsOf te = 1) (hcb : P.cellsOf tb = 1)
    (ht : P.underlying t = some (.struct fs)) (hct : P.cellTypes P.depth t = some (List.replicate n ti ++ [tb])) (hn : P.cellsOf t = n + 1) (hf : (fs[n]?).map (fun f => (f.offset, f.type)) = some (n, tb))
    (hok : Value.okWide P w r b t v) (hT : DataW.Trod enc P w base spare held t v d p) :
    ∃ (xs : List Int) (A : Option Addr) (N cap : Nat) (l : List Nat), v = .agg (xs.map (Value.int .i64) ++ [Value.slice A N cap]).toArray ∧ xs.length = n ∧ (∀ x ∈ xs, -9223372036854775808 ≤ x ∧ x ≤ 9223372036854775807) ∧ Src w (.slice A N cap) l ∧ N = l.length ∧ (∀ b ∈ l, b < 256) ∧ l.length ≤ maxLen := by
  unfold Value.okWide at hok
  rw [ht] at hok
  obtain ⟨cs, rfl, hsz, ts, hts, _, hcell⟩ := hok
  rw [hct] at hts
  obtain rfl := Option.some.inj hts
  rw [hn] at hsz
  have hlen : (List.replicate n ti ++ [tb]).length = n + 1 := by simp
  -- the last cell
  obtain ⟨c, hc⟩ : ∃ c, cs[n]? = some c := ⟨_, Array.getElem?_eq_getElem (by omega)⟩
  have hlast : ∃ A N cap, c = .slice A N cap := by
    obtain ⟨u, hu, hk⟩ := hcell n c hc
    have e : n % (List.replicate n ti ++ [tb]).length = n := by rw [hlen]; exact Nat.mod_eq_of_lt (by omega)
    rw [e, List.getElem?_append_right (by simp)] at hu
    simp at hu
    subst hu
    unfold Cell.okWide at hk
    rw [htb] at hk
    cases c <;> simp [Cell.ok, htb] at hk
    exact ⟨_, _, _, rfl⟩
  obtain ⟨A, N, cap, rfl⟩ := hlast
  obtain ⟨fuel, htr⟩ := hT
  obtain ⟨ys, m, _, _, hcl, hyl, hfl⟩ := DataW.trod_struct ht htr
  cases hfn : fs[n]? with
  | none => rw [hfn] at hf; cases hf
  | some f =>
    rw [hfn] at hf
    simp only [Option.map_some, Option.some.injEq, Prod.mk.injEq] at hf
    obtain ⟨h1, h2⟩ := hf
    have h3 := hfl n f hfn
    rw [h1, h2, hcb] at h3
    have hnlt : n < ys.length := by rw [hyl]; exact (Array.getElem?_eq_some_iff.1 hfn).1
    rw [List.getElem?_eq_getElem hnlt] at h3
    have hcells : (Value.agg cs).cells = cs := rfl
    have e4 : (((Value.agg cs).cells.toList).drop n).take 1 = [Value.slice A N cap] := by
      rw [hcells, List.drop_eq_getElem_cons (by simpa using (by omega : n < cs.size))]
      have := Array.getElem?_eq_some_iff.1 hc
      obtain ⟨hlt, he⟩ := this
      simp [he]
    rw [e4] at h3
    obtain ⟨l, hS, h8, hl⟩ := open_bytes (v := .slice A N cap) (d := (ys[n]'hnlt).1) (p := (ys[n]'hnlt).2) htb hte hce ⟨A, N, cap, rfl⟩ ⟨m, h3⟩
    have hN : N = l.length := by
      obtain ⟨A', c', e, _⟩ := Rdb.of_src hS
      cases e; rfl
    -- the numbers
    have key : ∀ (k : Nat) (cl : List Value), cl.length = k → (∀ x ∈ cl, ∃ k : Int, x = .int .i64 k ∧ -9223372036854775808 ≤ k ∧ k ≤ 9223372036854775807) →
        ∃ l : List Int, l.length = k ∧ cl = l.map (Value.int .i64) ∧ ∀ x ∈ l, -9223372036854775808 ≤ x ∧ x ≤ 9223372036854775807 := by
      intro k
      induction k with
      | zero => intro cl h0 _; exact ⟨[], rfl, by simpa using h0, by simp⟩
      | succ k ih =>
        intro cl h0 hx
        match cl, h0 with
        | c :: cl, h0 =>
          obtain ⟨k, rfl, hk⟩ := hx c (by simp)
          obtain ⟨l, h1, h2, h3⟩ := ih cl (by simpa using h0) (fun x hx' => hx x (by simp [hx']))
          exact ⟨k :: l, by simp [h1], by simp [h2], by intro x hx'; simp at hx'; rcases hx' with rfl | hx'; exact hk; exact h3 x hx'⟩
    obtain ⟨xs, x1, x2, x3⟩ := key n (cs.toList.take n) (by simp; omega) (by
      intro x hx
      obtain ⟨i, hi, rfl⟩ := List.mem_iff_getElem.1 hx
      have hin : i < n := by simp at hi; omega
      have hic : cs[i]? = some ((cs.toList.take n)[i]) := by
        rw [List.getElem_take]
        simp at hi ⊢
      obtain ⟨u, hu, hk⟩ := hcell i _ hic
      have e : i % (List.replicate n ti ++ [tb]).length = i := by rw [hlen]; exact Nat.mod_eq_of_lt (by omega)
      rw [e, List.getElem?_append_left (by simpa using hin), List.getElem?_replicate, if_pos hin] at hu
      obtain rfl := Option.some.inj hu
      exact int_of_ok hti hk)
    refine ⟨xs, A, N, cap, l, ?_, x1, x3, hS, hN, h8, hl⟩
    congr 1
    apply Array.ext'
    have e6 : (cs.toList.drop n).length = 1 := by simp; omega
    have e7 : (cs.toList.drop n).take 1 = cs.toList.drop n := List.take_of_length_le (by omega)
    have e8 : cs.toList.drop n = [Value.slice A N cap] := by rw [← e7]; simpa [hcells] using e4
    show cs.toList = xs.map (Value.int .i64) ++ [Value.slice A N cap]
    rw [← x2, ← e8, List.take_append_drop]
end
end Go.Proofs.Ytnkinnfpebploaa
