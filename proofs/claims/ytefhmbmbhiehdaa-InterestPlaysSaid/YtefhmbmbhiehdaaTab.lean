/- Rows of numbers in one block (a slice of structs of numbers). Conditions: none. -/
import Derived.Test.YtefhmbmbhiehdaaMod
import Derived.LaidEqlPtr
import Derived.Laws.Entries
namespace Go.Proofs.Ytefhmbmbhiehdaa
open Go Go.RowKit
/-- one number changed -/
def put1 (M : Nat → Nat → Int) (i j : Nat) (v : Int) : Nat → Nat → Int := fun a b => if a = i ∧ b = j then v else M a b
theorem put1_same (M : Nat → Nat → Int) (i j : Nat) (v : Int) : put1 M i j v i j = v := by simp [put1]
theorem put1_row (M : Nat → Nat → Int) (i j : Nat) (v : Int) {a : Nat} (h : a ≠ i) (b : Nat) : put1 M i j v a b = M a b := by simp [put1, h]
theorem put1_col (M : Nat → Nat → Int) (i j : Nat) (v : Int) (a : Nat) {b : Nat} (h : b ≠ j) : put1 M i j v a b = M a b := by simp [put1, h]
/-- three numbers side by side changed -/
def put3 (M : Nat → Nat → Int) (i j : Nat) (x y z : Int) : Nat → Nat → Int := put1 (put1 (put1 M i j x) i (j + 1) y) i (j + 2) z
theorem put3_row (M : Nat → Nat → Int) (i j : Nat) (x y z : Int) {a : Nat} (h : a ≠ i) (b : Nat) : put3 M i j x y z a b = M a b := by unfold put3; rw [put1_row _ _ _ _ h, put1_row _ _ _ _ h, put1_row _ _ _ _ h]
theorem put3_col (M : Nat → Nat → Int) (i j : Nat) (x y z : Int) (a : Nat) {b : Nat} (h : b < j ∨ j + 2 < b) : put3 M i j x y z a b = M a b := by
  unfold put3; rw [put1_col _ _ _ _ _ (by omega), put1_col _ _ _ _ _ (by omega), put1_col _ _ _ _ _ (by omega)]

/-- block b holds n rows of c numbers (and perhaps more), and may be written -/
def Tab (w : World) (b n c : Nat) (M : Nat → Nat → Int) : Prop :=
  ∃ (cs : Array Value) (T : TypeId), w.heap[b]? = some (.cells cs T (0, 0)) ∧ ∀ k, k < n → ∀ j, j < c → cs[k * c + j]? = some (.int .i64 (M k j))
section
variable {w w' : World} {b n c : Nat} {M : Nat → Nat → Int}
theorem Tab.lt (h : Tab w b n c M) : b < w.heap.size := by
  obtain ⟨cs, T, h, _⟩ := h
  rcases Nat.lt_or_ge b w.heap.size with hl | hl
  · exact hl
  · rw [Array.getElem?_eq_none hl] at h; cases h
theorem Tab.cell (h : Tab w b n c M) {k j : Nat} (hk : k < n) (hj : j < c) : w.cell? ⟨b, k * c + j, none⟩ = some (.int .i64 (M k j)) := by
  obtain ⟨cs, T, h, hc⟩ := h
  unfold World.cell?
  rw [h]
  simpa using hc k hk j hj
theorem Tab.free (h : Tab w b n c M) (o : Nat) : w.frozen? ⟨b, o, none⟩ = false := by
  obtain ⟨cs, T, h, hc⟩ := h
  simp [World.frozen?, h]
theorem Tab.mod {S : Nat → Prop} (h : Tab w b n c M) (k : Mod S w w') (hs : ¬ S b) : Tab w' b n c M := by
  have hl := h.lt
  obtain ⟨cs, T, h, hc⟩ := h
  exact ⟨cs, T, (k.block b hl hs).trans h, hc⟩
theorem Tab.below (h : Tab w b n c M) (k : Below w.heap.size w w') : Tab w' b n c M := h.mod (S := fun _ => False) (Mod.of_below k) id
theorem Tab.alloc (h : Tab w b n c M) (o : Obj) : Tab (w.alloc o) b n c M := h.below ((Below.refl _ _).alloc (Nat.le_refl _) o)
theorem Tab.drew (h : Tab w b n c M) : Tab w.drew b n c M := h.below (Below.refl _ _).drew
theorem Tab.drewN (h : Tab w b n c M) (k : Nat) : Tab (w.drewN k) b n c M := h.below (ext_drewN (Below.refl _ _) k)
theorem Tab.more (h : Tab w b n c M) (m : More) : Tab (more w m) b n c M := h.below (more_below w m)
theorem Tab.far {g i : Nat} {v : Value} (hne : g ≠ b) (h : Tab w b n c M) : Tab (w.setCell ⟨g, i, none⟩ v) b n c M :=
  h.mod (S := (· = g)) (Mod.set (Mod.refl _ _) (.inl rfl)) (fun e => hne e.symm)
theorem Tab.eq {M' : Nat → Nat → Int} (h : Tab w b n c M) (e : ∀ k, k < n → ∀ j, j < c → M k j = M' k j) : Tab w b n c M' := by
  obtain ⟨cs, T, h, hc⟩ := h
  exact ⟨cs, T, h, fun k hk j hj => by rw [hc k hk j hj, e k hk j hj]⟩
theorem place_inj {c k j k' j' : Nat} (hj : j < c) (hj' : j' < c) (h : k * c + j = k' * c + j') : k = k' ∧ j = j' := by
  have hc : 0 < c := by omega
  have h1 : (k * c + j) / c = k := by rw [Nat.mul_comm, Nat.mul_add_div hc, Nat.div_eq_of_lt hj]; rfl
  have h2 : (k' * c + j') / c = k' := by rw [Nat.mul_comm, Nat.mul_add_div hc, Nat.div_eq_of_lt hj']; rfl
  have : k = k' := by rw [← h1, ← h2, h]
  subst this
  exact ⟨rfl, by omega⟩
theorem Tab.set (h : Tab w b n c M) {i j : Nat} (hi : i < n) (hj : j < c) (v : Int) : Tab (w.setCell ⟨b, i * c + j, none⟩ (.int .i64 v)) b n c (put1 M i j v) := by
  obtain ⟨cs, T, h, hc⟩ := h
  refine ⟨cs.setIfInBounds (i * c + j) (.int .i64 v), T, ?_, fun k hk l hl => ?_⟩
  · simp [World.setCell, Array.getElem?_modify, h]
  · have hs : i * c + j < cs.size := by
      have := hc i hi j hj
      exact (Array.getElem?_eq_some_iff.1 this).1
    unfold put1
    by_cases e : k = i ∧ l = j
    · obtain ⟨rfl, rfl⟩ := e
      simp [hs]
    · rw [if_neg e, Array.getElem?_setIfInBounds_ne, hc k hk l hl]
      intro h'
      obtain ⟨e1, e2⟩ := place_inj hj hl h'
      exact e ⟨e1.symm, e2.symm⟩
theorem Tab.set3 (h : Tab w b n c M) {i j : Nat} (hi : i < n) (hj : j + 2 < c) (x y z : Int) :
    Tab (((w.setCell ⟨b, i * c + j, none⟩ (.int .i64 x)).setCell ⟨b, i * c + j + 1, none⟩ (.int .i64 y)).setCell ⟨b, i * c + j + 2, none⟩ (.int .i64 z)) b n c (put3 M i j x y z) :=
  ((h.set hi (by omega) x).set hi (j := j + 1) (by omega) y).set hi (j := j + 2) (by omega) z
end
/-- two pointers that differ -/
theorem neq_ptr {P : Program} (w : World) {tp te : TypeId} {j : TypeInfo} {p q : Addr} {cp cq : Array Value} {t1 t2 : TypeId} (hp : P.underlying tp = some (.pointer te)) (hte : P.info? te = some j) (hs : j.size ≠ 0) (hne : p ≠ q)
    (hcp : w.heap[p.block]? = some (.cells cp t1 (0, 0))) (hcq : w.heap[q.block]? = some (.cells cq t2 (0, 0))) : (binOp .neq tp (.pointer (some p)) (.pointer (some q))).run P w = .ok (.bool true) w := by
  have h : ∀ d : Nat, (Op.equalIn (d + 1) tp (.pointer (some p)) (.pointer (some q))).run P w = .ok false w := fun d => by
    simp [Op.equalIn, run_underlying hp, sizeOf, typeInfo, hte, hs, run_sameAddr_other w hne hcp hcq]
  simp only [binOp]
  simp [Op.equal, Op.maxDepth, h 9999]
/-- the slice value (A, n, _) reads as n rows of c numbers -/
def Reads (w : World) (A : Option Addr) (n c : Nat) (M : Nat → Nat → Int) : Prop := 0 < n → ∃ b o, A = some ⟨b, o, none⟩ ∧ b < w.heap.size ∧ ∀ k, k < n → ∀ j, j < c → w.cell? ⟨b, o + (k * c + j), none⟩ = some (.int .i64 (M k j))
section
variable {w w' : World} {A : Option Addr} {n c : Nat} {M : Nat → Nat → Int}
theorem Reads.below (h : Reads w A n c M) (k : Below w.heap.size w w') : Reads w' A n c M := fun hn => by
  obtain ⟨b, o, e, hb, hc⟩ := h hn
  exact ⟨b, o, e, Nat.lt_of_lt_of_le hb k.size, fun i hi j hj => (k.cell (p := ⟨b, o + (i * c + j), none⟩) hb).trans (hc i hi j hj)⟩
theorem Reads.mod {S : Nat → Prop} (h : Reads w A n c M) (k : Mod S w w') (hs : ∀ b, b < w.heap.size → ¬ S b) : Reads w' A n c M := h.below (k.toBelow (Nat.le_refl _) hs)
theorem Reads.of_tab {b : Nat} (h : Tab w b n c M) : Reads w (some ⟨b, 0, none⟩) n c M := fun _ => ⟨b, 0, rfl, h.lt, fun k hk j hj => by rw [Nat.zero_add]; exact h.cell hk hj⟩
end
end Go.Proofs.Ytefhmbmbhiehdaa
