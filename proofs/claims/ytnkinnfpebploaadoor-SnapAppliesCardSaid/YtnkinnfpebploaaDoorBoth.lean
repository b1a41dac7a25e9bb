/- A writer, and the document's bits, side by side. Conditions: none. -/
import Derived.Test.YtnkinnfpebploaaDoorRbits2
import Derived.Test.YtnkinnfpebploaaDoorBitsR
namespace Go.Proofs.YtnkinnfpebploaaDoor
open Go.ChangeShapes Go.WideShapes Go.ChangeAt Go.RowKit Go.BigFrame
open B
theorem wr_new {w w1 : World} {base p : Nat} {T : TypeId} (hp : p = w.heap.size) (h : Below (w.alloc (.cells #[.slice none 0 0, .int .i64 0] T)).heap.size (w.alloc (.cells #[.slice none 0 0, .int .i64 0] T)) w1) : Wr w1 base p (.slice none 0 0) [] :=
  ⟨(Blk.at w p #[.slice none 0 0, .int .i64 0] T hp).below h, ⟨rfl, .inl ⟨rfl, rfl⟩⟩, by simp [Value.ownBlock], Bin.nil, by simp⟩
theorem calls_anew {P : Program} {f : FuncId} {args : Array Value} {w : World} {Q : Ending → World → Prop} (h : ∀ w', Below w.heap.size w w' → Calls P f args w' Q) : Calls P f args w Q := h w (Below.refl _ _)
theorem wr_below {w w' : World} {base p : Nat} {v v' : Value} {L : List Nat} (h : Wr w base p v L) (hp : base ≤ p) (hb : base ≤ w.heap.size) (k : Turn (· = p) w v w' v') : Below base w w' :=
  k.mod.toBelow hb fun b hlt e => by
    rcases e with e | e
    · omega
    · have := (row_lt h.row e).2; omega
theorem rb_below {w w' : World} {base p : Nat} {v v' : Value} {L : List Nat} (h : Rb w base p v L) (hp : base ≤ p) (hb : base ≤ w.heap.size) (k : Turn (· = p) w v w' v') : Below base w w' :=
  k.mod.toBelow hb fun b hlt e => by
    rcases e with e | e
    · omega
    · have := (row_lt h.row e).2; omega
theorem wr_mod {w w' : World} {base p : Nat} {v : Value} {L : List Nat} {S : Nat → Prop} (h : Wr w base p v L) (k : Mod S w w') (h1 : ¬ S p) (h2 : ∀ b, v.ownBlock = some b → ¬ S b) : Wr w' base p v L :=
  ⟨h.blk.mod k h1, row_mod h.row k h2, h.ne, h.bin, h.lim⟩
theorem wr_of_below {w w' : World} {base p : Nat} {v : Value} {L : List Nat} (h : Wr w base p v L) (k : Below w.heap.size w w') : Wr w' base p v L :=
  wr_mod h (S := fun _ => False) (Mod.of_below k) id fun _ _ => id
theorem rb_mod {w w' : World} {base p : Nat} {v : Value} {L : List Nat} {S : Nat → Prop} (h : Rb w base p v L) (k : Mod S w w') (h1 : ¬ S p) (h2 : ∀ b, v.ownBlock = some b → ¬ S b) : Rb w' base p v L :=
  ⟨h.blk.mod k h1, row_mod h.row k h2, h.ne, h.bin, h.lim⟩
theorem rb_of_below {w w' : World} {base p : Nat} {v : Value} {L : List Nat} (h : Rb w base p v L) (k : Below w.heap.size w w') : Rb w' base p v L :=
  rb_mod h (S := fun _ => False) (Mod.of_below k) id fun _ _ => id
theorem rb_new {w w1 : World} {base p : Nat} {T : TypeId} (hp : p = w.heap.size) (h : Below (w.alloc (.cells #[.slice none 0 0] T)).heap.size (w.alloc (.cells #[.slice none 0 0] T)) w1) : Rb w1 base p (.slice none 0 0) [] :=
  ⟨(Blk.at w p #[.slice none 0 0] T hp).below h, ⟨rfl, .inl ⟨rfl, rfl⟩⟩, by simp [Value.ownBlock], Bin.nil, by simp⟩
theorem row_form {w : World} {base : Nat} {e : TypeId} {v : Value} {n : Nat} {xs : List Value} (h : w.ownsRow base e 1 v n xs) : ∃ A cap, v = .slice A n cap := by
  rcases h.2 with ⟨e, h0⟩ | ⟨g, cap, cur, e, _⟩
  · exact ⟨none, 0, by rw [h0]; exact e⟩
  · exact ⟨_, cap, e⟩
/-- a writer at P with the bits L, the document's at Q with R -/
structure St2 (B P Q : Nat) (w : World) (v rv : Value) (L R : List Nat) : Prop where
  wr : Wr w B P v L
  rb : Rb w B Q rv R
  pq : P ≠ Q
  d1 : v.ownBlock ≠ some Q
  d2 : rv.ownBlock ≠ some P
  d3 : ∀ b, v.ownBlock = some b → rv.ownBlock ≠ some b
section
variable {B P Q : Nat} {w w' w1 : World} {v v' rv rv' : Value} {L L' R b : List Nat}
theorem St2.mod {S : Nat → Prop} (h : St2 B P Q w v rv L R) (k : Mod S w w') (h1 : ¬ S P) (h2 : ¬ S Q) (h3 : ∀ b, v.ownBlock = some b → ¬ S b) (h4 : ∀ b, rv.ownBlock = some b → ¬ S b) : St2 B P Q w' v rv L R :=
  ⟨wr_mod h.wr k h1 h3, rb_mod h.rb k h2 h4, h.pq, h.d1, h.d2, h.d3⟩
theorem St2.below (h : St2 B P Q w v rv L R) (k : Below w.heap.size w w') : St2 B P Q w' v rv L R := h.mod (S := fun _ => False) (Mod.of_below k) id id (fun _ _ => id) fun _ _ => id
/-- all blocks of it are there -/
theorem St2.lt (h : St2 B P Q w v rv L R) : P < w.heap.size ∧ Q < w.heap.size ∧ (∀ b, v.ownBlock = some b → b < w.heap.size) ∧ ∀ b, rv.ownBlock = some b → b < w.heap.size :=
  ⟨h.wr.blk.lt, h.rb.blk.lt, fun _ hb => (row_lt h.wr.row hb).1, fun _ hb => (row_lt h.rb.row hb).1⟩
theorem St2.far (h : St2 B P Q w v rv L R) {g : Nat} (hg : w.heap.size ≤ g) {w1 w2 : World} (k1 : Below w.heap.size w w1) (k2 : Mod (· = g) w1 w2) : St2 B P Q w2 v rv L R := by
  obtain ⟨h1, h2, h3, h4⟩ := h.lt
  exact (h.below k1).mod k2 (by omega) (by omega) (fun b hb e => by have := h3 b hb; omega) (fun b hb e => by have := h4 b hb; omega)
theorem St2.wput (h : St2 B P Q w v rv L R) (hW : Wr w' B P v' L') (hT : Turn (· = P) w v w' v') : St2 B P Q w' v' rv L' R := by
  obtain ⟨h1, h2, h3, h4⟩ := h.lt
  refine ⟨hW, rb_mod h.rb hT.mod ?_ ?_, h.pq, ?_, h.d2, ?_⟩
  · rintro (e | e)
    · exact h.pq e.symm
    · exact h.d1 e
  · rintro b hb (e | e)
    · exact h.d2 (by rw [hb, e])
    · exact h.d3 b e hb
  · rcases hT.own with e | e
    · rw [e]; exact h.d1
    · intro e2; have := e Q e2; omega
  · intro b hb e2
    rcases hT.own with e | e
    · rw [e] at hb; exact h.d3 b hb e2
    · have := e b hb; have := h4 b e2; omega
theorem St2.rput (h : St2 B P Q w v rv L R) (hW : Rb w' B Q rv' L') (hT : Turn (· = Q) w rv w' rv') : St2 B P Q w' v rv' L L' := by
  obtain ⟨h1, h2, h3, h4⟩ := h.lt
  refine ⟨wr_mod h.wr hT.mod ?_ ?_, hW, h.pq, h.d1, ?_, ?_⟩
  · rintro (e | e)
    · exact h.pq e
    · exact h.d2 e
  · rintro b hb (e | e)
    · exact h.d1 (by rw [hb, e])
    · exact h.d3 b hb e
  · rcases hT.own with e | e
    · rw [e]; exact h.d2
    · intro e2; have := e P e2; omega
  · intro b hb e2
    rcases hT.own with e | e
    · rw [e] at e2; exact h.d3 b hb e2
    · have := e b e2; have := h3 b hb; omega
theorem St2.rapp (h : St2 B P Q w v rv L R) (hown : w1.ownsRow B 5 1 rv' (R ++ b).length (u8s (R ++ b))) (hg : w.grownBy w1 rv.ownBlock) (hw : rv'.ownBlock = rv.ownBlock ∨ rv'.ownBlock = some w.heap.size) (hbin : Bin b) (hl : (R ++ b).length ≤ 1000000) :
    St2 B P Q (w1.setCell ⟨Q, 0, none⟩ rv') v rv' L (R ++ b) := by
  obtain ⟨h1, h2, h3, h4⟩ := h.lt
  have hne : rv'.ownBlock ≠ some Q := by
    rcases hw with e | e
    · rw [e]; exact h.rb.ne
    · rw [e]; intro e2; have := Option.some.inj e2; omega
  have hT : Turn (· = Q) w rv (w1.setCell ⟨Q, 0, none⟩ rv') rv' := by
    refine ⟨((mod_grown hg).mono fun _ _ h => .inr h).set (.inl (.inl rfl)), ?_⟩
    rcases hw with e | e
    · exact .inl e
    · right; intro b hb; rw [e] at hb; have := Option.some.inj hb; omega
  refine h.rput ⟨?_, row_far hown hne, hne, h.rb.bin.append hbin, hl⟩ hT
  have h5 : Blk w1 Q #[rv] := h.rb.blk.mod (mod_grown hg) h.rb.ne
  exact h5.put (i := 0)
end
def EPost (n : Int) (w : World) (e : Ending) (w' : World) : Prop := e = .returned (.iface 25 (.int .i64 n)) ∧ w = w'
theorem enc_0 (n wd : Int) : enc ⟨0, n, wd⟩ = if 0 ≤ wd ∧ wd ≤ 62 ∧ 0 ≤ n ∧ n < 2 ^ wd.toNat then some (bitsOf wd.toNat n.toNat) else none := if_pos rfl
theorem enc_1 (n wd : Int) : enc ⟨1, n, wd⟩ = if 0 ≤ n ∧ n < 4611686018427387904 then some (varL n.toNat) else none := (if_neg (show ¬ (1 : Int) = 0 by decide)).trans (if_pos rfl)
theorem enc_2 (n wd : Int) : enc ⟨2, n, wd⟩ = if -1152921504606846976 ≤ n ∧ n ≤ 1152921504606846976 then some (intL n) else none := (if_neg (show ¬ (2 : Int) = 0 by decide)).trans (if_neg (show ¬ (2 : Int) = 1 by decide))
theorem toNat_lt_pow {n : Int} {k : Nat} (h0 : 0 ≤ n) (h : n < 2 ^ k) : n.toNat < 2 ^ k := by
  obtain ⟨m, rfl⟩ := Int.eq_ofNat_of_zero_le h0
  have e : (2 : Int) ^ k = ((2 ^ k : Nat) : Int) := by simp
  rw [e] at h
  simp only [Int.toNat_natCast]
  omega
theorem lt63_pow {n k : Nat} (h : n < 2 ^ k) (hk : k ≤ 62) : Lt63 n := by
  have := Nat.pow_le_pow_right (show 0 < 2 by omega) hk
  unfold Lt63
  omega
theorem put_f (base p : Nat) (n width : Int) (k j : Nat) (v : Value) (L : List Nat) (w : World) (h : Wr w base p v L) (ek : n = k) (ej : width = j) (hw : j ≤ 62) (hn : k < 2 ^ j) (hl : 32000 < L.length + j) :
    Calls Tryd.prog 27 #[.pointer (some ⟨p, 0, none⟩), .int .i64 n, .int .i64 width] w (EPost 4 w) := by
  subst ek ej
  exact put_full base p k j v L w h hw hn hl

end Go.Proofs.YtnkinnfpebploaaDoor
