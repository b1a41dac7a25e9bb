/- A writer whose reproofs nobody reads: it holds the bits, or it is so full that all see it; what must stay stays. Conditions: none. -/
import Derived.Test.YtnkinnfpebploaaDoorWio
namespace Go.Proofs.YtnkinnfpebploaaDoor
open Go Go.ChangeShapes Go.WideShapes Go.ChangeAt Go.RowKit Go.BigFrame
open B
section
variable {S : Nat → Prop} {w w' w1 : World} {p : Nat} {L : List Nat}
/-- a writer at block p; the blocks of S are none of its own -/
def Wk (S : Nat → Prop) (w : World) (p : Nat) (L : List Nat) : Prop := ∃ v, Wr w p p v L ∧ ∀ b, S b → b ≠ p ∧ v.ownBlock ≠ some b ∧ b < w.heap.size
/-- it holds the bits, or there were too many -/
def Wf (S : Nat → Prop) (w : World) (p : Nat) (L : List Nat) : Prop := Wk S w p L ∨ ∃ L0, Wk S w p L0 ∧ 31872 < L0.length ∧ L0.length ≤ L.length
/-- behind a write -/
def WfPost (S : Nat → Prop) (p : Nat) (L : List Nat) (w w' : World) : Prop := Wf S w' p L ∧ Mod (fun b => ¬ S b) w w'
theorem Wk.lt (h : Wk S w p L) : p < w.heap.size := by obtain ⟨v, h, _⟩ := h; exact h.blk.lt
theorem Wf.lt (h : Wf S w p L) : p < w.heap.size := by
  rcases h with h | ⟨_, h, _⟩
  · exact h.lt
  · exact h.lt
theorem Wk.lim (h : Wk S w p L) : L.length ≤ 32000 := by obtain ⟨v, h, _⟩ := h; exact h.lim
theorem Wk.bin (h : Wk S w p L) : Bin L := by obtain ⟨v, h, _⟩ := h; exact h.bin
theorem Wk.below (h : Wk S w p L) (k : Below w.heap.size w w') : Wk S w' p L := by
  obtain ⟨v, h, hs⟩ := h
  refine ⟨v, ?_, fun b hb => ⟨(hs b hb).1, (hs b hb).2.1, Nat.lt_of_lt_of_le (hs b hb).2.2 k.size⟩⟩
  exact ⟨h.blk.below k, row_below h.row k, h.ne, h.bin, h.lim⟩
theorem Wf.below (h : Wf S w p L) (k : Below w.heap.size w w') : Wf S w' p L := by
  rcases h with h | ⟨L0, h, h1, h2⟩
  · exact .inl (h.below k)
  · exact .inr ⟨L0, h.below k, h1, h2⟩
theorem Wf.drewN (h : Wf S w p L) (n : Nat) : Wf S (w.drewN n) p L := h.below (ext_drewN (Below.refl _ _) n)
theorem Wf.drew (h : Wf S w p L) : Wf S w.drew p L := h.below (Below.refl _ _).drew
theorem Wf.alloc (h : Wf S w p L) (o : Obj) : Wf S (w.alloc o) p L := h.below ((Below.refl _ _).alloc (Nat.le_refl _) o)
/-- what is written into blocks of S is no matter -/
theorem Wk.low {T : Nat → Prop} (h : Wk S w p L) (k : Mod T w w') (hT : ∀ b, T b → S b) : Wk S w' p L := by
  obtain ⟨v, h, hs⟩ := h
  refine ⟨v, ?_, fun b hb => ⟨(hs b hb).1, (hs b hb).2.1, Nat.lt_of_lt_of_le (hs b hb).2.2 k.size⟩⟩
  exact ⟨h.blk.mod k (fun e => (hs _ (hT _ e)).1 rfl), row_mod h.row k (fun b e hb => (hs b (hT b hb)).2.1 e), h.ne, h.bin, h.lim⟩
theorem Wf.low {T : Nat → Prop} (h : Wf S w p L) (k : Mod T w w') (hT : ∀ b, T b → S b) : Wf S w' p L := by
  rcases h with h | ⟨L0, h, h1, h2⟩
  · exact .inl (h.low k hT)
  · exact .inr ⟨L0, h.low k hT, h1, h2⟩
theorem Wk.mono {S' : Nat → Prop} (h : Wk S w p L) (hS : ∀ b, S' b → S b) : Wk S' w p L := by
  obtain ⟨v, h, hs⟩ := h
  exact ⟨v, h, fun b hb => hs b (hS b hb)⟩
/-- more that must stay: blocks that were made behind it -/
theorem Wk.more {x : Nat} (h : Wk S w p L) (hx : w.heap.size ≤ x) (k : Below w.heap.size w w') (hx' : x < w'.heap.size) : Wk (fun b => S b ∨ b = x) w' p L := by
  obtain ⟨v, h, hs⟩ := h
  refine ⟨v, ⟨h.blk.below k, row_below h.row k, h.ne, h.bin, h.lim⟩, fun b hb => ?_⟩
  rcases hb with hb | rfl
  · exact ⟨(hs b hb).1, (hs b hb).2.1, Nat.lt_of_lt_of_le (hs b hb).2.2 k.size⟩
  · exact ⟨by have := h.blk.lt; omega, fun e => by have := (row_lt h.row e).1; omega, hx'⟩
/-- all that was made behind it must stay, too -/
theorem Wk.fresh (h : Wk S w p L) (k : Below w.heap.size w w') : Wk (fun b => S b ∨ (w.heap.size ≤ b ∧ b < w'.heap.size)) w' p L := by
  obtain ⟨v, h, hs⟩ := h
  refine ⟨v, ⟨h.blk.below k, row_below h.row k, h.ne, h.bin, h.lim⟩, fun b hb => ?_⟩
  rcases hb with hb | ⟨hb, hb'⟩
  · exact ⟨(hs b hb).1, (hs b hb).2.1, Nat.lt_of_lt_of_le (hs b hb).2.2 k.size⟩
  · exact ⟨by have := h.blk.lt; omega, fun e => by have := (row_lt h.row e).1; omega, hb'⟩
theorem Wf.fresh (h : Wf S w p L) (k : Below w.heap.size w w') : Wf (fun b => S b ∨ (w.heap.size ≤ b ∧ b < w'.heap.size)) w' p L := by
  rcases h with h | ⟨L0, h, h1, h2⟩
  · exact .inl (h.fresh k)
  · exact .inr ⟨L0, h.fresh k, h1, h2⟩
theorem Wf.mono {S' : Nat → Prop} (h : Wf S w p L) (hS : ∀ b, S' b → S b) : Wf S' w p L := by
  rcases h with h | ⟨L0, h, h1, h2⟩
  · exact .inl (h.mono hS)
  · exact .inr ⟨L0, h.mono hS, h1, h2⟩
/-- a step with more that must stay, behind what only made memory -/
theorem WfPost.back {w0 : World} {S' : Nat → Prop} (h : WfPost S' p L w w') (hS : ∀ b, S b → S' b) (k : Mod (fun b => ¬ S b) w0 w) : WfPost S p L w0 w' :=
  ⟨h.1.mono hS, k.trans (h.2.mono fun b _ hn hb => hn (hS b hb))⟩
theorem wk_new {T : TypeId} (hp : p = w.heap.size) (hS : ∀ b, S b → b < p) (h : Below (w.alloc (.cells #[.slice none 0 0, .int .i64 0] T)).heap.size (w.alloc (.cells #[.slice none 0 0, .int .i64 0] T)) w1) : Wk S w1 p [] := by
  obtain ⟨v, h1⟩ := wo_new (w := w) hp h
  refine ⟨.slice none 0 0, ⟨(Blk.at w p #[.slice none 0 0, .int .i64 0] T hp).below h, ⟨by simp [bytesOf, u8s, pack], .inl ⟨rfl, rfl⟩⟩, by simp [Value.ownBlock], Bin.nil, by simp⟩, fun b hb => ⟨by have := hS b hb; omega, by simp [Value.ownBlock], ?_⟩⟩
  have := h1.blk.lt
  have := hS b hb
  omega
theorem wk_post {v : Value} {L' : List Nat} (_h : Wr w p p v L) (hs : ∀ b, S b → b ≠ p ∧ v.ownBlock ≠ some b ∧ b < w.heap.size) (k : PutPost p p v L' w w') : Wk S w' p L' ∧ Mod (fun b => ¬ S b) w w' := by
  obtain ⟨v', h', t⟩ := k
  refine ⟨⟨v', h', fun b hb => ⟨(hs b hb).1, fun e => ?_, Nat.lt_of_lt_of_le (hs b hb).2.2 t.mod.size⟩⟩, t.mod.mono fun b _ hb hS => ?_⟩
  · rcases t.own with ho | ho
    · exact (hs b hb).2.1 (ho ▸ e)
    · have := ho b e; have := (hs b hb).2.2; omega
  · rcases hb with hb | hb
    · exact (hs b hS).1 hb
    · exact (hs b hS).2.1 hb
end
section
variable (S : Nat → Prop) (p : Nat) (L : List Nat) (w : World)
/-- a write of bits, with room or without: out of the contracts of both -/
theorem wf_write {f : FuncId} {args : Array Value} {X : List Nat} (h : Wf S w p L) (hX : X.length ≤ 78)
    (hok : ∀ L v, Wr w p p v L → p ≤ w.heap.size → L.length + X.length ≤ 32000 → Calls Tryd.prog f args w fun e w' => e = .returned .nilIface ∧ PutPost p p v (L ++ X) w w')
    (hfull : ∀ L v, Wr w p p v L → 32000 < L.length + X.length → Calls Tryd.prog f args w fun e w' => e = .returned (.iface 25 (.int .i64 4)) ∧ w = w') :
    Calls Tryd.prog f args w fun e w' => (∃ v, e = .returned v) ∧ WfPost S p (L ++ X) w w' := by
  rcases h with ⟨v, h, hs⟩ | ⟨L0, ⟨v, h, hs⟩, h1, h2⟩
  · by_cases hl : L.length + X.length ≤ 32000
    · refine (hok L v h (Nat.le_of_lt h.blk.lt) hl).mono fun e w' k => ⟨⟨_, k.1⟩, ?_⟩
      obtain ⟨a, b⟩ := wk_post h hs k.2
      exact ⟨.inl a, b⟩
    · refine (hfull L v h (by omega)).mono fun e w' k => ⟨⟨_, k.1⟩, ?_⟩
      obtain ⟨_, rfl⟩ := k
      exact ⟨.inr ⟨L, ⟨v, h, hs⟩, by omega, by simp⟩, Mod.refl _ _⟩
  · by_cases hl : L0.length + X.length ≤ 32000
    · refine (hok L0 v h (Nat.le_of_lt h.blk.lt) hl).mono fun e w' k => ⟨⟨_, k.1⟩, ?_⟩
      obtain ⟨a, b⟩ := wk_post h hs k.2
      exact ⟨.inr ⟨_, a, by simp; omega, by simp; omega⟩, b⟩
    · refine (hfull L0 v h (by omega)).mono fun e w' k => ⟨⟨_, k.1⟩, ?_⟩
      obtain ⟨_, rfl⟩ := k
      exact ⟨.inr ⟨L0, ⟨v, h, hs⟩, h1, by simp; omega⟩, Mod.refl _ _⟩
theorem put_k (n width : Int) (k j : Nat) (h : Wf S w p L) (ek : n = k) (ej : width = j) (hw : j ≤ 62) (hn : k < 2 ^ j) :
    Calls Tryd.prog 27 #[.pointer (some ⟨p, 0, none⟩), .int .i64 n, .int .i64 width] w fun e w' => (∃ v, e = .returned v) ∧ WfPost S p (L ++ bitsOf j k) w w' := by
  subst ek ej
  refine wf_write S p L w h (by rw [bitsOf_length]; omega) (fun L v h hp hl => ?_) (fun L v h hl => ?_)
  · rw [bitsOf_length] at hl
    exact put_ok p p k j v L w h hp hw hn hl
  · rw [bitsOf_length] at hl
    exact put_full p p k j v L w h hw hn hl
theorem var_k (n : Int) (k : Nat) (h : Wf S w p L) (ek : n = k) (hn : k < 4611686018427387904) :
    Calls Tryd.prog 29 #[.pointer (some ⟨p, 0, none⟩), .int .i64 n] w fun e w' => (∃ v, e = .returned v) ∧ WfPost S p (L ++ varL k) w w' := by
  subst ek
  refine wf_write S p L w h (varL_le _) (fun L v h hp hl => ?_) (fun L v h hl => ?_)
  · exact var_ok p p k v L w h hp hn (by rwa [varL_length] at hl)
  · exact var_full p p k v L w h hn (by rwa [varL_length] at hl)
theorem int_k (n : Int) (h : Wf S w p L) (h1 : -1152921504606846976 ≤ n) (h2 : n ≤ 1152921504606846976) :
    Calls Tryd.prog 31 #[.pointer (some ⟨p, 0, none⟩), .int .i64 n] w fun e w' => (∃ v, e = .returned v) ∧ WfPost S p (L ++ intL n) w w' := by
  refine wf_write S p L w h (intL_le _) (fun L v h hp hl => ?_) (fun L v h hl => ?_)
  · exact int_ok p p n v L w h hp h1 h2 (by unfold intL at hl; rwa [varL_length] at hl)
  · exact int_full p p n v L w h h1 h2 (by unfold intL at hl; rwa [varL_length] at hl)
theorem many_k (h : Wf S w p L) : Calls Tryd.prog 33 #[.pointer (some ⟨p, 0, none⟩)] w fun e w' => (∃ m : Nat, e = .returned (.int .i64 m) ∧ (31872 < m ↔ 31872 < L.length) ∧ (¬ 31872 < m → Wk S w p L)) ∧ w = w' := by
  rcases h with ⟨v, h, hs⟩ | ⟨L0, ⟨v, h, hs⟩, h1, h2⟩
  · refine (many_c p p v L w h).mono fun e w' k => ⟨⟨_, k.1, Iff.rfl, fun _ => ⟨v, h, hs⟩⟩, k.2⟩
  · refine (many_c p p v L0 w h).mono fun e w' k => ⟨⟨_, k.1, ⟨fun _ => by omega, fun _ => h1⟩, fun hn => absurd h1 hn⟩, k.2⟩
theorem bytes_k (h : Wk S w p L) : Calls Tryd.prog 34 #[.pointer (some ⟨p, 0, none⟩)] w fun e w' => ∃ A c, e = .returned (.slice A (pack L).length c) ∧ BsOf w' w.heap.size (.slice A (pack L).length c) (pack L) ∧ (Value.slice A (pack L).length c) ≠ .slice none 0 0 ∧ Below w.heap.size w w' := by
  obtain ⟨v, h, _⟩ := h
  exact wbytes_o p L w ⟨v, h⟩
end
end Go.Proofs.YtnkinnfpebploaaDoor
