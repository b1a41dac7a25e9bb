/- The contract of gyrelaw.seen. Conditions: none but that there are not too many. -/
import Derived.Test.YtefhmbmbhiehdaaKClB
import Derived.Test.YtefhmbmbhiehdaaKClA
import Derived.LoopTactic
import Derived.WalkSpells
import Derived.Lib.Hide
import Derived.BigQuiet
import Derived.Deep.CutBlock
namespace Go.Proofs.Ytefhmbmbhiehdaa
open Go Go.ChangeShapes Go.WideShapes Go.ChangeAt Go.RowKit Go.BigFrame
open B
section
variable {S : Nat → Prop} {w w' w1 : World} {p : Nat} {L : List Nat}
/-- a writer at block p; the blocks of S are none of its own -/
def Wk (S : Nat → Prop) (w : World) (p : Nat) (L : List Nat) : Prop := ∃ v, Wr w p p v L ∧ ∀ b, S b → b ≠ p ∧ v.ownBlock ≠ some b ∧ b < w.heap.size
/-- it holds the bits, or there were too many -/
def Wf (S : Nat → Prop) (w : World) (p : Nat) (L : List Nat) : Prop := Wk S w p L ∨ ∃ L0, Wk S w p L0 ∧ 31872 < L0.length ∧ L0.length ≤ L.length
/-- behind a write -/
def WfPost (S : Nat → Prop) (p : Nat) (L : List Nat) (w w' : World) : Prop := Wf S w' p L ∧ Mod (fun b => ¬ S b) w w'
theorem Wk.lt (h : Wk S w p L) : p < w.heap.size := by obtain ⟨v, h, _⟩ := h; exact h.blk.lt
theorem Wf.lt (h : Wf S w p L) : p < w.heap.size := by
  rcases h with h | ⟨_, h, _⟩
  · exact h.lt
  · exact h.lt
theorem Wk.lim (h : Wk S w p L) : L.length ≤ 32000 := by obtain ⟨v, h, _⟩ := h; exact h.lim
theorem Wk.bin (h : Wk S w p L) : Bin L := by obtain ⟨v, h, _⟩ := h; exact h.bin
theorem Wk.below (h : Wk S w p L) (k : Below w.heap.size w w') : Wk S w' p L := by
  obtain ⟨v, h, hs⟩ := h
  refine ⟨v, ?_, fun b hb => ⟨(hs b hb).1, (hs b hb).2.1, Nat.lt_of_lt_of_le (hs b hb).2.2 k.size⟩⟩
  exact ⟨h.blk.below k, row_below h.row k, h.ne, h.bin, h.lim⟩
theorem Wf.below (h : Wf S w p L) (k : Below w.heap.size w w') : Wf S w' p L := by
  rcases h with h | ⟨L0, h, h1, h2⟩
  · exact .inl (h.below k)
  · exact .inr ⟨L0, h.below k, h1, h2⟩
theorem Wf.drewN (h : Wf S w p L) (n : Nat) : Wf S (w.drewN n) p L := h.below (ext_drewN (Below.refl _ _) n)
theorem Wf.drew (h : Wf S w p L) : Wf S w.drew p L := h.below (Below.refl _ _).drew
theorem Wf.alloc (h : Wf S w p L) (o : Obj) : Wf S (w.alloc o) p L := h.below ((Below.refl _ _).alloc (Nat.le_refl _) o)
/-- what is written into blocks of S is no matter -/
theorem Wk.low {T : Nat → Prop} (h : Wk S w p L) (k : Mod T w w') (hT : ∀ b, T b → S b) : Wk S w' p L := by
  obtain ⟨v, h, hs⟩ := h
  refine ⟨v, ?_, fun b hb => ⟨(hs b hb).1, (hs b hb).2.1, Nat.lt_of_lt_of_le (hs b hb).2.2 k.size⟩⟩
  exact ⟨h.blk.mod k (fun e => (hs _ (hT _ e)).1 rfl), row_mod h.row k (fun b e hb => (hs b (hT b hb)).2.1 e), h.ne, h.bin, h.lim⟩
theorem Wf.low {T : Nat → Prop} (h : Wf S w p L) (k : Mod T w w') (hT : ∀ b, T b → S b) : Wf S w' p L := by
  rcases h with h | ⟨L0, h, h1, h2⟩
  · exact .inl (h.low k hT)
  · exact .inr ⟨L0, h.low k hT, h1, h2⟩
theorem Wk.mono {S' : Nat → Prop} (h : Wk S w p L) (hS : ∀ b, S' b → S b) : Wk S' w p L := by
  obtain ⟨v, h, hs⟩ := h
  exact ⟨v, h, fun b hb => hs b (hS b hb)⟩
/-- more that must stay: blocks that were made behind it -/
theorem Wk.more {x : Nat} (h : Wk S w p L) (hx : w.heap.size ≤ x) (k : Below w.heap.size w w') (hx' : x < w'.heap.size) : Wk (fun b => S b ∨ b = x) w' p L := by
  obtain ⟨v, h, hs⟩ := h
  refine ⟨v, ⟨h.blk.below k, row_below h.row k, h.ne, h.bin, h.lim⟩, fun b hb => ?_⟩
  rcases hb with hb | rfl
  · exact ⟨(hs b hb).1, (hs b hb).2.1, Nat.lt_of_lt_of_le (hs b hb).2.2 k.size⟩
  · exact ⟨by have := h.blk.lt; omega, fun e => by have := (row_lt h.row e).1; omega, hx'⟩
/-- all that was made behind it must stay, too -/
theorem Wk.fresh (h : Wk S w p L) (k : Below w.heap.size w w') : Wk (fun b => S b ∨ (w.heap.size ≤ b ∧ b < w'.heap.size)) w' p L := by
  obtain ⟨v, h, hs⟩ := h
  refine ⟨v, ⟨h.blk.below k, row_below h.row k, h.ne, h.bin, h.lim⟩, fun b hb => ?_⟩
  rcases hb with hb | ⟨hb, hb'⟩
  · exact ⟨(hs b hb).1, (hs b hb).2.1, Nat.lt_of_lt_of_le (hs b hb).2.2 k.size⟩
  · exact ⟨by have := h.blk.lt; omega, fun e => by have := (row_lt h.row e).1; omega, hb'⟩
theorem Wf.fresh (h : Wf S w p L) (k : Below w.heap.size w w') : Wf (fun b => S b ∨ (w.heap.size ≤ b ∧ b < w'.heap.size)) w' p L := by
  rcases h with h | ⟨L0, h, h1, h2⟩
  · exact .inl (h.fresh k)
  · exact .inr ⟨L0, h.fresh k, h1, h2⟩
theorem Wf.mono {S' : Nat → Prop} (h : Wf S w p L) (hS : ∀ b, S' b → S b) : Wf S' w p L := by
  rcases h with h | ⟨L0, h, h1, h2⟩
  · exact .inl (h.mono hS)
  · exact .inr ⟨L0, h.mono hS, h1, h2⟩
/-- a step with more that must stay, behind what only made memory -/
theorem WfPost.back {w0 : World} {S' : Nat → Prop} (h : WfPost S' p L w w') (hS : ∀ b, S b → S' b) (k : Mod (fun b => ¬ S b) w0 w) : WfPost S p L w0 w' :=
  ⟨h.1.mono hS, k.trans (h.2.mono fun b _ hn hb => hn (hS b hb))⟩
theorem wk_new {T : TypeId} (hp : p = w.heap.size) (hS : ∀ b, S b → b < p) (h : Below (w.alloc (.cells #[.slice none 0 0, .int .i64 0] T)).heap.size (w.alloc (.cells #[.slice none 0 0, .int .i64 0] T)) w1) : Wk S w1 p [] := by
  obtain ⟨v, h1⟩ := wo_new (w := w) hp h
  refine ⟨.slice none 0 0, ⟨(Blk.at w p #[.slice none 0 0, .int .i64 0] T hp).below h, ⟨by simp [bytesOf, u8s, pack], .inl ⟨rfl, rfl⟩⟩, by simp [Value.ownBlock], Bin.nil, by simp⟩, fun b hb => ⟨by have := hS b hb; omega, by simp [Value.ownBlock], ?_⟩⟩
  have := h1.blk.lt
  have := hS b hb
  omega
theorem wk_post {v : Value} {L' : List Nat} (_h : Wr w p p v L) (hs : ∀ b, S b → b ≠ p ∧ v.ownBlock ≠ some b ∧ b < w.heap.size) (k : PutPost p p v L' w w') : Wk S w' p L' ∧ Mod (fun b => ¬ S b) w w' := by
  obtain ⟨v', h', t⟩ := k
  refine ⟨⟨v', h', fun b hb => ⟨(hs b hb).1, fun e => ?_, Nat.lt_of_lt_of_le (hs b hb).2.2 t.mod.size⟩⟩, t.mod.mono fun b _ hb hS => ?_⟩
  · rcases t.own with ho | ho
    · exact (hs b hb).2.1 (ho ▸ e)
    · have := ho b e; have := (hs b hb).2.2; omega
  · rcases hb with hb | hb
    · exact (hs b hS).1 hb
    · exact (hs b hS).2.1 hb
end
section
variable (S : Nat → Prop) (p : Nat) (L : List Nat) (w : World)
/-- a write of bits, with room or without: out of the contracts of both -/
theorem wf_write {f : FuncId} {args : Array Value} {X : List Nat} (h : Wf S w p L) (hX : X.length ≤ 78)
    (hok : ∀ L v, Wr w p p v L → p ≤ w.heap.size → L.length + X.length ≤ 32000 → Calls Try.prog f args w fun e w' => e = .returned .nilIface ∧ PutPost p p v (L ++ X) w w')
    (hfull : ∀ L v, Wr w p p v L → 32000 < L.length + X.length → Calls Try.prog f args w fun e w' => e = .returned (.iface 38 (.int .i64 4)) ∧ w = w') :
    Calls Try.prog f args w fun e w' => (∃ v, e = .returned v) ∧ WfPost S p (L ++ X) w w' := by
  rcases h with ⟨v, h, hs⟩ | ⟨L0, ⟨v, h, hs⟩, h1, h2⟩
  · by_cases hl : L.length + X.length ≤ 32000
    · refine (hok L v h (Nat.le_of_lt h.blk.lt) hl).mono fun e w' k => ⟨⟨_, k.1⟩, ?_⟩
      obtain ⟨a, b⟩ := wk_post h hs k.2
      exact ⟨.inl a, b⟩
    · refine (hfull L v h (by omega)).mono fun e w' k => ⟨⟨_, k.1⟩, ?_⟩
      obtain ⟨_, rfl⟩ := k
      exact ⟨.inr ⟨L, ⟨v, h, hs⟩, by omega, by simp⟩, Mod.refl _ _⟩
  · by_cases hl : L0.length + X.length ≤ 32000
    · refine (hok L0 v h (Nat.le_of_lt h.blk.lt) hl).mono fun e w' k => ⟨⟨_, k.1⟩, ?_⟩
      obtain ⟨a, b⟩ := wk_post h hs k.2
      exact ⟨.inr ⟨_, a, by simp; omega, by simp; omega⟩, b⟩
    · refine (hfull L0 v h (by omega)).mono fun e w' k => ⟨⟨_, k.1⟩, ?_⟩
      obtain ⟨_, rfl⟩ := k
      exact ⟨.inr ⟨L0, ⟨v, h, hs⟩, h1, by simp; omega⟩, Mod.refl _ _⟩
theorem put_k (n width : Int) (k j : Nat) (h : Wf S w p L) (ek : n = k) (ej : width = j) (hw : j ≤ 62) (hn : k < 2 ^ j) :
    Calls Try.prog 107 #[.pointer (some ⟨p, 0, none⟩), .int .i64 n, .int .i64 width] w fun e w' => (∃ v, e = .returned v) ∧ WfPost S p (L ++ bitsOf j k) w w' := by
  subst ek ej
  refine wf_write S p L w h (by rw [bitsOf_length]; omega) (fun L v h hp hl => ?_) (fun L v h hl => ?_)
  · rw [bitsOf_length] at hl
    exact put_ok p p k j v L w h hp hw hn hl
  · rw [bitsOf_length] at hl
    exact put_full p p k j v L w h hw hn hl
theorem var_k (n : Int) (k : Nat) (h : Wf S w p L) (ek : n = k) (hn : k < 4611686018427387904) :
    Calls Try.prog 106 #[.pointer (some ⟨p, 0, none⟩), .int .i64 n] w fun e w' => (∃ v, e = .returned v) ∧ WfPost S p (L ++ varL k) w w' := by
  subst ek
  refine wf_write S p L w h (varL_le _) (fun L v h hp hl => ?_) (fun L v h hl => ?_)
  · exact var_ok p p k v L w h hp hn (by rwa [varL_length] at hl)
  · exact var_full p p k v L w h hn (by rwa [varL_length] at hl)
theorem int_k (n : Int) (h : Wf S w p L) (h1 : -1152921504606846976 ≤ n) (h2 : n ≤ 1152921504606846976) :
    Calls Try.prog 163 #[.pointer (some ⟨p, 0, none⟩), .int .i64 n] w fun e w' => (∃ v, e = .returned v) ∧ WfPost S p (L ++ intL n) w w' := by
  refine wf_write S p L w h (intL_le _) (fun L v h hp hl => ?_) (fun L v h hl => ?_)
  · exact int_ok p p n v L w h hp h1 h2 (by unfold intL at hl; rwa [varL_length] at hl)
  · exact int_full p p n v L w h h1 h2 (by unfold intL at hl; rwa [varL_length] at hl)
theorem many_k (h : Wf S w p L) : Calls Try.prog 152 #[.pointer (some ⟨p, 0, none⟩)] w fun e w' => (∃ m : Nat, e = .returned (.int .i64 m) ∧ (31872 < m ↔ 31872 < L.length) ∧ (¬ 31872 < m → Wk S w p L)) ∧ w = w' := by
  rcases h with ⟨v, h, hs⟩ | ⟨L0, ⟨v, h, hs⟩, h1, h2⟩
  · refine (many_c p p v L w h).mono fun e w' k => ⟨⟨_, k.1, Iff.rfl, fun _ => ⟨v, h, hs⟩⟩, k.2⟩
  · refine (many_c p p v L0 w h).mono fun e w' k => ⟨⟨_, k.1, ⟨fun _ => by omega, fun _ => h1⟩, fun hn => absurd h1 hn⟩, k.2⟩
theorem bytes_k (h : Wk S w p L) : Calls Try.prog 108 #[.pointer (some ⟨p, 0, none⟩)] w fun e w' => ∃ A c, e = .returned (.slice A (pack L).length c) ∧ BsOf w' w.heap.size (.slice A (pack L).length c) (pack L) ∧ (Value.slice A (pack L).length c) ≠ .slice none 0 0 ∧ Below w.heap.size w w' := by
  obtain ⟨v, h, _⟩ := h
  exact wbytes_o p L w ⟨v, h⟩
end
end Go.Proofs.Ytefhmbmbhiehdaa
namespace Go.Proofs.Ytefhmbmbhiehdaa
open Go.ChangeShapes Go.WideShapes Go.ChangeAt Go.RowKit Go.BigFrame

theorem calls_fresh {P : Program} {f : FuncId} {args : Array Value} {w : World} {Q : Ending → World → Prop} (h : ∀ w', Below w.heap.size w w' → Calls P f args w' Q) : Calls P f args w Q := h w (Below.refl _ _)
theorem sizeS : (Try.prog.info? 106).map (·.size) = some 11 := by kernel_rfl
theorem wp_seenS {w : World} {b of k : Nat} {M : Nat → Nat → Int} (hc : ∀ j, j < 11 → w.cell? ⟨b, of + j, none⟩ = some (.int .i64 (M k j))) {ops : Array Oper} {rest : List Oper} {o : Oper} {a : Act} {Q : Exit → Act → World → Prop} (hgd : o.guard = none) (x : Operand) (ho : o.op = .load 106 x) (hx : a.eval x = .pointer (some ⟨b, of, none⟩))
    (h : wpList Try.prog ops Q rest (a.put o.dst (.agg #[.int .i64 (M k 0), .int .i64 (M k 1), .int .i64 (M k 2), .int .i64 (M k 3), .int .i64 (M k 4), .int .i64 (M k 5), .int .i64 (M k 6), .int .i64 (M k 7), .int .i64 (M k 8), .int .i64 (M k 9), .int .i64 (M k 10)])) w) : wpList Try.prog ops Q (o :: rest) a w :=
  wpList_load_off hgd b of _ x ho hx [.int .i64 (M k 0), .int .i64 (M k 1), .int .i64 (M k 2), .int .i64 (M k 3), .int .i64 (M k 4), .int .i64 (M k 5), .int .i64 (M k 6), .int .i64 (M k 7), .int .i64 (M k 8), .int .i64 (M k 9), .int .i64 (M k 10)] _ (lits _ 11 (fun j => .int .i64 (M k j)) rfl (fun _ hj => hc _ hj)) Try.underlying106 rfl sizeS h
theorem quiet_seenS {w : World} {b of k : Nat} {M : Nat → Nat → Int} (hb : b < w.heap.size) (hc : ∀ j, j < 11 → w.cell? ⟨b, of + j, none⟩ = some (.int .i64 (M k j))) {o : Oper} {a : Act} {K : Act → Prop} (x : Operand) (ho : o.op = .load 106 x) (hx : a.eval x = .pointer (some ⟨b, of, none⟩))
    (h : K (a.put o.dst (.agg #[.int .i64 (M k 0), .int .i64 (M k 1), .int .i64 (M k 2), .int .i64 (M k 3), .int .i64 (M k 4), .int .i64 (M k 5), .int .i64 (M k 6), .int .i64 (M k 7), .int .i64 (M k 8), .int .i64 (M k 9), .int .i64 (M k 10)]))) : o.quiet Try.prog a (fun w' => ∃ m, w' = more w m) K :=
  quiet_load_off b of _ x ho hx [.int .i64 (M k 0), .int .i64 (M k 1), .int .i64 (M k 2), .int .i64 (M k 3), .int .i64 (M k 4), .int .i64 (M k 5), .int .i64 (M k 6), .int .i64 (M k 7), .int .i64 (M k 8), .int .i64 (M k 9), .int .i64 (M k 10)] _ (by rintro _ ⟨m, rfl⟩; exact lits _ 11 (fun j => .int .i64 (M k j)) rfl (fun _ hj => (more_cell _ _ _ _ hb).trans (hc _ hj))) Try.underlying106 rfl sizeS h

theorem sizeR : (Try.prog.info? 102).map (·.size) = some 11 := by kernel_rfl
theorem wp_seenR {w : World} {b of k : Nat} {M : Nat → Nat → Int} (hc : ∀ j, j < 11 → w.cell? ⟨b, of + j, none⟩ = some (.int .i64 (M k j))) {ops : Array Oper} {rest : List Oper} {o : Oper} {a : Act} {Q : Exit → Act → World → Prop} (hgd : o.guard = none) (x : Operand) (ho : o.op = .load 102 x) (hx : a.eval x = .pointer (some ⟨b, of, none⟩))
    (h : wpList Try.prog ops Q rest (a.put o.dst (.agg #[.int .i64 (M k 0), .int .i64 (M k 1), .int .i64 (M k 2), .int .i64 (M k 3), .int .i64 (M k 4), .int .i64 (M k 5), .int .i64 (M k 6), .int .i64 (M k 7), .int .i64 (M k 8), .int .i64 (M k 9), .int .i64 (M k 10)])) w) : wpList Try.prog ops Q (o :: rest) a w :=
  wpList_load_off hgd b of _ x ho hx [.int .i64 (M k 0), .int .i64 (M k 1), .int .i64 (M k 2), .int .i64 (M k 3), .int .i64 (M k 4), .int .i64 (M k 5), .int .i64 (M k 6), .int .i64 (M k 7), .int .i64 (M k 8), .int .i64 (M k 9), .int .i64 (M k 10)] _ (lits _ 11 (fun j => .int .i64 (M k j)) rfl (fun _ hj => hc _ hj)) Try.underlying102 rfl sizeR h
theorem far40_c (n : Int) (w : World) : Calls Try.prog 146 #[.int .i64 n] w fun e w' => e = .returned (.bool (!decide (In40 n))) ∧ w = w' := by
  by_cases h1 : n < -1099511627776
  · rw [decide_eq_false (show ¬ In40 n from fun h => by have := h.1; omega)]
    go_enter Try.func146, Try.ntmps146
    go_wp2
    go_ret
    exact ⟨rfl, rfl⟩
  by_cases h2 : 1099511627776 < n
  · rw [decide_eq_false (show ¬ In40 n from fun h => by have := h.2; omega)]
    have h1' : decide (n < -1099511627776) = false := decide_eq_false h1
    have h2' : decide (1099511627776 < n) = true := decide_eq_true h2
    clear h1 h2
    go_enter Try.func146, Try.ntmps146
    go_wp2
    go_ret
    exact ⟨rfl, rfl⟩
  rw [decide_eq_true (show In40 n from ⟨by omega, by omega⟩)]
  have h1' : decide (n < -1099511627776) = false := decide_eq_false h1
  have h2' : decide (1099511627776 < n) = false := decide_eq_false h2
  clear h1 h2
  go_enter Try.func146, Try.ntmps146
  go_wp2
  go_ret
  exact ⟨rfl, rfl⟩
theorem idx40_c (F : Nat → Int) (b : Nat) (w : World) (hc : ∀ j, j < 9 → w.cell? ⟨b, j, none⟩ = some (.int .i64 (F j))) : Calls Try.prog 94 #[.slice (some ⟨b, 0, none⟩) 9 9, .func (.func 146) #[] #[]] w fun e w' => ∃ v, e = .returned (.int .i64 v) ∧ (0 ≤ v ↔ ¬ ∀ j, j < 9 → In40 (F j)) ∧ w = w' := by
  have HC := Lib.hid hc
  clear hc
  go_enter Try.func94, Try.ntmps94
  go_wp2
  go_loopw [8] (fun i wr => ∃ k : Nat, k ≤ 9 ∧ i = .int .i64 k ∧ (∀ j, j < k → In40 (F j)) ∧ wr = w) (fun i _ => 9 - (intOf i).toNat)
  case atStart => exact ⟨0, by omega, rfl, fun j hj => absurd hj (Nat.not_lt_zero j), rfl⟩
  case round =>
    obtain ⟨k, hk, rfl, hin, rfl⟩ := hrel
    have HIN := Lib.hid hin
    clear hin
    by_cases hlt : k < 9
    · have q0 := HC.out k hlt
      go_wp2_with fail
      refine (far40_c _ _).mono ?_
      rintro e w' ⟨rfl, rfl⟩
      by_cases hq : In40 (F k)
      · rw [decide_eq_true hq]
        have HQ := Lib.hid hq
        clear hq
        go_wp2
        go_roundw
        case rel => exact ⟨k + 1, by omega, by go_num, fun j hj => by
          by_cases e : j < k
          · exact HIN.out j e
          · have e' : j = k := by omega
            rw [e']; exact HQ.out, by trivial⟩
        case measure => simp [intOf]; omega
      · rw [decide_eq_false hq]
        have HQ := Lib.hid hq
        clear hq
        go_wp2
        go_ret
        exact ⟨k, rfl, ⟨fun _ h => HQ.out (h k hlt), fun _ => by omega⟩, rfl⟩
    · have hk9 : k = 9 := by omega
      subst hk9
      go_wp2
      go_ret
      exact ⟨-1, rfl, ⟨fun h => by omega, fun h => absurd HIN.out h⟩, rfl⟩
theorem any40_c (F : Nat → Int) (d : Bool) (hd : d = true ↔ ∀ j, j < 9 → In40 (F j)) (b : Nat) (w : World) (hc : ∀ j, j < 9 → w.cell? ⟨b, j, none⟩ = some (.int .i64 (F j))) : Calls Try.prog 145 #[.slice (some ⟨b, 0, none⟩) 9 9, .func (.func 146) #[] #[]] w fun e w' => e = .returned (.bool (!d)) ∧ w = w' := by
  have HC := Lib.hid hc
  have HD := Lib.hid hd
  clear hc hd
  go_enter Try.func145, Try.ntmps145
  go_wp2_with fail
  refine (idx40_c F b _ HC.out).mono ?_
  rintro e w' ⟨v, rfl, hv, rfl⟩
  cases d with
  | true =>
    have hv0 : decide (0 ≤ v) = false := decide_eq_false (fun h' => hv.1 h' (HD.out.1 rfl))
    clear hv
    go_wp2
    go_ret
    exact ⟨rfl, rfl⟩
  | false =>
    have hv0 : decide (0 ≤ v) = true := decide_eq_true (hv.2 (fun h => by have := HD.out.2 h; cases this))
    clear hv
    go_wp2
    go_ret
    exact ⟨rfl, rfl⟩
theorem all40_c (F : Nat → Int) (d : Bool) (hd : d = true ↔ ∀ j, j < 9 → In40 (F j)) (b : Nat) (w : World) (hc : ∀ j, j < 9 → w.cell? ⟨b, j, none⟩ = some (.int .i64 (F j))) : Calls Try.prog 144 #[.slice (some ⟨b, 0, none⟩) 9 9] w fun e w' => e = .returned (.bool d) ∧ w = w' := by
  have HC := Lib.hid hc
  have HD := Lib.hid hd
  clear hc hd
  go_enter Try.func144, Try.ntmps144
  go_wp2_with fail
  refine (any40_c F d HD.out b _ HC.out).mono ?_
  rintro e w' ⟨rfl, rfl⟩
  cases d <;>
    (go_wp2
     go_ret
     exact ⟨rfl, rfl⟩)

end Go.Proofs.Ytefhmbmbhiehdaa
namespace Go.Proofs.Ytefhmbmbhiehdaa
open Go.ChangeShapes Go.WideShapes Go.ChangeAt Go.RowKit Go.BigFrame
open B

theorem Blk.eqs {w : World} {b : Nat} {cs cs' : Array Value} (h : Blk w b cs) (e : cs = cs') : Blk w b cs' := e ▸ h
set_option maxRecDepth 100000 in
set_option maxHeartbeats 4000000 in
theorem vec_k (S : Nat → Prop) (p : Nat) (L : List Nat) (x1 x2 x3 y1 y2 y3 : Int) (w : World) (h : Wf S w p L) (i1 : In40 x1) (i2 : In40 x2) (i3 : In40 x3) (j1 : In40 y1) (j2 : In40 y2) (j3 : In40 y3) :
    Calls Try.prog 150 #[.pointer (some ⟨p, 0, none⟩), .agg #[.int .i64 x1, .int .i64 x2, .int .i64 x3], .agg #[.int .i64 y1, .int .i64 y2, .int .i64 y3]] w fun e w' => e = .returned (.tuple #[]) ∧ WfPost S p (L ++ vec3L (x1 - y1) (x2 - y2) (x3 - y3)) w w' := by
  have HH := Lib.hid h
  unfold In40 at i1 i2 i3 j1 j2 j3
  clear h
  go_enter Try.func150, Try.ntmps150
  go_wp2_with fail
  refine calls_fresh ?_
  rintro w1 hb1
  have hv1 : Below w.heap.size w w1 := (by repeat (with_reducible (first | exact Below.refl _ _ | assumption | apply ext_drew | apply ext_drewN | apply ext_alloc | apply ext_more | (refine ext_setCell ?_ (by first | assumption | (simp <;> omega)) _) | (refine ext_below ?_ (by assumption)))))
  have C1 : Blk w1 w.heap.size #[.int .i64 x1, .int .i64 x2, .int .i64 x3] := Blk.below (by repeat (with_reducible (first | assumption | (apply Blk.at; simp; done) | apply Blk.alloc | apply Blk.drew | apply Blk.drewN | apply Blk.more | apply Blk.put | (apply Blk.far; focus (first | assumption | (apply Ne.symm; assumption) | (simp; done) | (simp <;> omega)))))) hb1
  have D1 : Blk w1 (w.heap.size + 1) #[.int .i64 y1, .int .i64 y2, .int .i64 y3] := Blk.below (by repeat (with_reducible (first | assumption | (apply Blk.at; simp; done) | apply Blk.alloc | apply Blk.drew | apply Blk.drewN | apply Blk.more | apply Blk.put | (apply Blk.far; focus (first | assumption | (apply Ne.symm; assumption) | (simp; done) | (simp <;> omega)))))) hb1
  obtain ⟨S1, hS1⟩ : ∃ S1, S1 = fun b => S b ∨ (w.heap.size ≤ b ∧ b < w1.heap.size) := ⟨_, rfl⟩
  have H1 : Wf S1 w1 p L := by rw [hS1]; exact HH.out.fresh hv1
  have HSS : Hid (∀ b, S b → S1 b) := Lib.hid (fun b hb => by rw [hS1]; exact .inl hb)
  have HC : Hid (S1 w.heap.size ∧ S1 (w.heap.size + 1)) := Lib.hid (by rw [hS1]; exact ⟨.inr ⟨Nat.le_refl _, C1.lt⟩, .inr ⟨by omega, D1.lt⟩⟩)
  have HMM : Hid (Mod (fun b => ¬ S b) w w1) := Lib.hid (Mod.of_below hv1)
  clear hS1 hb1 HH hv1
  refine (int_k S1 p (L) w1 (x1 - y1) H1 (by omega) (by omega)).mono ?_
  rintro e w2 ⟨⟨ev1, rfl⟩, H2, hm2⟩
  have C2 := C1.mod hm2 (fun hn => hn HC.out.1)
  have D2 := D1.mod hm2 (fun hn => hn HC.out.2)
  have HM2 := Lib.hid hm2
  clear hm2 H1 C1 D1
  obtain ⟨zx2, cx2, fx2⟩ := id C2
  obtain ⟨zy2, cy2, fy2⟩ := id D2
  go_wp2_with fail
  refine (int_k S1 p (L ++ intL (x1 - y1)) w2 (x2 - y2) H2 (by omega) (by omega)).mono ?_
  rintro e w3 ⟨⟨ev2, rfl⟩, H3, hm3⟩
  have C3 := C2.mod hm3 (fun hn => hn HC.out.1)
  have D3 := D2.mod hm3 (fun hn => hn HC.out.2)
  have HM3 := Lib.hid hm3
  clear hm3 H2 C2 D2 zx2 cx2 fx2 zy2 cy2 fy2
  obtain ⟨zx3, cx3, fx3⟩ := id C3
  obtain ⟨zy3, cy3, fy3⟩ := id D3
  go_wp2_with fail
  refine (int_k S1 p (L ++ intL (x1 - y1) ++ intL (x2 - y2)) w3 (x3 - y3) H3 (by omega) (by omega)).mono ?_
  rintro e w4 ⟨⟨ev3, rfl⟩, H4, hm4⟩
  have C4 := C3.mod hm4 (fun hn => hn HC.out.1)
  have D4 := D3.mod hm4 (fun hn => hn HC.out.2)
  have HM4 := Lib.hid hm4
  clear hm4 H3 C3 D3 zx3 cx3 fx3 zy3 cy3 fy3
  go_wp2
  go_end0
  refine ⟨rfl, ?_⟩
  have e : L ++ intL (x1 - y1) ++ intL (x2 - y2) ++ intL (x3 - y3) = L ++ vec3L (x1 - y1) (x2 - y2) (x3 - y3) := by unfold vec3L; simp only [List.append_assoc]
  rw [← e]
  exact WfPost.back ⟨H4, (HM2.out.trans HM3.out).trans HM4.out⟩ HSS.out HMM.out

theorem flag_k (S : Nat → Prop) (p q : Nat) (L : List Nat) (y : Bool) (w : World) (h : Wf S w p L) (hq : w.cell? ⟨q, 0, none⟩ = some (.pointer (some ⟨p, 0, none⟩))) :
    Calls Try.prog 164 #[.bool y, .pointer (some ⟨q, 0, none⟩)] w fun e w' => e = .returned (.bool y) ∧ WfPost S p (L ++ bit y) w w' := by
  have HH := Lib.hid h
  clear h
  cases y with
  | false =>
    go_enter Try.func164, Try.ntmps164
    go_wp2_with fail
    refine (put_k S p L w _ _ 0 1 HH.out rfl rfl (by decide) (by decide)).mono ?_
    rintro e w' ⟨⟨v, rfl⟩, hp⟩
    have HP := Lib.hid hp
    clear hp
    go_wp2
    go_ret
    exact ⟨rfl, HP.out⟩
  | true =>
    go_enter Try.func164, Try.ntmps164
    go_wp2_with fail
    refine (put_k S p L w _ _ 1 1 HH.out rfl rfl (by decide) (by decide)).mono ?_
    rintro e w' ⟨⟨v, rfl⟩, hp⟩
    have HP := Lib.hid hp
    clear hp
    go_wp2
    go_ret
    exact ⟨rfl, HP.out⟩

theorem head_k (S : Nat → Prop) (p q1 q2 what : Nat) (wi ix last : Int) (L : List Nat) (w : World) (h : Wf S w p L) (hw : wi = what) (hwhat : what < 4) (hq1 : Blk w q1 #[.pointer (some ⟨p, 0, none⟩)]) (hq2 : Blk w q2 #[.int .i64 last]) (s1 : S q1) (s2 : S q2) (hid : last < ix ∧ ix ≤ 1099511627776 ∧ 0 ≤ last) :
    Calls Try.prog 149 #[.int .i64 wi, .int .i64 ix, .pointer (some ⟨q1, 0, none⟩), .pointer (some ⟨q2, 0, none⟩)] w fun e w' => e = .returned (.tuple #[]) ∧ Wf S w' p (L ++ headL what ix last) ∧ Blk w' q2 #[.int .i64 ix] ∧ Mod (fun b => ¬ S b ∨ b = q2) w w' := by
  have HH := Lib.hid h
  have HS : Hid (S q1 ∧ S q2) := Lib.hid ⟨s1, s2⟩
  have HW := Lib.hid hw
  obtain ⟨d1, d2, d3⟩ := hid
  clear h s1 s2 hw
  obtain ⟨zq, cq, fq⟩ := id hq1
  go_enter Try.func149, Try.ntmps149
  go_wp2_with fail
  refine (put_k S p L w _ _ what 2 HH.out HW.out rfl (by decide) (by omega)).mono ?_
  rintro e w1 ⟨⟨v, rfl⟩, H1, hm1⟩
  have A1 := hq1.mod hm1 (fun hn => hn HS.out.1)
  have B1 := hq2.mod hm1 (fun hn => hn HS.out.2)
  have HM1 := Lib.hid hm1
  clear hm1 hq1 hq2 zq cq fq
  obtain ⟨za, ca, fa⟩ := id A1
  obtain ⟨zb, cb, fb⟩ := id B1
  go_wp2_with fail
  refine (var_k S p (L ++ bitsOf 2 what) w1 _ (ix - last - 1).toNat H1 (by omega) (by omega)).mono ?_
  rintro e w2 ⟨⟨v, rfl⟩, H2, hm2⟩
  have B2 := B1.mod hm2 (fun hn => hn HS.out.2)
  have HM2 := Lib.hid hm2
  clear hm2 A1 B1 za ca fa zb cb fb
  obtain ⟨zb, cb, fb⟩ := id B2
  go_wp2
  go_end0
  have e : L ++ bitsOf 2 what ++ varL (ix - last - 1).toNat = L ++ headL what ix last := by unfold headL; rw [List.append_assoc]
  rw [e] at H2
  refine ⟨rfl, H2.low (T := fun b => b = q2) ((Mod.refl _ _).set (.inl rfl)) (fun b hb => by rw [hb]; exact HS.out.2), Blk.eqs (B2.put (i := 0) (v := .int .i64 ix)) rfl, ?_⟩
  exact Mod.set ((HM1.out.trans HM2.out).mono fun b _ hb => .inl hb) (.inl (.inr rfl))

end Go.Proofs.Ytefhmbmbhiehdaa
namespace Go.Proofs.Ytefhmbmbhiehdaa
open Go.ChangeShapes Go.WideShapes Go.ChangeAt Go.RowKit Go.BigFrame
open B
def eq3 (x1 x2 x3 y1 y2 y3 : Int) : Bool := x1 == y1 && x2 == y2 && x3 == y3
theorem run_equalIn_vec (d : Nat) (x1 x2 x3 y1 y2 y3 : Int) (w : World) : (Op.equalIn (d + 2) 57 (.agg #[.int .i64 x1, .int .i64 x2, .int .i64 x3]) (.agg #[.int .i64 y1, .int .i64 y2, .int .i64 y3])).run Try.prog w = .ok (eq3 x1 x2 x3 y1 y2 y3) w := by
  rw [run_equalIn_struct w (d + 1) _ _ _ (by kernel_rfl) (by kernel_rfl)]
  simp only [Program.fieldsOf, Try.underlying57]
  simp only [Op.eqFields]
  unfold eq3
  cases h1 : (x1 == y1) <;> cases h2 : (x2 == y2) <;> cases h3 : (x3 == y3) <;> simp [go_sem, Try.underlying3, h1, h2, h3]
theorem run_neq_vec (x1 x2 x3 y1 y2 y3 : Int) (w : World) : (binOp .neq 57 (.agg #[.int .i64 x1, .int .i64 x2, .int .i64 x3]) (.agg #[.int .i64 y1, .int .i64 y2, .int .i64 y3])).run Try.prog w = .ok (.bool (!(eq3 x1 x2 x3 y1 y2 y3))) w := by
  rw [run_neq_struct, run_equalIn_vec 9998]
  rfl
end Go.Proofs.Ytefhmbmbhiehdaa
namespace Go.Proofs.Ytefhmbmbhiehdaa
open Go.ChangeShapes Go.WideShapes Go.ChangeAt Go.RowKit Go.BigFrame

theorem parts_c (a1 a2 a3 : Int) (w : World) : Calls Try.prog 33 #[.agg #[.int .i64 a1, .int .i64 a2, .int .i64 a3]] w fun e w' => e = .returned (.slice (some ⟨w.heap.size + 1, 0, none⟩) 3 3) ∧ Blk w' (w.heap.size + 1) #[.int .i64 a1, .int .i64 a2, .int .i64 a3] ∧ Below w.heap.size w w' := by
  go_enter Try.func33, Try.ntmps33
  go_wp2
  go_ret
  exact ⟨rfl, Blk.at _ _ _ _ (by simp), (by repeat (with_reducible (first | exact Below.refl _ _ | assumption | apply ext_drew | apply ext_drewN | apply ext_alloc | apply ext_more | (refine ext_setCell ?_ (by first | assumption | (simp <;> omega)) _) | (refine ext_below ?_ (by assumption)))))⟩

set_option maxRecDepth 100000 in
set_option maxHeartbeats 8000000 in
theorem rright_c (n : Nat) (A : Option Addr) (cap : Nat) (M : Nat → Nat → Int) (w : World) (hn : n ≤ 9223372036854775807) (hR : Reads w A n 11 M) :
    Calls Try.prog 31 #[.slice A n cap] w fun e w' => ∃ d : Bool, e = .returned (.bool d) ∧ (d = true ↔ RightV n M) ∧ Below w.heap.size w w' := by
  go_enter Try.func31, Try.ntmps31
  go_wp2
  go_loopw [3, 12] (fun l i wr => ∃ k : Nat, k ≤ n ∧ i = .int .i64 k ∧ l = .int .i64 (prevId M k) ∧ (∀ i, i < k → RightRow M i (prevId M i)) ∧ Below w.heap.size w wr) (fun _ i _ => n - (intOf i).toNat)
  case atStart => exact ⟨0, by omega, rfl, rfl, fun i hi => absurd hi (Nat.not_lt_zero i), Below.refl _ _⟩
  case round =>
    obtain ⟨k, hk, rfl, rfl, hin, hB⟩ := hrel
    have HIN := Lib.hid hin
    clear hin
    by_cases hlt : k < n
    · obtain ⟨b, of, rfl, hb, hc⟩ := hR (by omega)
      have hload : ∀ j, j < 11 → wr.cell? ⟨b, of + k * 11 + j, none⟩ = some (.int .i64 (M k j)) := fun j hj => by rw [Nat.add_assoc]; exact (hB.cell (p := ⟨b, of + (k * 11 + j), none⟩) hb).trans (hc k hlt j hj)
      have HLD := Lib.hid hload
      obtain ⟨last, hlast⟩ : ∃ last, prevId M k = last := ⟨_, rfl⟩
      have HPV := Lib.hid hlast
      rw [hlast]
      clear hload hc hlast
      go_upto_region 5 with (refine wp_seenR HLD.out rfl (.tmp 14) rfl rfl ?_)
      refine wp_fresh ?_
      rintro w1 hb1
      have L1 : Blk w1 wr.heap.size #[.int .i64 (M k 0), .int .i64 (M k 1), .int .i64 (M k 2), .int .i64 (M k 3), .int .i64 (M k 4), .int .i64 (M k 5), .int .i64 (M k 6), .int .i64 (M k 7), .int .i64 (M k 8), .int .i64 (M k 9), .int .i64 (M k 10)] := Blk.below (by repeat (with_reducible (first | assumption | (apply Blk.at; simp; done) | apply Blk.alloc | apply Blk.drew | apply Blk.drewN | apply Blk.more | apply Blk.put | (apply Blk.far; focus (first | assumption | (apply Ne.symm; assumption) | (simp; done) | (simp <;> omega)))))) hb1
      have hB1 : Below w.heap.size w w1 := (by repeat (with_reducible (first | exact Below.refl _ _ | assumption | apply ext_drew | apply ext_drewN | apply ext_alloc | apply ext_more | (refine ext_setCell ?_ (by first | assumption | (simp <;> omega)) _) | (refine ext_below ?_ (by assumption)))))
      obtain ⟨zl, cl, fl⟩ := id L1
      have hb9 : w.heap.size ≤ wr.heap.size := hB.size
      clear L1 hb1 hB HLD
      by_cases h0 : M k 0 ≤ last
      · have d0 : decide (M k 0 ≤ last) = true := decide_eq_true h0
        have HNO : Hid (¬ RightV n M) := Lib.hid (fun h => by have h := h.row hlt; unfold RightRow at h; rw [HPV.out] at h; have := h.1.1; omega)
        clear h0
        go_wp2
        go_ret
        exact ⟨false, rfl, ⟨fun h => (by cases h), fun h => absurd h HNO.out⟩, (by repeat (with_reducible (first | exact Below.refl _ _ | assumption | apply ext_drew | apply ext_drewN | apply ext_alloc | apply ext_more | (refine ext_setCell ?_ (by first | assumption | (simp <;> omega)) _) | (refine ext_below ?_ (by assumption)))))⟩
      have d0 : decide (M k 0 ≤ last) = false := decide_eq_false h0
      by_cases h1 : 1099511627776 < M k 0
      · have d1 : decide (1099511627776 < M k 0) = true := decide_eq_true h1
        have HNO : Hid (¬ RightV n M) := Lib.hid (fun h => by have h := h.row hlt; unfold RightRow at h; rw [HPV.out] at h; have := h.1.2.1; omega)
        clear h0 h1
        go_wp2
        go_ret
        exact ⟨false, rfl, ⟨fun h => (by cases h), fun h => absurd h HNO.out⟩, (by repeat (with_reducible (first | exact Below.refl _ _ | assumption | apply ext_drew | apply ext_drewN | apply ext_alloc | apply ext_more | (refine ext_setCell ?_ (by first | assumption | (simp <;> omega)) _) | (refine ext_below ?_ (by assumption)))))⟩
      have d1 : decide (1099511627776 < M k 0) = false := decide_eq_false h1
      by_cases h2 : M k 1 < 0
      · have d2 : decide (M k 1 < 0) = true := decide_eq_true h2
        have HNO : Hid (¬ RightV n M) := Lib.hid (fun h => by have h := h.row hlt; unfold RightRow at h; rw [HPV.out] at h; have := h.1.2.2.1; omega)
        clear h0 h1 h2
        go_wp2
        go_ret
        exact ⟨false, rfl, ⟨fun h => (by cases h), fun h => absurd h HNO.out⟩, (by repeat (with_reducible (first | exact Below.refl _ _ | assumption | apply ext_drew | apply ext_drewN | apply ext_alloc | apply ext_more | (refine ext_setCell ?_ (by first | assumption | (simp <;> omega)) _) | (refine ext_below ?_ (by assumption)))))⟩
      have d2 : decide (M k 1 < 0) = false := decide_eq_false h2
      by_cases h3 : 7 < M k 1
      · have d3 : decide (7 < M k 1) = true := decide_eq_true h3
        have HNO : Hid (¬ RightV n M) := Lib.hid (fun h => by have h := h.row hlt; unfold RightRow at h; rw [HPV.out] at h; have := h.1.2.2.2; omega)
        clear h0 h1 h2 h3
        go_wp2
        go_ret
        exact ⟨false, rfl, ⟨fun h => (by cases h), fun h => absurd h HNO.out⟩, (by repeat (with_reducible (first | exact Below.refl _ _ | assumption | apply ext_drew | apply ext_drewN | apply ext_alloc | apply ext_more | (refine ext_setCell ?_ (by first | assumption | (simp <;> omega)) _) | (refine ext_below ?_ (by assumption)))))⟩
      have d3 : decide (7 < M k 1) = false := decide_eq_false h3
      have HY : Hid (last < M k 0 ∧ M k 0 ≤ 1099511627776 ∧ 0 ≤ M k 1 ∧ M k 1 ≤ 7) := Lib.hid ⟨by omega, by omega, by omega, by omega⟩
      clear h0 h1 h2 h3
      go_wp2
      refine wp_fresh ?_
      rintro w2 hb2
      have hB2 : Below w.heap.size w w2 := (by repeat (with_reducible (first | exact Below.refl _ _ | assumption | apply ext_drew | apply ext_drewN | apply ext_alloc | apply ext_more | (refine ext_setCell ?_ (by first | assumption | (simp <;> omega)) _) | (refine ext_below ?_ (by assumption)))))
      have hnine : ∀ j, j < 9 → w2.cell? ⟨w1.heap.size, j, none⟩ = some (.int .i64 (M k (j + 2))) := by
        have C := (Blk.fresh w1 #[.int .i64 (M k 2), .int .i64 (M k 3), .int .i64 (M k 4), .int .i64 (M k 5), .int .i64 (M k 6), .int .i64 (M k 7), .int .i64 (M k 8), .int .i64 (M k 9), .int .i64 (M k 10)] 57).below hb2
        intro j hj
        rw [C.cell]
        match j, hj with
        | 0, _ => rfl
        | 1, _ => rfl
        | 2, _ => rfl
        | 3, _ => rfl
        | 4, _ => rfl
        | 5, _ => rfl
        | 6, _ => rfl
        | 7, _ => rfl
        | 8, _ => rfl
      have zn : w1.heap.size < w2.heap.size := ((Blk.fresh w1 #[.int .i64 (M k 2), .int .i64 (M k 3), .int .i64 (M k 4), .int .i64 (M k 5), .int .i64 (M k 6), .int .i64 (M k 7), .int .i64 (M k 8), .int .i64 (M k 9), .int .i64 (M k 10)] 57).below hb2).lt
      have HNI := Lib.hid hnine
      have hb99 : w.heap.size ≤ w2.heap.size := hB2.size
      clear hnine hb2 hB1 zl cl fl
      go_loopw [45] (fun i wv => ∃ a : Nat, a ≤ 3 ∧ i = .int .i64 a ∧ (∀ j, j < a * 3 → In40 (M k (j + 2))) ∧ Below w2.heap.size w2 wv) (fun i _ => 3 - (intOf i).toNat)
      case atStart => exact ⟨0, by omega, rfl, fun j hj => absurd hj (by omega), Below.refl _ _⟩
      case round =>
        obtain ⟨a, ha, rfl, hA, hv⟩ := hrel
        have HA := Lib.hid hA
        clear hA
        by_cases hat : a < 3
        · have q0 : wr.cell? ⟨w1.heap.size, a * 3, none⟩ = some (.int .i64 (M k (a * 3 + 2))) := (hv.cell (p := ⟨w1.heap.size, a * 3, none⟩) zn).trans (HNI.out _ (by omega))
          have q1 : wr.cell? ⟨w1.heap.size, a * 3 + 1, none⟩ = some (.int .i64 (M k (a * 3 + 1 + 2))) := (hv.cell (p := ⟨w1.heap.size, a * 3 + 1, none⟩) zn).trans (HNI.out _ (by omega))
          have q2 : wr.cell? ⟨w1.heap.size, a * 3 + 2, none⟩ = some (.int .i64 (M k (a * 3 + 2 + 2))) := (hv.cell (p := ⟨w1.heap.size, a * 3 + 2, none⟩) zn).trans (HNI.out _ (by omega))
          have hBv : Below w.heap.size w wr := hB2.trans (hv.mono hb99)
          obtain ⟨x0, hx0⟩ : ∃ x, M k (a * 3 + 2) = x := ⟨_, rfl⟩
          obtain ⟨x1, hx1⟩ : ∃ x, M k (a * 3 + 1 + 2) = x := ⟨_, rfl⟩
          obtain ⟨x2, hx2⟩ : ∃ x, M k (a * 3 + 2 + 2) = x := ⟨_, rfl⟩
          rw [hx0] at q0
          rw [hx1] at q1
          rw [hx2] at q2
          have HX : Hid (M k (a * 3 + 0 + 2) = x0 ∧ M k (a * 3 + 1 + 2) = x1 ∧ M k (a * 3 + 2 + 2) = x2) := Lib.hid ⟨hx0, hx1, hx2⟩
          clear hx0 hx1 hx2
          go_wp2_with fail
          refine calls_fresh ?_
          rintro w3 hb3
          have hv3 : Below w2.heap.size w2 w3 := ext_below (hv.alloc hv.size _) hb3
          have hB3 : Below w.heap.size w w3 := hB2.trans (hv3.mono hb99)
          clear hb3 hBv hv q0 q1 q2
          refine (parts_c _ _ _ _).mono ?_
          rintro e w4 ⟨rfl, P4, hb4⟩
          have hB4 : Below w.heap.size w w4 := hB3.trans (hb4.mono hB3.size)
          have hv4 : Below w2.heap.size w2 w4 := hv3.trans (hb4.mono hv3.size)
          have hthree : ∀ j, j < 3 → w4.cell? ⟨w3.heap.size + 1, j, none⟩ = some (.int .i64 (M k (a * 3 + j + 2))) := by
            intro j hj
            rw [P4.cell]
            match j, hj with
            | 0, _ => rw [HX.out.1]; rfl
            | 1, _ => rw [HX.out.2.1]; rfl
            | 2, _ => rw [HX.out.2.2]; rfl
          have HTH := Lib.hid hthree
          have z4 := P4.lt
          have hb49 := hB4.size
          clear hthree P4 hb4 hB3 hv3 HX
          go_wp2
          go_loopw [52] (fun i wu => ∃ c : Nat, c ≤ 3 ∧ i = .int .i64 c ∧ (∀ j, j < c → In40 (M k (a * 3 + j + 2))) ∧ Below w4.heap.size w4 wu) (fun i _ => 3 - (intOf i).toNat)
          case atStart => exact ⟨0, by omega, rfl, fun j hj => absurd hj (by omega), Below.refl _ _⟩
          case round =>
            obtain ⟨c, hc, rfl, hC, hu⟩ := hrel
            have HC := Lib.hid hC
            have hBu : Below w.heap.size w wr := hB4.trans (hu.mono hb49)
            clear hC
            by_cases hct : c < 3
            · have q : wr.cell? ⟨w3.heap.size + 1, c, none⟩ = some (.int .i64 (M k (a * 3 + c + 2))) := (hu.cell (p := ⟨w3.heap.size + 1, c, none⟩) z4).trans (HTH.out _ hct)
              obtain ⟨x, hx⟩ : ∃ x, M k (a * 3 + c + 2) = x := ⟨_, rfl⟩
              rw [hx] at q
              by_cases g1 : 1099511627776 < x
              · have e1 : decide (1099511627776 < x) = true := decide_eq_true g1
                have HNO : Hid (¬ RightV n M) := Lib.hid (fun h => by have h := ((h.row hlt).2 (a * 3 + c + 2) (by omega) (by omega)).2; rw [hx] at h; omega)
                clear g1 hx
                go_wp2
                go_ret
                exact ⟨false, rfl, ⟨fun h => (by cases h), fun h => absurd h HNO.out⟩, (by repeat (with_reducible (first | exact Below.refl _ _ | assumption | apply ext_drew | apply ext_drewN | apply ext_alloc | apply ext_more | (refine ext_setCell ?_ (by first | assumption | (simp <;> omega)) _) | (refine ext_below ?_ (by assumption)))))⟩
              have e1 : decide (1099511627776 < x) = false := decide_eq_false g1
              by_cases g2 : x < -1099511627776
              · have e2 : decide (x < -1099511627776) = true := decide_eq_true g2
                have HNO : Hid (¬ RightV n M) := Lib.hid (fun h => by have h := ((h.row hlt).2 (a * 3 + c + 2) (by omega) (by omega)).1; rw [hx] at h; omega)
                clear g1 g2 hx
                go_wp2
                go_ret
                exact ⟨false, rfl, ⟨fun h => (by cases h), fun h => absurd h HNO.out⟩, (by repeat (with_reducible (first | exact Below.refl _ _ | assumption | apply ext_drew | apply ext_drewN | apply ext_alloc | apply ext_more | (refine ext_setCell ?_ (by first | assumption | (simp <;> omega)) _) | (refine ext_below ?_ (by assumption)))))⟩
              have e2 : decide (x < -1099511627776) = false := decide_eq_false g2
              have HIN4 : Hid (In40 (M k (a * 3 + c + 2))) := Lib.hid (by rw [hx]; exact ⟨by omega, by omega⟩)
              clear g1 g2 hx
              go_wp2
              go_roundw
              case rel => exact ⟨c + 1, by omega, by go_num, fun j hj => by
                by_cases e : j < c
                · exact HC.out j e
                · have e' : j = c := by omega
                  rw [e']; exact HIN4.out, (by repeat (with_reducible (first | exact Below.refl _ _ | assumption | apply ext_drew | apply ext_drewN | apply ext_alloc | apply ext_more | (refine ext_setCell ?_ (by first | assumption | (simp <;> omega)) _) | (refine ext_below ?_ (by assumption)))))⟩
              case measure => simp [intOf]; omega
            · have hc3 : c = 3 := by omega
              subst hc3
              have hvu : Below w2.heap.size w2 wr := hv4.trans (hu.mono hv4.size)
              go_wp2
              go_roundw
              case rel => exact ⟨a + 1, by omega, by go_num, fun j hj => by
                by_cases e : j < a * 3
                · exact HA.out j e
                · have := HC.out (j - a * 3) (by omega)
                  rwa [show a * 3 + (j - a * 3) + 2 = j + 2 by omega] at this, hvu⟩
              case measure => simp [intOf]; omega
        · have ha3 : a = 3 := by omega
          subst ha3
          have HRR : Hid (RightRow M k (prevId M k)) := Lib.hid ⟨by rw [HPV.out]; exact HY.out, fun j h1 h2 => by have := HA.out (j - 2) (by omega); rwa [Nat.sub_add_cancel h1] at this⟩
          have hBv : Below w.heap.size w wr := hB2.trans (hv.mono hb99)
          go_wp2
          go_roundw
          case rel => exact ⟨k + 1, by omega, by go_num, rfl, fun i hi => by
            by_cases e : i < k
            · exact HIN.out i e
            · have e' : i = k := by omega
              rw [e']; exact HRR.out, (by repeat (with_reducible (first | exact Below.refl _ _ | assumption | apply ext_drew | apply ext_drewN | apply ext_alloc | apply ext_more | (refine ext_setCell ?_ (by first | assumption | (simp <;> omega)) _) | (refine ext_below ?_ (by assumption)))))⟩
          case measure => simp [intOf]; omega
    · have hkn : n = k := by omega
      subst hkn
      by_cases h60 : n ≤ 60
      · have HYES : Hid (RightV n M) := Lib.hid ⟨HIN.out, h60⟩
        have d60 : decide ((n : Int) ≤ 60) = true := decide_eq_true (by omega)
        go_wp2
        go_ret
        exact ⟨true, rfl, ⟨fun _ => HYES.out, fun _ => rfl⟩, (by repeat (with_reducible (first | exact Below.refl _ _ | assumption | apply ext_drew | apply ext_drewN | apply ext_alloc | apply ext_more | (refine ext_setCell ?_ (by first | assumption | (simp <;> omega)) _) | (refine ext_below ?_ (by assumption)))))⟩
      · have HNO : Hid (¬ RightV n M) := Lib.hid (fun h => h60 h.2)
        have d60 : decide ((n : Int) ≤ 60) = false := decide_eq_false (by omega)
        clear h60
        go_wp2
        go_ret
        exact ⟨false, rfl, ⟨fun h => (by cases h), fun h => absurd h HNO.out⟩, (by repeat (with_reducible (first | exact Below.refl _ _ | assumption | apply ext_drew | apply ext_drewN | apply ext_alloc | apply ext_more | (refine ext_setCell ?_ (by first | assumption | (simp <;> omega)) _) | (refine ext_below ?_ (by assumption)))))⟩

end Go.Proofs.Ytefhmbmbhiehdaa
namespace Go.Proofs.Ytefhmbmbhiehdaa
open Go Go.ChangeShapes Go.WideShapes Go.ChangeAt Go.RowKit Go.BigFrame
open B
section
variable {S : Nat → Prop} {w w' w1 : World} {p : Nat} {L : List Nat}
/-- the document's bits at block p; the blocks of S are none of their own -/
def Rk (S : Nat → Prop) (w : World) (p : Nat) (L : List Nat) : Prop := ∃ v, Rb w p p v L ∧ ∀ b, S b → b ≠ p ∧ v.ownBlock ≠ some b ∧ b < w.heap.size
def RkPost (S : Nat → Prop) (p : Nat) (L : List Nat) (w w' : World) : Prop := Rk S w' p L ∧ Mod (fun b => ¬ S b) w w'
theorem Rk.lt (h : Rk S w p L) : p < w.heap.size := by obtain ⟨v, h, _⟩ := h; exact h.blk.lt
theorem Rk.bin (h : Rk S w p L) : Bin L := by obtain ⟨v, h, _⟩ := h; exact h.bin
theorem Rk.low {T : Nat → Prop} (h : Rk S w p L) (k : Mod T w w') (hT : ∀ b, T b → S b) : Rk S w' p L := by
  obtain ⟨v, h, hs⟩ := h
  refine ⟨v, ?_, fun b hb => ⟨(hs b hb).1, (hs b hb).2.1, Nat.lt_of_lt_of_le (hs b hb).2.2 k.size⟩⟩
  exact ⟨h.blk.mod k (fun e => (hs _ (hT _ e)).1 rfl), row_mod h.row k (fun b e hb => (hs b (hT b hb)).2.1 e), h.ne, h.bin, h.lim⟩
theorem Rk.below (h : Rk S w p L) (k : Below w.heap.size w w') : Rk S w' p L := h.low (T := fun _ => False) (Mod.of_below k) (fun _ h => h.elim)
theorem Rk.fresh (h : Rk S w p L) (k : Below w.heap.size w w') : Rk (fun b => S b ∨ (w.heap.size ≤ b ∧ b < w'.heap.size)) w' p L := by
  obtain ⟨v, h, hs⟩ := h
  refine ⟨v, ⟨h.blk.below k, row_below h.row k, h.ne, h.bin, h.lim⟩, fun b hb => ?_⟩
  rcases hb with hb | ⟨hb, hb'⟩
  · exact ⟨(hs b hb).1, (hs b hb).2.1, Nat.lt_of_lt_of_le (hs b hb).2.2 k.size⟩
  · exact ⟨by have := h.blk.lt; omega, fun e => by have := (row_lt h.row e).1; omega, hb'⟩
theorem Rk.mono {S' : Nat → Prop} (h : Rk S w p L) (hS : ∀ b, S' b → S b) : Rk S' w p L := by
  obtain ⟨v, h, hs⟩ := h
  exact ⟨v, h, fun b hb => hs b (hS b hb)⟩
theorem RkPost.back {w0 : World} {S' : Nat → Prop} (h : RkPost S' p L w w') (hS : ∀ b, S b → S' b) (k : Mod (fun b => ¬ S b) w0 w) : RkPost S p L w0 w' :=
  ⟨h.1.mono hS, k.trans (h.2.mono fun b _ hn hb => hn (hS b hb))⟩
theorem rk_post {v : Value} {L' : List Nat} (hs : ∀ b, S b → b ≠ p ∧ v.ownBlock ≠ some b ∧ b < w.heap.size) (k : RbPost p p v L' w w') : RkPost S p L' w w' := by
  obtain ⟨v', h', t⟩ := k
  refine ⟨⟨v', h', fun b hb => ⟨(hs b hb).1, fun e => ?_, Nat.lt_of_lt_of_le (hs b hb).2.2 t.mod.size⟩⟩, t.mod.mono fun b _ hb hS => ?_⟩
  · rcases t.own with ho | ho
    · exact (hs b hb).2.1 (ho ▸ e)
    · have := ho b e; have := (hs b hb).2.2; omega
  · rcases hb with hb | hb
    · exact (hs b hS).1 hb
    · exact (hs b hS).2.1 hb
end
theorem rput_k (S : Nat → Prop) (p : Nat) (L : List Nat) (w : World) (n width : Int) (k j : Nat) (h : Rk S w p L) (ek : n = k) (ej : width = j) (hw : j ≤ 62) (hn : Lt63 k) (hl : L.length + j ≤ 1000000) :
    Calls Try.prog 36 #[.pointer (some ⟨p, 0, none⟩), .int .i64 n, .int .i64 width] w fun e w' => e = .returned (.tuple #[]) ∧ RkPost S p (L ++ bitsOf j k) w w' := by
  obtain ⟨v, h, hs⟩ := h
  exact (rput_i p p n width k j v L w h (Nat.le_of_lt h.blk.lt) ek ej hw hn hl).mono fun e w' ⟨he, hp⟩ => ⟨he, rk_post hs hp⟩
theorem rvar_k (S : Nat → Prop) (p : Nat) (L : List Nat) (w : World) (n : Int) (k : Nat) (h : Rk S w p L) (ek : n = k) (hn : Lt62 k) (hl : L.length + 78 ≤ 1000000) :
    Calls Try.prog 38 #[.pointer (some ⟨p, 0, none⟩), .int .i64 n] w fun e w' => e = .returned (.tuple #[]) ∧ RkPost S p (L ++ varL k) w w' := by
  obtain ⟨v, h, hs⟩ := h
  exact (rvarw_i p p k n v L w h (Nat.le_of_lt h.blk.lt) ek hn (by have := pieces6 k; omega)).mono fun e w' ⟨he, hp⟩ => ⟨he, rk_post hs hp⟩
theorem rint_k (S : Nat → Prop) (p : Nat) (L : List Nat) (w : World) (n : Int) (h : Rk S w p L) (h1 : -1152921504606846976 ≤ n) (h2 : n ≤ 1152921504606846976) (hl : L.length + 78 ≤ 1000000) :
    Calls Try.prog 34 #[.pointer (some ⟨p, 0, none⟩), .int .i64 n] w fun e w' => e = .returned (.tuple #[]) ∧ RkPost S p (L ++ intL n) w w' := by
  obtain ⟨v, h, hs⟩ := h
  exact (rintw_ok p p n v L w h (Nat.le_of_lt h.blk.lt) h1 h2 (by have := pieces6 (zig n); omega)).mono fun e w' ⟨he, hp⟩ => ⟨he, rk_post hs hp⟩

theorem ryes_k (S : Nat → Prop) (p : Nat) (L : List Nat) (y : Bool) (w : World) (h : Rk S w p L) (hl : L.length + 1 ≤ 1000000) :
    Calls Try.prog 35 #[.bool y, .pointer (some ⟨p, 0, none⟩)] w fun e w' => e = .returned (.tuple #[]) ∧ RkPost S p (L ++ bit y) w w' := by
  have HH := Lib.hid h
  have HL := Lib.hid hl
  clear h hl
  cases y with
  | false =>
    go_enter Try.func35, Try.ntmps35
    go_wp2_with fail
    refine (rput_k S p L w _ _ 0 1 HH.out rfl rfl (by decide) (by unfold Lt63; decide) HL.out).mono ?_
    rintro e w' ⟨rfl, hp⟩
    have HP := Lib.hid hp
    clear hp
    go_wp2
    go_end0
    exact ⟨rfl, HP.out⟩
  | true =>
    go_enter Try.func35, Try.ntmps35
    go_wp2_with fail
    refine (rput_k S p L w _ _ 1 1 HH.out rfl rfl (by decide) (by unfold Lt63; decide) HL.out).mono ?_
    rintro e w' ⟨rfl, hp⟩
    have HP := Lib.hid hp
    clear hp
    go_wp2
    go_end0
    exact ⟨rfl, HP.out⟩

set_option maxRecDepth 100000 in
set_option maxHeartbeats 8000000 in
theorem rvec_k (S : Nat → Prop) (p : Nat) (L : List Nat) (x1 x2 x3 y1 y2 y3 : Int) (w : World) (h : Rk S w p L) (i1 : In40 x1) (i2 : In40 x2) (i3 : In40 x3) (j1 : In40 y1) (j2 : In40 y2) (j3 : In40 y3) (hl : L.length + 234 ≤ 1000000) :
    Calls Try.prog 32 #[.agg #[.int .i64 x1, .int .i64 x2, .int .i64 x3], .agg #[.int .i64 y1, .int .i64 y2, .int .i64 y3], .pointer (some ⟨p, 0, none⟩)] w fun e w' => e = .returned (.tuple #[]) ∧ RkPost S p (L ++ vec3L (x1 - y1) (x2 - y2) (x3 - y3)) w w' := by
  have HH := Lib.hid h
  have HL := Lib.hid hl
  unfold In40 at i1 i2 i3 j1 j2 j3
  clear h hl
  go_enter Try.func32, Try.ntmps32
  go_wp2_with fail
  refine calls_fresh ?_
  rintro w1 hb1
  have hv1 : Below w.heap.size w w1 := (by repeat (with_reducible (first | exact Below.refl _ _ | assumption | apply ext_drew | apply ext_drewN | apply ext_alloc | apply ext_more | (refine ext_setCell ?_ (by first | assumption | (simp <;> omega)) _) | (refine ext_below ?_ (by assumption)))))
  have D1 : Blk w1 (w.heap.size + 1) #[.int .i64 y1, .int .i64 y2, .int .i64 y3] := Blk.below (by repeat (with_reducible (first | assumption | (apply Blk.at; simp; done) | apply Blk.alloc | apply Blk.drew | apply Blk.drewN | apply Blk.more | apply Blk.put | (apply Blk.far; focus (first | assumption | (apply Ne.symm; assumption) | (simp; done) | (simp <;> omega)))))) hb1
  refine (parts_c _ _ _ _).mono ?_
  rintro e w2 ⟨rfl, P2, hb2⟩
  have hv2 : Below w.heap.size w w2 := hv1.trans (hb2.mono hv1.size)
  have D2 := D1.below hb2
  obtain ⟨S1, hS1⟩ : ∃ S1, S1 = fun b => S b ∨ (w.heap.size ≤ b ∧ b < w2.heap.size) := ⟨_, rfl⟩
  have H2 : Rk S1 w2 p L := by rw [hS1]; exact HH.out.fresh hv2
  have HSS : Hid (∀ b, S b → S1 b) := Lib.hid (fun b hb => by rw [hS1]; exact .inl hb)
  have hsz1 := hv1.size
  have HC : Hid (S1 (w1.heap.size + 1) ∧ S1 (w.heap.size + 1)) := Lib.hid (by rw [hS1]; exact ⟨.inr ⟨by omega, P2.lt⟩, .inr ⟨by omega, D2.lt⟩⟩)
  have HMM : Hid (Mod (fun b => ¬ S b) w w2) := Lib.hid (Mod.of_below hv2)
  obtain ⟨u0, hu0⟩ : ∃ u, u = w1.heap.size + 1 := ⟨_, rfl⟩
  obtain ⟨u1, hu1⟩ : ∃ u, u = w.heap.size + 1 := ⟨_, rfl⟩
  rw [← hu1, ← hu0] at HC
  rw [← hu0] at P2
  rw [← hu1] at D2
  rw [← hu1, ← hu0]
  obtain ⟨z0, c0, f0⟩ := id P2
  obtain ⟨z1, c1, f1⟩ := id D2
  clear hS1 hb1 hb2 HH hv1 hv2 D1 hu0 hu1 hsz1
  go_wp2
  refine wp_loop_rounds 4 ?_
  rw [rounds_succ]
  go_wp2_with fail
  refine calls_fresh ?_
  rintro w3 hb3
  have hv3 : Below w2.heap.size w2 w3 := (by repeat (with_reducible (first | exact Below.refl _ _ | assumption | apply ext_drew | apply ext_drewN | apply ext_alloc | apply ext_more | (refine ext_setCell ?_ (by first | assumption | (simp <;> omega)) _) | (refine ext_below ?_ (by assumption)))))
  have HH3 := Lib.hid (H2.below hv3)
  have P3 := P2.below hv3
  have D3 := D2.below hv3
  have HMv3 : Hid (Mod (fun b => ¬ S1 b) w2 w3) := Lib.hid (Mod.of_below hv3)
  clear hb3 hv3 H2 P2 D2 z0 c0 f0 z1 c1 f1
  refine (parts_c _ _ _ _).mono ?_
  rintro e w4 ⟨rfl, Q4, hb4⟩
  have HH4 := Lib.hid (HH3.out.below hb4)
  have P4 := P3.below hb4
  have D4 := D3.below hb4
  have HMv4 : Hid (Mod (fun b => ¬ S1 b) w3 w4) := Lib.hid (Mod.of_below hb4)
  obtain ⟨z0, c0, f0⟩ := id P4
  obtain ⟨z1, c1, f1⟩ := id D4
  obtain ⟨zq, cq, fq⟩ := id Q4
  clear hb4 P3 D3 HH3 Q4
  go_wp2_with fail
  refine (rint_k S1 p (L) w4 (x1 - y1) HH4.out (by omega) (by omega) (by have := HL.out; skip; omega)).mono ?_
  rintro e w5 ⟨rfl, H5, hm5⟩
  have P5 := P4.mod hm5 (fun hn => hn HC.out.1)
  have D5 := D4.mod hm5 (fun hn => hn HC.out.2)
  have HMv5 := Lib.hid hm5
  clear hm5 HH4 P4 D4 z0 c0 f0 z1 c1 f1 zq cq fq
  obtain ⟨z0, c0, f0⟩ := id P5
  obtain ⟨z1, c1, f1⟩ := id D5
  go_wp2
  rw [rounds_succ]
  go_wp2_with fail
  refine calls_fresh ?_
  rintro w6 hb6
  have hv6 : Below w5.heap.size w5 w6 := (by repeat (with_reducible (first | exact Below.refl _ _ | assumption | apply ext_drew | apply ext_drewN | apply ext_alloc | apply ext_more | (refine ext_setCell ?_ (by first | assumption | (simp <;> omega)) _) | (refine ext_below ?_ (by assumption)))))
  have HH6 := Lib.hid (H5.below hv6)
  have P6 := P5.below hv6
  have D6 := D5.below hv6
  have HMv6 : Hid (Mod (fun b => ¬ S1 b) w5 w6) := Lib.hid (Mod.of_below hv6)
  clear hb6 hv6 H5 P5 D5 z0 c0 f0 z1 c1 f1
  refine (parts_c _ _ _ _).mono ?_
  rintro e w7 ⟨rfl, Q7, hb7⟩
  have HH7 := Lib.hid (HH6.out.below hb7)
  have P7 := P6.below hb7
  have D7 := D6.below hb7
  have HMv7 : Hid (Mod (fun b => ¬ S1 b) w6 w7) := Lib.hid (Mod.of_below hb7)
  obtain ⟨z0, c0, f0⟩ := id P7
  obtain ⟨z1, c1, f1⟩ := id D7
  obtain ⟨zq, cq, fq⟩ := id Q7
  clear hb7 P6 D6 HH6 Q7
  go_wp2_with fail
  refine (rint_k S1 p (L ++ intL (x1 - y1)) w7 (x2 - y2) HH7.out (by omega) (by omega) (by have := HL.out; simp only [List.length_append]; have := intL_le (x1 - y1); have := intL_le (x2 - y2); omega)).mono ?_
  rintro e w8 ⟨rfl, H8, hm8⟩
  have P8 := P7.mod hm8 (fun hn => hn HC.out.1)
  have D8 := D7.mod hm8 (fun hn => hn HC.out.2)
  have HMv8 := Lib.hid hm8
  clear hm8 HH7 P7 D7 z0 c0 f0 z1 c1 f1 zq cq fq
  obtain ⟨z0, c0, f0⟩ := id P8
  obtain ⟨z1, c1, f1⟩ := id D8
  go_wp2
  rw [rounds_succ]
  go_wp2_with fail
  refine calls_fresh ?_
  rintro w9 hb9
  have hv9 : Below w8.heap.size w8 w9 := (by repeat (with_reducible (first | exact Below.refl _ _ | assumption | apply ext_drew | apply ext_drewN | apply ext_alloc | apply ext_more | (refine ext_setCell ?_ (by first | assumption | (simp <;> omega)) _) | (refine ext_below ?_ (by assumption)))))
  have HH9 := Lib.hid (H8.below hv9)
  have P9 := P8.below hv9
  have D9 := D8.below hv9
  have HMv9 : Hid (Mod (fun b => ¬ S1 b) w8 w9) := Lib.hid (Mod.of_below hv9)
  clear hb9 hv9 H8 P8 D8 z0 c0 f0 z1 c1 f1
  refine (parts_c _ _ _ _).mono ?_
  rintro e w10 ⟨rfl, Q10, hb10⟩
  have HH10 := Lib.hid (HH9.out.below hb10)
  have P10 := P9.below hb10
  have D10 := D9.below hb10
  have HMv10 : Hid (Mod (fun b => ¬ S1 b) w9 w10) := Lib.hid (Mod.of_below hb10)
  obtain ⟨z0, c0, f0⟩ := id P10
  obtain ⟨z1, c1, f1⟩ := id D10
  obtain ⟨zq, cq, fq⟩ := id Q10
  clear hb10 P9 D9 HH9 Q10
  go_wp2_with fail
  refine (rint_k S1 p (L ++ intL (x1 - y1) ++ intL (x2 - y2)) w10 (x3 - y3) HH10.out (by omega) (by omega) (by have := HL.out; simp only [List.length_append]; have := intL_le (x1 - y1); have := intL_le (x2 - y2); omega)).mono ?_
  rintro e w11 ⟨rfl, H11, hm11⟩
  have P11 := P10.mod hm11 (fun hn => hn HC.out.1)
  have D11 := D10.mod hm11 (fun hn => hn HC.out.2)
  have HMv11 := Lib.hid hm11
  clear hm11 HH10 P10 D10 z0 c0 f0 z1 c1 f1 zq cq fq
  obtain ⟨z0, c0, f0⟩ := id P11
  obtain ⟨z1, c1, f1⟩ := id D11
  go_wp2
  rw [rounds_succ]
  go_wp2
  go_end0
  refine ⟨rfl, ?_⟩
  have e : L ++ intL (x1 - y1) ++ intL (x2 - y2) ++ intL (x3 - y3) = L ++ vec3L (x1 - y1) (x2 - y2) (x3 - y3) := by unfold vec3L; simp only [List.append_assoc]
  rw [← e]
  exact RkPost.back ⟨H11, ((((((((HMv3.out.trans HMv4.out).trans HMv5.out).trans HMv6.out).trans HMv7.out).trans HMv8.out).trans HMv9.out).trans HMv10.out).trans HMv11.out)⟩ HSS.out HMM.out

end Go.Proofs.Ytefhmbmbhiehdaa
namespace Go.Proofs.Ytefhmbmbhiehdaa
open Go.ChangeShapes Go.WideShapes Go.ChangeAt Go.RowKit Go.BigFrame
theorem rowF_step {M : Nat → Nat → Int} {x : Int} {k f : Nat} (hf : 0 < f) (h : M k 0 ≠ x) : rowF M x k f = rowF M x (k + 1) (f - 1) := by
  obtain ⟨g, rfl⟩ : ∃ g, f = g + 1 := ⟨f - 1, by omega⟩
  simp [rowF, h]
theorem rowF_here {M : Nat → Nat → Int} {x : Int} {k f : Nat} (hf : 0 < f) (h : M k 0 = x) : rowF M x k f = some k := by
  obtain ⟨g, rfl⟩ : ∃ g, f = g + 1 := ⟨f - 1, by omega⟩
  simp [rowF, h]

set_option maxRecDepth 100000 in
set_option maxHeartbeats 8000000 in
theorem look_k (n : Nat) (A : Option Addr) (cap : Nat) (M : Nat → Nat → Int) (x : Int) (w : World) (hn : n ≤ 9223372036854775807) (hR : Reads w A n 11 M) :
    Calls Try.prog 37 #[.slice A n cap, .int .i64 x] w fun e w' => ((∃ i, rowOf M n x = some i ∧ e = .returned (.tuple #[.agg #[.int .i64 (M i 0), .int .i64 (M i 1), .int .i64 (M i 2), .int .i64 (M i 3), .int .i64 (M i 4), .int .i64 (M i 5), .int .i64 (M i 6), .int .i64 (M i 7), .int .i64 (M i 8), .int .i64 (M i 9), .int .i64 (M i 10)], .bool true])) ∨ (rowOf M n x = none ∧ e = .returned (.tuple #[.agg #[.int .i64 0, .int .i64 0, .int .i64 0, .int .i64 0, .int .i64 0, .int .i64 0, .int .i64 0, .int .i64 0, .int .i64 0, .int .i64 0, .int .i64 0], .bool false]))) ∧ Below w.heap.size w w' := by
  go_enter Try.func37, Try.ntmps37
  go_wp2
  refine wp_fresh ?_
  rintro w0 hb0
  have Z0 : Blk w0 w.heap.size #[.int .i64 0, .int .i64 0, .int .i64 0, .int .i64 0, .int .i64 0, .int .i64 0, .int .i64 0, .int .i64 0, .int .i64 0, .int .i64 0, .int .i64 0] := Blk.below (by repeat (with_reducible (first | assumption | (apply Blk.at; simp; done) | apply Blk.alloc | apply Blk.drew | apply Blk.drewN | apply Blk.more | apply Blk.put | (apply Blk.far; focus (first | assumption | (apply Ne.symm; assumption) | (simp; done) | (simp <;> omega)))))) hb0
  have hB0 : Below w.heap.size w w0 := (by repeat (with_reducible (first | exact Below.refl _ _ | assumption | apply ext_drew | apply ext_drewN | apply ext_alloc | apply ext_more | (refine ext_setCell ?_ (by first | assumption | (simp <;> omega)) _) | (refine ext_below ?_ (by assumption)))))
  clear hb0
  go_loopw [10] (fun i wr => ∃ k : Nat, k ≤ n ∧ i = .int .i64 k ∧ rowF M x k (n - k) = rowOf M n x ∧ Blk wr w.heap.size #[.int .i64 0, .int .i64 0, .int .i64 0, .int .i64 0, .int .i64 0, .int .i64 0, .int .i64 0, .int .i64 0, .int .i64 0, .int .i64 0, .int .i64 0] ∧ Below w.heap.size w wr) (fun i _ => n - (intOf i).toNat)
  case atStart => exact ⟨0, by omega, rfl, rfl, Z0, hB0⟩
  case round =>
    obtain ⟨k, hk, rfl, hrow, hZ, hB⟩ := hrel
    by_cases hlt : k < n
    · obtain ⟨b, of, rfl, hb, hc⟩ := hR (by omega)
      have hload : ∀ j, j < 11 → wr.cell? ⟨b, of + k * 11 + j, none⟩ = some (.int .i64 (M k j)) := fun j hj => by rw [Nat.add_assoc]; exact (hB.cell (p := ⟨b, of + (k * 11 + j), none⟩) hb).trans (hc k hlt j hj)
      have HLD := Lib.hid hload
      clear hload hc Z0 hB0
      go_upto_region 4 with (refine wp_seenR HLD.out rfl (.tmp 12) rfl rfl ?_)
      refine wp_fresh ?_
      rintro w1 hb1
      have L1 : Blk w1 wr.heap.size #[.int .i64 (M k 0), .int .i64 (M k 1), .int .i64 (M k 2), .int .i64 (M k 3), .int .i64 (M k 4), .int .i64 (M k 5), .int .i64 (M k 6), .int .i64 (M k 7), .int .i64 (M k 8), .int .i64 (M k 9), .int .i64 (M k 10)] := Blk.below (by repeat (with_reducible (first | assumption | (apply Blk.at; simp; done) | apply Blk.alloc | apply Blk.drew | apply Blk.drewN | apply Blk.more | apply Blk.put | (apply Blk.far; focus (first | assumption | (apply Ne.symm; assumption) | (simp; done) | (simp <;> omega)))))) hb1
      have Z1 : Blk w1 w.heap.size #[.int .i64 0, .int .i64 0, .int .i64 0, .int .i64 0, .int .i64 0, .int .i64 0, .int .i64 0, .int .i64 0, .int .i64 0, .int .i64 0, .int .i64 0] := Blk.below (by repeat (with_reducible (first | assumption | (apply Blk.at; simp; done) | apply Blk.alloc | apply Blk.drew | apply Blk.drewN | apply Blk.more | apply Blk.put | (apply Blk.far; focus (first | assumption | (apply Ne.symm; assumption) | (simp; done) | (simp <;> omega)))))) hb1
      have hB1 : Below w.heap.size w w1 := (by repeat (with_reducible (first | exact Below.refl _ _ | assumption | apply ext_drew | apply ext_drewN | apply ext_alloc | apply ext_more | (refine ext_setCell ?_ (by first | assumption | (simp <;> omega)) _) | (refine ext_below ?_ (by assumption)))))
      have hne : wr.heap.size ≠ w.heap.size := by have := hZ.lt; omega
      have hb9 : w.heap.size ≤ wr.heap.size := hB.size
      clear HLD hb1 hZ hB
      obtain ⟨zl, cl, fl⟩ := id L1
      obtain ⟨zz, cz, fz⟩ := id Z1
      by_cases hx : M k 0 = x
      · have d : (M k 0 == x) = true := by simpa using hx
        have HE : Hid (rowOf M n x = some k) := Lib.hid (by rw [← hrow]; exact rowF_here (by omega) hx)
        clear hx hrow
        go_wp2
        exact bodyPost_ret (v := .tuple #[.agg #[.int .i64 (M k 0), .int .i64 (M k 1), .int .i64 (M k 2), .int .i64 (M k 3), .int .i64 (M k 4), .int .i64 (M k 5), .int .i64 (M k 6), .int .i64 (M k 7), .int .i64 (M k 8), .int .i64 (M k 9), .int .i64 (M k 10)], .bool true]) (by simp [results, Try.results37, go_sem, *]) rfl ⟨.inl ⟨k, HE.out, rfl⟩, (by repeat (with_reducible (first | exact Below.refl _ _ | assumption | apply ext_drew | apply ext_drewN | apply ext_alloc | apply ext_more | (refine ext_setCell ?_ (by first | assumption | (simp <;> omega)) _) | (refine ext_below ?_ (by assumption)))))⟩
      · have d : (M k 0 == x) = false := by simpa using hx
        have HE : Hid (rowF M x (k + 1) (n - (k + 1)) = rowOf M n x) := Lib.hid (by rw [← hrow, rowF_step (k := k) (by omega) hx, Nat.sub_sub])
        clear hx hrow
        go_wp2
        go_roundw
        case rel => exact ⟨k + 1, by omega, by go_num, HE.out, (by repeat (with_reducible (first | assumption | (apply Blk.at; simp; done) | apply Blk.alloc | apply Blk.drew | apply Blk.drewN | apply Blk.more | apply Blk.put | (apply Blk.far; focus (first | assumption | (apply Ne.symm; assumption) | (simp; done) | (simp <;> omega)))))), (by repeat (with_reducible (first | exact Below.refl _ _ | assumption | apply ext_drew | apply ext_drewN | apply ext_alloc | apply ext_more | (refine ext_setCell ?_ (by first | assumption | (simp <;> omega)) _) | (refine ext_below ?_ (by assumption)))))⟩
        case measure => simp [intOf]; omega
    · have hkn : n = k := by omega
      subst hkn
      have HE : Hid (rowOf M n x = none) := Lib.hid (by rw [← hrow, Nat.sub_self]; rfl)
      obtain ⟨zz, cz, fz⟩ := id hZ
      clear hrow Z0 hB0
      go_wp2
      exact bodyPost_ret (v := .tuple #[.agg #[.int .i64 0, .int .i64 0, .int .i64 0, .int .i64 0, .int .i64 0, .int .i64 0, .int .i64 0, .int .i64 0, .int .i64 0, .int .i64 0, .int .i64 0], .bool false]) (by simp [results, Try.results37, go_sem, *]) rfl ⟨.inr ⟨HE.out, rfl⟩, (by repeat (with_reducible (first | exact Below.refl _ _ | assumption | apply ext_drew | apply ext_drewN | apply ext_alloc | apply ext_more | (refine ext_setCell ?_ (by first | assumption | (simp <;> omega)) _) | (refine ext_below ?_ (by assumption)))))⟩

end Go.Proofs.Ytefhmbmbhiehdaa
namespace Go.Proofs.Ytefhmbmbhiehdaa
/-- they rise, from above lo on, up to 2^40 -/
def Rises : Int → List Int → Prop
  | _, [] => True
  | lo, x :: l => lo < x ∧ x ≤ 1099511627776 ∧ Rises x l
theorem Rises.le {lo lo' : Int} (h : lo' ≤ lo) : ∀ {l : List Int}, Rises lo l → Rises lo' l
  | [], _ => trivial
  | _ :: _, hr => ⟨Int.lt_of_le_of_lt h hr.1, hr.2⟩
theorem ids_rise {M1 M2 : Nat → Nat → Int} {n1 n2 : Nat} (h1 : RightV n1 M1) (h2 : RightV n2 M2) : ∀ (f i k : Nat) (lo : Int), (i < n1 → lo < M1 i 0) → (k < n2 → lo < M2 k 0) → Rises lo (idsF M1 n1 M2 n2 f i k) := by
  intro f
  induction f with
  | zero => intro i k lo _ _; exact trivial
  | succ f ih =>
    intro i k lo hi hk
    unfold idsF
    by_cases hl : i < n1 ∨ k < n2
    · rw [if_pos hl]
      by_cases hg : Gone M1 n1 M2 n2 i k
      · rw [if_pos hg]
        exact ⟨hi hg.1, h1.top hg.1, ih (i + 1) k _ (fun h => h1.ids (by omega) h) hg.2⟩
      · rw [if_neg hg]
        by_cases hc : Came M1 n1 M2 n2 i k
        · rw [if_pos hc]
          exact ⟨hk hc.1, h2.top hc.1, ih i (k + 1) _ hc.2 (fun h => h2.ids (by omega) h)⟩
        · rw [if_neg hc]
          have hin : i < n1 := by
            rcases hl with h | h
            · exact h
            · by_cases h' : i < n1
              · exact h'
              · exact absurd ⟨h, fun h'' => absurd h'' h'⟩ hc
          have hkn : k < n2 := by
            by_cases h' : k < n2
            · exact h'
            · exact absurd ⟨hin, fun h'' => absurd h'' h'⟩ hg
          have he : M1 i 0 = M2 k 0 := by
            have e1 : ¬ M1 i 0 < M2 k 0 := fun h => hg ⟨hin, fun _ => h⟩
            have e2 : ¬ M2 k 0 < M1 i 0 := fun h => hc ⟨hkn, fun _ => h⟩
            omega
          exact ⟨hi hin, h1.top hin, ih (i + 1) (k + 1) _ (fun h => h1.ids (by omega) h) (fun h => by rw [he]; exact h2.ids (by omega) h)⟩
    · rw [if_neg hl]
      exact trivial
/-- all the numbers of two views that may be -/
theorem ids_rises {M1 M2 : Nat → Nat → Int} {n1 n2 : Nat} (h1 : RightV n1 M1) (h2 : RightV n2 M2) : Rises 0 (idsF M1 n1 M2 n2 (n1 + n2) 0 0) :=
  ids_rise h1 h2 _ 0 0 0 (fun h => by have := h1.pos h; omega) (fun h => by have := h2.pos h; omega)
end Go.Proofs.Ytefhmbmbhiehdaa
namespace Go.Proofs.Ytefhmbmbhiehdaa
open Go.ChangeShapes Go.WideShapes Go.ChangeAt Go.RowKit Go.BigFrame
theorem seenInfo : (Try.prog.info? 102).map (fun i => (i.zero, i.size, i.bytes)) = some (some (.agg #[.int .i64 0, .int .i64 0, .int .i64 0, .int .i64 0, .int .i64 0, .int .i64 0, .int .i64 0, .int .i64 0, .int .i64 0, .int .i64 0, .int .i64 0]), 11, 88) := by kernel_rfl

theorem rowsL_zero (M : Nat → Nat → Int) (c : Nat) : rowsL M c 0 = [] := by simp [rowsL]
theorem rowsL_succ (M : Nat → Nat → Int) (k : Nat) : rowsL M 11 (k + 1) = rowsL M 11 k ++ (#[.int .i64 (M k 0), .int .i64 (M k 1), .int .i64 (M k 2), .int .i64 (M k 3), .int .i64 (M k 4), .int .i64 (M k 5), .int .i64 (M k 6), .int .i64 (M k 7), .int .i64 (M k 8), .int .i64 (M k 9), .int .i64 (M k 10)] : Array Value).toList := by
  unfold rowsL
  rw [Nat.add_mul, List.range_add, List.map_append]
  congr 1
  have e : ∀ j, j < 11 → (k * 11 + j) / 11 = k ∧ (k * 11 + j) % 11 = j := fun j hj => by omega
  simp only [List.range, List.range.loop, List.map]
  rw [(e 0 (by decide)).1, (e 0 (by decide)).2, (e 1 (by decide)).1, (e 1 (by decide)).2, (e 2 (by decide)).1, (e 2 (by decide)).2, (e 3 (by decide)).1, (e 3 (by decide)).2, (e 4 (by decide)).1, (e 4 (by decide)).2, (e 5 (by decide)).1, (e 5 (by decide)).2, (e 6 (by decide)).1, (e 6 (by decide)).2, (e 7 (by decide)).1, (e 7 (by decide)).2, (e 8 (by decide)).1, (e 8 (by decide)).2, (e 9 (by decide)).1, (e 9 (by decide)).2, (e 10 (by decide)).1, (e 10 (by decide)).2]
theorem ints_one (M : Nat → Nat → Int) (k : Nat) : ∀ u ∈ (#[.int .i64 (M k 0), .int .i64 (M k 1), .int .i64 (M k 2), .int .i64 (M k 3), .int .i64 (M k 4), .int .i64 (M k 5), .int .i64 (M k 6), .int .i64 (M k 7), .int .i64 (M k 8), .int .i64 (M k 9), .int .i64 (M k 10)] : Array Value).toList, u.oneCell' = true := by
  intro u hu
  simp at hu
  rcases hu with rfl | rfl | rfl | rfl | rfl | rfl | rfl | rfl | rfl | rfl | rfl <;> rfl

set_option maxRecDepth 100000 in
set_option maxHeartbeats 8000000 in
theorem seen_c (n : Nat) (A : Option Addr) (cap : Nat) (M : Nat → Nat → Int) (w : World) (hn : n ≤ 100000) (hR : Reads w A n 11 M) :
    Calls Try.prog 9 #[.slice A n cap] w fun e w' => ∃ SA SC, e = .returned (.slice SA n SC) ∧ (SA = none → n = 0 ∧ SC = 0) ∧ Reads w' SA n 11 M ∧ Below w.heap.size w w' := by
  go_enter Try.func9, Try.ntmps9
  go_wp2
  go_loopw [3, 4] (fun v i wr => ∃ (k : Nat) (SA : Option Addr) (SC : Nat), k ≤ n ∧ i = .int .i64 k ∧ v = .slice SA k SC ∧ (SA = none → k = 0 ∧ SC = 0) ∧ wr.ownsRow w.heap.size 102 11 (.slice SA k SC) k (rowsL M 11 k) ∧ Below w.heap.size w wr) (fun _ i _ => n - (intOf i).toNat)
  case atStart => exact ⟨0, none, 0, by omega, rfl, rfl, fun _ => ⟨rfl, rfl⟩, by rw [rowsL_zero]; exact ⟨by simp, .inl ⟨rfl, rfl⟩⟩, Below.refl _ _⟩
  case round =>
    obtain ⟨k, SA, SC, hk, rfl, rfl, hZ, hO, hB⟩ := hrel
    by_cases hlt : k < n
    · obtain ⟨b, of, rfl, hb, hc⟩ := hR (by omega)
      have hload : ∀ j, j < 11 → wr.cell? ⟨b, of + k * 11 + j, none⟩ = some (.int .i64 (M k j)) := fun j hj => by rw [Nat.add_assoc]; exact (hB.cell (p := ⟨b, of + (k * 11 + j), none⟩) hb).trans (hc k hlt j hj)
      have HLD := Lib.hid hload
      clear hload hc
      go_upto_region 6 with (refine wp_seenS HLD.out rfl (.tmp 14) rfl rfl ?_)
      refine wp_fresh ?_
      rintro w1 hb1
      have L1 : Blk w1 wr.heap.size #[.int .i64 (M k 0), .int .i64 (M k 1), .int .i64 (M k 2), .int .i64 (M k 3), .int .i64 (M k 4), .int .i64 (M k 5), .int .i64 (M k 6), .int .i64 (M k 7), .int .i64 (M k 8), .int .i64 (M k 9), .int .i64 (M k 10)] := Blk.below (by repeat (with_reducible (first | assumption | (apply Blk.at; simp; done) | apply Blk.alloc | apply Blk.drew | apply Blk.drewN | apply Blk.more | apply Blk.put | (apply Blk.far; focus (first | assumption | (apply Ne.symm; assumption) | (simp; done) | (simp <;> omega)))))) hb1
      have hv1 : Below wr.heap.size wr w1 := ext_below ((Below.refl _ _).alloc (Nat.le_refl _) _) hb1
      have hB1 : Below w.heap.size w w1 := hB.trans (hv1.mono hB.size)
      have HO1 := Lib.hid (row_below hO hv1)
      obtain ⟨zl, cl, fl⟩ := id L1
      have hbs := hB1.size
      have HBS := Lib.hid hbs
      clear L1 hb1 hB HLD hO hZ hv1 hbs
      go_wp2_with (at_builtin; go_must (refine app_one rfl (.tmp 16) (.tmp 28) 32 rfl Try.underlying32 seenInfo rfl (by decide) (by decide) w.heap.size (.slice SA k SC) k (rowsL M 11 k) rfl HO1.out #[.int .i64 (M k 0), .int .i64 (M k 1), .int .i64 (M k 2), .int .i64 (M k 3), .int .i64 (M k 4), .int .i64 (M k 5), .int .i64 (M k 6), .int .i64 (M k 7), .int .i64 (M k 8), .int .i64 (M k 9), .int .i64 (M k 10)] rfl (by simp) rfl (ints_one M k) (by omega) HBS.out ?_; intro g c w5 hown hmod hwh hbg; have HO5 := Lib.hid hown; have HM5 := Lib.hid hmod; have HG := Lib.hid hbg; clear hown hmod hwh hbg))
      go_roundw
      case rel => exact ⟨k + 1, _, c, by omega, by go_num, rfl, (fun h => by cases h), (by rw [rowsL_succ]; exact HO5.out), hB1.trans (HM5.out.toBelow hB1.size (fun b hb e => by have := (row_lt HO1.out e).2; omega))⟩
      case measure => simp [intOf]; omega
    · have hkn : n = k := by omega
      subst hkn
      have HO := Lib.hid hO
      clear hO
      go_wp2
      go_ret
      exact ⟨SA, SC, rfl, hZ, fun h => by
        obtain ⟨g, c, e, _, _, _, hT⟩ := tab_of_own HO.out h
        cases e
        exact Reads.of_tab hT h, hB⟩

end Go.Proofs.Ytefhmbmbhiehdaa
