/- Writers that began when there were so many blocks: what they do is beyond these. Conditions: none. -/
import Derived.Test.YtnkinnfpebploaaDoorBoth
import Derived.Test.YtnkinnfpebploaaDoorErr
namespace Go.Proofs.YtnkinnfpebploaaDoor
open Go.ChangeShapes Go.WideShapes Go.ChangeAt Go.RowKit Go.BigFrame
open B
/-- a writer at block p, all of whose memory is from p on -/
def Wo (w : World) (p : Nat) (L : List Nat) : Prop := ∃ v, Wr w p p v L
/-- the document's -/
def Ro (w : World) (p : Nat) (L : List Nat) : Prop := ∃ v, Rb w p p v L
section
variable {w w' w1 : World} {p : Nat} {L : List Nat}
theorem Wo.lt (h : Wo w p L) : p < w.heap.size := by obtain ⟨v, h⟩ := h; exact h.blk.lt
theorem Ro.lt (h : Ro w p L) : p < w.heap.size := by obtain ⟨v, h⟩ := h; exact h.blk.lt
theorem Wo.bin (h : Wo w p L) : Bin L := by obtain ⟨v, h⟩ := h; exact h.bin
theorem Wo.lim (h : Wo w p L) : L.length ≤ 32000 := by obtain ⟨v, h⟩ := h; exact h.lim
theorem Ro.bin (h : Ro w p L) : Bin L := by obtain ⟨v, h⟩ := h; exact h.bin
theorem Ro.lim (h : Ro w p L) : L.length ≤ 1000000 := by obtain ⟨v, h⟩ := h; exact h.lim
theorem Wo.below (h : Wo w p L) (k : Below w.heap.size w w') : Wo w' p L := by obtain ⟨v, h⟩ := h; exact ⟨v, wr_of_below h k⟩
theorem Ro.below (h : Ro w p L) (k : Below w.heap.size w w') : Ro w' p L := by obtain ⟨v, h⟩ := h; exact ⟨v, rb_of_below h k⟩
/-- what is written below p is no matter -/
theorem Wo.low {S : Nat → Prop} (h : Wo w p L) (k : Mod S w w') (hs : ∀ b, S b → b < p) : Wo w' p L := by
  obtain ⟨v, h⟩ := h
  exact ⟨v, wr_mod h k (fun e => Nat.lt_irrefl _ (hs _ e)) (fun b hb e => by have := (row_lt h.row hb).2; have := hs b e; omega)⟩
theorem Ro.low {S : Nat → Prop} (h : Ro w p L) (k : Mod S w w') (hs : ∀ b, S b → b < p) : Ro w' p L := by
  obtain ⟨v, h⟩ := h
  exact ⟨v, rb_mod h k (fun e => Nat.lt_irrefl _ (hs _ e)) (fun b hb e => by have := (row_lt h.row hb).2; have := hs b e; omega)⟩
theorem wo_new {T : TypeId} (hp : p = w.heap.size) (h : Below (w.alloc (.cells #[.slice none 0 0, .int .i64 0] T)).heap.size (w.alloc (.cells #[.slice none 0 0, .int .i64 0] T)) w1) : Wo w1 p [] := ⟨_, wr_new hp h⟩
theorem ro_new {T : TypeId} (hp : p = w.heap.size) (h : Below (w.alloc (.cells #[.slice none 0 0] T)).heap.size (w.alloc (.cells #[.slice none 0 0] T)) w1) : Ro w1 p [] := ⟨_, rb_new hp h⟩
end
/-- behind a write -/
def WoPost (p : Nat) (L : List Nat) (w w' : World) : Prop := Wo w' p L ∧ Below p w w'
def RoPost (p : Nat) (L : List Nat) (w w' : World) : Prop := Ro w' p L ∧ Below p w w'
theorem put_o (p : Nat) (n width : Int) (k j : Nat) (L : List Nat) (w : World) (h : Wo w p L) (ek : n = k) (ej : width = j) (hw : j ≤ 62) (hn : k < 2 ^ j) (hl : L.length + j ≤ 32000) :
    Calls Tryd.prog 27 #[.pointer (some ⟨p, 0, none⟩), .int .i64 n, .int .i64 width] w fun e w' => e = .returned .nilIface ∧ WoPost p (L ++ bitsOf j k) w w' := by
  have hlt := Nat.le_of_lt h.lt
  obtain ⟨v, h⟩ := h
  exact (put_i p p n width k j v L w h hlt ek ej hw hn hl).mono fun e w' ⟨he, v', hW, hT⟩ => ⟨he, ⟨v', hW⟩, wr_below h (Nat.le_refl _) hlt hT⟩
theorem var_o (p k : Nat) (n : Int) (L : List Nat) (w : World) (h : Wo w p L) (en : n = k) (hn : k < 4611686018427387904) (hl : L.length + 6 * pieces k ≤ 32000) :
    Calls Tryd.prog 29 #[.pointer (some ⟨p, 0, none⟩), .int .i64 n] w fun e w' => e = .returned .nilIface ∧ WoPost p (L ++ varL k) w w' := by
  have hlt := Nat.le_of_lt h.lt
  obtain ⟨v, h⟩ := h
  exact (var_i p p k n v L w h hlt en hn hl).mono fun e w' ⟨he, v', hW, hT⟩ => ⟨he, ⟨v', hW⟩, wr_below h (Nat.le_refl _) hlt hT⟩
theorem int_o (p : Nat) (n : Int) (L : List Nat) (w : World) (h : Wo w p L) (h1 : -1152921504606846976 ≤ n) (h2 : n ≤ 1152921504606846976) (hl : L.length + 6 * pieces (zig n) ≤ 32000) :
    Calls Tryd.prog 31 #[.pointer (some ⟨p, 0, none⟩), .int .i64 n] w fun e w' => e = .returned .nilIface ∧ WoPost p (L ++ intL n) w w' := by
  have hlt := Nat.le_of_lt h.lt
  obtain ⟨v, h⟩ := h
  exact (int_ok p p n v L w h hlt h1 h2 hl).mono fun e w' ⟨he, v', hW, hT⟩ => ⟨he, ⟨v', hW⟩, wr_below h (Nat.le_refl _) hlt hT⟩
theorem bytes_o (p : Nat) (L : List Nat) (w : World) (h : Wo w p L) : Calls Tryd.prog 34 #[.pointer (some ⟨p, 0, none⟩)] w (BytesPost L w) := by
  obtain ⟨v, h⟩ := h
  exact bytes_c p p v L w h
theorem rput_o (p : Nat) (n width : Int) (k j : Nat) (L : List Nat) (w : World) (h : Ro w p L) (ek : n = k) (ej : width = j) (hw : j ≤ 62) (hn : Lt63 k) (hl : L.length + j ≤ 1000000) :
    Calls Tryd.prog 28 #[.pointer (some ⟨p, 0, none⟩), .int .i64 n, .int .i64 width] w fun e w' => e = .returned (.tuple #[]) ∧ RoPost p (L ++ bitsOf j k) w w' := by
  have hlt := Nat.le_of_lt h.lt
  obtain ⟨v, h⟩ := h
  exact (rput_i p p n width k j v L w h hlt ek ej hw hn hl).mono fun e w' ⟨he, v', hW, hT⟩ => ⟨he, ⟨v', hW⟩, rb_below h (Nat.le_refl _) hlt hT⟩
theorem rvar_o (p k : Nat) (n : Int) (L : List Nat) (w : World) (h : Ro w p L) (en : n = k) (hn : Lt62 k) (hl : L.length + 6 * pieces k ≤ 1000000) :
    Calls Tryd.prog 30 #[.pointer (some ⟨p, 0, none⟩), .int .i64 n] w fun e w' => e = .returned (.tuple #[]) ∧ RoPost p (L ++ varL k) w w' := by
  have hlt := Nat.le_of_lt h.lt
  obtain ⟨v, h⟩ := h
  exact (rvarw_i p p k n v L w h hlt en hn hl).mono fun e w' ⟨he, v', hW, hT⟩ => ⟨he, ⟨v', hW⟩, rb_below h (Nat.le_refl _) hlt hT⟩
theorem rint_o (p : Nat) (n : Int) (L : List Nat) (w : World) (h : Ro w p L) (h1 : -1152921504606846976 ≤ n) (h2 : n ≤ 1152921504606846976) (hl : L.length + 6 * pieces (zig n) ≤ 1000000) :
    Calls Tryd.prog 32 #[.pointer (some ⟨p, 0, none⟩), .int .i64 n] w fun e w' => e = .returned (.tuple #[]) ∧ RoPost p (L ++ intL n) w w' := by
  have hlt := Nat.le_of_lt h.lt
  obtain ⟨v, h⟩ := h
  exact (rintw_ok p p n v L w h hlt h1 h2 hl).mono fun e w' ⟨he, v', hW, hT⟩ => ⟨he, ⟨v', hW⟩, rb_below h (Nat.le_refl _) hlt hT⟩
/-- the slice that block p holds -/
theorem ro_cell {w : World} {p : Nat} {L : List Nat} (h : Ro w p L) : ∃ A c, w.cell? ⟨p, 0, none⟩ = some (.slice A L.length c) ∧ Rdb w (.slice A L.length c) L ∧ w.ownsRow p 5 1 (.slice A L.length c) L.length (u8s L) := by
  obtain ⟨v, h⟩ := h
  obtain ⟨A, c, rfl⟩ := row_form h.row
  exact ⟨A, c, h.blk.cell 0, Rdb.of_row h.row, h.row⟩
/-- the bytes of bits, as a slice of the call's own -/
def BsOf (w : World) (base : Nat) (v : Value) (l : List Nat) : Prop := w.ownsRow base 5 1 v l.length (u8s l)
theorem rbytes_o (v : Value) (L : List Nat) (w : World) (h : Rdb w v L) (hbin : Bin L) (hlen : L.length ≤ 1000000) : Calls Tryd.prog 35 #[v] w fun e w' => ∃ A c, e = .returned (.slice A (pack L).length c) ∧ BsOf w' w.heap.size (.slice A (pack L).length c) (pack L) ∧ Below w.heap.size w w' := by
  refine (rbytes_c v L w h hbin hlen).mono fun e w' ⟨v', he, hr, hb⟩ => ?_
  rw [← pack_length] at hr
  obtain ⟨A, c, rfl⟩ := row_form hr
  exact ⟨A, c, he, hr, hb⟩
theorem wbytes_o (p : Nat) (L : List Nat) (w : World) (h : Wo w p L) : Calls Tryd.prog 34 #[.pointer (some ⟨p, 0, none⟩)] w fun e w' => ∃ A c, e = .returned (.slice A (pack L).length c) ∧ BsOf w' w.heap.size (.slice A (pack L).length c) (pack L) ∧ (Value.slice A (pack L).length c) ≠ .slice none 0 0 ∧ Below w.heap.size w w' := by
  refine (bytes_o p L w h).mono fun e w' ⟨v, he, hB, hb⟩ => ?_
  obtain ⟨A, c, rfl⟩ := row_form hB.row
  exact ⟨A, c, he, hB.row, hB.nn, hb⟩
theorem varL_le (n : Nat) : (varL n).length ≤ 78 := by rw [varL_length]; have := pieces_bd n; omega
theorem intL_le (n : Int) : (intL n).length ≤ 78 := varL_le _
theorem pieces6 (n : Nat) : 6 * pieces n ≤ 78 := by have := pieces_bd n; omega
end Go.Proofs.YtnkinnfpebploaaDoor
