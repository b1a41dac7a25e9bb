/- The contracts of gyreref.Bits.Bytes and gyreref.Open. Conditions: none. -/
import Derived.Test.YtnkinnfpebploaaRbits1
import Derived.Laws.BytesArg
namespace Go.Proofs.Ytnkinnfpebploaa
open Go.ChangeShapes Go.WideShapes Go.ChangeAt Go.RowKit Go.BigFrame
open B
/-- the slice value v reads as the bytes l -/
def Rdb (w : World) (v : Value) (l : List Nat) : Prop := ∃ A cap, v = .slice A l.length cap ∧ (0 < l.length → ∃ b o, A = some ⟨b, o, none⟩ ∧ b < w.heap.size ∧ ∀ (j x : Nat), l[j]? = some x → w.cell? ⟨b, o + j, none⟩ = some (.int .u8 (x : Int)))
theorem Rdb.below {w w' : World} {v : Value} {l : List Nat} (h : Rdb w v l) (k : Below w.heap.size w w') : Rdb w' v l := by
  obtain ⟨A, cap, hv, hc⟩ := h
  refine ⟨A, cap, hv, fun h0 => ?_⟩
  obtain ⟨b, o, e, hb, h⟩ := hc h0
  exact ⟨b, o, e, Nat.lt_of_lt_of_le hb k.size, fun j x hx => (k.cell (p := ⟨b, o + j, none⟩) hb).trans (h j x hx)⟩
theorem Rdb.of_row {w : World} {base : Nat} {v : Value} {l : List Nat} (h : w.ownsRow base 5 1 v l.length (u8s l)) : Rdb w v l := by
  rcases Nat.eq_zero_or_pos l.length with h0 | h0
  · rcases h.2 with ⟨e, _⟩ | ⟨g, cap, cur, e, _⟩
    · exact ⟨none, 0, by rw [h0]; exact e, fun h => by omega⟩
    · exact ⟨_, cap, e, fun h => by omega⟩
  · obtain ⟨g, cap, e, _, h2, _, _, _, h6, _⟩ := row_at h h0
    exact ⟨_, cap, e, fun _ => ⟨g, 0, rfl, h2, fun j x hx => by rw [Nat.zero_add]; exact h6 j _ (by unfold u8s; rw [List.getElem?_map, hx]; rfl)⟩⟩
/-- bytes as a string -/
def strB (l : List Nat) : ByteArray := strOfNums (l.map fun n : Nat => (n : Int))
theorem conv_zero {P : Program} (w : World) (src e : TypeId) (hs : P.underlying src = some (.slice e)) (he : P.underlying e = some (.int .u8)) (p : Option Addr) (c : Nat) :
    ∀ dst, P.underlying dst = some .string → (convert src dst (.slice p 0 c)).run P w = .ok (.string ByteArray.empty) w := by
  intro dst hd
  rw [run_convert_bytes_string w src dst e _ 0 c hs he hd]
  cases p <;> simp [Conv.bytesToString, loadCells]
  all_goals rfl
theorem conv_rdb {w : World} {v : Value} {l : List Nat} (h : Rdb w v l) : (convert 26 9 v).run Try.prog w = .ok (.string (strB l)) w := by
  obtain ⟨A, cap, rfl, hc⟩ := h
  rcases Nat.eq_zero_or_pos l.length with h0 | h0
  · obtain rfl := List.eq_nil_of_length_eq_zero h0
    exact conv_zero w _ _ Try.underlying26 Try.underlying5 A cap _ Try.underlying9
  · obtain ⟨b, o, rfl, _, hcell⟩ := hc h0
    refine run_convert_bytes_arg w _ _ Try.underlying26 Try.underlying5 b o l.length cap (l.map fun n : Nat => (n : Int)) (by simp) (fun i hi => ?_) _ Try.underlying9
    rw [hcell i _ (List.getElem?_eq_getElem hi)]
    simp [List.getD, hi]
end Go.Proofs.Ytnkinnfpebploaa
