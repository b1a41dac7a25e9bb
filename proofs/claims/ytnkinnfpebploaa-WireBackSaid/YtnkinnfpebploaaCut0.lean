/- The contracts of slices.Clone over bytes, wire.Cut. Conditions: none. -/
import Derived.Test.YtnkinnfpebploaaOpenB
import Derived.Test.YtnkinnfpebploaaApp
import Derived.Test.YtnkinnfpebploaaErr
import Derived.WalkSpells
import Derived.Tactics
import Derived.Tactics2
import Derived.Outline
import Derived.Deep.CutBlock
import Derived.Deep.DeepCutAuto
namespace Go.Proofs.Ytnkinnfpebploaa
open Go.ChangeShapes Go.WideShapes Go.ChangeAt Go.RowKit Go.BigFrame
open B
/-- a part of bytes -/
theorem src_slice {w : World} {A : Option Addr} {N cap : Nat} {l : List Nat} (h : Src w (.slice A N cap) l) (hN : N = l.length) (hcap : N ≤ cap) (i j : Nat) (x y : Int) (hx : x = i) (hy : y = j) (hij : i ≤ j) (hj : j ≤ N) :
    ∃ A' c', Src w (.slice A' (j - i) c') ((l.drop i).take (j - i)) ∧ j - i ≤ c' ∧ ∀ w', (Instr.slice 26 (.slice A N cap) (some (.int .i64 x)) (some (.int .i64 y)) none).run Try.prog w' = .ok (.slice A' (j - i) c') w' := by
  subst hx hy
  have hu : Try.prog.underlying 26 = some (.slice (Try.prog.elem 26)) := by kernel_rfl
  have hsz : ∀ w', (sizeOf (Try.prog.elem 26)).run Try.prog w' = .ok 1 w' := fun w' => by kernel_rfl
  refine ⟨if cap = i then A else A.map (·.add i), cap - i, ?_, by omega, fun w' => ?_⟩
  · have hlen : ((l.drop i).take (j - i)).length = j - i := by simp; omega
    rcases h with ⟨e, rfl⟩ | ⟨ad, c, e, hc⟩
    · cases e
      left
      have : i = 0 := by simp at hN; omega
      subst this
      simp at hN hj
      subst hj
      simp
    · cases e
      right
      by_cases hci : cap = i
      · rw [if_pos hci]
        refine ⟨ad, cap - i, by rw [hlen], fun k u hu => ?_⟩
        have : k < j - i := by
          have := (List.getElem?_eq_some_iff.1 hu).1
          rw [u8s_length, hlen] at this
          exact this
        omega
      · rw [if_neg hci]
        refine ⟨ad.add i, cap - i, by rw [hlen]; rfl, fun k u hu => ?_⟩
        rw [Go.Deep.add_add]
        apply hc
        have hk : k < j - i := by
          have := (List.getElem?_eq_some_iff.1 hu).1
          rw [u8s_length, hlen] at this
          exact this
        have e : ((l.drop i).take (j - i))[k]? = l[i + k]? := by rw [List.getElem?_take, if_pos hk, List.getElem?_drop]
        unfold u8s at hu ⊢
        rw [List.getElem?_map] at hu ⊢
        rw [e] at hu
        exact hu
  · rw [run_slice_lh w' 26 A N cap hu .i64 .i64 (i : Int) (j : Int) (by omega) (by omega) (by omega)]
    rw [hsz]
    simp [Result.andThen, sliced]
theorem src_slice_h {w : World} {A : Option Addr} {N cap : Nat} {l : List Nat} (h : Src w (.slice A N cap) l) (hN : N = l.length) (hcap : N ≤ cap) (j : Nat) (y : Int) (hy : y = j) (hj : j ≤ N) :
    ∃ c', Src w (.slice A j c') (l.take j) ∧ j ≤ c' ∧ ∀ w', (Instr.slice 26 (.slice A N cap) none (some (.int .i64 y)) none).run Try.prog w' = .ok (.slice A j c') w' := by
  subst hy
  have hu : Try.prog.underlying 26 = some (.slice (Try.prog.elem 26)) := by kernel_rfl
  have hsz : ∀ w', (sizeOf (Try.prog.elem 26)).run Try.prog w' = .ok 1 w' := fun w' => by kernel_rfl
  refine ⟨cap, ?_, by omega, fun w' => ?_⟩
  · have hlen : (l.take j).length = j := by simp; omega
    rcases h with ⟨e, rfl⟩ | ⟨ad, c, e, hc⟩
    · cases e
      left
      simp at hN hj
      subst hj
      simp
    · cases e
      right
      refine ⟨ad, cap, by rw [hlen], fun k u hu => ?_⟩
      apply hc
      have hk : k < j := by
        have := (List.getElem?_eq_some_iff.1 hu).1
        rw [u8s_length, hlen] at this
        exact this
      have e : (l.take j)[k]? = l[k]? := by rw [List.getElem?_take, if_pos hk]
      unfold u8s at hu ⊢
      rw [List.getElem?_map] at hu ⊢
      rw [e] at hu
      exact hu
  · rw [run_slice_h w' 26 A N cap hu .i64 (j : Int) (by omega) (by omega)]
    rw [hsz]
    cases A <;> simp [Result.andThen, sliced, Addr.add]
theorem src_cap {w : World} {A : Option Addr} {N cap : Nat} {l : List Nat} (h : Src w (.slice A N cap) l) : N = l.length := by
  obtain ⟨A', c', e, _⟩ := Rdb.of_src h
  cases e; rfl
/-- a slice of the call's own that reads as bytes -/
def ClonePost (l : List Nat) (w : World) (e : Ending) (w' : World) : Prop := ∃ A c, e = .returned (.slice A l.length c) ∧ w'.ownsRow w.heap.size 5 1 (.slice A l.length c) l.length (u8s l) ∧ Below w.heap.size w w'
set_option maxRecDepth 100000 in
set_option maxHeartbeats 1000000 in
theorem clone_c (v : Value) (l : List Nat) (w : World) (h : Src w v l) (hl : l.length ≤ 1000000) : Calls Try.prog 19 #[v] w (ClonePost l w) := by
  obtain ⟨i0, hi, hz0, hz1, hz2⟩ := info_parts byteInfo
  have HI := Lib.hid hi
  have HZ0 := Lib.hid hz0
  have HZ1 := Lib.hid hz1
  have HZ2 := Lib.hid hz2
  clear hi hz0 hz1 hz2
  have hnil := @Lib.run_eql_slice_nil Try.prog
  rcases h with ⟨rfl, rfl⟩ | ⟨ad, cap, rfl, hc⟩
  · clear HI HZ0 HZ1 HZ2
    go_enter Try.func19, Try.ntmps19
    go_wp2
    go_ret
    exact ⟨none, 0, rfl, ⟨rfl, .inl ⟨rfl, rfl⟩⟩, Below.refl _ _⟩
  · have hcH := Lib.hid hc
    clear hc
    go_enter Try.func19, Try.ntmps19
    go_wp2_with (at_builtin; refine wpList_append_own_at _ rfl (.tmp 5) (.tmp 6) 26 rfl w.heap.size 5 i0 (.int .u8 0) 1 1 Try.underlying26 HI.out HZ0.out HZ1.out HZ2.out rfl (by decide) (.slice (some ⟨w.heap.size, 0, none⟩) 0 0) 0 [] rfl (own_empty 5 1) ad l.length cap (u8s l) rfl ?c1 ?c2 ?c3 ?c4 ?c5 ?c6 ?_)
    case c1 => rw [u8s_length]; omega
    case c2 =>
      intro j u hu
      rw [World.cell?_alloc_lt _ _ _ (lt_cell (hcH.out j u hu))]
      exact hcH.out j u hu
    case c3 => exact u8s_one _
    case c4 => unfold maxLen; omega
    case c5 => omega
    case c6 => simp
    intro v' w1 hown hgrow _ _
    have hv' : ∃ A c, v' = .slice A l.length c := by
      rcases hown.2 with ⟨h1, h2⟩ | ⟨g, cap, cur, h1, _⟩
      · exact ⟨none, 0, by rw [h1]; simp at h2; rw [h2]; rfl⟩
      · exact ⟨_, _, by simpa using h1⟩
    obtain ⟨A, c', rfl⟩ := hv'
    have HO := Lib.hid hown
    have HG := Lib.hid hgrow
    clear hown hgrow HI HZ0 HZ1 HZ2
    go_wp2
    go_ret
    refine ⟨A, c', rfl, by simpa using HO.out, ?_⟩
    exact (balloc w _).trans ((mod_grown HG.out).toBelow (by simp) (fun b hb e => by simp only [Value.ownBlock, Option.some.injEq] at e; omega))

end Go.Proofs.Ytnkinnfpebploaa
