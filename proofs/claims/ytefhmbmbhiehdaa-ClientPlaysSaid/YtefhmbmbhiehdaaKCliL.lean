/- What the walk of gyrelaw.ClientPlays needs: its argument in memory, Delta's slice, maps by keys of ints. Conditions: none. -/
import Derived.Test.YtefhmbmbhiehdaaKCliG
import Derived.Test.YtefhmbmbhiehdaaKSapplies
import Derived.Test.YtefhmbmbhiehdaaKClE
import Derived.Test.YtefhmbmbhiehdaaKClF
namespace Go.Proofs.Ytefhmbmbhiehdaa
open Go.ChangeShapes Go.WideShapes Go.ChangeAt Go.RowKit Go.BigFrame Go.Maps Go.Deep
open B
/-- one that a client is fed -/
structure Snd where
  st : Int
  ba : Int
  ix : Int
  ma : Int
  TA : Option Addr
  TN : Nat
  TC : Nat
  TM : Nat → Nat → Int
  bA : Option Addr
  bl : List Nat
  bc : Nat
  any : Bool
structure SndOk (w : World) (g o : Nat) (s : Snd) : Prop where
  c0 : w.cell? ⟨g, o, none⟩ = some (.int .i64 s.st)
  c1 : w.cell? ⟨g, o + 1, none⟩ = some (.int .i64 s.ba)
  c2 : w.cell? ⟨g, o + 2, none⟩ = some (.int .i64 s.ix)
  c3 : w.cell? ⟨g, o + 3, none⟩ = some (.int .i64 s.ma)
  c4 : w.cell? ⟨g, o + 4, none⟩ = some (.slice s.TA s.TN s.TC)
  c5 : w.cell? ⟨g, o + 5, none⟩ = some (.slice s.bA s.bl.length s.bc)
  c6 : w.cell? ⟨g, o + 6, none⟩ = some (.bool s.any)
  rd : Reads w s.TA s.TN 11 s.TM
  src : Src w (.slice s.bA s.bl.length s.bc) s.bl
  lt : ∀ b ∈ s.bl, b < 256
  bd : (-9223372036854775808 ≤ s.st ∧ s.st ≤ 9223372036854775807) ∧ (-9223372036854775808 ≤ s.ba ∧ s.ba ≤ 9223372036854775807) ∧ (-9223372036854775808 ≤ s.ix ∧ s.ix ≤ 9223372036854775807) ∧ (-9223372036854775808 ≤ s.ma ∧ s.ma ≤ 9223372036854775807)
def SndAt (w : World) (A : Option Addr) (n : Nat) (f : Nat → Snd) : Prop := 0 < n → ∃ g o, A = some ⟨g, o, none⟩ ∧ g < w.heap.size ∧ ∀ k, k < n → SndOk w g (o + k * 7) (f k)
theorem SndOk.below {w w' : World} {g o : Nat} {s : Snd} (h : SndOk w g o s) (hg : g < w.heap.size) (k : Below w.heap.size w w') : SndOk w' g o s :=
  have q : ∀ x, w'.cell? ⟨g, x, none⟩ = w.cell? ⟨g, x, none⟩ := fun _ => (Mod.of_below (S := fun _ => False) k).cell hg id
  ⟨(q _).trans h.c0, (q _).trans h.c1, (q _).trans h.c2, (q _).trans h.c3, (q _).trans h.c4, (q _).trans h.c5, (q _).trans h.c6, h.rd.below k, h.src.below k, h.lt, h.bd⟩
section
variable {H : Type} {enc : TypeId × Value → H} {w : World} {base : Nat} {spare : Nat → Bool} {held : Bool}
theorem at_of_take {l : List Value} {j : Nat} {x : Value} (h : (l.drop j).take 1 = [x]) : l[j]? = some x := by
  have := congrArg (fun l => l[0]?) h
  simpa using this
theorem slice_cells {P : Program} {t e : TypeId} {fuel : Nat} {cs : List Value} {x : DataW H × List MemPlace} (ht : P.underlying t = some (.slice e)) (h : DataW.trod enc P w base spare held fuel t cs = some x) : ∃ A n c, cs = [.slice A n c] := by
  rcases DataW.trod_slice ht h with ⟨h, _⟩ | ⟨a, len, cap, _, _, _, _, h, _⟩
  · exact ⟨_, _, _, h⟩
  · exact ⟨_, _, _, h⟩
theorem sndCells : Try.prog.cellsOf 31 = 7 ∧ Try.prog.cellsOf 3 = 1 ∧ Try.prog.cellsOf 28 = 1 ∧ Try.prog.cellsOf 29 = 1 ∧ Try.prog.cellsOf 4 = 1 := ⟨by kernel_rfl, by kernel_rfl, by kernel_rfl, by kernel_rfl, by kernel_rfl⟩
theorem open_sends {v : Value} {d : DataW H} {p : List MemPlace} (hv : ∃ A n cap, v = .slice A n cap) (h : DataW.Trod enc Try.prog w base spare held 22 v d p) : ∃ A n cap f, v = .slice A n cap ∧ n ≤ maxLen ∧ SndAt w A n f := by
  obtain ⟨fuel, hf⟩ := h
  obtain ⟨A0, n0, c0, rfl⟩ := hv
  obtain ⟨z7, z1, z2, z3, z4⟩ := sndCells
  rcases open_slice Try.underlying22 hf with ⟨h0, _⟩ | ⟨a, len, cap, m, n, D, Pl, hcs, _, hl, hm, hmm, _, hi⟩
  · simp [Value.cells] at h0
    obtain ⟨rfl, rfl, rfl⟩ := h0
    exact ⟨none, 0, 0, fun _ => ⟨0, 0, 0, 0, none, 0, 0, fun _ _ => 0, none, [], 0, false⟩, rfl, by unfold maxLen; omega, fun h => absurd h (by omega)⟩
  · simp [Value.cells] at hcs
    obtain ⟨e1, e2, e3⟩ := hcs
    subst e1 e2 e3
    have key : ∀ i, i < n0 → ∃ s : Snd, ∃ g o, a.add (i * 7) = ⟨g, o, none⟩ ∧ g < w.heap.size ∧ SndOk w g o s := by
      intro i hil
      have him : i < m := by rw [hmm]; split <;> omega
      obtain ⟨cs', hcs', htr⟩ := hi i him
      obtain ⟨_, hcl, hat⟩ := World.cells?_some hcs'
      rw [z7] at hcl hat
      obtain ⟨xs, k, _, _, _, hxl, hfl⟩ := DataW.trod_struct Try.underlying31 htr
      have hx : ∀ j, j < 7 → ∃ y, xs[j]? = some y := fun j hj => ⟨_, List.getElem?_eq_getElem (by rw [hxl]; exact hj)⟩
      obtain ⟨y0, hy0⟩ := hx 0 (by omega)
      obtain ⟨y1, hy1⟩ := hx 1 (by omega)
      obtain ⟨y2, hy2⟩ := hx 2 (by omega)
      obtain ⟨y3, hy3⟩ := hx 3 (by omega)
      obtain ⟨y4, hy4⟩ := hx 4 (by omega)
      obtain ⟨y5, hy5⟩ := hx 5 (by omega)
      obtain ⟨y6, hy6⟩ := hx 6 (by omega)
      have f0 : DataW.trod enc Try.prog w base spare held k 3 ((cs'.drop 0).take (Try.prog.cellsOf 3)) = some y0 := (hfl 0 _ rfl).trans hy0
      have f1 : DataW.trod enc Try.prog w base spare held k 3 ((cs'.drop 1).take (Try.prog.cellsOf 3)) = some y1 := (hfl 1 _ rfl).trans hy1
      have f2 : DataW.trod enc Try.prog w base spare held k 3 ((cs'.drop 2).take (Try.prog.cellsOf 3)) = some y2 := (hfl 2 _ rfl).trans hy2
      have f3 : DataW.trod enc Try.prog w base spare held k 3 ((cs'.drop 3).take (Try.prog.cellsOf 3)) = some y3 := (hfl 3 _ rfl).trans hy3
      have f4 : DataW.trod enc Try.prog w base spare held k 28 ((cs'.drop 4).take (Try.prog.cellsOf 28)) = some y4 := (hfl 4 _ rfl).trans hy4
      have f5 : DataW.trod enc Try.prog w base spare held k 29 ((cs'.drop 5).take (Try.prog.cellsOf 29)) = some y5 := (hfl 5 _ rfl).trans hy5
      have f6 : DataW.trod enc Try.prog w base spare held k 4 ((cs'.drop 6).take (Try.prog.cellsOf 4)) = some y6 := (hfl 6 _ rfl).trans hy6
      rw [z1] at f0 f1 f2 f3
      rw [z2] at f4
      rw [z3] at f5
      rw [z4] at f6
      obtain ⟨n0', g0, _, b0⟩ := DataW.trod_int Try.underlying3 f0
      obtain ⟨n1', g1, _, b1⟩ := DataW.trod_int Try.underlying3 f1
      obtain ⟨n2', g2, _, b2⟩ := DataW.trod_int Try.underlying3 f2
      obtain ⟨n3', g3, _, b3⟩ := DataW.trod_int Try.underlying3 f3
      obtain ⟨A4, N4, C4, g4⟩ := slice_cells Try.underlying28 f4
      obtain ⟨A5, N5, C5, g5⟩ := slice_cells Try.underlying29 f5
      obtain ⟨b6, g6, _⟩ := DataW.trod_bool Try.underlying4 f6
      rw [g4] at f4
      rw [g5] at f5
      obtain ⟨A4', N4', C4', M4, e4, _, r4, _⟩ := open_rows (v := .slice A4 N4 C4) (d := y4.1) (p := y4.2) 8 11 Try.underlying28 (by kernel_rfl) (by kernel_rfl) (by decide) ⟨_, _, _, rfl⟩ ⟨k, f4⟩
      cases e4
      obtain ⟨l5, s5, h5, _⟩ := open_bytes (v := .slice A5 N5 C5) (d := y5.1) (p := y5.2) Try.underlying29 Try.underlying5 (by kernel_rfl) ⟨_, _, _, rfl⟩ ⟨k, f5⟩
      obtain ⟨A5', c5', e5⟩ := src_form s5
      cases e5
      have at0 := hat 0 (by omega)
      rw [at_of_take g0] at at0
      have ha : a.add (i * 7) = ⟨(a.add (i * 7)).block, (a.add (i * 7)).off, none⟩ := by
        rw [Go.Deep.add_add, Nat.add_zero] at at0
        exact spot_none at0
      have hlt : (a.add (i * 7)).block < w.heap.size := by
        rw [Go.Deep.add_add, Nat.add_zero] at at0
        exact lt_of_cell at0
      have hcell : ∀ j x, j < 7 → cs'[j]? = some x → w.cell? ⟨(a.add (i * 7)).block, (a.add (i * 7)).off + j, none⟩ = some x := fun j x hj hx => by
        have h := hat j hj
        rw [hx, ha, add_plain] at h
        exact h
      exact ⟨⟨n0', n1', n2', n3', A4, N4, C4, M4, A5, l5, C5, b6⟩, _, _, ha, hlt, hcell 0 _ (by omega) (at_of_take g0), hcell 1 _ (by omega) (at_of_take g1), hcell 2 _ (by omega) (at_of_take g2), hcell 3 _ (by omega) (at_of_take g3), hcell 4 _ (by omega) (at_of_take g4), hcell 5 _ (by omega) (at_of_take g5), hcell 6 _ (by omega) (at_of_take g6), r4, s5, h5, num_wf b0, num_wf b1, num_wf b2, num_wf b3⟩
    rcases Nat.eq_zero_or_pos n0 with h0 | h0
    · subst h0
      exact ⟨_, 0, c0, fun _ => ⟨0, 0, 0, 0, none, 0, 0, fun _ _ => 0, none, [], 0, false⟩, rfl, by omega, fun h => absurd h (by omega)⟩
    · obtain ⟨s0, g, o, ha, hg, _⟩ := key 0 h0
      have ha0 : a = ⟨g, o, none⟩ := by
        rw [← ha]
        unfold Addr.add
        simp
      subst ha0
      refine ⟨_, n0, c0, fun i => if h : i < n0 then (key i h).choose else ⟨0, 0, 0, 0, none, 0, 0, fun _ _ => 0, none, [], 0, false⟩, rfl, by omega, fun _ => ⟨g, o, rfl, hg, fun i hil => ?_⟩⟩
      simp only [hil, dif_pos]
      obtain ⟨g', o', e, hg', hs⟩ := (key i hil).choose_spec
      rw [add_plain] at e
      cases e
      exact hs
end
/-- Delta, and its slice -/
theorem rdelta_s (n1 n2 : Nat) (A1 A2 : Option Addr) (cap1 cap2 : Nat) (M1 M2 : Nat → Nat → Int) (w : World) (hn1 : n1 ≤ 100000) (hn2 : n2 ≤ 100000) (hR1 : Reads w A1 n1 11 M1) (hR2 : Reads w A2 n2 11 M2) :
    Calls Try.prog 8 #[.slice A1 n1 cap1, .slice A2 n2 cap2] w fun e w' => ∃ (l : List Nat) (x : Int) (A : Option Addr) (c : Nat), e = .returned (.tuple #[.slice A l.length c, .int .i64 x]) ∧ Src w' (.slice A l.length c) l ∧ l.length ≤ c ∧ l.length ≤ 4000 ∧ (∀ b ∈ l, b < 256) ∧ Below w.heap.size w w' := by
  refine (rdelta_c n1 n2 A1 A2 cap1 cap2 M1 M2 w hn1 hn2 hR1 hR2).mono ?_
  rintro e w' ⟨h, hb⟩
  rcases h with ⟨h, rfl⟩ | ⟨h1, h2, h, rfl⟩ | ⟨h1, h2, h, D, c, b, _, rfl, hB⟩
  · exact ⟨[], 1, none, 0, rfl, .inl ⟨rfl, rfl⟩, Nat.le_refl _, by simp, by simp, hb⟩
  · exact ⟨[], 4, none, 0, rfl, .inl ⟨rfl, rfl⟩, Nat.le_refl _, by simp, by simp, hb⟩
  · refine ⟨pack (deltaL M1 n1 M2 n2), 0, _, _, rfl, Src.of_row hB, ?_, ?_, pack_lt (restF_bin _ _ _ _ _ _ _ _), hb⟩
    · rcases hB.2 with ⟨e, h0⟩ | ⟨g, cap, cur, e, _, _, h1, _⟩
      · omega
      · injection e with _ _ e3
        omega
    · rw [pack_length]
      unfold bytesOf
      omega
section
variable {P : Program} {K E T : TypeId} {b m n : Nat} {F : Lit → Option Value} {C : World → Prop} {o : Oper} {a : Act} {k : Act → Prop}
theorem quiet_lookup1V (mm x : Operand) (hop : o.op = Op.lookup T mm x false) (LK : Keyed P K) (ht : P.underlying T = some (.map K E)) {z : Value} (hz : ∀ u : World, (zeroValue E).run P u = .ok z u)
    (hm : a.eval mm = .map (some b)) (hown : ∀ w, C w → MapV P K w b m F n) (key : Value) (kl : Lit) (hx : a.eval x = key) (hkey : keyOf P K key = some kl) (hkl : WideAt.IsKeyLit kl) (h : k (a.put o.dst ((F kl).getD z))) : o.quiet P a C k :=
  ⟨_, fun w hw => by
    obtain ⟨D, hown, hT, hf⟩ := hown w hw
    obtain ⟨v, ps, hrun, hv⟩ := hown.lookup LK ht (hz w) (zd := .held z) (zp := []) rfl hkey
    rw [hf.at_ kl z hkl] at hv
    have e : v = (F kl).getD z := by
      unfold holdV at hv
      simp at hv
      exact hv.1
    subst e
    unfold Oper.quietAt
    simp [execOp, hop, hm, hx, hrun, Result.andThen]
    exact ⟨rfl, rfl⟩, h⟩
theorem quiet_len1V (mm : Operand) (hop : o.op = Op.call { callee := Callee.builtin Builtin.len, args := #[mm], argTypes := #[T] }) (ht : P.underlying T = some (.map K E))
    (hm : a.eval mm = .map (some b)) (hown : ∀ w, C w → MapV P K w b m F n) (h : k (a.put o.dst (.int .i64 n))) : o.quiet P a C k :=
  ⟨_, fun w hw => by
    obtain ⟨D, hown, hT, hf⟩ := hown w hw
    unfold Oper.quietAt
    simp [execOp, hop, resolve, invoke, builtin, hm, hown.len ht o.type, Result.andThen]
    rw [hf.size]
    exact ⟨rfl, rfl⟩, h⟩
end
/-- as many keys, of maps by ints -/
theorem MapV.countI {P : Program} {K : TypeId} {w w' : World} {b b' m m' n n' : Nat} {F F' : Lit → Option Value} (hKi : P.underlying K = some (.int .i64)) (LK : Keyed P K) (h : MapV P K w b m F n) (h' : MapV P K w' b' m' F' n') (e : ∀ x : Int, (F (.int .i64 x)).isSome = (F' (.int .i64 x)).isSome) : n = n' := by
  have ents : ∀ {w : World} {b m : Nat} {D : DataW Value}, w.ownsMap P K holdV b m D → ∃ es, D = .map es ∧ es.Pairwise (fun p q => p.1 ≠ q.1) ∧ ∀ p ∈ es, ∃ x : Int, p.1 = .int .i64 x := by
    intro w b m D h
    obtain ⟨es, clock, _, F, _, rfl⟩ := h
    refine ⟨_, rfl, ((sorted_perm _).pairwise_iff (fun {_ _} hne => Ne.symm hne)).2 (Maps.fit_apart LK F), fun p hp => ?_⟩
    obtain ⟨x, hx, rfl⟩ := List.mem_map.1 (mem_sorted.1 hp)
    obtain ⟨y, hy⟩ := F.reads x hx
    rw [WideElems.rg_of hy]
    obtain ⟨z, _, e, _⟩ := Maps.keyOf_int_inv hKi (WideElems.rd_key hy)
    exact ⟨z, e⟩
  obtain ⟨D, h1, h2, h3⟩ := h
  obtain ⟨D', h1', h2', h3'⟩ := h'
  obtain ⟨es, rfl, hp, hk⟩ := ents h1
  obtain ⟨es', rfl, hp', hk'⟩ := ents h1'
  rw [← h3.size, ← h3'.size]
  have key : ∀ (es : List (Lit × DataW Value)) (x : Int), Lit.int .i64 x ∈ es.map (·.1) ↔ Maps.has (.map es) (.int .i64 x) = true := by
    intro es x
    rw [has_eq, List.any_eq_true]
    simp only [List.mem_map]
    constructor
    · rintro ⟨p, hp, e⟩
      exact ⟨p, hp, by rw [e, same_int]; simp⟩
    · rintro ⟨p, hp, hs⟩
      refine ⟨p, hp, ?_⟩
      apply Classical.byContradiction
      intro hne
      rw [sameKey_ne hne] at hs
      cases hs
  have hn : ∀ (es : List (Lit × DataW Value)), es.Pairwise (fun p q => p.1 ≠ q.1) → (es.map (·.1)).Nodup := by
    intro es h
    unfold List.Nodup
    rw [List.pairwise_map]
    exact h
  have := len_same (hn es hp) (hn es' hp') (fun x => by
    constructor
    · intro hx
      obtain ⟨p, hpm, e1⟩ := List.mem_map.1 hx
      obtain ⟨z, e2⟩ := hk p hpm
      obtain rfl : x = .int .i64 z := e1.symm.trans e2
      rw [key] at hx ⊢
      rw [h3'.has (.int .i64 z) trivial, ← e z, ← h3.has (.int .i64 z) trivial]
      exact hx
    · intro hx
      obtain ⟨p, hpm, e1⟩ := List.mem_map.1 hx
      obtain ⟨z, e2⟩ := hk' p hpm
      obtain rfl : x = .int .i64 z := e1.symm.trans e2
      rw [key] at hx ⊢
      rw [h3.has (.int .i64 z) trivial, e z, ← h3'.has (.int .i64 z) trivial]
      exact hx)
  simpa [Maps.size] using this
theorem feedTo_same {l : List Nat} {s : AS} {r r' : Bool × AS} (h : FeedTo l s r) (h' : FeedTo l s r') : r = r' := by
  rcases h with ⟨h, rfl⟩ | ⟨p, hp, rfl⟩
  · rcases h' with ⟨_, rfl⟩ | ⟨q, hq, _⟩
    · rfl
    · exact absurd hq (h q)
  · rcases h' with ⟨h', _⟩ | ⟨q, hq, rfl⟩
    · exact absurd hp (h' p)
    · rw [toldP_same hp hq]
theorem feedTo_ok {l : List Nat} {s : AS} {r : Bool × AS} (hs : s.ok) (h : FeedTo l s r) : r.2.ok := by
  rcases h with ⟨_, rfl⟩ | ⟨p, hp, rfl⟩
  · exact hs
  · exact feed_ok hs (toldP_ok hp)
/-- both clients have the same -/
def Both (w0 w : World) (c r k : Nat) : Prop := ∃ (s : AS) (S T : Nat → Prop) (m b n : Nat) (st ba : Int) (PA : Option Addr) (ma : Nat) (hv : Int) (m2 b2 n2 : Nat) (GA : Option Addr) (gc : Nat) (G : List (Pce × Value)),
  s.ok ∧ CR w c m s S (fun x => T x ∨ x < w0.heap.size) b n st ba PA ma hv ∧ RC w r m2 0 s T (fun x => S x ∨ x < w0.heap.size) b2 n2 GA gc G ∧ m ≤ 1 + 2 * k ∧ m2 ≤ 1 + 3 * k ∧ Below w0.heap.size w0 w
end Go.Proofs.Ytefhmbmbhiehdaa
