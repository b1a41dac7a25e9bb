/- The contracts of gyreref.Bits. Conditions: none. -/
import Derived.Test.YtnkinnfpebploaaBits3
import Derived.Deep.RegionLaw
namespace Go.Proofs.Ytnkinnfpebploaa
open Go.ChangeShapes Go.WideShapes Go.ChangeAt Go.RowKit Go.BigFrame
open B
theorem step_append_own {P : Program} {ops : Array Oper} {o : Oper} {a : Act} {w : World} {K : Act → World → Prop} {Q : Exit → Act → World → Prop} {E : Prop}
    (hg : o.guard = none) (s x : Operand) (t : TypeId) (ho : o.op = .call { callee := .builtin .append, args := #[s, x], argTypes := #[t, t] })
    (base : Nat) (e : TypeId) (i : TypeInfo) (z : Value) (size bytes : Nat) (ht : P.underlying t = some (.slice e)) (hi : P.info? e = some i) (hz : i.zero = some z)
    (hsize : i.size = size) (hby : i.bytes = bytes) (hzs : z.cells.size = size) (hsz : 0 < size)
    (v : Value) (n : Nat) (xs : List Value) (hs : a.eval s = v) (hown : w.ownsRow base e size v n xs)
    (ad : Addr) (m c : Nat) (news : List Value) (hx : a.eval x = .slice (some ad) m c) (hl : news.length = m * size) (hnews : ∀ j u, news[j]? = some u → w.cell? (ad.add j) = some u) (h1 : ∀ u ∈ news, u.oneCell' = true)
    (h63 : n + m ≤ maxLen) (hbytes : (n + m) * bytes ≤ 140737488355328) (hbase : base ≤ w.heap.size)
    (hK : ∀ v' w', w'.ownsRow base e size v' (n + m) (xs ++ news) → w.grownBy w' v.ownBlock → (v' = .slice none 0 0 ↔ v = .slice none 0 0 ∧ m = 0) → (v'.ownBlock = v.ownBlock ∨ v'.ownBlock = some w.heap.size) → K (a.put o.dst v') w') :
    if Region.wanted o (yielded ops a.tmps) = true then Oper.wp P o a w K Q else E := by
  have hw : Region.wanted o (yielded ops a.tmps) = true := by simp [Region.wanted, hg]
  rw [if_pos hw]
  obtain ⟨v', w', hr, h2, h3, h4, h5⟩ := run_append_own_at (P := P) w base t o.type e i z size bytes ht hi hz hsize hby hzs hsz v n xs hown ad m c news hl hnews h1 h63 hbytes hbase
  unfold Oper.wp execOp
  simp only [ho, resolve, invoke, builtin, Sem.run_bind, Sem.run_pure, Result.andThen_ok, List.map_toArray, List.map_cons, List.map_nil, hs, hx, hr]
  exact hK v' w' h2 h3 h4 h5
/-- block p holds the slice v of the bits L -/
structure Rb (w : World) (base p : Nat) (v : Value) (L : List Nat) : Prop where
  blk : Blk w p #[v]
  row : w.ownsRow base 5 1 v L.length (u8s L)
  ne : v.ownBlock ≠ some p
  bin : Bin L
  lim : L.length ≤ 1000000
def RbPost (base p : Nat) (v : Value) (L : List Nat) (w : World) (w' : World) : Prop := ∃ v', Rb w' base p v' L ∧ Turn (· = p) w v w' v'
theorem u8_bit (n k : Nat) (h : Lt63 n) : bits .and .i64 ((n : Int) / 2 ^ k) 1 % 256 = ((n / 2 ^ k % 2 : Nat) : Int) := by
  rw [and1 n k h]
  omega
theorem rb_step {wr w1 : World} {o : Obj} {base p g cap b : Nat} {v1 : Value} {X : List Nat} (h : Rb wr base p v1 X) (hl : X.length + 1 ≤ 1000000)
    (hown : w1.ownsRow base 5 1 (.slice (some ⟨g, 0, none⟩) (X.length + 1) cap) (X.length + 1) (u8s X ++ [.int .u8 (b : Int)])) (hg : ((wr.alloc o).drew).grownBy w1 v1.ownBlock)
    (hw : (Value.slice (some ⟨g, 0, none⟩) (X.length + 1) cap).ownBlock = v1.ownBlock ∨ (Value.slice (some ⟨g, 0, none⟩) (X.length + 1) cap).ownBlock = some (wr.heap.size + 1)) (hb : b < 2) :
    Rb (w1.setCell ⟨p, 0, none⟩ (.slice (some ⟨g, 0, none⟩) (X.length + 1) cap)) base p (.slice (some ⟨g, 0, none⟩) (X.length + 1) cap) (X ++ [b]) ∧
    Turn (· = p) wr v1 (w1.setCell ⟨p, 0, none⟩ (.slice (some ⟨g, 0, none⟩) (X.length + 1) cap)) (.slice (some ⟨g, 0, none⟩) (X.length + 1) cap) := by
  have hne : (Value.slice (some ⟨g, 0, none⟩) (X.length + 1) cap).ownBlock ≠ some p := by
    rcases hw with e | e
    · rw [e]; exact h.ne
    · rw [e]
      intro e2
      have := h.blk.lt
      have := Option.some.inj e2
      omega
  refine ⟨⟨?_, ?_, hne, h.bin.append (Bin.mk hb Bin.nil), by simpa using hl⟩, ?_, ?_⟩
  · have h1 : Blk w1 p #[v1] := ((h.blk.alloc o).drew).mod (mod_grown hg) h.ne
    exact h1.put (i := 0)
  · have e : (X ++ [b]).length = X.length + 1 := by simp
    rw [e, u8s_append]
    exact row_far hown hne
  · exact (Mod.trans2 (Mod.of_below (((Below.refl _ _).alloc (Nat.le_refl _) o).drew)) (mod_grown hg) fun _ _ h => .inr h).set (.inl (.inl rfl))
  · rcases hw with e | e
    · exact .inl e
    · right
      intro b hb
      rw [e] at hb
      have := Option.some.inj hb
      omega
end Go.Proofs.Ytnkinnfpebploaa
