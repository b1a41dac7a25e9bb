/- A map's entry taken, then stored to (a tuple's assignment). Conditions: none. -/
import Derived.Test.YtfagkbmphohelaaMapV
import Derived.Test.YtfagkbmphohelaaLate
import Derived.WideKeyEntry
namespace Go.Proofs.Ytfagkbmphohelaa
open Go Go.Maps Go.WideShapes Go.RowKit Go.MapKept Go.ChangeMaps Go.WideElems
section
variable {P : Program} {K E T : TypeId} {w w' : World} {b m n : Nat} {F : Lit → Option Value}
theorem setBlock_twice (w : World) (b : Nat) (x y : Obj) : setBlock (setBlock w b x) b y = setBlock w b y := by
  unfold setBlock
  simp
/-- taking an entry and storing to it is an update -/
theorem entry_is_update {R : Value → Option (DataW Value × List MemPlace)} {es : Array MapEntry} {clock : Nat} (LK : Keyed P K) (ht : P.underlying T = some (.map K E)) {z : Value} (hz : ∀ u : World, (zeroValue E).run P u = .ok z u)
    (hb : w.heap[b]? = some (.map es clock)) (FT : Fit P K R es clock) {key : Value} {kl : Lit} (hkey : keyOf P K key = some kl) :
    ∃ (v0 : Value) (st : Nat) (w1 : World), (Instr.mapEntry T (.map (some b)) key).run P w = .ok (.tuple #[v0, goInt st]) w1 ∧
      ∀ val : Value, ∃ w2, (Instr.entryStore T (.map (some b)) (goInt st) val).run P w1 = .ok () w2 ∧ (Instr.mapUpdate T (.map (some b)) key val).run P w = .ok () w2 := by
  obtain ⟨old, uniq, _⟩ := FT.stamped
  rcases LK.find w hkey es.toList FT.keys with ⟨none_, other⟩ | ⟨j, e0, some_, at_, is_⟩
  · have hb1 : (setBlock w b (.map (es.push ⟨key, z, clock⟩) (clock + 1))).heap[b]? = some (.map (es.push ⟨key, z, clock⟩) (clock + 1)) := heap_setBlock_same hb _
    refine ⟨z, clock, setBlock w b (.map (es.push ⟨key, z, clock⟩) (clock + 1)), ?_, fun val => ⟨setBlock w b (.map (es.push ⟨key, val, clock⟩) (clock + 1)), ?_, ?_⟩⟩
    · simp [Instr.mapEntry, run_underlying ht, MapKept.run_getObj_map hb, LK.check w false hkey, none_, hz, MapKept.run_setObj_map _ hb, Result.andThen, setBlock]
    · have place : (es.push ⟨key, z, clock⟩).findIdx? (fun e => ((e.born : Nat) : Int) == ((clock : Nat) : Int)) = some es.size := by
        rw [findIdx_arr]
        refine findIdx_born (l := (es.push ⟨key, z, clock⟩).toList) (j := es.size) (e0 := ⟨key, z, clock⟩) ?_ (by simp)
        rw [Array.toList_push, List.map_append]
        refine List.nodup_append.2 ⟨uniq, by simp, ?_⟩
        intro a ha c hc e1
        obtain ⟨x, hx, rfl⟩ := List.mem_map.1 ha
        have h1 := old x hx
        have h2 : c = clock := by simpa using hc
        omega
      have turned : (es.push ⟨key, z, clock⟩).modify es.size (fun e => { e with val := val }) = es.push ⟨key, val, clock⟩ := by
        apply Array.ext'
        rw [Array.toList_modify, Array.toList_push, Array.toList_push, ← Array.length_toList, modify_last]
      rw [← setBlock_twice w b (.map (es.push ⟨key, z, clock⟩) (clock + 1)) (.map (es.push ⟨key, val, clock⟩) (clock + 1))]
      generalize setBlock w b (.map (es.push ⟨key, z, clock⟩) (clock + 1)) = w1 at hb1 ⊢
      simp [Instr.entryStore, MapKept.run_getObj_map hb1, asInt, asIntOf, goInt, place, turned, MapKept.run_setObj_map _ hb1, Result.andThen, setBlock]
    · simp [Instr.mapUpdate, run_underlying ht, MapKept.run_getObj_map hb, LK.check w false hkey, none_, MapKept.run_setObj_map _ hb, Result.andThen, setBlock]
  · have hj : es[j]? = some e0 := by simpa using at_
    have keyed : ({ e0 with key := key } : MapEntry) = e0 := by rw [← is_]
    have stays : es.modify j (fun e => { e with key := key }) = es := by
      apply Array.ext'
      rw [Array.toList_modify, modify_eq_set _ _ _ _ at_, keyed]
      exact set_self _ _ _ at_
    have hb1 : (setBlock w b (.map es clock)).heap[b]? = some (.map es clock) := heap_setBlock_same hb _
    refine ⟨e0.val, e0.born, setBlock w b (.map es clock), ?_, fun val => ⟨setBlock w b (.map (es.modify j (fun e' => { e' with key := key, val := val })) clock), ?_, ?_⟩⟩
    · simp [Instr.mapEntry, run_underlying ht, MapKept.run_getObj_map hb, LK.check w false hkey, some_, hj, is_, LK.stays w hkey, stays, MapKept.run_setObj_map _ hb, Result.andThen, setBlock]
    · have place : es.findIdx? (fun e => ((e.born : Nat) : Int) == ((e0.born : Nat) : Int)) = some j := by
        rw [findIdx_arr]
        exact findIdx_born uniq at_
      have turned : es.modify j (fun e => { e with val := val }) = es.modify j (fun e' => { e' with key := key, val := val }) := by
        apply Array.ext'
        rw [Array.toList_modify, Array.toList_modify, modify_eq_set _ _ _ _ at_, modify_eq_set _ _ _ _ at_, ← is_]
      rw [← setBlock_twice w b (.map es clock) (.map (es.modify j (fun e' => { e' with key := key, val := val })) clock)]
      generalize setBlock w b (.map es clock) = w1 at hb1 ⊢
      simp [Instr.entryStore, MapKept.run_getObj_map hb1, asInt, asIntOf, goInt, place, turned, MapKept.run_setObj_map _ hb1, Result.andThen, setBlock]
    · simp [Instr.mapUpdate, run_underlying ht, MapKept.run_getObj_map hb, LK.check w false hkey, some_, hj, is_, LK.stays w hkey, MapKept.run_setObj_map _ hb, Result.andThen, setBlock]
section
variable {ops : Array Oper} {rest : List Oper} {o : Oper} {a : Act} {Q : Exit → Act → World → Prop}
/-- m[k], taken to be stored to -/
theorem at_entry1 (hg : o.guard = none) (mm x : Operand) (hop : o.op = Op.mapEntry T mm x) (LK : Keyed P K) (ht : P.underlying T = some (.map K E)) {z : Value} (hz : ∀ u : World, (zeroValue E).run P u = .ok z u)
    (hm : a.eval mm = .map (some b)) (hown : MapV P K w b m F n) (hmx : m < maxLen) (key : Value) (kl : Lit) (hx : a.eval x = key) (hkey : keyOf P K key = some kl) (hkl : WideAt.IsKeyLit kl)
    (hK : ∀ (v0 : Value) (st : Nat) (w1 : World), (∀ val : Value, ∃ w2, (Instr.entryStore T (.map (some b)) (goInt st) val).run P w1 = .ok () w2 ∧ (∃ n', MapV P K w2 b (m + 1) (putF F kl val) n') ∧ Mod (· = b) w w2) → wpList P ops Q rest (a.put o.dst (.tuple #[v0, goInt st])) w1) : wpList P ops Q (o :: rest) a w := by
  obtain ⟨D, hown, hT, hf⟩ := hown
  obtain ⟨es, clock, hb, hF, hsz, hD⟩ := id hown
  obtain ⟨v0, st, w1, hrun, hst⟩ := entry_is_update LK ht hz hb hF hkey
  refine wpList_plain hg fun K' hK' => ?_
  unfold Oper.wp
  simp [execOp, hop, hm, hx, hrun, Result.andThen]
  refine hK' _ _ (hK v0 st w1 fun val => ?_)
  obtain ⟨w2, h1, h2⟩ := hst val
  obtain ⟨w3, hrun', r1, r2⟩ := hown.update LK ht hmx hkey (val := val) (d := .held val) (ps := []) rfl
  rw [h2] at hrun'
  cases hrun'
  exact ⟨w2, h1, ⟨_, _, r1, hT.put hkl _, hf.put hT hkl val⟩, (mod_grownBy r2).mono fun b' _ e => (Option.some.inj e).symm⟩
end
end
/-- m[k], in a region that only reads -/
theorem quiet_lookup1 {P : Program} {K E T : TypeId} {b m n : Nat} {F : Lit → Option Value} {C : World → Prop} {o : Oper} {a : Act} {k : Act → Prop} (mm x : Operand) (hop : o.op = Op.lookup T mm x false) (LK : Keyed P K) (ht : P.underlying T = some (.map K E)) {z : Value} (hz : ∀ u : World, (zeroValue E).run P u = .ok z u)
    (hm : a.eval mm = .map (some b)) (hown : ∀ w, C w → MapV P K w b m F n) (key : Value) (kl : Lit) (hx : a.eval x = key) (hkey : keyOf P K key = some kl) (hkl : WideAt.IsKeyLit kl) (h : k (a.put o.dst ((F kl).getD z))) : o.quiet P a C k :=
  ⟨_, fun w hw => by
    obtain ⟨D, hown, hT, hf⟩ := hown w hw
    obtain ⟨v, ps, hrun, hv⟩ := hown.lookup LK ht (hz w) (zd := .held z) (zp := []) rfl hkey
    rw [hf.at_ kl z hkl] at hv
    have e : v = (F kl).getD z := by
      unfold holdV at hv
      simp at hv
      exact hv.1
    subst e
    unfold Oper.quietAt
    simp [execOp, hop, hm, hx, hrun, Result.andThen]
    exact ⟨rfl, rfl⟩, h⟩
/-- as region_quiet_but, for what stands behind region_late -/
theorem any_quiet_but {P : Program} {Q : Exit → Act → World → Prop} {a : Act} {w : World} {l : List Oper} (n : Nat) (hB : Region.lexTailB .any l.toArray n = true)
    (h : wpQuiet P l.toArray (fun w' => ∃ m, w' = more w m) (fun a' => ∀ w', (∃ m, w' = more w m) → wpList P l.toArray Q (l.drop n) a' w') (l.take n) a) : wpAny P .any l.toArray Q l.toArray.size (Array.replicate l.toArray.size false) a { w with drawn := w.drawn + 1 } := by
  simp only [Region.lexTailB, Bool.and_eq_true, decide_eq_true_eq] at hB
  obtain ⟨⟨⟨⟨hsel, hn⟩, hs⟩, hc⟩, hlex⟩ := hB
  have hn' : n < l.length := by simpa using hn
  have htl : (l.take n).length = n := by simp; omega
  have hdl : (l.drop n).length = l.toArray.size - n := by simp
  have inv0 : HeadInv .any l.toArray n (Array.replicate l.toArray.size false) :=
    ⟨by simp, fun j oj _ hl => (by rw [getD_replicate_false] at hl; cases hl), fun t _ ht => getD_in (by simpa using ht) (getD_replicate_false _ _)⟩
  have H := head_lex (md := .any) (g := l.toArray.size - n) hsel hs hc hn (l.take n) 0 _ a (fun j hj => by
    rw [htl] at hj; simp [hj]) (by simpa using htl) inv0 (by rw [htl]; exact hlex) h
  have := any_of_head (Q := Q) (g := l.toArray.size - n) (fun listed a' w' hw' hL => by
    have := wpAny_of_seq (md := .any) (Q' := Q) (l.drop n) n listed a' w' (fun j => by simp [List.getElem?_drop]) (by rw [hdl]; exact hL.1) (hL.2 w' hw')
    rwa [hdl] at this) _ _ _ _ (more_drew w) H
  rw [htl, show n + (l.toArray.size - n) = l.toArray.size from by omega] at this
  exact this
end Go.Proofs.Ytfagkbmphohelaa
