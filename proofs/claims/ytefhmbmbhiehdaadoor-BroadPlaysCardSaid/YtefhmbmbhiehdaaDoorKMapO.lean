/- A map's entry taken, something else done, then stored to (m[k] = append(m[k], x)). Conditions: none. -/
import Derived.Test.YtefhmbmbhiehdaaDoorKA
import Derived.WideKeyEntry
namespace Go.Proofs.YtefhmbmbhiehdaaDoor
open Go Go.Maps Go.WideShapes Go.RowKit Go.MapKept Go.ChangeMaps Go.WideElems
section
variable {P : Program} {K E T : TypeId} {w w' : World} {b m n : Nat} {F : Lit → Option Value}
theorem entry_opened {R : Value → Option (DataW Value × List MemPlace)} {es : Array MapEntry} {clock : Nat} (LK : Keyed P K) (ht : P.underlying T = some (.map K E)) {z : Value} (hz : ∀ u : World, (zeroValue E).run P u = .ok z u)
    (hb : w.heap[b]? = some (.map es clock)) (FT : Fit P K R es clock) {key : Value} {kl : Lit} (hkey : keyOf P K key = some kl) :
    ∃ (v0 : Value) (st : Nat) (es1 : Array MapEntry) (clock1 : Nat), (Instr.mapEntry T (.map (some b)) key).run P w = .ok (.tuple #[v0, goInt st]) (setBlock w b (.map es1 clock1)) ∧ (Instr.lookup T (.map (some b)) key false).run P w = .ok v0 w ∧
      ∀ val : Value, ∃ es2 clock2, (∀ w1 : World, w1.heap[b]? = some (.map es1 clock1) → (Instr.entryStore T (.map (some b)) (goInt st) val).run P w1 = .ok () (setBlock w1 b (.map es2 clock2))) ∧ (Instr.mapUpdate T (.map (some b)) key val).run P w = .ok () (setBlock w b (.map es2 clock2)) := by
  obtain ⟨old, uniq, _⟩ := FT.stamped
  rcases LK.find w hkey es.toList FT.keys with ⟨none_, other⟩ | ⟨j, e0, some_, at_, is_⟩
  · refine ⟨z, clock, es.push ⟨key, z, clock⟩, clock + 1, ?_, ?_, fun val => ⟨es.push ⟨key, val, clock⟩, clock + 1, fun w1 hb1 => ?_, ?_⟩⟩
    · simp [Instr.mapEntry, run_underlying ht, MapKept.run_getObj_map hb, LK.check w false hkey, none_, hz, MapKept.run_setObj_map _ hb, Result.andThen, setBlock]
    · simp [Instr.lookup, run_underlying ht, MapKept.run_getObj_map hb, LK.check w _ hkey, none_, hz, Result.andThen]
    · have place : (es.push ⟨key, z, clock⟩).findIdx? (fun e => ((e.born : Nat) : Int) == ((clock : Nat) : Int)) = some es.size := by
        rw [findIdx_arr]
        refine findIdx_born (l := (es.push ⟨key, z, clock⟩).toList) (j := es.size) (e0 := ⟨key, z, clock⟩) ?_ (by simp)
        rw [Array.toList_push, List.map_append]
        refine List.nodup_append.2 ⟨uniq, by simp, ?_⟩
        intro a ha c hc e1
        obtain ⟨x, hx, rfl⟩ := List.mem_map.1 ha
        have h1 := old x hx
        have h2 : c = clock := by simpa using hc
        omega
      have turned : (es.push ⟨key, z, clock⟩).modify es.size (fun e => { e with val := val }) = es.push ⟨key, val, clock⟩ := by
        apply Array.ext'
        rw [Array.toList_modify, Array.toList_push, Array.toList_push, ← Array.length_toList, modify_last]
      simp [Instr.entryStore, MapKept.run_getObj_map hb1, asInt, asIntOf, goInt, place, turned, MapKept.run_setObj_map _ hb1, Result.andThen, setBlock]
    · simp [Instr.mapUpdate, run_underlying ht, MapKept.run_getObj_map hb, LK.check w false hkey, none_, MapKept.run_setObj_map _ hb, Result.andThen, setBlock]
  · have hj : es[j]? = some e0 := by simpa using at_
    have keyed : ({ e0 with key := key } : MapEntry) = e0 := by rw [← is_]
    have stays : es.modify j (fun e => { e with key := key }) = es := by
      apply Array.ext'
      rw [Array.toList_modify, modify_eq_set _ _ _ _ at_, keyed]
      exact set_self _ _ _ at_
    refine ⟨e0.val, e0.born, es, clock, ?_, ?_, fun val => ⟨es.modify j (fun e' => { e' with key := key, val := val }), clock, fun w1 hb1 => ?_, ?_⟩⟩
    · simp [Instr.mapEntry, run_underlying ht, MapKept.run_getObj_map hb, LK.check w false hkey, some_, hj, is_, LK.stays w hkey, stays, MapKept.run_setObj_map _ hb, Result.andThen, setBlock]
    · simp [Instr.lookup, run_underlying ht, MapKept.run_getObj_map hb, LK.check w _ hkey, some_, Result.andThen]
    · have place : es.findIdx? (fun e => ((e.born : Nat) : Int) == ((e0.born : Nat) : Int)) = some j := by
        rw [findIdx_arr]
        exact findIdx_born uniq at_
      have turned : es.modify j (fun e => { e with val := val }) = es.modify j (fun e' => { e' with key := key, val := val }) := by
        apply Array.ext'
        rw [Array.toList_modify, Array.toList_modify, modify_eq_set _ _ _ _ at_, modify_eq_set _ _ _ _ at_, ← is_]
      simp [Instr.entryStore, MapKept.run_getObj_map hb1, asInt, asIntOf, goInt, place, turned, MapKept.run_setObj_map _ hb1, Result.andThen, setBlock]
    · simp [Instr.mapUpdate, run_underlying ht, MapKept.run_getObj_map hb, LK.check w false hkey, some_, hj, is_, LK.stays w hkey, MapKept.run_setObj_map _ hb, Result.andThen, setBlock]
/-- block b lies as an open entry left it: what is stored to it is what the map has at kl -/
def Opened (P : Program) (K T : TypeId) (w : World) (b m n st : Nat) (F : Lit → Option Value) (kl : Lit) : Prop :=
  b < w.heap.size ∧ ∀ (w1 : World), w1.heap[b]? = w.heap[b]? → ∀ val : Value, ∃ w2, (Instr.entryStore T (.map (some b)) (goInt st) val).run P w1 = .ok () w2 ∧ MapV P K w2 b (m + 1) (putF F kl val) (if (F kl).isSome then n else n + 1) ∧ Mod (· = b) w1 w2
theorem Opened.mod {S : Nat → Prop} {st : Nat} {kl : Lit} (h : Opened P K T w b m n st F kl) (k : Mod S w w') (hb : ¬ S b) : Opened P K T w' b m n st F kl :=
  ⟨Nat.lt_of_lt_of_le h.1 k.size, fun w1 e val => h.2 w1 (e.trans (k.block b h.1 hb)) val⟩
theorem setBlock_mod (w : World) (b : Nat) (o : Obj) : Mod (· = b) w (setBlock w b o) := by
  refine ⟨rfl, rfl, rfl, by simp [setBlock], fun k hk hs => ?_⟩
  have hs' : b ≠ k := fun e => hs e.symm
  simp [setBlock, hs']
/-- the law: m[k] taken -/
theorem entry_law (LK : Keyed P K) (ht : P.underlying T = some (.map K E)) {z : Value} (hz : ∀ u : World, (zeroValue E).run P u = .ok z u) (hown : MapV P K w b m F n) (hmx : m < maxLen) {key : Value} {kl : Lit} (hkey : keyOf P K key = some kl) (hkl : WideAt.IsKeyLit kl) :
    ∃ (st : Nat) (w1 : World), (Instr.mapEntry T (.map (some b)) key).run P w = .ok (.tuple #[(F kl).getD z, goInt st]) w1 ∧ Mod (· = b) w w1 ∧ Opened P K T w1 b m n st F kl := by
  have hlt := hown.lt
  obtain ⟨D, hown, hT, hf⟩ := hown
  obtain ⟨es, clock, hb, hF, hsz, hD⟩ := id hown
  obtain ⟨v0, st, es1, clock1, hrun, hlook, hst⟩ := entry_opened LK ht hz hb hF hkey
  obtain ⟨v, ps, hrun2, hv⟩ := hown.lookup LK ht (hz w) (zd := .held z) (zp := []) rfl hkey
  rw [hlook] at hrun2
  cases hrun2
  rw [hf.at_ kl z hkl] at hv
  have e : v0 = (F kl).getD z := by
    unfold holdV at hv
    simp at hv
    exact hv.1
  subst e
  refine ⟨st, _, hrun, setBlock_mod _ _ _, by simp [setBlock, hlt], fun w1 hw1 val => ?_⟩
  rw [heap_setBlock_same hb _] at hw1
  obtain ⟨es2, clock2, h1, h2⟩ := hst val
  obtain ⟨w3, hrun', r1, r2⟩ := hown.update LK ht hmx hkey (val := val) (d := .held val) (ps := []) rfl
  rw [h2] at hrun'
  cases hrun'
  refine ⟨_, h1 w1 hw1, ⟨_, ?_, hT.put hkl _, hf.put hT hkl val⟩, setBlock_mod _ _ _⟩
  obtain ⟨es3, clock3, q1, q2, q3, q4⟩ := r1
  rw [heap_setBlock_same hb _] at q1
  cases q1
  exact ⟨es2, clock2, heap_setBlock_same hw1 _, q2, q3, q4⟩
end
end Go.Proofs.YtefhmbmbhiehdaaDoor
