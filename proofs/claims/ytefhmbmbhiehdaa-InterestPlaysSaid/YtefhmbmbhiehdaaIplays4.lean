/- The head of a round of gyrelaw.InterestPlays: the look is taken. Conditions: none. -/
import Derived.Deep.WholeRow
import Derived.Test.YtefhmbmbhiehdaaIplays0
namespace Go.Proofs.Ytefhmbmbhiehdaa
open Go Go.Maps Go.RowKit Go.BigFrame Go.ChangeShapes Go.WideShapes
theorem run_load_cells {P : Program} (w : World) (a : Addr) (ty : TypeId) (cs : List Value) (d : TypeDesc) (h : ∀ j v, cs[j]? = some v → w.cell? (a.add j) = some v)
    (hu : P.underlying ty = some d) (hd : (match d with | .struct _ | .array _ _ => true | _ => false) = true) (hi : (P.info? ty).map (·.size) = some cs.length) :
    (loadVar ty a).run P w = .ok (.agg cs.toArray) w := by
  have hl := run_loadCells_list (P := P) w a cs h
  cases hq : P.info? ty with
  | none => simp [hq] at hi
  | some i =>
    have hs : i.size = cs.length := by simpa [hq] using hi
    have hagg : (isAgg ty).run P w = .ok true w := by
      unfold isAgg
      rw [Sem.run_bind, run_underlying hu w]
      cases d <;> simp_all
    simp [loadVar, Sem.run_bind, hagg, sizeOf, typeInfo, hq, hs, hl]
theorem wpList_load_cells {P : Program} {ops : Array Oper} {rest : List Oper} {o : Oper} {a : Act} {w : World} {Q : Exit → Act → World → Prop} (hgd : o.guard = none) (ty : TypeId) (x : Operand) (ho : o.op = .load ty x)
    (p : Addr) (hx : a.eval x = .pointer (some p)) (cs : List Value) (d : TypeDesc) (hc : ∀ j v, cs[j]? = some v → w.cell? (p.add j) = some v)
    (hu : P.underlying ty = some d) (hd : (match d with | .struct _ | .array _ _ => true | _ => false) = true) (hi : (P.info? ty).map (·.size) = some cs.length)
    (h : wpList P ops Q rest (a.put o.dst (.agg cs.toArray)) w) : wpList P ops Q (o :: rest) a w := by
  refine wpList_plain hgd fun K hK => ?_
  unfold Oper.wp execOp
  simp only [ho, hx, Instr.loadAt, Instr.sureAddr, Sem.run_bind, Sem.run_pure, Result.andThen_ok, run_load_cells w p ty cs d hc hu hd hi]
  exact hK _ _ h
theorem wpList_store_new {P : Program} {ops : Array Oper} {rest : List Oper} {o : Oper} {a : Act} {w : World} {Q : Exit → Act → World → Prop} (hgd : o.guard = none) (t : TypeId) (x v : Operand) (ho : o.op = .store t x v)
    (c c' : Array Value) (hx : a.eval x = .pointer (some ⟨w.heap.size, 0, none⟩)) (hv : a.eval v = .agg c') (hi : (P.info? t).map (·.size) = some c'.size) (hs : c.size = c'.size) (h1 : ∀ v ∈ c'.toList, v.oneCell' = true)
    (h : wpList P ops Q rest (a.put o.dst undef) (w.alloc (.cells c' t))) : wpList P ops Q (o :: rest) a (w.alloc (.cells c t)) := by
  have h2 : c'.all (·.oneCell') = true := by
    rw [← Array.all_toList, List.all_eq_true]
    exact h1
  refine wpList_plain hgd fun K hK => ?_
  unfold Oper.wp execOp
  simp only [ho, hx, hv, Sem.run_bind, run_storeAt_new w t c c' hi hs h2, Result.andThen_ok, Sem.run_pure]
  exact hK _ _ h
theorem lookInfo : (Try.prog.info? 65).map (·.size) = some 23 := by kernel_rfl
def lookL (f : Nat → Int) : List Value := (List.range 23).map fun j => .int .i64 (f j)
theorem lookL_one (f : Nat → Int) : ∀ v ∈ lookL f, v.oneCell' = true := by
  intro v hv
  unfold lookL at hv
  obtain ⟨j, _, rfl⟩ := List.mem_map.1 hv
  rfl
theorem lookL_get {f : Nat → Int} {j : Nat} {v : Value} (h : (lookL f)[j]? = some v) : j < 23 ∧ v = .int .i64 (f j) := by
  unfold lookL at h
  rw [List.getElem?_map] at h
  cases hr : (List.range 23)[j]? with
  | none => rw [hr] at h; cases h
  | some i =>
    rw [hr] at h
    have hj := (List.getElem?_eq_some_iff.1 hr).1
    rw [List.length_range] at hj
    have : i = j := by
      have := (List.getElem?_eq_some_iff.1 hr).2
      simpa using this.symm
    subst this
    cases h
    exact ⟨hj, rfl⟩
set_option maxRecDepth 100000 in
set_option maxHeartbeats 8000000 in
theorem look_way {Q : Exit → Act → World → Prop} {wr : World} {bl ol n c k : Nat} {M : Nat → Nat → Int} {u1 u2 u3 u4 u6 u7 u8 u9 u10 u11 u12 u13 u14 u15 u16 u17 u18 u19 u20 u21 u22 u23 u24 u25 u26 u27 u28 u29 u30 u31 u32 u33 u34 u35 u36 u37 u38 u39 u40 u41 u42 u43 u44 u45 u46 u47 u48 u49 u50 u51 u52 u53 u54 u55 u56 u57 u58 u59 u60 u61 u62 u63 u64 u65 u66 u67 u68 u69 u70 u71 u72 u73 u74 u75 u76 u77 u78 u79 u80 u81 u82 u83 u84 u85 u86 u87 u88 u89 u90 u91 u92 u93 u94 u95 u96 u97 u98 : Value} (hlt : k < n) (hcl : ∀ i, i < n → ∀ j, j < 23 → wr.cell? ⟨bl, ol + (i * 23 + j), none⟩ = some (.int .i64 (M i j)))
    (HQ : Hid (∀ (v22 v23 v24 v25 : Value) (wx : World), Blk wx wr.heap.size #[.int .i64 (M k 0), .int .i64 (M k 1), .int .i64 (M k 2), .int .i64 (M k 3), .int .i64 (M k 4), .int .i64 (M k 5), .int .i64 (M k 6), .int .i64 (M k 7), .int .i64 (M k 8), .int .i64 (M k 9), .int .i64 (M k 10), .int .i64 (M k 11), .int .i64 (M k 12), .int .i64 (M k 13), .int .i64 (M k 14), .int .i64 (M k 15), .int .i64 (M k 16), .int .i64 (M k 17), .int .i64 (M k 18), .int .i64 (M k 19), .int .i64 (M k 20), .int .i64 (M k 21), .int .i64 (M k 22)] → Below wr.heap.size wr wx → Q .normal { tmps := #[.slice (some ⟨bl, ol, none⟩) n c, u1, u2, u3, u4, .int .i64 (k : Int), .pointer (some ⟨wr.heap.size, 0, none⟩), u7, u8, u9, u10, u11, u12, u13, u14, u15, u16, u17, u18, u19, u20, u21, v22, v23, v24, v25, u26, u27, u28, u29, u30, u31, u32, u33, u34, u35, u36, u37, u38, u39, u40, u41, u42, u43, u44, u45, u46, u47, u48, u49, u50, u51, u52, u53, u54, u55, u56, u57, u58, u59, u60, u61, u62, u63, u64, u65, u66, u67, u68, u69, u70, u71, u72, u73, u74, u75, u76, u77, u78, u79, u80, u81, u82, u83, u84, u85, u86, u87, u88, u89, u90, u91, u92, u93, u94, u95, u96, u97, u98], defers := [] } wx)) :
    Code.wp Try.prog (regionC Try.f4 10) Q { tmps := #[.slice (some ⟨bl, ol, none⟩) n c, u1, u2, u3, u4, .int .i64 (k : Int), u6, u7, u8, u9, u10, u11, u12, u13, u14, u15, u16, u17, u18, u19, u20, u21, u22, u23, u24, u25, u26, u27, u28, u29, u30, u31, u32, u33, u34, u35, u36, u37, u38, u39, u40, u41, u42, u43, u44, u45, u46, u47, u48, u49, u50, u51, u52, u53, u54, u55, u56, u57, u58, u59, u60, u61, u62, u63, u64, u65, u66, u67, u68, u69, u70, u71, u72, u73, u74, u75, u76, u77, u78, u79, u80, u81, u82, u83, u84, u85, u86, u87, u88, u89, u90, u91, u92, u93, u94, u95, u96, u97, u98], defers := [] } wr := by
  conv => arg 2; whnf
  dsimp only
  have hcs : ∀ j v, (lookL (M k))[j]? = some v → wr.cell? ((⟨bl, ol + k * 23, none⟩ : Addr).add j) = some v := by
    intro j v h
    obtain ⟨hj, rfl⟩ := lookL_get h
    have := hcl k hlt j hj
    rw [← Nat.add_assoc] at this
    have e : (⟨bl, ol + k * 23, none⟩ : Addr).add j = ⟨bl, ol + k * 23 + j, none⟩ := by unfold Addr.add; split <;> simp_all
    rw [e]
    exact this
  have HCS := Lib.hid hcs
  clear hcl hcs
  iterate 10 go_step
  refine wpList_load_cells rfl 65 (.tmp 24) rfl ⟨bl, ol + k * 23, none⟩ rfl (lookL (M k)) _ HCS.out Try.underlying65 rfl lookInfo ?_
  change wpList _ _ _ _ (Act.put _ _ (.agg #[.int .i64 (M k 0), .int .i64 (M k 1), .int .i64 (M k 2), .int .i64 (M k 3), .int .i64 (M k 4), .int .i64 (M k 5), .int .i64 (M k 6), .int .i64 (M k 7), .int .i64 (M k 8), .int .i64 (M k 9), .int .i64 (M k 10), .int .i64 (M k 11), .int .i64 (M k 12), .int .i64 (M k 13), .int .i64 (M k 14), .int .i64 (M k 15), .int .i64 (M k 16), .int .i64 (M k 17), .int .i64 (M k 18), .int .i64 (M k 19), .int .i64 (M k 20), .int .i64 (M k 21), .int .i64 (M k 22)])) _
  iterate 3 go_step
  refine wpList_store_new rfl 65 (.tmp 6) (.tmp 25) rfl _ #[.int .i64 (M k 0), .int .i64 (M k 1), .int .i64 (M k 2), .int .i64 (M k 3), .int .i64 (M k 4), .int .i64 (M k 5), .int .i64 (M k 6), .int .i64 (M k 7), .int .i64 (M k 8), .int .i64 (M k 9), .int .i64 (M k 10), .int .i64 (M k 11), .int .i64 (M k 12), .int .i64 (M k 13), .int .i64 (M k 14), .int .i64 (M k 15), .int .i64 (M k 16), .int .i64 (M k 17), .int .i64 (M k 18), .int .i64 (M k 19), .int .i64 (M k 20), .int .i64 (M k 21), .int .i64 (M k 22)] rfl rfl lookInfo rfl (lookL_one (M k)) ?_
  refine wpList_nil ?_
  exact HQ.out _ _ _ _ _ (by apply Blk.at; rfl) (ialloc _ _)
end Go.Proofs.Ytefhmbmbhiehdaa
