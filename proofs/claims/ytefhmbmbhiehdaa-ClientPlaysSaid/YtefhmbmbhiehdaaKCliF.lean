/- The contract of (*client.Client).Feed. Conditions: none but that there is not too much. -/
import Derived.Laws.MakeOwn
import Derived.WalkSpells
import Derived.Test.YtefhmbmbhiehdaaKCliW
import Derived.Test.YtefhmbmbhiehdaaKClF
namespace Go.Proofs.Ytefhmbmbhiehdaa
open Go.ChangeShapes Go.WideShapes Go.ChangeAt Go.RowKit Go.BigFrame Go.Maps
open B
section
variable {S X : Nat → Prop} {w w' : World} {c m b n ma : Nat} {s : AS} {st ba hv : Int} {PA : Option Addr}
theorem CR.belowC (h : CR w c m s S X b n st ba PA ma hv) (k : Below w.heap.size w w') : CR w' c m s S X b n st ba PA ma hv := h.frame (Mod.of_below k) (fun _ e => .inl e) (fun x e => Nat.lt_of_lt_of_le (h.xl x e) k.size)
theorem CR.more (h : CR w c m s S X b n st ba PA ma hv) {m' : Nat} (hm : m ≤ m') : CR w c m' s S X b n st ba PA ma hv := ⟨h.blk, h.vm.more hm, h.gat, h.sc, h.sb, h.ne, h.sl, h.xl⟩
end
theorem bytesInfo : (Try.prog.info? 29).map (fun i => (i.zero, i.size, i.bytes)) = some (some (.slice none 0 0), 1, 24) := by kernel_rfl
/-- make([][]byte, n) -/
theorem run_pieces (n : Nat) (w : World) (hn : n ≤ 1000) : (Instr.makeSlice 92 (.int .i64 n) (.int .i64 n)).run Try.prog w = .ok (.slice (some ⟨w.heap.size, 0, none⟩) n n) (w.alloc (.cells (Array.replicate n (.slice none 0 0)) 29)) := by
  obtain ⟨i, hi, hz, hsz, hby⟩ := info_three bytesInfo
  have h := run_make w 92 29 i (.slice none 0 0) Try.underlying92 hi hz .i64 .i64 n n (by omega) (Int.le_refl _) (by rw [hby]; omega) (by omega)
  rw [h, hsz]
  simp only [Int.toNat_natCast, Nat.mul_one]
  have e : madeCells (Value.slice none 0 0).cells n = Array.replicate n (Value.slice none 0 0) := by
    unfold madeCells
    apply Array.ext
    · simp
    · intro j h1 h2
      simp [Value.cells, Nat.mod_one]
  rw [e]
theorem unfit_eq {g : List Pce} {p : Pce} {st ba : Int} {ma : Nat} (h1 : ∀ q ∈ g, (q.st : Int) = st ∧ (q.ba : Int) = ba ∧ q.ma = ma) (h0 : g = [] → ba = p.ba ∧ ma = p.ma) : unfit g p = decide ((p.ba : Int) ≠ ba ∨ p.ma ≠ ma ∨ pieceAt g p.ix ≠ none) := by
  cases hg : g with
  | nil =>
    obtain ⟨rfl, rfl⟩ := h0 hg
    simp [unfit, pieceAt]
  | cons q0 t =>
    rw [← hg, Bool.eq_iff_iff, decide_eq_true_iff]
    unfold unfit
    rw [List.any_eq_true]
    constructor
    · rintro ⟨q, hq, hb⟩
      have := h1 q hq
      simp at hb
      rcases hb with (hb | hb) | hb
      · left; omega
      · right; left; omega
      · right; right
        rw [pieceAt_some]
        exact List.mem_map.2 ⟨q, hq, hb⟩
    · intro hb
      have hq0 : q0 ∈ g := by rw [hg]; simp
      have := h1 q0 hq0
      rcases hb with hb | hb | hb
      · exact ⟨q0, hq0, by simp; omega⟩
      · exact ⟨q0, hq0, by simp; omega⟩
      · rw [pieceAt_some] at hb
        obtain ⟨q, hq, e⟩ := List.mem_map.1 hb
        exact ⟨q, hq, by simp [e]⟩
/-- append(own, bytes...), in a region that draws -/
theorem step_src {ops : Array Oper} {o : Oper} {a : Act} {w : World} {K : Act → World → Prop} {Q : Exit → Act → World → Prop} {E : Prop} (hg : o.guard = none) (s x : Operand) (ho : o.op = .call { callee := .builtin .append, args := #[s, x], argTypes := #[29, 29] })
    (base : Nat) (v : Value) (l : List Nat) (hs : a.eval s = v) (hown : w.ownsRow base 5 1 v l.length (u8s l)) {vx : Value} {k : List Nat} (hx : a.eval x = vx) (hS : Src w vx k) (hn : l.length + k.length < 1000000) (hbase : base ≤ w.heap.size)
    (hK : ∀ v' w', w'.ownsRow base 5 1 v' (l ++ k).length (u8s (l ++ k)) → Mod (fun b => v.ownBlock = some b) w w' → (v' = .slice none 0 0 → v = .slice none 0 0) → K (a.put o.dst v') w') :
    if Region.wanted o (yielded ops a.tmps) = true then Oper.wp Try.prog o a w K Q else E := by
  have hw : Region.wanted o (yielded ops a.tmps) = true := by simp [Region.wanted, hg]
  rw [if_pos hw]
  obtain ⟨i, hi, hz, hsize, hbytes⟩ := info_three byteInfo
  rcases hS with ⟨rfl, rfl⟩ | ⟨ad, cap, rfl, hc⟩
  · have hrun := run_append_owned_none (P := Try.prog) (w := w) base 29 o.type 5 i 1 Try.underlying29 hi v l.length (u8s l) hown
    unfold Oper.wp
    simp [execOp, ho, resolve, invoke, builtin, hs, hx, hrun, Result.andThen]
    exact hK v w (by simpa using hown) (Mod.refl _ _) id
  · obtain ⟨v', w', hr, h2, h3, h4, h5⟩ := run_append_own_at (P := Try.prog) w base 29 o.type 5 i (.int .u8 0) 1 1 Try.underlying29 hi hz hsize hbytes rfl (by decide) v l.length (u8s l) hown ad k.length cap (u8s k) (by rw [u8s_length]; omega) hc (u8s_one k) (by unfold maxLen; omega) (by omega) hbase
    unfold Oper.wp execOp
    simp only [ho, resolve, invoke, builtin, Sem.run_bind, Sem.run_pure, Result.andThen_ok, List.map_toArray, List.map_cons, List.map_nil, hs, hx, hr]
    exact hK v' w' (by rw [List.length_append, u8s_append]; exact h2) ((mod_grown h3).mono fun _ _ h => h) (fun e => (h4.1 e).1)
theorem any_fresh {P : Program} {md : Region.Mode} {ops : Array Oper} {Q : Exit → Act → World → Prop} {S : World → Prop} {f : Nat} {li : Array Bool} {a : Act} {w : World} (h : ∀ w', Below w.heap.size w w' → S w' → wpAnyH P md ops Q S f li a w') (hS : S w) : wpAnyH P md ops Q S f li a w := h w (Below.refl _ _) hS
/-- the client behind what was written -/
theorem CR.build {w w' : World} {c m b n ma : Nat} {s : AS} {S X : Nat → Prop} {st ba hv : Int} {PA : Option Addr} (h : CR w c m s S X b n st ba PA ma hv) {s' : AS} (hV : s'.V = s.V) {S' : Nat → Prop} (hS : ∀ x, S x → S' x) (hS' : ∀ x, S' x → S x ∨ w.heap.size ≤ x) (hl : ∀ x, S' x → x < w'.heap.size)
    {T : Nat → Prop} (hM : Mod T w w') (hT : ∀ x, T x → S x ∨ w.heap.size ≤ x) (hTb : ¬ T b) {st' ba' hv' : Int} {PA' : Option Addr} {ma' : Nat} (hC : Blk w' c #[.map (some b), .int .i64 s'.newest, .int .i64 st', .int .i64 ba', .slice PA' ma' ma', .int .i64 hv']) (hG : GatP S' (fun x => S' x ∨ X x) w' c s'.got st' ba' PA' ma' hv') : CR w' c (m + 1) s' S' X b n st' ba' PA' ma' hv' := by
  refine ⟨hC, ?_, hG, hS c h.sc, hS b h.sb, h.ne, fun x hx => ⟨hl x hx, fun e => ?_⟩, fun x hx => Nat.lt_of_lt_of_le (h.xl x hx) hM.size⟩
  · rw [hV]
    have hM' : Mod (fun x => T x ∧ S x) w w' := hM.mono (fun x hx e => ⟨e, (hT x e).elim id (by omega)⟩)
    exact (h.vm.mod (Z' := fun x => S' x ∨ X x) hM' (fun x e => .inl e.2) (fun x e => e.elim (fun e => (hS' x e).elim (fun e => .inl (.inl e)) .inr) (fun e => .inl (.inr e))) (fun e => hTb e.1)).more (by omega)
  · rcases hS' x hx with e' | e'
    · exact (h.sl x e').2 e
    · have := h.xl x e; omega
/-- a map's block is no cells -/
theorem blk_ne_map {P : Program} {K : TypeId} {w : World} {g b m n : Nat} {cs : Array Value} {F : Lit → Option Value} (h : Blk w g cs) (h0 : 0 < cs.size) (hm : MapV P K w b m F n) : g ≠ b := by
  intro e
  subst e
  obtain ⟨D, ⟨es, clock, hb, _⟩, _⟩ := hm
  have hc := h.cell 0
  rw [Array.getElem?_eq_getElem h0] at hc
  unfold World.cell? at hc
  rw [hb] at hc
  cases hc
theorem Blk.as {w : World} {b : Nat} {cs cs' : Array Value} (h : Blk w b cs) (e : cs = cs') : Blk w b cs' := e ▸ h
theorem row_someV {w : World} {base s n : Nat} {e : TypeId} {v : Value} {xs : List Value} (h : w.ownsRow base e s v n xs) (hv : v ≠ .slice none 0 0) : ∃ a c, v = .slice (some a) n c ∧ base ≤ a.block := by
  rcases h.2 with ⟨rfl, rfl⟩ | ⟨g, cap, cur, rfl, hg, _⟩
  · exact absurd rfl hv
  · exact ⟨_, cap, rfl, hg⟩
theorem src_of_rowF {w : World} {base : Nat} {v : Value} {l : List Nat} (h : w.ownsRow base 5 1 v l.length (u8s l)) : Src w v l := by
  rcases id h.2 with ⟨rfl, h0⟩ | ⟨g, cap, cur, rfl, _⟩
  · exact .inl ⟨rfl, by simpa using h0⟩
  · exact .inr ⟨_, cap, rfl, fun j u hu => row_cells h j u hu⟩
theorem kept_len {s : AS} (h : s.ok) (p : Pce) : (kept s.got p).length ≤ 40 := by
  unfold kept
  split
  · simp
  · cases hg : s.got with
    | nil => simp
    | cons q t =>
      have h1 := h.less q (by rw [hg]; simp)
      have h2 := (h.pcs q (by rw [hg]; simp)).1.2.2.2.2.1
      rw [hg] at h1
      omega
theorem pieceAt_app {g : List Pce} {p : Pce} (i : Nat) (h : pieceAt g p.ix = none) : pieceAt (g ++ [p]) i = if i = p.ix then some p.l else pieceAt g i := by
  unfold pieceAt at h ⊢
  rw [List.find?_append]
  by_cases e : i = p.ix
  · subst e
    rw [Option.map_eq_none_iff] at h
    rw [h]
    simp
  · rw [if_neg e]
    have : List.find? (fun q => q.ix == i) [p] = none := by simp; omega
    rw [this]
    simp
/-- the pieces with one more -/
theorem GatP.put {S X : Nat → Prop} {w6 w' : World} {c pb ma : Nat} {g : List Pce} {p : Pce} {vs : Array Value} {v8 : Value} (hpc : ∀ i v, vs[i]? = some v → PcAt (fun x => S x ∨ X x) w6 v (pieceAt g i)) (hk : g = [] ∨ S pb) (hn : pieceAt g p.ix = none) (hsz : vs.size = ma) (hm : Mod (fun x => x = c ∨ x = pb) w6 w') (hc : S c)
    (h8 : RbZ (fun x => (S x ∨ x = pb) ∨ X x) w' v8 p.l) (h8' : ∃ a k, v8 = .slice (some a) p.l.length k) {st ba : Int} (hall : ∀ q ∈ g, (q.st : Int) = st ∧ (q.ba : Int) = ba ∧ q.ma = ma) (hp : (p.st : Int) = st ∧ (p.ba : Int) = ba ∧ p.ma = ma) (hpb : pb ≠ c)
    (hB : Blk w' pb (vs.setIfInBounds p.ix v8)) : GatP (fun x => S x ∨ x = pb) (fun x => (S x ∨ x = pb) ∨ X x) w' c (g ++ [p]) st ba (some ⟨pb, 0, none⟩) ma ((g.length : Int) + 1) := by
  refine .inr ⟨by simp, fun q hq => ?_, by simp, pb, _, rfl, .inr rfl, hpb, hB, by simpa using hsz, fun i v hi => ?_⟩
  · rcases List.mem_append.1 hq with hq | hq
    · exact hall q hq
    · rw [List.mem_singleton] at hq
      rw [hq]; exact hp
  · rw [pieceAt_app i hn]
    rw [Array.getElem?_setIfInBounds] at hi
    by_cases e : p.ix = i
    · rw [if_pos e] at hi
      rw [if_pos e.symm]
      split at hi
      · cases hi
        exact ⟨h8, h8'⟩
      · cases hi
    · rw [if_neg e] at hi
      rw [if_neg (Ne.symm e)]
      have h1 := hpc i v hi
      rcases hk with rfl | hk
      · exact h1
      · exact h1.mod hm (fun x e => e.elim (fun e => .inl (e ▸ hc)) (fun e => .inl (e ▸ hk))) (fun x e => .inl (e.elim (fun e => e.elim .inl (fun e => .inl (e ▸ hk))) .inr))
/-- what comes of a datagram -/
def FeedTo (l : List Nat) (s : AS) (r : Bool × AS) : Prop := ((∀ p, ¬ ToldP l p) ∧ r = (false, s)) ∨ ∃ p, ToldP l p ∧ r = s.feed p
def FeedPost (w : World) (c m : Nat) (S X : Nat → Prop) (l : List Nat) (s : AS) (e : Ending) (w' : World) : Prop := ∃ r : Bool × AS, FeedTo l s r ∧ e = .returned (.bool r.1) ∧ (∃ S' b' n' st' ba' PA' ma' hv', CR w' c (m + 2) r.2 S' X b' n' st' ba' PA' ma' hv' ∧ ∀ x, S' x → S x ∨ w.heap.size ≤ x) ∧ Mod S w w'
theorem FeedPost.mk {w w' : World} {c m : Nat} {S X : Nat → Prop} {l : List Nat} {s : AS} {e : Ending} (h : ∃ r : Bool × AS, FeedTo l s r ∧ e = .returned (.bool r.1) ∧ (∃ S' b' n' st' ba' PA' ma' hv', CR w' c (m + 2) r.2 S' X b' n' st' ba' PA' ma' hv' ∧ ∀ x, S' x → S x ∨ w.heap.size ≤ x) ∧ Mod S w w') : FeedPost w c m S X l s e w' := h
set_option maxRecDepth 100000 in
set_option maxHeartbeats 8000000 in
theorem cfeed_c (w : World) (c m b n : Nat) (s : AS) (S X : Nat → Prop) (st ba hv : Int) (PA : Option Addr) (ma : Nat) (h : CR w c m s S X b n st ba PA ma hv) (hs : s.ok) (hm : m ≤ 900) (v : Value) (l : List Nat) (hS : Src w v l) (h8 : ∀ b ∈ l, b < 256) (hl : l.length ≤ 100000) :
    Calls Try.prog 11 #[.pointer (some ⟨c, 0, none⟩), v] w (FeedPost w c m S X l s) := by
  have HH := Lib.hid h
  have HOK := Lib.hid hs
  have hb := h.blk
  have HB0 := Lib.hid hb
  clear h hs hb
  go_enter Try.func11, Try.ntmps11
  go_wp2_with fail
  refine (wtold_p v l _ hS h8 (by omega)).mono ?_
  rintro e w1 ⟨h, hb1⟩
  have HW1 := Lib.hid hb1
  clear hS h8 hl hb1
  rcases h with ⟨p, A, cp, hT, rfl, hSp, hSn⟩ | ⟨hN, rfl⟩
  · have HT := Lib.hid hT
    have HOP := Lib.hid (toldP_ok hT)
    have hst1 := (toldP_ok hT).1.1
    have hst2 := (toldP_ok hT).1.2.1
    have HA1 := Lib.hid hSp
    have hb1 := HB0.out.below HW1.out
    have HSN := Lib.hid hSn
    clear hT hSp hSn
    go_upto_region 2 with fail
    refine wp_fresh ?_
    rintro w2 hb2
    have HP2 : Hid (Blk w2 w1.heap.size #[.int .i64 p.st, .int .i64 p.ba, .int .i64 p.ix, .int .i64 p.ma, .slice A p.l.length cp]) := Lib.hid (Blk.below (by repeat (with_reducible (first | assumption | (apply Blk.at; simp; done) | apply Blk.alloc | apply Blk.drew | apply Blk.drewN | apply Blk.more | apply Blk.put | (apply Blk.far; focus (first | assumption | (apply Ne.symm; assumption) | (simp; done) | (simp <;> omega)))))) hb2)
    have hv2 : Below w1.heap.size w1 w2 := (by repeat (with_reducible (first | exact Below.refl _ _ | assumption | apply ext_drew | apply ext_drewN | apply ext_alloc | apply ext_more | (refine ext_setCell ?_ (by first | assumption | (simp <;> omega)) _) | (refine ext_below ?_ (by assumption)))))
    have HB2 := Lib.hid (hb1.below hv2)
    have HW2 : Hid (Below w.heap.size w w2) := Lib.hid (HW1.out.trans (hv2.mono HW1.out.size))
    have HA2 := Lib.hid (HA1.out.below hv2)
    obtain ⟨d, hd⟩ : ∃ d, d = w1.heap.size := ⟨_, rfl⟩
    rw [← hd] at HP2
    rw [← hd]
    have HDW : Hid (w.heap.size ≤ d) := Lib.hid (by rw [hd]; exact HW1.out.size)
    clear hd hb2 hv2 hb1 HA1
    have p_ := HP2.out
    have b_ := HB2.out
    obtain ⟨zd, cd, fd⟩ := id p_
    obtain ⟨zc, cc, fc⟩ := id b_
    clear p_ b_
    have hmc := more_cell
    by_cases h1 : p.st ≤ s.newest
    · have d1 : decide (p.st ≤ s.newest) = true := decide_eq_true h1
      have HF : Hid (s.feed p = (false, s)) := Lib.hid (by unfold AS.feed; rw [if_pos (.inl h1)])
      clear h1
      go_wp2_with fail
      refine region_quiet_all (by kernel_rfl) (by kernel_rfl) ?_
      repeat (go_big_quiet_step (fail))
      refine wpQuiet_nil ?_
      rintro w3 hw3
      have hb3 := after_below hw3
      have HP3 := Lib.hid (HP2.out.below hb3)
      have HB3 := Lib.hid (HB2.out.below hb3)
      have HW3 : Hid (Below w.heap.size w w3) := Lib.hid (HW2.out.trans (hb3.mono HW2.out.size))
      have HA3 := Lib.hid (HA2.out.below hb3)
      clear hw3 hb3 zd cd fd zc cc fc HP2 HB2 HW2 HA2
      have p_ := HP3.out
      have b_ := HB3.out
      obtain ⟨zd, cd, fd⟩ := id p_
      obtain ⟨zc, cc, fc⟩ := id b_
      clear p_ b_
      go_wp2
      go_ret
      exact FeedPost.mk ⟨(false, s), .inr ⟨p, HT.out, HF.out.symm⟩, rfl, ⟨S, b, n, st, ba, PA, ma, hv, (HH.out.belowC HW3.out).more (by omega), fun x hx => .inl hx⟩, Mod.of_below HW3.out⟩
    · have d1 : decide (p.st ≤ s.newest) = false := decide_eq_false h1
      by_cases h2 : (p.st : Int) < st
      · have d2 : decide ((p.st : Int) < st) = true := decide_eq_true h2
        have HF : Hid (s.feed p = (false, s)) := Lib.hid (by unfold AS.feed; rw [if_pos (.inr (by rw [HH.out.gat.lt p]; exact d2))])
        clear h2
        go_wp2_with fail
        refine region_quiet_all (by kernel_rfl) (by kernel_rfl) ?_
        repeat (go_big_quiet_step (fail))
        refine wpQuiet_nil ?_
        rintro w3 hw3
        have hb3 := after_below hw3
        have HP3 := Lib.hid (HP2.out.below hb3)
        have HB3 := Lib.hid (HB2.out.below hb3)
        have HW3 : Hid (Below w.heap.size w w3) := Lib.hid (HW2.out.trans (hb3.mono HW2.out.size))
        have HA3 := Lib.hid (HA2.out.below hb3)
        clear hw3 hb3 zd cd fd zc cc fc HP2 HB2 HW2 HA2
        have p_ := HP3.out
        have b_ := HB3.out
        obtain ⟨zd, cd, fd⟩ := id p_
        obtain ⟨zc, cc, fc⟩ := id b_
        clear p_ b_
        go_wp2
        go_ret
        exact FeedPost.mk ⟨(false, s), .inr ⟨p, HT.out, HF.out.symm⟩, rfl, ⟨S, b, n, st, ba, PA, ma, hv, (HH.out.belowC HW3.out).more (by omega), fun x hx => .inl hx⟩, Mod.of_below HW3.out⟩
      · have d2 : decide ((p.st : Int) < st) = false := decide_eq_false h2
        have HN1 : Hid (¬ (p.st ≤ s.newest ∨ s.got.any (fun q => decide (p.st < q.st)) = true)) := Lib.hid (by rw [HH.out.gat.lt p, d2]; simp; omega)
        go_wp2_with fail
        refine region_quiet_all (by kernel_rfl) (by kernel_rfl) ?_
        repeat (go_big_quiet_step (fail))
        refine wpQuiet_nil ?_
        rintro w3 hw3
        have hb3 := after_below hw3
        have HP3 := Lib.hid (HP2.out.below hb3)
        have HB3 := Lib.hid (HB2.out.below hb3)
        have HW3 : Hid (Below w.heap.size w w3) := Lib.hid (HW2.out.trans (hb3.mono HW2.out.size))
        have HA3 := Lib.hid (HA2.out.below hb3)
        clear hw3 hb3 zd cd fd zc cc fc HP2 HB2 HW2 HA2
        have p_ := HP3.out
        have b_ := HB3.out
        obtain ⟨zd, cd, fd⟩ := id p_
        obtain ⟨zc, cc, fc⟩ := id b_
        clear p_ b_
        go_wp2_with fail
        refine region_quiet_all (by kernel_rfl) (by kernel_rfl) ?_
        repeat (go_big_quiet_step (fail))
        refine wpQuiet_nil ?_
        rintro w4 hw4
        have hb4 := after_below hw4
        have HP4 := Lib.hid (HP3.out.below hb4)
        have HB4 := Lib.hid (HB3.out.below hb4)
        have HW4 : Hid (Below w.heap.size w w4) := Lib.hid (HW3.out.trans (hb4.mono HW3.out.size))
        have HA4 := Lib.hid (HA3.out.below hb4)
        clear hw4 hb4 zd cd fd zc cc fc HP3 HB3 HW3 HA3
        have p_ := HP4.out
        have b_ := HB4.out
        obtain ⟨zd, cd, fd⟩ := id p_
        obtain ⟨zc, cc, fc⟩ := id b_
        clear p_ b_
        go_upto_if 38 with fail
        go_cut [] (fun wx => ∃ (pb : Nat) (vs : Array Value) (ba' : Int) (ma' : Nat) (hv' : Int), (S pb ∨ w.heap.size ≤ pb) ∧ Blk wx c #[.map (some b), .int .i64 s.newest, .int .i64 p.st, .int .i64 ba', .slice (some ⟨pb, 0, none⟩) ma' ma', .int .i64 hv'] ∧ Blk wx pb vs ∧ vs.size = ma' ∧ pb ≠ c ∧ pb ≠ d ∧ pb ≠ b ∧ (∀ (i : Nat) (v : Value), vs[i]? = some v → PcAt (fun x => S x ∨ X x) wx v (pieceAt (kept s.got p) i)) ∧ (∀ q ∈ kept s.got p, (q.st : Int) = p.st ∧ (q.ba : Int) = ba' ∧ q.ma = ma') ∧ hv' = (kept s.got p).length ∧ (kept s.got p = [] → ba' = p.ba ∧ ma' = p.ma) ∧ (kept s.got p = [] ∨ kept s.got p = s.got ∧ s.got ≠ [] ∧ S pb) ∧ Blk wx d #[.int .i64 p.st, .int .i64 p.ba, .int .i64 p.ix, .int .i64 p.ma, .slice A p.l.length cp] ∧ Src wx (.slice A p.l.length cp) p.l ∧ Mod (fun x => x = c) w wx ∧ w.heap.size ≤ wx.heap.size)
        case first =>
          by_cases h3 : st < (p.st : Int)
          · have d3 : decide (st < (p.st : Int)) = true := decide_eq_true h3
            have HKE : Hid (kept s.got p = []) := Lib.hid (by rw [HH.out.gat.kept p, if_pos h3])
            clear h3
            try rw [d3]
            go_upto_region 5 with fail
            have hd0 : Below w4.heap.size w4 w4.drew := ext_drew (Below.refl _ _)
            have p4 := HP4.out
            have b4 := HB4.out
            have P0 := p4.below hd0
            have hcd : c ≠ d := by have := HDW.out; have := HH.out.blk.lt; omega
            have hcp : c ≠ w4.heap.size := by omega
            have hpd : w4.heap.size ≠ d := by omega
            have hdc : d ≠ c := by have := HDW.out; have := HH.out.blk.lt; omega
            have hma1 := HOP.out.1.2.2.2.1
            have hma2 := HOP.out.1.2.2.2.2.1
            have hmk := fun w => run_pieces p.ma w (by omega)
            clear zd cd fd
            refine wp_region_held_drew (S := fun w' => Blk w' d #[.int .i64 p.st, .int .i64 p.ba, .int .i64 p.ix, .int .i64 p.ma, .slice A p.l.length cp]) (by kernel_rfl) P0 (fun hHeld => ?_)
            refine wpAnyH_take (i := 0) (v := .pointer (some ⟨c, 0, none⟩)) rfl (by kernel_rfl) (by kernel_rfl) (by kernel_rfl) (fun _ _ _ h => h) (Or.inl ⟨by kernel_rfl, ?ymk_0⟩) hHeld ?rmk_0
            case ymk_0 =>
              intro w hSw
              try dsimp only at hSw
              obtain ⟨zd, cd, fd⟩ := hSw
              go_simp
              try with_reducible rfl
            try simp only [Act.put, List.getElem_toArray, List.getElem_cons_zero, List.setIfInBounds_toArray, List.set_cons_zero, List.set_cons_succ]
            refine wpAnyH_take (i := 1) (v := .pointer (some ⟨c, 0, none⟩)) rfl (by kernel_rfl) (by kernel_rfl) (by kernel_rfl) (fun _ _ _ h => h) (Or.inl ⟨by kernel_rfl, ?ymk_1⟩) hHeld ?rmk_1
            case ymk_1 =>
              intro w hSw
              try dsimp only at hSw
              obtain ⟨zd, cd, fd⟩ := hSw
              go_simp
              try with_reducible rfl
            try simp only [Act.put, List.getElem_toArray, List.getElem_cons_zero, List.getElem_cons_succ, List.setIfInBounds_toArray, List.set_cons_zero, List.set_cons_succ]
            refine wpAnyH_take (i := 2) (v := .pointer (some ⟨c, 0, none⟩)) rfl (by kernel_rfl) (by kernel_rfl) (by kernel_rfl) (fun _ _ _ h => h) (Or.inl ⟨by kernel_rfl, ?ymk_2⟩) hHeld ?rmk_2
            case ymk_2 =>
              intro w hSw
              try dsimp only at hSw
              obtain ⟨zd, cd, fd⟩ := hSw
              go_simp
              try with_reducible rfl
            try simp only [Act.put, List.getElem_toArray, List.getElem_cons_zero, List.getElem_cons_succ, List.setIfInBounds_toArray, List.set_cons_zero, List.set_cons_succ]
            refine wpAnyH_take (i := 3) (v := .pointer (some ⟨c, 0, none⟩)) rfl (by kernel_rfl) (by kernel_rfl) (by kernel_rfl) (fun _ _ _ h => h) (Or.inl ⟨by kernel_rfl, ?ymk_3⟩) hHeld ?rmk_3
            case ymk_3 =>
              intro w hSw
              try dsimp only at hSw
              obtain ⟨zd, cd, fd⟩ := hSw
              go_simp
              try with_reducible rfl
            try simp only [Act.put, List.getElem_toArray, List.getElem_cons_zero, List.getElem_cons_succ, List.setIfInBounds_toArray, List.set_cons_zero, List.set_cons_succ]
            refine wpAnyH_take (i := 4) (v := .pointer (some ⟨d, 0, none⟩)) rfl (by kernel_rfl) (by kernel_rfl) (by kernel_rfl) (fun _ _ _ h => h) (Or.inl ⟨by kernel_rfl, ?ymk_4⟩) hHeld ?rmk_4
            case ymk_4 =>
              intro w hSw
              try dsimp only at hSw
              obtain ⟨zd, cd, fd⟩ := hSw
              go_simp
              try with_reducible rfl
            try simp only [Act.put, List.getElem_toArray, List.getElem_cons_zero, List.getElem_cons_succ, List.setIfInBounds_toArray, List.set_cons_zero, List.set_cons_succ]
            refine wpAnyH_take (i := 5) (v := .int .i64 p.st) rfl (by kernel_rfl) (by kernel_rfl) (by kernel_rfl) (fun _ _ _ h => h) (Or.inl ⟨by kernel_rfl, ?ymk_5⟩) hHeld ?rmk_5
            case ymk_5 =>
              intro w hSw
              try dsimp only at hSw
              obtain ⟨zd, cd, fd⟩ := hSw
              go_simp
              try with_reducible rfl
            try simp only [Act.put, List.getElem_toArray, List.getElem_cons_zero, List.getElem_cons_succ, List.setIfInBounds_toArray, List.set_cons_zero, List.set_cons_succ]
            refine wpAnyH_take (i := 6) (v := .pointer (some ⟨d, 1, none⟩)) rfl (by kernel_rfl) (by kernel_rfl) (by kernel_rfl) (fun _ _ _ h => h) (Or.inl ⟨by kernel_rfl, ?ymk_6⟩) hHeld ?rmk_6
            case ymk_6 =>
              intro w hSw
              try dsimp only at hSw
              obtain ⟨zd, cd, fd⟩ := hSw
              go_simp
              try with_reducible rfl
            try simp only [Act.put, List.getElem_toArray, List.getElem_cons_zero, List.getElem_cons_succ, List.setIfInBounds_toArray, List.set_cons_zero, List.set_cons_succ]
            refine wpAnyH_take (i := 7) (v := .int .i64 p.ba) rfl (by kernel_rfl) (by kernel_rfl) (by kernel_rfl) (fun _ _ _ h => h) (Or.inl ⟨by kernel_rfl, ?ymk_7⟩) hHeld ?rmk_7
            case ymk_7 =>
              intro w hSw
              try dsimp only at hSw
              obtain ⟨zd, cd, fd⟩ := hSw
              go_simp
              try with_reducible rfl
            try simp only [Act.put, List.getElem_toArray, List.getElem_cons_zero, List.getElem_cons_succ, List.setIfInBounds_toArray, List.set_cons_zero, List.set_cons_succ]
            refine wpAnyH_take (i := 8) (v := .pointer (some ⟨d, 3, none⟩)) rfl (by kernel_rfl) (by kernel_rfl) (by kernel_rfl) (fun _ _ _ h => h) (Or.inl ⟨by kernel_rfl, ?ymk_8⟩) hHeld ?rmk_8
            case ymk_8 =>
              intro w hSw
              try dsimp only at hSw
              obtain ⟨zd, cd, fd⟩ := hSw
              go_simp
              try with_reducible rfl
            try simp only [Act.put, List.getElem_toArray, List.getElem_cons_zero, List.getElem_cons_succ, List.setIfInBounds_toArray, List.set_cons_zero, List.set_cons_succ]
            refine wpAnyH_take (i := 9) (v := .int .i64 p.ma) rfl (by kernel_rfl) (by kernel_rfl) (by kernel_rfl) (fun _ _ _ h => h) (Or.inl ⟨by kernel_rfl, ?ymk_9⟩) hHeld ?rmk_9
            case ymk_9 =>
              intro w hSw
              try dsimp only at hSw
              obtain ⟨zd, cd, fd⟩ := hSw
              go_simp
              try with_reducible rfl
            try simp only [Act.put, List.getElem_toArray, List.getElem_cons_zero, List.getElem_cons_succ, List.setIfInBounds_toArray, List.set_cons_zero, List.set_cons_succ]
            refine wpAnyH_take (i := 11) (v := .pointer (some ⟨c, 0, none⟩)) rfl (by kernel_rfl) (by kernel_rfl) (by kernel_rfl) (fun _ _ _ h => h) (Or.inl ⟨by kernel_rfl, ?ymk_11⟩) hHeld ?rmk_11
            case ymk_11 =>
              intro w hSw
              try dsimp only at hSw
              obtain ⟨zd, cd, fd⟩ := hSw
              go_simp
              try with_reducible rfl
            try simp only [Act.put, List.getElem_toArray, List.getElem_cons_zero, List.getElem_cons_succ, List.setIfInBounds_toArray, List.set_cons_zero, List.set_cons_succ]
            refine wpAnyH_take (i := 12) (v := .pointer (some ⟨c, 2, none⟩)) rfl (by kernel_rfl) (by kernel_rfl) (by kernel_rfl) (fun _ _ _ h => h) (Or.inl ⟨by kernel_rfl, ?ymk_12⟩) hHeld ?rmk_12
            case ymk_12 =>
              intro w hSw
              try dsimp only at hSw
              obtain ⟨zd, cd, fd⟩ := hSw
              go_simp
              try with_reducible rfl
            try simp only [Act.put, List.getElem_toArray, List.getElem_cons_zero, List.getElem_cons_succ, List.setIfInBounds_toArray, List.set_cons_zero, List.set_cons_succ]
            refine wpAnyH_ready (rs := [10, 13]) (by kernel_rfl) (by simp) ?_
            refine AllReadyH.cons (o := _) rfl (fun K hK => ?_) ?_
            · go_simp
              try dsimp only
              refine hK.out _ _ (by repeat (with_reducible (first | assumption | (apply Blk.at; simp; done) | apply Blk.alloc | apply Blk.drew | apply Blk.drewN | apply Blk.more | apply Blk.put | (apply Blk.far; focus (first | assumption | (apply Ne.symm; assumption) | (simp; done) | (simp <;> omega)))))) (fun hHeld => ?_)
              clear hK K
              try simp only [Act.put, List.getElem_toArray, List.getElem_cons_zero, List.getElem_cons_succ, List.setIfInBounds_toArray, List.set_cons_zero, List.set_cons_succ]
              refine wpAnyH_ready (rs := [13]) (by kernel_rfl) (by simp) ?_
              refine AllReadyH.cons (o := _) rfl (fun K hK => ?_) AllReadyH.nil
              go_simp
              try dsimp only
              refine hK.out _ _ (by repeat (with_reducible (first | assumption | (apply Blk.at; simp; done) | apply Blk.alloc | apply Blk.drew | apply Blk.drewN | apply Blk.more | apply Blk.put | (apply Blk.far; focus (first | assumption | (apply Ne.symm; assumption) | (simp; done) | (simp <;> omega)))))) (fun hHeld => ?_)
              clear hK K
              try simp only [Act.put, List.getElem_toArray, List.getElem_cons_zero, List.getElem_cons_succ, List.setIfInBounds_toArray, List.set_cons_zero, List.set_cons_succ]
              refine wpAnyH_take (i := 14) (v := .pointer (some ⟨c, 0, none⟩)) rfl (by kernel_rfl) (by kernel_rfl) (by kernel_rfl) (fun _ _ _ h => h) (Or.inl ⟨by kernel_rfl, ?yma_14⟩) hHeld ?rma_14
              case yma_14 =>
                intro w hSw
                try dsimp only at hSw
                obtain ⟨zd, cd, fd⟩ := hSw
                go_simp
                try with_reducible rfl
              try simp only [Act.put, List.getElem_toArray, List.getElem_cons_zero, List.getElem_cons_succ, List.setIfInBounds_toArray, List.set_cons_zero, List.set_cons_succ]
              refine wpAnyH_take (i := 15) (v := .pointer (some ⟨c, 3, none⟩)) rfl (by kernel_rfl) (by kernel_rfl) (by kernel_rfl) (fun _ _ _ h => h) (Or.inl ⟨by kernel_rfl, ?yma_15⟩) hHeld ?rma_15
              case yma_15 =>
                intro w hSw
                try dsimp only at hSw
                obtain ⟨zd, cd, fd⟩ := hSw
                go_simp
                try with_reducible rfl
              try simp only [Act.put, List.getElem_toArray, List.getElem_cons_zero, List.getElem_cons_succ, List.setIfInBounds_toArray, List.set_cons_zero, List.set_cons_succ]
              refine wpAnyH_ready (rs := [16]) (by kernel_rfl) (by simp) ?_
              refine AllReadyH.cons (o := _) rfl (fun K hK => ?_) AllReadyH.nil
              go_simp
              try dsimp only
              refine hK.out _ _ (by repeat (with_reducible (first | assumption | (apply Blk.at; simp; done) | apply Blk.alloc | apply Blk.drew | apply Blk.drewN | apply Blk.more | apply Blk.put | (apply Blk.far; focus (first | assumption | (apply Ne.symm; assumption) | (simp; done) | (simp <;> omega)))))) (fun hHeld => ?_)
              clear hK K
              try simp only [Act.put, List.getElem_toArray, List.getElem_cons_zero, List.getElem_cons_succ, List.setIfInBounds_toArray, List.set_cons_zero, List.set_cons_succ]
              refine wpAnyH_take (i := 17) (v := .pointer (some ⟨c, 0, none⟩)) rfl (by kernel_rfl) (by kernel_rfl) (by kernel_rfl) (fun _ _ _ h => h) (Or.inl ⟨by kernel_rfl, ?yma_17⟩) hHeld ?rma_17
              case yma_17 =>
                intro w hSw
                try dsimp only at hSw
                obtain ⟨zd, cd, fd⟩ := hSw
                go_simp
                try with_reducible rfl
              try simp only [Act.put, List.getElem_toArray, List.getElem_cons_zero, List.getElem_cons_succ, List.setIfInBounds_toArray, List.set_cons_zero, List.set_cons_succ]
              refine wpAnyH_take (i := 18) (v := .pointer (some ⟨c, 4, none⟩)) rfl (by kernel_rfl) (by kernel_rfl) (by kernel_rfl) (fun _ _ _ h => h) (Or.inl ⟨by kernel_rfl, ?yma_18⟩) hHeld ?rma_18
              case yma_18 =>
                intro w hSw
                try dsimp only at hSw
                obtain ⟨zd, cd, fd⟩ := hSw
                go_simp
                try with_reducible rfl
              try simp only [Act.put, List.getElem_toArray, List.getElem_cons_zero, List.getElem_cons_succ, List.setIfInBounds_toArray, List.set_cons_zero, List.set_cons_succ]
              refine wpAnyH_ready (rs := [19]) (by kernel_rfl) (by simp) ?_
              refine AllReadyH.cons (o := _) rfl (fun K hK => ?_) AllReadyH.nil
              go_simp
              try dsimp only
              refine hK.out _ _ (by repeat (with_reducible (first | assumption | (apply Blk.at; simp; done) | apply Blk.alloc | apply Blk.drew | apply Blk.drewN | apply Blk.more | apply Blk.put | (apply Blk.far; focus (first | assumption | (apply Ne.symm; assumption) | (simp; done) | (simp <;> omega)))))) (fun hHeld => ?_)
              clear hK K
              try simp only [Act.put, List.getElem_toArray, List.getElem_cons_zero, List.getElem_cons_succ, List.setIfInBounds_toArray, List.set_cons_zero, List.set_cons_succ]
              refine wpAnyH_take (i := 20) (v := .pointer (some ⟨c, 0, none⟩)) rfl (by kernel_rfl) (by kernel_rfl) (by kernel_rfl) (fun _ _ _ h => h) (Or.inl ⟨by kernel_rfl, ?yma_20⟩) hHeld ?rma_20
              case yma_20 =>
                intro w hSw
                try dsimp only at hSw
                obtain ⟨zd, cd, fd⟩ := hSw
                go_simp
                try with_reducible rfl
              try simp only [Act.put, List.getElem_toArray, List.getElem_cons_zero, List.getElem_cons_succ, List.setIfInBounds_toArray, List.set_cons_zero, List.set_cons_succ]
              refine wpAnyH_take (i := 21) (v := .pointer (some ⟨c, 5, none⟩)) rfl (by kernel_rfl) (by kernel_rfl) (by kernel_rfl) (fun _ _ _ h => h) (Or.inl ⟨by kernel_rfl, ?yma_21⟩) hHeld ?rma_21
              case yma_21 =>
                intro w hSw
                try dsimp only at hSw
                obtain ⟨zd, cd, fd⟩ := hSw
                go_simp
                try with_reducible rfl
              try simp only [Act.put, List.getElem_toArray, List.getElem_cons_zero, List.getElem_cons_succ, List.setIfInBounds_toArray, List.set_cons_zero, List.set_cons_succ]
              refine wpAnyH_ready (rs := [22]) (by kernel_rfl) (by simp) ?_
              refine AllReadyH.cons (o := _) rfl (fun K hK => ?_) AllReadyH.nil
              go_simp
              try dsimp only
              refine hK.out _ _ (by repeat (with_reducible (first | assumption | (apply Blk.at; simp; done) | apply Blk.alloc | apply Blk.drew | apply Blk.drewN | apply Blk.more | apply Blk.put | (apply Blk.far; focus (first | assumption | (apply Ne.symm; assumption) | (simp; done) | (simp <;> omega)))))) (fun hHeld => ?_)
              clear hK K
              try simp only [Act.put, List.getElem_toArray, List.getElem_cons_zero, List.getElem_cons_succ, List.setIfInBounds_toArray, List.set_cons_zero, List.set_cons_succ]
              refine wpAnyH_done (by kernel_rfl) ?_ _
              clear hHeld hmk
              try skip
              go_wp2
              go_meet
              refine ⟨w4.heap.size, Array.replicate p.ma (.slice none 0 0), p.ba, p.ma, 0, .inr HW4.out.size, ?_, ?_, by simp, Ne.symm hcp, hpd, ?_, ?_, ?_, ?_, fun _ => ⟨rfl, rfl⟩, .inl HKE.out, ?_, ?_, ?_, ?_⟩
              · refine Blk.as (cs := _) (by repeat (with_reducible (first | assumption | (apply Blk.at; simp; done) | apply Blk.alloc | apply Blk.drew | apply Blk.drewN | apply Blk.more | apply Blk.put | (apply Blk.far; focus (first | assumption | (apply Ne.symm; assumption) | (simp; done) | (simp <;> omega)))))) ?_
                simp only [List.setIfInBounds_toArray, List.set_cons_zero, List.set_cons_succ]
              · exact (by repeat (with_reducible (first | assumption | (apply Blk.at; simp; done) | apply Blk.alloc | apply Blk.drew | apply Blk.drewN | apply Blk.more | apply Blk.put | (apply Blk.far; focus (first | assumption | (apply Ne.symm; assumption) | (simp; done) | (simp <;> omega))))))
              · have := (HH.out.sl b HH.out.sb).1; have := HW4.out.size; omega
              · rw [HKE.out]
                intro i v hi
                rw [Array.getElem?_replicate] at hi
                split at hi
                · cases hi; rfl
                · cases hi
              · rw [HKE.out]; exact fun q hq => by simp at hq
              · rw [HKE.out]; rfl
              · exact (by repeat (with_reducible (first | assumption | (apply Blk.at; simp; done) | apply Blk.alloc | apply Blk.drew | apply Blk.drewN | apply Blk.more | apply Blk.put | (apply Blk.far; focus (first | assumption | (apply Ne.symm; assumption) | (simp; done) | (simp <;> omega))))))
              · refine (RbZ.mod (Z := fun x => x = c) (Z' := fun x => x = c) (S := fun x => x = c) (RbZ.of HA4.out (fun _ x n' c' e hz => by cases e; have := HSN.out _ rfl; have := HH.out.blk.lt; omega)) ?_ (fun x e => e) (fun x h => .inl h)).1
                repeat (with_reducible (first | exact Mod.refl _ _ | apply Mod.alloc | apply Mod.drew | (refine Mod.set ?_ (.inl rfl))))
              · refine (Mod.of_below HW4.out).trans ?_
                repeat (with_reducible (first | exact Mod.refl _ _ | apply Mod.alloc | apply Mod.drew | (refine Mod.set ?_ (.inl rfl))))
              · have := HW4.out.size
                simp
                omega
            refine AllReadyH.cons (o := _) rfl (fun K hK => ?_) AllReadyH.nil
            go_simp
            try dsimp only
            refine hK.out _ _ (by repeat (with_reducible (first | assumption | (apply Blk.at; simp; done) | apply Blk.alloc | apply Blk.drew | apply Blk.drewN | apply Blk.more | apply Blk.put | (apply Blk.far; focus (first | assumption | (apply Ne.symm; assumption) | (simp; done) | (simp <;> omega)))))) (fun hHeld => ?_)
            clear hK K
            try simp only [Act.put, List.getElem_toArray, List.getElem_cons_zero, List.getElem_cons_succ, List.setIfInBounds_toArray, List.set_cons_zero, List.set_cons_succ]
            refine wpAnyH_take (i := 14) (v := .pointer (some ⟨c, 0, none⟩)) rfl (by kernel_rfl) (by kernel_rfl) (by kernel_rfl) (fun _ _ _ h => h) (Or.inl ⟨by kernel_rfl, ?ymb_14⟩) hHeld ?rmb_14
            case ymb_14 =>
              intro w hSw
              try dsimp only at hSw
              obtain ⟨zd, cd, fd⟩ := hSw
              go_simp
              try with_reducible rfl
            try simp only [Act.put, List.getElem_toArray, List.getElem_cons_zero, List.getElem_cons_succ, List.setIfInBounds_toArray, List.set_cons_zero, List.set_cons_succ]
            refine wpAnyH_take (i := 15) (v := .pointer (some ⟨c, 3, none⟩)) rfl (by kernel_rfl) (by kernel_rfl) (by kernel_rfl) (fun _ _ _ h => h) (Or.inl ⟨by kernel_rfl, ?ymb_15⟩) hHeld ?rmb_15
            case ymb_15 =>
              intro w hSw
              try dsimp only at hSw
              obtain ⟨zd, cd, fd⟩ := hSw
              go_simp
              try with_reducible rfl
            try simp only [Act.put, List.getElem_toArray, List.getElem_cons_zero, List.getElem_cons_succ, List.setIfInBounds_toArray, List.set_cons_zero, List.set_cons_succ]
            refine wpAnyH_ready (rs := [10, 16]) (by kernel_rfl) (by simp) ?_
            refine AllReadyH.cons (o := _) rfl (fun K hK => ?_) ?_
            · go_simp
              try dsimp only
              refine hK.out _ _ (by repeat (with_reducible (first | assumption | (apply Blk.at; simp; done) | apply Blk.alloc | apply Blk.drew | apply Blk.drewN | apply Blk.more | apply Blk.put | (apply Blk.far; focus (first | assumption | (apply Ne.symm; assumption) | (simp; done) | (simp <;> omega)))))) (fun hHeld => ?_)
              clear hK K
              try simp only [Act.put, List.getElem_toArray, List.getElem_cons_zero, List.getElem_cons_succ, List.setIfInBounds_toArray, List.set_cons_zero, List.set_cons_succ]
              refine wpAnyH_ready (rs := [16]) (by kernel_rfl) (by simp) ?_
              refine AllReadyH.cons (o := _) rfl (fun K hK => ?_) AllReadyH.nil
              go_simp
              try dsimp only
              refine hK.out _ _ (by repeat (with_reducible (first | assumption | (apply Blk.at; simp; done) | apply Blk.alloc | apply Blk.drew | apply Blk.drewN | apply Blk.more | apply Blk.put | (apply Blk.far; focus (first | assumption | (apply Ne.symm; assumption) | (simp; done) | (simp <;> omega)))))) (fun hHeld => ?_)
              clear hK K
              try simp only [Act.put, List.getElem_toArray, List.getElem_cons_zero, List.getElem_cons_succ, List.setIfInBounds_toArray, List.set_cons_zero, List.set_cons_succ]
              refine wpAnyH_take (i := 17) (v := .pointer (some ⟨c, 0, none⟩)) rfl (by kernel_rfl) (by kernel_rfl) (by kernel_rfl) (fun _ _ _ h => h) (Or.inl ⟨by kernel_rfl, ?ymc_17⟩) hHeld ?rmc_17
              case ymc_17 =>
                intro w hSw
                try dsimp only at hSw
                obtain ⟨zd, cd, fd⟩ := hSw
                go_simp
                try with_reducible rfl
              try simp only [Act.put, List.getElem_toArray, List.getElem_cons_zero, List.getElem_cons_succ, List.setIfInBounds_toArray, List.set_cons_zero, List.set_cons_succ]
              refine wpAnyH_take (i := 18) (v := .pointer (some ⟨c, 4, none⟩)) rfl (by kernel_rfl) (by kernel_rfl) (by kernel_rfl) (fun _ _ _ h => h) (Or.inl ⟨by kernel_rfl, ?ymc_18⟩) hHeld ?rmc_18
              case ymc_18 =>
                intro w hSw
                try dsimp only at hSw
                obtain ⟨zd, cd, fd⟩ := hSw
                go_simp
                try with_reducible rfl
              try simp only [Act.put, List.getElem_toArray, List.getElem_cons_zero, List.getElem_cons_succ, List.setIfInBounds_toArray, List.set_cons_zero, List.set_cons_succ]
              refine wpAnyH_ready (rs := [19]) (by kernel_rfl) (by simp) ?_
              refine AllReadyH.cons (o := _) rfl (fun K hK => ?_) AllReadyH.nil
              go_simp
              try dsimp only
              refine hK.out _ _ (by repeat (with_reducible (first | assumption | (apply Blk.at; simp; done) | apply Blk.alloc | apply Blk.drew | apply Blk.drewN | apply Blk.more | apply Blk.put | (apply Blk.far; focus (first | assumption | (apply Ne.symm; assumption) | (simp; done) | (simp <;> omega)))))) (fun hHeld => ?_)
              clear hK K
              try simp only [Act.put, List.getElem_toArray, List.getElem_cons_zero, List.getElem_cons_succ, List.setIfInBounds_toArray, List.set_cons_zero, List.set_cons_succ]
              refine wpAnyH_take (i := 20) (v := .pointer (some ⟨c, 0, none⟩)) rfl (by kernel_rfl) (by kernel_rfl) (by kernel_rfl) (fun _ _ _ h => h) (Or.inl ⟨by kernel_rfl, ?ymc_20⟩) hHeld ?rmc_20
              case ymc_20 =>
                intro w hSw
                try dsimp only at hSw
                obtain ⟨zd, cd, fd⟩ := hSw
                go_simp
                try with_reducible rfl
              try simp only [Act.put, List.getElem_toArray, List.getElem_cons_zero, List.getElem_cons_succ, List.setIfInBounds_toArray, List.set_cons_zero, List.set_cons_succ]
              refine wpAnyH_take (i := 21) (v := .pointer (some ⟨c, 5, none⟩)) rfl (by kernel_rfl) (by kernel_rfl) (by kernel_rfl) (fun _ _ _ h => h) (Or.inl ⟨by kernel_rfl, ?ymc_21⟩) hHeld ?rmc_21
              case ymc_21 =>
                intro w hSw
                try dsimp only at hSw
                obtain ⟨zd, cd, fd⟩ := hSw
                go_simp
                try with_reducible rfl
              try simp only [Act.put, List.getElem_toArray, List.getElem_cons_zero, List.getElem_cons_succ, List.setIfInBounds_toArray, List.set_cons_zero, List.set_cons_succ]
              refine wpAnyH_ready (rs := [22]) (by kernel_rfl) (by simp) ?_
              refine AllReadyH.cons (o := _) rfl (fun K hK => ?_) AllReadyH.nil
              go_simp
              try dsimp only
              refine hK.out _ _ (by repeat (with_reducible (first | assumption | (apply Blk.at; simp; done) | apply Blk.alloc | apply Blk.drew | apply Blk.drewN | apply Blk.more | apply Blk.put | (apply Blk.far; focus (first | assumption | (apply Ne.symm; assumption) | (simp; done) | (simp <;> omega)))))) (fun hHeld => ?_)
              clear hK K
              try simp only [Act.put, List.getElem_toArray, List.getElem_cons_zero, List.getElem_cons_succ, List.setIfInBounds_toArray, List.set_cons_zero, List.set_cons_succ]
              refine wpAnyH_done (by kernel_rfl) ?_ _
              clear hHeld hmk
              try skip
              go_wp2
              go_meet
              refine ⟨w4.heap.size, Array.replicate p.ma (.slice none 0 0), p.ba, p.ma, 0, .inr HW4.out.size, ?_, ?_, by simp, Ne.symm hcp, hpd, ?_, ?_, ?_, ?_, fun _ => ⟨rfl, rfl⟩, .inl HKE.out, ?_, ?_, ?_, ?_⟩
              · refine Blk.as (cs := _) (by repeat (with_reducible (first | assumption | (apply Blk.at; simp; done) | apply Blk.alloc | apply Blk.drew | apply Blk.drewN | apply Blk.more | apply Blk.put | (apply Blk.far; focus (first | assumption | (apply Ne.symm; assumption) | (simp; done) | (simp <;> omega)))))) ?_
                simp only [List.setIfInBounds_toArray, List.set_cons_zero, List.set_cons_succ]
              · exact (by repeat (with_reducible (first | assumption | (apply Blk.at; simp; done) | apply Blk.alloc | apply Blk.drew | apply Blk.drewN | apply Blk.more | apply Blk.put | (apply Blk.far; focus (first | assumption | (apply Ne.symm; assumption) | (simp; done) | (simp <;> omega))))))
              · have := (HH.out.sl b HH.out.sb).1; have := HW4.out.size; omega
              · rw [HKE.out]
                intro i v hi
                rw [Array.getElem?_replicate] at hi
                split at hi
                · cases hi; rfl
                · cases hi
              · rw [HKE.out]; exact fun q hq => by simp at hq
              · rw [HKE.out]; rfl
              · exact (by repeat (with_reducible (first | assumption | (apply Blk.at; simp; done) | apply Blk.alloc | apply Blk.drew | apply Blk.drewN | apply Blk.more | apply Blk.put | (apply Blk.far; focus (first | assumption | (apply Ne.symm; assumption) | (simp; done) | (simp <;> omega))))))
              · refine (RbZ.mod (Z := fun x => x = c) (Z' := fun x => x = c) (S := fun x => x = c) (RbZ.of HA4.out (fun _ x n' c' e hz => by cases e; have := HSN.out _ rfl; have := HH.out.blk.lt; omega)) ?_ (fun x e => e) (fun x h => .inl h)).1
                repeat (with_reducible (first | exact Mod.refl _ _ | apply Mod.alloc | apply Mod.drew | (refine Mod.set ?_ (.inl rfl))))
              · refine (Mod.of_below HW4.out).trans ?_
                repeat (with_reducible (first | exact Mod.refl _ _ | apply Mod.alloc | apply Mod.drew | (refine Mod.set ?_ (.inl rfl))))
              · have := HW4.out.size
                simp
                omega
            refine AllReadyH.cons (o := _) rfl (fun K hK => ?_) AllReadyH.nil
            go_simp
            try dsimp only
            refine hK.out _ _ (by repeat (with_reducible (first | assumption | (apply Blk.at; simp; done) | apply Blk.alloc | apply Blk.drew | apply Blk.drewN | apply Blk.more | apply Blk.put | (apply Blk.far; focus (first | assumption | (apply Ne.symm; assumption) | (simp; done) | (simp <;> omega)))))) (fun hHeld => ?_)
            clear hK K
            try simp only [Act.put, List.getElem_toArray, List.getElem_cons_zero, List.getElem_cons_succ, List.setIfInBounds_toArray, List.set_cons_zero, List.set_cons_succ]
            refine wpAnyH_ready (rs := [10]) (by kernel_rfl) (by simp) ?_
            refine AllReadyH.cons (o := _) rfl (fun K hK => ?_) AllReadyH.nil
            go_simp
            try dsimp only
            refine hK.out _ _ (by repeat (with_reducible (first | assumption | (apply Blk.at; simp; done) | apply Blk.alloc | apply Blk.drew | apply Blk.drewN | apply Blk.more | apply Blk.put | (apply Blk.far; focus (first | assumption | (apply Ne.symm; assumption) | (simp; done) | (simp <;> omega)))))) (fun hHeld => ?_)
            clear hK K
            try simp only [Act.put, List.getElem_toArray, List.getElem_cons_zero, List.getElem_cons_succ, List.setIfInBounds_toArray, List.set_cons_zero, List.set_cons_succ]
            refine wpAnyH_take (i := 17) (v := .pointer (some ⟨c, 0, none⟩)) rfl (by kernel_rfl) (by kernel_rfl) (by kernel_rfl) (fun _ _ _ h => h) (Or.inl ⟨by kernel_rfl, ?ymd_17⟩) hHeld ?rmd_17
            case ymd_17 =>
              intro w hSw
              try dsimp only at hSw
              obtain ⟨zd, cd, fd⟩ := hSw
              go_simp
              try with_reducible rfl
            try simp only [Act.put, List.getElem_toArray, List.getElem_cons_zero, List.getElem_cons_succ, List.setIfInBounds_toArray, List.set_cons_zero, List.set_cons_succ]
            refine wpAnyH_take (i := 18) (v := .pointer (some ⟨c, 4, none⟩)) rfl (by kernel_rfl) (by kernel_rfl) (by kernel_rfl) (fun _ _ _ h => h) (Or.inl ⟨by kernel_rfl, ?ymd_18⟩) hHeld ?rmd_18
            case ymd_18 =>
              intro w hSw
              try dsimp only at hSw
              obtain ⟨zd, cd, fd⟩ := hSw
              go_simp
              try with_reducible rfl
            try simp only [Act.put, List.getElem_toArray, List.getElem_cons_zero, List.getElem_cons_succ, List.setIfInBounds_toArray, List.set_cons_zero, List.set_cons_succ]
            refine wpAnyH_ready (rs := [19]) (by kernel_rfl) (by simp) ?_
            refine AllReadyH.cons (o := _) rfl (fun K hK => ?_) AllReadyH.nil
            go_simp
            try dsimp only
            refine hK.out _ _ (by repeat (with_reducible (first | assumption | (apply Blk.at; simp; done) | apply Blk.alloc | apply Blk.drew | apply Blk.drewN | apply Blk.more | apply Blk.put | (apply Blk.far; focus (first | assumption | (apply Ne.symm; assumption) | (simp; done) | (simp <;> omega)))))) (fun hHeld => ?_)
            clear hK K
            try simp only [Act.put, List.getElem_toArray, List.getElem_cons_zero, List.getElem_cons_succ, List.setIfInBounds_toArray, List.set_cons_zero, List.set_cons_succ]
            refine wpAnyH_take (i := 20) (v := .pointer (some ⟨c, 0, none⟩)) rfl (by kernel_rfl) (by kernel_rfl) (by kernel_rfl) (fun _ _ _ h => h) (Or.inl ⟨by kernel_rfl, ?ymd_20⟩) hHeld ?rmd_20
            case ymd_20 =>
              intro w hSw
              try dsimp only at hSw
              obtain ⟨zd, cd, fd⟩ := hSw
              go_simp
              try with_reducible rfl
            try simp only [Act.put, List.getElem_toArray, List.getElem_cons_zero, List.getElem_cons_succ, List.setIfInBounds_toArray, List.set_cons_zero, List.set_cons_succ]
            refine wpAnyH_take (i := 21) (v := .pointer (some ⟨c, 5, none⟩)) rfl (by kernel_rfl) (by kernel_rfl) (by kernel_rfl) (fun _ _ _ h => h) (Or.inl ⟨by kernel_rfl, ?ymd_21⟩) hHeld ?rmd_21
            case ymd_21 =>
              intro w hSw
              try dsimp only at hSw
              obtain ⟨zd, cd, fd⟩ := hSw
              go_simp
              try with_reducible rfl
            try simp only [Act.put, List.getElem_toArray, List.getElem_cons_zero, List.getElem_cons_succ, List.setIfInBounds_toArray, List.set_cons_zero, List.set_cons_succ]
            refine wpAnyH_ready (rs := [22]) (by kernel_rfl) (by simp) ?_
            refine AllReadyH.cons (o := _) rfl (fun K hK => ?_) AllReadyH.nil
            go_simp
            try dsimp only
            refine hK.out _ _ (by repeat (with_reducible (first | assumption | (apply Blk.at; simp; done) | apply Blk.alloc | apply Blk.drew | apply Blk.drewN | apply Blk.more | apply Blk.put | (apply Blk.far; focus (first | assumption | (apply Ne.symm; assumption) | (simp; done) | (simp <;> omega)))))) (fun hHeld => ?_)
            clear hK K
            try simp only [Act.put, List.getElem_toArray, List.getElem_cons_zero, List.getElem_cons_succ, List.setIfInBounds_toArray, List.set_cons_zero, List.set_cons_succ]
            refine wpAnyH_done (by kernel_rfl) ?_ _
            clear hHeld hmk
            try skip
            go_wp2
            go_meet
            refine ⟨w4.heap.size, Array.replicate p.ma (.slice none 0 0), p.ba, p.ma, 0, .inr HW4.out.size, ?_, ?_, by simp, Ne.symm hcp, hpd, ?_, ?_, ?_, ?_, fun _ => ⟨rfl, rfl⟩, .inl HKE.out, ?_, ?_, ?_, ?_⟩
            · refine Blk.as (cs := _) (by repeat (with_reducible (first | assumption | (apply Blk.at; simp; done) | apply Blk.alloc | apply Blk.drew | apply Blk.drewN | apply Blk.more | apply Blk.put | (apply Blk.far; focus (first | assumption | (apply Ne.symm; assumption) | (simp; done) | (simp <;> omega)))))) ?_
              simp only [List.setIfInBounds_toArray, List.set_cons_zero, List.set_cons_succ]
            · exact (by repeat (with_reducible (first | assumption | (apply Blk.at; simp; done) | apply Blk.alloc | apply Blk.drew | apply Blk.drewN | apply Blk.more | apply Blk.put | (apply Blk.far; focus (first | assumption | (apply Ne.symm; assumption) | (simp; done) | (simp <;> omega))))))
            · have := (HH.out.sl b HH.out.sb).1; have := HW4.out.size; omega
            · rw [HKE.out]
              intro i v hi
              rw [Array.getElem?_replicate] at hi
              split at hi
              · cases hi; rfl
              · cases hi
            · rw [HKE.out]; exact fun q hq => by simp at hq
            · rw [HKE.out]; rfl
            · exact (by repeat (with_reducible (first | assumption | (apply Blk.at; simp; done) | apply Blk.alloc | apply Blk.drew | apply Blk.drewN | apply Blk.more | apply Blk.put | (apply Blk.far; focus (first | assumption | (apply Ne.symm; assumption) | (simp; done) | (simp <;> omega))))))
            · refine (RbZ.mod (Z := fun x => x = c) (Z' := fun x => x = c) (S := fun x => x = c) (RbZ.of HA4.out (fun _ x n' c' e hz => by cases e; have := HSN.out _ rfl; have := HH.out.blk.lt; omega)) ?_ (fun x e => e) (fun x h => .inl h)).1
              repeat (with_reducible (first | exact Mod.refl _ _ | apply Mod.alloc | apply Mod.drew | (refine Mod.set ?_ (.inl rfl))))
            · refine (Mod.of_below HW4.out).trans ?_
              repeat (with_reducible (first | exact Mod.refl _ _ | apply Mod.alloc | apply Mod.drew | (refine Mod.set ?_ (.inl rfl))))
            · have := HW4.out.size
              simp
              omega
          · have d3 : decide (st < (p.st : Int)) = false := decide_eq_false h3
            try rw [d3]
            have HKE : Hid (kept s.got p = s.got) := Lib.hid (by rw [HH.out.gat.kept p, if_neg h3])
            have hst : st = p.st := by omega
            rcases HH.out.gat with ⟨_, h0, _⟩ | ⟨g0, g1, g2, pb, vs, rfl, g4, g5, g6, g7, g8⟩
            · omega
            · have HG8 := Lib.hid g8
              have HG1 := Lib.hid g1
              have hpl := (HH.out.sl pb g4).1
              have hdw := HDW.out
              clear g8 g1
              go_wp2
              go_meet
              refine ⟨pb, vs, ba, ma, hv, .inl g4, ?_, g6.below HW4.out, g7, g5, by omega, ?_, ?_, ?_, ?_, ?_, .inr ⟨HKE.out, g0, g4⟩, HP4.out, HA4.out, Mod.of_below HW4.out, HW4.out.size⟩
              · rw [← hst]; exact HB4.out
              · obtain ⟨F, hF, _⟩ := HH.out.vm
                cases hgot : s.got with
                | nil => exact absurd hgot g0
                | cons q0 t0 =>
                  have h1 := (HG1.out q0 (by rw [hgot]; simp)).2.2
                  have h2 := (HOK.out.pcs q0 (by rw [hgot]; simp)).1.2.2.2.1
                  exact blk_ne_map g6 (by omega) hF
              · rw [HKE.out]
                exact fun i v hi => (HG8.out i v hi).mod (T := fun _ => False) (Mod.of_below HW4.out) (fun _ e => e.elim) (fun x h => .inl h)
              · rw [HKE.out]
                exact fun q hq => by have := HG1.out q hq; exact ⟨by omega, this.2⟩
              · rw [HKE.out]; exact g2
              · rw [HKE.out]; exact fun h => absurd h g0
        case rest =>
          obtain ⟨pb, vs, ba', ma', hv', hpS, C5, B5, hsz, hpc, hpd, hpb, hpcs, hall, hhv, hnil, hkp, D5, hsr, hM5, hW5⟩ := hcut
          obtain ⟨w5, hw5⟩ : ∃ w5, w5 = wc := ⟨_, rfl⟩
          rw [← hw5] at C5 B5 hpcs D5 hsr hM5 hW5
          rw [← hw5]
          have HC5 := Lib.hid C5
          have HB5 := Lib.hid B5
          have HD5 := Lib.hid D5
          have HPS := Lib.hid hpS
          have HPC := Lib.hid hpcs
          have HALL := Lib.hid hall
          have HNIL := Lib.hid hnil
          have HKP := Lib.hid hkp
          have HSR := Lib.hid hsr
          have HM5 := Lib.hid hM5
          have HHV := Lib.hid hhv
          have HSZ := Lib.hid hsz
          have HW5 := Lib.hid hW5
          obtain ⟨g, hg⟩ : ∃ g, g = kept s.got p := ⟨_, rfl⟩
          rw [← hg] at HPC HALL HNIL HKP HHV
          have HG := Lib.hid hg
          clear hw5 hpS hpcs hall hnil hkp hsr hM5 hhv hsz hW5 hg HP4 HB4 HA4 HW4 zd cd fd zc cc fc h2 d2
          obtain ⟨zd, cd, fd⟩ := id D5
          obtain ⟨zc, cc, fc⟩ := id C5
          obtain ⟨zb, cb, fb⟩ := id B5
          clear C5 B5 D5
          have hix := HOP.out.1.2.2.2.2.2.1
          have HUN : Hid (unfit g p = decide ((p.ba : Int) ≠ ba' ∨ p.ma ≠ ma' ∨ pieceAt g p.ix ≠ none)) := Lib.hid (unfit_eq HALL.out HNIL.out)
          by_cases e1 : (p.ba : Int) = ba'
          · by_cases e2 : p.ma = ma'
            · have d1' : ((p.ba : Int) != ba') = false := by simpa using e1
              have d2' : ((p.ma : Int) != (ma' : Int)) = false := by simp; omega
              obtain ⟨pv, hpv⟩ : ∃ pv, vs[p.ix]? = some pv := ⟨_, Array.getElem?_eq_getElem (by have := HSZ.out; omega)⟩
              have hp0 : w5.cell? ⟨pb, p.ix, none⟩ = some pv := by rw [cb, hpv]
              have hpa := HPC.out _ _ hpv
              have HPV := Lib.hid hpv
              cases hpp : pieceAt g p.ix with
              | some l0 =>
                rw [hpp] at hpa
                obtain ⟨a0, c0, rfl⟩ := hpa.2
                have hneq := fun w t e a n c n' c' h => run_neq_slice_nil_any (P := Try.prog) w t e a n c n' c' h
                have HU : Hid (unfit g p = true) := Lib.hid (by rw [HUN.out]; exact decide_eq_true (.inr (.inr (by rw [hpp]; simp))))
                have HF : Hid (s.feed p = (false, s)) := Lib.hid (by unfold AS.feed; rw [if_neg HN1.out, ← HG.out, if_pos HU.out])
                have HK2 : Hid (g = s.got ∧ s.got ≠ [] ∧ S pb) := Lib.hid (HKP.out.resolve_left (fun e => by have h := HU.out; rw [e] at h; simp [unfit] at h))
                have hmc := more_cell
                go_wp2_with fail
                refine region_quiet_all (by kernel_rfl) (by kernel_rfl) ?_
                repeat (go_big_quiet_step (fail))
                refine wpQuiet_nil ?_
                rintro w6 hw6
                have hb6 := after_below hw6
                have HM6 : Hid (Mod (fun x => x = c) w w6) := Lib.hid (HM5.out.below hb6)
                have HC6 := Lib.hid (HC5.out.below hb6)
                have HG6 : Hid (GatP S (fun x => S x ∨ X x) w6 c s.got p.st ba' (some ⟨pb, 0, none⟩) ma' hv') := Lib.hid (.inr ⟨HK2.out.2.1, fun q hq => HALL.out q (by rw [HK2.out.1]; exact hq), by rw [HHV.out, HK2.out.1], pb, vs, rfl, HK2.out.2.2, hpc, HB5.out.below hb6, HSZ.out, fun i v hi => by have h := HPC.out i v hi; rw [HK2.out.1] at h; exact h.mod (T := fun _ => False) (Mod.of_below hb6) (fun _ e => e.elim) (fun x h => .inl h)⟩)
                clear hw6 hb6 hmc zd cd fd zc cc fc zb cb fb
                go_wp2
                go_ret
                exact FeedPost.mk ⟨(false, s), .inr ⟨p, HT.out, HF.out.symm⟩, rfl, ⟨S, b, n, p.st, ba', some ⟨pb, 0, none⟩, ma', hv', HH.out.build (s' := s) rfl (fun x h => h) (fun x h => .inl h) (fun x h => Nat.lt_of_lt_of_le (HH.out.sl x h).1 HM6.out.size) HM6.out (fun x e => .inl (e ▸ HH.out.sc)) (fun e => HH.out.ne e.symm) HC6.out HG6.out |>.more (by omega), fun x hx => .inl hx⟩, HM6.out.mono (fun x _ e => e ▸ HH.out.sc)⟩
              | none =>
                rw [hpp] at hpa
                obtain rfl : pv = .slice none 0 0 := hpa
                have HPP := Lib.hid hpp
                have hneq := fun w t e a n c n' c' h => run_neq_slice_nil_any (P := Try.prog) w t e a n c n' c' h
                have HU : Hid (¬ unfit g p = true) := Lib.hid (by rw [HUN.out]; simp [e1, e2, hpp])
                have hmc := more_cell
                go_wp2_with fail
                refine region_quiet_all (by kernel_rfl) (by kernel_rfl) ?_
                repeat (go_big_quiet_step (fail))
                refine wpQuiet_nil ?_
                rintro w6 hw6
                have hb6 := after_below hw6
                have HM6 : Hid (Mod (fun x => x = c) w w6) := Lib.hid (HM5.out.below hb6)
                have HC6 := Lib.hid (HC5.out.below hb6)
                have HD6 := Lib.hid (HD5.out.below hb6)
                have HB6 := Lib.hid (HB5.out.below hb6)
                have HSR6 := Lib.hid (HSR.out.below hb6)
                have HPC6 : Hid (∀ (i : Nat) (v : Value), vs[i]? = some v → PcAt (fun x => S x ∨ X x) w6 v (pieceAt g i)) := Lib.hid (fun i v hi => (HPC.out i v hi).mod (T := fun _ => False) (Mod.of_below hb6) (fun _ e => e.elim) (fun x h => .inl h))
                clear hw6 hb6 hmc hneq zd cd fd zc cc fc zb cb fb hp0
                go_upto_region 8 with fail
                have hd0 : Below w6.heap.size w6 w6.drew := ext_drew (Below.refl _ _)
                have P0 := HD6.out.below hd0
                have C0 := HC6.out.below hd0
                have HP0 := Lib.hid P0
                have HC0 := Lib.hid C0
                refine region_held_tail (fun w' => Blk w' c #[.map (some b), .int .i64 s.newest, .int .i64 p.st, .int .i64 ba', .slice (some ⟨pb, 0, none⟩) ma' ma', .int .i64 hv'] ∧ Blk w' d #[.int .i64 p.st, .int .i64 p.ba, .int .i64 p.ix, .int .i64 p.ma, .slice A p.l.length cp]) 11 (by kernel_rfl) (by kernel_rfl) ⟨C0, P0⟩ (fun hHeld => ?_)
                clear P0 C0
                simp only [List.take_succ_cons, List.take_zero]
                refine wpAnyH_take (i := 0) (v := .pointer (some ⟨c, 0, none⟩)) rfl (by kernel_rfl) (by kernel_rfl) (by kernel_rfl) (fun _ _ _ h => h) (Or.inl ⟨by kernel_rfl, ?yst_0⟩) hHeld ?rst_0
                case yst_0 =>
                  intro w hSw
                  try dsimp only at hSw
                  obtain ⟨⟨z1, c1, f1⟩, ⟨z2, c2, f2⟩⟩ := hSw
                  go_simp
                  try with_reducible rfl
                try simp only [Act.put, List.getElem_toArray, List.getElem_cons_zero, List.setIfInBounds_toArray, List.set_cons_zero, List.set_cons_succ]
                refine wpAnyH_take (i := 1) (v := .pointer (some ⟨c, 0, none⟩)) rfl (by kernel_rfl) (by kernel_rfl) (by kernel_rfl) (fun _ _ _ h => h) (Or.inl ⟨by kernel_rfl, ?yst_1⟩) hHeld ?rst_1
                case yst_1 =>
                  intro w hSw
                  try dsimp only at hSw
                  obtain ⟨⟨z1, c1, f1⟩, ⟨z2, c2, f2⟩⟩ := hSw
                  go_simp
                  try with_reducible rfl
                try simp only [Act.put, List.getElem_toArray, List.getElem_cons_zero, List.getElem_cons_succ, List.setIfInBounds_toArray, List.set_cons_zero, List.set_cons_succ]
                refine wpAnyH_take (i := 2) (v := .pointer (some ⟨c, 4, none⟩)) rfl (by kernel_rfl) (by kernel_rfl) (by kernel_rfl) (fun _ _ _ h => h) (Or.inl ⟨by kernel_rfl, ?yst_2⟩) hHeld ?rst_2
                case yst_2 =>
                  intro w hSw
                  try dsimp only at hSw
                  obtain ⟨⟨z1, c1, f1⟩, ⟨z2, c2, f2⟩⟩ := hSw
                  go_simp
                  try with_reducible rfl
                try simp only [Act.put, List.getElem_toArray, List.getElem_cons_zero, List.getElem_cons_succ, List.setIfInBounds_toArray, List.set_cons_zero, List.set_cons_succ]
                refine wpAnyH_take (i := 3) (v := .slice (some ⟨pb, 0, none⟩) ma' ma') rfl (by kernel_rfl) (by kernel_rfl) (by kernel_rfl) (fun _ _ _ h => h) (Or.inl ⟨by kernel_rfl, ?yst_3⟩) hHeld ?rst_3
                case yst_3 =>
                  intro w hSw
                  try dsimp only at hSw
                  obtain ⟨⟨z1, c1, f1⟩, ⟨z2, c2, f2⟩⟩ := hSw
                  go_simp
                  try with_reducible rfl
                try simp only [Act.put, List.getElem_toArray, List.getElem_cons_zero, List.getElem_cons_succ, List.setIfInBounds_toArray, List.set_cons_zero, List.set_cons_succ]
                refine wpAnyH_take (i := 4) (v := .pointer (some ⟨d, 2, none⟩)) rfl (by kernel_rfl) (by kernel_rfl) (by kernel_rfl) (fun _ _ _ h => h) (Or.inl ⟨by kernel_rfl, ?yst_4⟩) hHeld ?rst_4
                case yst_4 =>
                  intro w hSw
                  try dsimp only at hSw
                  obtain ⟨⟨z1, c1, f1⟩, ⟨z2, c2, f2⟩⟩ := hSw
                  go_simp
                  try with_reducible rfl
                try simp only [Act.put, List.getElem_toArray, List.getElem_cons_zero, List.getElem_cons_succ, List.setIfInBounds_toArray, List.set_cons_zero, List.set_cons_succ]
                refine wpAnyH_take (i := 5) (v := .int .i64 p.ix) rfl (by kernel_rfl) (by kernel_rfl) (by kernel_rfl) (fun _ _ _ h => h) (Or.inl ⟨by kernel_rfl, ?yst_5⟩) hHeld ?rst_5
                case yst_5 =>
                  intro w hSw
                  try dsimp only at hSw
                  obtain ⟨⟨z1, c1, f1⟩, ⟨z2, c2, f2⟩⟩ := hSw
                  go_simp
                  try with_reducible rfl
                try simp only [Act.put, List.getElem_toArray, List.getElem_cons_zero, List.getElem_cons_succ, List.setIfInBounds_toArray, List.set_cons_zero, List.set_cons_succ]
                refine wpAnyH_take (i := 7) (v := .pointer (some ⟨d, 4, none⟩)) rfl (by kernel_rfl) (by kernel_rfl) (by kernel_rfl) (fun _ _ _ h => h) (Or.inl ⟨by kernel_rfl, ?yst_7⟩) hHeld ?rst_7
                case yst_7 =>
                  intro w hSw
                  try dsimp only at hSw
                  obtain ⟨⟨z1, c1, f1⟩, ⟨z2, c2, f2⟩⟩ := hSw
                  go_simp
                  try with_reducible rfl
                try simp only [Act.put, List.getElem_toArray, List.getElem_cons_zero, List.getElem_cons_succ, List.setIfInBounds_toArray, List.set_cons_zero, List.set_cons_succ]
                refine wpAnyH_take (i := 8) (v := .slice A p.l.length cp) rfl (by kernel_rfl) (by kernel_rfl) (by kernel_rfl) (fun _ _ _ h => h) (Or.inl ⟨by kernel_rfl, ?yst_8⟩) hHeld ?rst_8
                case yst_8 =>
                  intro w hSw
                  try dsimp only at hSw
                  obtain ⟨⟨z1, c1, f1⟩, ⟨z2, c2, f2⟩⟩ := hSw
                  go_simp
                  try with_reducible rfl
                try simp only [Act.put, List.getElem_toArray, List.getElem_cons_zero, List.getElem_cons_succ, List.setIfInBounds_toArray, List.set_cons_zero, List.set_cons_succ]
                refine wpAnyH_ready (rs := [6]) (by kernel_rfl) (by simp) ?_
                refine AllReadyH.cons (o := _) rfl (fun K hK => ?_) AllReadyH.nil
                go_simp
                try dsimp only
                refine hK.out _ _ ⟨HC0.out.below (balloc _ _), HP0.out.below (balloc _ _)⟩ (fun hHeld => ?_)
                clear hK K
                refine any_fresh ?_ hHeld
                clear hHeld
                rintro w7 hb7 hHeld
                have hv7 : Below w6.heap.size w6 w7 := (by repeat (with_reducible (first | exact Below.refl _ _ | assumption | apply ext_drew | apply ext_drewN | apply ext_alloc | apply ext_more | (refine ext_setCell ?_ (by first | assumption | (simp <;> omega)) _) | (refine ext_below ?_ (by assumption)))))
                have own7 : w7.ownsRow w6.heap.size 5 1 (.slice (some ⟨w6.heap.size, 0, none⟩) 0 0) ([] : List Nat).length (u8s []) := row_below (own_empty (w := w6.drew) 5 1) hb7
                have hsr7 := HSR6.out.below hv7
                have hsz7 := hv7.size
                have hpl7 := HOP.out.1.2.2.2.2.2.2
                clear hb7
                try simp only [Act.put, List.getElem_toArray, List.getElem_cons_zero, List.getElem_cons_succ, List.setIfInBounds_toArray, List.set_cons_zero, List.set_cons_succ]
                refine wpAnyH_ready (rs := [9]) (by kernel_rfl) (by simp) ?_
                refine AllReadyH.cons (o := _) rfl (fun K hK => ?_) AllReadyH.nil
                refine step_src rfl (.tmp 92) (.tmp 94) rfl w6.heap.size _ [] rfl own7 rfl hsr7 (by simp; omega) hsz7 ?_
                intro v8 w8 own8 mod8 nn8
                rw [List.nil_append] at own8
                have hv8 : Below w6.heap.size w6 w8 := hv7.trans (mod8.toBelow hsz7 (fun b hb e => by have e' : w6.heap.size = b := Option.some.inj e; omega))
                refine hK.out _ _ ⟨HC6.out.below hv8, HD6.out.below hv8⟩ (fun hHeld => ?_)
                clear hK K
                try simp only [Act.put, List.getElem_toArray, List.getElem_cons_zero, List.getElem_cons_succ, List.setIfInBounds_toArray, List.set_cons_zero, List.set_cons_succ]
                have hixm : p.ix < ma' := by omega
                refine wpAnyH_take (i := 10) (v := .pointer (some ⟨pb, p.ix, none⟩)) rfl (by kernel_rfl) (by kernel_rfl) (by kernel_rfl) (fun _ _ _ h => h) (Or.inl ⟨by kernel_rfl, ?yst_10⟩) hHeld ?rst_10
                case yst_10 =>
                  intro w hSw
                  try dsimp only at hSw
                  obtain ⟨⟨z1, c1, f1⟩, ⟨z2, c2, f2⟩⟩ := hSw
                  go_simp
                  try with_reducible rfl
                try simp only [Act.put, List.getElem_toArray, List.getElem_cons_zero, List.getElem_cons_succ, List.setIfInBounds_toArray, List.set_cons_zero, List.set_cons_succ]

                refine wpAnyH_done (by kernel_rfl) ?_ _
                clear hHeld
                simp only [TailQ, List.drop_succ_cons, List.drop_zero]
                have hhv := HHV.out
                subst hhv
                have hB8 := HB6.out.below hv8
                obtain ⟨zb, cb, fb⟩ := id hB8
                have hp8 : w8.cell? ⟨pb, p.ix, none⟩ = some (.slice none 0 0) := by rw [cb, HPV.out]
                obtain ⟨a8, cp8, rfl, hge8⟩ := row_someV own8 (fun e => by cases nn8 e)
                have OWN8 := Lib.hid own8
                have HGE8 := Lib.hid hge8
                have HV8 := Lib.hid hv8
                have HB8 := Lib.hid hB8
                have hcp9 : c ≠ pb := Ne.symm hpc
                have hdp9 : d ≠ pb := Ne.symm hpd
                clear own7 hsr7 hv7 hsz7 own8 mod8 hv8 hB8 hd0 nn8 hge8
                go_upto_region 9 with fail
                refine wp_fresh ?_
                rintro w9 hb9
                have b8 := HB8.out
                have C8 := HC6.out.below HV8.out
                have D8 := HD6.out.below HV8.out
                have k9 : Mod (· = pb) w8 w9 := Mod.below ((Mod.refl (· = pb) w8).set (.inl rfl)) hb9
                have B9 : Blk w9 pb _ := Blk.below (by repeat (with_reducible (first | assumption | (apply Blk.at; simp; done) | apply Blk.alloc | apply Blk.drew | apply Blk.drewN | apply Blk.more | apply Blk.put | (apply Blk.far; focus (first | assumption | (apply Ne.symm; assumption) | (simp; done) | (simp <;> omega)))))) hb9
                have C9 : Blk w9 c _ := C8.mod k9 hcp9
                have D9 : Blk w9 d _ := D8.mod k9 hdp9
                clear hb9 b8 C8 D8 zb cb fb hp8
                have HB9 := Lib.hid B9
                have HC9 := Lib.hid C9
                have HD9 := Lib.hid D9
                have HK9 := Lib.hid k9
                clear B9 k9
                obtain ⟨zc, cc, fc⟩ := id C9
                obtain ⟨zd, cd, fd⟩ := id D9
                clear C9 D9
                go_upto_region 10 with fail
                refine wp_fresh ?_
                rintro w10 hb10
                have k10 : Mod (· = c) w9 w10 := Mod.below ((Mod.refl (· = c) w9).set (.inl rfl)) hb10
                have c9 := HC9.out
                have C10 : Blk w10 c _ := Blk.below (by repeat (with_reducible (first | assumption | (apply Blk.at; simp; done) | apply Blk.alloc | apply Blk.drew | apply Blk.drewN | apply Blk.more | apply Blk.put | (apply Blk.far; focus (first | assumption | (apply Ne.symm; assumption) | (simp; done) | (simp <;> omega)))))) hb10
                try simp only [List.setIfInBounds_toArray, List.set_cons_zero, List.set_cons_succ] at C10
                have D10 := HD9.out.mod k10 (Ne.symm (by have := HDW.out; have := HH.out.blk.lt; omega))
                have B10 := HB9.out.mod k10 hpc
                clear hb10 c9
                have hgl : g.length ≤ 40 := by rw [HG.out]; exact kept_len HOK.out p
                rw [IntWalk.wrap64_in _ (by omega)] at C10
                have k68 : Mod (fun x => x = c ∨ x = pb) w6 w8 := Mod.of_below HV8.out
                have k69 : Mod (fun x => x = c ∨ x = pb) w6 w9 := k68.trans (HK9.out.mono (fun _ _ e => .inr e))
                have k610 : Mod (fun x => x = c ∨ x = pb) w6 w10 := k69.trans (k10.mono (fun _ _ e => .inl e))
                have HM10 := Lib.hid k610
                have HC10 := Lib.hid C10
                have HB10 := Lib.hid B10
                have K10 := Lib.hid k10
                clear k10 k68 k69 k610 zc cc fc zd cd fd B10
                obtain ⟨zc, cc, fc⟩ := id C10
                obtain ⟨zd, cd, fd⟩ := id D10
                clear C10 D10
                have hmc := more_cell
                refine region_quiet_all (by kernel_rfl) (by kernel_rfl) ?_
                repeat (go_big_quiet_step (fail))
                refine wpQuiet_nil ?_
                rintro w11 hw11
                have hb11 := after_below hw11
                have HM11 : Hid (Mod (fun x => x = c ∨ x = pb) w6 w11) := Lib.hid (HM10.out.below hb11)
                have HC11 := Lib.hid (HC10.out.below hb11)
                have HB11 := Lib.hid (HB10.out.below hb11)
                have HW6 : Hid (Mod (fun x => x = c ∨ x = pb) w w6) := Lib.hid (HM6.out.mono (fun _ _ e => .inl e))
                have HWM : Hid (Mod (fun x => x = c ∨ x = pb) w w11) := Lib.hid (HW6.out.trans HM11.out)
                have HLT : Hid (∀ x, (S x ∨ x = pb) ∨ X x → x < w6.heap.size) := Lib.hid (fun x e => by
                  have hs := HW6.out.size
                  rcases e with (e | e) | e
                  · have := (HH.out.sl x e).1; omega
                  · rw [e]; exact HB6.out.lt
                  · have := HH.out.xl x e; omega)
                have HR8 : Hid (RbZ (fun x => (S x ∨ x = pb) ∨ X x) w11 (.slice (some a8) p.l.length cp8) p.l) := Lib.hid (by
                  have h0 : RbZ (fun x => (S x ∨ x = pb) ∨ X x) w8 (.slice (some a8) p.l.length cp8) p.l := RbZ.of (src_of_rowF OWN8.out) (fun _ x n' c' e hz => by
                    cases e
                    have h1 := HLT.out _ hz
                    have h2 := HGE8.out
                    omega)
                  have hk : Mod (fun x => x = c ∨ x = pb) w8 w11 := ((HK9.out.mono (fun _ _ e => .inr e)).trans (K10.out.mono (fun _ _ e => .inl e))).below hb11
                  exact h0.mod hk (fun x e => .inl (e.elim (fun e => .inl (e ▸ HH.out.sc)) .inr)) (fun x h => .inl h))
                have HGP : Hid (GatP (fun x => S x ∨ x = pb) (fun x => (S x ∨ x = pb) ∨ X x) w11 c (g ++ [p]) p.st ba' (some ⟨pb, 0, none⟩) ma' ((g.length : Int) + 1)) := Lib.hid (GatP.put HPC6.out (HKP.out.imp_right (fun h => h.2.2)) HPP.out HSZ.out HM11.out HH.out.sc HR8.out ⟨_, _, rfl⟩ HALL.out ⟨rfl, e1, e2⟩ hpc HB11.out)
                have HFD : Hid (s.feed p = if (g ++ [p]).length < p.ma then (false, { s with got := g ++ [p] }) else AS.whole { s with got := g ++ [p] } p) := Lib.hid (by unfold AS.feed; rw [if_neg HN1.out, ← HG.out, if_neg HU.out])
                have HTB : Hid (¬ (b = c ∨ b = pb)) := Lib.hid (fun e => e.elim (fun e => HH.out.ne e.symm) (fun e => hpb e.symm))
                have HBU : Hid (CR w11 c (m + 1) { s with got := g ++ [p] } (fun x => S x ∨ x = pb) X b n p.st ba' (some ⟨pb, 0, none⟩) ma' ((g.length : Int) + 1)) := Lib.hid (HH.out.build (s' := { s with got := g ++ [p] }) rfl (fun x h => .inl h) (fun x h => h.elim .inl (fun e => e ▸ HPS.out)) (fun x h => Nat.lt_of_lt_of_le (HLT.out x (.inl h)) HM11.out.size) HWM.out (fun x e => e.elim (fun e => .inl (e ▸ HH.out.sc)) (fun e => e ▸ HPS.out)) HTB.out HC11.out HGP.out)
                have HSM : Hid (Mod S w w11) := Lib.hid (HWM.out.trans (Mod.refl _ _) |> (fun k => ⟨k.os, k.tape, k.output, k.size, fun b hb hs => k.block b hb (fun e => hs (e.elim (fun e => e ▸ HH.out.sc) (fun e => (e ▸ HPS.out : S b ∨ w.heap.size ≤ b).elim id (fun h => by omega))))⟩))
                have HNS : Hid (∀ x, (S x ∨ x = pb) → S x ∨ w.heap.size ≤ x) := Lib.hid (fun x h => h.elim .inl (fun e => e ▸ HPS.out))
                clear hw11 hb11 zc cc fc zd cd fd hmc
                by_cases hmore : g.length + 1 < p.ma
                · have HW : Hid (s.feed p = (false, { s with got := g ++ [p] })) := Lib.hid (by rw [HFD.out, if_pos (by simpa using hmore)])
                  have dm : decide (g.length + 1 < p.ma) = true := decide_eq_true hmore
                  have dm' : decide ((g.length : Int) + 1 < (p.ma : Int)) = true := decide_eq_true (by omega)
                  have dm2 : decide ((g.length : Int) + 1 < (ma' : Int)) = true := decide_eq_true (by omega)
                  clear hmore
                  rw [dm2]
                  go_wp2
                  go_ret
                  exact FeedPost.mk ⟨(false, { s with got := g ++ [p] }), .inr ⟨p, HT.out, HW.out.symm⟩, rfl, ⟨_, b, n, p.st, ba', some ⟨pb, 0, none⟩, ma', _, HBU.out.more (by omega), HNS.out⟩, HSM.out⟩
                · have HGA : Hid (Gath g p) := Lib.hid (by rw [HG.out]; exact gath HOK.out HOP.out (fun e => HN1.out (.inr e)) (by rw [← HG.out]; exact HU.out))
                  have HAL : Hid (∀ i, i < ma' → pieceAt (g ++ [p]) i ≠ none) := Lib.hid (by rw [← e2]; exact HGA.out.all (by simpa using hmore))
                  have HW : Hid (s.feed p = AS.whole { s with got := g ++ [p] } p) := Lib.hid (by rw [HFD.out, if_neg (by simpa using hmore)])
                  have dm : decide (g.length + 1 < p.ma) = false := decide_eq_false hmore
                  have dm' : decide ((g.length : Int) + 1 < (p.ma : Int)) = false := decide_eq_false (by omega)
                  have dm2 : decide ((g.length : Int) + 1 < (ma' : Int)) = false := decide_eq_false (by omega)
                  clear hmore
                  rw [dm2]
                  go_wp2_with fail
                  refine (cwhole_c w11 c (m + 1) b n { s with got := g ++ [p] } (fun x => S x ∨ x = pb) X p.st ba' ((g.length : Int) + 1) (some ⟨pb, 0, none⟩) ma' HBU.out p HOP.out (by omega) (by simp) rfl e1.symm e2.symm HGA.out.pcs HAL.out HOK.out.views).mono ?_
                  rintro e w12 ⟨rfl, ⟨n', ba'', hv'', hC⟩, hM⟩
                  have HCC := Lib.hid hC
                  have HCM := Lib.hid hM
                  clear hC hM
                  go_wp2
                  go_ret
                  refine FeedPost.mk ⟨AS.whole { s with got := g ++ [p] } p, .inr ⟨p, HT.out, HW.out.symm⟩, rfl, ⟨_, b, n', 0, ba'', none, 0, hv'', HCC.out, HNS.out⟩, ?_⟩
                  have k := HSM.out
                  have k' := HCM.out
                  exact ⟨k'.os.trans k.os, k'.tape.trans k.tape, k'.output.trans k.output, Nat.le_trans k.size k'.size, fun x hx hs => (k'.block x (Nat.lt_of_lt_of_le hx k.size) (fun e => hs ((HNS.out x e).elim id (fun h => by omega)))).trans (k.block x hx hs)⟩
            · have d1' : ((p.ba : Int) != ba') = false := by simpa using e1
              have d2' : ((p.ma : Int) != (ma' : Int)) = true := by simp; omega
              have HU : Hid (unfit g p = true) := Lib.hid (by rw [HUN.out]; exact decide_eq_true (.inr (.inl e2)))
              have HF : Hid (s.feed p = (false, s)) := Lib.hid (by unfold AS.feed; rw [if_neg HN1.out, ← HG.out, if_pos HU.out])
              have HK2 : Hid (g = s.got ∧ s.got ≠ [] ∧ S pb) := Lib.hid (HKP.out.resolve_left (fun e => by have h := HU.out; rw [e] at h; simp [unfit] at h))
              have hmc := more_cell
              go_wp2_with fail
              refine region_quiet_all (by kernel_rfl) (by kernel_rfl) ?_
              repeat (go_big_quiet_step (fail))
              refine wpQuiet_nil ?_
              rintro w6 hw6
              have hb6 := after_below hw6
              have HM6 : Hid (Mod (fun x => x = c) w w6) := Lib.hid (HM5.out.below hb6)
              have HC6 := Lib.hid (HC5.out.below hb6)
              have HG6 : Hid (GatP S (fun x => S x ∨ X x) w6 c s.got p.st ba' (some ⟨pb, 0, none⟩) ma' hv') := Lib.hid (.inr ⟨HK2.out.2.1, fun q hq => HALL.out q (by rw [HK2.out.1]; exact hq), by rw [HHV.out, HK2.out.1], pb, vs, rfl, HK2.out.2.2, hpc, HB5.out.below hb6, HSZ.out, fun i v hi => by have h := HPC.out i v hi; rw [HK2.out.1] at h; exact h.mod (T := fun _ => False) (Mod.of_below hb6) (fun _ e => e.elim) (fun x h => .inl h)⟩)
              clear hw6 hb6 hmc zd cd fd zc cc fc zb cb fb
              go_wp2
              go_ret
              exact FeedPost.mk ⟨(false, s), .inr ⟨p, HT.out, HF.out.symm⟩, rfl, ⟨S, b, n, p.st, ba', some ⟨pb, 0, none⟩, ma', hv', HH.out.build (s' := s) rfl (fun x h => h) (fun x h => .inl h) (fun x h => Nat.lt_of_lt_of_le (HH.out.sl x h).1 HM6.out.size) HM6.out (fun x e => .inl (e ▸ HH.out.sc)) (fun e => HH.out.ne e.symm) HC6.out HG6.out |>.more (by omega), fun x hx => .inl hx⟩, HM6.out.mono (fun x _ e => e ▸ HH.out.sc)⟩
          · have d1' : ((p.ba : Int) != ba') = true := by simpa using e1
            have HU : Hid (unfit g p = true) := Lib.hid (by rw [HUN.out]; exact decide_eq_true (.inl e1))
            have HF : Hid (s.feed p = (false, s)) := Lib.hid (by unfold AS.feed; rw [if_neg HN1.out, ← HG.out, if_pos HU.out])
            have HK2 : Hid (g = s.got ∧ s.got ≠ [] ∧ S pb) := Lib.hid (HKP.out.resolve_left (fun e => by have h := HU.out; rw [e] at h; simp [unfit] at h))
            have hmc := more_cell
            go_wp2_with fail
            refine region_quiet_all (by kernel_rfl) (by kernel_rfl) ?_
            repeat (go_big_quiet_step (fail))
            refine wpQuiet_nil ?_
            rintro w6 hw6
            have hb6 := after_below hw6
            have HM6 : Hid (Mod (fun x => x = c) w w6) := Lib.hid (HM5.out.below hb6)
            have HC6 := Lib.hid (HC5.out.below hb6)
            have HG6 : Hid (GatP S (fun x => S x ∨ X x) w6 c s.got p.st ba' (some ⟨pb, 0, none⟩) ma' hv') := Lib.hid (.inr ⟨HK2.out.2.1, fun q hq => HALL.out q (by rw [HK2.out.1]; exact hq), by rw [HHV.out, HK2.out.1], pb, vs, rfl, HK2.out.2.2, hpc, HB5.out.below hb6, HSZ.out, fun i v hi => by have h := HPC.out i v hi; rw [HK2.out.1] at h; exact h.mod (T := fun _ => False) (Mod.of_below hb6) (fun _ e => e.elim) (fun x h => .inl h)⟩)
            clear hw6 hb6 hmc zd cd fd zc cc fc zb cb fb
            go_wp2
            go_ret
            exact FeedPost.mk ⟨(false, s), .inr ⟨p, HT.out, HF.out.symm⟩, rfl, ⟨S, b, n, p.st, ba', some ⟨pb, 0, none⟩, ma', hv', HH.out.build (s' := s) rfl (fun x h => h) (fun x h => .inl h) (fun x h => Nat.lt_of_lt_of_le (HH.out.sl x h).1 HM6.out.size) HM6.out (fun x e => .inl (e ▸ HH.out.sc)) (fun e => HH.out.ne e.symm) HC6.out HG6.out |>.more (by omega), fun x hx => .inl hx⟩, HM6.out.mono (fun x _ e => e ▸ HH.out.sc)⟩
  · have HN := Lib.hid hN
    clear hN
    go_upto_region 2 with fail
    refine wp_fresh ?_
    rintro w2 hb2
    have hv2 : Below w1.heap.size w1 w2 := (by repeat (with_reducible (first | exact Below.refl _ _ | assumption | apply ext_drew | apply ext_drewN | apply ext_alloc | apply ext_more | (refine ext_setCell ?_ (by first | assumption | (simp <;> omega)) _) | (refine ext_below ?_ (by assumption)))))
    have HW2 : Hid (Below w.heap.size w w2) := Lib.hid (HW1.out.trans (hv2.mono HW1.out.size))
    clear hb2 hv2
    go_wp2_with fail
    refine region_quiet_all (by kernel_rfl) (by kernel_rfl) ?_
    repeat (go_big_quiet_step (fail))
    refine wpQuiet_nil ?_
    rintro w3 hw3
    have HW3 : Hid (Below w.heap.size w w3) := Lib.hid (HW2.out.trans ((after_below hw3).mono HW2.out.size))
    clear hw3
    go_wp2
    go_ret
    exact FeedPost.mk ⟨(false, s), .inl ⟨HN.out, rfl⟩, rfl, ⟨S, b, n, st, ba, PA, ma, hv, (HH.out.belowC HW3.out).more (by omega), fun x hx => .inl hx⟩, Mod.of_below HW3.out⟩
end Go.Proofs.Ytefhmbmbhiehdaa
