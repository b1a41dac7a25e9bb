/- The contracts of the document's units and bounds of vectors. Conditions: none. -/
import Derived.Test.YtefhmbmbhiehdaaVec2
namespace Go.Proofs.Ytefhmbmbhiehdaa
open Go.ChangeShapes Go.WideShapes Go.ChangeAt Go.RowKit Go.BigFrame

theorem rclamp_c (a1 a2 a3 k : Int) (hk : k ≤ 9223372036854775807) (w : World) : Calls Try.prog 17 #[.agg #[.int .i64 a1, .int .i64 a2, .int .i64 a3], .int .i64 k] w fun e w' => e = .returned (.agg #[.int .i64 (clamp k a1), .int .i64 (clamp k a2), .int .i64 (clamp k a3)]) ∧ Below w.heap.size w w' := by
  have hmc := more_cell
  have hmf := more_frozen
  have hml := more_lt
  by_cases h : k < 0
  · have Hm := Lib.hid (show max k 0 = 0 from by omega)
    have Hc := Lib.hid (show (0 : Int) ≤ 0 ∧ (0 : Int) ≤ 9223372036854775807 from by omega)
    go_enter Try.func17, Try.ntmps17
    go_wp2_with fail
    refine (each_c 46 #[.pointer (some ⟨w.heap.size + 1, 0, none⟩)] (fun x y => #[.int .i64 x, .int .i64 y, .pointer (some ⟨w.heap.size + 1, 0, none⟩)]) (fun x _ => clampP (0) x) a1 a2 a3 a1 a2 a3 _ (fun _ _ => rfl) (fun _ _ => by kernel_rfl) (fun x y W hW => ?_)).mono ?_
    · exact (rclampf_c (0) x y ⟨w.heap.size + 1, 0, none⟩ W Hc.out.1 Hc.out.2 (by rw [hW.cell (by simp)]; simp [go_sem, *])).mono fun e w' ⟨h1, h2⟩ => ⟨h1, 0, h2.symm⟩
    rintro e w1 ⟨rfl, hb1⟩
    have B1_0 : Blk w1 (w.heap.size + 1 + 1) #[.int .i64 0, .int .i64 0, .int .i64 0] := Blk.below (by repeat (first | assumption | exact Blk.at _ _ _ _ (by simp) | apply Blk.alloc | apply Blk.drew | apply Blk.drewN | apply Blk.more | (refine Blk.setCell ?_ _ _ (by simp <;> omega)))) hb1
    obtain ⟨z1_0, c1_0, f1_0⟩ := id B1_0
    go_wp2
    exact bodyPost_ret (v := .agg #[.int .i64 (clampP (0) a1), .int .i64 (clampP (0) a2), .int .i64 (clampP (0) a3)]) (by simp [results, Try.results17, go_sem, *]) rfl ⟨rv3 (by unfold clamp; rw [Hm.out]) (by unfold clamp; rw [Hm.out]) (by unfold clamp; rw [Hm.out]), (by repeat (first | exact Below.refl _ _ | assumption | apply ext_drew | (refine ext_below ?_ (by assumption)) | apply ext_drewN | apply ext_alloc | apply ext_more | (refine ext_setCell ?_ (by simp <;> omega) _)))⟩
  · have Hm := Lib.hid (show max k 0 = k from by omega)
    have Hc := Lib.hid (show (0 : Int) ≤ k ∧ (k : Int) ≤ 9223372036854775807 from by omega)
    go_enter Try.func17, Try.ntmps17
    go_wp2_with fail
    refine (each_c 46 #[.pointer (some ⟨w.heap.size + 1, 0, none⟩)] (fun x y => #[.int .i64 x, .int .i64 y, .pointer (some ⟨w.heap.size + 1, 0, none⟩)]) (fun x _ => clampP (k) x) a1 a2 a3 a1 a2 a3 _ (fun _ _ => rfl) (fun _ _ => by kernel_rfl) (fun x y W hW => ?_)).mono ?_
    · exact (rclampf_c (k) x y ⟨w.heap.size + 1, 0, none⟩ W Hc.out.1 Hc.out.2 (by rw [hW.cell (by simp)]; simp [go_sem, *])).mono fun e w' ⟨h1, h2⟩ => ⟨h1, 0, h2.symm⟩
    rintro e w1 ⟨rfl, hb1⟩
    have B1_0 : Blk w1 (w.heap.size + 1 + 1) #[.int .i64 0, .int .i64 0, .int .i64 0] := Blk.below (by repeat (first | assumption | exact Blk.at _ _ _ _ (by simp) | apply Blk.alloc | apply Blk.drew | apply Blk.drewN | apply Blk.more | (refine Blk.setCell ?_ _ _ (by simp <;> omega)))) hb1
    obtain ⟨z1_0, c1_0, f1_0⟩ := id B1_0
    go_wp2
    exact bodyPost_ret (v := .agg #[.int .i64 (clampP (k) a1), .int .i64 (clampP (k) a2), .int .i64 (clampP (k) a3)]) (by simp [results, Try.results17, go_sem, *]) rfl ⟨rv3 (by unfold clamp; rw [Hm.out]) (by unfold clamp; rw [Hm.out]) (by unfold clamp; rw [Hm.out]), (by repeat (first | exact Below.refl _ _ | assumption | apply ext_drew | (refine ext_below ?_ (by assumption)) | apply ext_drewN | apply ext_alloc | apply ext_more | (refine ext_setCell ?_ (by simp <;> omega) _)))⟩

end Go.Proofs.Ytefhmbmbhiehdaa
