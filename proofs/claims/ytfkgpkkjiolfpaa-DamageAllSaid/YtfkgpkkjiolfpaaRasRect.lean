/- Package raster: a command's rectangle. -/
import Derived.Test.YtfkgpkkjiolfpaaRas1
namespace Go.Proofs.Ytfkgpkkjiolfpaa.Ras
open Go.RowKit Go.Lib Go.Proofs.Ytfkgpkkjiolfpaa.Blk Go.Proofs.Ytfkgpkkjiolfpaa.Rgn Go.Proofs.Ytfkgpkkjiolfpaa.Pl Go.Proofs.Ytfkgpkkjiolfpaa.Fx Go.Proofs.Ytfkgpkkjiolfpaa.Fnt Go.Proofs.YtfkgpkkjiolfpaaW.PrintWords Go.Proofs.YtfkgpkkjiolfpaaW.PrintLast Go.Proofs.YtfkgpkkjiolfpaaW.PrintMore
set_option linter.unusedVariables false
set_option linter.unusedSimpArgs false
attribute [local go_sem] mx2 mn2 mx_two mn_two mx_three mn_three

set_option maxRecDepth 100000 in
set_option maxHeartbeats 1000000 in
theorem rect_c (c : Cm) (w : World) : Calls Try.prog 86 #[.agg (cmV c).toArray] w fun e w' => e = .returned (.agg (lrV (rectR c)).toArray) ∧ Below w.heap.size w w' := by
  obtain ⟨a0, a1, a2, a3, a4, a5, a6, a7, a8⟩ := c
  have hr : rectR ⟨a0, a1, a2, a3, a4, a5, a6, a7, a8⟩ = ⟨cut a2, cut a3, cut a4, cut a5⟩ := rfl
  rw [hr]
  clear hr
  unfold lrV cmV
  go_enter Try.func86, Try.ntmps86
  go_wp2_with fail
  have k0 : ((w.alloc (.cells #[.int .i64 a0, .int .i64 a1, .int .i64 a2, .int .i64 a3, .int .i64 a4, .int .i64 a5, .int .i64 a6, .int .i64 a7, .string a8] 65)).alloc (.cells #[.int .i64 0, .int .i64 0, .int .i64 0, .int .i64 0] 59)).heap[w.heap.size]? = some (.cells #[.int .i64 a0, .int .i64 a1, .int .i64 a2, .int .i64 a3, .int .i64 a4, .int .i64 a5, .int .i64 a6, .int .i64 a7, .string a8] 65 (0, 0)) := blk_alloc (blk_new w _) _
  have k1 : ((w.alloc (.cells #[.int .i64 a0, .int .i64 a1, .int .i64 a2, .int .i64 a3, .int .i64 a4, .int .i64 a5, .int .i64 a6, .int .i64 a7, .string a8] 65)).alloc (.cells #[.int .i64 0, .int .i64 0, .int .i64 0, .int .i64 0] 59)).heap[w.heap.size + 1]? = some (.cells #[.int .i64 0, .int .i64 0, .int .i64 0, .int .i64 0] 59 (0, 0)) := by
    have := blk_new (w.alloc (.cells #[.int .i64 a0, .int .i64 a1, .int .i64 a2, .int .i64 a3, .int .i64 a4, .int .i64 a5, .int .i64 a6, .int .i64 a7, .string a8] 65)) (.cells #[.int .i64 0, .int .i64 0, .int .i64 0, .int .i64 0] 59)
    rwa [World.size_alloc] at this
  have hB : Below w.heap.size w ((w.alloc (.cells #[.int .i64 a0, .int .i64 a1, .int .i64 a2, .int .i64 a3, .int .i64 a4, .int .i64 a5, .int .i64 a6, .int .i64 a7, .string a8] 65)).alloc (.cells #[.int .i64 0, .int .i64 0, .int .i64 0, .int .i64 0] 59)) := below_alloc (below_alloc (Below.refl _ _) _) _
  generalize (w.alloc (.cells #[.int .i64 a0, .int .i64 a1, .int .i64 a2, .int .i64 a3, .int .i64 a4, .int .i64 a5, .int .i64 a6, .int .i64 a7, .string a8] 65)).alloc (.cells #[.int .i64 0, .int .i64 0, .int .i64 0, .int .i64 0] 59) = W at *
  refine wp_region_still_tail 13 (by kernel_rfl) (by kernel_rfl) ?_
  simp only [List.take_succ_cons, List.take_zero, List.drop_succ_cons, List.drop_zero]
  change wpStill _ _ (World.drew W) (fun a' => wpList _ _ _ _ a' (World.drew W)) _ _
  have hB2 : Below w.heap.size w W.drew := hB.drew
  have K1 : Hid (W.drew.heap[w.heap.size + 1]? = some (.cells #[.int .i64 0, .int .i64 0, .int .i64 0, .int .i64 0] 59 (0, 0))) := Lib.hid k1
  have y2 : W.drew.cell? ⟨w.heap.size, 2, none⟩ = some (.int .i64 a2) := blk_cell k0 2
  have y3 : W.drew.cell? ⟨w.heap.size, 3, none⟩ = some (.int .i64 a3) := blk_cell k0 3
  have y4 : W.drew.cell? ⟨w.heap.size, 4, none⟩ = some (.int .i64 a4) := blk_cell k0 4
  have y5 : W.drew.cell? ⟨w.heap.size, 5, none⟩ = some (.int .i64 a5) := blk_cell k0 5
  generalize W.drew = w2 at *
  have CUT : Hid (∀ n : Int, Calls Try.prog 22 #[.int .i64 n] w2 fun e w'' => e = .returned (.int .i64 (cut n)) ∧ w'' = w2) := Lib.hid (fun n => (Cut_c n w2).mono fun e w' h => ⟨h.1, h.2.symm⟩)
  have HB2 := Lib.hid hB2
  clear hB2 hB k0 k1
  still_step
  still_step
  still_call (CUT.out _)
  still_step
  still_step
  still_call (CUT.out _)
  still_step
  still_step
  still_call (CUT.out _)
  still_step
  still_step
  still_call (CUT.out _)
  still_step
  refine wpStill_nil ?_
  clear y2 y3 y4 y5 CUT
  have z0 := blk_cell K1.out 0
  have z1 := blk_cell K1.out 1
  have z2 := blk_cell K1.out 2
  have z3 := blk_cell K1.out 3
  have f0 := blk_frozen K1.out 0
  have f1 := blk_frozen K1.out 1
  have f2 := blk_frozen K1.out 2
  have f3 := blk_frozen K1.out 3
  go_wp2
  have h4 := blk_set (blk_set (blk_set (blk_set K1.out 0 (.int .i64 (cut a2))) 1 (.int .i64 (cut a3))) 2 (.int .i64 (cut a4))) 3 (.int .i64 (cut a5))
  refine bodyPost_ret (results_cell_row rfl _ _ (w.heap.size + 1) 59 _ (0, 0) _ rfl h4 Try.underlying59 rfl (by kernel_rfl)) rfl ⟨rfl, ?_⟩
  have hle : w.heap.size ≤ w.heap.size + 1 := by omega
  exact (((HB2.out.setCell (p := ⟨w.heap.size + 1, 0, none⟩) hle _).setCell (p := ⟨w.heap.size + 1, 1, none⟩) hle _).setCell (p := ⟨w.heap.size + 1, 2, none⟩) hle _).setCell (p := ⟨w.heap.size + 1, 3, none⟩) hle _
end Go.Proofs.Ytfkgpkkjiolfpaa.Ras
