/- Package raster: what two rectangles share. -/
import Derived.Test.YtfkgpkkjiolfpaaRas1
namespace Go.Proofs.Ytfkgpkkjiolfpaa.Ras
open Go.RowKit Go.Lib Go.Proofs.Ytfkgpkkjiolfpaa.Blk Go.Proofs.Ytfkgpkkjiolfpaa.Rgn Go.Proofs.Ytfkgpkkjiolfpaa.Pl Go.Proofs.Ytfkgpkkjiolfpaa.Fx Go.Proofs.Ytfkgpkkjiolfpaa.Fnt Go.Proofs.YtfkgpkkjiolfpaaW.PrintWords Go.Proofs.YtfkgpkkjiolfpaaW.PrintLast Go.Proofs.YtfkgpkkjiolfpaaW.PrintMore
set_option linter.unusedVariables false
set_option linter.unusedSimpArgs false
attribute [local go_sem] mx2 mn2 mx_two mn_two mx_three mn_three


set_option maxHeartbeats 2000000 in
theorem meet_c (a b : LR) (w : World) (ha : GoodR a) (hb : CutR b) :
    Calls Try.prog 85 #[.agg (lrV a).toArray, .agg (lrV b).toArray] w fun e w' => e = .returned (.agg (lrV (meetR a b)).toArray) ∧ Below w.heap.size w w' := by
  obtain ⟨a0, a1, a2, a3⟩ := a
  obtain ⟨b0, b1, b2, b3⟩ := b
  obtain ⟨g0, g1, g2, g3⟩ := ha
  obtain ⟨q0, q1, q2, q3⟩ := hb
  simp only at g0 g1 g2 g3 q0 q1 q2 q3
  have hm : meetR ⟨a0, a1, a2, a3⟩ ⟨b0, b1, b2, b3⟩ = if min (a0 + a2) (b0 + b2) - max a0 b0 ≤ 0 ∨ min (a1 + a3) (b1 + b3) - max a1 b1 ≤ 0 then ⟨0, 0, 0, 0⟩ else ⟨max a0 b0, max a1 b1, min (a0 + a2) (b0 + b2) - max a0 b0, min (a1 + a3) (b1 + b3) - max a1 b1⟩ := rfl
  rw [hm]
  clear hm
  obtain ⟨W, eW, hB, hsz, k0, k1, k2⟩ := blk_three w (.cells #[.int .i64 a0, .int .i64 a1, .int .i64 a2, .int .i64 a3] 59) (.cells #[.int .i64 b0, .int .i64 b1, .int .i64 b2, .int .i64 b3] 59) (.cells #[.int .i64 0, .int .i64 0, .int .i64 0, .int .i64 0] 59)
  have EW := Lib.hid eW
  have HB := Lib.hid hB
  have B0 := Lib.hid k0
  have B1 := Lib.hid k1
  have B2 := Lib.hid k2
  clear eW hB hsz k0 k1 k2
  by_cases c1 : min (a0 + a2) (b0 + b2) - max a0 b0 ≤ 0
  · have n1 : decide (min (a0 + a2) (b0 + b2) - max a0 b0 ≤ 0) = true := decide_eq_true c1
    rw [if_pos (.inl c1)]
    clear c1
    unfold lrV
    go_enter Try.func85, Try.ntmps85
    go_wp2_with fail
    rw [EW.out]
    have y0 : W.cell? ⟨w.heap.size, 0, none⟩ = some (.int .i64 a0) := blk_cell B0.out 0
    have y1 : W.cell? ⟨w.heap.size, 1, none⟩ = some (.int .i64 a1) := blk_cell B0.out 1
    have y2 : W.cell? ⟨w.heap.size, 2, none⟩ = some (.int .i64 a2) := blk_cell B0.out 2
    have y3 : W.cell? ⟨w.heap.size, 3, none⟩ = some (.int .i64 a3) := blk_cell B0.out 3
    have y4 : W.cell? ⟨w.heap.size + 1, 0, none⟩ = some (.int .i64 b0) := blk_cell B1.out 0
    have y5 : W.cell? ⟨w.heap.size + 1, 1, none⟩ = some (.int .i64 b1) := blk_cell B1.out 1
    have y6 : W.cell? ⟨w.heap.size + 1, 2, none⟩ = some (.int .i64 b2) := blk_cell B1.out 2
    have y7 : W.cell? ⟨w.heap.size + 1, 3, none⟩ = some (.int .i64 b3) := blk_cell B1.out 3
    go_quiet (fail)
    go_wp2_with fail
    go_quiet (fail)
    clear y0 y1 y2 y3 y4 y5 y6 y7
    have hb2 : W.heap[w.heap.size + 1 + 1]? = some (.cells #[.int .i64 0, .int .i64 0, .int .i64 0, .int .i64 0] 59 (0, 0)) := B2.out
    have z0 : W.cell? ⟨w.heap.size + 1 + 1, 0, none⟩ = some (.int .i64 0) := blk_cell hb2 0
    have z1 : W.cell? ⟨w.heap.size + 1 + 1, 1, none⟩ = some (.int .i64 0) := blk_cell hb2 1
    have z2 : W.cell? ⟨w.heap.size + 1 + 1, 2, none⟩ = some (.int .i64 0) := blk_cell hb2 2
    have z3 : W.cell? ⟨w.heap.size + 1 + 1, 3, none⟩ = some (.int .i64 0) := blk_cell hb2 3
    have f0 := blk_frozen hb2 0
    have f1 := blk_frozen hb2 1
    have f2 := blk_frozen hb2 2
    have f3 := blk_frozen hb2 3
    have HK : Hid (∀ n, (W.drewN n).heap[w.heap.size + 1 + 1]? = some (.cells #[.int .i64 0, .int .i64 0, .int .i64 0, .int .i64 0] 59 (0, 0))) := Lib.hid fun n => hb2
    clear hb2
    go_wp2
    refine bodyPost_ret (results_cell_row rfl _ _ (w.heap.size + 1 + 1) 59 _ (0, 0) _ rfl (blk_set (blk_set (blk_set (blk_set (HK.out _) 0 _) 1 _) 2 _) 3 _) Try.underlying59 rfl (by kernel_rfl)) rfl ⟨rfl, ?_⟩
    have hle : w.heap.size ≤ w.heap.size + 1 + 1 := by omega
    exact ((((pw_below_drewN HB.out _).setCell (p := ⟨w.heap.size + 1 + 1, 0, none⟩) hle _).setCell (p := ⟨w.heap.size + 1 + 1, 1, none⟩) hle _).setCell (p := ⟨w.heap.size + 1 + 1, 2, none⟩) hle _).setCell (p := ⟨w.heap.size + 1 + 1, 3, none⟩) hle _
  · have n1 : decide (min (a0 + a2) (b0 + b2) - max a0 b0 ≤ 0) = false := decide_eq_false c1
    by_cases c2 : min (a1 + a3) (b1 + b3) - max a1 b1 ≤ 0
    · have n2 : decide (min (a1 + a3) (b1 + b3) - max a1 b1 ≤ 0) = true := decide_eq_true c2
      rw [if_pos (.inr c2)]
      clear c1 c2
      unfold lrV
      go_enter Try.func85, Try.ntmps85
      go_wp2_with fail
      rw [EW.out]
      have y0 : W.cell? ⟨w.heap.size, 0, none⟩ = some (.int .i64 a0) := blk_cell B0.out 0
      have y1 : W.cell? ⟨w.heap.size, 1, none⟩ = some (.int .i64 a1) := blk_cell B0.out 1
      have y2 : W.cell? ⟨w.heap.size, 2, none⟩ = some (.int .i64 a2) := blk_cell B0.out 2
      have y3 : W.cell? ⟨w.heap.size, 3, none⟩ = some (.int .i64 a3) := blk_cell B0.out 3
      have y4 : W.cell? ⟨w.heap.size + 1, 0, none⟩ = some (.int .i64 b0) := blk_cell B1.out 0
      have y5 : W.cell? ⟨w.heap.size + 1, 1, none⟩ = some (.int .i64 b1) := blk_cell B1.out 1
      have y6 : W.cell? ⟨w.heap.size + 1, 2, none⟩ = some (.int .i64 b2) := blk_cell B1.out 2
      have y7 : W.cell? ⟨w.heap.size + 1, 3, none⟩ = some (.int .i64 b3) := blk_cell B1.out 3
      go_quiet (fail)
      go_wp2_with fail
      go_quiet (fail)
      clear y0 y1 y2 y3 y4 y5 y6 y7
      have hb2 : W.heap[w.heap.size + 1 + 1]? = some (.cells #[.int .i64 0, .int .i64 0, .int .i64 0, .int .i64 0] 59 (0, 0)) := B2.out
      have z0 : W.cell? ⟨w.heap.size + 1 + 1, 0, none⟩ = some (.int .i64 0) := blk_cell hb2 0
      have z1 : W.cell? ⟨w.heap.size + 1 + 1, 1, none⟩ = some (.int .i64 0) := blk_cell hb2 1
      have z2 : W.cell? ⟨w.heap.size + 1 + 1, 2, none⟩ = some (.int .i64 0) := blk_cell hb2 2
      have z3 : W.cell? ⟨w.heap.size + 1 + 1, 3, none⟩ = some (.int .i64 0) := blk_cell hb2 3
      have f0 := blk_frozen hb2 0
      have f1 := blk_frozen hb2 1
      have f2 := blk_frozen hb2 2
      have f3 := blk_frozen hb2 3
      have HK : Hid (∀ n, (W.drewN n).heap[w.heap.size + 1 + 1]? = some (.cells #[.int .i64 0, .int .i64 0, .int .i64 0, .int .i64 0] 59 (0, 0))) := Lib.hid fun n => hb2
      clear hb2
      go_wp2
      refine bodyPost_ret (results_cell_row rfl _ _ (w.heap.size + 1 + 1) 59 _ (0, 0) _ rfl (blk_set (blk_set (blk_set (blk_set (HK.out _) 0 _) 1 _) 2 _) 3 _) Try.underlying59 rfl (by kernel_rfl)) rfl ⟨rfl, ?_⟩
      have hle : w.heap.size ≤ w.heap.size + 1 + 1 := by omega
      exact ((((pw_below_drewN HB.out _).setCell (p := ⟨w.heap.size + 1 + 1, 0, none⟩) hle _).setCell (p := ⟨w.heap.size + 1 + 1, 1, none⟩) hle _).setCell (p := ⟨w.heap.size + 1 + 1, 2, none⟩) hle _).setCell (p := ⟨w.heap.size + 1 + 1, 3, none⟩) hle _
    · have n2 : decide (min (a1 + a3) (b1 + b3) - max a1 b1 ≤ 0) = false := decide_eq_false c2
      rw [if_neg (by rintro (h | h); exact c1 h; exact c2 h)]
      clear c1 c2
      unfold lrV
      go_enter Try.func85, Try.ntmps85
      go_wp2_with fail
      rw [EW.out]
      have y0 : W.cell? ⟨w.heap.size, 0, none⟩ = some (.int .i64 a0) := blk_cell B0.out 0
      have y1 : W.cell? ⟨w.heap.size, 1, none⟩ = some (.int .i64 a1) := blk_cell B0.out 1
      have y2 : W.cell? ⟨w.heap.size, 2, none⟩ = some (.int .i64 a2) := blk_cell B0.out 2
      have y3 : W.cell? ⟨w.heap.size, 3, none⟩ = some (.int .i64 a3) := blk_cell B0.out 3
      have y4 : W.cell? ⟨w.heap.size + 1, 0, none⟩ = some (.int .i64 b0) := blk_cell B1.out 0
      have y5 : W.cell? ⟨w.heap.size + 1, 1, none⟩ = some (.int .i64 b1) := blk_cell B1.out 1
      have y6 : W.cell? ⟨w.heap.size + 1, 2, none⟩ = some (.int .i64 b2) := blk_cell B1.out 2
      have y7 : W.cell? ⟨w.heap.size + 1, 3, none⟩ = some (.int .i64 b3) := blk_cell B1.out 3
      go_quiet (fail)
      go_wp2_with fail
      go_quiet (fail)
      clear y0 y1 y2 y3 y4 y5 y6 y7
      have hb2 : W.heap[w.heap.size + 1 + 1]? = some (.cells #[.int .i64 0, .int .i64 0, .int .i64 0, .int .i64 0] 59 (0, 0)) := B2.out
      have z0 : W.cell? ⟨w.heap.size + 1 + 1, 0, none⟩ = some (.int .i64 0) := blk_cell hb2 0
      have z1 : W.cell? ⟨w.heap.size + 1 + 1, 1, none⟩ = some (.int .i64 0) := blk_cell hb2 1
      have z2 : W.cell? ⟨w.heap.size + 1 + 1, 2, none⟩ = some (.int .i64 0) := blk_cell hb2 2
      have z3 : W.cell? ⟨w.heap.size + 1 + 1, 3, none⟩ = some (.int .i64 0) := blk_cell hb2 3
      have f0 := blk_frozen hb2 0
      have f1 := blk_frozen hb2 1
      have f2 := blk_frozen hb2 2
      have f3 := blk_frozen hb2 3
      have HK : Hid (∀ n, (W.drewN n).heap[w.heap.size + 1 + 1]? = some (.cells #[.int .i64 0, .int .i64 0, .int .i64 0, .int .i64 0] 59 (0, 0))) := Lib.hid fun n => hb2
      clear hb2
      go_wp2
      refine bodyPost_ret (results_cell_row rfl _ _ (w.heap.size + 1 + 1) 59 _ (0, 0) _ rfl (blk_set (blk_set (blk_set (blk_set (HK.out _) 0 _) 1 _) 2 _) 3 _) Try.underlying59 rfl (by kernel_rfl)) rfl ⟨rfl, ?_⟩
      have hle : w.heap.size ≤ w.heap.size + 1 + 1 := by omega
      exact ((((pw_below_drewN HB.out _).setCell (p := ⟨w.heap.size + 1 + 1, 0, none⟩) hle _).setCell (p := ⟨w.heap.size + 1 + 1, 1, none⟩) hle _).setCell (p := ⟨w.heap.size + 1 + 1, 2, none⟩) hle _).setCell (p := ⟨w.heap.size + 1 + 1, 3, none⟩) hle _
end Go.Proofs.Ytfkgpkkjiolfpaa.Ras
