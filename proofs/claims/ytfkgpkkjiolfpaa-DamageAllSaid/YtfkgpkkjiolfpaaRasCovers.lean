/- Package raster: does a command cover a place? -/
import Derived.Test.YtfkgpkkjiolfpaaRasGlyph
namespace Go.Proofs.Ytfkgpkkjiolfpaa.Ras
open Go.RowKit Go.Lib Go.Proofs.Ytfkgpkkjiolfpaa.Blk Go.Proofs.Ytfkgpkkjiolfpaa.Rgn Go.Proofs.Ytfkgpkkjiolfpaa.Pl Go.Proofs.Ytfkgpkkjiolfpaa.Fx Go.Proofs.Ytfkgpkkjiolfpaa.Fnt Go.Proofs.YtfkgpkkjiolfpaaW.PrintWords Go.Proofs.YtfkgpkkjiolfpaaW.PrintLast Go.Proofs.YtfkgpkkjiolfpaaW.PrintMore
set_option linter.unusedVariables false
set_option linter.unusedSimpArgs false
attribute [local go_sem] mx2 mn2 mx_two mn_two mx_three mn_three

def ldV (d : LD) : List Value := [.int .i64 d.f0.f0, .int .i64 d.f0.f1, .int .i64 d.f0.f2, .int .i64 d.f0.f3, .int .i64 d.f0.f4, .int .i64 d.f0.f5, .int .i64 d.f0.f6, .int .i64 d.f0.f7, .string d.f0.f8, .int .i64 d.f1.f0, .int .i64 d.f1.f1, .int .i64 d.f1.f2, .int .i64 d.f1.f3, .int .i64 d.f2]
def CovPost (d : LD) (x y : Int) (w : World) (e : Ending) (w' : World) : Prop := e = .returned (.bool (coversB d x y)) ∧ Below w.heap.size w w'
set_option maxRecDepth 100000 in
set_option maxHeartbeats 2000000 in
theorem Covers_c (d : LD) (x y : Int) (w : World) (hs : d.f0.f8.size ≤ 1000) (hg : GoodR d.f1) (hx : 0 ≤ x ∧ x ≤ 100000) (hy : 0 ≤ y ∧ y ≤ 100000) :
    Calls Try.prog 87 #[.agg (ldV d).toArray, .int .i64 x, .int .i64 y] w (CovPost d x y w) := by
  obtain ⟨⟨a0, a1, a2, a3, a4, a5, a6, a7, s⟩, ⟨r0, r1, r2, r3⟩, n⟩ := d
  simp only at hs hg
  have WIN := Lib.hid (fun (r : LR) W h0 h1 => within_c r x y W ⟨by omega, by omega⟩ ⟨by omega, by omega⟩ h0 h1)
  have GLY := Lib.hid (fun W => glyph_c ⟨a0, a1, a2, a3, a4, a5, a6, a7, s⟩ x y W hs hx hy)
  have REC := Lib.hid (fun W => rect_c ⟨a0, a1, a2, a3, a4, a5, a6, a7, s⟩ W)
  obtain ⟨g0, g1, g2, g3⟩ := hg
  simp only at g0 g1 g2 g3
  have hc : coversB ⟨⟨a0, a1, a2, a3, a4, a5, a6, a7, s⟩, ⟨r0, r1, r2, r3⟩, n⟩ x y = (withinB ⟨r0, r1, r2, r3⟩ x y && (if a0 = 1 then withinB (rectR ⟨a0, a1, a2, a3, a4, a5, a6, a7, s⟩) x y else glyphB ⟨a0, a1, a2, a3, a4, a5, a6, a7, s⟩ x y)) := rfl
  unfold CovPost
  rw [hc]
  clear hc
  unfold GlyPost cmV at GLY
  unfold cmV lrV at REC
  unfold lrV at WIN
  have W1 := Lib.hid (fun W => WIN.out ⟨r0, r1, r2, r3⟩ W ⟨by simp only; omega, by simp only; omega⟩ ⟨by simp only; omega, by simp only; omega⟩)
  have hrc := rect_cut ⟨a0, a1, a2, a3, a4, a5, a6, a7, s⟩
  have W2 := Lib.hid (fun W => WIN.out (rectR ⟨a0, a1, a2, a3, a4, a5, a6, a7, s⟩) W ⟨by have := hrc.1; omega, by have := hrc.1; omega⟩ ⟨by have := hrc.2.1; omega, by have := hrc.2.1; omega⟩)
  clear hrc WIN
  generalize withinB ⟨r0, r1, r2, r3⟩ x y = b1 at *
  generalize withinB (rectR ⟨a0, a1, a2, a3, a4, a5, a6, a7, s⟩) x y = b2 at *
  generalize glyphB ⟨a0, a1, a2, a3, a4, a5, a6, a7, s⟩ x y = b3 at *
  generalize rectR ⟨a0, a1, a2, a3, a4, a5, a6, a7, s⟩ = rr at *
  generalize hres : (b1 && (if a0 = 1 then b2 else b3)) = res
  have HR := Lib.hid hres
  clear hres
  have hk := blk_new w (.cells #[.int .i64 a0, .int .i64 a1, .int .i64 a2, .int .i64 a3, .int .i64 a4, .int .i64 a5, .int .i64 a6, .int .i64 a7, .string s, .int .i64 r0, .int .i64 r1, .int .i64 r2, .int .i64 r3, .int .i64 n] 119)
  have hB := below_alloc (Below.refl w.heap.size w) (.cells #[.int .i64 a0, .int .i64 a1, .int .i64 a2, .int .i64 a3, .int .i64 a4, .int .i64 a5, .int .i64 a6, .int .i64 a7, .string s, .int .i64 r0, .int .i64 r1, .int .i64 r2, .int .i64 r3, .int .i64 n] 119)
  have hsz : (w.alloc (.cells #[.int .i64 a0, .int .i64 a1, .int .i64 a2, .int .i64 a3, .int .i64 a4, .int .i64 a5, .int .i64 a6, .int .i64 a7, .string s, .int .i64 r0, .int .i64 r1, .int .i64 r2, .int .i64 r3, .int .i64 n] 119)).heap.size = w.heap.size + 1 := by simp
  generalize hW : w.alloc (.cells #[.int .i64 a0, .int .i64 a1, .int .i64 a2, .int .i64 a3, .int .i64 a4, .int .i64 a5, .int .i64 a6, .int .i64 a7, .string s, .int .i64 r0, .int .i64 r1, .int .i64 r2, .int .i64 r3, .int .i64 n] 119) = W at *
  have HW := Lib.hid hW
  clear hW
  have z9 : W.cell? ⟨w.heap.size, 9, none⟩ = some (.int .i64 r0) := blk_cell hk 9
  have z10 : W.cell? ⟨w.heap.size, 10, none⟩ = some (.int .i64 r1) := blk_cell hk 10
  have z11 : W.cell? ⟨w.heap.size, 11, none⟩ = some (.int .i64 r2) := blk_cell hk 11
  have z12 : W.cell? ⟨w.heap.size, 12, none⟩ = some (.int .i64 r3) := blk_cell hk 12
  have K := Lib.hid hk
  have B := Lib.hid hB
  have SZ := Lib.hid hsz
  clear hk hB hsz
  unfold ldV
  go_enter Try.func87, Try.ntmps87
  go_wp2_with fail
  rw [HW.out]
  refine (W1.out W).mono ?_
  rintro e w1 ⟨rfl, h1⟩
  have k1 := blk_below K.out h1
  have B1 := Lib.hid (below_then B.out (by have := SZ.out; omega) h1)
  have S1 : w.heap.size + 1 ≤ w1.heap.size := by have := h1.size; have := SZ.out; omega
  have z0 : w1.cell? ⟨w.heap.size, 0, none⟩ = some (.int .i64 a0) := blk_cell k1 0
  have z1 : w1.cell? ⟨w.heap.size, 1, none⟩ = some (.int .i64 a1) := blk_cell k1 1
  have z2 : w1.cell? ⟨w.heap.size, 2, none⟩ = some (.int .i64 a2) := blk_cell k1 2
  have z3 : w1.cell? ⟨w.heap.size, 3, none⟩ = some (.int .i64 a3) := blk_cell k1 3
  have z4 : w1.cell? ⟨w.heap.size, 4, none⟩ = some (.int .i64 a4) := blk_cell k1 4
  have z5 : w1.cell? ⟨w.heap.size, 5, none⟩ = some (.int .i64 a5) := blk_cell k1 5
  have z6 : w1.cell? ⟨w.heap.size, 6, none⟩ = some (.int .i64 a6) := blk_cell k1 6
  have z7 : w1.cell? ⟨w.heap.size, 7, none⟩ = some (.int .i64 a7) := blk_cell k1 7
  have z8 : w1.cell? ⟨w.heap.size, 8, none⟩ = some (.string s) := blk_cell k1 8
  have K1 := Lib.hid k1
  clear k1 h1 z9 z10 z11 z12 W1 HW
  cases b1 with
  | false =>
    go_wp2_with fail
    go_ret
    exact ⟨by rw [← HR.out]; rfl, B1.out⟩
  | true =>
    by_cases hd : a0 = 1
    · have n0 : (a0 == 1) = true := by simp [hd]
      have HIF : Hid ((if a0 = 1 then b2 else b3) = b2) := Lib.hid (if_pos hd)
      clear hd
      go_wp2_with fail
      refine (REC.out w1).mono ?_
      rintro e w2 ⟨rfl, h2⟩
      have B2 := Lib.hid (below_then B1.out (by omega) h2)
      have S2 := h2.size
      clear h2 z0 z1 z2 z3 z4 z5 z6 z7 z8
      go_wp2_with fail
      refine (W2.out w2).mono ?_
      rintro e w3 ⟨rfl, h3⟩
      have B3 := Lib.hid (below_then B2.out (by omega) h3)
      clear h3
      go_wp2_with fail
      go_ret
      exact ⟨by rw [← HR.out, HIF.out]; rfl, B3.out⟩
    · have n0 : (a0 == 1) = false := by simp [hd]
      have HIF : Hid ((if a0 = 1 then b2 else b3) = b3) := Lib.hid (if_neg hd)
      clear hd
      go_wp2_with fail
      refine (GLY.out w1).mono ?_
      rintro e w2 ⟨rfl, h2⟩
      have B2 := Lib.hid (below_then B1.out (by omega) h2)
      clear h2 z0 z1 z2 z3 z4 z5 z6 z7 z8
      go_wp2_with fail
      go_ret
      exact ⟨by rw [← HR.out, HIF.out]; rfl, B2.out⟩
end Go.Proofs.Ytfkgpkkjiolfpaa.Ras
