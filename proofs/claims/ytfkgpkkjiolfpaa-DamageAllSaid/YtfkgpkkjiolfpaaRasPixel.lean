/- Package raster: a pixel. -/
import Derived.Test.YtfkgpkkjiolfpaaRasCovers
namespace Go.Proofs.Ytfkgpkkjiolfpaa.Ras
open Go.RowKit Go.Lib Go.Proofs.Ytfkgpkkjiolfpaa.Blk Go.Proofs.Ytfkgpkkjiolfpaa.Rgn Go.Proofs.Ytfkgpkkjiolfpaa.Pl Go.Proofs.Ytfkgpkkjiolfpaa.Fx Go.Proofs.Ytfkgpkkjiolfpaa.Fnt Go.Proofs.YtfkgpkkjiolfpaaW.PrintWords Go.Proofs.YtfkgpkkjiolfpaaW.PrintLast Go.Proofs.YtfkgpkkjiolfpaaW.PrintMore
set_option linter.unusedVariables false
set_option linter.unusedSimpArgs false
attribute [local go_sem] mx2 mn2 mx_two mn_two mx_three mn_three

theorem rdLD (l : List LD) (k : Nat) (hk : k < l.length) : rd_T119 l (k : Int) = l[k] := by simp [rd_T119, List.getD_eq_getElem?_getD, hk]
theorem pixel_snoc (l : List LD) (k : Nat) (hk : k < l.length) (x y c : Int) : pixelP (l.take (k + 1)) x y c = if coversB l[k] x y = true then overP l[k].f0.f6 (pixelP (l.take k) x y c) l[k].f2 else pixelP (l.take k) x y c := by
  unfold pixelP
  rw [List.take_succ_eq_append_getElem hk, List.foldl_append]
  rfl
/-- What is drawn is tame: short texts, clips that lie within all there is. -/
def TameD (d : LD) : Prop := d.f0.f8.size ≤ 1000 ∧ GoodR d.f1
def PixPost (l : List LD) (x y c : Int) (w : World) (e : Ending) (w' : World) : Prop := e = .returned (.int .i64 (pixelP l x y c)) ∧ Below w.heap.size w w'
set_option maxRecDepth 100000 in
set_option maxHeartbeats 2000000 in
theorem Pixel_c (A : Option Addr) (n c : Nat) (l : List LD) (x y col : Int) (w : World) (hC : Kd.C k119 w A n l) (hn : n ≤ 1000) (ht : ∀ d, d ∈ l → TameD d) (hx : 0 ≤ x ∧ x ≤ 100000) (hy : 0 ≤ y ∧ y ≤ 100000) :
    Calls Try.prog 64 #[.slice A n c, .int .i64 x, .int .i64 y, .int .i64 col] w (PixPost l x y col w) := by
  have hln : l.length = n := hC.1
  have LN := Lib.hid hln
  have HC := Lib.hid hC
  have HT := Lib.hid ht
  have HX := Lib.hid hx
  have HY := Lib.hid hy
  clear hC hln ht hx hy
  unfold PixPost
  go_enter Try.func64, Try.ntmps64
  go_wp2_with fail
  go_loopw [3, 13] (fun co i wr => ∃ k : Nat, k ≤ n ∧ i = .int .i64 k ∧ co = .int .i64 (pixelP (l.take k) x y col) ∧ Hid (Below w.heap.size w wr)) (fun _ i _ => n - (RowKit.intOf i).toNat)
  case atStart => exact ⟨0, Nat.zero_le _, rfl, rfl, Below.refl _ _⟩
  case round =>
    obtain ⟨k, hk, rfl, rfl, hB⟩ := hrel
    by_cases hlt : k < n
    · have hkl : k < l.length := by rw [LN.out]; exact hlt
      obtain ⟨ad, ea, x0, x1, x2, x3, x4, x5, x6, x7, x8, x9, x10, x11, x12, x13⟩ := at_T119 (Kd.C_below HC.out hB.out) (k : Int) (by omega) (by omega)
      subst ea
      have hps := pixel_snoc l k hkl x y col
      have hrd := rdLD l k hkl
      rw [Int.toNat_natCast, hrd] at x0 x1 x2 x3 x4 x5 x6 x7 x8 x9 x10 x11 x12 x13
      have htm := HT.out l[k] (List.getElem_mem _)
      have COV := Lib.hid (fun W => Covers_c l[k] x y W htm.1 htm.2 HX.out HY.out)
      generalize l[k] = d at *
      obtain ⟨⟨a0, a1, a2, a3, a4, a5, a6, a7, s⟩, ⟨r0, r1, r2, r3⟩, nn⟩ := d
      simp only at x0 x1 x2 x3 x4 x5 x6 x7 x8 x9 x10 x11 x12 x13 hps
      unfold CovPost ldV at COV
      simp only at COV
      generalize coversB ⟨⟨a0, a1, a2, a3, a4, a5, a6, a7, s⟩, ⟨r0, r1, r2, r3⟩, nn⟩ x y = cb at *
      have PS := Lib.hid hps
      generalize pixelP (l.take k) x y col = p0 at *
      have hk0 := blk_new wr (.cells #[.int .i64 a0, .int .i64 a1, .int .i64 a2, .int .i64 a3, .int .i64 a4, .int .i64 a5, .int .i64 a6, .int .i64 a7, .string s, .int .i64 r0, .int .i64 r1, .int .i64 r2, .int .i64 r3, .int .i64 nn] 119)
      have hB0 := below_alloc hB.out (.cells #[.int .i64 a0, .int .i64 a1, .int .i64 a2, .int .i64 a3, .int .i64 a4, .int .i64 a5, .int .i64 a6, .int .i64 a7, .string s, .int .i64 r0, .int .i64 r1, .int .i64 r2, .int .i64 r3, .int .i64 nn] 119)
      have hsz : wr.heap.size < (wr.alloc (.cells #[.int .i64 a0, .int .i64 a1, .int .i64 a2, .int .i64 a3, .int .i64 a4, .int .i64 a5, .int .i64 a6, .int .i64 a7, .string s, .int .i64 r0, .int .i64 r1, .int .i64 r2, .int .i64 r3, .int .i64 nn] 119)).heap.size := by simp
      have K0 := Lib.hid hk0
      have B0 := Lib.hid (below_then hB.out hB.out.size (below_alloc (Below.refl wr.heap.size wr) (.cells #[.int .i64 a0, .int .i64 a1, .int .i64 a2, .int .i64 a3, .int .i64 a4, .int .i64 a5, .int .i64 a6, .int .i64 a7, .string s, .int .i64 r0, .int .i64 r1, .int .i64 r2, .int .i64 r3, .int .i64 nn] 119)))
      have hle := hB.out.size
      clear hps hrd htm hk0 hB0 hB
      go_wp2_with fail
      refine (COV.out _).mono ?_
      rintro e w2 ⟨rfl, h2⟩
      have k2 := blk_below K0.out h2
      have B2 := Lib.hid (below_then B0.out (by omega) h2)
      have s2 := h2.size
      have y6 : w2.cell? ⟨wr.heap.size, 6, none⟩ = some (.int .i64 a6) := blk_cell k2 6
      have y13 : w2.cell? ⟨wr.heap.size, 13, none⟩ = some (.int .i64 nn) := blk_cell k2 13
      clear k2 h2 x0 x1 x2 x3 x4 x5 x6 x7 x8 x9 x10 x11 x12 x13 K0 B0 COV
      cases cb with
      | true =>
        have PS2 : Hid (pixelP (l.take (k + 1)) x y col = overP a6 p0 nn) := Lib.hid PS.out
        clear PS
        go_wp2_with fail
        refine (Over_c a6 p0 nn w2).mono ?_
        rintro e w3 ⟨rfl, h3⟩
        have B3 := Lib.hid (below_then B2.out (by omega) h3)
        clear h3
        go_wp2_with fail
        go_roundw
        case rel => exact ⟨k + 1, by omega, by go_num, by rw [PS2.out], B3.out⟩
        case measure => simp [RowKit.intOf]; omega
      | false =>
        have PS2 : Hid (pixelP (l.take (k + 1)) x y col = p0) := Lib.hid PS.out
        clear PS
        go_wp2_with fail
        go_roundw
        case rel => exact ⟨k + 1, by omega, by go_num, by rw [PS2.out], B2.out⟩
        case measure => simp [RowKit.intOf]; omega
    · obtain rfl : k = n := by omega
      have hkn : l.take k = l := List.take_of_length_le (by rw [LN.out]; exact Nat.le_refl _)
      rw [hkn]
      clear hkn
      go_wp2_with fail
      go_ret
      exact ⟨rfl, hB.out⟩
end Go.Proofs.Ytfkgpkkjiolfpaa.Ras
