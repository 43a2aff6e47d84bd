/- Package paint: Frag, where a box is hidden, and of one box. -/
import Derived.Test.YtfkgpkkjiolfpaaPaint
import Derived.Test.YtfkgpkkjiolfpaaRegion
import Derived.Test.YtfkgpkkjiolfpaaWRepsOne
namespace Go.Proofs.Ytfkgpkkjiolfpaa.Pnt
open Go.RowKit Go.Proofs.Ytfkgpkkjiolfpaa.Rgn Go.Proofs.Ytfkgpkkjiolfpaa.Pl Go.Proofs.Ytfkgpkkjiolfpaa.Fx Go.Proofs.Ytfkgpkkjiolfpaa.Sty Go.Proofs.YtfkgpkkjiolfpaaW.PrintWords Go.Proofs.YtfkgpkkjiolfpaaW.PrintLast Go.Proofs.YtfkgpkkjiolfpaaW.PrintMore
set_option linter.unusedVariables false
set_option linter.unusedSimpArgs false
attribute [local go_sem] mx2 mn2 mx_two mn_two mx_three mn_three

theorem hidden_c (f0 f1 f2 f3 f4 f5 f6 : Int) (t : ByteArray) (kind : Int) (s : List Int) (w : World) (hs : s.length = 118) (hh : s.getD 67 0 = 1) :
    Calls Try.prog 15 #[.agg #[.int .i64 f0, .int .i64 f1, .int .i64 f2, .int .i64 f3, .int .i64 f4, .int .i64 f5, .int .i64 f6, .string t], .int .i64 kind, .agg (sv s).toArray] w fun e w' => e = .returned (.slice none 0 0) ∧ Below w.heap.size w w' := by
  have z := sv_get s 67 (by omega)
  rw [hh] at z
  have z' : (sv s).toArray[67]? = some (.int .i64 1) := by simpa using z
  clear z hs hh
  go_enter Try.func15, Try.ntmps15
  go_wp2_with fail
  go_ret
  exact ⟨rfl, below_alloc (below_alloc (Below.refl _ _) _) _⟩

/-- A style that has a background alone. -/
def bg : List Int := ((List.replicate 118 (0 : Int)).set 72 5).set 73 255
theorem bg_len : bg.length = 118 := by decide
theorem bg_edge (p : Nat) (h : p < 36) : edgeP bg (p : Int) 0 = 0 := by
  unfold edgeP
  have e : bg.getD ((p : Int).toNat * 2) 0 = 0 := by
    have : ∀ q, q < 36 → bg.getD (((q : Nat) : Int).toNat * 2) 0 = 0 := by decide
    exact this p h
  rw [e]
  rfl
theorem blk_two (w : World) (o0 o1 : Obj) : ∃ W, (w.alloc o0).alloc o1 = W ∧ Below w.heap.size w W ∧ W.heap.size = w.heap.size + 2 ∧ W.heap[w.heap.size]? = some o0 ∧ W.heap[w.heap.size + 1]? = some o1 := by
  refine ⟨_, rfl, below_alloc (below_alloc (Below.refl _ _) _) _, by simp, blk_alloc (blk_new w o0) _, ?_⟩
  have := blk_new (w.alloc o0) o1
  rwa [World.size_alloc] at this

theorem blk_three (w : World) (o0 o1 o2 : Obj) : ∃ W, ((w.alloc o0).alloc o1).alloc o2 = W ∧ Below w.heap.size w W ∧ W.heap.size = w.heap.size + 3 ∧ W.heap[w.heap.size]? = some o0 ∧ W.heap[w.heap.size + 1]? = some o1 ∧ W.heap[w.heap.size + 1 + 1]? = some o2 := by
  refine ⟨_, rfl, below_alloc (below_alloc (below_alloc (Below.refl _ _) _) _) _, by simp, blk_alloc (blk_alloc (blk_new w o0) _) _, ?_, ?_⟩
  · have := blk_new (w.alloc o0) o1
    rw [World.size_alloc] at this
    exact blk_alloc this _
  · have := blk_new ((w.alloc o0).alloc o1) o2
    rwa [World.size_alloc, World.size_alloc] at this

theorem reps_cm (w : World) (base : Nat) (ok : Nat → Prop) (ps : List Cm) : Reps (k65.M w base ok) k65.sz ps (ps.flatMap cmV) := by
  induction ps with
  | nil => exact Reps.none _ _
  | cons p ps ih =>
    rw [List.flatMap_cons]
    exact Reps.front (k65_mkM w base ok p) rfl ih rfl
theorem lit_cm (W : World) (base : Nat) (ps : List Cm) (hb : base ≤ W.heap.size) (hm : ps.length ≤ 9223372036854775807) : Kd.R k65 65 (W.alloc (.cells (ps.flatMap cmV).toArray 65)) base (fun _ => True) (.slice (some ⟨W.heap.size, 0, none⟩) ps.length ps.length) ps :=
  ⟨fun _ _ => trivial, OwnRow.lit W base (reps_cm _ base _ ps) hb hm⟩
/-- The four edges, of no extent. -/
def four : List Cm := [⟨1, 0, 0, 0, 5, 0, 0, 0, ⟨#[]⟩⟩, ⟨1, 0, 5, 0, 0, 6, 0, 0, ⟨#[]⟩⟩, ⟨1, 0, 0, 6, 5, 0, 0, 0, ⟨#[]⟩⟩, ⟨1, 0, 0, 0, 0, 6, 0, 0, ⟨#[]⟩⟩]
theorem four_cells : (four.flatMap cmV).toArray = #[.int .i64 1, .int .i64 0, .int .i64 0, .int .i64 0, .int .i64 5, .int .i64 0, .int .i64 0, .int .i64 0, .string ⟨#[]⟩, .int .i64 1, .int .i64 0, .int .i64 5, .int .i64 0, .int .i64 0, .int .i64 6, .int .i64 0, .int .i64 0, .string ⟨#[]⟩, .int .i64 1, .int .i64 0, .int .i64 0, .int .i64 6, .int .i64 5, .int .i64 0, .int .i64 0, .int .i64 0, .string ⟨#[]⟩, .int .i64 1, .int .i64 0, .int .i64 0, .int .i64 0, .int .i64 0, .int .i64 6, .int .i64 0, .int .i64 0, .string ⟨#[]⟩] := rfl
theorem seen_all : ((([⟨1, 0, 0, 0, 5, 6, 255, 0, ⟨#[]⟩⟩] : List Cm) ++ four).filter seenB).length = 1 := by decide +kernel
theorem fld_F_3 (b : Nat) (w : World) : (Instr.fieldAt 23 (.pointer (some ⟨b, 0, none⟩)) 3).run Try.prog w = .ok (.pointer (some ⟨b, 3, none⟩)) w := by go_simp
theorem fld_F_4 (b : Nat) (w : World) : (Instr.fieldAt 23 (.pointer (some ⟨b, 0, none⟩)) 4).run Try.prog w = .ok (.pointer (some ⟨b, 4, none⟩)) w := by go_simp
theorem fld_F_5 (b : Nat) (w : World) : (Instr.fieldAt 23 (.pointer (some ⟨b, 0, none⟩)) 5).run Try.prog w = .ok (.pointer (some ⟨b, 5, none⟩)) w := by go_simp
theorem fld_F_6 (b : Nat) (w : World) : (Instr.fieldAt 23 (.pointer (some ⟨b, 0, none⟩)) 6).run Try.prog w = .ok (.pointer (some ⟨b, 6, none⟩)) w := by go_simp
theorem fld_E_0 (b : Nat) (w : World) : (Instr.fieldAt 84 (.pointer (some ⟨b, 0, none⟩)) 0).run Try.prog w = .ok (.pointer (some ⟨b, 0, none⟩)) w := by go_simp
theorem fld_E_1 (b : Nat) (w : World) : (Instr.fieldAt 84 (.pointer (some ⟨b, 0, none⟩)) 1).run Try.prog w = .ok (.pointer (some ⟨b, 1, none⟩)) w := by go_simp
theorem fld_E_2 (b : Nat) (w : World) : (Instr.fieldAt 84 (.pointer (some ⟨b, 0, none⟩)) 2).run Try.prog w = .ok (.pointer (some ⟨b, 2, none⟩)) w := by go_simp
theorem fld_E_3 (b : Nat) (w : World) : (Instr.fieldAt 84 (.pointer (some ⟨b, 0, none⟩)) 3).run Try.prog w = .ok (.pointer (some ⟨b, 3, none⟩)) w := by go_simp

set_option maxRecDepth 100000 in
set_option maxHeartbeats 4000000 in
theorem one_c (w : World) : Calls Try.prog 15 #[.agg #[.int .i64 0, .int .i64 0, .int .i64 0, .int .i64 0, .int .i64 0, .int .i64 5, .int .i64 6, .string ⟨#[]⟩], .int .i64 2, .agg (sv bg).toArray] w fun e w' => ∃ A c, e = .returned (.slice A 1 c) ∧ Below w.heap.size w w' := by
  have z := sv_get bg 67 (by decide)
  have z0 : bg.getD 67 0 = 0 := by decide
  rw [z0] at z
  have z' : (sv bg).toArray[67]? = some (.int .i64 0) := by simpa using z
  obtain ⟨W, eW, hB, hsz, b0, b1⟩ := blk_two w (.cells #[.int .i64 0, .int .i64 0, .int .i64 0, .int .i64 0, .int .i64 0, .int .i64 5, .int .i64 6, .string ⟨#[]⟩] 23) (.cells (sv bg).toArray 27)
  have EW := Lib.hid eW
  have HB := Lib.hid hB
  have SZ := Lib.hid hsz
  have B0 := Lib.hid b0
  have B1 := Lib.hid (range_blk b1)
  have L := Lib.hid bg_len
  have hsz27 := size27 bg_len
  have IZ := Lib.hid hsz27
  have e11 : edgeP bg 11 0 = 0 := bg_edge 11 (by decide)
  have e12 : edgeP bg 12 0 = 0 := bg_edge 12 (by decide)
  have e13 : edgeP bg 13 0 = 0 := bg_edge 13 (by decide)
  have e14 : edgeP bg 14 0 = 0 := bg_edge 14 (by decide)
  have e15 : edgeP bg 15 0 = 0 := bg_edge 15 (by decide)
  have e16 : edgeP bg 16 0 = 0 := bg_edge 16 (by decide)
  have e17 : edgeP bg 17 0 = 0 := bg_edge 17 (by decide)
  have e18 : edgeP bg 18 0 = 0 := bg_edge 18 (by decide)
  have e19 : edgeP bg 19 0 = 0 := bg_edge 19 (by decide)
  have e20 : edgeP bg 20 0 = 0 := bg_edge 20 (by decide)
  have e21 : edgeP bg 21 0 = 0 := bg_edge 21 (by decide)
  have e22 : edgeP bg 22 0 = 0 := bg_edge 22 (by decide)
  have c0 : bg.getD 73 0 = 255 := by decide
  have c1 : bg.getD 47 0 = 0 := by decide
  have c2 : bg.getD 49 0 = 0 := by decide
  have c3 : bg.getD 51 0 = 0 := by decide
  have c4 : bg.getD 53 0 = 0 := by decide
  have C0 := Lib.hid c0
  have C1 := Lib.hid c1
  have C2 := Lib.hid c2
  have C3 := Lib.hid c3
  have C4 := Lib.hid c4
  clear z z0 c0 c1 c2 c3 c4 eW hB hsz b0 b1 hsz27
  generalize bg = s at *
  go_enter Try.func15, Try.ntmps15
  go_wp2_with fail
  rw [EW.out]
  refine (fill_c s 0 0 5 6 36 0 w.heap.size (w.heap.size + 1) W L.out (by omega) (blk_cell B0.out 1) B1.out).mono ?_
  rintro e w1 ⟨rfl, h1⟩
  have X1 := Lib.hid h1
  have R1 := Lib.hid (range_below B1.out h1 (by have := SZ.out; omega))
  rw [show (Int.toNat 36 * 2 + 1) = 73 from rfl, C0.out]
  clear h1
  unfold cmV
  go_wp2_with (first
    | ((with_reducible refine gate_dst (N := 68) rfl ?_); refine wpList_load_mid rfl 27 (.tmp 5) rfl (w.heap.size + 1) 0 rfl (sv s) _ (World.rangeAt_alloc R1.out _) Try.underlying27 rfl IZ.out ?_))
  have BQ : Hid (Below w.heap.size w (w1.alloc (.cells #[.int .i64 1, .int .i64 0, .int .i64 0, .int .i64 0, .int .i64 5, .int .i64 6, .int .i64 255, .int .i64 0, .string ⟨#[]⟩] 65))) := Lib.hid (below_alloc (below_then HB.out HB.out.size X1.out) _)
  have HQ : Hid ((w1.alloc (.cells #[.int .i64 1, .int .i64 0, .int .i64 0, .int .i64 0, .int .i64 5, .int .i64 6, .int .i64 255, .int .i64 0, .string ⟨#[]⟩] 65)).heap[w1.heap.size]? = some (.cells #[.int .i64 1, .int .i64 0, .int .i64 0, .int .i64 0, .int .i64 5, .int .i64 6, .int .i64 255, .int .i64 0, .string ⟨#[]⟩] 65 (0, 0))) := Lib.hid (blk_new _ _)
  have QW : Hid (Below W.heap.size W (w1.alloc (.cells #[.int .i64 1, .int .i64 0, .int .i64 0, .int .i64 0, .int .i64 5, .int .i64 6, .int .i64 255, .int .i64 0, .string ⟨#[]⟩] 65))) := Lib.hid (below_alloc X1.out _)
  have hq : W.heap.size ≤ w1.heap.size := X1.out.size
  have HQS := Lib.hid hq
  clear hq
  have LQ : Hid (Kd.R k65 65 (w1.alloc (.cells #[.int .i64 1, .int .i64 0, .int .i64 0, .int .i64 0, .int .i64 5, .int .i64 6, .int .i64 255, .int .i64 0, .string ⟨#[]⟩] 65)) w.heap.size (fun _ => True) (.slice (some ⟨w1.heap.size, 0, none⟩) 1 1) [⟨1, 0, 0, 0, 5, 6, 255, 0, ⟨#[]⟩⟩]) := Lib.hid (lit_cm w1 w.heap.size [⟨1, 0, 0, 0, 5, 6, 255, 0, ⟨#[]⟩⟩] (HB.out.trans (X1.out.mono (by have := SZ.out; omega))).size (by decide))
  generalize w1.alloc (.cells #[.int .i64 1, .int .i64 0, .int .i64 0, .int .i64 0, .int .i64 5, .int .i64 6, .int .i64 255, .int .i64 0, .string ⟨#[]⟩] 65) = w2 at *
  generalize w1.heap.size = g at *
  clear X1 R1
  refine (Frame_c s 0 w2 L.out).mono ?_
  rintro e w3 ⟨rfl, h3⟩
  have Q3 := Lib.hid (below_then QW.out QW.out.size h3)
  have H3 := Lib.hid (blk_below HQ.out h3)
  have B3 := Lib.hid (below_then BQ.out BQ.out.size h3)
  have H3B := Lib.hid h3
  clear h3
  unfold edV
  simp only [id, e11, e12, e13, e14, e15, e16, e17, e18, e19, e20, e21, e22, show ∀ (k l : Int), max k k = k from fun k _ => by omega]
  have F3 := Lib.hid (blk_below B0.out Q3.out)
  have c6 : ∀ o1 o2 o3, (((w3.alloc o1).alloc o2).alloc o3).cell? ⟨w.heap.size, 6, none⟩ = some (.int .i64 6) := fun o1 o2 o3 => blk_cell (blk_alloc (blk_alloc (blk_alloc F3.out _) _) _) 6
  go_wp2_with fail
  clear c6
  obtain ⟨W4, eW4, hB4, hs4, k0, k1, k2⟩ := blk_three w3 (.cells #[.int .i64 0, .int .i64 0, .int .i64 0, .int .i64 0] 84) (.cells #[.int .i64 0, .int .i64 0, .int .i64 0, .int .i64 0] 84) (.cells #[.int .i64 0, .int .i64 0, .int .i64 0, .int .i64 0] 84)
  rw [eW4]
  have F4 := blk_below F3.out hB4
  have R4 := range_below B1.out (below_then Q3.out Q3.out.size hB4) (by have := SZ.out; omega)
  have G4 := Lib.hid (blk_below H3.out hB4)
  have BF := Lib.hid (below_then B3.out B3.out.size hB4)
  have L4 := Lib.hid (Kd.R_below LQ.out (below_then H3B.out H3B.out.size hB4))
  have HSZ := Lib.hid hs4
  have hlt1 : w.heap.size < W4.heap.size := by have := SZ.out; have := Q3.out.size; omega
  have hlt2 : w.heap.size + 1 < W4.heap.size := by have := SZ.out; have := Q3.out.size; omega
  have hlt3 : w3.heap.size + 1 < W4.heap.size := by omega
  have LT1 := Lib.hid hlt1
  have LT2 := Lib.hid hlt2
  have LT3 := Lib.hid hlt3
  have a1 : W4.cell? ⟨w.heap.size, 1, none⟩ = some (.int .i64 0) := blk_cell F4 1
  have a3 : W4.cell? ⟨w.heap.size, 3, none⟩ = some (.int .i64 0) := blk_cell F4 3
  have a4 : W4.cell? ⟨w.heap.size, 4, none⟩ = some (.int .i64 0) := blk_cell F4 4
  have a5 : W4.cell? ⟨w.heap.size, 5, none⟩ = some (.int .i64 5) := blk_cell F4 5
  have a6 : W4.cell? ⟨w.heap.size, 6, none⟩ = some (.int .i64 6) := blk_cell F4 6
  have d0 : W4.cell? ⟨w3.heap.size + 1, 0, none⟩ = some (.int .i64 0) := blk_cell k1 0
  have d1 : W4.cell? ⟨w3.heap.size + 1, 1, none⟩ = some (.int .i64 0) := blk_cell k1 1
  have d2 : W4.cell? ⟨w3.heap.size + 1, 2, none⟩ = some (.int .i64 0) := blk_cell k1 2
  have d3 : W4.cell? ⟨w3.heap.size + 1, 3, none⟩ = some (.int .i64 0) := blk_cell k1 3
  have A1 := Lib.hid a1
  have A3 := Lib.hid a3
  have A4 := Lib.hid a4
  have A5 := Lib.hid a5
  have A6 := Lib.hid a6
  have D0 := Lib.hid d0
  have D1 := Lib.hid d1
  have D2 := Lib.hid d2
  have D3 := Lib.hid d3
  have HR4 := Lib.hid R4
  clear hB4 k0 k1 k2 eW4 F4 hs4 hlt1 hlt2 hlt3
  have KEEP : ∀ w1 w', Below w1.heap.size w1 w' → Below W4.heap.size W4 w1 → True ∧ w'.rangeAt (w.heap.size + 1) 0 (sv s) ∧ w'.cell? ⟨w.heap.size, 1, none⟩ = some (.int .i64 0) ∧ w'.cell? ⟨w.heap.size, 3, none⟩ = some (.int .i64 0) ∧ w'.cell? ⟨w.heap.size, 4, none⟩ = some (.int .i64 0) ∧ w'.cell? ⟨w.heap.size, 5, none⟩ = some (.int .i64 5) ∧ w'.cell? ⟨w.heap.size, 6, none⟩ = some (.int .i64 6) ∧ w'.cell? ⟨w3.heap.size + 1, 0, none⟩ = some (.int .i64 0) ∧ w'.cell? ⟨w3.heap.size + 1, 1, none⟩ = some (.int .i64 0) ∧ w'.cell? ⟨w3.heap.size + 1, 2, none⟩ = some (.int .i64 0) ∧ w'.cell? ⟨w3.heap.size + 1, 3, none⟩ = some (.int .i64 0) := fun w1 w' k h0 => by
    have h := below_then h0 h0.size k
    exact ⟨trivial, range_below HR4.out h LT2.out, (h.cell LT1.out).trans A1.out, (h.cell LT1.out).trans A3.out, (h.cell LT1.out).trans A4.out, (h.cell LT1.out).trans A5.out, (h.cell LT1.out).trans A6.out, (h.cell LT3.out).trans D0.out, (h.cell LT3.out).trans D1.out, (h.cell LT3.out).trans D2.out, (h.cell LT3.out).trans D3.out⟩
  have hgl : w.heap.size + 1 < g ∧ g < w3.heap.size := by
    have h1 := SZ.out
    have h2 := HQS.out
    exact ⟨by omega, blk_lt H3.out⟩
  have KEEP2 : ∀ w1 w', w1.grownBy w' (some g) → Below W4.heap.size W4 w1 → True ∧ w'.rangeAt (w.heap.size + 1) 0 (sv s) ∧ w'.cell? ⟨w.heap.size, 1, none⟩ = some (.int .i64 0) ∧ w'.cell? ⟨w.heap.size, 3, none⟩ = some (.int .i64 0) ∧ w'.cell? ⟨w.heap.size, 4, none⟩ = some (.int .i64 0) ∧ w'.cell? ⟨w.heap.size, 5, none⟩ = some (.int .i64 5) ∧ w'.cell? ⟨w.heap.size, 6, none⟩ = some (.int .i64 6) ∧ w'.cell? ⟨w3.heap.size + 1, 0, none⟩ = some (.int .i64 0) ∧ w'.cell? ⟨w3.heap.size + 1, 1, none⟩ = some (.int .i64 0) ∧ w'.cell? ⟨w3.heap.size + 1, 2, none⟩ = some (.int .i64 0) ∧ w'.cell? ⟨w3.heap.size + 1, 3, none⟩ = some (.int .i64 0) := fun w1 w' k h => by
    have q : ∀ p : Addr, p.block < W4.heap.size → p.block ≠ g → w'.cell? p = W4.cell? p := fun p h1 h2 => (World.cell?_of_block (k.block p.block (Nat.lt_of_lt_of_le h1 h.size) (fun e => h2 (by injection e)))).trans (h.cell h1)
    have n1 : w.heap.size ≠ g := by omega
    have n2 : w3.heap.size + 1 ≠ g := by omega
    refine ⟨trivial, fun j v hv => (q ⟨w.heap.size + 1, 0 + j, none⟩ LT2.out (by show w.heap.size + 1 ≠ g; omega)).trans (HR4.out j v hv), (q _ LT1.out n1).trans A1.out, (q _ LT1.out n1).trans A3.out, (q _ LT1.out n1).trans A4.out, (q _ LT1.out n1).trans A5.out, (q _ LT1.out n1).trans A6.out, (q _ LT3.out n2).trans D0.out, (q _ LT3.out n2).trans D1.out, (q _ LT3.out n2).trans D2.out, (q _ LT3.out n2).trans D3.out⟩
  have KP2 := Lib.hid KEEP2
  clear KEEP2
  clear a1 a3 a4 a5 a6 d0 d1 d2 d3 R4 z' e11 e12 e13 e14 e15 e16 e17 e18 e19 e20 e21 e22 EW B0 HQ H3 F3 Q3 BQ QW B1 HB SZ HQS B3 HSZ C0 IZ A1 A3 A4 A5 A6 D0 D1 D2 D3 HR4 LT1 LT2 LT3
  have KP := Lib.hid KEEP
  clear KEEP
  refine wp_region_held_drew (S := (fun w' => True ∧ w'.rangeAt (w.heap.size + 1) 0 (sv s) ∧ w'.cell? ⟨w.heap.size, 1, none⟩ = some (.int .i64 0) ∧ w'.cell? ⟨w.heap.size, 3, none⟩ = some (.int .i64 0) ∧ w'.cell? ⟨w.heap.size, 4, none⟩ = some (.int .i64 0) ∧ w'.cell? ⟨w.heap.size, 5, none⟩ = some (.int .i64 5) ∧ w'.cell? ⟨w.heap.size, 6, none⟩ = some (.int .i64 6) ∧ w'.cell? ⟨w3.heap.size + 1, 0, none⟩ = some (.int .i64 0) ∧ w'.cell? ⟨w3.heap.size + 1, 1, none⟩ = some (.int .i64 0) ∧ w'.cell? ⟨w3.heap.size + 1, 2, none⟩ = some (.int .i64 0) ∧ w'.cell? ⟨w3.heap.size + 1, 3, none⟩ = some (.int .i64 0))) (by kernel_rfl) (KP.out W4 _ (Below.refl _ _).drew (Below.refl _ _)) (fun hHeld => ?_)
  refine wpAnyH_take (i := 0) (v := .slice (some ⟨g, 0, none⟩) 1 1) rfl (by kernel_rfl) (by kernel_rfl) (by kernel_rfl) (fun _ _ _ h => h) (y_move (by rfl) rfl rfl) hHeld ?_
  simp only [Act.put, List.getElem_toArray, List.getElem_cons_succ, List.getElem_cons_zero, List.setIfInBounds_toArray, List.set_cons_zero, List.set_cons_succ]
  refine wpAnyH_take (i := 1) (v := .func (.func 41) #[] #[.pointer (some ⟨w.heap.size, 0, none⟩), .pointer (some ⟨w.heap.size + 1, 0, none⟩)]) rfl (by kernel_rfl) (by kernel_rfl) (by kernel_rfl) (fun _ _ _ h => h) (y_move (by rfl) rfl rfl) hHeld ?_
  simp only [Act.put, List.getElem_toArray, List.getElem_cons_succ, List.getElem_cons_zero, List.setIfInBounds_toArray, List.set_cons_zero, List.set_cons_succ]
  refine wpAnyH_take (i := 2) (v := .pointer (some ⟨w.heap.size, 3, none⟩)) rfl (by kernel_rfl) (by kernel_rfl) (by kernel_rfl) (fun _ _ _ h => h) (y_field (by rfl) rfl rfl (fld_F_3 _)) hHeld ?_
  simp only [Act.put, List.getElem_toArray, List.getElem_cons_succ, List.getElem_cons_zero, List.setIfInBounds_toArray, List.set_cons_zero, List.set_cons_succ]
  refine wpAnyH_take (i := 3) (v := .int .i64 0) rfl (by kernel_rfl) (by kernel_rfl) (by kernel_rfl) (fun _ _ _ h => h) (y_load (by rfl) rfl rfl (fun w h => h.2.2.2.1)) hHeld ?_
  simp only [Act.put, List.getElem_toArray, List.getElem_cons_succ, List.getElem_cons_zero, List.setIfInBounds_toArray, List.set_cons_zero, List.set_cons_succ]
  refine wpAnyH_take (i := 4) (v := .pointer (some ⟨w.heap.size, 4, none⟩)) rfl (by kernel_rfl) (by kernel_rfl) (by kernel_rfl) (fun _ _ _ h => h) (y_field (by rfl) rfl rfl (fld_F_4 _)) hHeld ?_
  simp only [Act.put, List.getElem_toArray, List.getElem_cons_succ, List.getElem_cons_zero, List.setIfInBounds_toArray, List.set_cons_zero, List.set_cons_succ]
  refine wpAnyH_take (i := 5) (v := .int .i64 0) rfl (by kernel_rfl) (by kernel_rfl) (by kernel_rfl) (fun _ _ _ h => h) (y_load (by rfl) rfl rfl (fun w h => h.2.2.2.2.1)) hHeld ?_
  simp only [Act.put, List.getElem_toArray, List.getElem_cons_succ, List.getElem_cons_zero, List.setIfInBounds_toArray, List.set_cons_zero, List.set_cons_succ]
  refine wpAnyH_take (i := 6) (v := .pointer (some ⟨w.heap.size, 5, none⟩)) rfl (by kernel_rfl) (by kernel_rfl) (by kernel_rfl) (fun _ _ _ h => h) (y_field (by rfl) rfl rfl (fld_F_5 _)) hHeld ?_
  simp only [Act.put, List.getElem_toArray, List.getElem_cons_succ, List.getElem_cons_zero, List.setIfInBounds_toArray, List.set_cons_zero, List.set_cons_succ]
  refine wpAnyH_take (i := 7) (v := .int .i64 5) rfl (by kernel_rfl) (by kernel_rfl) (by kernel_rfl) (fun _ _ _ h => h) (y_load (by rfl) rfl rfl (fun w h => h.2.2.2.2.2.1)) hHeld ?_
  simp only [Act.put, List.getElem_toArray, List.getElem_cons_succ, List.getElem_cons_zero, List.setIfInBounds_toArray, List.set_cons_zero, List.set_cons_succ]
  refine wpAnyH_take (i := 8) (v := .pointer (some ⟨w3.heap.size + 1, 0, none⟩)) rfl (by kernel_rfl) (by kernel_rfl) (by kernel_rfl) (fun _ _ _ h => h) (y_field (by rfl) rfl rfl (fld_E_0 _)) hHeld ?_
  simp only [Act.put, List.getElem_toArray, List.getElem_cons_succ, List.getElem_cons_zero, List.setIfInBounds_toArray, List.set_cons_zero, List.set_cons_succ]
  refine wpAnyH_take (i := 9) (v := .int .i64 0) rfl (by kernel_rfl) (by kernel_rfl) (by kernel_rfl) (fun _ _ _ h => h) (y_load (by rfl) rfl rfl (fun w h => h.2.2.2.2.2.2.2.1)) hHeld ?_
  simp only [Act.put, List.getElem_toArray, List.getElem_cons_succ, List.getElem_cons_zero, List.setIfInBounds_toArray, List.set_cons_zero, List.set_cons_succ]
  refine wpAnyH_take (i := 11) (v := .func (.func 41) #[] #[.pointer (some ⟨w.heap.size, 0, none⟩), .pointer (some ⟨w.heap.size + 1, 0, none⟩)]) rfl (by kernel_rfl) (by kernel_rfl) (by kernel_rfl) (fun _ _ _ h => h) (y_move (by rfl) rfl rfl) hHeld ?_
  simp only [Act.put, List.getElem_toArray, List.getElem_cons_succ, List.getElem_cons_zero, List.setIfInBounds_toArray, List.set_cons_zero, List.set_cons_succ]
  refine wpAnyH_take (i := 12) (v := .pointer (some ⟨w.heap.size, 3, none⟩)) rfl (by kernel_rfl) (by kernel_rfl) (by kernel_rfl) (fun _ _ _ h => h) (y_field (by rfl) rfl rfl (fld_F_3 _)) hHeld ?_
  simp only [Act.put, List.getElem_toArray, List.getElem_cons_succ, List.getElem_cons_zero, List.setIfInBounds_toArray, List.set_cons_zero, List.set_cons_succ]
  refine wpAnyH_take (i := 13) (v := .int .i64 0) rfl (by kernel_rfl) (by kernel_rfl) (by kernel_rfl) (fun _ _ _ h => h) (y_load (by rfl) rfl rfl (fun w h => h.2.2.2.1)) hHeld ?_
  simp only [Act.put, List.getElem_toArray, List.getElem_cons_succ, List.getElem_cons_zero, List.setIfInBounds_toArray, List.set_cons_zero, List.set_cons_succ]
  refine wpAnyH_take (i := 14) (v := .pointer (some ⟨w.heap.size, 5, none⟩)) rfl (by kernel_rfl) (by kernel_rfl) (by kernel_rfl) (fun _ _ _ h => h) (y_field (by rfl) rfl rfl (fld_F_5 _)) hHeld ?_
  simp only [Act.put, List.getElem_toArray, List.getElem_cons_succ, List.getElem_cons_zero, List.setIfInBounds_toArray, List.set_cons_zero, List.set_cons_succ]
  refine wpAnyH_take (i := 15) (v := .int .i64 5) rfl (by kernel_rfl) (by kernel_rfl) (by kernel_rfl) (fun _ _ _ h => h) (y_load (by rfl) rfl rfl (fun w h => h.2.2.2.2.2.1)) hHeld ?_
  simp only [Act.put, List.getElem_toArray, List.getElem_cons_succ, List.getElem_cons_zero, List.setIfInBounds_toArray, List.set_cons_zero, List.set_cons_succ]
  refine wpAnyH_take (i := 16) (v := .int .i64 5) rfl (by kernel_rfl) (by kernel_rfl) (by kernel_rfl) (fun _ _ _ h => h) (y_add (by rfl) rfl rfl rfl (by decide) (by decide) (by decide)) hHeld ?_
  simp only [Act.put, List.getElem_toArray, List.getElem_cons_succ, List.getElem_cons_zero, List.setIfInBounds_toArray, List.set_cons_zero, List.set_cons_succ]
  refine wpAnyH_take (i := 17) (v := .pointer (some ⟨w3.heap.size + 1, 1, none⟩)) rfl (by kernel_rfl) (by kernel_rfl) (by kernel_rfl) (fun _ _ _ h => h) (y_field (by rfl) rfl rfl (fld_E_1 _)) hHeld ?_
  simp only [Act.put, List.getElem_toArray, List.getElem_cons_succ, List.getElem_cons_zero, List.setIfInBounds_toArray, List.set_cons_zero, List.set_cons_succ]
  refine wpAnyH_take (i := 18) (v := .int .i64 0) rfl (by kernel_rfl) (by kernel_rfl) (by kernel_rfl) (fun _ _ _ h => h) (y_load (by rfl) rfl rfl (fun w h => h.2.2.2.2.2.2.2.2.1)) hHeld ?_
  simp only [Act.put, List.getElem_toArray, List.getElem_cons_succ, List.getElem_cons_zero, List.setIfInBounds_toArray, List.set_cons_zero, List.set_cons_succ]
  refine wpAnyH_take (i := 19) (v := .int .i64 5) rfl (by kernel_rfl) (by kernel_rfl) (by kernel_rfl) (fun _ _ _ h => h) (y_sub (by rfl) rfl rfl rfl (by decide) (by decide) (by decide)) hHeld ?_
  simp only [Act.put, List.getElem_toArray, List.getElem_cons_succ, List.getElem_cons_zero, List.setIfInBounds_toArray, List.set_cons_zero, List.set_cons_succ]
  refine wpAnyH_take (i := 20) (v := .pointer (some ⟨w.heap.size, 4, none⟩)) rfl (by kernel_rfl) (by kernel_rfl) (by kernel_rfl) (fun _ _ _ h => h) (y_field (by rfl) rfl rfl (fld_F_4 _)) hHeld ?_
  simp only [Act.put, List.getElem_toArray, List.getElem_cons_succ, List.getElem_cons_zero, List.setIfInBounds_toArray, List.set_cons_zero, List.set_cons_succ]
  refine wpAnyH_take (i := 21) (v := .int .i64 0) rfl (by kernel_rfl) (by kernel_rfl) (by kernel_rfl) (fun _ _ _ h => h) (y_load (by rfl) rfl rfl (fun w h => h.2.2.2.2.1)) hHeld ?_
  simp only [Act.put, List.getElem_toArray, List.getElem_cons_succ, List.getElem_cons_zero, List.setIfInBounds_toArray, List.set_cons_zero, List.set_cons_succ]
  refine wpAnyH_take (i := 22) (v := .pointer (some ⟨w3.heap.size + 1, 0, none⟩)) rfl (by kernel_rfl) (by kernel_rfl) (by kernel_rfl) (fun _ _ _ h => h) (y_field (by rfl) rfl rfl (fld_E_0 _)) hHeld ?_
  simp only [Act.put, List.getElem_toArray, List.getElem_cons_succ, List.getElem_cons_zero, List.setIfInBounds_toArray, List.set_cons_zero, List.set_cons_succ]
  refine wpAnyH_take (i := 23) (v := .int .i64 0) rfl (by kernel_rfl) (by kernel_rfl) (by kernel_rfl) (fun _ _ _ h => h) (y_load (by rfl) rfl rfl (fun w h => h.2.2.2.2.2.2.2.1)) hHeld ?_
  simp only [Act.put, List.getElem_toArray, List.getElem_cons_succ, List.getElem_cons_zero, List.setIfInBounds_toArray, List.set_cons_zero, List.set_cons_succ]
  refine wpAnyH_take (i := 24) (v := .int .i64 0) rfl (by kernel_rfl) (by kernel_rfl) (by kernel_rfl) (fun _ _ _ h => h) (y_add (by rfl) rfl rfl rfl (by decide) (by decide) (by decide)) hHeld ?_
  simp only [Act.put, List.getElem_toArray, List.getElem_cons_succ, List.getElem_cons_zero, List.setIfInBounds_toArray, List.set_cons_zero, List.set_cons_succ]
  refine wpAnyH_take (i := 25) (v := .pointer (some ⟨w3.heap.size + 1, 1, none⟩)) rfl (by kernel_rfl) (by kernel_rfl) (by kernel_rfl) (fun _ _ _ h => h) (y_field (by rfl) rfl rfl (fld_E_1 _)) hHeld ?_
  simp only [Act.put, List.getElem_toArray, List.getElem_cons_succ, List.getElem_cons_zero, List.setIfInBounds_toArray, List.set_cons_zero, List.set_cons_succ]
  refine wpAnyH_take (i := 26) (v := .int .i64 0) rfl (by kernel_rfl) (by kernel_rfl) (by kernel_rfl) (fun _ _ _ h => h) (y_load (by rfl) rfl rfl (fun w h => h.2.2.2.2.2.2.2.2.1)) hHeld ?_
  simp only [Act.put, List.getElem_toArray, List.getElem_cons_succ, List.getElem_cons_zero, List.setIfInBounds_toArray, List.set_cons_zero, List.set_cons_succ]
  refine wpAnyH_take (i := 27) (v := .int .i64 6) rfl (by kernel_rfl) (by kernel_rfl) (by kernel_rfl) (fun _ _ _ h => h) (y_move (by rfl) rfl rfl) hHeld ?_
  simp only [Act.put, List.getElem_toArray, List.getElem_cons_succ, List.getElem_cons_zero, List.setIfInBounds_toArray, List.set_cons_zero, List.set_cons_succ]
  refine wpAnyH_take (i := 29) (v := .func (.func 41) #[] #[.pointer (some ⟨w.heap.size, 0, none⟩), .pointer (some ⟨w.heap.size + 1, 0, none⟩)]) rfl (by kernel_rfl) (by kernel_rfl) (by kernel_rfl) (fun _ _ _ h => h) (y_move (by rfl) rfl rfl) hHeld ?_
  simp only [Act.put, List.getElem_toArray, List.getElem_cons_succ, List.getElem_cons_zero, List.setIfInBounds_toArray, List.set_cons_zero, List.set_cons_succ]
  refine wpAnyH_take (i := 30) (v := .pointer (some ⟨w.heap.size, 3, none⟩)) rfl (by kernel_rfl) (by kernel_rfl) (by kernel_rfl) (fun _ _ _ h => h) (y_field (by rfl) rfl rfl (fld_F_3 _)) hHeld ?_
  simp only [Act.put, List.getElem_toArray, List.getElem_cons_succ, List.getElem_cons_zero, List.setIfInBounds_toArray, List.set_cons_zero, List.set_cons_succ]
  refine wpAnyH_take (i := 31) (v := .int .i64 0) rfl (by kernel_rfl) (by kernel_rfl) (by kernel_rfl) (fun _ _ _ h => h) (y_load (by rfl) rfl rfl (fun w h => h.2.2.2.1)) hHeld ?_
  simp only [Act.put, List.getElem_toArray, List.getElem_cons_succ, List.getElem_cons_zero, List.setIfInBounds_toArray, List.set_cons_zero, List.set_cons_succ]
  refine wpAnyH_take (i := 32) (v := .pointer (some ⟨w.heap.size, 4, none⟩)) rfl (by kernel_rfl) (by kernel_rfl) (by kernel_rfl) (fun _ _ _ h => h) (y_field (by rfl) rfl rfl (fld_F_4 _)) hHeld ?_
  simp only [Act.put, List.getElem_toArray, List.getElem_cons_succ, List.getElem_cons_zero, List.setIfInBounds_toArray, List.set_cons_zero, List.set_cons_succ]
  refine wpAnyH_take (i := 33) (v := .int .i64 0) rfl (by kernel_rfl) (by kernel_rfl) (by kernel_rfl) (fun _ _ _ h => h) (y_load (by rfl) rfl rfl (fun w h => h.2.2.2.2.1)) hHeld ?_
  simp only [Act.put, List.getElem_toArray, List.getElem_cons_succ, List.getElem_cons_zero, List.setIfInBounds_toArray, List.set_cons_zero, List.set_cons_succ]
  refine wpAnyH_take (i := 34) (v := .pointer (some ⟨w.heap.size, 6, none⟩)) rfl (by kernel_rfl) (by kernel_rfl) (by kernel_rfl) (fun _ _ _ h => h) (y_field (by rfl) rfl rfl (fld_F_6 _)) hHeld ?_
  simp only [Act.put, List.getElem_toArray, List.getElem_cons_succ, List.getElem_cons_zero, List.setIfInBounds_toArray, List.set_cons_zero, List.set_cons_succ]
  refine wpAnyH_take (i := 35) (v := .int .i64 6) rfl (by kernel_rfl) (by kernel_rfl) (by kernel_rfl) (fun _ _ _ h => h) (y_load (by rfl) rfl rfl (fun w h => h.2.2.2.2.2.2.1)) hHeld ?_
  simp only [Act.put, List.getElem_toArray, List.getElem_cons_succ, List.getElem_cons_zero, List.setIfInBounds_toArray, List.set_cons_zero, List.set_cons_succ]
  refine wpAnyH_take (i := 36) (v := .int .i64 6) rfl (by kernel_rfl) (by kernel_rfl) (by kernel_rfl) (fun _ _ _ h => h) (y_add (by rfl) rfl rfl rfl (by decide) (by decide) (by decide)) hHeld ?_
  simp only [Act.put, List.getElem_toArray, List.getElem_cons_succ, List.getElem_cons_zero, List.setIfInBounds_toArray, List.set_cons_zero, List.set_cons_succ]
  refine wpAnyH_take (i := 37) (v := .pointer (some ⟨w3.heap.size + 1, 2, none⟩)) rfl (by kernel_rfl) (by kernel_rfl) (by kernel_rfl) (fun _ _ _ h => h) (y_field (by rfl) rfl rfl (fld_E_2 _)) hHeld ?_
  simp only [Act.put, List.getElem_toArray, List.getElem_cons_succ, List.getElem_cons_zero, List.setIfInBounds_toArray, List.set_cons_zero, List.set_cons_succ]
  refine wpAnyH_take (i := 38) (v := .int .i64 0) rfl (by kernel_rfl) (by kernel_rfl) (by kernel_rfl) (fun _ _ _ h => h) (y_load (by rfl) rfl rfl (fun w h => h.2.2.2.2.2.2.2.2.2.1)) hHeld ?_
  simp only [Act.put, List.getElem_toArray, List.getElem_cons_succ, List.getElem_cons_zero, List.setIfInBounds_toArray, List.set_cons_zero, List.set_cons_succ]
  refine wpAnyH_take (i := 39) (v := .int .i64 6) rfl (by kernel_rfl) (by kernel_rfl) (by kernel_rfl) (fun _ _ _ h => h) (y_sub (by rfl) rfl rfl rfl (by decide) (by decide) (by decide)) hHeld ?_
  simp only [Act.put, List.getElem_toArray, List.getElem_cons_succ, List.getElem_cons_zero, List.setIfInBounds_toArray, List.set_cons_zero, List.set_cons_succ]
  refine wpAnyH_take (i := 40) (v := .pointer (some ⟨w.heap.size, 5, none⟩)) rfl (by kernel_rfl) (by kernel_rfl) (by kernel_rfl) (fun _ _ _ h => h) (y_field (by rfl) rfl rfl (fld_F_5 _)) hHeld ?_
  simp only [Act.put, List.getElem_toArray, List.getElem_cons_succ, List.getElem_cons_zero, List.setIfInBounds_toArray, List.set_cons_zero, List.set_cons_succ]
  refine wpAnyH_take (i := 41) (v := .int .i64 5) rfl (by kernel_rfl) (by kernel_rfl) (by kernel_rfl) (fun _ _ _ h => h) (y_load (by rfl) rfl rfl (fun w h => h.2.2.2.2.2.1)) hHeld ?_
  simp only [Act.put, List.getElem_toArray, List.getElem_cons_succ, List.getElem_cons_zero, List.setIfInBounds_toArray, List.set_cons_zero, List.set_cons_succ]
  refine wpAnyH_take (i := 42) (v := .pointer (some ⟨w3.heap.size + 1, 2, none⟩)) rfl (by kernel_rfl) (by kernel_rfl) (by kernel_rfl) (fun _ _ _ h => h) (y_field (by rfl) rfl rfl (fld_E_2 _)) hHeld ?_
  simp only [Act.put, List.getElem_toArray, List.getElem_cons_succ, List.getElem_cons_zero, List.setIfInBounds_toArray, List.set_cons_zero, List.set_cons_succ]
  refine wpAnyH_take (i := 43) (v := .int .i64 0) rfl (by kernel_rfl) (by kernel_rfl) (by kernel_rfl) (fun _ _ _ h => h) (y_load (by rfl) rfl rfl (fun w h => h.2.2.2.2.2.2.2.2.2.1)) hHeld ?_
  simp only [Act.put, List.getElem_toArray, List.getElem_cons_succ, List.getElem_cons_zero, List.setIfInBounds_toArray, List.set_cons_zero, List.set_cons_succ]
  refine wpAnyH_take (i := 45) (v := .func (.func 41) #[] #[.pointer (some ⟨w.heap.size, 0, none⟩), .pointer (some ⟨w.heap.size + 1, 0, none⟩)]) rfl (by kernel_rfl) (by kernel_rfl) (by kernel_rfl) (fun _ _ _ h => h) (y_move (by rfl) rfl rfl) hHeld ?_
  simp only [Act.put, List.getElem_toArray, List.getElem_cons_succ, List.getElem_cons_zero, List.setIfInBounds_toArray, List.set_cons_zero, List.set_cons_succ]
  refine wpAnyH_take (i := 46) (v := .pointer (some ⟨w.heap.size, 3, none⟩)) rfl (by kernel_rfl) (by kernel_rfl) (by kernel_rfl) (fun _ _ _ h => h) (y_field (by rfl) rfl rfl (fld_F_3 _)) hHeld ?_
  simp only [Act.put, List.getElem_toArray, List.getElem_cons_succ, List.getElem_cons_zero, List.setIfInBounds_toArray, List.set_cons_zero, List.set_cons_succ]
  refine wpAnyH_take (i := 47) (v := .int .i64 0) rfl (by kernel_rfl) (by kernel_rfl) (by kernel_rfl) (fun _ _ _ h => h) (y_load (by rfl) rfl rfl (fun w h => h.2.2.2.1)) hHeld ?_
  simp only [Act.put, List.getElem_toArray, List.getElem_cons_succ, List.getElem_cons_zero, List.setIfInBounds_toArray, List.set_cons_zero, List.set_cons_succ]
  refine wpAnyH_take (i := 48) (v := .pointer (some ⟨w.heap.size, 4, none⟩)) rfl (by kernel_rfl) (by kernel_rfl) (by kernel_rfl) (fun _ _ _ h => h) (y_field (by rfl) rfl rfl (fld_F_4 _)) hHeld ?_
  simp only [Act.put, List.getElem_toArray, List.getElem_cons_succ, List.getElem_cons_zero, List.setIfInBounds_toArray, List.set_cons_zero, List.set_cons_succ]
  refine wpAnyH_take (i := 49) (v := .int .i64 0) rfl (by kernel_rfl) (by kernel_rfl) (by kernel_rfl) (fun _ _ _ h => h) (y_load (by rfl) rfl rfl (fun w h => h.2.2.2.2.1)) hHeld ?_
  simp only [Act.put, List.getElem_toArray, List.getElem_cons_succ, List.getElem_cons_zero, List.setIfInBounds_toArray, List.set_cons_zero, List.set_cons_succ]
  refine wpAnyH_take (i := 50) (v := .pointer (some ⟨w3.heap.size + 1, 0, none⟩)) rfl (by kernel_rfl) (by kernel_rfl) (by kernel_rfl) (fun _ _ _ h => h) (y_field (by rfl) rfl rfl (fld_E_0 _)) hHeld ?_
  simp only [Act.put, List.getElem_toArray, List.getElem_cons_succ, List.getElem_cons_zero, List.setIfInBounds_toArray, List.set_cons_zero, List.set_cons_succ]
  refine wpAnyH_take (i := 51) (v := .int .i64 0) rfl (by kernel_rfl) (by kernel_rfl) (by kernel_rfl) (fun _ _ _ h => h) (y_load (by rfl) rfl rfl (fun w h => h.2.2.2.2.2.2.2.1)) hHeld ?_
  simp only [Act.put, List.getElem_toArray, List.getElem_cons_succ, List.getElem_cons_zero, List.setIfInBounds_toArray, List.set_cons_zero, List.set_cons_succ]
  refine wpAnyH_take (i := 52) (v := .int .i64 0) rfl (by kernel_rfl) (by kernel_rfl) (by kernel_rfl) (fun _ _ _ h => h) (y_add (by rfl) rfl rfl rfl (by decide) (by decide) (by decide)) hHeld ?_
  simp only [Act.put, List.getElem_toArray, List.getElem_cons_succ, List.getElem_cons_zero, List.setIfInBounds_toArray, List.set_cons_zero, List.set_cons_succ]
  refine wpAnyH_take (i := 53) (v := .pointer (some ⟨w3.heap.size + 1, 3, none⟩)) rfl (by kernel_rfl) (by kernel_rfl) (by kernel_rfl) (fun _ _ _ h => h) (y_field (by rfl) rfl rfl (fld_E_3 _)) hHeld ?_
  simp only [Act.put, List.getElem_toArray, List.getElem_cons_succ, List.getElem_cons_zero, List.setIfInBounds_toArray, List.set_cons_zero, List.set_cons_succ]
  refine wpAnyH_take (i := 54) (v := .int .i64 0) rfl (by kernel_rfl) (by kernel_rfl) (by kernel_rfl) (fun _ _ _ h => h) (y_load (by rfl) rfl rfl (fun w h => h.2.2.2.2.2.2.2.2.2.2)) hHeld ?_
  simp only [Act.put, List.getElem_toArray, List.getElem_cons_succ, List.getElem_cons_zero, List.setIfInBounds_toArray, List.set_cons_zero, List.set_cons_succ]
  refine wpAnyH_take (i := 55) (v := .int .i64 6) rfl (by kernel_rfl) (by kernel_rfl) (by kernel_rfl) (fun _ _ _ h => h) (y_move (by rfl) rfl rfl) hHeld ?_
  simp only [Act.put, List.getElem_toArray, List.getElem_cons_succ, List.getElem_cons_zero, List.setIfInBounds_toArray, List.set_cons_zero, List.set_cons_succ]
  refine wpAnyH_ready (rs := [10]) (by kernel_rfl) (by simp) ?_
  refine AllReadyH.cons rfl (fun K hK => ?_) AllReadyH.nil
  simp only [Act.put, List.getElem_toArray, List.getElem_cons_succ, List.getElem_cons_zero, List.setIfInBounds_toArray, List.set_cons_zero, List.set_cons_succ]
  rw [if_pos (by rfl)]
  go_simp
  refine (fill_c s _ _ _ _ _ 0 w.heap.size (w.heap.size + 1) _ L.out (by omega) hHeld.2.2.1 hHeld.2.1).mono ?_
  rintro e v1 ⟨rfl, hK1⟩
  rw [show (Int.toNat 23 * 2 + 1) = 47 from rfl, C1.out]
  have hV1 : Below W4.heap.size W4 v1 := below_then (Below.refl _ _).drew (Nat.le_refl _) hK1
  refine hK.out _ _ (KP.out _ _ (Below.refl _ _) hV1) (fun hHeld => ?_)
  clear hK K
  unfold cmV
  simp only [Act.put, List.getElem_toArray, List.getElem_cons_succ, List.getElem_cons_zero, List.setIfInBounds_toArray, List.set_cons_zero, List.set_cons_succ]
  refine wpAnyH_ready (rs := [28]) (by kernel_rfl) (by simp) ?_
  refine AllReadyH.cons rfl (fun K hK => ?_) AllReadyH.nil
  simp only [Act.put, List.getElem_toArray, List.getElem_cons_succ, List.getElem_cons_zero, List.setIfInBounds_toArray, List.set_cons_zero, List.set_cons_succ]
  rw [if_pos (by rfl)]
  go_simp
  refine (fill_c s _ _ _ _ _ 0 w.heap.size (w.heap.size + 1) _ L.out (by omega) hHeld.2.2.1 hHeld.2.1).mono ?_
  rintro e v2 ⟨rfl, hK2⟩
  rw [show (Int.toNat 24 * 2 + 1) = 49 from rfl, C2.out]
  have hV2 : Below W4.heap.size W4 v2 := below_then hV1 hV1.size hK2
  refine hK.out _ _ (KP.out _ _ (Below.refl _ _) hV2) (fun hHeld => ?_)
  clear hK K
  unfold cmV
  simp only [Act.put, List.getElem_toArray, List.getElem_cons_succ, List.getElem_cons_zero, List.setIfInBounds_toArray, List.set_cons_zero, List.set_cons_succ]
  refine wpAnyH_ready (rs := [44]) (by kernel_rfl) (by simp) ?_
  refine AllReadyH.cons rfl (fun K hK => ?_) AllReadyH.nil
  simp only [Act.put, List.getElem_toArray, List.getElem_cons_succ, List.getElem_cons_zero, List.setIfInBounds_toArray, List.set_cons_zero, List.set_cons_succ]
  rw [if_pos (by rfl)]
  go_simp
  refine (fill_c s _ _ _ _ _ 0 w.heap.size (w.heap.size + 1) _ L.out (by omega) hHeld.2.2.1 hHeld.2.1).mono ?_
  rintro e v3 ⟨rfl, hK3⟩
  rw [show (Int.toNat 25 * 2 + 1) = 51 from rfl, C3.out]
  have hV3 : Below W4.heap.size W4 v3 := below_then hV2 hV2.size hK3
  refine hK.out _ _ (KP.out _ _ (Below.refl _ _) hV3) (fun hHeld => ?_)
  clear hK K
  unfold cmV
  simp only [Act.put, List.getElem_toArray, List.getElem_cons_succ, List.getElem_cons_zero, List.setIfInBounds_toArray, List.set_cons_zero, List.set_cons_succ]
  refine wpAnyH_ready (rs := [56]) (by kernel_rfl) (by simp) ?_
  refine AllReadyH.cons rfl (fun K hK => ?_) AllReadyH.nil
  simp only [Act.put, List.getElem_toArray, List.getElem_cons_succ, List.getElem_cons_zero, List.setIfInBounds_toArray, List.set_cons_zero, List.set_cons_succ]
  rw [if_pos (by rfl)]
  go_simp
  refine (fill_c s _ _ _ _ _ 0 w.heap.size (w.heap.size + 1) _ L.out (by omega) hHeld.2.2.1 hHeld.2.1).mono ?_
  rintro e v4 ⟨rfl, hK4⟩
  rw [show (Int.toNat 26 * 2 + 1) = 53 from rfl, C4.out]
  have hV4 : Below W4.heap.size W4 v4 := below_then hV3 hV3.size hK4
  refine hK.out _ _ (KP.out _ _ (Below.refl _ _) hV4) (fun hHeld => ?_)
  clear hK K
  unfold cmV
  simp only [Act.put, List.getElem_toArray, List.getElem_cons_succ, List.getElem_cons_zero, List.setIfInBounds_toArray, List.set_cons_zero, List.set_cons_succ]
  refine wpAnyH_ready (rs := [57]) (by kernel_rfl) (by simp) ?_
  refine AllReadyH.cons rfl (fun K hK => ?_) AllReadyH.nil
  simp only [Act.put, List.getElem_toArray, List.getElem_cons_succ, List.getElem_cons_zero, List.setIfInBounds_toArray, List.set_cons_zero, List.set_cons_succ]
  rw [if_pos (by rfl)]
  go_simp
  rw [← four_cells]
  have hlit : Kd.R k65 65 (v4.alloc (.cells (four.flatMap cmV).toArray 65)) w.heap.size (fun _ => True) (.slice (some ⟨v4.heap.size, 0, none⟩) 4 4) four := lit_cm v4 w.heap.size four (Nat.le_trans BF.out.size hV4.size) (by decide)
  have hW5 : Below v4.heap.size v4 (v4.alloc (.cells (four.flatMap cmV).toArray 65)) := below_alloc (Below.refl _ _) _
  generalize v4.alloc (.cells (four.flatMap cmV).toArray 65) = V5 at *
  have hV5 := below_then hV4 hV4.size hW5
  have hL5 := Kd.R_below L4.out hV5
  have hB5 := below_then BF.out BF.out.size hV5
  obtain ⟨Al, cl, el, _, hC5⟩ := Kd.R_reads hlit
  injection el with el1 el2 el3
  subst el1
  refine hK.out _ _ (KP.out _ _ hW5 hV4) (fun hHeld => ?_)
  clear hK K
  try simp only [Act.put, List.getElem_toArray, List.getElem_cons_succ, List.getElem_cons_zero, List.setIfInBounds_toArray, List.set_cons_zero, List.set_cons_succ]
  refine wpAnyH_ready (rs := [58]) (by kernel_rfl) (by simp) ?_
  refine AllReadyH.cons (o := { dst := some 141, op := .call { callee := .builtin .append, args := #[.tmp 83, .tmp 140], argTypes := #[28, 28] }, type := 28, pos := "paint.go:47", after := #[{ on := 0, ground := .data }, { on := 57, ground := .data }, { on := 56, ground := .chain }], guard := none }) rfl (fun K hK => ?_) AllReadyH.nil
  refine Kd.R_append_rows_step k65 (w0 := w) w.heap.size ?_ (.tmp 83) (.tmp 140) 28 65 _ 80 rfl Try.underlying28 infoC rfl (by decide) (by decide) (.slice (some ⟨g, 0, none⟩) 1 1) [⟨1, 0, 0, 0, 5, 6, 255, 0, ⟨#[]⟩⟩] four (some ⟨v4.heap.size, 0, none⟩) 4 4 (fun _ => True) (fun _ => False) rfl rfl hL5 hC5 ?_ (fun _ h => h.elim) (fun _ _ => trivial) hB5 hB5.size (by decide) ?_
  · rfl
  · intro x cs hx
    rw [k65_open hx]
    exact k65_mkM _ _ _ x
  intro vl v6 hO hB hG hat
  refine hK.out _ _ (KP2.out _ _ hG hV5) (fun hHeld => ?_)
  clear hK K
  try simp only [Act.put, List.getElem_toArray, List.getElem_cons_succ, List.getElem_cons_zero, List.setIfInBounds_toArray, List.set_cons_zero, List.set_cons_succ]
  refine wpAnyH_take (i := 59) (v := vl) rfl (by kernel_rfl) (by kernel_rfl) (by kernel_rfl) (fun _ _ _ h => h) (y_assign (by rfl) rfl rfl) hHeld ?_
  try simp only [Act.put, List.getElem_toArray, List.getElem_cons_succ, List.getElem_cons_zero, List.setIfInBounds_toArray, List.set_cons_zero, List.set_cons_succ]
  refine wpAnyH_done (by kernel_rfl) ?_ _
  obtain ⟨Av, cv, ev, hcv, hCv⟩ := Kd.R_reads hO
  subst ev
  have HCV := Lib.hid hCv
  have HBV := Lib.hid hB
  clear hO hB hG hat hCv hHeld hlit hL5 hB5 hC5 hW5 hV5 KP KP2 hV1 hV2 hV3 hV4 hK1 hK2 hK3 hK4
  rw [show (([⟨1, 0, 0, 0, 5, 6, 255, 0, ⟨#[]⟩⟩] : List Cm) ++ four).length = 5 from rfl] at HCV ⊢
  go_wp2_with fail
  refine (fills_c _ _ _ _ _ rfl HCV.out (by decide)).mono ?_
  rintro e v7 ⟨v, rfl, hR, hB⟩
  obtain ⟨Ar, cr, er, _, _⟩ := Kd.R_reads hR
  rw [seen_all] at er
  subst er
  have HB7 := Lib.hid (below_then HBV.out HBV.out.size hB)
  clear hR hB
  go_wp2_with fail
  go_ret
  exact ⟨_, _, rfl, HB7.out⟩
end Go.Proofs.Ytfkgpkkjiolfpaa.Pnt
