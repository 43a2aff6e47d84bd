/- A line of words is no wider than its room, unless it is one piece alone; and what stands first in the next one would have had no room. For every input. -/
import Derived.Test.YtmkgapdadandmaaRows
import Derived.Test.YtmkgapdadandmaaTexts
import Derived.Test.YtmkgapdadandmaaWRepsOne
import Derived.Test.YtmkgapdadandmaaShelf
import Derived.ProofKit
import Derived.OpenShut
import Derived.ShutString
import Derived.ChangeOld
import Derived.Below
import Derived.SizedLaws
namespace Go.Proofs.Ytmkgapdadandmaa.LinesFit
open Go.RowKit Go.Lib Go.Proofs.Ytmkgapdadandmaa.Pl Go.Proofs.Ytmkgapdadandmaa.Fx Go.Proofs.Ytmkgapdadandmaa.Fnt Go.Proofs.Ytmkgapdadandmaa.Lin Go.Proofs.Ytmkgapdadandmaa.Siz Go.Proofs.Ytmkgapdadandmaa.Rgn Go.Proofs.Ytmkgapdadandmaa.Wh Go.Proofs.YtmkgapdadandmaaW.PrintWords Go.Proofs.YtmkgapdadandmaaW.PrintLast Go.Proofs.YtmkgapdadandmaaW.PrintMore
open Go.ChangeShapes Go.WideShapes Go.ChangeAt
open Go.ChangeMaps (open_string shut_string)
set_option linter.unusedVariables false
set_option linter.unusedSimpArgs false
attribute [local go_sem] mx2 mn2 mx_two mn_two mx_three mn_three

/-- The item of the law. -/
def itT (tx : ByteArray) (size : Int) : LI := ⟨1, 0, tx, size, 0, 10, 0, 0, 0, 0, 0⟩
theorem take_flat (l : List LP) (k : Nat) : ((l.take k).map fun p => p.f3.data.toList).flatten.length ≤ (l.map fun p => p.f3.data.toList).flatten.length := by
  have e : l.map (fun p => p.f3.data.toList) = (l.take k).map (fun p => p.f3.data.toList) ++ (l.drop k).map (fun p => p.f3.data.toList) := by rw [← List.map_append, List.take_append_drop]
  rw [e, List.flatten_append, List.length_append]
  omega
theorem app_list (u v : ByteArray) : (u ++ v).data.toList = u.data.toList ++ v.data.toList := by rw [ByteArray.data_append, Array.toList_append]
set_option maxRecDepth 100000 in
set_option maxHeartbeats 4000000 in
theorem walk (t : ByteArray) (width size : Int) (w : World) (_ : t.size ≤ 140737488351232) (_ : (Lit.int .i64 width).wf = true) (_ : (Lit.int .i64 size).wf = true) :
    Calls Try.prog 6 #[.string t, .int .i64 width, .int .i64 size] w fun e w' => e = .returned (.bool true) ∧ Below w.heap.size w w' := by
  have LI0 := Lib.hid (lined_c w)
  go_enter Try.func6, Try.ntmps6
  go_wp2_with fail
  refine LI0.out.mono ?_
  rintro e w1 ⟨rfl, hB1⟩
  have B1 := Lib.hid hB1
  clear hB1 LI0
  go_wp2_with fail
  obtain ⟨s, hs⟩ : ∃ s, t.extract 0 (min (t.size : Int) 200).toNat = s := ⟨_, rfl⟩
  have hz : s.size ≤ 200 := by rw [← hs, ByteArray.size_extract]; omega
  rw [hs]
  have hu := u16_bd width
  have hWe : wrap64 (IntKind.u16.wrap width) = IntKind.u16.wrap width := wrap_id (by omega) (by omega)
  rw [hWe]
  have hZ : 0 ≤ size % 256 ∧ size % 256 ≤ 255 := by omega
  generalize IntKind.u16.wrap width = W at *
  generalize size % 256 = Z at *
  have COL := Lib.hid (Collapse_c s 0 true w1 rfl (by omega))
  have hx0 : ∀ x, x = itT ⟨(coll s.data.toList true).1.toArray⟩ Z → LiT x ∧ x.f2.size ≤ 200 ∧ x.f2.data.toList.head? ≠ some 32 ∧ NoAdj x.f2.data.toList ∧ NiceI x ∧ BndI x := fun x hx => by
    subst hx
    have hl := coll_len s.data.toList true
    rw [← Lib.size_eq] at hl
    refine ⟨⟨rfl, rfl, hZ, rfl⟩, ?_, (coll_nice s.data.toList).1, (coll_nice s.data.toList).2, ⟨by show (0 : Int) ≤ 0; omega, by show (0 : Int) ≤ 0; omega⟩, ?_⟩
    · show (⟨(coll s.data.toList true).1.toArray⟩ : ByteArray).size ≤ 200
      rw [Lib.size_eq]
      show (coll s.data.toList true).1.length ≤ 200
      omega
    · unfold BndI
      show (-16777216 ≤ Z ∧ Z ≤ 16777216) ∧ (-16777216 ≤ (10 : Int) ∧ (10 : Int) ≤ 16777216) ∧ (-16777216 ≤ (0 : Int) ∧ (0 : Int) ≤ 16777216) ∧ (-16777216 ≤ (0 : Int) ∧ (0 : Int) ≤ 16777216)
      omega
  generalize (coll s.data.toList true).2 = bl at *
  obtain ⟨tx, htx⟩ : ∃ tx, (⟨(coll s.data.toList true).1.toArray⟩ : ByteArray) = tx := ⟨_, rfl⟩
  rw [htx] at COL hx0
  have HX0 := Lib.hid hx0
  have HZ := Lib.hid hZ
  have HU := Lib.hid hu
  clear hs hz hWe hx0 hZ hu htx
  refine COL.out.mono ?_
  rintro e w2 ⟨rfl, hB2⟩
  have B2 := Lib.hid (below_then B1.out B1.out.size hB2)
  have hal := below_alloc (Below.refl w2.heap.size w2) (.cells (liV (itT tx Z)).toArray 27)
  obtain ⟨w3, hw3⟩ : ∃ w3, w2.alloc (.cells (liV (itT tx Z)).toArray 27) = w3 := ⟨_, rfl⟩
  have h30 : w3.heap[w2.heap.size]? = some (.cells (liV (itT tx Z)).toArray 27 (0, 0)) := by rw [← hw3]; exact heap_alloc_new _ _
  have HW3 := Lib.hid (show w2.alloc (.cells #[.int .i64 1, .int .i64 0, .string tx, .int .i64 Z, .int .i64 0, .int .i64 10, .int .i64 0, .int .i64 0, .int .i64 0, .int .i64 0, .int .i64 0] 27) = w3 from hw3)
  rw [hw3] at hal
  have H30 := Lib.hid h30
  have B3 := Lib.hid (below_then B2.out B2.out.size hal)
  clear hw3 hB2 COL B1 hal h30
  obtain ⟨hx1, hx2, hx3, hx6, hx4, hx5⟩ := HX0.out _ rfl
  have hcW : max 0 (cut W) = W := by have := HU.out; unfold cut; omega
  have NEW := Lib.hid fun w => Go.Proofs.Ytmkgapdadandmaa.Fl.New_c W w
  have BRK := Lib.hid fun (g fp : Nat) (w' : World) (hC : Kd.C k27 w' (some ⟨g, 0, none⟩) 1 [itT tx Z]) (hF : Go.Proofs.Ytmkgapdadandmaa.Fl.IsF w' fp (max 0 (cut W)) []) => BreakX_c (some ⟨g, 0, none⟩) 1 1 fp [itT tx Z] 0 Z 10 0 0 W w' hC (by decide) (fun x hx => by rw [List.mem_singleton] at hx; subst hx; omega) (fun x hx => by rw [List.mem_singleton] at hx; subst hx; exact hx4) (by rw [hcW] at hF; exact hF) (by have := HU.out; omega) (fun x hx => by rw [List.mem_singleton] at hx; subst hx; show (1 : Int) ≠ 5; decide) (fun x hx => by rw [List.mem_singleton] at hx; subst hx; exact hx5)
  have FL := Lib.hid fun (f1 : Nat) => fit_law (K := k0 f1 Z 10 0) (by show (0 : Int) ≠ 3; decide) hx1 (by omega) hx3 hx6 HU.out
  have HTX := Lib.hid (show tx.size ≤ 200 from hx2)
  clear hx1 hx2 hx3 hx4 hx5 hx6 hcW
  go_upto_region 6 with fail
  go_cut [8] from 36 to 41 (fun v wx => Hid (∃ fp, Kd.R k39 39 wx w2.heap.size (fun _ => True) v (breakX (k0 fp Z 10 0) [itT tx Z] W (s0 0 0)) ∧ Below w.heap.size w wx))
  case first =>
    rw [HW3.out]
    refine wp_region_held_drew (S := fun V => V.heap[w2.heap.size]? = some (.cells (liV (itT tx Z)).toArray 27 (0, 0))) (by kernel_rfl) H30.out (fun hHeld => ?_)
    refine wpAnyH_take (i := 0) (v := .agg #[.int .i64 1, .int .i64 0, .string tx, .int .i64 Z, .int .i64 0, .int .i64 10, .int .i64 0, .int .i64 0, .int .i64 0, .int .i64 0, .int .i64 0]) rfl (by kernel_rfl) (by kernel_rfl) (by kernel_rfl) (fun _ _ _ h => h) (y_run (by rfl) (fun V h => by have c0 : V.cell? ⟨w2.heap.size, 0, none⟩ = some (.int .i64 1) := blk_cell h 0; have c1 : V.cell? ⟨w2.heap.size, 1, none⟩ = some (.int .i64 0) := blk_cell h 1; have c2 : V.cell? ⟨w2.heap.size, 2, none⟩ = some (.string tx) := blk_cell h 2; have c3 : V.cell? ⟨w2.heap.size, 3, none⟩ = some (.int .i64 Z) := blk_cell h 3; have c4 : V.cell? ⟨w2.heap.size, 4, none⟩ = some (.int .i64 0) := blk_cell h 4; have c5 : V.cell? ⟨w2.heap.size, 5, none⟩ = some (.int .i64 10) := blk_cell h 5; have c6 : V.cell? ⟨w2.heap.size, 6, none⟩ = some (.int .i64 0) := blk_cell h 6; have c7 : V.cell? ⟨w2.heap.size, 7, none⟩ = some (.int .i64 0) := blk_cell h 7; have c8 : V.cell? ⟨w2.heap.size, 8, none⟩ = some (.int .i64 0) := blk_cell h 8; have c9 : V.cell? ⟨w2.heap.size, 9, none⟩ = some (.int .i64 0) := blk_cell h 9; have c10 : V.cell? ⟨w2.heap.size, 10, none⟩ = some (.int .i64 0) := blk_cell h 10; unfold execOp; go_simp)) hHeld ?_
    try simp only [Act.put, List.getElem_toArray, List.getElem_cons_succ, List.getElem_cons_zero, List.setIfInBounds_toArray, List.set_cons_zero, List.set_cons_succ]
    refine wpAnyH_take (i := 2) (v := .int .i64 W) rfl (by kernel_rfl) (by kernel_rfl) (by kernel_rfl) (fun _ _ _ h => h) (y_move (by rfl) rfl rfl) hHeld ?_
    try simp only [Act.put, List.getElem_toArray, List.getElem_cons_succ, List.getElem_cons_zero, List.setIfInBounds_toArray, List.set_cons_zero, List.set_cons_succ]
    refine wpAnyH_take (i := 4) (v := .int .i64 Z) rfl (by kernel_rfl) (by kernel_rfl) (by kernel_rfl) (fun _ _ _ h => h) (y_move (by rfl) rfl rfl) hHeld ?_
    try simp only [Act.put, List.getElem_toArray, List.getElem_cons_succ, List.getElem_cons_zero, List.setIfInBounds_toArray, List.set_cons_zero, List.set_cons_succ]
    refine wpAnyH_ready (rs := [1, 3]) (by kernel_rfl) (by simp) ?_
    refine AllReadyH.cons rfl (fun K hK => ?_) (AllReadyH.cons rfl (fun K hK => ?_) AllReadyH.nil)
    · skip
      try simp only [Act.put, List.getElem_toArray, List.getElem_cons_succ, List.getElem_cons_zero, List.setIfInBounds_toArray, List.set_cons_zero, List.set_cons_succ]
      try rw [if_pos (by rfl)]
      go_simp
      have hCa := lit1 w3 (itT tx Z)
      have hBa := below_alloc (Below.refl w3.heap.size w3) (.cells (liV (itT tx Z)).toArray 27)
      obtain ⟨w4, hw4⟩ : ∃ w4, (w3.alloc (.cells (liV (itT tx Z)).toArray 27)).drew = w4 := ⟨_, rfl⟩
      have hC4 : Kd.C k27 w4 (some ⟨w3.heap.size, 0, none⟩) 1 [itT tx Z] := by rw [← hw4]; exact Kd.C_below hCa (Below.refl _ _).drew
      have hB4 : Below w3.heap.size w3 w4 := by rw [← hw4]; exact hBa.drew
      have h4 := blk_below H30.out hB4
      show K _ ((w3.alloc (.cells (liV (itT tx Z)).toArray 27)).drew)
      rw [hw4]
      clear hw4 hCa hBa
      refine hK.out _ _ h4 (fun hHeld => ?_)
      clear hK K
      try simp only [Act.put, List.getElem_toArray, List.getElem_cons_succ, List.getElem_cons_zero, List.setIfInBounds_toArray, List.set_cons_zero, List.set_cons_succ]
      refine wpAnyH_ready (rs := [3]) (by kernel_rfl) (by simp) ?_
      refine AllReadyH.cons rfl (fun K hK => ?_) AllReadyH.nil
      try simp only [Act.put, List.getElem_toArray, List.getElem_cons_succ, List.getElem_cons_zero, List.setIfInBounds_toArray, List.set_cons_zero, List.set_cons_succ]
      try rw [if_pos (by rfl)]
      go_simp
      refine (NEW.out _).mono ?_
      rintro e w5 ⟨rfl, hF, hB5⟩
      refine hK.out _ _ (blk_below h4 hB5) (fun hHeld => ?_)
      clear hK K
      try simp only [Act.put, List.getElem_toArray, List.getElem_cons_succ, List.getElem_cons_zero, List.setIfInBounds_toArray, List.set_cons_zero, List.set_cons_succ]
      refine wpAnyH_ready (rs := [5]) (by kernel_rfl) (by simp) ?_
      refine AllReadyH.cons rfl (fun K hK => ?_) AllReadyH.nil
      try simp only [Act.put, List.getElem_toArray, List.getElem_cons_succ, List.getElem_cons_zero, List.setIfInBounds_toArray, List.set_cons_zero, List.set_cons_succ]
      try rw [if_pos (by rfl)]
      go_simp
      refine (BRK.out w3.heap.size _ w5 (Kd.C_below hC4 hB5) hF).mono ?_
      rintro e w6 ⟨v, rfl, hR, hB6⟩
      refine hK.out _ _ (blk_below (blk_below h4 hB5) hB6) (fun hHeld => ?_)
      clear hK K
      try simp only [Act.put, List.getElem_toArray, List.getElem_cons_succ, List.getElem_cons_zero, List.setIfInBounds_toArray, List.set_cons_zero, List.set_cons_succ]
      refine wpAnyH_ready (rs := [6]) (by kernel_rfl) (by simp) ?_
      refine AllReadyH.cons rfl (fun K hK => ?_) AllReadyH.nil
      try simp only [Act.put, List.getElem_toArray, List.getElem_cons_succ, List.getElem_cons_zero, List.setIfInBounds_toArray, List.set_cons_zero, List.set_cons_succ]
      try rw [if_pos (by rfl)]
      go_simp
      refine hK.out _ _ hHeld (fun hHeld => ?_)
      clear hK K
      try simp only [Act.put, List.getElem_toArray, List.getElem_cons_succ, List.getElem_cons_zero, List.setIfInBounds_toArray, List.set_cons_zero, List.set_cons_succ]
      refine wpAnyH_done (by kernel_rfl) ?_ _
      clear hHeld
      go_wp2_with fail
      go_meet
      case rel =>
        have g1 := blk_lt H30.out
        have g2 := hB4.size
        have g3 := hB5.size
        have b4 := below_then B3.out B3.out.size hB4
        have b5 := below_then b4 b4.size hB5
        exact ⟨_, Kd.R_lower hR (by omega), below_then b5 b5.size hB6⟩
    · skip
      try simp only [Act.put, List.getElem_toArray, List.getElem_cons_succ, List.getElem_cons_zero, List.setIfInBounds_toArray, List.set_cons_zero, List.set_cons_succ]
      try rw [if_pos (by rfl)]
      go_simp
      refine (NEW.out _).mono ?_
      rintro e w4 ⟨rfl, hF, hB4⟩
      have h4 : w4.heap[w2.heap.size]? = some (.cells (liV (itT tx Z)).toArray 27 (0, 0)) := blk_below (blk_drew H30.out) hB4
      refine hK.out _ _ h4 (fun hHeld => ?_)
      clear hK K
      try simp only [Act.put, List.getElem_toArray, List.getElem_cons_succ, List.getElem_cons_zero, List.setIfInBounds_toArray, List.set_cons_zero, List.set_cons_succ]
      refine wpAnyH_ready (rs := [1]) (by kernel_rfl) (by simp) ?_
      refine AllReadyH.cons rfl (fun K hK => ?_) AllReadyH.nil
      try simp only [Act.put, List.getElem_toArray, List.getElem_cons_succ, List.getElem_cons_zero, List.setIfInBounds_toArray, List.set_cons_zero, List.set_cons_succ]
      try rw [if_pos (by rfl)]
      go_simp
      have hCa := lit1 w4 (itT tx Z)
      have hBa := below_alloc (Below.refl w4.heap.size w4) (.cells (liV (itT tx Z)).toArray 27)
      obtain ⟨w5, hw5⟩ : ∃ w5, w4.alloc (.cells (liV (itT tx Z)).toArray 27) = w5 := ⟨_, rfl⟩
      rw [hw5] at hCa hBa
      show K _ (w4.alloc (.cells (liV (itT tx Z)).toArray 27))
      rw [hw5]
      clear hw5
      refine hK.out _ _ (blk_below h4 hBa) (fun hHeld => ?_)
      clear hK K
      try simp only [Act.put, List.getElem_toArray, List.getElem_cons_succ, List.getElem_cons_zero, List.setIfInBounds_toArray, List.set_cons_zero, List.set_cons_succ]
      refine wpAnyH_ready (rs := [5]) (by kernel_rfl) (by simp) ?_
      refine AllReadyH.cons rfl (fun K hK => ?_) AllReadyH.nil
      try simp only [Act.put, List.getElem_toArray, List.getElem_cons_succ, List.getElem_cons_zero, List.setIfInBounds_toArray, List.set_cons_zero, List.set_cons_succ]
      try rw [if_pos (by rfl)]
      go_simp
      refine (BRK.out w4.heap.size _ w5 hCa (hF.below hBa)).mono ?_
      rintro e w6 ⟨v, rfl, hR, hB6⟩
      refine hK.out _ _ (blk_below (blk_below h4 hBa) hB6) (fun hHeld => ?_)
      clear hK K
      try simp only [Act.put, List.getElem_toArray, List.getElem_cons_succ, List.getElem_cons_zero, List.setIfInBounds_toArray, List.set_cons_zero, List.set_cons_succ]
      refine wpAnyH_ready (rs := [6]) (by kernel_rfl) (by simp) ?_
      refine AllReadyH.cons rfl (fun K hK => ?_) AllReadyH.nil
      try simp only [Act.put, List.getElem_toArray, List.getElem_cons_succ, List.getElem_cons_zero, List.setIfInBounds_toArray, List.set_cons_zero, List.set_cons_succ]
      try rw [if_pos (by rfl)]
      go_simp
      refine hK.out _ _ hHeld (fun hHeld => ?_)
      clear hK K
      try simp only [Act.put, List.getElem_toArray, List.getElem_cons_succ, List.getElem_cons_zero, List.setIfInBounds_toArray, List.set_cons_zero, List.set_cons_succ]
      refine wpAnyH_done (by kernel_rfl) ?_ _
      clear hHeld
      go_wp2_with fail
      go_meet
      case rel =>
        have g1 := blk_lt H30.out
        have g2 : w3.heap.size ≤ w4.heap.size := hB4.size
        have g3 := hBa.size
        have b4 := below_then B3.out.drew B3.out.size hB4
        have b5 := below_then b4 b4.size hBa
        exact ⟨_, Kd.R_lower hR (by omega), below_then b5 b5.size hB6⟩
  case rest =>
    obtain ⟨fp, hR, hB⟩ := hcut.out
    have hFL := FL.out fp
    obtain ⟨Aa, ca, rfl, hca, hCa⟩ := Kd.R_reads hR
    generalize breakX (k0 fp Z 10 0) [itT tx Z] W (s0 0 0) = oa at *
    obtain ⟨n, hn⟩ : ∃ n, oa.length = n := ⟨_, rfl⟩
    rw [hn] at hCa hca hFL ⊢
    have CA := Lib.hid hCa
    have B7 := Lib.hid hB
    have J2 := Lib.hid hFL
    have HN := Lib.hid (show n ≤ 9223372036854775807 from hCa.2.1)
    obtain ⟨w7, rfl⟩ : ∃ w7 : World, w7 = wc := ⟨_, rfl⟩
    clear hcut hFL hR hB hCa hca hn FL NEW BRK H30 HW3 HX0 B2 B3
    go_wp2_with fail
    go_loopw [9, 10, 11, 13, 14, 44] (fun _ _ _ _ _ iv wr => ∃ k : Nat, k ≤ n ∧ iv = .int .i64 k ∧ Hid (Below w7.heap.size w7 wr)) (fun _ _ _ _ _ iv _ => n - (RowKit.intOf iv).toNat)
    case atStart => exact ⟨0, Nat.zero_le _, rfl, Below.refl _ _⟩
    case round =>
      obtain ⟨k, hk, rfl, hB⟩ := hrel
      have hnn := HN.out
      by_cases hlt : k < n
      · obtain ⟨j1, j2, j3⟩ := J2.out k hlt
        obtain ⟨aa, A5, c5, ea, x0, x1, x2, x3, x4, x5, x6, hc5, hC5⟩ := at_T39 (Kd.C_below CA.out hB.out) (k : Int) (by omega) (by omega)
        subst ea
        have ra : rd_T39 oa (k : Int) = oa.getD k z39 := by unfold rd_T39; rw [Int.toNat_natCast]
        rw [Int.toNat_natCast, ra] at x0 x1 x2 x3 x4 x5 x6
        rw [ra] at hc5 hC5
        clear ra
        have J3 := Lib.hid j3
        clear j3
        generalize oa.getD k z39 = xa at *
        obtain ⟨a0, a1, a2, a3, a4, a5, a6⟩ := xa
        simp only at x0 x1 x2 x3 x4 x5 x6 hc5 hC5 j1 j2
        obtain ⟨m, hm⟩ : ∃ m, a5.length = m := ⟨_, rfl⟩
        rw [hm] at x5 hc5 hC5 j1
        have C5 := Lib.hid fun W' (h : Below wr.heap.size wr W') => Kd.C_below hC5 h
        have HM := Lib.hid (show m ≤ 9223372036854775807 from hC5.2.1)
        have HML := Lib.hid hm
        have G1 := Lib.hid j1
        have G2 := Lib.hid j2
        obtain ⟨V, hV⟩ : ∃ V, wr.alloc (.cells #[.int .i64 a0, .int .i64 a1, .int .i64 a2, .int .i64 a3, .int .i64 a4, .slice A5 m c5, .bool a6] 39) = V := ⟨_, rfl⟩
        have hVb : Below wr.heap.size wr V := by rw [← hV]; exact below_alloc (Below.refl _ _) _
        have hVl : V.heap[wr.heap.size]? = some (.cells #[.int .i64 a0, .int .i64 a1, .int .i64 a2, .int .i64 a3, .int .i64 a4, .slice A5 m c5, .bool a6] 39 (0, 0)) := by rw [← hV]; exact heap_alloc_new _ _
        have HV := Lib.hid hV
        have VB := Lib.hid hVb
        have hLN : ∀ W', Below V.heap.size V W' → W'.cell? ⟨wr.heap.size, 5, none⟩ = some (.slice A5 m c5) := fun W' h => blk_cell (blk_below hVl h) 5
        have LN := Lib.hid hLN
        clear hLN hVb hV hVl hC5 j1 j2 hm
        have hcase : ((a2 > W) = True ∧ ((m : Int) != 1) = false) ∨ ((a2 > W) = False ∧ True) := by
          by_cases hw : W < a2
          · exact .inl ⟨by simp; omega, by have := G1.out hw; subst this; rfl⟩
          · exact .inr ⟨by simp; omega, trivial⟩
        have hAl := below_alloc (Below.refl wr.heap.size wr) (.cells #[.int .i64 a0, .int .i64 a1, .int .i64 a2, .int .i64 a3, .int .i64 a4, .slice A5 m c5, .bool a6] 39)
        by_cases hk1 : k + 1 < n
        · have hkn : (k + 1 < n) = True := by simp; omega
          have hkn3 : ((k : Int) + 1 < (n : Int)) = True := by simp; omega
          obtain ⟨ab, B5, d5, ea, -, -, -, -, -, y5, -, hd5, hD5⟩ := at_T39 (Kd.C_below CA.out hB.out) ((k + 1 : Nat) : Int) (by omega) (by omega)
          cases ea
          have rb : rd_T39 oa ((k + 1 : Nat) : Int) = oa.getD (k + 1) z39 := by unfold rd_T39; rw [Int.toNat_natCast]
          rw [Int.toNat_natCast, rb] at y5
          rw [rb] at hd5 hD5
          clear rb
          have FT := Lib.hid (J3.out hk1)
          have j4 := (J2.out (k + 1) hk1).2.1
          generalize oa.getD (k + 1) z39 = xb at *
          obtain ⟨b0, b1, b2, b3, b4, b5, b6⟩ := xb
          simp only at y5 hd5 hD5 j4
          have G4 := Lib.hid j4
          obtain ⟨mb, hmb⟩ : ∃ mb, b5.length = mb := ⟨_, rfl⟩
          rw [hmb] at y5 hd5 hD5
          have HMB := Lib.hid hmb
          have ey5 := cell_later hAl y5
          have D5 := Lib.hid fun W' (h : Below wr.heap.size wr W') => And.intro (cell_later h y5) (Kd.C_below hD5 h)
          clear hmb j4 y5 hD5
          rcases Nat.eq_zero_or_pos mb with hz | hz
          · have hmz : (0 < mb) = False := by simp; omega
            clear hz hk1 J3
            rcases hcase with ⟨hg, hne⟩ | ⟨hg, hne⟩
            all_goals
              go_wp2_with fail
              exact ⟨⟨k + 1, by omega, by go_num, below_then hB.out hB.out.size hAl⟩, by simp [RowKit.intOf]; omega⟩
          · have hmz : (0 < mb) = True := by simp; omega
            have HMZ := Lib.hid hz
            clear hz J3
            rcases hcase with ⟨hg, hne⟩ | ⟨hg, hne⟩
            all_goals
              go_wp2_with fail
              rw [HV.out]
              clear hAl ey5
              obtain ⟨WR, hWR⟩ : ∃ W, W = wr := ⟨_, rfl⟩
              subst hWR
              go_loopw [11, 13, 77] (fun wv _ jv wx => ∃ (j : Nat) (u : ByteArray), j ≤ m ∧ jv = .int .i64 j ∧ wv = .string u ∧ Hid (u.data.toList = ((a5.take j).map fun p => p.f3.data.toList).flatten) ∧ Hid (Below V.heap.size V wx)) (fun _ _ jv _ => m - (RowKit.intOf jv).toNat)
              case atStart => exact ⟨0, ⟨#[]⟩, Nat.zero_le _, rfl, rfl, rfl, Below.refl _ _⟩
              case round =>
                obtain ⟨j, u, hj, rfl, rfl, hU, hBj⟩ := hrel
                have hmm := HM.out
                have hWb : Below WR.heap.size WR wr := below_then VB.out VB.out.size hBj.out
                by_cases hlj : j < m
                · obtain ⟨pa, ea, p0, p1, p2, p3⟩ := at_T41 (C5.out wr hWb) (j : Int) (by omega) (by omega)
                  subst ea
                  have ra : rd_T41 a5 (j : Int) = a5.getD j z41 := by unfold rd_T41; rw [Int.toNat_natCast]
                  rw [Int.toNat_natCast, ra] at p0 p1 p2 p3
                  clear ra
                  have hAl := below_alloc (Below.refl wr.heap.size wr) (.cells #[.int .i64 (a5.getD j z41).f0, .int .i64 (a5.getD j z41).f1, .int .i64 (a5.getD j z41).f2, .string (a5.getD j z41).f3] 41)
                  have hsn : ((a5.take (j + 1)).map fun p => p.f3.data.toList).flatten = ((a5.take j).map fun p => p.f3.data.toList).flatten ++ (a5.getD j z41).f3.data.toList := by
                    have hjl : j < a5.length := by rw [HML.out]; exact hlj
                    rw [List.take_succ_eq_append_getElem hjl, List.map_append, List.flatten_append, List.getD_eq_getElem?_getD, List.getElem?_eq_getElem hjl]
                    simp
                  rw [← hU.out] at hsn
                  have hcs : (9223372036854775807 < u.size + (a5.getD j z41).f3.size) = False := by
                    have h5 : (u.data.toList ++ (a5.getD j z41).f3.data.toList).length ≤ 200 := by rw [← hsn]; exact Nat.le_trans (take_flat a5 (j + 1)) (Nat.le_trans G2.out HTX.out)
                    rw [List.length_append, ← Lib.size_eq, ← Lib.size_eq] at h5
                    exact eq_false (by omega)
                  have HSN := Lib.hid hsn
                  have AL := Lib.hid hAl
                  clear hsn hAl
                  generalize (a5.getD j z41).f0 = f0 at *
                  generalize (a5.getD j z41).f1 = f1 at *
                  generalize (a5.getD j z41).f2 = f2 at *
                  generalize (a5.getD j z41).f3 = f3 at *
                  clear hWb
                  go_wp2_with fail
                  exact ⟨⟨j + 1, u ++ f3, by omega, by go_num, rfl, by rw [app_list, HSN.out]; rfl, below_then hBj.out hBj.out.size AL.out⟩, by simp [RowKit.intOf]; omega⟩
                · obtain rfl : j = m := by omega
                  have hU2 : u.data.toList = (a5.map fun p => p.f3.data.toList).flatten := by
                    have := hU.out
                    rwa [List.take_of_length_le (by rw [HML.out]; exact Nat.le_refl _)] at this
                  obtain ⟨y5, hDp⟩ := D5.out wr hWb
                  obtain ⟨pb, ea, -, -, -, q3⟩ := at_T41 hDp 0 (by omega) (by have := HMZ.out; omega)
                  subst ea
                  have ra : rd_T41 b5 0 = b5.getD 0 z41 := rfl
                  rw [ra] at q3
                  have q3 : wr.cell? ⟨pb.block, pb.off + 3, none⟩ = some (.string (b5.getD 0 z41).f3) := q3
                  have hfs : (b5.getD 0 z41).f3.size ≤ 200 := by
                    exact Nat.le_trans (piece_le b5 0 (by rw [HMB.out]; exact HMZ.out)) (Nat.le_trans G4.out HTX.out)
                  have hus : u.size ≤ 200 := by
                    rw [Lib.size_eq, hU2]
                    exact Nat.le_trans G2.out HTX.out
                  have hft := FT.out
                  unfold FitL at hft
                  simp only at hft
                  rw [← hU2] at hft
                  have TS := Lib.hid fun w => Try.strings_TrimSuffix (b5.getD 0 z41).f3 ⟨#[32]⟩ w (by omega)
                  have hns : (Lib.trimSuffix (b5.getD 0 z41).f3.data.toList [32]).length ≤ 200 := by
                    unfold Lib.trimSuffix
                    rw [Lib.size_eq] at hfs
                    split
                    · rw [List.length_take]; omega
                    · exact hfs
                  obtain ⟨nx, hnx⟩ : ∃ nx : ByteArray, ⟨(Lib.trimSuffix (b5.getD 0 z41).f3.data.toList [32]).toArray⟩ = nx := ⟨_, rfl⟩
                  have hnl : nx.data.toList = Lib.trimSuffix (b5.getD 0 z41).f3.data.toList [32] := by rw [← hnx]
                  rw [← hnl] at hft hns
                  rw [← Lib.size_eq] at hns
                  have e1 : u.data.toList ++ nx.data.toList = (u ++ nx).data.toList := (app_list _ _).symm
                  have e2 : u.data.toList ++ [32] ++ nx.data.toList = (u ++ ⟨#[32]⟩ ++ nx).data.toList := by rw [app_list, app_list]
                  rw [e1, e2] at hft
                  have TS2 : Hid (∀ w, Calls Try.prog 14 #[.string (b5.getD 0 z41).f3, .string ⟨#[32]⟩] w fun e w' => e = .returned (.string nx) ∧ w' = w) := Lib.hid fun w => (by have := TS.out w; rw [show (⟨#[32]⟩ : ByteArray).data.toList = [32] from rfl, hnx] at this; exact this)
                  have z1 : (u ++ nx).size ≤ 1000 := by rw [ByteArray.size_append]; omega
                  have z2 : (u ++ ⟨#[32]⟩ ++ nx).size ≤ 1000 := by rw [ByteArray.size_append, ByteArray.size_append]; show u.size + 1 + nx.size ≤ 1000; omega
                  have WI1 := Lib.hid fun w => Width_c (u ++ nx) Z 0 w z1
                  have WI2 := Lib.hid fun w => Width_c (u ++ ⟨#[32]⟩ ++ nx) Z 0 w z2
                  have hcs1 : (9223372036854775807 < u.size + nx.size) = False := by simp; omega
                  have hcs2 : (9223372036854775807 < u.size + 1) = False := by simp; omega
                  have hcs3 : (9223372036854775807 < (u ++ ⟨#[32]⟩).size + nx.size) = False := by rw [ByteArray.size_append]; show (9223372036854775807 < u.size + 1 + nx.size) = False; simp; omega
                  have hcs4 : (9223372036854775807 < u.size + 1 + nx.size) = False := eq_false (by omega)
                  have hcs5 : (9223372036854775807 < u.size + (⟨#[32]⟩ : ByteArray).size) = False := eq_false (by show ¬ 9223372036854775807 < u.size + 1; omega)
                  have hcs6 : (9223372036854775807 < u.size + (⟨#[32]⟩ : ByteArray).size + nx.size) = False := eq_false (by show ¬ 9223372036854775807 < u.size + 1 + nx.size; omega)
                  have hft2 : W < cut (wsum (rwt Z 0) (u ++ nx).data.toList) ∨ W < cut (wsum (rwt Z 0) (u ++ ⟨#[32]⟩ ++ nx).data.toList) := hft
                  generalize cut (wsum (rwt Z 0) (u ++ nx).data.toList) = v1 at *
                  generalize cut (wsum (rwt Z 0) (u ++ ⟨#[32]⟩ ++ nx).data.toList) = v2 at *
                  generalize (b5.getD 0 z41).f3 = ft at *
                  clear hft hnl hnx hfs hus hns TS e1 e2 z1 z2 ra hU2 hU hDp FT hWb
                  go_wp2_with (go_at_call 14; refine (TS2.out _).mono ?_; rintro e w' ⟨rfl, rfl⟩)
                  refine (WI1.out _).mono ?_
                  rintro e wa ⟨rfl, hBa⟩
                  have BA := Lib.hid (below_then hBj.out hBj.out.size hBa)
                  clear hBa q3 y5
                  by_cases hv : v1 ≤ W
                  · have hv2 : (v2 ≤ W) = False := by simp; omega
                    have hv1 : (v1 ≤ W) = True := by simp; omega
                    clear hv hft2
                    go_wp2_with fail
                    refine (WI2.out _).mono ?_
                    rintro e wb ⟨rfl, hBb⟩
                    have BB := Lib.hid (below_then BA.out BA.out.size hBb)
                    clear hBb
                    go_wp2_with fail
                    exact ⟨⟨k + 1, by omega, by go_num, below_then hB.out hB.out.size (below_then VB.out VB.out.size BB.out)⟩, by simp [RowKit.intOf]; omega⟩
                  · have hv1 : (v1 ≤ W) = False := by simp; omega
                    clear hv hft2
                    go_wp2_with fail
                    exact ⟨⟨k + 1, by omega, by go_num, below_then hB.out hB.out.size (below_then VB.out VB.out.size BA.out)⟩, by simp [RowKit.intOf]; omega⟩
        · have hkn : (k + 1 < n) = False := by simp; omega
          have hkn3 : ((k : Int) + 1 < (n : Int)) = False := by simp; omega
          clear hk1 J3
          rcases hcase with ⟨hg, hne⟩ | ⟨hg, hne⟩
          all_goals
            go_wp2_with fail
            exact ⟨⟨k + 1, by omega, by go_num, below_then hB.out hB.out.size hAl⟩, by simp [RowKit.intOf]; omega⟩
      · obtain rfl : k = n := by omega
        go_wp2_with fail
        go_ret
        exact ⟨rfl, below_then B7.out B7.out.size hB.out⟩
theorem own : ownKnob Try.prog.godebug = none := by kernel_rfl
set_option maxRecDepth 100000 in
theorem lifted (os : Os) (started : os.Started) (H : Type) (enc : TypeId × Value → H) :
    ReturnsInHanded {} Try.checked os 6 .any (Rows.linesFitSpec.pre6 enc Try.prog Try.f6 Rows.linesFitRow.domain false) (Rows.linesFitSpec.post enc Try.prog Try.f6 false true false false) := by
  refine returnsInHanded_of_change_sized (C := Try.checked) own started (by kernel_rfl) Try.func6
    (ChangeSpec.witness6 (enc := enc) (C := Try.checked) false ⟨#[], #[.string ByteArray.empty, .int .i64 0, .int .i64 0], []⟩ 8 (by kernel_rfl) (by kernel_rfl) (by kernel_rfl) (by kernel_rfl)) ?_
  intro W base args ds gs before hval0 hW hcnd hsz0 _
  have hsz : (DataW.weightsEach Try.prog (Try.f6.params.toList ++ Rows.linesFitSpec.plain.varTypes Try.prog) (ds ++ gs)).all (· ≤ reachBytes) = true := hsz0
  have hval : ∀ (j : Nat) t v, Try.f6.params[j]? = some t → args[j]? = some v → Value.okWide Try.prog W .any base t v := hval0
  have hW' := hW
  obtain ⟨p, q, hA0, hV, rfl, hfz, hnd⟩ := hW
  have hA : DataW.TrodAll enc Try.prog W 0 (fun _ => true) true Try.f6.params.toList args.toList ds p := hA0
  rw [Try.params6] at hA hval hsz
  obtain ⟨v0, vs0, d0, ds0, p0, q0, hargs, rfl, rfl, h0, r0⟩ := trodAll_cons hA
  obtain ⟨v1, vs1, d1, ds1, p1, q1, rfl, rfl, rfl, h1, r1⟩ := trodAll_cons r0
  obtain ⟨v2, vs2, d2, ds2, p2, q2, rfl, rfl, rfl, h2, r2⟩ := trodAll_cons r1
  obtain ⟨rfl, rfl, rfl⟩ := trodAll_nil r2
  obtain rfl : args = #[v0, v1, v2] := by cases args; simp_all
  obtain ⟨rfl, rfl⟩ := trodVars_none hV
  obtain ⟨a0, rfl, rfl, rfl, y0⟩ := open_string Try.underlying9 (hval 0 9 v0 rfl rfl) h0
  have w0 : a0.size ≤ 140737488351232 := by
    have z := sized_string hsz (j := 0) (t := 9) rfl rfl
    rw [Array.length_toList] at z
    exact z
  obtain ⟨a1, rfl, rfl, rfl, w1⟩ := open_int Try.underlying3 (hval 1 3 v1 rfl rfl) h1
  obtain ⟨a2, rfl, rfl, rfl, w2⟩ := open_int Try.underlying3 (hval 2 3 v2 rfl rfl) h2
  clear hA0 hval0 hsz0 hsz
  refine (walk a0 a1 a2 W w0 w1 w2).mono fun e W' ⟨he, bel⟩ => ?_
  subst he
  exact ⟨_, rfl, _, _, _, [], _, [], hW', trodAll_mk1 (shut_bool Try.underlying4 _), (trodAll_cons_mk (shut_string Try.underlying9 y0) (trodAll_cons_mk (shut_int Try.underlying3 w1) (trodAll_cons_mk (shut_int Try.underlying3 w2) trodAll_mk0))), rfl, bel.frame _, fun h => by cases h⟩
theorem over : Rows.linesFitRow.holds Try.pinned (OpenSpec.ofChange Rows.linesFitSpec) :=
  OpenClaim.holds_of_wide 6 Try.f6 rfl rfl rfl rfl rfl rfl rfl ⟨rfl, rfl, rfl, rfl, rfl⟩ rfl rfl rfl rfl rfl (by kernel_rfl) Try.func6 (by kernel_rfl)
    (of_decide_eq_true (by kernel_rfl)) (by unfold Func.isWrapper; first | (rw [if_pos (by decide +kernel)]; kernel_rfl) | (rw [if_neg (by decide +kernel)]; exact ⟨rfl, rfl⟩))
    (fun os started H enc _ => lifted os started H enc)
theorem proved : Rows.LinesFitSaid := over
#print axioms proved
end Go.Proofs.Ytmkgapdadandmaa.LinesFit
