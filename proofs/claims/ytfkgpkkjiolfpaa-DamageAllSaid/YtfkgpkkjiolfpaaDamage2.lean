/- Package damage: rectangles, cut. -/
import Derived.Test.YtfkgpkkjiolfpaaDamage1
namespace Go.Proofs.Ytfkgpkkjiolfpaa.Ras
open Go.RowKit Go.Lib Go.Proofs.Ytfkgpkkjiolfpaa.Blk Go.Proofs.Ytfkgpkkjiolfpaa.Rgn Go.Proofs.Ytfkgpkkjiolfpaa.Pl Go.Proofs.Ytfkgpkkjiolfpaa.Fx Go.Proofs.Ytfkgpkkjiolfpaa.Fnt Go.Proofs.YtfkgpkkjiolfpaaW.PrintWords Go.Proofs.YtfkgpkkjiolfpaaW.PrintLast Go.Proofs.YtfkgpkkjiolfpaaW.PrintMore
set_option linter.unusedVariables false
set_option linter.unusedSimpArgs false
attribute [local go_sem] mx2 mn2 mx_two mn_two mx_three mn_three

theorem infoR : (Try.prog.info? 59).map (fun i => (i.zero, i.size, i.bytes)) = some (some (.agg #[.int .i64 0, .int .i64 0, .int .i64 0, .int .i64 0]), k59.sz, 32) := by kernel_rfl
theorem fld_R_0 (b : Nat) (w : World) : (Instr.fieldAt 59 (.pointer (some ⟨b, 0, none⟩)) 0).run Try.prog w = .ok (.pointer (some ⟨b, 0, none⟩)) w := by go_simp
theorem fld_R_1 (b : Nat) (w : World) : (Instr.fieldAt 59 (.pointer (some ⟨b, 0, none⟩)) 1).run Try.prog w = .ok (.pointer (some ⟨b, 1, none⟩)) w := by go_simp
theorem fld_R_2 (b : Nat) (w : World) : (Instr.fieldAt 59 (.pointer (some ⟨b, 0, none⟩)) 2).run Try.prog w = .ok (.pointer (some ⟨b, 2, none⟩)) w := by go_simp
theorem fld_R_3 (b : Nat) (w : World) : (Instr.fieldAt 59 (.pointer (some ⟨b, 0, none⟩)) 3).run Try.prog w = .ok (.pointer (some ⟨b, 3, none⟩)) w := by go_simp
def DCutPost (l : List LR) (w : World) (e : Ending) (w' : World) : Prop := ∃ v, e = .returned v ∧ Kd.R k59 59 w' w.heap.size (fun _ => True) v (l.map cutR) ∧ Below w.heap.size w w'
set_option maxRecDepth 100000 in
set_option maxHeartbeats 2000000 in
theorem dcut_c (A : Option Addr) (n c : Nat) (l : List LR) (w : World) (hC : Kd.C k59 w A n l) (hn : n ≤ 1000) :
    Calls Try.prog 65 #[.slice A n c] w (DCutPost l w) := by
  have hln : l.length = n := hC.1
  have LN := Lib.hid hln
  have HC := Lib.hid hC
  have CUT : Hid (∀ (n : Int) (W : World), Calls Try.prog 22 #[.int .i64 n] W fun e w'' => e = .returned (.int .i64 (cut n)) ∧ W = w'') := Lib.hid (fun n W => Cut_c n W)
  clear hC hln
  go_enter Try.func65, Try.ntmps65
  go_wp2_with fail
  go_loopw [3, 8] (fun v i wr => ∃ k : Nat, k ≤ n ∧ i = .int .i64 k ∧ Hid (Kd.R k59 59 wr w.heap.size (fun _ => True) v ((l.take k).map cutR)) ∧ Hid (Below w.heap.size w wr)) (fun _ i _ => n - (RowKit.intOf i).toNat)
  case atStart => exact ⟨0, Nat.zero_le _, rfl, Kd.R_nil _ _ _ _ _, Below.refl _ _⟩
  case round =>
    obtain ⟨k, hk, rfl, hR, hB⟩ := hrel
    by_cases hlt : k < n
    · have hkl : k < l.length := by rw [LN.out]; exact hlt
      obtain ⟨ad, ea, x0, x1, x2, x3⟩ := at_T59 (Kd.C_below HC.out hB.out) (k : Int) (by omega) (by omega)
      subst ea
      rw [Int.toNat_natCast, rdLR l k hkl] at x0 x1 x2 x3
      have hsn : (l.take (k + 1)).map cutR = (l.take k).map cutR ++ [cutR l[k]] := by rw [List.take_succ_eq_append_getElem hkl, List.map_append]; rfl
      have hlk : ((l.take k).map cutR).length ≤ k := by rw [List.length_map]; exact List.length_take_le _ _
      generalize l[k] = r at *
      generalize (l.take k).map cutR = us at *
      obtain ⟨a, b, c1, d⟩ := r
      simp only at x0 x1 x2 x3
      have hcr : cutR ⟨a, b, c1, d⟩ = ⟨cut a, cut b, cut c1, cut d⟩ := rfl
      rw [hcr] at hsn
      have SN := Lib.hid hsn
      have hT := blk_new wr (.cells #[.int .i64 a, .int .i64 b, .int .i64 c1, .int .i64 d] 59)
      have hRS := Kd.R_below hR.out (below_alloc (Below.refl wr.heap.size wr) (.cells #[.int .i64 a, .int .i64 b, .int .i64 c1, .int .i64 d] 59)).drew
      have hBB := (below_then hB.out hB.out.size (below_alloc (Below.refl wr.heap.size wr) (.cells #[.int .i64 a, .int .i64 b, .int .i64 c1, .int .i64 d] 59))).drew
      have hSZ : (wr.alloc (.cells #[.int .i64 a, .int .i64 b, .int .i64 c1, .int .i64 d] 59)).drew.heap.size = wr.heap.size + 1 := by show (wr.alloc _).heap.size = _; simp
      have hLT := Kd.R_lt hR.out
      clear hsn hcr hkl
      go_wp2_with fail
      obtain ⟨bC, hbC⟩ : ∃ bC, wr.heap.size = bC := ⟨_, rfl⟩
      rw [hbC] at hT hSZ hLT ⊢
      generalize wr.alloc (.cells #[.int .i64 a, .int .i64 b, .int .i64 c1, .int .i64 d] 59) = WW at *
      have RS := Lib.hid hRS
      have BB := Lib.hid hBB
      have TW : Hid (WW.drew.heap[bC]? = some (.cells #[.int .i64 a, .int .i64 b, .int .i64 c1, .int .i64 d] 59 (0, 0))) := Lib.hid hT
      have SZ := Lib.hid hSZ
      have LT := Lib.hid hLT
      have HBC := Lib.hid hbC
      clear hT hRS hBB hSZ hLT hbC x0 x1 x2 x3
      refine wp_region_held_drew (S := fun W => W.heap[bC]? = some (.cells #[.int .i64 a, .int .i64 b, .int .i64 c1, .int .i64 d] 59 (0, 0))) (by kernel_rfl) TW.out (fun hHeld => ?_)
      refine wpAnyH_take (i := 0) (v := u3) rfl (by kernel_rfl) (by kernel_rfl) (by kernel_rfl) (fun _ _ _ h => h) (y_move (by rfl) rfl rfl) hHeld ?_
      try simp only [Act.put, List.getElem_toArray, List.getElem_cons_succ, List.getElem_cons_zero, List.setIfInBounds_toArray, List.set_cons_zero, List.set_cons_succ]
      refine wpAnyH_take (i := 1) (v := .pointer (some ⟨bC, 0, none⟩)) rfl (by kernel_rfl) (by kernel_rfl) (by kernel_rfl) (fun _ _ _ h => h) (y_field (by rfl) rfl rfl (fld_R_0 _)) hHeld ?_
      try simp only [Act.put, List.getElem_toArray, List.getElem_cons_succ, List.getElem_cons_zero, List.setIfInBounds_toArray, List.set_cons_zero, List.set_cons_succ]
      refine wpAnyH_take (i := 2) (v := .int .i64 a) rfl (by kernel_rfl) (by kernel_rfl) (by kernel_rfl) (fun _ _ _ h => h) (y_load (by rfl) rfl rfl (fun _ h => blk_cell h 0)) hHeld ?_
      try simp only [Act.put, List.getElem_toArray, List.getElem_cons_succ, List.getElem_cons_zero, List.setIfInBounds_toArray, List.set_cons_zero, List.set_cons_succ]
      refine wpAnyH_take (i := 4) (v := .pointer (some ⟨bC, 1, none⟩)) rfl (by kernel_rfl) (by kernel_rfl) (by kernel_rfl) (fun _ _ _ h => h) (y_field (by rfl) rfl rfl (fld_R_1 _)) hHeld ?_
      try simp only [Act.put, List.getElem_toArray, List.getElem_cons_succ, List.getElem_cons_zero, List.setIfInBounds_toArray, List.set_cons_zero, List.set_cons_succ]
      refine wpAnyH_take (i := 5) (v := .int .i64 b) rfl (by kernel_rfl) (by kernel_rfl) (by kernel_rfl) (fun _ _ _ h => h) (y_load (by rfl) rfl rfl (fun _ h => blk_cell h 1)) hHeld ?_
      try simp only [Act.put, List.getElem_toArray, List.getElem_cons_succ, List.getElem_cons_zero, List.setIfInBounds_toArray, List.set_cons_zero, List.set_cons_succ]
      refine wpAnyH_take (i := 7) (v := .pointer (some ⟨bC, 2, none⟩)) rfl (by kernel_rfl) (by kernel_rfl) (by kernel_rfl) (fun _ _ _ h => h) (y_field (by rfl) rfl rfl (fld_R_2 _)) hHeld ?_
      try simp only [Act.put, List.getElem_toArray, List.getElem_cons_succ, List.getElem_cons_zero, List.setIfInBounds_toArray, List.set_cons_zero, List.set_cons_succ]
      refine wpAnyH_take (i := 8) (v := .int .i64 c1) rfl (by kernel_rfl) (by kernel_rfl) (by kernel_rfl) (fun _ _ _ h => h) (y_load (by rfl) rfl rfl (fun _ h => blk_cell h 2)) hHeld ?_
      try simp only [Act.put, List.getElem_toArray, List.getElem_cons_succ, List.getElem_cons_zero, List.setIfInBounds_toArray, List.set_cons_zero, List.set_cons_succ]
      refine wpAnyH_take (i := 10) (v := .pointer (some ⟨bC, 3, none⟩)) rfl (by kernel_rfl) (by kernel_rfl) (by kernel_rfl) (fun _ _ _ h => h) (y_field (by rfl) rfl rfl (fld_R_3 _)) hHeld ?_
      try simp only [Act.put, List.getElem_toArray, List.getElem_cons_succ, List.getElem_cons_zero, List.setIfInBounds_toArray, List.set_cons_zero, List.set_cons_succ]
      refine wpAnyH_take (i := 11) (v := .int .i64 d) rfl (by kernel_rfl) (by kernel_rfl) (by kernel_rfl) (fun _ _ _ h => h) (y_load (by rfl) rfl rfl (fun _ h => blk_cell h 3)) hHeld ?_
      try simp only [Act.put, List.getElem_toArray, List.getElem_cons_succ, List.getElem_cons_zero, List.setIfInBounds_toArray, List.set_cons_zero, List.set_cons_succ]
      refine wpAnyH_ready (rs := [3]) (by kernel_rfl) (by simp) ?_
      refine AllReadyH.cons rfl (fun K hK => ?_) AllReadyH.nil
      try simp only [Act.put, List.getElem_toArray, List.getElem_cons_succ, List.getElem_cons_zero, List.setIfInBounds_toArray, List.set_cons_zero, List.set_cons_succ]
      try rw [if_pos (by rfl)]
      go_simp
      refine (CUT.out a _).mono ?_
      rintro e w' ⟨rfl, rfl⟩
      refine hK.out _ _ hHeld (fun hHeld => ?_)
      clear hK K
      try simp only [Act.put, List.getElem_toArray, List.getElem_cons_succ, List.getElem_cons_zero, List.setIfInBounds_toArray, List.set_cons_zero, List.set_cons_succ]
      refine wpAnyH_ready (rs := [6]) (by kernel_rfl) (by simp) ?_
      refine AllReadyH.cons rfl (fun K hK => ?_) AllReadyH.nil
      try simp only [Act.put, List.getElem_toArray, List.getElem_cons_succ, List.getElem_cons_zero, List.setIfInBounds_toArray, List.set_cons_zero, List.set_cons_succ]
      try rw [if_pos (by rfl)]
      go_simp
      refine (CUT.out b _).mono ?_
      rintro e w' ⟨rfl, rfl⟩
      refine hK.out _ _ hHeld (fun hHeld => ?_)
      clear hK K
      try simp only [Act.put, List.getElem_toArray, List.getElem_cons_succ, List.getElem_cons_zero, List.setIfInBounds_toArray, List.set_cons_zero, List.set_cons_succ]
      refine wpAnyH_ready (rs := [9]) (by kernel_rfl) (by simp) ?_
      refine AllReadyH.cons rfl (fun K hK => ?_) AllReadyH.nil
      try simp only [Act.put, List.getElem_toArray, List.getElem_cons_succ, List.getElem_cons_zero, List.setIfInBounds_toArray, List.set_cons_zero, List.set_cons_succ]
      try rw [if_pos (by rfl)]
      go_simp
      refine (CUT.out c1 _).mono ?_
      rintro e w' ⟨rfl, rfl⟩
      refine hK.out _ _ hHeld (fun hHeld => ?_)
      clear hK K
      try simp only [Act.put, List.getElem_toArray, List.getElem_cons_succ, List.getElem_cons_zero, List.setIfInBounds_toArray, List.set_cons_zero, List.set_cons_succ]
      refine wpAnyH_ready (rs := [12]) (by kernel_rfl) (by simp) ?_
      refine AllReadyH.cons rfl (fun K hK => ?_) AllReadyH.nil
      try simp only [Act.put, List.getElem_toArray, List.getElem_cons_succ, List.getElem_cons_zero, List.setIfInBounds_toArray, List.set_cons_zero, List.set_cons_succ]
      try rw [if_pos (by rfl)]
      go_simp
      refine (CUT.out d _).mono ?_
      rintro e w' ⟨rfl, rfl⟩
      refine hK.out _ _ hHeld (fun hHeld => ?_)
      clear hK K
      try simp only [Act.put, List.getElem_toArray, List.getElem_cons_succ, List.getElem_cons_zero, List.setIfInBounds_toArray, List.set_cons_zero, List.set_cons_succ]
      refine wpAnyH_take (i := 13) (v := .agg #[.int .i64 (cut a), .int .i64 (cut b), .int .i64 (cut c1), .int .i64 (cut d)]) rfl (by kernel_rfl) (by kernel_rfl) (by kernel_rfl) (fun _ _ _ h => h) (y_run (by rfl) (fun w _ => by unfold execOp; go_simp)) hHeld ?_
      try simp only [Act.put, List.getElem_toArray, List.getElem_cons_succ, List.getElem_cons_zero, List.setIfInBounds_toArray, List.set_cons_zero, List.set_cons_succ]
      refine wpAnyH_ready (rs := [14]) (by kernel_rfl) (by simp) ?_
      refine AllReadyH.cons rfl (fun K hK => ?_) AllReadyH.nil
      try simp only [Act.put, List.getElem_toArray, List.getElem_cons_succ, List.getElem_cons_zero, List.setIfInBounds_toArray, List.set_cons_zero, List.set_cons_succ]
      try rw [if_pos (by rfl)]
      go_simp
      refine hK.out _ _ (blk_alloc hHeld _) (fun hHeld => ?_)
      clear hK K
      try simp only [Act.put, List.getElem_toArray, List.getElem_cons_succ, List.getElem_cons_zero, List.setIfInBounds_toArray, List.set_cons_zero, List.set_cons_succ]
      refine wpAnyH_ready (rs := [15]) (by kernel_rfl) (by simp) ?_
      refine AllReadyH.cons rfl (fun K hK => ?_) AllReadyH.nil
      try simp only [Act.put, List.getElem_toArray, List.getElem_cons_succ, List.getElem_cons_zero, List.setIfInBounds_toArray, List.set_cons_zero, List.set_cons_succ]
      rw [if_pos (by rfl)]
      refine append_wp k59 (w0 := w) w.heap.size ?_ (.tmp 12) (.tmp 26) 72 59 _ 32 ?_ Try.underlying72 infoR rfl (by decide) (by decide) u3 us ⟨cut a, cut b, cut c1, cut d⟩ (lrV ⟨cut a, cut b, cut c1, cut d⟩) (fun _ => True) (fun _ => False) ?_ ?_ (k59_mkM _ _ _ _) (fun _ h => h.elim) (fun _ _ => trivial) RS.out BB.out BB.out.size (by omega) ?_
      · rfl
      · rfl
      · rfl
      · rfl
      intro v1 w6 hO1 hB1 hG1
      have hT6 : w6.heap[bC]? = some (.cells #[.int .i64 a, .int .i64 b, .int .i64 c1, .int .i64 d] 59 (0, 0)) := by
        rw [hG1.block bC (by rw [SZ.out]; omega) (fun e => by have := LT.out bC e.symm; omega)]
        exact TW.out
      have S6 := Lib.hid hO1
      have B6 := Lib.hid hB1
      clear hO1 hB1 hG1
      refine hK.out _ _ hT6 (fun hHeld => ?_)
      clear hK K
      try simp only [Act.put, List.getElem_toArray, List.getElem_cons_succ, List.getElem_cons_zero, List.setIfInBounds_toArray, List.set_cons_zero, List.set_cons_succ]
      clear hT6
      refine wpAnyH_take (i := 16) (v := v1) rfl (by kernel_rfl) (by kernel_rfl) (by kernel_rfl) (fun _ _ _ h => h) (y_assign (by rfl) rfl rfl) hHeld ?_
      try simp only [Act.put, List.getElem_toArray, List.getElem_cons_succ, List.getElem_cons_zero, List.setIfInBounds_toArray, List.set_cons_zero, List.set_cons_succ]
      refine wpAnyH_done (by kernel_rfl) ?_ _
      clear hHeld
      have hbC := HBC.out
      subst hbC
      clear HBC TW RS BB LT
      go_wp2_with fail
      go_roundw
      case rel => exact ⟨k + 1, by omega, by go_num, by rw [SN.out]; exact S6.out, B6.out⟩
      case measure => simp [RowKit.intOf]; omega
    · obtain rfl : k = n := by omega
      have hkn : l.take k = l := List.take_of_length_le (by rw [LN.out]; exact Nat.le_refl _)
      rw [hkn] at hR
      have POST : Hid (DCutPost l w (.returned u3) wr) := Lib.hid ⟨_, rfl, hR.out, hB.out⟩
      clear hkn
      go_wp2_with fail
      go_ret
      exact POST.out
end Go.Proofs.Ytfkgpkkjiolfpaa.Ras
