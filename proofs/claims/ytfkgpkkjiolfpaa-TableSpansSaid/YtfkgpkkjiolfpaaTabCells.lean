/- Package table: the cells of rows. -/
import Derived.Test.YtfkgpkkjiolfpaaTabKinds
import Derived.Deep.CutRange
import Derived.Deep.RegionWith
import Derived.Deep.RegionHeld3
namespace Go.Proofs.Ytfkgpkkjiolfpaa.Tab
open Go.RowKit Go.Lib Go.Proofs.Ytfkgpkkjiolfpaa.Pl Go.Proofs.Ytfkgpkkjiolfpaa.Fx Go.Proofs.Ytfkgpkkjiolfpaa.Sh Go.Proofs.Ytfkgpkkjiolfpaa.Sm Go.Proofs.Ytfkgpkkjiolfpaa.Rgn Go.Proofs.Ytfkgpkkjiolfpaa.Blk Go.Proofs.Ytfkgpkkjiolfpaa.Tab Go.Proofs.YtfkgpkkjiolfpaaW.PrintWords Go.Proofs.YtfkgpkkjiolfpaaW.PrintLast Go.Proofs.YtfkgpkkjiolfpaaW.PrintMore
set_option linter.unusedVariables false
set_option linter.unusedSimpArgs false
attribute [local go_sem] mx2 mn2 mx_two mn_two mx_three mn_three

theorem infoCe : (Try.prog.info? 108).map (fun i => (i.zero, i.size, i.bytes)) = some (some (.agg #[.int .i64 0, .int .i64 0, .int .i64 0, .int .i64 0]), k108.sz, 32) := by kernel_rfl
abbrev kRow : Kd (List LC) := Kd.slice 50 k50
theorem rowAt {w : World} {A : Option Addr} {n : Nat} {rows : List (List LC)} (h : Kd.C kRow w A n rows) (i : Nat) (hi : i < n) :
    ∃ ad Ar cr, A = some ad ∧ w.cell? (ad.add i) = some (.slice Ar (rows.getD i []).length cr) ∧ (rows.getD i []).length ≤ cr ∧ Kd.C k50 w Ar (rows.getD i []).length (rows.getD i []) := by
  obtain ⟨ad, c, e, _, hK, hc0⟩ := Kd.C_get h [] (i : Int) (by omega) (by omega)
  rw [Int.toNat_natCast] at hK hc0
  obtain ⟨Ar, cr, rfl, hle, hC⟩ := hK
  have h1 := hc0 0 _ rfl
  refine ⟨ad, Ar, cr, e, ?_, hle, hC⟩
  have h2 : i * kRow.sz + 0 = i := by show i * 1 + 0 = i; omega
  rw [h2] at h1
  exact h1
def CellsPost (rows : List (List LC)) (w : World) (e : Ending) (w' : World) : Prop := ∃ v, e = .returned (.tuple #[v, .int .i64 (manyP rows 0)]) ∧ Kd.R k108 108 w' w.heap.size (fun _ => True) v (cellsP rows) ∧ Below w.heap.size w w'
set_option maxRecDepth 1000000 in
set_option maxHeartbeats 4000000 in
theorem cells_c (A : Option Addr) (n c : Nat) (rows : List (List LC)) (w : World) (hC : Kd.C kRow w A n rows) (hn : n ≤ 1000) :
    Calls Try.prog 56 #[.slice A n c] w (CellsPost rows w) := by
  have hln : rows.length = n := hC.1
  have HC := Lib.hid hC
  have LN := Lib.hid hln
  clear hC hln
  go_enter Try.func56, Try.ntmps56
  go_wp2_with fail
  go_loopw [2, 3, 12] (fun v m i wr => ∃ (k : Nat) (O : List Ce) (mm : Int), k ≤ n ∧ i = .int .i64 k ∧ m = .int .i64 mm ∧ O.length ≤ k * 100 ∧ 0 ≤ mm ∧ Hid (O ++ cellsP (rows.drop k) = cellsP rows) ∧ Hid (manyP (rows.drop k) mm = manyP rows 0) ∧ Hid (Kd.R k108 108 wr w.heap.size (fun _ => True) v O) ∧ Hid (Below w.heap.size w wr)) (fun _ _ i _ => n - (RowKit.intOf i).toNat)
  case atStart => exact ⟨0, [], 0, Nat.zero_le _, rfl, rfl, Nat.zero_le _, by omega, rfl, rfl, Kd.R_nil _ _ _ _ _, Below.refl _ _⟩
  case round =>
    obtain ⟨k, O, mm, hk, rfl, rfl, hOl, hmm, hF, hM, hR, hB⟩ := hrel
    by_cases hlt : k < n
    · obtain ⟨ad, Ar, cr, ea, hx0, hle, hCr⟩ := rowAt HC.out k hlt
      subst ea
      have hx := (hB.out.cell (World.block_lt_of_cell? w _ hx0)).trans hx0
      clear hx0
      have hdk : rows.drop k = rows.getD k [] :: rows.drop (k + 1) := by
        rw [List.drop_eq_getElem_cons (by rw [LN.out]; exact hlt)]
        simp [List.getD_eq_getElem?_getD, show k < rows.length by rw [LN.out]; exact hlt]
      have hF2 : O ++ rowP (rows.getD k []) 0 ++ cellsP (rows.drop (k + 1)) = cellsP rows := by
        rw [← hF.out, hdk, cellsP, cellsP, List.flatMap_cons, List.append_assoc]
      have hM2 : manyP (rows.drop (k + 1)) (max mm (rowEnd (rows.getD k []) 0)) = manyP rows 0 := by
        rw [← hM.out, hdk, manyP, manyP, List.foldl_cons]
      generalize rows.getD k [] = l at *
      have HF := Lib.hid hF2
      have HM := Lib.hid hM2
      have HR := Lib.hid hCr
      clear hF hM hF2 hM2 hdk hCr
      go_wp2_with fail
      obtain ⟨W1, hW1⟩ : ∃ W : World, W = wr := ⟨_, rfl⟩
      subst hW1
      go_loopw [2, 6, 18] (fun v a i wr => ∃ (j : Nat) (P : List Ce) (aa : Int), j ≤ l.length ∧ i = .int .i64 j ∧ a = .int .i64 aa ∧ (0 ≤ aa ∧ aa ≤ 100) ∧ P.length ≤ aa.toNat ∧ Hid (P ++ rowP (l.drop j) aa = rowP l 0) ∧ Hid (rowEnd (l.drop j) aa = rowEnd l 0) ∧ Hid (Kd.R k108 108 wr w.heap.size (fun _ => True) v (O ++ P)) ∧ Hid (Below w.heap.size w wr)) (fun _ _ i _ => l.length - (RowKit.intOf i).toNat)
      case atStart => exact ⟨0, [], 0, Nat.zero_le _, rfl, rfl, ⟨by omega, by omega⟩, Nat.zero_le _, rfl, rfl, by rw [List.append_nil]; exact hR, hB⟩
      case round =>
        obtain ⟨j, P, aa, hj, rfl, rfl, ha, hPl, hF, hM, hR2, hB2⟩ := hrel
        by_cases hlt2 : j < l.length
        · have hjl := hlt2
          have hdj : l.drop j = l[j] :: l.drop (j + 1) := List.drop_eq_getElem_cons hlt2
          obtain ⟨a1, e1, x0, x1, x2⟩ := at_T50 (Kd.C_below HR.out hB2.out) (j : Int) (by omega) (by omega)
          subst e1
          have hrd : rd_T50 l (j : Int) = l[j] := by simp [rd_T50, List.getD_eq_getElem?_getD, hjl]
          rw [Int.toNat_natCast, hrd] at x0 x1 x2
          have hF1 := hF.out
          have hM1 := hM.out
          rw [hdj] at hF1 hM1
          generalize l[j] = x at *
          clear hdj hrd hF hM
          by_cases h100 : 100 ≤ aa
          · rw [rowP, if_pos h100, List.append_nil] at hF1
            rw [rowEnd, if_pos h100] at hM1
            have n1 : decide (100 ≤ aa) = true := decide_eq_true h100
            have FP := Lib.hid hF1
            have ME := Lib.hid hM1
            obtain ⟨b0, b1, b2⟩ := x
            simp only at x0 x1 x2
            have RA : Hid (∀ o, Kd.R k108 108 (wr.alloc o) w.heap.size (fun _ => True) u2 (O ++ P)) := Lib.hid fun o => Kd.R_alloc hR2.out o
            have BA : Hid (∀ o, Below w.heap.size w (wr.alloc o)) := Lib.hid fun o => below_alloc hB2.out o
            clear hF1 hM1 hR2 hB2 hR hB
            go_wp2_with fail
            go_roundw
            case rel => exact ⟨k + 1, O ++ P, max mm aa, by omega, by go_num, by go_num, by rw [List.length_append]; omega, by omega, by rw [FP.out]; exact HF.out, by rw [ME.out]; exact HM.out, RA.out _, BA.out _⟩
            case measure => simp [RowKit.intOf]; omega
          · rw [rowP, if_neg h100] at hF1
            rw [rowEnd, if_neg h100] at hM1
            have n1 : decide (100 ≤ aa) = false := decide_eq_false h100
            have hsp := span_bd x aa (by omega)
            have F2 : Hid ((P ++ [cellP x aa]) ++ rowP (l.drop (j + 1)) (aa + spanP x aa) = rowP l 0) := Lib.hid (by rw [List.append_assoc, List.singleton_append]; exact hF1)
            have M2 := Lib.hid hM1
            obtain ⟨b0, b1, b2⟩ := x
            simp only at x0 x1 x2
            have hlm := HR.out.2.1
            have hcb0 := cut_bd b0
            have hcb1 := cut_bd b1
            have RB : Hid (∀ o o2, Kd.R k108 108 ((wr.alloc o).alloc o2) w.heap.size (fun _ => True) u2 (O ++ P)) := Lib.hid fun o o2 => Kd.R_alloc (Kd.R_alloc hR2.out o) o2
            have BB : Hid (∀ o o2, Below w.heap.size w ((wr.alloc o).alloc o2)) := Lib.hid fun o o2 => below_alloc (below_alloc hB2.out o) o2
            clear hF1 hM1 hR hB
            go_upto_region 9 with fail
            go_cut [9, 18] from 18 to 53 (fun s9 s18 wx => s9 = .pointer (some ⟨wr.heap.size + 1, 0, none⟩) ∧ s18 = .int .i64 j ∧ ∃ q, wx = (((wr.alloc (.cells #[.int .i64 b0, .int .i64 b1, .int .i64 b2] 50)).alloc (.cells #[.int .i64 (max 0 (cut b0)), .int .i64 (cut b1), .int .i64 aa, .int .i64 (min (max 1 b2) (min 50 (100 - aa)))] 108))).drewN q)
            case first =>
              have hk0 : (wr.alloc (.cells #[.int .i64 b0, .int .i64 b1, .int .i64 b2] 50)).drew.heap[wr.heap.size]? = some (.cells #[.int .i64 b0, .int .i64 b1, .int .i64 b2] 50 (0, 0)) := blk_drew (blk_new wr _)
              have hsz : (wr.alloc (.cells #[.int .i64 b0, .int .i64 b1, .int .i64 b2] 50)).heap.size = wr.heap.size + 1 := World.size_alloc _ _
              have CUT : Hid (∀ (n : Int) W, Calls Try.prog 22 #[.int .i64 n] W fun e w'' => e = .returned (.int .i64 (cut n)) ∧ w'' = W) := Lib.hid (fun n W => (Cut_c n W).mono fun e w' h => ⟨h.1, h.2.symm⟩)
              clear RB BB hR2 hB2 x0 x1 x2 F2 M2 HF HM HC
              obtain ⟨b, hb⟩ : ∃ b, wr.heap.size = b := ⟨_, rfl⟩
              rw [hb] at hk0 hsz ⊢
              generalize wr.alloc (.cells #[.int .i64 b0, .int .i64 b1, .int .i64 b2] 50) = w2 at *
              have TW := Lib.hid hk0
              clear hk0
              refine wp_region_held_drew (S := fun W => W.heap[b]? = some (.cells #[.int .i64 b0, .int .i64 b1, .int .i64 b2] 50 (0, 0))) (by kernel_rfl) TW.out (fun hHeld => ?_)
              refine wpAnyH_take (i := 0) (v := .pointer (some ⟨b, 0, none⟩)) rfl (by kernel_rfl) (by kernel_rfl) (by kernel_rfl) (fun _ _ _ h => h) (y_run (by rfl) (fun w _ => by unfold execOp; go_simp)) hHeld ?_
              try simp only [Act.put, List.getElem_toArray, List.getElem_cons_succ, List.getElem_cons_zero, List.setIfInBounds_toArray, List.set_cons_zero, List.set_cons_succ]
              refine wpAnyH_take (i := 1) (v := .int .i64 b0) rfl (by kernel_rfl) (by kernel_rfl) (by kernel_rfl) (fun _ _ _ h => h) (y_load (by rfl) rfl rfl (fun _ h => blk_cell h 0)) hHeld ?_
              try simp only [Act.put, List.getElem_toArray, List.getElem_cons_succ, List.getElem_cons_zero, List.setIfInBounds_toArray, List.set_cons_zero, List.set_cons_succ]
              refine wpAnyH_take (i := 4) (v := .pointer (some ⟨b, 1, none⟩)) rfl (by kernel_rfl) (by kernel_rfl) (by kernel_rfl) (fun _ _ _ h => h) (y_run (by rfl) (fun w _ => by unfold execOp; go_simp)) hHeld ?_
              try simp only [Act.put, List.getElem_toArray, List.getElem_cons_succ, List.getElem_cons_zero, List.setIfInBounds_toArray, List.set_cons_zero, List.set_cons_succ]
              refine wpAnyH_take (i := 5) (v := .int .i64 b1) rfl (by kernel_rfl) (by kernel_rfl) (by kernel_rfl) (fun _ _ _ h => h) (y_load (by rfl) rfl rfl (fun _ h => blk_cell h 1)) hHeld ?_
              try simp only [Act.put, List.getElem_toArray, List.getElem_cons_succ, List.getElem_cons_zero, List.setIfInBounds_toArray, List.set_cons_zero, List.set_cons_succ]
              refine wpAnyH_take (i := 7) (v := .int .i64 aa) rfl (by kernel_rfl) (by kernel_rfl) (by kernel_rfl) (fun _ _ _ h => h) (y_move (by rfl) rfl rfl) hHeld ?_
              try simp only [Act.put, List.getElem_toArray, List.getElem_cons_succ, List.getElem_cons_zero, List.setIfInBounds_toArray, List.set_cons_zero, List.set_cons_succ]
              refine wpAnyH_take (i := 8) (v := .pointer (some ⟨b, 2, none⟩)) rfl (by kernel_rfl) (by kernel_rfl) (by kernel_rfl) (fun _ _ _ h => h) (y_run (by rfl) (fun w _ => by unfold execOp; go_simp)) hHeld ?_
              try simp only [Act.put, List.getElem_toArray, List.getElem_cons_succ, List.getElem_cons_zero, List.setIfInBounds_toArray, List.set_cons_zero, List.set_cons_succ]
              refine wpAnyH_take (i := 9) (v := .int .i64 b2) rfl (by kernel_rfl) (by kernel_rfl) (by kernel_rfl) (fun _ _ _ h => h) (y_load (by rfl) rfl rfl (fun _ h => blk_cell h 2)) hHeld ?_
              try simp only [Act.put, List.getElem_toArray, List.getElem_cons_succ, List.getElem_cons_zero, List.setIfInBounds_toArray, List.set_cons_zero, List.set_cons_succ]
              refine wpAnyH_take (i := 10) (v := .int .i64 (max 1 b2)) rfl (by kernel_rfl) (by kernel_rfl) (by kernel_rfl) (fun _ _ _ h => h) (y_run (by rfl) (fun w _ => by unfold execOp; go_simp)) hHeld ?_
              try simp only [Act.put, List.getElem_toArray, List.getElem_cons_succ, List.getElem_cons_zero, List.setIfInBounds_toArray, List.set_cons_zero, List.set_cons_succ]
              refine wpAnyH_take (i := 11) (v := .int .i64 aa) rfl (by kernel_rfl) (by kernel_rfl) (by kernel_rfl) (fun _ _ _ h => h) (y_move (by rfl) rfl rfl) hHeld ?_
              try simp only [Act.put, List.getElem_toArray, List.getElem_cons_succ, List.getElem_cons_zero, List.setIfInBounds_toArray, List.set_cons_zero, List.set_cons_succ]
              refine wpAnyH_take (i := 12) (v := .int .i64 (100 - aa)) rfl (by kernel_rfl) (by kernel_rfl) (by kernel_rfl) (fun _ _ _ h => h) (y_sub (by rfl) rfl rfl rfl rfl (by omega) (by omega)) hHeld ?_
              try simp only [Act.put, List.getElem_toArray, List.getElem_cons_succ, List.getElem_cons_zero, List.setIfInBounds_toArray, List.set_cons_zero, List.set_cons_succ]
              refine wpAnyH_take (i := 13) (v := .int .i64 (min (max 1 b2) (min 50 (100 - aa)))) rfl (by kernel_rfl) (by kernel_rfl) (by kernel_rfl) (fun _ _ _ h => h) (y_run (by rfl) (fun w _ => by unfold execOp; go_simp)) hHeld ?_
              try simp only [Act.put, List.getElem_toArray, List.getElem_cons_succ, List.getElem_cons_zero, List.setIfInBounds_toArray, List.set_cons_zero, List.set_cons_succ]
              refine wpAnyH_ready (rs := [2, 15]) (by kernel_rfl) (by simp) ?_
              refine AllReadyH.cons rfl (fun K hK => ?_) (AllReadyH.cons rfl (fun K hK => ?_) AllReadyH.nil)
              · skip
                try simp only [Act.put, List.getElem_toArray, List.getElem_cons_succ, List.getElem_cons_zero, List.setIfInBounds_toArray, List.set_cons_zero, List.set_cons_succ]
                try rw [if_pos (by rfl)]
                go_simp
                refine (CUT.out b0 _).mono ?_
                rintro e w' ⟨rfl, rfl⟩
                refine hK.out _ _ hHeld (fun hHeld => ?_)
                clear hK K
                try simp only [Act.put, List.getElem_toArray, List.getElem_cons_succ, List.getElem_cons_zero, List.setIfInBounds_toArray, List.set_cons_zero, List.set_cons_succ]
                refine wpAnyH_take (i := 3) (v := .int .i64 (max 0 (cut b0))) rfl (by kernel_rfl) (by kernel_rfl) (by kernel_rfl) (fun _ _ _ h => h) (y_run (by rfl) (fun w _ => by unfold execOp; go_simp)) hHeld ?_
                try simp only [Act.put, List.getElem_toArray, List.getElem_cons_succ, List.getElem_cons_zero, List.setIfInBounds_toArray, List.set_cons_zero, List.set_cons_succ]
                refine wpAnyH_ready (rs := [6, 15]) (by kernel_rfl) (by simp) ?_
                refine AllReadyH.cons rfl (fun K hK => ?_) (AllReadyH.cons rfl (fun K hK => ?_) AllReadyH.nil)
                · skip
                  try simp only [Act.put, List.getElem_toArray, List.getElem_cons_succ, List.getElem_cons_zero, List.setIfInBounds_toArray, List.set_cons_zero, List.set_cons_succ]
                  try rw [if_pos (by rfl)]
                  go_simp
                  refine (CUT.out b1 _).mono ?_
                  rintro e w' ⟨rfl, rfl⟩
                  refine hK.out _ _ hHeld (fun hHeld => ?_)
                  clear hK K
                  try simp only [Act.put, List.getElem_toArray, List.getElem_cons_succ, List.getElem_cons_zero, List.setIfInBounds_toArray, List.set_cons_zero, List.set_cons_succ]
                  refine wpAnyH_take (i := 14) (v := .agg #[.int .i64 (max 0 (cut b0)), .int .i64 (cut b1), .int .i64 aa, .int .i64 (min (max 1 b2) (min 50 (100 - aa)))]) rfl (by kernel_rfl) (by kernel_rfl) (by kernel_rfl) (fun _ _ _ h => h) (y_run (by rfl) (fun w _ => by unfold execOp; go_simp)) hHeld ?_
                  try simp only [Act.put, List.getElem_toArray, List.getElem_cons_succ, List.getElem_cons_zero, List.setIfInBounds_toArray, List.set_cons_zero, List.set_cons_succ]
                  refine wpAnyH_ready (rs := [15]) (by kernel_rfl) (by simp) ?_
                  refine AllReadyH.cons rfl (fun K hK => ?_) AllReadyH.nil
                  try simp only [Act.put, List.getElem_toArray, List.getElem_cons_succ, List.getElem_cons_zero, List.setIfInBounds_toArray, List.set_cons_zero, List.set_cons_succ]
                  try rw [if_pos (by rfl)]
                  go_simp
                  refine hK.out _ _ (blk_alloc hHeld _) (fun hHeld => ?_)
                  clear hK K
                  try simp only [Act.put, List.getElem_toArray, List.getElem_cons_succ, List.getElem_cons_zero, List.setIfInBounds_toArray, List.set_cons_zero, List.set_cons_succ]
                  refine wpAnyH_ready (rs := [16]) (by kernel_rfl) (by simp) ?_
                  refine AllReadyH.cons rfl (fun K hK => ?_) AllReadyH.nil
                  try simp only [Act.put, List.getElem_toArray, List.getElem_cons_succ, List.getElem_cons_zero, List.setIfInBounds_toArray, List.set_cons_zero, List.set_cons_succ]
                  try rw [if_pos (by rfl)]
                  go_simp
                  refine hK.out _ _ (blk_alloc TW.out _) (fun hHeld => ?_)
                  clear hK K
                  try simp only [Act.put, List.getElem_toArray, List.getElem_cons_succ, List.getElem_cons_zero, List.setIfInBounds_toArray, List.set_cons_zero, List.set_cons_succ]
                  refine wpAnyH_done (by kernel_rfl) ?_ _
                  clear hHeld
                  subst hb
                  go_wp2_with fail
                  go_meet
                  case rel => exact ⟨rfl, rfl, 1, rfl⟩
                · skip
                  try simp only [Act.put, List.getElem_toArray, List.getElem_cons_succ, List.getElem_cons_zero, List.setIfInBounds_toArray, List.set_cons_zero, List.set_cons_succ]
                  try rw [if_pos (by rfl)]
                  go_simp
                  refine hK.out _ _ (blk_alloc hHeld _) (fun hHeld => ?_)
                  clear hK K
                  try simp only [Act.put, List.getElem_toArray, List.getElem_cons_succ, List.getElem_cons_zero, List.setIfInBounds_toArray, List.set_cons_zero, List.set_cons_succ]
                  refine wpAnyH_ready (rs := [6]) (by kernel_rfl) (by simp) ?_
                  refine AllReadyH.cons rfl (fun K hK => ?_) AllReadyH.nil
                  try simp only [Act.put, List.getElem_toArray, List.getElem_cons_succ, List.getElem_cons_zero, List.setIfInBounds_toArray, List.set_cons_zero, List.set_cons_succ]
                  try rw [if_pos (by rfl)]
                  go_simp
                  refine (CUT.out b1 _).mono ?_
                  rintro e w' ⟨rfl, rfl⟩
                  refine hK.out _ _ hHeld (fun hHeld => ?_)
                  clear hK K
                  try simp only [Act.put, List.getElem_toArray, List.getElem_cons_succ, List.getElem_cons_zero, List.setIfInBounds_toArray, List.set_cons_zero, List.set_cons_succ]
                  refine wpAnyH_take (i := 14) (v := .agg #[.int .i64 (max 0 (cut b0)), .int .i64 (cut b1), .int .i64 aa, .int .i64 (min (max 1 b2) (min 50 (100 - aa)))]) rfl (by kernel_rfl) (by kernel_rfl) (by kernel_rfl) (fun _ _ _ h => h) (y_run (by rfl) (fun w _ => by unfold execOp; go_simp)) hHeld ?_
                  try simp only [Act.put, List.getElem_toArray, List.getElem_cons_succ, List.getElem_cons_zero, List.setIfInBounds_toArray, List.set_cons_zero, List.set_cons_succ]
                  refine wpAnyH_ready (rs := [16]) (by kernel_rfl) (by simp) ?_
                  refine AllReadyH.cons rfl (fun K hK => ?_) AllReadyH.nil
                  try simp only [Act.put, List.getElem_toArray, List.getElem_cons_succ, List.getElem_cons_zero, List.setIfInBounds_toArray, List.set_cons_zero, List.set_cons_succ]
                  try rw [if_pos (by rfl)]
                  go_simp
                  refine hK.out _ _ (blk_alloc TW.out _) (fun hHeld => ?_)
                  clear hK K
                  try simp only [Act.put, List.getElem_toArray, List.getElem_cons_succ, List.getElem_cons_zero, List.setIfInBounds_toArray, List.set_cons_zero, List.set_cons_succ]
                  refine wpAnyH_done (by kernel_rfl) ?_ _
                  clear hHeld
                  subst hb
                  go_wp2_with fail
                  go_meet
                  case rel => exact ⟨rfl, rfl, 1, rfl⟩
              · skip
                try simp only [Act.put, List.getElem_toArray, List.getElem_cons_succ, List.getElem_cons_zero, List.setIfInBounds_toArray, List.set_cons_zero, List.set_cons_succ]
                try rw [if_pos (by rfl)]
                go_simp
                refine hK.out _ _ (blk_alloc hHeld _) (fun hHeld => ?_)
                clear hK K
                try simp only [Act.put, List.getElem_toArray, List.getElem_cons_succ, List.getElem_cons_zero, List.setIfInBounds_toArray, List.set_cons_zero, List.set_cons_succ]
                refine wpAnyH_ready (rs := [2]) (by kernel_rfl) (by simp) ?_
                refine AllReadyH.cons rfl (fun K hK => ?_) AllReadyH.nil
                try simp only [Act.put, List.getElem_toArray, List.getElem_cons_succ, List.getElem_cons_zero, List.setIfInBounds_toArray, List.set_cons_zero, List.set_cons_succ]
                try rw [if_pos (by rfl)]
                go_simp
                refine (CUT.out b0 _).mono ?_
                rintro e w' ⟨rfl, rfl⟩
                refine hK.out _ _ hHeld (fun hHeld => ?_)
                clear hK K
                try simp only [Act.put, List.getElem_toArray, List.getElem_cons_succ, List.getElem_cons_zero, List.setIfInBounds_toArray, List.set_cons_zero, List.set_cons_succ]
                refine wpAnyH_take (i := 3) (v := .int .i64 (max 0 (cut b0))) rfl (by kernel_rfl) (by kernel_rfl) (by kernel_rfl) (fun _ _ _ h => h) (y_run (by rfl) (fun w _ => by unfold execOp; go_simp)) hHeld ?_
                try simp only [Act.put, List.getElem_toArray, List.getElem_cons_succ, List.getElem_cons_zero, List.setIfInBounds_toArray, List.set_cons_zero, List.set_cons_succ]
                refine wpAnyH_ready (rs := [6]) (by kernel_rfl) (by simp) ?_
                refine AllReadyH.cons rfl (fun K hK => ?_) AllReadyH.nil
                try simp only [Act.put, List.getElem_toArray, List.getElem_cons_succ, List.getElem_cons_zero, List.setIfInBounds_toArray, List.set_cons_zero, List.set_cons_succ]
                try rw [if_pos (by rfl)]
                go_simp
                refine (CUT.out b1 _).mono ?_
                rintro e w' ⟨rfl, rfl⟩
                refine hK.out _ _ hHeld (fun hHeld => ?_)
                clear hK K
                try simp only [Act.put, List.getElem_toArray, List.getElem_cons_succ, List.getElem_cons_zero, List.setIfInBounds_toArray, List.set_cons_zero, List.set_cons_succ]
                refine wpAnyH_take (i := 14) (v := .agg #[.int .i64 (max 0 (cut b0)), .int .i64 (cut b1), .int .i64 aa, .int .i64 (min (max 1 b2) (min 50 (100 - aa)))]) rfl (by kernel_rfl) (by kernel_rfl) (by kernel_rfl) (fun _ _ _ h => h) (y_run (by rfl) (fun w _ => by unfold execOp; go_simp)) hHeld ?_
                try simp only [Act.put, List.getElem_toArray, List.getElem_cons_succ, List.getElem_cons_zero, List.setIfInBounds_toArray, List.set_cons_zero, List.set_cons_succ]
                refine wpAnyH_ready (rs := [16]) (by kernel_rfl) (by simp) ?_
                refine AllReadyH.cons rfl (fun K hK => ?_) AllReadyH.nil
                try simp only [Act.put, List.getElem_toArray, List.getElem_cons_succ, List.getElem_cons_zero, List.setIfInBounds_toArray, List.set_cons_zero, List.set_cons_succ]
                try rw [if_pos (by rfl)]
                go_simp
                refine hK.out _ _ (blk_alloc TW.out _) (fun hHeld => ?_)
                clear hK K
                try simp only [Act.put, List.getElem_toArray, List.getElem_cons_succ, List.getElem_cons_zero, List.setIfInBounds_toArray, List.set_cons_zero, List.set_cons_succ]
                refine wpAnyH_done (by kernel_rfl) ?_ _
                clear hHeld
                subst hb
                go_wp2_with fail
                go_meet
                case rel => exact ⟨rfl, rfl, 1, rfl⟩
            case rest =>
              obtain ⟨rfl, rfl, q, rfl⟩ := hcut
              clear x0 x1 x2 RB BB
              have hBY0 := ((pw_below_drewN (below_alloc (below_alloc (Below.refl wr.heap.size wr) (.cells #[.int .i64 b0, .int .i64 b1, .int .i64 b2] 50)) (.cells #[.int .i64 (max 0 (cut b0)), .int .i64 (cut b1), .int .i64 aa, .int .i64 (min (max 1 b2) (min 50 (100 - aa)))] 108)) q).setCell (p := ⟨wr.heap.size + 1, 1, none⟩) (Nat.le_succ _) (.int .i64 (max (cut b1) (max 0 (cut b0)))))
              have hkX : (((wr.alloc (.cells #[.int .i64 b0, .int .i64 b1, .int .i64 b2] 50)).alloc (.cells #[.int .i64 (max 0 (cut b0)), .int .i64 (cut b1), .int .i64 aa, .int .i64 (min (max 1 b2) (min 50 (100 - aa)))] 108)).drewN q).heap[wr.heap.size + 1]? = some (.cells #[.int .i64 (max 0 (cut b0)), .int .i64 (cut b1), .int .i64 aa, .int .i64 (min (max 1 b2) (min 50 (100 - aa)))] 108 (0, 0)) := by
                have h := blk_new (wr.alloc (.cells #[.int .i64 b0, .int .i64 b1, .int .i64 b2] 50)) (.cells #[.int .i64 (max 0 (cut b0)), .int .i64 (cut b1), .int .i64 aa, .int .i64 (min (max 1 b2) (min 50 (100 - aa)))] 108)
                rw [World.size_alloc] at h
                exact h
              have hkY := blk_set hkX 1 (.int .i64 (max (cut b1) (max 0 (cut b0))))
              have hRY := Kd.R_below hR2.out hBY0
              have hBB := below_then hB2.out hB2.out.size hBY0
              have HLT : Hid (∀ k, u2.ownBlock = some k → k < wr.heap.size) := Lib.hid (by obtain ⟨inner, ho⟩ := Kd.R_own hR2.out; exact own_lt ho)
              have KY := Lib.hid hkY
              have RY := Lib.hid hRY
              have BY := Lib.hid hBB
              have hol : (O ++ P).length ≤ 100000000 := by rw [List.length_append]; omega
              have hcell : cellP ⟨b0, b1, b2⟩ aa = ⟨max 0 (cut b0), max (cut b1) (max 0 (cut b0)), aa, min (max 1 b2) (min 50 (100 - aa))⟩ := rfl
              have hspan : spanP ⟨b0, b1, b2⟩ aa = min (max 1 b2) (min 50 (100 - aa)) := rfl
              rw [hspan] at hsp
              rw [hcell, hspan] at F2
              rw [hspan] at M2
              clear hcell hspan hkX hkY hRY hBB hBY0 hR2 hB2
              go_wp2_with (at_builtin; go_loud (refine Kd.R_append k108 (w0 := w) (W := ((((wr.alloc (.cells #[.int .i64 b0, .int .i64 b1, .int .i64 b2] 50)).alloc (.cells #[.int .i64 (max 0 (cut b0)), .int .i64 (cut b1), .int .i64 aa, .int .i64 (min (max 1 b2) (min 50 (100 - aa)))] 108)).drewN q).setCell ⟨wr.heap.size + 1, 1, none⟩ (.int .i64 (max (cut b1) (max 0 (cut b0)))))) w.heap.size rfl (.tmp 45) (.tmp 47) 103 108 _ 32 rfl Try.underlying103 infoCe rfl (by decide) (by decide) _ (O ++ P) ⟨max 0 (cut b0), max (cut b1) (max 0 (cut b0)), aa, min (max 1 b2) (min 50 (100 - aa))⟩ [.int .i64 (max 0 (cut b0)), .int .i64 (max (cut b1) (max 0 (cut b0))), .int .i64 aa, .int .i64 (min (max 1 b2) (min 50 (100 - aa)))] (fun _ => True) (fun _ => False) rfl (by show Value.slice (some ⟨wr.heap.size + 1 + 1, 0, none⟩) 1 1 = _; simp [World.size_alloc]) (ceMk _ _ _ ⟨max 0 (cut b0), max (cut b1) (max 0 (cut b0)), aa, min (max 1 b2) (min 50 (100 - aa))⟩) (fun _ h => h.elim) (fun _ _ => trivial) RY.out BY.out BY.out.size (by omega) ?_); intro v1 w3 hO1 hB1 hG1 hat1; rw [List.append_assoc] at hO1; have O1 := Lib.hid hO1; have B1 := Lib.hid hB1; go_loud (have y3 : w3.cell? ⟨wr.heap.size + 1, 3, none⟩ = some (.int .i64 (min (max 1 b2) (min 50 (100 - aa)))) := blk_cell (blk_grown KY.out hG1 (fun e => by have := HLT.out _ e.symm; omega)) 3); clear hO1 hB1 hG1 hat1)
              go_roundw
              case rel => exact ⟨j + 1, P ++ [⟨max 0 (cut b0), max (cut b1) (max 0 (cut b0)), aa, min (max 1 b2) (min 50 (100 - aa))⟩], aa + min (max 1 b2) (min 50 (100 - aa)), by omega, by go_num, by go_num, by omega, by rw [List.length_append, List.length_singleton]; omega, F2, M2, O1, B1⟩
              case measure => simp [RowKit.intOf]; omega
        · obtain rfl : j = l.length := by omega
          have hF1 := hF.out
          have hM1 := hM.out
          rw [List.drop_length, rowP, List.append_nil] at hF1
          rw [List.drop_length, rowEnd] at hM1
          have FP := Lib.hid hF1
          have ME := Lib.hid hM1
          clear hF1 hM1 hF hM hR hB
          go_wp2_with fail
          go_roundw
          case rel => exact ⟨k + 1, O ++ P, max mm aa, by omega, by go_num, by go_num, by rw [List.length_append]; omega, by omega, by rw [FP.out]; exact HF.out, by rw [ME.out]; exact HM.out, hR2, hB2⟩
          case measure => simp [RowKit.intOf]; omega
    · obtain rfl : k = n := by omega
      have e0 : rows.drop k = [] := List.drop_eq_nil_of_le (by rw [LN.out]; omega)
      have hO : O = cellsP rows := by have h := hF.out; rw [e0] at h; simpa [cellsP] using h
      have hm : mm = manyP rows 0 := by have h := hM.out; rw [e0] at h; exact h
      have HO := Lib.hid hO
      have HMM := Lib.hid hm
      clear e0 hO hm hF hM
      go_wp2_with fail
      go_ret2
      exact ⟨_, by rw [HMM.out]; rfl, by rw [← HO.out]; exact hR.out, hB.out⟩
end Go.Proofs.Ytfkgpkkjiolfpaa.Tab
