/- Package table: Columns, of cells of span 1, one a column. -/
import Derived.Test.YtfkgpkkjiolfpaaTabInsE
import Derived.Test.YtfkgpkkjiolfpaaWInvWords
import Derived.BigRegion
namespace Go.Proofs.Ytfkgpkkjiolfpaa.Tab
open Go.RowKit Go.Lib Go.Proofs.Ytfkgpkkjiolfpaa.Pl Go.Proofs.Ytfkgpkkjiolfpaa.Fx Go.Proofs.Ytfkgpkkjiolfpaa.Sh Go.Proofs.Ytfkgpkkjiolfpaa.Rgn Go.Proofs.Ytfkgpkkjiolfpaa.Blk Go.Proofs.Ytfkgpkkjiolfpaa.Tab Go.Proofs.YtfkgpkkjiolfpaaW.PrintWords Go.Proofs.YtfkgpkkjiolfpaaW.PrintLast Go.Proofs.YtfkgpkkjiolfpaaW.PrintMore
set_option linter.unusedVariables false
set_option linter.unusedSimpArgs false
attribute [local go_sem] mx2 mn2 mx_two mn_two mx_three mn_three

/-- One cell a column, each as bounded as 'cells' makes them. -/
def OneEach (cs : List Ce) (n : Nat) : Prop := cs.length = n ∧ ∀ i, i < n → (cs.getD i z108).f2 = (i : Int) ∧ (cs.getD i z108).f3 = 1 ∧ 0 ≤ (cs.getD i z108).f0 ∧ (cs.getD i z108).f0 ≤ 16777216 ∧ 0 ≤ (cs.getD i z108).f1 ∧ (cs.getD i z108).f1 ≤ 16777216
def leastF (cs : List Ce) (i : Nat) : Int := max 0 (cs.getD i z108).f0
def mostF (cs : List Ce) (i : Nat) : Int := max 0 (cs.getD i z108).f1
def leastR (cs : List Ce) (n : Nat) : List Int := (List.range n).map (leastF cs)
def mostR (cs : List Ce) (n : Nat) : List Int := (List.range n).map (mostF cs)
def ColsPost (cs : List Ce) (n : Nat) (w : World) (e : Ending) (w' : World) : Prop := ∃ v1 v2, e = .returned (.tuple #[v1, v2]) ∧ w'.ownsRow w.heap.size 3 1 v1 n (nums .i64 (leastR cs n)) ∧ w'.ownsRow w.heap.size 3 1 v2 n (nums .i64 (zipK max (mostR cs n) (leastR cs n) n)) ∧ Below w.heap.size w w'

set_option maxRecDepth 1000000 in
set_option maxHeartbeats 4000000 in
theorem ColsE_c (A : Option Addr) (r c : Nat) (rows : List (List LC)) (w : World) (hC : Kd.C kRow w A r rows) (hr : r ≤ 1000) (cs : List Ce) (hcs : cellsP rows = cs) (n : Nat) (h1 : OneEach cs n) (hn0 : 0 < n) (hn2 : n < 20) (hm : manyP rows 0 = (n : Int)) :
    Calls Try.prog 24 #[.slice A r c] w (ColsPost cs n w) := by
  have CE := Lib.hid (cells_c A r c rows w hC hr)
  have H1 := Lib.hid h1
  have hmk := print_make (P := Try.prog) 33 3 .i64 8 Try.underlying33 info (by decide) n (by omega)
  clear hC h1
  go_enter Try.func24, Try.ntmps24
  go_wp2_with fail
  refine CE.out.mono ?_
  rintro e w1 ⟨v1, rfl, hR1, hB1⟩
  rw [hcs] at hR1
  rw [hm]
  obtain ⟨g, cp, rfl, hg1, hg2, -⟩ := Kd.R_form hR1 (by rw [H1.out.1]; exact hn0)
  rw [H1.out.1] at hR1 ⊢
  have R1 : Hid (Kd.R k108 108 w1 w.heap.size (fun k => k = g) (.slice (some ⟨g, 0, none⟩) n cp) cs) := Lib.hid (Kd.R_flat (fun h => h) hR1 (fun k hk _ => by simpa [Value.ownBlock] using hk.symm))
  have B1 := Lib.hid hB1
  clear hR1 hB1 hcs hm CE
  go_wp2_with fail
  go_region
  obtain ⟨W, eW, hBW, h0, h1⟩ := two_made w1 n (by omega)
  rw [eW]
  obtain ⟨gl, hgl⟩ : ∃ g, w1.heap.size = g := ⟨_, rfl⟩
  obtain ⟨gm, hgm⟩ : ∃ g, w1.heap.size + 1 = g := ⟨_, rfl⟩
  have hOL := h0 gl hgl.symm
  have hOM := h1 gm hgm.symm
  have hne : gl ≠ gm := by omega
  have hbl : w1.heap.size ≤ gl := by omega
  have hbm : w1.heap.size ≤ gm := by omega
  rw [hgm, hgl]
  clear h0 h1 eW hgl hgm hmk
  rotate_left
  obtain ⟨W, eW, hBW, h0, h1⟩ := two_made w1 n (by omega)
  rw [eW]
  obtain ⟨gl, hgl⟩ : ∃ g, w1.heap.size + 1 = g := ⟨_, rfl⟩
  obtain ⟨gm, hgm⟩ : ∃ g, w1.heap.size = g := ⟨_, rfl⟩
  have hOL := h1 gl hgl.symm
  have hOM := h0 gm hgm.symm
  have hne : gl ≠ gm := by omega
  have hbl : w1.heap.size ≤ gl := by omega
  have hbm : w1.heap.size ≤ gm := by omega
  rw [hgl, hgm]
  clear h0 h1 eW hgl hgm hmk
  all_goals (
    have hz1 := B1.out.size
    have OL0 := own_less hOL hz1
    have OM0 := own_less hOM hz1
    have hnl : g ≠ gl := by omega
    have hnm : g ≠ gm := by omega
    have hll : w.heap.size ≤ gl := by omega
    have hlm : w.heap.size ≤ gm := by omega
    have R2 := Lib.hid (Kd.R_below R1.out hBW)
    have BW := Lib.hid (below_then B1.out hz1 hBW)
    clear hOL hOM hBW R1 B1 hz1 hbl hbm hg1 hg2
    have OL1 := Lib.hid OL0
    have OM1 := Lib.hid OM0
    clear OL0 OM0
    have SORT := Lib.hid (sortE_c g n cp cs W.heap.size w.heap.size (fun k => k = g) W W R2.out (Below.refl _ _) (Nat.le_refl _) (fun x hx => by
      obtain ⟨i, hi, rfl⟩ := List.getElem_of_mem hx
      have h := (H1.out.2 i (by have := H1.out.1; omega)).2.1
      rwa [List.getD_eq_getElem?_getD, List.getElem?_eq_getElem hi] at h) H1.out.1 hn2)
    go_wp2_with fail
    refine SORT.out.mono ?_
    rintro e w3 ⟨rfl, hR3, hB3⟩
    have OL := Lib.hid (pw_own_below OL1.out hB3)
    have OM := Lib.hid (pw_own_below OM1.out hB3)
    have R3 := Lib.hid hR3
    have B3 := Lib.hid (below_then BW.out BW.out.size hB3)
    clear hR3 hB3 OL1 OM1 R2 BW SORT
    go_wp2_with fail
    rw [← part_zero (leastF cs)] at OL
    rw [← part_zero (mostF cs)] at OM
    go_loopw [25] (fun i wr => ∃ k : Nat, k ≤ n ∧ i = .int .i64 k ∧ Hid (wr.ownsRow w.heap.size 3 1 (.slice (some ⟨gl, 0, none⟩) n n) n (nums .i64 (part_ (leastF cs) n k))) ∧ Hid (wr.ownsRow w.heap.size 3 1 (.slice (some ⟨gm, 0, none⟩) n n) n (nums .i64 (part_ (mostF cs) n k))) ∧ Hid (Kd.R k108 108 wr w.heap.size (fun k => k = g) (.slice (some ⟨g, 0, none⟩) n cp) cs) ∧ Hid (Below w.heap.size w wr)) (fun i _ => n - (RowKit.intOf i).toNat)
    case atStart => exact ⟨0, Nat.zero_le _, rfl, OL, OM, R3, B3⟩
    case round =>
      obtain ⟨k, hk, rfl, hO1, hO2, hR, hB⟩ := hrel
      by_cases hlt : k < n
      · obtain ⟨q1, q2, q3, q4, q5, q6⟩ := H1.out.2 k hlt
        obtain ⟨-, hcp, hCC⟩ := Kd.R_reads' hR.out
        obtain ⟨ad, ea, x0, x1, x2, x3⟩ := at_T108 hCC (k : Int) (by omega) (by rw [H1.out.1]; omega)
        injection ea with ea
        subst ea
        have hrd : rd_T108 cs (k : Int) = cs.getD k z108 := by simp [rd_T108]
        rw [hrd, Int.toNat_natCast] at x0 x1 x2 x3
        have hle : leastF cs k = max 0 (cs.getD k z108).f0 := rfl
        have hme : mostF cs k = max 0 (cs.getD k z108).f1 := rfl
        have hs1 := part_set (leastF cs) n k hlt
        have hs2 := part_set (mostF cs) n k hlt
        rw [hle] at hs1
        rw [hme] at hs2
        obtain ⟨p1, f1⟩ := own_at hO1.out (k : Int) (by omega) (by omega)
        obtain ⟨p2, f2⟩ := own_at hO2.out (k : Int) (by omega) (by omega)
        have r1 : rd (part_ (leastF cs) n k) (k : Int) = 0 := by
          rw [show rd (part_ (leastF cs) n k) (k : Int) = (part_ (leastF cs) n k).getD k 0 by simp [rd], part_get _ _ _ _ hlt, if_neg (by omega)]
        have r2 : rd (part_ (mostF cs) n k) (k : Int) = 0 := by
          rw [show rd (part_ (mostF cs) n k) (k : Int) = (part_ (mostF cs) n k).getD k 0 by simp [rd], part_get _ _ _ _ hlt, if_neg (by omega)]
        rw [r1, Int.toNat_natCast] at p1
        rw [r2, Int.toNat_natCast] at p2
        rw [Int.toNat_natCast] at f1 f2
        rw [q1] at x2
        rw [q2] at x3
        generalize (cs.getD k z108).f0 = a0 at *
        generalize (cs.getD k z108).f1 = a1 at *
        simp only [Addr.add_mid, Nat.zero_add] at x0 x1 x2 x3
        clear hle hme hrd q1 q2 r1 r2 hCC
        go_upto_region 9 with fail
        have hb9 : (wr.alloc (.cells #[.int .i64 a0, .int .i64 a1, .int .i64 (k : Int), .int .i64 1] 108)).heap[wr.heap.size]? = some (.cells #[.int .i64 a0, .int .i64 a1, .int .i64 (k : Int), .int .i64 1] 108 (0, 0)) := blk_new wr _
        have O1 := pw_own_below hO1.out (below_alloc (Below.refl _ _) (.cells #[.int .i64 a0, .int .i64 a1, .int .i64 (k : Int), .int .i64 1] 108))
        have O2 := pw_own_below hO2.out (below_alloc (Below.refl _ _) (.cells #[.int .i64 a0, .int .i64 a1, .int .i64 (k : Int), .int .i64 1] 108))
        have R4 := Kd.R_alloc hR.out (.cells #[.int .i64 a0, .int .i64 a1, .int .i64 (k : Int), .int .i64 1] 108)
        have B4 := below_alloc hB.out (.cells #[.int .i64 a0, .int .i64 a1, .int .i64 (k : Int), .int .i64 1] 108)
        have hgl := own_lt hO1.out gl rfl
        have hgm := own_lt hO2.out gm rfl
        clear hO1 hO2 hR hB p1 p2 f1 f2 x0 x1 x2 x3 OL OM R3 B3
        obtain ⟨b, hb⟩ : ∃ b, wr.heap.size = b := ⟨_, rfl⟩
        rw [hb] at hb9 hgl hgm ⊢
        generalize wr.alloc (.cells #[.int .i64 a0, .int .i64 a1, .int .i64 (k : Int), .int .i64 1] 108) = w2 at *
        obtain ⟨p1, f1⟩ := own_at O1 (k : Int) (by omega) (by omega)
        obtain ⟨p2, f2⟩ := own_at O2 (k : Int) (by omega) (by omega)
        have r1 : rd (part_ (leastF cs) n k) (k : Int) = 0 := by
          rw [show rd (part_ (leastF cs) n k) (k : Int) = (part_ (leastF cs) n k).getD k 0 by simp [rd], part_get _ _ _ _ hlt, if_neg (by omega)]
        have r2 : rd (part_ (mostF cs) n k) (k : Int) = 0 := by
          rw [show rd (part_ (mostF cs) n k) (k : Int) = (part_ (mostF cs) n k).getD k 0 by simp [rd], part_get _ _ _ _ hlt, if_neg (by omega)]
        rw [r1, Int.toNat_natCast] at p1
        rw [r2, Int.toNat_natCast] at p2
        rw [Int.toNat_natCast] at f1 f2
        have hw1 := (own_store (pw_own_below O1 (Below.refl _ _).drew) (k : Int) (max 0 a0)).1
        rw [Int.toNat_natCast, hs1] at hw1
        have hw2 := own_other (pw_own_below O2 (Below.refl _ _).drew) (Ne.symm hne) k (.int .i64 (max 0 a0))
        obtain ⟨p5, f5⟩ := own_at hw2 (k : Int) (by omega) (by omega)
        rw [r2, Int.toNat_natCast] at p5
        rw [Int.toNat_natCast] at f5
        have hw3 := (own_store hw2 (k : Int) (max 0 a1)).1
        rw [Int.toNat_natCast, hs2] at hw3
        have hw4 := own_other hw1 hne k (.int .i64 (max 0 a1))
        have hw5 := Kd.R_step (w1 := (w2.drew.setCell ⟨gl, k, none⟩ (.int .i64 (max 0 a0))).setCell ⟨gm, k, none⟩ (.int .i64 (max 0 a1))) (Kd.R_drew R4) (fun j hj _ => by
          subst hj
          exact (Below.heap_setCell _ ⟨gm, k, none⟩ _ j hnm).trans (Below.heap_setCell _ ⟨gl, k, none⟩ _ j hnl))
        have hw6 := (B4.drew.setCell (p := ⟨gl, k, none⟩) hll (.int .i64 (max 0 a0))).setCell (p := ⟨gm, k, none⟩) hlm (.int .i64 (max 0 a1))
        have FIN := Lib.hid (And.intro (Lib.hid hw4) (And.intro (Lib.hid hw3) (And.intro (Lib.hid hw5) (Lib.hid hw6))))
        have Z5 := Lib.hid (And.intro p5 f5)
        have HB9 := Lib.hid (blk_drew hb9)
        have HGL := Lib.hid hgl
        have HGM := Lib.hid hgm
        clear hw1 hw2 hw3 hw4 hw5 hw6 p5 f5 r1 r2 O1 O2 R4 B4 hs1 hs2 hb9 hgl hgm hb
        refine wp_region_held_drew (S := fun W => W.heap[b]? = some (.cells #[.int .i64 a0, .int .i64 a1, .int .i64 (k : Int), .int .i64 1] 108 (0, 0))) (by kernel_rfl) HB9.out (fun hHeld => ?_)
        refine wpAnyH_take (i := 0) (v := .slice (some ⟨gl, 0, none⟩) n n) rfl (by kernel_rfl) (by kernel_rfl) (by kernel_rfl) (fun _ _ _ h => h) (y_move (by rfl) rfl rfl) hHeld ?_
        try simp only [Act.put, List.getElem_toArray, List.getElem_cons_succ, List.getElem_cons_zero, List.setIfInBounds_toArray, List.set_cons_zero, List.set_cons_succ]
        refine wpAnyH_take (i := 1) (v := .pointer (some ⟨b, 2, none⟩)) rfl (by kernel_rfl) (by kernel_rfl) (by kernel_rfl) (fun _ _ _ h => h) (y_run (by rfl) (fun w _ => by unfold execOp; go_simp)) hHeld ?_
        try simp only [Act.put, List.getElem_toArray, List.getElem_cons_succ, List.getElem_cons_zero, List.setIfInBounds_toArray, List.set_cons_zero, List.set_cons_succ]
        refine wpAnyH_take (i := 2) (v := .int .i64 (k : Int)) rfl (by kernel_rfl) (by kernel_rfl) (by kernel_rfl) (fun _ _ _ h => h) (y_load (by rfl) rfl rfl (fun _ h => blk_cell h 2)) hHeld ?_
        try simp only [Act.put, List.getElem_toArray, List.getElem_cons_succ, List.getElem_cons_zero, List.setIfInBounds_toArray, List.set_cons_zero, List.set_cons_succ]
        refine wpAnyH_take (i := 3) (v := .slice (some ⟨gm, 0, none⟩) n n) rfl (by kernel_rfl) (by kernel_rfl) (by kernel_rfl) (fun _ _ _ h => h) (y_move (by rfl) rfl rfl) hHeld ?_
        try simp only [Act.put, List.getElem_toArray, List.getElem_cons_succ, List.getElem_cons_zero, List.setIfInBounds_toArray, List.set_cons_zero, List.set_cons_succ]
        refine wpAnyH_take (i := 4) (v := .pointer (some ⟨b, 2, none⟩)) rfl (by kernel_rfl) (by kernel_rfl) (by kernel_rfl) (fun _ _ _ h => h) (y_run (by rfl) (fun w _ => by unfold execOp; go_simp)) hHeld ?_
        try simp only [Act.put, List.getElem_toArray, List.getElem_cons_succ, List.getElem_cons_zero, List.setIfInBounds_toArray, List.set_cons_zero, List.set_cons_succ]
        refine wpAnyH_take (i := 5) (v := .int .i64 (k : Int)) rfl (by kernel_rfl) (by kernel_rfl) (by kernel_rfl) (fun _ _ _ h => h) (y_load (by rfl) rfl rfl (fun _ h => blk_cell h 2)) hHeld ?_
        try simp only [Act.put, List.getElem_toArray, List.getElem_cons_succ, List.getElem_cons_zero, List.setIfInBounds_toArray, List.set_cons_zero, List.set_cons_succ]
        refine wpAnyH_take (i := 6) (v := .slice (some ⟨gl, 0, none⟩) n n) rfl (by kernel_rfl) (by kernel_rfl) (by kernel_rfl) (fun _ _ _ h => h) (y_move (by rfl) rfl rfl) hHeld ?_
        try simp only [Act.put, List.getElem_toArray, List.getElem_cons_succ, List.getElem_cons_zero, List.setIfInBounds_toArray, List.set_cons_zero, List.set_cons_succ]
        refine wpAnyH_take (i := 7) (v := .pointer (some ⟨b, 2, none⟩)) rfl (by kernel_rfl) (by kernel_rfl) (by kernel_rfl) (fun _ _ _ h => h) (y_run (by rfl) (fun w _ => by unfold execOp; go_simp)) hHeld ?_
        try simp only [Act.put, List.getElem_toArray, List.getElem_cons_succ, List.getElem_cons_zero, List.setIfInBounds_toArray, List.set_cons_zero, List.set_cons_succ]
        refine wpAnyH_take (i := 8) (v := .int .i64 (k : Int)) rfl (by kernel_rfl) (by kernel_rfl) (by kernel_rfl) (fun _ _ _ h => h) (y_load (by rfl) rfl rfl (fun _ h => blk_cell h 2)) hHeld ?_
        try simp only [Act.put, List.getElem_toArray, List.getElem_cons_succ, List.getElem_cons_zero, List.setIfInBounds_toArray, List.set_cons_zero, List.set_cons_succ]
        refine wpAnyH_take (i := 9) (v := .pointer (some ⟨gl, k, none⟩)) rfl (by kernel_rfl) (by kernel_rfl) (by kernel_rfl) (fun _ _ _ h => h) (y_run (by rfl) (fun w _ => by unfold execOp; go_simp)) hHeld ?_
        try simp only [Act.put, List.getElem_toArray, List.getElem_cons_succ, List.getElem_cons_zero, List.setIfInBounds_toArray, List.set_cons_zero, List.set_cons_succ]
        refine wpAnyH_take (i := 11) (v := .pointer (some ⟨b, 0, none⟩)) rfl (by kernel_rfl) (by kernel_rfl) (by kernel_rfl) (fun _ _ _ h => h) (y_run (by rfl) (fun w _ => by unfold execOp; go_simp)) hHeld ?_
        try simp only [Act.put, List.getElem_toArray, List.getElem_cons_succ, List.getElem_cons_zero, List.setIfInBounds_toArray, List.set_cons_zero, List.set_cons_succ]
        refine wpAnyH_take (i := 12) (v := .int .i64 a0) rfl (by kernel_rfl) (by kernel_rfl) (by kernel_rfl) (fun _ _ _ h => h) (y_load (by rfl) rfl rfl (fun _ h => blk_cell h 0)) hHeld ?_
        try simp only [Act.put, List.getElem_toArray, List.getElem_cons_succ, List.getElem_cons_zero, List.setIfInBounds_toArray, List.set_cons_zero, List.set_cons_succ]
        refine wpAnyH_take (i := 14) (v := .slice (some ⟨gm, 0, none⟩) n n) rfl (by kernel_rfl) (by kernel_rfl) (by kernel_rfl) (fun _ _ _ h => h) (y_move (by rfl) rfl rfl) hHeld ?_
        try simp only [Act.put, List.getElem_toArray, List.getElem_cons_succ, List.getElem_cons_zero, List.setIfInBounds_toArray, List.set_cons_zero, List.set_cons_succ]
        refine wpAnyH_take (i := 15) (v := .pointer (some ⟨b, 2, none⟩)) rfl (by kernel_rfl) (by kernel_rfl) (by kernel_rfl) (fun _ _ _ h => h) (y_run (by rfl) (fun w _ => by unfold execOp; go_simp)) hHeld ?_
        try simp only [Act.put, List.getElem_toArray, List.getElem_cons_succ, List.getElem_cons_zero, List.setIfInBounds_toArray, List.set_cons_zero, List.set_cons_succ]
        refine wpAnyH_take (i := 16) (v := .int .i64 (k : Int)) rfl (by kernel_rfl) (by kernel_rfl) (by kernel_rfl) (fun _ _ _ h => h) (y_load (by rfl) rfl rfl (fun _ h => blk_cell h 2)) hHeld ?_
        try simp only [Act.put, List.getElem_toArray, List.getElem_cons_succ, List.getElem_cons_zero, List.setIfInBounds_toArray, List.set_cons_zero, List.set_cons_succ]
        refine wpAnyH_take (i := 17) (v := .pointer (some ⟨gm, k, none⟩)) rfl (by kernel_rfl) (by kernel_rfl) (by kernel_rfl) (fun _ _ _ h => h) (y_run (by rfl) (fun w _ => by unfold execOp; go_simp)) hHeld ?_
        try simp only [Act.put, List.getElem_toArray, List.getElem_cons_succ, List.getElem_cons_zero, List.setIfInBounds_toArray, List.set_cons_zero, List.set_cons_succ]
        refine wpAnyH_take (i := 19) (v := .pointer (some ⟨b, 1, none⟩)) rfl (by kernel_rfl) (by kernel_rfl) (by kernel_rfl) (fun _ _ _ h => h) (y_run (by rfl) (fun w _ => by unfold execOp; go_simp)) hHeld ?_
        try simp only [Act.put, List.getElem_toArray, List.getElem_cons_succ, List.getElem_cons_zero, List.setIfInBounds_toArray, List.set_cons_zero, List.set_cons_succ]
        refine wpAnyH_take (i := 20) (v := .int .i64 a1) rfl (by kernel_rfl) (by kernel_rfl) (by kernel_rfl) (fun _ _ _ h => h) (y_load (by rfl) rfl rfl (fun _ h => blk_cell h 1)) hHeld ?_
        try simp only [Act.put, List.getElem_toArray, List.getElem_cons_succ, List.getElem_cons_zero, List.setIfInBounds_toArray, List.set_cons_zero, List.set_cons_succ]
        refine wpAnyH_ready (rs := [10, 18]) (by kernel_rfl) (by simp) ?_
        refine AllReadyH.cons rfl (fun K hK => ?_) (AllReadyH.cons rfl (fun K hK => ?_) AllReadyH.nil)
        · skip
          try simp only [Act.put, List.getElem_toArray, List.getElem_cons_succ, List.getElem_cons_zero, List.setIfInBounds_toArray, List.set_cons_zero, List.set_cons_succ]
          rw [if_pos (by rfl)]
          go_simp
          refine hK.out _ _ hHeld (fun hHeld => ?_)
          clear hK K
          try simp only [Act.put, List.getElem_toArray, List.getElem_cons_succ, List.getElem_cons_zero, List.setIfInBounds_toArray, List.set_cons_zero, List.set_cons_succ]
          refine wpAnyH_take (i := 13) (v := .int .i64 (max 0 a0)) rfl (by kernel_rfl) (by kernel_rfl) (by kernel_rfl) (fun _ _ _ h => h) (y_run (by rfl) (fun w _ => by unfold execOp; go_simp)) hHeld ?_
          try simp only [Act.put, List.getElem_toArray, List.getElem_cons_succ, List.getElem_cons_zero, List.setIfInBounds_toArray, List.set_cons_zero, List.set_cons_succ]
          refine wpAnyH_ready (rs := [18]) (by kernel_rfl) (by simp) ?_
          refine AllReadyH.cons rfl (fun K hK => ?_) AllReadyH.nil
          try simp only [Act.put, List.getElem_toArray, List.getElem_cons_succ, List.getElem_cons_zero, List.setIfInBounds_toArray, List.set_cons_zero, List.set_cons_succ]
          rw [if_pos (by rfl)]
          go_simp
          refine hK.out _ _ hHeld (fun hHeld => ?_)
          clear hK K
          try simp only [Act.put, List.getElem_toArray, List.getElem_cons_succ, List.getElem_cons_zero, List.setIfInBounds_toArray, List.set_cons_zero, List.set_cons_succ]
          refine wpAnyH_take (i := 21) (v := .int .i64 (max 0 a1)) rfl (by kernel_rfl) (by kernel_rfl) (by kernel_rfl) (fun _ _ _ h => h) (y_run (by rfl) (fun w _ => by unfold execOp; go_simp)) hHeld ?_
          try simp only [Act.put, List.getElem_toArray, List.getElem_cons_succ, List.getElem_cons_zero, List.setIfInBounds_toArray, List.set_cons_zero, List.set_cons_succ]
          refine wpAnyH_take (i := 22) (v := .pointer (some ⟨gl, k, none⟩)) rfl (by kernel_rfl) (by kernel_rfl) (by kernel_rfl) (fun _ _ _ h => h) (y_run (by rfl) (fun w _ => by unfold execOp; go_simp)) hHeld ?_
          try simp only [Act.put, List.getElem_toArray, List.getElem_cons_succ, List.getElem_cons_zero, List.setIfInBounds_toArray, List.set_cons_zero, List.set_cons_succ]
          refine wpAnyH_ready (rs := [23]) (by kernel_rfl) (by simp) ?_
          refine AllReadyH.cons rfl (fun K hK => ?_) AllReadyH.nil
          try simp only [Act.put, List.getElem_toArray, List.getElem_cons_succ, List.getElem_cons_zero, List.setIfInBounds_toArray, List.set_cons_zero, List.set_cons_succ]
          rw [if_pos (by rfl)]
          go_simp
          refine hK.out _ _ (blk_far HB9.out (p := ⟨gl, k, none⟩) (Nat.ne_of_gt HGL.out) _) (fun hHeld => ?_)
          clear hK K
          try simp only [Act.put, List.getElem_toArray, List.getElem_cons_succ, List.getElem_cons_zero, List.setIfInBounds_toArray, List.set_cons_zero, List.set_cons_succ]
          refine wpAnyH_take (i := 24) (v := .pointer (some ⟨gm, k, none⟩)) rfl (by kernel_rfl) (by kernel_rfl) (by kernel_rfl) (fun _ _ _ h => h) (y_run (by rfl) (fun w _ => by unfold execOp; go_simp)) hHeld ?_
          try simp only [Act.put, List.getElem_toArray, List.getElem_cons_succ, List.getElem_cons_zero, List.setIfInBounds_toArray, List.set_cons_zero, List.set_cons_succ]
          obtain ⟨p5, f5⟩ := Z5.out
          refine wpAnyH_ready (rs := [25]) (by kernel_rfl) (by simp) ?_
          refine AllReadyH.cons rfl (fun K hK => ?_) AllReadyH.nil
          try simp only [Act.put, List.getElem_toArray, List.getElem_cons_succ, List.getElem_cons_zero, List.setIfInBounds_toArray, List.set_cons_zero, List.set_cons_succ]
          rw [if_pos (by rfl)]
          go_simp
          refine hK.out _ _ (blk_far (blk_far HB9.out (p := ⟨gl, k, none⟩) (Nat.ne_of_gt HGL.out) _) (p := ⟨gm, k, none⟩) (Nat.ne_of_gt HGM.out) _) (fun hHeld => ?_)
          clear hK K
          try simp only [Act.put, List.getElem_toArray, List.getElem_cons_succ, List.getElem_cons_zero, List.setIfInBounds_toArray, List.set_cons_zero, List.set_cons_succ]
          refine wpAnyH_done (by kernel_rfl) ?_ _
          clear hHeld
          go_wp2_with fail
          go_roundw
          case rel => exact ⟨k + 1, by omega, by go_num, FIN.out⟩
          case measure => simp [RowKit.intOf]; omega
        · skip
          try simp only [Act.put, List.getElem_toArray, List.getElem_cons_succ, List.getElem_cons_zero, List.setIfInBounds_toArray, List.set_cons_zero, List.set_cons_succ]
          rw [if_pos (by rfl)]
          go_simp
          refine hK.out _ _ hHeld (fun hHeld => ?_)
          clear hK K
          try simp only [Act.put, List.getElem_toArray, List.getElem_cons_succ, List.getElem_cons_zero, List.setIfInBounds_toArray, List.set_cons_zero, List.set_cons_succ]
          refine wpAnyH_take (i := 21) (v := .int .i64 (max 0 a1)) rfl (by kernel_rfl) (by kernel_rfl) (by kernel_rfl) (fun _ _ _ h => h) (y_run (by rfl) (fun w _ => by unfold execOp; go_simp)) hHeld ?_
          try simp only [Act.put, List.getElem_toArray, List.getElem_cons_succ, List.getElem_cons_zero, List.setIfInBounds_toArray, List.set_cons_zero, List.set_cons_succ]
          refine wpAnyH_ready (rs := [10]) (by kernel_rfl) (by simp) ?_
          refine AllReadyH.cons rfl (fun K hK => ?_) AllReadyH.nil
          try simp only [Act.put, List.getElem_toArray, List.getElem_cons_succ, List.getElem_cons_zero, List.setIfInBounds_toArray, List.set_cons_zero, List.set_cons_succ]
          rw [if_pos (by rfl)]
          go_simp
          refine hK.out _ _ hHeld (fun hHeld => ?_)
          clear hK K
          try simp only [Act.put, List.getElem_toArray, List.getElem_cons_succ, List.getElem_cons_zero, List.setIfInBounds_toArray, List.set_cons_zero, List.set_cons_succ]
          refine wpAnyH_take (i := 13) (v := .int .i64 (max 0 a0)) rfl (by kernel_rfl) (by kernel_rfl) (by kernel_rfl) (fun _ _ _ h => h) (y_run (by rfl) (fun w _ => by unfold execOp; go_simp)) hHeld ?_
          try simp only [Act.put, List.getElem_toArray, List.getElem_cons_succ, List.getElem_cons_zero, List.setIfInBounds_toArray, List.set_cons_zero, List.set_cons_succ]
          refine wpAnyH_take (i := 22) (v := .pointer (some ⟨gl, k, none⟩)) rfl (by kernel_rfl) (by kernel_rfl) (by kernel_rfl) (fun _ _ _ h => h) (y_run (by rfl) (fun w _ => by unfold execOp; go_simp)) hHeld ?_
          try simp only [Act.put, List.getElem_toArray, List.getElem_cons_succ, List.getElem_cons_zero, List.setIfInBounds_toArray, List.set_cons_zero, List.set_cons_succ]
          refine wpAnyH_ready (rs := [23]) (by kernel_rfl) (by simp) ?_
          refine AllReadyH.cons rfl (fun K hK => ?_) AllReadyH.nil
          try simp only [Act.put, List.getElem_toArray, List.getElem_cons_succ, List.getElem_cons_zero, List.setIfInBounds_toArray, List.set_cons_zero, List.set_cons_succ]
          rw [if_pos (by rfl)]
          go_simp
          refine hK.out _ _ (blk_far HB9.out (p := ⟨gl, k, none⟩) (Nat.ne_of_gt HGL.out) _) (fun hHeld => ?_)
          clear hK K
          try simp only [Act.put, List.getElem_toArray, List.getElem_cons_succ, List.getElem_cons_zero, List.setIfInBounds_toArray, List.set_cons_zero, List.set_cons_succ]
          refine wpAnyH_take (i := 24) (v := .pointer (some ⟨gm, k, none⟩)) rfl (by kernel_rfl) (by kernel_rfl) (by kernel_rfl) (fun _ _ _ h => h) (y_run (by rfl) (fun w _ => by unfold execOp; go_simp)) hHeld ?_
          try simp only [Act.put, List.getElem_toArray, List.getElem_cons_succ, List.getElem_cons_zero, List.setIfInBounds_toArray, List.set_cons_zero, List.set_cons_succ]
          obtain ⟨p5, f5⟩ := Z5.out
          refine wpAnyH_ready (rs := [25]) (by kernel_rfl) (by simp) ?_
          refine AllReadyH.cons rfl (fun K hK => ?_) AllReadyH.nil
          try simp only [Act.put, List.getElem_toArray, List.getElem_cons_succ, List.getElem_cons_zero, List.setIfInBounds_toArray, List.set_cons_zero, List.set_cons_succ]
          rw [if_pos (by rfl)]
          go_simp
          refine hK.out _ _ (blk_far (blk_far HB9.out (p := ⟨gl, k, none⟩) (Nat.ne_of_gt HGL.out) _) (p := ⟨gm, k, none⟩) (Nat.ne_of_gt HGM.out) _) (fun hHeld => ?_)
          clear hK K
          try simp only [Act.put, List.getElem_toArray, List.getElem_cons_succ, List.getElem_cons_zero, List.setIfInBounds_toArray, List.set_cons_zero, List.set_cons_succ]
          refine wpAnyH_done (by kernel_rfl) ?_ _
          clear hHeld
          go_wp2_with fail
          go_roundw
          case rel => exact ⟨k + 1, by omega, by go_num, FIN.out⟩
          case measure => simp [RowKit.intOf]; omega
      · obtain rfl : k = n := by omega
        rw [part_all] at hO1 hO2
        have O1 : Hid (wr.ownsRow w.heap.size 3 1 (.slice (some ⟨gl, 0, none⟩) k k) k (nums .i64 (leastR cs k))) := hO1
        have O2 : Hid (wr.ownsRow w.heap.size 3 1 (.slice (some ⟨gm, 0, none⟩) k k) k (nums .i64 (mostR cs k))) := hO2
        have hll : (leastR cs k).length = k := by simp [leastR]
        have hml : (mostR cs k).length = k := by simp [mostR]
        obtain ⟨low, hlo⟩ : ∃ l, leastR cs k = l := ⟨_, rfl⟩
        obtain ⟨hi, hhi⟩ : ∃ l, mostR cs k = l := ⟨_, rfl⟩
        rw [hlo] at O1 hll
        rw [hhi] at O2 hml
        have HLO := Lib.hid hlo
        have HHI := Lib.hid hhi
        clear hlo hhi
        rw [← zip_zero max hi low] at O2
        clear hO1 hO2 OL OM R3 B3 hR
        go_wp2_with fail
        go_loopw [92] (fun i wv => ∃ j : Nat, j ≤ k ∧ i = .int .i64 j ∧ Hid (wv.ownsRow w.heap.size 3 1 (.slice (some ⟨gm, 0, none⟩) k k) k (nums .i64 (zipK max hi low j))) ∧ Hid (wv.ownsRow w.heap.size 3 1 (.slice (some ⟨gl, 0, none⟩) k k) k (nums .i64 low)) ∧ Hid (Below w.heap.size w wv)) (fun i _ => k - (RowKit.intOf i).toNat)
        case atStart => exact ⟨0, Nat.zero_le _, rfl, O2, O1, hB⟩
        case round =>
          obtain ⟨j, hj, rfl, hP, hQ, hB6⟩ := hrel
          by_cases hlt2 : j < k
          · obtain ⟨p1, f1⟩ := own_at hP.out (j : Int) (by omega) (by omega)
            obtain ⟨p2, -⟩ := own_at hQ.out (j : Int) (by omega) (by omega)
            have r1 : rd (zipK max hi low j) (j : Int) = hi.getD j 0 := by
              rw [show rd (zipK max hi low j) (j : Int) = (zipK max hi low j).getD j 0 by simp [rd], zip_get _ _ _ _ _ (by omega), if_neg (by omega)]
            have r2 : rd low (j : Int) = low.getD j 0 := by simp [rd]
            rw [r1, Int.toNat_natCast] at p1
            rw [Int.toNat_natCast] at f1
            rw [r2, Int.toNat_natCast] at p2
            have hw1 := (own_store (pw_own_below hP.out (Below.refl _ _).drew) (j : Int) (max (hi.getD j 0) (low.getD j 0))).1
            rw [Int.toNat_natCast, zip_set max hi low j (by omega)] at hw1
            have hw2 := own_other (pw_own_below hQ.out (Below.refl _ _).drew) hne j (.int .i64 (max (hi.getD j 0) (low.getD j 0)))
            have hw3 := hB6.out.drew.setCell (p := ⟨gm, j, none⟩) hlm (.int .i64 (max (hi.getD j 0) (low.getD j 0)))
            generalize hi.getD j 0 = x at *
            generalize low.getD j 0 = y at *
            have W1 := Lib.hid hw1
            have W2 := Lib.hid hw2
            have W3 := Lib.hid hw3
            clear hw1 hw2 hw3 r1 r2 hP hQ hB6
            go_wp2_with fail
            refine wp_region_still_tail 11 (by kernel_rfl) (by kernel_rfl) ?_
            simp only [List.take_succ_cons, List.take_zero, List.drop_succ_cons, List.drop_zero]
            change wpStill _ _ (World.drew wr) (fun a' => wpList _ _ _ _ a' (World.drew wr)) _ _
            iterate 11 still_step
            refine wpStill_nil ?_
            go_wp2_with fail
            go_roundw
            case rel => exact ⟨j + 1, by omega, by go_num, W1, W2, W3⟩
            case measure => simp [RowKit.intOf]; omega
          · obtain rfl : j = k := by omega
            go_wp2_with fail
            go_ret2
            exact ⟨_, _, rfl, by rw [HLO.out]; exact hQ.out, by rw [HLO.out, HHI.out]; exact hP.out, hB6.out⟩)
end Go.Proofs.Ytfkgpkkjiolfpaa.Tab
