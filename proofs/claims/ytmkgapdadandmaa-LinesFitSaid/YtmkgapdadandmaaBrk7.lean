/- The breaker of lines: where a line begins and ends; no floats. -/
import Derived.Test.YtmkgapdadandmaaBrkA
import Derived.Test.YtmkgapdadandmaaFloatsE
import Derived.Deep.CutBlock
import Derived.StillTailTactics
namespace Go.Proofs.Ytmkgapdadandmaa.Lin
open Go.RowKit Go.Lib Go.Proofs.Ytmkgapdadandmaa.Pl Go.Proofs.Ytmkgapdadandmaa.Fx Go.Proofs.Ytmkgapdadandmaa.Fnt Go.Proofs.Ytmkgapdadandmaa.Rgn Go.Proofs.YtmkgapdadandmaaW.PrintWords Go.Proofs.YtmkgapdadandmaaW.PrintLast Go.Proofs.YtmkgapdadandmaaW.PrintMore
set_option linter.unusedVariables false
set_option linter.unusedSimpArgs false
attribute [local go_sem] mx2 mn2 mx_two mn_two mx_three mn_three

/-- A room without floats, told in every later world. -/
def NoF (bb : Nat) (K : Bc) (W0 : World) (width : Int) : Prop := ∀ W, W0.grownBy W (some bb) → Go.Proofs.Ytmkgapdadandmaa.Fl.IsF W K.fp width []
theorem bkAll {W : World} {bb : Nat} {K : Bc} {s : Bk} {lv ov : Value} (h : W.heap[bb]? = some (.cells (bkV K s lv ov).toArray 59 (0, 0))) :
    W.cell? ⟨bb, 0, none⟩ = some (.pointer (some ⟨K.fp, 0, none⟩)) ∧ W.cell? ⟨bb, 1, none⟩ = some (.int .i64 s.y) ∧ W.cell? ⟨bb, 3, none⟩ = some (.int .i64 K.height) ∧ W.cell? ⟨bb, 5, none⟩ = some (.int .i64 s.indent) ∧ W.cell? ⟨bb, 6, none⟩ = some (.int .i64 s.left) ∧ W.cell? ⟨bb, 7, none⟩ = some (.int .i64 s.right) ∧ W.cell? ⟨bb, 8, none⟩ = some lv ∧ W.cell? ⟨bb, 9, none⟩ = some (.bool s.full) ∧ W.cell? ⟨bb, 10, none⟩ = some (.slice none 0 0) ∧ W.cell? ⟨bb, 11, none⟩ = some ov :=
  ⟨blk_cell h 0, blk_cell h 1, blk_cell h 3, blk_cell h 5, blk_cell h 6, blk_cell h 7, blk_cell h 8, blk_cell h 9, blk_cell h 10, blk_cell h 11⟩
theorem set1' {W : World} {b t : Nat} {cs : Array Value} (h : W.heap[b]? = some (.cells cs t (0, 0))) (i : Nat) (v : Value) : (W.setCell ⟨b, i, none⟩ v).heap[b]? = some (.cells (cs.setIfInBounds i v) t (0, 0)) := by
  obtain ⟨hlt, hk⟩ := Array.getElem?_eq_some_iff.1 h
  show (W.heap.modify b _)[b]? = _
  rw [Array.getElem?_eq_getElem (by rw [Array.size_modify]; exact hlt), Array.getElem_modify_self, hk]
  rfl
theorem grown_cell' (w : World) (b i : Nat) (v : Value) : w.grownBy (w.setCell ⟨b, i, none⟩ v) (some b) :=
  ⟨rfl, rfl, rfl, by simp [World.setCell], fun k _ hne => Below.heap_setCell _ _ _ _ (fun e => hne (by rw [e]))⟩
theorem ptNeB (ad : Addr) : ∀ q, q ∈ 72 :: (kPt ad).E → q ≠ 59 := by
  show ∀ q, q ∈ [72] → q ≠ 59
  decide
/-- A cell of the breaker that holds no row is set. -/
theorem isB_set {ad : Addr} {bb : Nat} {K : Bc} {W0 : World} {s s' : Bk} {w : World} {lv ov : Value} (hb : w.heap[bb]? = some (.cells (bkV K s lv ov).toArray 59 (0, 0))) (hl : Kd.R (kPt ad) 72 w W0.heap.size (fun _ => True) lv s.line) (ho : Kd.R k39 39 w W0.heap.size (fun _ => True) ov s.out) (hg : W0.grownBy w (some bb))
    (i : Nat) (v lv' : Value) (he : (bkV K s lv ov).toArray.setIfInBounds i v = (bkV K s' lv' ov).toArray) (hl' : Kd.R (kPt ad) 72 (w.setCell ⟨bb, i, none⟩ v) W0.heap.size (fun _ => True) lv' s'.line) (ho' : s'.out = s.out) :
    (w.setCell ⟨bb, i, none⟩ v).heap[bb]? = some (.cells (bkV K s' lv' ov).toArray 59 (0, 0)) ∧ Kd.R (kPt ad) 72 (w.setCell ⟨bb, i, none⟩ v) W0.heap.size (fun _ => True) lv' s'.line ∧ Kd.R k39 39 (w.setCell ⟨bb, i, none⟩ v) W0.heap.size (fun _ => True) ov s'.out ∧ W0.grownBy (w.setCell ⟨bb, i, none⟩ v) (some bb) :=
  ⟨by rw [set1' hb i v, he], hl', by rw [ho']; exact Kd.R_set ho hb (by decide) i v, hg.trans (grown_cell' w bb i v)⟩
def edgeS (width : Int) (s : Bk) : Bk := { s with left := s.indent, right := width }
/-- The breaker as it lies in memory, with the values of its rows. -/
def IsV (ad : Addr) (bb : Nat) (K : Bc) (W0 : World) (lv ov : Value) (s : Bk) (w : World) : Prop :=
  w.heap[bb]? = some (.cells (bkV K s lv ov).toArray 59 (0, 0)) ∧ Kd.R (kPt ad) 72 w W0.heap.size (fun _ => True) lv s.line ∧ Kd.R k39 39 w W0.heap.size (fun _ => True) ov s.out ∧ W0.grownBy w (some bb)
set_option maxRecDepth 100000 in
set_option maxHeartbeats 4000000 in
theorem bends_v (ad : Addr) (bb : Nat) (K : Bc) (W0 : World) (width : Int) (s : Bk) (lv ov : Value) (w : World) (hI : IsV ad bb K W0 lv ov s w) (hF : NoF bb K W0 width) (hin : -16777216 ≤ s.indent ∧ s.indent ≤ 16777216) :
    Calls Try.prog 32 #[.pointer (some ⟨bb, 0, none⟩)] w fun e w' => e = .returned (.tuple #[]) ∧ IsV ad bb K W0 lv ov (edgeS width s) w' := by
  obtain ⟨hb, hRl, hRo, hB⟩ := hI
  have HFI := Lib.hid hF
  have HRl := Lib.hid hRl
  have HRo := Lib.hid hRo
  have HB := Lib.hid hB
  have HBB := Lib.hid hb
  obtain ⟨fp, sz, ht, al⟩ := K
  obtain ⟨y, ind, lf, rt, ln, fu, ot⟩ := s
  simp only at HRl HRo HBB hin
  clear hF hRl hRo hB hb
  go_enter Try.func32, Try.ntmps32
  go_wp2_with fail
  refine wp_region_held_drew (S := fun W => W.cell? ⟨bb, 0, none⟩ = some (.pointer (some ⟨fp, 0, none⟩)) ∧ W.cell? ⟨bb, 1, none⟩ = some (.int .i64 y) ∧ W.cell? ⟨bb, 3, none⟩ = some (.int .i64 ht)) (by kernel_rfl) ⟨blk_cell (blk_drew HBB.out) 0, blk_cell (blk_drew HBB.out) 1, blk_cell (blk_drew HBB.out) 3⟩ (fun hHeld => ?_)
  refine wpAnyH_take (i := 0) (v := .pointer (some ⟨bb, 0, none⟩)) rfl (by kernel_rfl) (by kernel_rfl) (by kernel_rfl) (fun _ _ _ h => h) (y_move (by rfl) rfl rfl) hHeld ?_
  try simp only [Act.put, List.getElem_toArray, List.getElem_cons_succ, List.getElem_cons_zero, List.setIfInBounds_toArray, List.set_cons_zero, List.set_cons_succ]
  refine wpAnyH_take (i := 1) (v := .pointer (some ⟨bb, 0, none⟩)) rfl (by kernel_rfl) (by kernel_rfl) (by kernel_rfl) (fun _ _ _ h => h) (y_move (by rfl) rfl rfl) hHeld ?_
  try simp only [Act.put, List.getElem_toArray, List.getElem_cons_succ, List.getElem_cons_zero, List.setIfInBounds_toArray, List.set_cons_zero, List.set_cons_succ]
  refine wpAnyH_take (i := 2) (v := .pointer (some ⟨bb, 0, none⟩)) rfl (by kernel_rfl) (by kernel_rfl) (by kernel_rfl) (fun _ _ _ h => h) (y_move (by rfl) rfl rfl) hHeld ?_
  try simp only [Act.put, List.getElem_toArray, List.getElem_cons_succ, List.getElem_cons_zero, List.setIfInBounds_toArray, List.set_cons_zero, List.set_cons_succ]
  refine wpAnyH_take (i := 3) (v := .pointer (some ⟨bb, 0, none⟩)) rfl (by kernel_rfl) (by kernel_rfl) (by kernel_rfl) (fun _ _ _ h => h) (y_run (by rfl) (fun w _ => by unfold execOp; go_simp)) hHeld ?_
  try simp only [Act.put, List.getElem_toArray, List.getElem_cons_succ, List.getElem_cons_zero, List.setIfInBounds_toArray, List.set_cons_zero, List.set_cons_succ]
  refine wpAnyH_take (i := 4) (v := .pointer (some ⟨bb, 0, none⟩)) rfl (by kernel_rfl) (by kernel_rfl) (by kernel_rfl) (fun _ _ _ h => h) (y_run (by rfl) (fun w _ => by unfold execOp; go_simp)) hHeld ?_
  try simp only [Act.put, List.getElem_toArray, List.getElem_cons_succ, List.getElem_cons_zero, List.setIfInBounds_toArray, List.set_cons_zero, List.set_cons_succ]
  refine wpAnyH_take (i := 5) (v := .pointer (some ⟨fp, 0, none⟩)) rfl (by kernel_rfl) (by kernel_rfl) (by kernel_rfl) (fun _ _ _ h => h) (y_run (by rfl) (fun w h => by have c0 := h.1; unfold execOp; go_simp)) hHeld ?_
  try simp only [Act.put, List.getElem_toArray, List.getElem_cons_succ, List.getElem_cons_zero, List.setIfInBounds_toArray, List.set_cons_zero, List.set_cons_succ]
  refine wpAnyH_take (i := 6) (v := .pointer (some ⟨bb, 0, none⟩)) rfl (by kernel_rfl) (by kernel_rfl) (by kernel_rfl) (fun _ _ _ h => h) (y_move (by rfl) rfl rfl) hHeld ?_
  try simp only [Act.put, List.getElem_toArray, List.getElem_cons_succ, List.getElem_cons_zero, List.setIfInBounds_toArray, List.set_cons_zero, List.set_cons_succ]
  refine wpAnyH_take (i := 7) (v := .pointer (some ⟨bb, 0, none⟩)) rfl (by kernel_rfl) (by kernel_rfl) (by kernel_rfl) (fun _ _ _ h => h) (y_run (by rfl) (fun w _ => by unfold execOp; go_simp)) hHeld ?_
  try simp only [Act.put, List.getElem_toArray, List.getElem_cons_succ, List.getElem_cons_zero, List.setIfInBounds_toArray, List.set_cons_zero, List.set_cons_succ]
  refine wpAnyH_take (i := 8) (v := .pointer (some ⟨bb, 1, none⟩)) rfl (by kernel_rfl) (by kernel_rfl) (by kernel_rfl) (fun _ _ _ h => h) (y_run (by rfl) (fun w _ => by unfold execOp; go_simp)) hHeld ?_
  try simp only [Act.put, List.getElem_toArray, List.getElem_cons_succ, List.getElem_cons_zero, List.setIfInBounds_toArray, List.set_cons_zero, List.set_cons_succ]
  refine wpAnyH_take (i := 9) (v := .int .i64 y) rfl (by kernel_rfl) (by kernel_rfl) (by kernel_rfl) (fun _ _ _ h => h) (y_load (by rfl) rfl rfl (fun _ h => h.2.1)) hHeld ?_
  try simp only [Act.put, List.getElem_toArray, List.getElem_cons_succ, List.getElem_cons_zero, List.setIfInBounds_toArray, List.set_cons_zero, List.set_cons_succ]
  refine wpAnyH_take (i := 10) (v := .pointer (some ⟨bb, 0, none⟩)) rfl (by kernel_rfl) (by kernel_rfl) (by kernel_rfl) (fun _ _ _ h => h) (y_move (by rfl) rfl rfl) hHeld ?_
  try simp only [Act.put, List.getElem_toArray, List.getElem_cons_succ, List.getElem_cons_zero, List.setIfInBounds_toArray, List.set_cons_zero, List.set_cons_succ]
  refine wpAnyH_take (i := 11) (v := .pointer (some ⟨bb, 0, none⟩)) rfl (by kernel_rfl) (by kernel_rfl) (by kernel_rfl) (fun _ _ _ h => h) (y_run (by rfl) (fun w _ => by unfold execOp; go_simp)) hHeld ?_
  try simp only [Act.put, List.getElem_toArray, List.getElem_cons_succ, List.getElem_cons_zero, List.setIfInBounds_toArray, List.set_cons_zero, List.set_cons_succ]
  refine wpAnyH_take (i := 12) (v := .pointer (some ⟨bb, 3, none⟩)) rfl (by kernel_rfl) (by kernel_rfl) (by kernel_rfl) (fun _ _ _ h => h) (y_run (by rfl) (fun w _ => by unfold execOp; go_simp)) hHeld ?_
  try simp only [Act.put, List.getElem_toArray, List.getElem_cons_succ, List.getElem_cons_zero, List.setIfInBounds_toArray, List.set_cons_zero, List.set_cons_succ]
  refine wpAnyH_take (i := 13) (v := .int .i64 ht) rfl (by kernel_rfl) (by kernel_rfl) (by kernel_rfl) (fun _ _ _ h => h) (y_load (by rfl) rfl rfl (fun _ h => h.2.2)) hHeld ?_
  try simp only [Act.put, List.getElem_toArray, List.getElem_cons_succ, List.getElem_cons_zero, List.setIfInBounds_toArray, List.set_cons_zero, List.set_cons_succ]
  have hFI := HFI.out _ (grown_below HB.out (Below.refl _ _).drew)
  have hE : Calls Try.prog 48 #[.pointer (some ⟨fp, 0, none⟩), .int .i64 y, .int .i64 ht] w.drew fun e w' => e = .returned (.tuple #[.int .i64 0, .int .i64 width]) ∧ Below w.drew.heap.size w.drew w' := Go.Proofs.Ytmkgapdadandmaa.Fl.Edges_c fp width [] y ht w.drew hFI (fun f hf => by cases hf) (by decide)
  have HE := Lib.hid hE
  clear hE hFI
  refine wpAnyH_ready (rs := [14]) (by kernel_rfl) (by simp) ?_
  refine AllReadyH.cons rfl (fun K hK => ?_) AllReadyH.nil
  try simp only [Act.put, List.getElem_toArray, List.getElem_cons_succ, List.getElem_cons_zero, List.setIfInBounds_toArray, List.set_cons_zero, List.set_cons_succ]
  rw [if_pos (by rfl)]
  go_simp
  refine HE.out.mono ?_
  rintro e w4 ⟨rfl, hB4⟩
  have hb4 := blk_below (blk_drew HBB.out) hB4
  refine hK.out _ _ ⟨blk_cell hb4 0, blk_cell hb4 1, blk_cell hb4 3⟩ (fun hHeld => ?_)
  clear hK K
  try simp only [Act.put, List.getElem_toArray, List.getElem_cons_succ, List.getElem_cons_zero, List.setIfInBounds_toArray, List.set_cons_zero, List.set_cons_succ]
  have HB4 := Lib.hid hb4
  have RL4 := Lib.hid (Kd.R_below (Kd.R_drew HRl.out) hB4)
  have RO4 := Lib.hid (Kd.R_below (Kd.R_drew HRo.out) hB4)
  have GR4 := Lib.hid (grown_below (grown_below HB.out (Below.refl _ _).drew) hB4)
  have c6 := blk_cell hb4 6
  have c7 := blk_cell hb4 7
  have ff := fun i => blk_frozen hb4 i
  simp only [bkV, List.getElem?_toArray, List.getElem?_cons_zero, List.getElem?_cons_succ] at c6 c7
  have hb5 := set1' hb4 6 (.int .i64 0)
  have hb6 := set1' hb5 7 (.int .i64 width)
  clear hb4 hB4
  refine wpAnyH_take (i := 15) (v := .tuple #[.int .i64 0, .int .i64 width]) rfl (by kernel_rfl) (by kernel_rfl) (by kernel_rfl) (fun _ _ _ h => h) (y_move (by rfl) rfl rfl) hHeld ?_
  try simp only [Act.put, List.getElem_toArray, List.getElem_cons_succ, List.getElem_cons_zero, List.setIfInBounds_toArray, List.set_cons_zero, List.set_cons_succ]
  refine wpAnyH_take (i := 16) (v := .int .i64 0) rfl (by kernel_rfl) (by kernel_rfl) (by kernel_rfl) (fun _ _ _ h => h) (y_run (by rfl) (fun w _ => by unfold execOp; go_simp)) hHeld ?_
  try simp only [Act.put, List.getElem_toArray, List.getElem_cons_succ, List.getElem_cons_zero, List.setIfInBounds_toArray, List.set_cons_zero, List.set_cons_succ]
  refine wpAnyH_take (i := 17) (v := .int .i64 width) rfl (by kernel_rfl) (by kernel_rfl) (by kernel_rfl) (fun _ _ _ h => h) (y_run (by rfl) (fun w _ => by unfold execOp; go_simp)) hHeld ?_
  try simp only [Act.put, List.getElem_toArray, List.getElem_cons_succ, List.getElem_cons_zero, List.setIfInBounds_toArray, List.set_cons_zero, List.set_cons_succ]
  refine wpAnyH_take (i := 18) (v := .pointer (some ⟨bb, 0, none⟩)) rfl (by kernel_rfl) (by kernel_rfl) (by kernel_rfl) (fun _ _ _ h => h) (y_run (by rfl) (fun w _ => by unfold execOp; go_simp)) hHeld ?_
  try simp only [Act.put, List.getElem_toArray, List.getElem_cons_succ, List.getElem_cons_zero, List.setIfInBounds_toArray, List.set_cons_zero, List.set_cons_succ]
  refine wpAnyH_take (i := 19) (v := .pointer (some ⟨bb, 6, none⟩)) rfl (by kernel_rfl) (by kernel_rfl) (by kernel_rfl) (fun _ _ _ h => h) (y_run (by rfl) (fun w _ => by unfold execOp; go_simp)) hHeld ?_
  try simp only [Act.put, List.getElem_toArray, List.getElem_cons_succ, List.getElem_cons_zero, List.setIfInBounds_toArray, List.set_cons_zero, List.set_cons_succ]
  refine wpAnyH_ready (rs := [20]) (by kernel_rfl) (by simp) ?_
  refine AllReadyH.cons rfl (fun K hK => ?_) AllReadyH.nil
  try simp only [Act.put, List.getElem_toArray, List.getElem_cons_succ, List.getElem_cons_zero, List.setIfInBounds_toArray, List.set_cons_zero, List.set_cons_succ]
  rw [if_pos (by rfl)]
  go_simp
  refine hK.out _ _ ⟨blk_cell hb5 0, blk_cell hb5 1, blk_cell hb5 3⟩ (fun hHeld => ?_)
  clear hK K
  try simp only [Act.put, List.getElem_toArray, List.getElem_cons_succ, List.getElem_cons_zero, List.setIfInBounds_toArray, List.set_cons_zero, List.set_cons_succ]
  have c7b := blk_cell hb5 7
  have ff5 := fun i => blk_frozen hb5 i
  have c7c : (w4.setCell ⟨bb, 6, none⟩ (.int .i64 0)).cell? ⟨bb, 7, none⟩ = some (.int .i64 rt) := c7b
  refine wpAnyH_take (i := 21) (v := .pointer (some ⟨bb, 0, none⟩)) rfl (by kernel_rfl) (by kernel_rfl) (by kernel_rfl) (fun _ _ _ h => h) (y_run (by rfl) (fun w _ => by unfold execOp; go_simp)) hHeld ?_
  try simp only [Act.put, List.getElem_toArray, List.getElem_cons_succ, List.getElem_cons_zero, List.setIfInBounds_toArray, List.set_cons_zero, List.set_cons_succ]
  refine wpAnyH_take (i := 22) (v := .pointer (some ⟨bb, 7, none⟩)) rfl (by kernel_rfl) (by kernel_rfl) (by kernel_rfl) (fun _ _ _ h => h) (y_run (by rfl) (fun w _ => by unfold execOp; go_simp)) hHeld ?_
  try simp only [Act.put, List.getElem_toArray, List.getElem_cons_succ, List.getElem_cons_zero, List.setIfInBounds_toArray, List.set_cons_zero, List.set_cons_succ]
  refine wpAnyH_ready (rs := [23]) (by kernel_rfl) (by simp) ?_
  refine AllReadyH.cons rfl (fun K hK => ?_) AllReadyH.nil
  try simp only [Act.put, List.getElem_toArray, List.getElem_cons_succ, List.getElem_cons_zero, List.setIfInBounds_toArray, List.set_cons_zero, List.set_cons_succ]
  rw [if_pos (by rfl)]
  go_simp
  refine hK.out _ _ ⟨blk_cell hb6 0, blk_cell hb6 1, blk_cell hb6 3⟩ (fun hHeld => ?_)
  clear hK K
  try simp only [Act.put, List.getElem_toArray, List.getElem_cons_succ, List.getElem_cons_zero, List.setIfInBounds_toArray, List.set_cons_zero, List.set_cons_succ]
  refine wpAnyH_done (by kernel_rfl) ?_ _
  clear hHeld
  have HB6 : Hid (((w4.setCell ⟨bb, 6, none⟩ (.int .i64 0)).setCell ⟨bb, 7, none⟩ (.int .i64 width)).heap[bb]? = some (.cells (bkV ⟨fp, sz, ht, al⟩ ⟨y, ind, 0, width, ln, fu, ot⟩ lv ov).toArray 59 (0, 0))) := Lib.hid hb6
  have RL6 := Lib.hid (Kd.R_set (Kd.R_set RL4.out HB4.out (ptNeB ad) 6 (.int .i64 0)) (set1' HB4.out 6 (.int .i64 0)) (ptNeB ad) 7 (.int .i64 width))
  have RO6 := Lib.hid (Kd.R_set (Kd.R_set RO4.out HB4.out (by decide) 6 (.int .i64 0)) (set1' HB4.out 6 (.int .i64 0)) (by decide) 7 (.int .i64 width))
  have GR6 := Lib.hid ((GR4.out.trans (grown_cell' w4 bb 6 (.int .i64 0))).trans (grown_cell' _ bb 7 (.int .i64 width)))
  obtain ⟨W6, hW6⟩ : ∃ W6, (w4.setCell ⟨bb, 6, none⟩ (.int .i64 0)).setCell ⟨bb, 7, none⟩ (.int .i64 width) = W6 := ⟨_, rfl⟩
  rw [hW6] at HB6 RL6 RO6 GR6 ⊢
  clear hW6 hb5 hb6 c6 c7 c7b c7c ff ff5 HB4 RL4 RO4 GR4 HE HRl HRo HB HBB
  have HB7 := Lib.hid (blk_drew HB6.out)
  have RL7 := Lib.hid (Kd.R_drew RL6.out)
  have RO7 := Lib.hid (Kd.R_drew RO6.out)
  have GR7 := Lib.hid (grown_below GR6.out (Below.refl _ _).drew)
  go_wp2_with fail
  refine wp_region_still_tail 11 (by kernel_rfl) (by kernel_rfl) ?_
  simp only [List.take_succ_cons, List.take_zero, List.drop_succ_cons, List.drop_zero]
  change wpStill _ _ (World.drew W6) (fun a' => wpList _ _ _ _ a' (World.drew W6)) _ _
  generalize W6.drew = W7 at *
  have d5 : W7.cell? ⟨bb, 5, none⟩ = some (.int .i64 ind) := blk_cell HB7.out 5
  have d6 : W7.cell? ⟨bb, 6, none⟩ = some (.int .i64 0) := blk_cell HB7.out 6
  have df := fun i => blk_frozen HB7.out i
  have FIN := Lib.hid (isB_set (s' := ⟨y, ind, ind, width, ln, fu, ot⟩) HB7.out RL7.out RO7.out GR7.out 6 (.int .i64 ind) lv rfl (Kd.R_set RL7.out HB7.out (ptNeB ad) 6 _) rfl)
  still_step
  still_step
  still_step
  still_step
  still_step
  still_step
  still_step
  still_step
  still_step
  still_step
  still_step
  refine wpStill_nil ?_
  go_wp2_with fail
  go_end0
  exact ⟨rfl, FIN.out⟩
def beginS (width : Int) (s : Bk) : Bk := { s with line := [], full := false, left := s.indent, right := width }
set_option maxRecDepth 100000 in
set_option maxHeartbeats 4000000 in
theorem begin_v (ad : Addr) (bb : Nat) (K : Bc) (W0 : World) (width : Int) (s : Bk) (lv ov : Value) (w : World) (hI : IsV ad bb K W0 lv ov s w) (hF : NoF bb K W0 width) (hin : -16777216 ≤ s.indent ∧ s.indent ≤ 16777216) :
    Calls Try.prog 20 #[.pointer (some ⟨bb, 0, none⟩)] w fun e w' => e = .returned (.tuple #[]) ∧ IsV ad bb K W0 (.slice none 0 0) ov (beginS width s) w' := by
  obtain ⟨hb, hRl, hRo, hB⟩ := hI
  obtain ⟨al, nlx, cl, hlv⟩ : ∃ al nlx cl, lv = .slice al nlx cl := by
    obtain ⟨A, c, he, _⟩ := Kd.R_reads hRl
    exact ⟨A, _, c, he⟩
  subst hlv
  have h1 := isB_set (s' := s) hb hRl hRo hB 10 (.slice none 0 0) _ rfl (Kd.R_set hRl hb (ptNeB ad) 10 _) rfl
  have h2 := isB_set (s' := { s with line := [] }) h1.1 h1.2.1 h1.2.2.1 h1.2.2.2 8 (.slice none 0 0) (.slice none 0 0) rfl (Kd.R_nil _ _ _ _ _) rfl
  have h3 := isB_set (s' := { s with line := [], full := false }) h2.1 h2.2.1 h2.2.2.1 h2.2.2.2 9 (.bool false) (.slice none 0 0) rfl (Kd.R_nil _ _ _ _ _) rfl
  have END := Lib.hid (bends_v ad bb K W0 width { s with line := [], full := false } _ _ _ h3 hF hin)
  have c8 : w.cell? ⟨bb, 8, none⟩ = some (.slice al nlx cl) := blk_cell hb 8
  have c9 : w.cell? ⟨bb, 9, none⟩ = some (.bool s.full) := blk_cell hb 9
  have c10 : w.cell? ⟨bb, 10, none⟩ = some (.slice none 0 0) := blk_cell hb 10
  have ff := fun i => blk_frozen hb i
  generalize s.full = fu at c9
  clear h1 h2 h3 hb hRl hRo hB hF
  go_enter Try.func20, Try.ntmps20
  go_wp2_with fail
  go_loopw [9] (fun iv wr => iv = .int .i64 0 ∧ wr = w) (fun _ _ => 0)
  case atStart => exact ⟨rfl, rfl⟩
  case round =>
    obtain ⟨rfl, rfl⟩ := hrel
    go_wp2_with fail
    refine END.out.mono ?_
    rintro e w2 ⟨rfl, h⟩
    go_wp2_with fail
    go_end0
    exact ⟨rfl, h⟩
theorem begin_c (ad : Addr) (bb : Nat) (K : Bc) (W0 : World) (width : Int) (s : Bk) (w : World) (hI : IsB ad bb K W0 s w) (hF : NoF bb K W0 width) (hin : -16777216 ≤ s.indent ∧ s.indent ≤ 16777216) :
    Calls Try.prog 20 #[.pointer (some ⟨bb, 0, none⟩)] w fun e w' => e = .returned (.tuple #[]) ∧ IsB ad bb K W0 (beginS width s) w' := by
  obtain ⟨lv, ov, h⟩ := hI
  exact (begin_v ad bb K W0 width s lv ov w h hF hin).mono fun e w' h => ⟨h.1, _, _, h.2⟩
end Go.Proofs.Ytmkgapdadandmaa.Lin
