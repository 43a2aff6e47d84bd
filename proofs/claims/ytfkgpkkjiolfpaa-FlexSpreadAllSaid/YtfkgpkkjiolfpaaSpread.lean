/- flex.Spread: what it comes to. For every mode, every free room and up to 500 items. -/
import Derived.Test.YtfkgpkkjiolfpaaSpreadPlain
import Derived.Test.YtfkgpkkjiolfpaaRepeat
namespace Go.Proofs.Ytfkgpkkjiolfpaa.Spd
open Go.RowKit Go.Lib Go.Proofs.Ytfkgpkkjiolfpaa.Rgn Go.Proofs.Ytfkgpkkjiolfpaa.Flx Go.Proofs.Ytfkgpkkjiolfpaa.Pl Go.Proofs.Ytfkgpkkjiolfpaa.Fx Go.Proofs.Ytfkgpkkjiolfpaa.Sh Go.Proofs.YtfkgpkkjiolfpaaW.PrintWords Go.Proofs.YtfkgpkkjiolfpaaW.PrintLast Go.Proofs.YtfkgpkkjiolfpaaW.PrintMore
set_option linter.unusedVariables false
set_option linter.unusedSimpArgs false
attribute [local go_sem] mx2 mn2 mx_two mn_two mx_three mn_three

def OnesPost (free : Int) (k : Nat) (w : World) (e : Ending) (w' : World) : Prop := ∃ v, e = .returned v ∧ w'.ownsRow w.heap.size 3 1 v k (nums .i64 (share free (List.replicate k 1))) ∧ Below w.heap.size w w'
set_option maxRecDepth 100000 in
set_option maxHeartbeats 1000000 in
theorem ones_c (p : Addr) (free : Int) (k : Nat) (w : World) (hp : w.cell? p = some (.int .i64 free)) (hk : k ≤ 1000) :
    Calls Try.prog 52 #[.int .i64 (k : Int), .pointer (some p)] w (OnesPost free k w) := by
  have hpl : p.block < w.heap.size := World.block_lt_of_cell? w p hp
  have HP := Lib.hid hp
  clear hp
  go_enter Try.func52, Try.ntmps52
  go_wp2_with fail
  refine wp_region_held_drew (S := fun w' => w'.cell? p = some (.int .i64 free)) (by kernel_rfl) (by exact HP.out) (fun hHeld => ?_)
  refine wpAnyH_take (i := 0) (v := .int .i64 free) rfl (by kernel_rfl) (by kernel_rfl) (by kernel_rfl) (fun _ _ _ h => h) (y_load (by rfl) rfl rfl (fun _ h => h)) hHeld ?_
  try simp only [Act.put, List.getElem_toArray, List.getElem_cons_succ, List.getElem_cons_zero, List.setIfInBounds_toArray, List.set_cons_zero, List.set_cons_succ]
  refine wpAnyH_take (i := 2) (v := .int .i64 (k : Int)) rfl (by kernel_rfl) (by kernel_rfl) (by kernel_rfl) (fun _ _ _ h => h) (y_move (by rfl) rfl rfl) hHeld ?_
  try simp only [Act.put, List.getElem_toArray, List.getElem_cons_succ, List.getElem_cons_zero, List.setIfInBounds_toArray, List.set_cons_zero, List.set_cons_succ]
  refine wpAnyH_ready (rs := [1]) (by kernel_rfl) (by simp) ?_
  refine AllReadyH.cons rfl (fun K hK => ?_) AllReadyH.nil
  try simp only [Act.put, List.getElem_toArray, List.getElem_cons_succ, List.getElem_cons_zero, List.setIfInBounds_toArray, List.set_cons_zero, List.set_cons_succ]
  go_simp
  have e1 : (w.alloc (.cells #[.int .i64 1] 3)).drew.cell? p = some (.int .i64 free) := by
    show (w.alloc (.cells #[.int .i64 1] 3)).cell? p = _
    rw [World.cell?_alloc_lt _ _ _ hpl]; exact HP.out
  have e2 : (w.alloc (.cells #[.int .i64 1] 3)).drew.cell? ⟨w.heap.size, 0, none⟩ = some (.int .i64 1) := blk_cell (blk_new w (.cells #[.int .i64 1] 3)) 0
  have e3 : Below w.heap.size w (w.alloc (.cells #[.int .i64 1] 3)).drew := (below_alloc (Below.refl _ _) _).drew
  have e4 : w.heap.size ≤ (w.alloc (.cells #[.int .i64 1] 3)).drew.heap.size := e3.size
  generalize (w.alloc (.cells #[.int .i64 1] 3)).drew = W at *
  have E2 := Lib.hid e2
  have E3 := Lib.hid e3
  refine hK.out _ _ e1 (fun hHeld => ?_)
  clear hK K
  try simp only [Act.put, List.getElem_toArray, List.getElem_cons_succ, List.getElem_cons_zero, List.setIfInBounds_toArray, List.set_cons_zero, List.set_cons_succ]
  clear e1 e2 e3
  refine wpAnyH_ready (rs := [3]) (by kernel_rfl) (by simp) ?_
  refine AllReadyH.cons rfl (fun K hK => ?_) AllReadyH.nil
  try simp only [Act.put, List.getElem_toArray, List.getElem_cons_succ, List.getElem_cons_zero, List.setIfInBounds_toArray, List.set_cons_zero, List.set_cons_succ]
  go_simp
  refine (Repeat_c _ k W E2.out hk).mono ?_
  rintro e w1 ⟨v, rfl, hO, hB⟩
  obtain ⟨A, c, rfl, hrd⟩ := own_reads hO
  have hp1 : w1.cell? p = some (.int .i64 free) := by rw [hB.cell (p := p) (by omega)]; exact hHeld
  have B1 := Lib.hid hB
  have RD := Lib.hid hrd
  clear hO hB hrd
  refine hK.out _ _ hp1 (fun hHeld => ?_)
  clear hK K
  try simp only [Act.put, List.getElem_toArray, List.getElem_cons_succ, List.getElem_cons_zero, List.setIfInBounds_toArray, List.set_cons_zero, List.set_cons_succ]
  clear hp1
  refine wpAnyH_ready (rs := [4]) (by kernel_rfl) (by simp) ?_
  refine AllReadyH.cons rfl (fun K hK => ?_) AllReadyH.nil
  try simp only [Act.put, List.getElem_toArray, List.getElem_cons_succ, List.getElem_cons_zero, List.setIfInBounds_toArray, List.set_cons_zero, List.set_cons_succ]
  go_simp
  refine (Share_c free w1 A k c (List.replicate k 1) RD.out (by omega)).mono ?_
  rintro e w2 ⟨v, rfl, hO, hB⟩
  have hp2 : w2.cell? p = some (.int .i64 free) := by rw [hB.cell (p := p) (World.block_lt_of_cell? w1 p hHeld)]; exact hHeld
  have hB1 := B1.out.size
  have O2 := Lib.hid (own_weaken hO (show w.heap.size ≤ w1.heap.size by omega))
  have B2 := Lib.hid (below_then (below_then E3.out e4 B1.out) (by omega) hB)
  clear hO hB
  refine hK.out _ _ hp2 (fun hHeld => ?_)
  clear hK K
  try simp only [Act.put, List.getElem_toArray, List.getElem_cons_succ, List.getElem_cons_zero, List.setIfInBounds_toArray, List.set_cons_zero, List.set_cons_succ]
  clear hp2
  refine wpAnyH_take (i := 5) (v := v) rfl (by kernel_rfl) (by kernel_rfl) (by kernel_rfl) (fun _ _ _ h => h) (y_assign (by rfl) rfl rfl) hHeld ?_
  try simp only [Act.put, List.getElem_toArray, List.getElem_cons_succ, List.getElem_cons_zero, List.setIfInBounds_toArray, List.set_cons_zero, List.set_cons_succ]
  refine wpAnyH_done (by kernel_rfl) ?_ _
  clear hHeld
  have POST : Hid (OnesPost free k w (.returned v) w2) := Lib.hid ⟨v, rfl, O2.out, B2.out⟩
  go_wp2_with fail
  go_ret
  exact POST.out
end Go.Proofs.Ytfkgpkkjiolfpaa.Spd
