/- Package font: the dots of a rune. -/
import Derived.Test.YtfkgpkkjiolfpaaRas1
namespace Go.Proofs.Ytfkgpkkjiolfpaa.Ras
open Go.RowKit Go.Lib Go.Proofs.Ytfkgpkkjiolfpaa.Blk Go.Proofs.Ytfkgpkkjiolfpaa.Rgn Go.Proofs.Ytfkgpkkjiolfpaa.Pl Go.Proofs.Ytfkgpkkjiolfpaa.Fx Go.Proofs.Ytfkgpkkjiolfpaa.Fnt Go.Proofs.YtfkgpkkjiolfpaaW.PrintWords Go.Proofs.YtfkgpkkjiolfpaaW.PrintLast Go.Proofs.YtfkgpkkjiolfpaaW.PrintMore
set_option linter.unusedVariables false
set_option linter.unusedSimpArgs false
attribute [local go_sem] mx2 mn2 mx_two mn_two mx_three mn_three

/-- The dots told so far. -/
def dSome (r : Int) (k : Nat) : List Int := (List.range 8).map fun j => if j < k then dotP r j else 0
theorem dSome_set (r : Int) (k : Nat) (hk : k < 8) : (dSome r k).set k (dotP r k) = dSome r (k + 1) := by
  apply List.ext_getElem
  · simp [dSome]
  · intro i h1 h2
    have hi : i < 8 := by simpa [dSome] using h2
    rw [List.getElem_set]
    simp only [dSome, List.getElem_map, List.getElem_range]
    by_cases e : k = i
    · subst e; simp
    · rw [if_neg e]
      by_cases h3 : i < k
      · rw [if_pos h3, if_pos (by omega)]
      · rw [if_neg h3, if_neg (by omega)]
theorem dSome_zero (r : Int) : dSome r 0 = List.replicate 8 0 := rfl
theorem dSome_all (r : Int) : dSome r 8 = (List.range 8).map (dotP r) := by
  unfold dSome
  apply List.map_congr_left
  intro j hj
  rw [if_pos (List.mem_range.1 hj)]
theorem load8 {W : World} {b t : Nat} {xs : List Int} (h : W.heap[b]? = some (.cells (nums .i64 xs).toArray t (0, 0))) : W.rangeAt b 0 (nums .i64 xs) := fun j v hj => by
  rw [Nat.zero_add, blk_cell h j]
  simpa using hj
theorem end8 {W w : World} {a0 a1 a2 a3 a4 a5 a6 a7 : Int} (h : W.heap[w.heap.size]? = some (.cells #[.int .i64 a0, .int .i64 a1, .int .i64 a2, .int .i64 a3, .int .i64 a4, .int .i64 a5, .int .i64 a6, .int .i64 a7] 155 (0, 0))) (hB : Below w.heap.size w W) :
    ∃ W1, (((((((W.setCell ⟨w.heap.size, 0, none⟩ (.int .i64 a0)).setCell ⟨w.heap.size, 1, none⟩ (.int .i64 a1)).setCell ⟨w.heap.size, 2, none⟩ (.int .i64 a2)).setCell ⟨w.heap.size, 3, none⟩ (.int .i64 a3)).setCell ⟨w.heap.size, 4, none⟩ (.int .i64 a4)).setCell ⟨w.heap.size, 5, none⟩ (.int .i64 a5)).setCell ⟨w.heap.size, 6, none⟩ (.int .i64 a6)).setCell ⟨w.heap.size, 7, none⟩ (.int .i64 a7) = W1 ∧
      W1.heap[w.heap.size]? = some (.cells #[.int .i64 a0, .int .i64 a1, .int .i64 a2, .int .i64 a3, .int .i64 a4, .int .i64 a5, .int .i64 a6, .int .i64 a7] 155 (0, 0)) ∧ Below w.heap.size w W1 := by
  have h8 := blk_set (blk_set (blk_set (blk_set (blk_set (blk_set (blk_set (blk_set h 0 (.int .i64 a0)) 1 (.int .i64 a1)) 2 (.int .i64 a2)) 3 (.int .i64 a3)) 4 (.int .i64 a4)) 5 (.int .i64 a5)) 6 (.int .i64 a6)) 7 (.int .i64 a7)
  simp only [List.setIfInBounds_toArray, List.set_cons_zero, List.set_cons_succ] at h8
  refine ⟨_, rfl, h8, ?_⟩
  clear h8
  have l : w.heap.size ≤ w.heap.size := Nat.le_refl _
  exact (((((((hB.setCell (p := ⟨w.heap.size, 0, none⟩) l _).setCell (p := ⟨w.heap.size, 1, none⟩) l _).setCell (p := ⟨w.heap.size, 2, none⟩) l _).setCell (p := ⟨w.heap.size, 3, none⟩) l _).setCell (p := ⟨w.heap.size, 4, none⟩) l _).setCell (p := ⟨w.heap.size, 5, none⟩) l _).setCell (p := ⟨w.heap.size, 6, none⟩) l _).setCell (p := ⟨w.heap.size, 7, none⟩) l _
def DotsPost (r : Int) (w : World) (e : Ending) (w' : World) : Prop := e = .returned (.agg (nums .i64 (dotsP r)).toArray) ∧ Below w.heap.size w w'
set_option maxHeartbeats 1000000 in
theorem Dots_no (r : Int) (w : World) (h : r = 32 ∨ fou r = 0) : Calls Try.prog 101 #[.int .i32 r] w (DotsPost r w) := by
  have hd : dotsP r = [0, 0, 0, 0, 0, 0, 0, 0] := by unfold dotsP; rw [if_pos h]; rfl
  unfold DotsPost
  rw [hd]
  clear hd
  have hk := blk_new w (.cells #[.int .i64 0, .int .i64 0, .int .i64 0, .int .i64 0, .int .i64 0, .int .i64 0, .int .i64 0, .int .i64 0] 155)
  have hB := below_alloc (Below.refl w.heap.size w) (.cells #[.int .i64 0, .int .i64 0, .int .i64 0, .int .i64 0, .int .i64 0, .int .i64 0, .int .i64 0, .int .i64 0] 155)
  have K := Lib.hid hk
  have B := Lib.hid hB
  clear hk hB
  by_cases h1 : r = 32
  · subst h1
    clear h
    go_enter Try.func101, Try.ntmps101
    go_wp2_with fail
    refine bodyPost_ret (results_cell_row rfl _ _ w.heap.size 155 _ (0, 0) _ rfl K.out Try.underlying155 rfl (by kernel_rfl)) rfl ⟨rfl, B.out⟩
  · have n1 : (r == 32) = false := by simp [h1]
    have hf : fou r = 0 := by
      rcases h with h | h
      · exact absurd h h1
      · exact h
    have n2 : (fou r == 0) = true := by simp [hf]
    have FC := Lib.hid (fou_c r)
    have hsz : (w.alloc (.cells #[.int .i64 0, .int .i64 0, .int .i64 0, .int .i64 0, .int .i64 0, .int .i64 0, .int .i64 0, .int .i64 0] 155)).heap.size = w.heap.size + 1 := by simp
    have SZ := Lib.hid hsz
    clear h h1 hf hsz
    go_enter Try.func101, Try.ntmps101
    go_wp2_with fail
    generalize w.alloc (.cells #[.int .i64 0, .int .i64 0, .int .i64 0, .int .i64 0, .int .i64 0, .int .i64 0, .int .i64 0, .int .i64 0] 155) = W at *
    refine (FC.out W).mono ?_
    rintro e w1 ⟨rfl, h1⟩
    have hk := blk_below K.out h1
    have B1 := Lib.hid (below_then B.out (by have := SZ.out; omega) h1)
    have z0 : w1.cell? ⟨w.heap.size, 0, none⟩ = some (.int .i64 (0)) := blk_cell hk 0
    have z1 : w1.cell? ⟨w.heap.size, 1, none⟩ = some (.int .i64 (0)) := blk_cell hk 1
    have z2 : w1.cell? ⟨w.heap.size, 2, none⟩ = some (.int .i64 (0)) := blk_cell hk 2
    have z3 : w1.cell? ⟨w.heap.size, 3, none⟩ = some (.int .i64 (0)) := blk_cell hk 3
    have z4 : w1.cell? ⟨w.heap.size, 4, none⟩ = some (.int .i64 (0)) := blk_cell hk 4
    have z5 : w1.cell? ⟨w.heap.size, 5, none⟩ = some (.int .i64 (0)) := blk_cell hk 5
    have z6 : w1.cell? ⟨w.heap.size, 6, none⟩ = some (.int .i64 (0)) := blk_cell hk 6
    have z7 : w1.cell? ⟨w.heap.size, 7, none⟩ = some (.int .i64 (0)) := blk_cell hk 7
    have f0 := blk_frozen hk 0
    have f1 := blk_frozen hk 1
    have f2 := blk_frozen hk 2
    have f3 := blk_frozen hk 3
    have f4 := blk_frozen hk 4
    have f5 := blk_frozen hk 5
    have f6 := blk_frozen hk 6
    have f7 := blk_frozen hk 7
    obtain ⟨w2, e2, k2, b2⟩ := end8 hk B1.out
    have K2 := Lib.hid k2
    have B2 := Lib.hid b2
    clear k2 b2 hk h1
    go_wp2
    refine bodyPost_ret (results_cell_row rfl _ _ w.heap.size 155 _ (0, 0) _ rfl K2.out Try.underlying155 rfl (by kernel_rfl)) rfl ⟨rfl, B2.out⟩
set_option maxHeartbeats 1000000 in
theorem Dots_yes (r : Int) (w : World) (h1 : r ≠ 32) (h2 : fou r ≠ 0) (h3 : 0 ≤ r) (h4 : r ≤ 2147483647) : Calls Try.prog 101 #[.int .i32 r] w (DotsPost r w) := by
  have hd : dotsP r = dSome r 8 := by rw [dSome_all]; unfold dotsP; rw [if_neg (by rintro (h | h); exact h1 h; exact h2 h)]
  unfold DotsPost
  rw [hd]
  clear hd
  have n1 : (r == 32) = false := by simp [h1]
  have n2 : (fou r == 0) = false := by simp [h2]
  have FC := Lib.hid (fou_c r)
  clear h1 h2
  have hk := blk_new w (.cells #[.int .i64 0, .int .i64 0, .int .i64 0, .int .i64 0, .int .i64 0, .int .i64 0, .int .i64 0, .int .i64 0] 155)
  have hB := below_alloc (Below.refl w.heap.size w) (.cells #[.int .i64 0, .int .i64 0, .int .i64 0, .int .i64 0, .int .i64 0, .int .i64 0, .int .i64 0, .int .i64 0] 155)
  have K := Lib.hid hk
  have B := Lib.hid hB
  have hsz : (w.alloc (.cells #[.int .i64 0, .int .i64 0, .int .i64 0, .int .i64 0, .int .i64 0, .int .i64 0, .int .i64 0, .int .i64 0] 155)).heap.size = w.heap.size + 1 := by simp
  have SZ := Lib.hid hsz
  clear hk hB hsz
  go_enter Try.func101, Try.ntmps101
  go_wp2_with fail
  generalize w.alloc (.cells #[.int .i64 0, .int .i64 0, .int .i64 0, .int .i64 0, .int .i64 0, .int .i64 0, .int .i64 0, .int .i64 0] 155) = W at *
  refine (FC.out W).mono ?_
  rintro e w1 ⟨rfl, h1⟩
  have K1 : Hid (w1.heap[w.heap.size]? = some (.cells (nums .i64 (dSome r 0)).toArray 155 (0, 0))) := Lib.hid (blk_below K.out h1)
  have B1 := Lib.hid (below_then B.out (by have := SZ.out; omega) h1)
  clear h1
  go_wp2_with fail
  go_loopw [12] (fun i wr => ∃ k : Nat, k ≤ 8 ∧ i = .int .i64 k ∧ Hid (wr.heap[w.heap.size]? = some (.cells (nums .i64 (dSome r k)).toArray 155 (0, 0))) ∧ Hid (Below w.heap.size w wr)) (fun i _ => 8 - (RowKit.intOf i).toNat)
  case atStart => exact ⟨0, by omega, rfl, K1.out, B1.out⟩
  case round =>
    obtain ⟨k, hk, rfl, hK, hB⟩ := hrel
    by_cases hlt : k < 8
    · have hm0 : 0 ≤ (r + 1) * ((k : Int) + 3) := Int.mul_nonneg (by omega) (by omega)
      have hm1 : (r + 1) * ((k : Int) + 3) ≤ 2147483648 * 11 := Int.mul_le_mul (by omega) (by omega) (by omega) (by omega)
      have hdl : (dSome r k).length = 8 := by simp [dSome]
      have z0 : wr.cell? ⟨w.heap.size, k, none⟩ = some (.int .i64 ((dSome r k).getD k 0)) := by
        rw [blk_cell hK.out k]
        simp [nums, hdl, hlt]
      have f0 := blk_frozen hK.out k
      have hs := blk_set hK.out k (.int .i64 (dotP r k))
      rw [show (nums .i64 (dSome r k)).toArray.setIfInBounds k (.int .i64 (dotP r k)) = (nums .i64 (dSome r (k + 1))).toArray by rw [List.setIfInBounds_toArray, ← dSome_set r k hlt]; simp [nums, List.map_set]] at hs
      have HS := Lib.hid hs
      have HB := Lib.hid (hB.out.setCell (p := ⟨w.heap.size, k, none⟩) (Nat.le_refl _) (.int .i64 (dotP r k)))
      have hdp : dotP r k = Go.bits .or .i64 ((r + 1) * ((k : Int) + 3) * 37 % 256) 1 := rfl
      have HD := Lib.hid hdp
      clear hs hdp hdl
      go_wp2_with fail
      rw [← HD.out]
      go_roundw
      case rel => exact ⟨k + 1, by omega, by go_num, HS.out, HB.out⟩
      case measure => simp [RowKit.intOf]; omega
    · obtain rfl : k = 8 := by omega
      have hk8 : wr.heap[w.heap.size]? = some (.cells #[.int .i64 (dotP r 0), .int .i64 (dotP r 1), .int .i64 (dotP r 2), .int .i64 (dotP r 3), .int .i64 (dotP r 4), .int .i64 (dotP r 5), .int .i64 (dotP r 6), .int .i64 (dotP r 7)] 155 (0, 0)) := hK.out
      have z0 : wr.cell? ⟨w.heap.size, 0, none⟩ = some (.int .i64 (dotP r 0)) := blk_cell hk8 0
      have z1 : wr.cell? ⟨w.heap.size, 1, none⟩ = some (.int .i64 (dotP r 1)) := blk_cell hk8 1
      have z2 : wr.cell? ⟨w.heap.size, 2, none⟩ = some (.int .i64 (dotP r 2)) := blk_cell hk8 2
      have z3 : wr.cell? ⟨w.heap.size, 3, none⟩ = some (.int .i64 (dotP r 3)) := blk_cell hk8 3
      have z4 : wr.cell? ⟨w.heap.size, 4, none⟩ = some (.int .i64 (dotP r 4)) := blk_cell hk8 4
      have z5 : wr.cell? ⟨w.heap.size, 5, none⟩ = some (.int .i64 (dotP r 5)) := blk_cell hk8 5
      have z6 : wr.cell? ⟨w.heap.size, 6, none⟩ = some (.int .i64 (dotP r 6)) := blk_cell hk8 6
      have z7 : wr.cell? ⟨w.heap.size, 7, none⟩ = some (.int .i64 (dotP r 7)) := blk_cell hk8 7
      have f0 := blk_frozen hk8 0
      have f1 := blk_frozen hk8 1
      have f2 := blk_frozen hk8 2
      have f3 := blk_frozen hk8 3
      have f4 := blk_frozen hk8 4
      have f5 := blk_frozen hk8 5
      have f6 := blk_frozen hk8 6
      have f7 := blk_frozen hk8 7
      obtain ⟨w2, e2, k2, b2⟩ := end8 hk8 hB.out
      have K2 := Lib.hid k2
      have B2 := Lib.hid b2
      clear k2 b2 hk8 hK hB
      go_wp2
      refine bodyPost_ret (results_cell_row rfl _ _ w.heap.size 155 _ (0, 0) _ rfl K2.out Try.underlying155 rfl (by kernel_rfl)) rfl ⟨rfl, B2.out⟩
theorem Dots_c (r : Int) (w : World) (h3 : 0 ≤ r) (h4 : r ≤ 2147483647) : Calls Try.prog 101 #[.int .i32 r] w (DotsPost r w) := by
  by_cases h : r = 32 ∨ fou r = 0
  · exact Dots_no r w h
  · exact Dots_yes r w (fun h1 => h (.inl h1)) (fun h1 => h (.inr h1)) h3 h4
end Go.Proofs.Ytfkgpkkjiolfpaa.Ras
