/- (without the walk of a sum) The law's own sum; what is told of fix.Share's parts. -/
import Derived.Test.YtmkgapdadandmaaShare
namespace Go.Proofs.Ytmkgapdadandmaa.Sm
open Go.RowKit Go.Proofs.Ytmkgapdadandmaa.Pl Go.Proofs.Ytmkgapdadandmaa.Fx Go.Proofs.Ytmkgapdadandmaa.Sh Go.Proofs.YtmkgapdadandmaaW.PrintWords Go.Proofs.YtmkgapdadandmaaW.PrintMore
set_option linter.unusedVariables false
set_option linter.unusedSimpArgs false

theorem take_sum (xs : List Int) (k : Nat) (h : k < xs.length) : (xs.take (k + 1)).sum = (xs.take k).sum + xs.getD k 0 := by
  rw [List.take_succ_eq_append_getElem h, List.sum_append]; simp [List.getD_eq_getElem?_getD, h]
theorem share_len (n : Int) (xs : List Int) : (share n xs).length = xs.length := by
  unfold share; split <;> simp
theorem ws_pos_iff (xs : List Int) (h : xs.length ≤ 1000) : ws xs xs.length = 0 ↔ ∀ k, k < xs.length → xs.getD k 0 ≤ 0 := by
  have key : ∀ m, m ≤ xs.length → (ws xs m = 0 ↔ ∀ k, k < m → xs.getD k 0 ≤ 0) := by
    intro m
    induction m with
    | zero => intro _; simp [ws]
    | succ m ih =>
      intro hm
      have h1 := ws_bd xs m
      have h2 := wt_bd xs m
      have h3 : wt xs m = 0 ↔ xs.getD m 0 ≤ 0 := by
        unfold wt cut
        rw [if_neg (by omega)]
        omega
      rw [ws]
      constructor
      · intro h0 k hk
        by_cases e : k = m
        · subst e; exact h3.1 (by omega)
        · exact (ih (by omega)).1 (by omega) k (by omega)
      · intro h0
        have := (ih (by omega)).2 (fun k hk => h0 k (by omega))
        have := h3.2 (h0 m (by omega))
        omega
  exact key _ (Nat.le_refl _)
theorem share_at (n : Int) (xs : List Int) (k : Nat) (hk : k < xs.length) (hl : xs.length ≤ 1000) :
    (xs.getD k 0 ≤ 0 → (share n xs).getD k 0 = 0) ∧ (0 ≤ n → 0 ≤ (share n xs).getD k 0) ∧ (n ≤ 0 → (share n xs).getD k 0 ≤ 0) := by
  by_cases hz : ws xs xs.length = 0
  · have e : (share n xs).getD k 0 = 0 := by
      unfold share; rw [if_pos hz]; simp [List.getD_eq_getElem?_getD, hk]
    rw [e]; omega
  · have e : (share n xs).getD k 0 = upto n xs (k + 1) - upto n xs k := by
      unfold share; rw [if_neg hz]; simp [List.getD_eq_getElem?_getD, hk]
    rw [e]
    have ha : 0 < ws xs xs.length := by have := ws_bd xs xs.length; omega
    have h1 := ws_mono xs (show k ≤ k + 1 by omega)
    refine ⟨fun h => ?_, fun h => ?_, fun h => ?_⟩
    · have h2 : wt xs k = 0 := by unfold wt cut; rw [if_neg (by omega)]; omega
      unfold upto
      rw [ws, h2]; simp
    · have hc : 0 ≤ cut n := cut_nonneg.2 h
      have := ediv_mono ha (Int.mul_le_mul_of_nonneg_left h1 hc)
      unfold upto; omega
    · have hc : cut n ≤ 0 := by unfold cut; omega
      have := ediv_mono ha (Int.mul_le_mul_of_nonpos_left hc h1)
      unfold upto; omega
theorem take_share (n : Int) (xs : List Int) (hz : ¬ ws xs xs.length = 0) (k : Nat) (hk : k ≤ xs.length) : ((share n xs).take k).sum = upto n xs k := by
  induction k with
  | zero => simp [upto, ws]
  | succ k ih =>
    rw [take_sum _ _ (by rw [share_len]; omega), ih (by omega)]
    have e : (share n xs).getD k 0 = upto n xs (k + 1) - upto n xs k := by
      unfold share; rw [if_neg hz]; simp [List.getD_eq_getElem?_getD, show k < xs.length by omega]
    rw [e]; omega
theorem share_sum (n : Int) (xs : List Int) : (share n xs).sum = if ws xs xs.length = 0 then 0 else cut n := by
  by_cases hz : ws xs xs.length = 0
  · rw [if_pos hz]; unfold share; rw [if_pos hz]
    induction xs.length with
    | zero => rfl
    | succ m ih => rw [List.replicate_succ, List.sum_cons, ih]; rfl
  · rw [if_neg hz]
    have h := take_share n xs hz xs.length (Nat.le_refl _)
    rw [List.take_of_length_le (by rw [share_len]; omega)] at h
    rw [h]
    unfold upto
    exact Int.mul_ediv_cancel _ hz
theorem share_take_bd (n : Int) (xs : List Int) (k : Nat) : -16777216 ≤ ((share n xs).take k).sum ∧ ((share n xs).take k).sum ≤ 16777216 := by
  by_cases hz : ws xs xs.length = 0
  · have e : ((share n xs).take k).sum = 0 := by
      unfold share; rw [if_pos hz, List.take_replicate]
      induction (min k xs.length) with
      | zero => rfl
      | succ m ih => rw [List.replicate_succ, List.sum_cons, ih]; rfl
    omega
  · have ha : 0 < ws xs xs.length := by have := ws_bd xs xs.length; omega
    by_cases hk : k ≤ xs.length
    · rw [take_share n xs hz k hk]; exact upto_bd n xs k hk ha
    · rw [List.take_of_length_le (by rw [share_len]; omega), share_sum, if_neg hz]; exact cut_bd n

end Go.Proofs.Ytmkgapdadandmaa.Sm
