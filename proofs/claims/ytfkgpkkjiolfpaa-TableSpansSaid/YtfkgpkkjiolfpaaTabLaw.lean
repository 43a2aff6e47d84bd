/- Package table: what widths of columns are told to be, plain. -/
import Derived.Test.YtfkgpkkjiolfpaaTabPlain
namespace Go.Proofs.Ytfkgpkkjiolfpaa.Tab
open Go.RowKit Go.Proofs.Ytfkgpkkjiolfpaa.Pl Go.Proofs.Ytfkgpkkjiolfpaa.Fx Go.Proofs.Ytfkgpkkjiolfpaa.Sh Go.Proofs.Ytfkgpkkjiolfpaa.Sm Go.Proofs.YtfkgpkkjiolfpaaW.PrintWords Go.Proofs.YtfkgpkkjiolfpaaW.PrintMore
set_option linter.unusedVariables false
set_option linter.unusedSimpArgs false

/-- A share is no more than its weight, where no more is shared than all weights together. -/
theorem share_le (n : Int) (xs : List Int) (k : Nat) (hk : k < xs.length) (h0 : 0 ≤ n) (h1 : cut n ≤ ws xs xs.length) : (share n xs).getD k 0 ≤ wt xs k := by
  have hw := (wt_bd xs k).1
  by_cases hz : ws xs xs.length = 0
  · have e : (share n xs).getD k 0 = 0 := by
      unfold share; rw [if_pos hz]; simp [List.getD_eq_getElem?_getD, hk]
    rw [e]; exact hw
  · have e : (share n xs).getD k 0 = upto n xs (k + 1) - upto n xs k := by
      unfold share; rw [if_neg hz]; simp [List.getD_eq_getElem?_getD, hk]
    rw [e]
    have ha : 0 < ws xs xs.length := by have := ws_bd xs xs.length; omega
    have h2 : cut n * ws xs (k + 1) ≤ cut n * ws xs k + wt xs k * ws xs xs.length := by
      have h3 : ws xs (k + 1) = ws xs k + wt xs k := rfl
      rw [h3, Int.mul_add]
      have := Int.mul_le_mul_of_nonneg_right h1 hw
      rw [Int.mul_comm (ws xs xs.length) (wt xs k)] at this
      omega
    have h3 := ediv_mono ha h2
    rw [Int.add_mul_ediv_right _ _ hz] at h3
    unfold upto
    omega
theorem lowP_id (low : List Int) (n : Nat) (hl : low.length = n) (h : ∀ i, i < n → 0 ≤ low.getD i 0 ∧ low.getD i 0 ≤ 65535) : lowP low n = low := by
  apply List.ext_getElem
  · simp [lowP, hl]
  · intro i h1 h2
    have hi : i < n := by omega
    have := h i hi
    rw [show low.getD i 0 = low[i] by simp [List.getD_eq_getElem?_getD, h2]] at this
    simp only [lowP, List.getElem_map, List.getElem_range, lowW]
    rw [show low.getD i 0 = low[i] by simp [List.getD_eq_getElem?_getD, h2]]
    unfold cut
    omega
theorem moreP_get (low high : List Int) (n : Nat) (h : ∀ i, i < n → (0 ≤ low.getD i 0 ∧ low.getD i 0 ≤ 65535) ∧ low.getD i 0 ≤ high.getD i 0 ∧ high.getD i 0 ≤ 131070) (i : Nat) (hi : i < n) : (moreP low high n).getD i 0 = high.getD i 0 - low.getD i 0 := by
  have := h i hi
  have e : (moreP low high n).getD i 0 = moreW low high i := by simp [moreP, List.getD_eq_getElem?_getD, hi]
  rw [e]
  unfold moreW lowW cut
  omega
theorem wt_of (xs : List Int) (k : Nat) (hk : k < 1000) (h0 : 0 ≤ xs.getD k 0) (h1 : xs.getD k 0 ≤ 16777216) : wt xs k = xs.getD k 0 := by
  unfold wt
  rw [if_neg (by omega), cut_id (by omega) h1]
  omega
theorem ws_sum (xs : List Int) (hl : xs.length ≤ 1000) (h : ∀ k, k < xs.length → 0 ≤ xs.getD k 0 ∧ xs.getD k 0 ≤ 16777216) : ∀ k, k ≤ xs.length → ws xs k = (xs.take k).sum := by
  intro k
  induction k with
  | zero => intro _; rfl
  | succ k ih =>
    intro hk
    rw [take_sum _ _ (by omega), ← ih (by omega)]
    show ws xs k + wt xs k = _
    rw [wt_of xs k (by omega) (h k (by omega)).1 (h k (by omega)).2]
theorem sum_by (a b c : List Int) (n : Nat) (ha : a.length = n) (hb : b.length = n) (hc : c.length = n) (h : ∀ i, i < n → c.getD i 0 = a.getD i 0 + b.getD i 0) : c.sum = a.sum + b.sum := by
  have hk : ∀ k, k ≤ n → (c.take k).sum = (a.take k).sum + (b.take k).sum := by
    intro k
    induction k with
    | zero => intro _; rfl
    | succ k ih =>
      intro hk
      rw [take_sum _ _ (by omega), take_sum _ _ (by omega), take_sum _ _ (by omega), ih (by omega), h k (by omega)]
      omega
  have := hk n (Nat.le_refl _)
  rwa [List.take_of_length_le (by omega), List.take_of_length_le (by omega), List.take_of_length_le (by omega)] at this
theorem widths_facts (room sp : Int) (low high : List Int) (n : Nat) (fixed : Bool) (hl : low.length = n) (hh : high.length = n) (hn : n ≤ 20)
    (h : ∀ i, i < n → (0 ≤ low.getD i 0 ∧ low.getD i 0 ≤ 65535) ∧ low.getD i 0 ≤ high.getD i 0 ∧ high.getD i 0 ≤ 131070) (hr : cut room = room) (hs : cut sp = sp) (hs0 : 0 ≤ sp) :
    (widthsP room sp low high n fixed).length = n ∧ (∀ i, i < n → low.getD i 0 ≤ (widthsP room sp low high n fixed).getD i 0 ∧ (fixed = false → (widthsP room sp low high n fixed).getD i 0 ≤ high.getD i 0)) ∧
    (fixed = false → low.sum ≤ room - sp * ((n : Int) + 1) → room - sp * ((n : Int) + 1) ≤ high.sum → (widthsP room sp low high n fixed).sum = room - sp * ((n : Int) + 1)) := by
  have e1 := lowP_id low n hl (fun i hi => (h i hi).1)
  have eg := moreP_get low high n h
  have ml : (moreP low high n).length = n := by simp [moreP]
  have es : high.sum = low.sum + (moreP low high n).sum := sum_by low _ high n hl ml hh (fun i hi => by rw [eg i hi]; omega)
  have ef : freeP room sp n = max 0 (room - sp * ((n : Int) + 1)) := by
    unfold freeP; rw [hr, hs, show max 0 sp = sp by omega]
  have hfb := freeP_bd room sp n
  have hww := ws_sum (moreP low high n) (by omega) (fun k hk => by rw [eg k (by omega)]; have := h k (by omega); omega) n (by omega)
  rw [List.take_of_length_le (by omega)] at hww
  unfold widthsP
  rw [e1]
  generalize moreP low high n = more at *
  generalize room - sp * ((n : Int) + 1) = q at *
  generalize freeP room sp n = fr at *
  cases fixed with
  | true =>
    rw [if_pos rfl]
    refine ⟨by rw [zip_len, hl], fun i hi => ⟨?_, fun e => by cases e⟩, fun e => by cases e⟩
    rw [zip_get _ _ _ _ _ (by omega), if_pos hi]
    omega
  | false =>
    rw [if_neg (by decide)]
    by_cases hc : fr ≤ low.sum
    · rw [if_pos hc]
      exact ⟨hl, fun i hi => ⟨Int.le_refl _, fun _ => (h i hi).2.1⟩, fun _ _ _ => by omega⟩
    · rw [if_neg hc]
      have hwl := ws_sum low (by omega) (fun k hk => by have := h k (by omega); omega) n (by omega)
      rw [List.take_of_length_le (by omega)] at hwl
      have hb1 := ws_bd low n
      have hb2 := ws_bd more n
      obtain ⟨m, hm⟩ : ∃ m, min (fr - low.sum) more.sum = m := ⟨_, rfl⟩
      rw [hm]
      have hcm : cut m = m := cut_id (by omega) (by omega)
      have hsl : ∀ i, i < n → 0 ≤ (share m more).getD i 0 ∧ (share m more).getD i 0 ≤ more.getD i 0 := fun i hi => by
        have a1 := (share_at m more i (by omega) (by omega)).2.1 (by omega)
        have a2 := share_le m more i (by omega) (by omega) (by rw [ml, hww, hcm]; omega)
        rw [wt_of more i (by omega) (by rw [eg i hi]; have := h i hi; omega) (by rw [eg i hi]; have := h i hi; omega)] at a2
        exact ⟨a1, a2⟩
      have hzg : ∀ i, i < n → (zipK (· + ·) low (share m more) n).getD i 0 = low.getD i 0 + (share m more).getD i 0 := fun i hi => by
        rw [zip_get _ _ _ _ _ (by omega), if_pos hi]
      refine ⟨by rw [zip_len, hl], fun i hi => ⟨by rw [hzg i hi]; have := hsl i hi; omega, fun _ => by rw [hzg i hi]; have := hsl i hi; have := eg i hi; omega⟩, fun _ g1 g2 => ?_⟩
      rw [sum_by low (share m more) _ n hl (by rw [share_len]; exact ml) (by rw [zip_len, hl]) hzg, share_sum, ml]
      split
      · omega
      · omega
end Go.Proofs.Ytfkgpkkjiolfpaa.Tab
