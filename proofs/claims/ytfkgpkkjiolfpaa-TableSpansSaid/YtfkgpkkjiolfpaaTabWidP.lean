/- Package table: what 'widen' makes of a row, plain. -/
import Derived.Test.YtfkgpkkjiolfpaaTabLaw
namespace Go.Proofs.Ytfkgpkkjiolfpaa.Tab
open Go.RowKit Go.Proofs.Ytfkgpkkjiolfpaa.Pl Go.Proofs.Ytfkgpkkjiolfpaa.Fx Go.Proofs.Ytfkgpkkjiolfpaa.Sh Go.Proofs.Ytfkgpkkjiolfpaa.Sm Go.Proofs.YtfkgpkkjiolfpaaW.PrintWords Go.Proofs.YtfkgpkkjiolfpaaW.PrintMore
set_option linter.unusedVariables false
set_option linter.unusedSimpArgs false

/-- Numbers as columns hold them. -/
def Good (xs : List Int) : Prop := ∀ i, 0 ≤ xs.getD i 0 ∧ xs.getD i 0 ≤ 16777216
def seg (xs : List Int) (a k : Nat) : List Int := (xs.drop a).take k
theorem seg_get (xs : List Int) (a k i : Nat) (h : i < k) : (seg xs a k).getD i 0 = xs.getD (a + i) 0 := by
  unfold seg
  rw [List.getD_eq_getElem?_getD, List.getElem?_take, if_pos h, List.getElem?_drop, List.getD_eq_getElem?_getD]
theorem seg_len (xs : List Int) (a k : Nat) (h : a + k ≤ xs.length) : (seg xs a k).length = k := by
  unfold seg
  rw [List.length_take, List.length_drop]
  omega
theorem sum_le (b : Int) (hb : 0 ≤ b) (xs : List Int) (n : Nat) : xs.length ≤ n → (∀ i, 0 ≤ xs.getD i 0 ∧ xs.getD i 0 ≤ b) → ∀ q, 0 ≤ (xs.take q).sum ∧ (xs.take q).sum ≤ b * (n : Int) := by
  induction n generalizing xs with
  | zero =>
    intro hl _ q
    have : xs = [] := List.eq_nil_of_length_eq_zero (by omega)
    subst this
    simp
  | succ n ih =>
    intro hl h q
    have e : b * ((n + 1 : Nat) : Int) = b * (n : Int) + b := by rw [Int.natCast_add, Int.mul_add]; simp
    have hn : 0 ≤ b * (n : Int) := Int.mul_nonneg hb (by omega)
    cases xs with
    | nil => rw [List.take_nil, List.sum_nil]; omega
    | cons x xs =>
      cases q with
      | zero => rw [List.take_zero, List.sum_nil]; omega
      | succ q =>
        have h0 := h 0
        have h1 := ih xs (by simpa using hl) (fun i => by have := h (i + 1); simpa using this) q
        simp only [List.take_succ_cons, List.sum_cons]
        simp at h0
        omega
theorem good_seg {xs : List Int} (h : Good xs) (a k : Nat) : ∀ i, 0 ≤ (seg xs a k).getD i 0 ∧ (seg xs a k).getD i 0 ≤ 16777216 := fun i => by
  by_cases hi : i < k
  · rw [seg_get _ _ _ _ hi]; exact h _
  · have : (seg xs a k).getD i 0 = 0 := by
      unfold seg
      rw [List.getD_eq_getElem?_getD, List.getElem?_take, if_neg hi]
      rfl
    omega
/-- No entry is more than all together, if none is below 0. -/
theorem get_le_sum (xs : List Int) : (∀ i, 0 ≤ xs.getD i 0) → ∀ i, xs.getD i 0 ≤ xs.sum := by
  induction xs with
  | nil => intro _ i; simp
  | cons x xs ih =>
    intro h i
    have h1 := ih (fun i => by have := h (i + 1); simpa using this)
    have h0 := h 0
    simp at h0
    have hs : 0 ≤ xs.sum := by
      have h2 := h1 xs.length
      have : xs.getD xs.length 0 = 0 := by simp
      omega
    cases i with
    | zero => simp; omega
    | succ i => have := h1 i; simp at this ⊢; omega
/-- The first j of a part have been added to. -/
def addP (xs : List Int) (a : Nat) (out : List Int) (j : Nat) : List Int := (List.range xs.length).map fun i => if a ≤ i ∧ i < a + j then xs.getD i 0 + out.getD (i - a) 0 else xs.getD i 0
theorem addP_len (xs : List Int) (a : Nat) (out : List Int) (j : Nat) : (addP xs a out j).length = xs.length := by simp [addP]
theorem addP_get (xs : List Int) (a : Nat) (out : List Int) (j i : Nat) (h : i < xs.length) : (addP xs a out j).getD i 0 = if a ≤ i ∧ i < a + j then xs.getD i 0 + out.getD (i - a) 0 else xs.getD i 0 := by
  unfold addP; simp [List.getD_eq_getElem?_getD, h]
theorem list_ext {xs ys : List Int} (hl : xs.length = ys.length) (h : ∀ i, i < xs.length → xs.getD i 0 = ys.getD i 0) : xs = ys := by
  apply List.ext_getElem hl
  intro i h1 h2
  have := h i h1
  simpa [List.getD_eq_getElem?_getD, h1, h2] using this
theorem addP_zero (xs : List Int) (a : Nat) (out : List Int) : addP xs a out 0 = xs :=
  list_ext (addP_len _ _ _ _) (fun i hi => by rw [addP_len] at hi; rw [addP_get _ _ _ _ _ hi, if_neg (by omega)])
theorem addP_set (xs : List Int) (a : Nat) (out : List Int) (j : Nat) (h : a + j < xs.length) : (addP xs a out j).set (a + j) (xs.getD (a + j) 0 + out.getD j 0) = addP xs a out (j + 1) := by
  apply list_ext
  · rw [List.length_set, addP_len, addP_len]
  · intro i hi
    rw [List.length_set, addP_len] at hi
    rw [addP_get _ _ _ _ _ hi]
    by_cases e : i = a + j
    · subst e
      rw [List.getD_eq_getElem?_getD, List.getElem?_set_self (by rw [addP_len]; exact h), if_pos (by omega)]
      simp
    · rw [List.getD_eq_getElem?_getD, List.getElem?_set_ne (by omega), ← List.getD_eq_getElem?_getD, addP_get _ _ _ _ _ hi]
      by_cases c : a ≤ i ∧ i < a + j
      · rw [if_pos c, if_pos (by omega)]
      · rw [if_neg c, if_neg (by omega)]
/-- What a row has become: nothing less, and a part of it at least so much. -/
def Wider (xs ys : List Int) (a k : Nat) (tt : Int) : Prop := ys.length = xs.length ∧ (∀ i, xs.getD i 0 ≤ ys.getD i 0) ∧ Good ys ∧ tt ≤ (seg ys a k).sum
/-- What the lack is shared by. -/
def byL (bs : List Int) (k : Nat) : List Int := if bs.sum = 0 then List.replicate k 1 else bs
theorem wider_none {xs : List Int} {a k : Nat} {tt : Int} (hx : Good xs) (h : tt ≤ (seg xs a k).sum) : Wider xs xs a k tt := ⟨rfl, fun _ => Int.le_refl _, hx, h⟩
theorem wider_add {xs bs : List Int} {a k : Nat} {tt : Int} (hx : Good xs) (hb : Good bs) (hbl : bs.length = k) (hk : 1 ≤ k) (hk2 : k ≤ 100) (hak : a + k ≤ xs.length) (ht : tt ≤ 16777216) (h : (seg xs a k).sum < tt) :
    Wider xs (addP xs a (share (tt - (seg xs a k).sum) (byL bs k)) k) a k tt ∧ (∀ i, i < k → 0 ≤ (share (tt - (seg xs a k).sum) (byL bs k)).getD i 0 ∧ (share (tt - (seg xs a k).sum) (byL bs k)).getD i 0 ≤ 16777216) := by
  have hsl := seg_len xs a k hak
  have hs0 := sum_le 16777216 (by omega) (seg xs a k) k (by omega) (good_seg hx a k) k
  rw [List.take_of_length_le (by omega)] at hs0
  have hbl2 : (byL bs k).length = k := by unfold byL; split <;> simp [hbl]
  have hbg : ∀ i, i < k → 0 ≤ (byL bs k).getD i 0 ∧ (byL bs k).getD i 0 ≤ 16777216 := fun i hi => by
    unfold byL
    split
    · simp [List.getD_eq_getElem?_getD, hi]
    · exact hb i
  have hws := ws_sum (byL bs k) (by omega) (fun i hi => hbg i (by omega)) k (by omega)
  rw [List.take_of_length_le (by omega)] at hws
  have hpos : ws (byL bs k) (byL bs k).length ≠ 0 := by
    rw [hbl2, hws]
    unfold byL
    split
    · intro e
      have : ∀ q : Nat, (List.replicate q (1 : Int)).sum = q := fun q => by
        induction q with
        | zero => rfl
        | succ q ih => rw [List.replicate_succ, List.sum_cons, ih]; omega
      rw [this] at e
      omega
    · assumption
  obtain ⟨lack, hlk⟩ : ∃ l, l = tt - (seg xs a k).sum := ⟨_, rfl⟩
  rw [← hlk]
  have hsum := share_sum lack (byL bs k)
  rw [if_neg hpos, cut_id (by omega) (by omega)] at hsum
  have hol : (share lack (byL bs k)).length = k := by rw [share_len]; exact hbl2
  have hnn : ∀ i, i < k → 0 ≤ (share lack (byL bs k)).getD i 0 := fun i hi => (share_at lack (byL bs k) i (by omega) (by omega)).2.1 (by omega)
  generalize share lack (byL bs k) = out at *
  have hnn2 : ∀ i, 0 ≤ out.getD i 0 := fun i => by
    by_cases hi : i < k
    · exact hnn i hi
    · have : out.getD i 0 = 0 := by simp [List.getD_eq_getElem?_getD, List.getElem?_eq_none (show out.length ≤ i by omega)]
      omega
  have hgs : ∀ i, i < k → (seg (addP xs a out k) a k).getD i 0 = (seg xs a k).getD i 0 + out.getD i 0 := fun i hi => by
    rw [seg_get _ _ _ _ hi, seg_get _ _ _ _ hi, addP_get _ _ _ _ _ (by omega), if_pos (by omega), show a + i - a = i by omega]
  have hss := sum_by (seg xs a k) out (seg (addP xs a out k) a k) k hsl hol (seg_len _ _ _ (by rw [addP_len]; exact hak)) hgs
  have hto : (seg (addP xs a out k) a k).sum = tt := by omega
  have hle : ∀ i, out.getD i 0 ≤ 16777216 := fun i => by
    have := get_le_sum out hnn2 i
    omega
  refine ⟨⟨addP_len _ _ _ _, fun i => ?_, fun i => ?_, by omega⟩, fun i hi => ⟨hnn i hi, hle i⟩⟩
  · by_cases hi : i < xs.length
    · rw [addP_get _ _ _ _ _ hi]
      split
      · have := hnn2 (i - a); omega
      · exact Int.le_refl _
    · have e1 : xs.getD i 0 = 0 := by simp [List.getD_eq_getElem?_getD, List.getElem?_eq_none (show xs.length ≤ i by omega)]
      have e2 : (addP xs a out k).getD i 0 = 0 := by simp [List.getD_eq_getElem?_getD, List.getElem?_eq_none (show (addP xs a out k).length ≤ i by rw [addP_len]; omega)]
      omega
  · by_cases hi : i < xs.length
    · by_cases c : a ≤ i ∧ i < a + k
      · have h1 : (seg (addP xs a out k) a k).getD (i - a) 0 = (addP xs a out k).getD i 0 := by rw [seg_get _ _ _ _ (by omega), show a + (i - a) = i by omega]
        have h2 := get_le_sum (seg (addP xs a out k) a k) (fun q => by
          by_cases hq : q < k
          · rw [hgs q hq]; have := hnn q hq; have := good_seg hx a k q; omega
          · have : (seg (addP xs a out k) a k).getD q 0 = 0 := by
              unfold seg
              rw [List.getD_eq_getElem?_getD, List.getElem?_take, if_neg hq]
              rfl
            omega) (i - a)
        rw [h1] at h2
        have h3 := hx i
        have h4 : (addP xs a out k).getD i 0 = xs.getD i 0 + out.getD (i - a) 0 := by rw [addP_get _ _ _ _ _ hi, if_pos c]
        have h5 := hnn2 (i - a)
        omega
      · rw [addP_get _ _ _ _ _ hi, if_neg c]
        exact hx i
    · have e2 : (addP xs a out k).getD i 0 = 0 := by simp [List.getD_eq_getElem?_getD, List.getElem?_eq_none (show (addP xs a out k).length ≤ i by rw [addP_len]; omega)]
      omega
end Go.Proofs.Ytfkgpkkjiolfpaa.Tab
