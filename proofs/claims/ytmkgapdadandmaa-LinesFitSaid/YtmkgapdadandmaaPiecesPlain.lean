/- All pieces together are the text, and none is empty: plain facts. -/
import Derived.Test.YtmkgapdadandmaaPieces
import Derived.Lib.Join
namespace Go.Proofs.Ytmkgapdadandmaa.Brk
open Go.RowKit
set_option linter.unusedVariables false

theorem join_nil (xs : List (List UInt8)) : Lib.join xs [] = xs.flatten := by
  unfold Lib.join
  have key : ∀ xs : List (List UInt8), (xs.intersperse []).flatten = xs.flatten := by
    intro xs
    induction xs with
    | nil => rfl
    | cons x xs ih =>
      cases xs with
      | nil => rfl
      | cons y ys =>
        show x ++ ([] ++ (List.intersperse [] (y :: ys)).flatten) = x ++ (y :: ys).flatten
        rw [ih, List.nil_append]
  exact key xs

/-- What the pieces so far are together. -/
def Whole (s : ByteArray) (p : Int × List ByteArray) : Prop :=
  0 ≤ p.1 ∧ p.1 ≤ s.size ∧ (p.2.map (·.data.toList)).flatten = s.data.toList.take p.1.toNat ∧ ∀ x, x ∈ p.2 → 0 < x.size
theorem whole_step {s : ByteArray} {p : Int × List ByteArray} {u : Br} (h : Whole s p) (hu0 : 0 ≤ u.f0) (hu : u.f0 ≤ s.size) : Whole s (stepP s p u) := by
  obtain ⟨h1, h2, h3, h4⟩ := h
  unfold stepP
  by_cases hc : p.1 < u.f0
  · rw [if_pos hc]
    refine ⟨hu0, hu, ?_, ?_⟩
    · rw [List.map_append, List.flatten_append, h3]
      have e : (s.extract p.1.toNat u.f0.toNat).data.toList = (s.data.toList.take u.f0.toNat).drop p.1.toNat := by
        rw [ByteArray.data_extract, Array.toList_extract]
        rw [List.extract_eq_take_drop, List.drop_take]
      simp only [List.map_cons, List.map_nil, List.flatten_cons, List.flatten_nil, List.append_nil]
      rw [e]
      have e2 : s.data.toList.take p.1.toNat = (s.data.toList.take u.f0.toNat).take p.1.toNat := by
        rw [List.take_take]; congr 1; omega
      rw [e2, List.take_append_drop]
    · intro x hx
      rcases List.mem_append.1 hx with hx | hx
      · exact h4 x hx
      · rw [List.mem_singleton] at hx
        subst hx
        rw [ByteArray.size_extract]
        omega
  · rw [if_neg hc]
    exact ⟨h1, h2, h3, h4⟩
theorem whole_all (s : ByteArray) (us : List Br) (h : ∀ u, u ∈ us → 1 ≤ u.f0 ∧ u.f0 ≤ s.size) :
    (((piecesP s (us ++ [⟨(s.size : Int), false⟩])).2.map (·.data.toList)).flatten = s.data.toList) ∧ ∀ x, x ∈ (piecesP s (us ++ [⟨(s.size : Int), false⟩])).2 → 0 < x.size := by
  have key : ∀ (l : List Br) (p : Int × List ByteArray), (∀ u, u ∈ l → 0 ≤ u.f0 ∧ u.f0 ≤ s.size) → Whole s p → Whole s (l.foldl (stepP s) p) := by
    intro l
    induction l with
    | nil => intro p _ hp; exact hp
    | cons u l ih =>
      intro p hl hp
      rw [List.foldl_cons]
      exact ih _ (fun x hx => hl x (by simp [hx])) (whole_step hp (hl u (by simp)).1 (hl u (by simp)).2)
  have h0 : Whole s (piecesP s us) := key us (0, []) (fun u hu => ⟨by have := (h u hu).1; omega, (h u hu).2⟩) ⟨Int.le_refl _, by show (0 : Int) ≤ _; omega, by simp, fun x hx => by simp at hx⟩
  rw [pieces_snoc]
  have h1 : Whole s (stepP s (piecesP s us) ⟨(s.size : Int), false⟩) := whole_step h0 (by show (0 : Int) ≤ (s.size : Int); omega) (Int.le_refl _)
  have e : (stepP s (piecesP s us) ⟨(s.size : Int), false⟩).1 = s.size := by
    unfold stepP
    split
    · rfl
    · rename_i hc
      have := h0.2.1
      have hc : ¬ (piecesP s us).1 < (s.size : Int) := hc
      omega
  refine ⟨?_, h1.2.2.2⟩
  rw [h1.2.2.1, e]
  exact List.take_of_length_le (by rw [Array.length_toList, Int.toNat_natCast]; exact Nat.le_refl _)
end Go.Proofs.Ytmkgapdadandmaa.Brk
