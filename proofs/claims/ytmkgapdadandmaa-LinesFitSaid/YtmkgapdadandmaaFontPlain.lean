/- What a text comes to, plainly: the sum over its runes. Valid texts, one behind the other, come to the sum of both. -/
import Derived.Lib.MapLaws
import Derived.Lib.ValidLaws
namespace Go.Proofs.Ytmkgapdadandmaa.Fnt
open Go.Lib
set_option linter.unusedVariables false

/-- The sum over the runes of a text. -/
def wgoD (f : Nat → Int) : Nat → List UInt8 → Int
  | 0, _ => 0
  | n + 1, l => if l = [] then 0 else f (decodeL l).1 + wgoD f n (l.drop (decodeL l).2)
def wsum (f : Nat → Int) (l : List UInt8) : Int := wgoD f l.length l
theorem wgoD_nil (f : Nat → Int) : ∀ n, wgoD f n [] = 0
  | 0 => rfl
  | _ + 1 => by simp [wgoD]
theorem wgoD_fuel (f : Nat → Int) : ∀ (n m : Nat) (l : List UInt8), l.length ≤ n → l.length ≤ m → wgoD f n l = wgoD f m l
  | 0, m, l, hn, _ => by
    have : l = [] := List.eq_nil_of_length_eq_zero (by omega)
    subst this
    rw [wgoD_nil, wgoD_nil]
  | n + 1, 0, l, _, hm => by
    have : l = [] := List.eq_nil_of_length_eq_zero (by omega)
    subst this
    rw [wgoD_nil, wgoD_nil]
  | n + 1, m + 1, l, hn, hm => by
    by_cases hne : l = []
    · subst hne
      rw [wgoD_nil, wgoD_nil]
    · have hw := decodeL_width l
      have hl : 0 < l.length := List.length_pos_iff.2 hne
      simp only [wgoD, if_neg hne]
      rw [wgoD_fuel f n m _ (by rw [List.length_drop]; omega) (by rw [List.length_drop]; omega)]
theorem wsum_nil (f : Nat → Int) : wsum f [] = 0 := rfl
theorem wsum_step (f : Nat → Int) (l : List UInt8) (hne : l ≠ []) : wsum f l = f (decodeL l).1 + wsum f (l.drop (decodeL l).2) := by
  have hw := decodeL_width l
  have hl : 0 < l.length := List.length_pos_iff.2 hne
  unfold wsum
  obtain ⟨n, hn⟩ : ∃ n, l.length = n + 1 := ⟨l.length - 1, by omega⟩
  rw [hn]
  simp only [wgoD, if_neg hne]
  rw [wgoD_fuel f n _ _ (by rw [List.length_drop]; omega) (Nat.le_refl _)]
/-- It is no more than so much a byte. -/
theorem wsum_bd (f : Nat → Int) (M : Int) (h0 : 0 ≤ M) (hf : ∀ r, -M ≤ f r ∧ f r ≤ M) (n : Nat) : ∀ l : List UInt8, l.length ≤ n → -(M * (n : Int)) ≤ wsum f l ∧ wsum f l ≤ M * (n : Int) := by
  induction n with
  | zero =>
    intro l hl
    have : l = [] := List.eq_nil_of_length_eq_zero (by omega)
    subst this
    rw [wsum_nil]
    simp
  | succ n ih =>
    intro l hl
    by_cases hne : l = []
    · subst hne
      rw [wsum_nil]
      have := Int.mul_nonneg h0 (Int.natCast_nonneg (n + 1))
      omega
    · rw [wsum_step f l hne]
      have hw := decodeL_width l
      have := ih (l.drop (decodeL l).2) (by rw [List.length_drop]; omega)
      have := hf (decodeL l).1
      rw [show M * ((n + 1 : Nat) : Int) = M * (n : Int) + M by rw [Int.natCast_add, Int.mul_add]; simp]
      omega
theorem getD_take {l m : List UInt8} {w i : Nat} (h : m.take w = l.take w) (hi : i < w) : m.getD i 0 = l.getD i 0 := by
  have := congrArg (fun t => t.getD i 0) h
  simpa [List.getD_eq_getElem?_getD, List.getElem?_take, hi] using this
theorem len_take {l m : List UInt8} {w : Nat} (h : m.take w = l.take w) (hl : w ≤ l.length) : w ≤ m.length := by
  have := congrArg List.length h
  simp only [List.length_take] at this
  omega
/-- A rune that is valid is read from its own bytes alone. -/
theorem dec_same (l m : List UInt8) (hne : l ≠ []) (hv : ¬ ((decodeL l).1 = 65533 ∧ (decodeL l).2 = 1)) (h : m.take (decodeL l).2 = l.take (decodeL l).2) : decodeL m = decodeL l := by
  have hle := decodeL_le l hne
  have hml := len_take h hle
  revert h hle hml hv
  rw [decodeL_N l, decodeL_N m]
  rcases decodeN_shape l.length (l.getD 0 0).toNat (l.getD 1 0).toNat (l.getD 2 0).toNat (l.getD 3 0).toNat with ⟨c, e⟩ | ⟨c1, c2, c3, cv, e⟩ | ⟨c1, c2, c3, c4, cv, cs, e⟩ | ⟨c1, c2, c3, c4, c5, cv, cw, e⟩ | e
  · rw [e]
    intro hv h hle hml
    dsimp only at h hle hml ⊢
    rw [getD_take h (i := 0) (by omega)]
    unfold decodeN
    rw [if_pos c]
  · rw [e]
    intro hv h hle hml
    dsimp only at h hle hml ⊢
    rw [getD_take h (i := 0) (by omega), getD_take h (i := 1) (by omega)]
    unfold decodeN
    rw [if_neg (by omega), if_pos ⟨c1, by omega, c3⟩, if_pos (by omega)]
  · rw [e]
    intro hv h hle hml
    dsimp only at h hle hml ⊢
    rw [getD_take h (i := 0) (by omega), getD_take h (i := 1) (by omega), getD_take h (i := 2) (by omega)]
    unfold decodeN
    rw [if_neg (by omega), if_neg (by omega), if_pos ⟨c1, ⟨by omega, c3⟩, by omega, c4⟩, if_pos ⟨by omega, by omega⟩]
  · rw [e]
    intro hv h hle hml
    dsimp only at h hle hml ⊢
    rw [getD_take h (i := 0) (by omega), getD_take h (i := 1) (by omega), getD_take h (i := 2) (by omega), getD_take h (i := 3) (by omega)]
    unfold decodeN
    rw [if_neg (by omega), if_neg (by omega), if_neg (by omega), if_pos ⟨c1, ⟨by omega, c3⟩, ⟨by omega, c4⟩, by omega, c5⟩, if_pos ⟨by omega, by omega⟩]
  · rw [e]
    intro hv
    exact absurd ⟨rfl, rfl⟩ hv
theorem valid_no {l : List UInt8} (hne : l ≠ []) (hv : validD l = true) : ¬ ((decodeL l).1 = 65533 ∧ (decodeL l).2 = 1) ∧ validD (l.drop (decodeL l).2) = true := by
  rw [validD_step l hne] at hv
  split at hv
  · cases hv
  · next h => exact ⟨h, hv⟩
/-- Behind a valid text all reads on as if it stood alone. -/
theorem dec_append {l : List UInt8} (t : List UInt8) (hne : l ≠ []) (hv : ¬ ((decodeL l).1 = 65533 ∧ (decodeL l).2 = 1)) : decodeL (l ++ t) = decodeL l :=
  dec_same l (l ++ t) hne hv (by rw [List.take_append_of_le_length (decodeL_le l hne)])
theorem joined (f : Nat → Int) (t : List UInt8) (n : Nat) : ∀ l : List UInt8, l.length ≤ n → validD l = true → wsum f (l ++ t) = wsum f l + wsum f t ∧ validD (l ++ t) = validD t := by
  induction n with
  | zero =>
    intro l hl _
    have : l = [] := List.eq_nil_of_length_eq_zero (by omega)
    subst this
    rw [wsum_nil]
    simp
  | succ n ih =>
    intro l hl hv
    by_cases hne : l = []
    · subst hne
      rw [wsum_nil]
      simp
    · obtain ⟨h1, h2⟩ := valid_no hne hv
      have hw := decodeL_width l
      have hle := decodeL_le l hne
      have hd := dec_append t hne h1
      have hne2 : l ++ t ≠ [] := by simp [hne]
      obtain ⟨e1, e2⟩ := ih (l.drop (decodeL l).2) (by rw [List.length_drop]; omega) h2
      rw [wsum_step f (l ++ t) hne2, wsum_step f l hne, hd, List.drop_append_of_le_length hle, e1]
      refine ⟨by omega, ?_⟩
      rw [validD_step (l ++ t) hne2, hd, if_neg h1, List.drop_append_of_le_length hle, e2]
/-- How much has room: the place of the first rune that is too much, or the end. -/
def fitgo (f : Nat → Int) (g : Int → Int) (room : Int) : Nat → List UInt8 → Int → Nat
  | 0, _, _ => 0
  | n + 1, l, a => if l = [] then 0 else if room < g (a + f (decodeL l).1) then 0 else (decodeL l).2 + fitgo f g room n (l.drop (decodeL l).2) (a + f (decodeL l).1)
def fitD (f : Nat → Int) (g : Int → Int) (room : Int) (l : List UInt8) (a : Int) : Nat := fitgo f g room l.length l a
theorem fitgo_nil (f : Nat → Int) (g : Int → Int) (room a : Int) : ∀ n, fitgo f g room n [] a = 0
  | 0 => rfl
  | _ + 1 => by simp [fitgo]
theorem fitgo_fuel (f : Nat → Int) (g : Int → Int) (room : Int) : ∀ (n m : Nat) (l : List UInt8) (a : Int), l.length ≤ n → l.length ≤ m → fitgo f g room n l a = fitgo f g room m l a
  | 0, m, l, a, hn, _ => by
    have : l = [] := List.eq_nil_of_length_eq_zero (by omega)
    subst this
    rw [fitgo_nil, fitgo_nil]
  | n + 1, 0, l, a, _, hm => by
    have : l = [] := List.eq_nil_of_length_eq_zero (by omega)
    subst this
    rw [fitgo_nil, fitgo_nil]
  | n + 1, m + 1, l, a, hn, hm => by
    by_cases hne : l = []
    · subst hne
      rw [fitgo_nil, fitgo_nil]
    · have hw := decodeL_width l
      have hl : 0 < l.length := List.length_pos_iff.2 hne
      simp only [fitgo, if_neg hne]
      rw [fitgo_fuel f g room n m _ _ (by rw [List.length_drop]; omega) (by rw [List.length_drop]; omega)]
theorem fitD_step (f : Nat → Int) (g : Int → Int) (room : Int) (l : List UInt8) (a : Int) (hne : l ≠ []) :
    fitD f g room l a = if room < g (a + f (decodeL l).1) then 0 else (decodeL l).2 + fitD f g room (l.drop (decodeL l).2) (a + f (decodeL l).1) := by
  have hw := decodeL_width l
  have hl : 0 < l.length := List.length_pos_iff.2 hne
  unfold fitD
  obtain ⟨n, hn⟩ : ∃ n, l.length = n + 1 := ⟨l.length - 1, by omega⟩
  rw [hn]
  simp only [fitgo, if_neg hne]
  rw [fitgo_fuel f g room n _ _ _ (by rw [List.length_drop]; omega) (Nat.le_refl _)]
theorem fitD_nil (f : Nat → Int) (g : Int → Int) (room a : Int) : fitD f g room [] a = 0 := rfl
/-- What fits has room; what is one rune longer has none. -/
theorem fit_most (f : Nat → Int) (g : Int → Int) (room : Int) (n : Nat) : ∀ (l : List UInt8) (a : Int), l.length ≤ n → validD l = true → g a ≤ room →
    fitD f g room l a ≤ l.length ∧ g (a + wsum f (l.take (fitD f g room l a))) ≤ room ∧ (fitD f g room l a < l.length → room < g (a + wsum f (l.take (fitD f g room l a + (decodeL (l.drop (fitD f g room l a))).2)))) := by
  induction n with
  | zero =>
    intro l a hl _ ha
    have : l = [] := List.eq_nil_of_length_eq_zero (by omega)
    subst this
    simp only [fitD_nil, List.take_nil, wsum_nil, Int.add_zero]
    exact ⟨Nat.le_refl _, ha, fun h => absurd h (by simp)⟩
  | succ n ih =>
    intro l a hl hv ha
    by_cases hne : l = []
    · subst hne
      simp only [fitD_nil, List.take_nil, wsum_nil, Int.add_zero]
      exact ⟨Nat.le_refl _, ha, fun h => absurd h (by simp)⟩
    · obtain ⟨h1, h2⟩ := valid_no hne hv
      have hw := decodeL_width l
      have hle := decodeL_le l hne
      have hpl : (l.take (decodeL l).2).length = (decodeL l).2 := by rw [List.length_take]; omega
      have hpne : l.take (decodeL l).2 ≠ [] := fun h => by rw [h] at hpl; simp at hpl; omega
      have hpd : decodeL (l.take (decodeL l).2) = decodeL l := dec_same l _ hne h1 (by rw [List.take_take, Nat.min_self])
      have hp1 : wsum f (l.take (decodeL l).2) = f (decodeL l).1 := by
        rw [wsum_step f _ hpne, hpd, List.drop_eq_nil_of_le (by omega), wsum_nil, Int.add_zero]
      have hpv : validD (l.take (decodeL l).2) = true := by
        rw [validD_step _ hpne, hpd, if_neg h1, List.drop_eq_nil_of_le (by omega)]
        rfl
      rw [fitD_step f g room l a hne]
      by_cases hr : room < g (a + f (decodeL l).1)
      · rw [if_pos hr]
        refine ⟨Nat.zero_le _, by simpa [wsum_nil] using ha, fun _ => ?_⟩
        rw [Nat.zero_add, List.drop_zero, hp1]
        exact hr
      · rw [if_neg hr]
        obtain ⟨i1, i2, i3⟩ := ih (l.drop (decodeL l).2) (a + f (decodeL l).1) (by rw [List.length_drop]; omega) h2 (by omega)
        have hsplit : ∀ k, l.take ((decodeL l).2 + k) = l.take (decodeL l).2 ++ (l.drop (decodeL l).2).take k := fun k => by
          rw [List.take_add]
        have hj : ∀ k, wsum f (l.take ((decodeL l).2 + k)) = f (decodeL l).1 + wsum f ((l.drop (decodeL l).2).take k) := fun k => by
          rw [hsplit, (joined f _ _ _ (Nat.le_refl _) hpv).1, hp1]
        generalize fitD f g room (l.drop (decodeL l).2) (a + f (decodeL l).1) = q at *
        rw [List.length_drop] at i1 i3
        refine ⟨by omega, ?_, fun hlt => ?_⟩
        · rw [hj, ← Int.add_assoc]
          exact i2
        · have := i3 (by omega)
          rw [List.drop_drop] at this
          rw [Nat.add_assoc, hj, ← Int.add_assoc]
          exact this
end Go.Proofs.Ytmkgapdadandmaa.Fnt
