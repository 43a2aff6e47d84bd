/- How wide lines would be, plain: the least width is no more than the greatest; a blank at a text's end adds its own width. -/
import Derived.Test.YtmkgapdadandmaaFontPlain
namespace Go.Proofs.Ytmkgapdadandmaa.Siz
open Go.Lib Go.Proofs.Ytmkgapdadandmaa.Fnt
set_option linter.unusedVariables false

/-- A group of parts: how wide, its last blank, must its line end? -/
structure Gp where
  w : Int
  t : Int
  m : Bool
/-- What is kept while groups are gone over: least, most, sum, end. -/
structure Sz where
  least : Int
  most : Int
  sum : Int
  fin : Int
def stepS (s : Sz) (g : Gp) : Sz :=
  if g.m = true then ⟨max s.least (g.w - g.t), max s.most (s.sum + g.w - g.t), 0, 0⟩ else ⟨max s.least (g.w - g.t), s.most, s.sum + g.w, s.sum + g.w - g.t⟩
def goS (s : Sz) (l : List Gp) : Sz := l.foldl stepS s
def MildG (g : Gp) : Prop := 0 ≤ g.t ∧ g.t ≤ g.w ∧ g.w ≤ 10000000000000
def OkS (s : Sz) : Prop := 0 ≤ s.least ∧ 0 ≤ s.most ∧ 0 ≤ s.sum ∧ 0 ≤ s.fin ∧ s.fin ≤ s.sum ∧ s.least ≤ max s.most s.fin
theorem step_ok {s : Sz} {g : Gp} (h : OkS s) (hg : MildG g) : OkS (stepS s g) := by
  unfold OkS at h ⊢
  unfold MildG at hg
  unfold stepS
  split
  · simp only; omega
  · simp only; omega
theorem go_ok (l : List Gp) : ∀ s, OkS s → (∀ g, g ∈ l → MildG g) → OkS (goS s l) := by
  induction l with
  | nil => intro s h _; exact h
  | cons g l ih =>
    intro s h hl
    exact ih _ (step_ok h (hl g (List.mem_cons_self ..))) (fun x hx => hl x (List.mem_cons_of_mem _ hx))
theorem zero_ok : OkS ⟨0, 0, 0, 0⟩ := by unfold OkS; simp only; omega
/-- The plain law. -/
theorem sizes_order (l : List Gp) (h : ∀ g, g ∈ l → MildG g) : 0 ≤ (goS ⟨0, 0, 0, 0⟩ l).least ∧ (goS ⟨0, 0, 0, 0⟩ l).least ≤ max (goS ⟨0, 0, 0, 0⟩ l).most (goS ⟨0, 0, 0, 0⟩ l).fin := by
  have := go_ok l _ zero_ok h
  unfold OkS at this
  exact ⟨this.1, this.2.2.2.2.2⟩
/-- How far sums may go: so many groups, each so wide. -/
theorem step_bd {s : Sz} {g : Gp} (B : Int) (h : OkS s) (hs : s.sum ≤ B ∧ s.most ≤ B ∧ s.least ≤ B) (hg : MildG g) : (stepS s g).sum ≤ B + 10000000000000 ∧ (stepS s g).most ≤ B + 10000000000000 ∧ (stepS s g).least ≤ B + 10000000000000 := by
  unfold OkS at h
  unfold MildG at hg
  unfold stepS
  split
  · simp only; omega
  · simp only; omega
theorem getD_app (l : List UInt8) (i : Nat) : (l ++ [32]).getD i 0 = if i < l.length then l.getD i 0 else if i = l.length then 32 else 0 := by
  by_cases h : i < l.length
  · rw [if_pos h, List.getD_eq_getElem?_getD, List.getElem?_append_left h, List.getD_eq_getElem?_getD]
  · rw [if_neg h]
    by_cases e : i = l.length
    · subst e; rw [if_pos rfl]; simp [List.getD_eq_getElem?_getD]
    · rw [if_neg e, List.getD_eq_getElem?_getD, List.getElem?_eq_none (by simp; omega)]; rfl
/-- A blank behind a text does not change how what is ahead is read. -/
theorem dec_blank (l : List UInt8) (hne : l ≠ []) : decodeL (l ++ [32]) = decodeL l := by
  have hl : 0 < l.length := List.length_pos_iff.2 hne
  rw [decodeL_N l, decodeL_N (l ++ [32]), getD_app l 0, getD_app l 1, getD_app l 2, getD_app l 3, if_pos hl, List.length_append, List.length_singleton]
  have k1 := (l.getD 1 0).toNat_lt
  have k2 := (l.getD 2 0).toNat_lt
  have k3 := (l.getD 3 0).toNat_lt
  have o32 : (32 : UInt8).toNat = 32 := rfl
  have o0 : (0 : UInt8).toNat = 0 := rfl
  have z : ∀ i, l.length ≤ i → l.getD i 0 = 0 := fun i hi => by simp [List.getD_eq_getElem?_getD, List.getElem?_eq_none hi]
  by_cases h1 : l.length = 1
  · rw [h1, z 1 (by omega), z 2 (by omega), z 3 (by omega)]
    simp [decodeN]
  · by_cases h2 : l.length = 2
    · rw [h2, z 2 (by omega), z 3 (by omega)]
      simp [decodeN]
    · by_cases h3 : l.length = 3
      · rw [h3, z 3 (by omega)]
        simp [decodeN]
      · rw [if_pos (by omega), if_pos (by omega), if_pos (by omega)]
        unfold decodeN
        have a1 : 1 < l.length + 1 := by omega
        have a2 : 2 < l.length + 1 := by omega
        have a3 : 3 < l.length + 1 := by omega
        have b1 : 1 < l.length := by omega
        have b2 : 2 < l.length := by omega
        have b3 : 3 < l.length := by omega
        simp only [a1, a2, a3, b1, b2, b3, true_and]
theorem dec_32 : decodeL [32] = (32, 1) := by decide +kernel
/-- A blank at the end adds its own width. -/
theorem sum_blank (f : Nat → Int) (n : Nat) : ∀ l : List UInt8, l.length ≤ n → wsum f (l ++ [32]) = wsum f l + f 32 := by
  induction n with
  | zero =>
    intro l hl
    have : l = [] := List.eq_nil_of_length_eq_zero (by omega)
    subst this
    rw [List.nil_append, wsum_step f [32] (by simp), dec_32, wsum_nil]
    simp [wsum_nil]
  | succ n ih =>
    intro l hl
    by_cases hne : l = []
    · subst hne
      rw [List.nil_append, wsum_step f [32] (by simp), dec_32, wsum_nil]
      simp [wsum_nil]
    · have hw := decodeL_width l
      have hle := decodeL_le l hne
      rw [wsum_step f (l ++ [32]) (by simp), dec_blank l hne, List.drop_append_of_le_length hle, ih (l.drop (decodeL l).2) (by rw [List.length_drop]; omega), wsum_step f l hne]
      omega
end Go.Proofs.Ytmkgapdadandmaa.Siz
