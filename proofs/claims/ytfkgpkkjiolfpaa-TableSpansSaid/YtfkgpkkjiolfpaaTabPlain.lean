/- Package table: what it comes to, in plain functions; widths of columns. -/
import Derived.Test.YtfkgpkkjiolfpaaTabSum
import Derived.Test.YtfkgpkkjiolfpaaShareSum
namespace Go.Proofs.Ytfkgpkkjiolfpaa.Tab
open Go.RowKit Go.Proofs.Ytfkgpkkjiolfpaa.Pl Go.Proofs.Ytfkgpkkjiolfpaa.Fx Go.Proofs.Ytfkgpkkjiolfpaa.Sh Go.Proofs.Ytfkgpkkjiolfpaa.Sm Go.Proofs.YtfkgpkkjiolfpaaW.PrintWords Go.Proofs.YtfkgpkkjiolfpaaW.PrintMore
set_option linter.unusedVariables false
set_option linter.unusedSimpArgs false

def lowW (ls : List Int) (i : Nat) : Int := max 0 (cut (ls.getD i 0))
def moreW (ls ms : List Int) (i : Nat) : Int := max 0 (cut (ms.getD i 0) - lowW ls i)
/-- The first k of n, the others none yet. -/
def part_ (f : Nat → Int) (n k : Nat) : List Int := (List.range n).map fun i => if i < k then f i else 0
theorem part_len (f : Nat → Int) (n k : Nat) : (part_ f n k).length = n := by simp [part_]
theorem part_get (f : Nat → Int) (n k i : Nat) (hi : i < n) : (part_ f n k).getD i 0 = if i < k then f i else 0 := by
  unfold part_; simp [List.getD_eq_getElem?_getD, hi]
theorem part_zero (f : Nat → Int) (n : Nat) : part_ f n 0 = List.replicate n 0 := by
  apply List.ext_getElem
  · simp [part_]
  · intro i h1 h2; simp [part_]
theorem part_all (f : Nat → Int) (n : Nat) : part_ f n n = (List.range n).map f := by
  unfold part_
  apply List.map_congr_left
  intro i hi
  rw [if_pos (List.mem_range.1 hi)]
theorem part_set (f : Nat → Int) (n k : Nat) (hk : k < n) : (part_ f n k).set k (f k) = part_ f n (k + 1) := by
  apply List.ext_getElem
  · simp [part_]
  · intro i h1 h2
    simp only [part_, List.getElem_set, List.getElem_map, List.getElem_range]
    by_cases e : k = i
    · subst e; simp
    · rw [if_neg e]
      by_cases h3 : i < k
      · rw [if_pos h3, if_pos (by omega)]
      · rw [if_neg h3, if_neg (by omega)]
def lowP (ls : List Int) (n : Nat) : List Int := (List.range n).map (lowW ls)
def moreP (ls ms : List Int) (n : Nat) : List Int := (List.range n).map (moreW ls ms)
def freeP (room sp : Int) (n : Nat) : Int := max 0 (cut room - max 0 (cut sp) * ((n : Int) + 1))
/-- Two lists, place by place; of the first k only. -/
def zipK (f : Int → Int → Int) (a b : List Int) (k : Nat) : List Int := (List.range a.length).map fun i => if i < k then f (a.getD i 0) (b.getD i 0) else a.getD i 0
theorem zip_len (f : Int → Int → Int) (a b : List Int) (k : Nat) : (zipK f a b k).length = a.length := by simp [zipK]
theorem zip_get (f : Int → Int → Int) (a b : List Int) (k i : Nat) (hi : i < a.length) : (zipK f a b k).getD i 0 = if i < k then f (a.getD i 0) (b.getD i 0) else a.getD i 0 := by
  unfold zipK; simp [List.getD_eq_getElem?_getD, hi]
theorem zip_zero (f : Int → Int → Int) (a b : List Int) : zipK f a b 0 = a := by
  apply List.ext_getElem
  · simp [zipK]
  · intro i h1 h2; simp [zipK, h2]
theorem zip_set (f : Int → Int → Int) (a b : List Int) (k : Nat) (hk : k < a.length) : (zipK f a b k).set k (f (a.getD k 0) (b.getD k 0)) = zipK f a b (k + 1) := by
  apply List.ext_getElem
  · simp [zipK]
  · intro i h1 h2
    simp only [zipK, List.getElem_set, List.getElem_map, List.getElem_range]
    by_cases e : k = i
    · subst e; simp
    · rw [if_neg e]
      by_cases h3 : i < k
      · rw [if_pos h3, if_pos (by omega)]
      · rw [if_neg h3, if_neg (by omega)]
def widthsP (room sp : Int) (ls ms : List Int) (n : Nat) (fixed : Bool) : List Int :=
  if fixed = true then zipK max (lowP ls n) (share (freeP room sp n) (List.replicate n 1)) n
  else if freeP room sp n ≤ (lowP ls n).sum then lowP ls n
  else zipK (· + ·) (lowP ls n) (share (min (freeP room sp n - (lowP ls n).sum) (moreP ls ms n).sum) (moreP ls ms n)) n
theorem lowW_bd (ls : List Int) (i : Nat) : 0 ≤ lowW ls i ∧ lowW ls i ≤ 16777216 := by
  unfold lowW; have := cut_bd (ls.getD i 0); omega
theorem moreW_bd (ls ms : List Int) (i : Nat) : 0 ≤ moreW ls ms i ∧ moreW ls ms i ≤ 16777216 := by
  unfold moreW; have := cut_bd (ms.getD i 0); have := lowW_bd ls i; omega
theorem freeP_bd (room sp : Int) (n : Nat) : 0 ≤ freeP room sp n ∧ freeP room sp n ≤ 16777216 := by
  unfold freeP
  have := cut_bd room
  have := cut_bd sp
  have : 0 ≤ max 0 (cut sp) * ((n : Int) + 1) := Int.mul_nonneg (by omega) (by omega)
  omega
/-- Sums of small numbers are small. -/
theorem sum_bd (f : Nat → Int) (n : Nat) (h : ∀ i, 0 ≤ f i ∧ f i ≤ 16777216) (hn : n ≤ 100000000) (k : Nat) : 0 ≤ (((List.range n).map f).take k).sum ∧ (((List.range n).map f).take k).sum ≤ 2000000000000000 := by
  have hl : ∀ (l : List Int), (∀ x, x ∈ l → 0 ≤ x ∧ x ≤ 16777216) → 0 ≤ l.sum ∧ l.sum ≤ 16777216 * l.length := by
    intro l
    induction l with
    | nil => intro _; simp
    | cons x l ih =>
      intro hx
      have h1 := hx x List.mem_cons_self
      have h2 := ih (fun y hy => hx y (List.mem_cons_of_mem _ hy))
      rw [List.sum_cons, List.length_cons]
      push_cast
      omega
  have h1 := hl (((List.range n).map f).take k) (by
    intro x hx
    obtain ⟨i, _, rfl⟩ := List.mem_map.1 (List.mem_of_mem_take hx)
    exact h i)
  have h2 : (((List.range n).map f).take k).length ≤ n := by rw [List.length_take, List.length_map, List.length_range]; omega
  omega
end Go.Proofs.Ytfkgpkkjiolfpaa.Tab
