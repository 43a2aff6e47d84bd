/- Flexible rows: the parts of the free room. For every input. -/
import Derived.Test.YtfkgpkkjiolfpaaFlex3
namespace Go.Proofs.Ytfkgpkkjiolfpaa.Flx
open Go.RowKit Go.Lib Go.Proofs.Ytfkgpkkjiolfpaa.Rgn Go.Proofs.Ytfkgpkkjiolfpaa.Pl Go.Proofs.Ytfkgpkkjiolfpaa.Fx Go.Proofs.Ytfkgpkkjiolfpaa.Sh Go.Proofs.Ytfkgpkkjiolfpaa.Sm Go.Proofs.YtfkgpkkjiolfpaaW.PrintWords Go.Proofs.YtfkgpkkjiolfpaaW.PrintLast Go.Proofs.YtfkgpkkjiolfpaaW.PrintMore
set_option linter.unusedVariables false
set_option linter.unusedSimpArgs false
attribute [local go_sem] mx2 mn2 mx_two mn_two mx_three mn_three

/-- The weights so far. -/
def wsome (g : Bool) (l : List It) (k : Nat) : List Int := (List.range l.length).map fun j => if j < k then wgtP g (l.getD j z95) else 0
theorem wsome_len (g : Bool) (l : List It) (k : Nat) : (wsome g l k).length = l.length := by simp [wsome]
theorem wsome_zero (g : Bool) (l : List It) : wsome g l 0 = List.replicate l.length 0 := by
  unfold wsome
  rw [show (fun j => if j < 0 then wgtP g (l.getD j z95) else 0) = fun _ => (0 : Int) from by funext j; simp]
  rw [List.map_const']; simp
theorem wsome_all (g : Bool) (l : List It) : wsome g l l.length = l.map (wgtP g) := by
  apply List.ext_getElem
  · simp [wsome]
  · intro i h1 h2
    have hi : i < l.length := by simpa [wsome] using h1
    simp [wsome, hi, List.getD_eq_getElem?_getD]
theorem wsome_set (g : Bool) (l : List It) (k : Nat) (hk : k < l.length) : (wsome g l k).set k (wgtP g (l.getD k z95)) = wsome g l (k + 1) := by
  apply List.ext_getElem
  · simp [wsome]
  · intro i h1 h2
    have hi : i < l.length := by simpa [wsome] using h2
    rw [List.getElem_set]
    by_cases hik : k = i
    · subst hik
      simp [wsome]
    · rw [if_neg hik]
      simp only [wsome, List.getElem_map, List.getElem_range]
      by_cases h3 : i < k
      · rw [if_pos h3, if_pos (by omega)]
      · rw [if_neg h3, if_neg (by omega)]
theorem wsome_same (g : Bool) (l : List It) (k : Nat) (hk : k < l.length) (h : wgtP g (l.getD k z95) = 0) : wsome g l k = wsome g l (k + 1) := by
  rw [← wsome_set g l k hk, h]
  apply List.ext_getElem
  · simp
  · intro i h1 h2
    rw [List.getElem_set]
    by_cases hik : k = i
    · subst hik
      simp [wsome]
    · rw [if_neg hik]
/-- The parts turned so far. -/
def nsome (xs : List Int) (k : Nat) : List Int := (List.range xs.length).map fun j => if j < k then -(xs.getD j 0) else xs.getD j 0
theorem nsome_len (xs : List Int) (k : Nat) : (nsome xs k).length = xs.length := by simp [nsome]
theorem nsome_zero (xs : List Int) : nsome xs 0 = xs := by
  apply List.ext_getElem
  · simp [nsome]
  · intro i h1 h2
    simp [nsome, List.getD_eq_getElem?_getD, h2]
theorem nsome_all (xs : List Int) : nsome xs xs.length = xs.map fun x => -x := by
  apply List.ext_getElem
  · simp [nsome]
  · intro i h1 h2
    have hi : i < xs.length := by simpa [nsome] using h1
    simp [nsome, hi, List.getD_eq_getElem?_getD]
theorem nsome_get (xs : List Int) (k : Nat) (hk : k < xs.length) : (nsome xs k).getD k 0 = xs.getD k 0 := by
  simp [nsome, List.getD_eq_getElem?_getD, hk]
theorem nsome_set (xs : List Int) (k : Nat) (hk : k < xs.length) : (nsome xs k).set k (-(xs.getD k 0)) = nsome xs (k + 1) := by
  apply List.ext_getElem
  · simp [nsome]
  · intro i h1 h2
    have hi : i < xs.length := by simpa [nsome] using h2
    rw [List.getElem_set]
    by_cases hik : k = i
    · subst hik
      simp [nsome]
    · rw [if_neg hik]
      simp only [nsome, List.getElem_map, List.getElem_range]
      by_cases h3 : i < k
      · rw [if_pos h3, if_pos (by omega)]
      · rw [if_neg h3, if_neg (by omega)]
theorem share_el (n : Int) (xs : List Int) (k : Nat) (hk : k < xs.length) : -33554432 ≤ (share n xs).getD k 0 ∧ (share n xs).getD k 0 ≤ 33554432 := by
  have h1 := share_take_bd n xs k
  have h2 := share_take_bd n xs (k + 1)
  rw [take_sum (share n xs) k (by rw [share_len]; exact hk)] at h2
  omega
def PartsPost (g : Bool) (l : List It) (free : Int) (w : World) (e : Ending) (w' : World) : Prop := ∃ v, e = .returned v ∧ w'.ownsRow w.heap.size 3 1 v l.length (nums .i64 (partsP g l free)) ∧ Below w.heap.size w w'
end Go.Proofs.Ytfkgpkkjiolfpaa.Flx
