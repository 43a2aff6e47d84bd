/- Flexible rows: a turn, step by step, in plain functions. -/
import Derived.Test.YtfkgpkkjiolfpaaFlex6
namespace Go.Proofs.Ytfkgpkkjiolfpaa.Flx
open Go.RowKit Go.Lib Go.Proofs.Ytfkgpkkjiolfpaa.Pl Go.Proofs.Ytfkgpkkjiolfpaa.Fx Go.Proofs.Ytfkgpkkjiolfpaa.Sh Go.Proofs.Ytfkgpkkjiolfpaa.Sm Go.Proofs.YtfkgpkkjiolfpaaW.PrintWords Go.Proofs.YtfkgpkkjiolfpaaW.PrintMore
set_option linter.unusedVariables false

/-- An item's numbers are in their bounds. -/
def TameI (x : It) : Prop := (-16777216 ≤ x.f0.f0 ∧ x.f0.f0 ≤ 16777216) ∧ (-16777216 ≤ x.f0.f5 ∧ x.f0.f5 ≤ 16777216) ∧ (-16777216 ≤ x.f3 ∧ x.f3 ≤ 16777216) ∧ (-16777216 ≤ x.f1 ∧ x.f1 ≤ 16777216) ∧ (0 ≤ x.f0.f3 ∧ x.f0.f3 ≤ 1000000) ∧ (0 ≤ x.f0.f4 ∧ x.f0.f4 ≤ 1000000)
theorem tame_small {x : It} (h : TameI x) : Small nowOf x := by
  obtain ⟨h1, h2, h3, h4, h5, h6⟩ := h
  unfold Small nowOf
  split <;> omega
theorem tame_long {x : It} (h : TameI x) : Small (fun x => x.f1) x := by
  obtain ⟨h1, h2, h3, h4, h5, h6⟩ := h
  show -33554432 ≤ x.f1 ∧ x.f1 ≤ 33554432 ∧ -16777216 ≤ x.f0.f5 ∧ x.f0.f5 ≤ 16777216
  omega
theorem tame_mk (x : LF) : TameI (mkIt x) := by
  have h0 := cut_bd x.f0
  have h5 := cut_bd x.f5
  have h3 := bnd_bd x.f3
  have h4 := bnd_bd x.f4
  have hb := btw_bd (cut x.f0) (max 0 (cut x.f1)) (cut x.f2)
  exact ⟨h0, h5, by show (-16777216 : Int) ≤ 0 ∧ (0 : Int) ≤ 16777216; omega, hb, h3, h4⟩
theorem tame_tell {x : It} (h : TameI x) (p : Int) : TameI (tellI x p) := by
  unfold tellI
  split
  · exact h
  · exact ⟨h.1, h.2.1, btw_bd _ _ _, h.2.2.2⟩
theorem tame_sett {x : It} (h : TameI x) (c b : Int) : TameI (settI c b x) := by
  unfold settI
  split
  · exact h
  · exact h
theorem tame_init {x : It} (h : TameI x) (g : Bool) : TameI (initI g x) := by
  unfold initI
  split
  · exact ⟨h.1, h.2.1, h.2.2.2.1, h.2.2.2⟩
  · exact h
theorem getD_mem (l : List It) (j : Nat) (h : j < l.length) : l.getD j z95 ∈ l := by
  have e : l.getD j z95 = l[j] := by simp [List.getD_eq_getElem?_getD, h]
  rw [e]; exact List.getElem_mem h
theorem tame_turn {l : List It} (h : ∀ x, x ∈ l → TameI x) (ps : List Int) : ∀ x, x ∈ turnP l ps → TameI x := by
  intro x hx
  unfold turnP at hx
  obtain ⟨j, hj, rfl⟩ := List.mem_map.1 hx
  exact tame_sett (tame_tell (h _ (getD_mem l j (List.mem_range.1 hj))) _) _ _

/-- Who is told up to a place. -/
def told (l : List It) (ps : List Int) (k : Nat) : List It := (List.range l.length).map fun j => if j < k then tellI (l.getD j z95) (ps.getD j 0) else l.getD j z95
def bsome (l : List It) (ps : List Int) (k : Nat) : List Int := (List.range l.length).map fun j => if j < k then byK l ps j else 0
def csum (l : List It) (ps : List Int) (k : Nat) : Int := ((List.range k).map (byK l ps)).sum
def setd (l : List It) (ps : List Int) (k : Nat) : List It := (List.range l.length).map fun j => if j < k then settI (changedP l ps) (byK l ps j) (tellI (l.getD j z95) (ps.getD j 0)) else tellI (l.getD j z95) (ps.getD j 0)
theorem told_len (l : List It) (ps : List Int) (k : Nat) : (told l ps k).length = l.length := by simp [told]
theorem bsome_len (l : List It) (ps : List Int) (k : Nat) : (bsome l ps k).length = l.length := by simp [bsome]
theorem setd_len (l : List It) (ps : List Int) (k : Nat) : (setd l ps k).length = l.length := by simp [setd]
theorem map_range_ext {α : Type} {n : Nat} {f g : Nat → α} (h : ∀ j, j < n → f j = g j) : (List.range n).map f = (List.range n).map g :=
  List.map_congr_left (fun j hj => h j (List.mem_range.1 hj))
theorem map_range_set {α : Type} {n k : Nat} (hk : k < n) (f g : Nat → α) (x : α) (h : ∀ j, j < n → j ≠ k → f j = g j) (hx : g k = x) : ((List.range n).map f).set k x = (List.range n).map g := by
  apply List.ext_getElem
  · simp
  · intro i h1 h2
    have hi : i < n := by simpa using h2
    rw [List.getElem_set]
    by_cases hik : k = i
    · subst hik
      simp [hx]
    · rw [if_neg hik]
      simp only [List.getElem_map, List.getElem_range]
      exact h i hi (fun e => hik e.symm)
theorem map_range_getD {α : Type} {n k : Nat} (hk : k < n) (f : Nat → α) (d : α) : ((List.range n).map f).getD k d = f k := by
  simp [List.getD_eq_getElem?_getD, hk]
theorem told_zero (l : List It) (ps : List Int) : told l ps 0 = l := by
  apply List.ext_getElem
  · simp [told]
  · intro i h1 h2
    simp [told, List.getD_eq_getElem?_getD, h2]
theorem told_get (l : List It) (ps : List Int) (k : Nat) (hk : k < l.length) : (told l ps k).getD k z95 = l.getD k z95 := by
  unfold told
  rw [map_range_getD hk]
  simp
theorem told_set (l : List It) (ps : List Int) (k : Nat) (hk : k < l.length) : (told l ps k).set k (tellI (l.getD k z95) (ps.getD k 0)) = told l ps (k + 1) := by
  unfold told
  refine map_range_set hk _ _ _ (fun j hj hne => ?_) (by simp)
  by_cases h : j < k
  · rw [if_pos h, if_pos (by omega)]
  · rw [if_neg h, if_neg (by omega)]
theorem told_same (l : List It) (ps : List Int) (k : Nat) (hk : k < l.length) (h : (l.getD k z95).f2 = true) : told l ps k = told l ps (k + 1) := by
  unfold told
  refine map_range_ext fun j hj => ?_
  by_cases hjk : j = k
  · subst hjk
    have e : tellI (l.getD j z95) (ps.getD j 0) = l.getD j z95 := by unfold tellI; rw [if_pos h]
    rw [if_neg (by omega), if_pos (by omega), e]
  · by_cases h2 : j < k
    · rw [if_pos h2, if_pos (by omega)]
    · rw [if_neg h2, if_neg (by omega)]
theorem bsome_zero (l : List It) (ps : List Int) : bsome l ps 0 = List.replicate l.length 0 := by
  unfold bsome
  rw [show (fun j => if j < 0 then byK l ps j else 0) = fun _ => (0 : Int) from by funext j; simp]
  rw [List.map_const']; simp
theorem bsome_set (l : List It) (ps : List Int) (k : Nat) (hk : k < l.length) : (bsome l ps k).set k (byK l ps k) = bsome l ps (k + 1) := by
  unfold bsome
  refine map_range_set hk _ _ _ (fun j hj hne => ?_) (by simp)
  by_cases h : j < k
  · rw [if_pos h, if_pos (by omega)]
  · rw [if_neg h, if_neg (by omega)]
theorem bsome_same (l : List It) (ps : List Int) (k : Nat) (hk : k < l.length) (h : byK l ps k = 0) : bsome l ps k = bsome l ps (k + 1) := by
  unfold bsome
  refine map_range_ext fun j hj => ?_
  by_cases hjk : j = k
  · subst hjk
    simp [h]
  · by_cases h2 : j < k
    · rw [if_pos h2, if_pos (by omega)]
    · rw [if_neg h2, if_neg (by omega)]
theorem bsome_get (l : List It) (ps : List Int) (k : Nat) (hk : k < l.length) : (bsome l ps l.length).getD k 0 = byK l ps k := by
  unfold bsome
  rw [map_range_getD hk, if_pos hk]
theorem csum_zero (l : List It) (ps : List Int) : csum l ps 0 = 0 := rfl
theorem csum_snoc (l : List It) (ps : List Int) (k : Nat) : csum l ps (k + 1) = csum l ps k + byK l ps k := by
  unfold csum
  rw [List.range_succ, List.map_append, List.sum_append]
  simp
theorem csum_all (l : List It) (ps : List Int) : csum l ps l.length = changedP l ps := rfl
theorem setd_zero (l : List It) (ps : List Int) : setd l ps 0 = told l ps l.length := by
  unfold setd told
  refine map_range_ext fun j hj => ?_
  rw [if_neg (by omega), if_pos hj]
theorem setd_all (l : List It) (ps : List Int) : setd l ps l.length = turnP l ps := by
  unfold setd turnP
  refine map_range_ext fun j hj => ?_
  rw [if_pos hj]
theorem setd_get (l : List It) (ps : List Int) (k : Nat) (hk : k < l.length) : (setd l ps k).getD k z95 = tellI (l.getD k z95) (ps.getD k 0) := by
  unfold setd
  rw [map_range_getD hk]
  simp
theorem setd_set (l : List It) (ps : List Int) (k : Nat) (hk : k < l.length) : (setd l ps k).set k (settI (changedP l ps) (byK l ps k) (tellI (l.getD k z95) (ps.getD k 0))) = setd l ps (k + 1) := by
  unfold setd
  refine map_range_set hk _ _ _ (fun j hj hne => ?_) (by simp)
  by_cases h : j < k
  · rw [if_pos h, if_pos (by omega)]
  · rw [if_neg h, if_neg (by omega)]
theorem setd_same (l : List It) (ps : List Int) (k : Nat) (hk : k < l.length) (h : settI (changedP l ps) (byK l ps k) (tellI (l.getD k z95) (ps.getD k 0)) = tellI (l.getD k z95) (ps.getD k 0)) : setd l ps k = setd l ps (k + 1) := by
  unfold setd
  refine map_range_ext fun j hj => ?_
  by_cases hjk : j = k
  · subst hjk
    rw [if_neg (by omega), if_pos (by omega), h]
  · by_cases h2 : j < k
    · rw [if_pos h2, if_pos (by omega)]
    · rw [if_neg h2, if_neg (by omega)]
theorem by_bd (l : List It) (ps : List Int) (k : Nat) : -33554432 ≤ byK l ps k ∧ byK l ps k ≤ 33554432 := by
  unfold byK byI
  split
  · omega
  · have h1 := btw_bd ((l.getD k z95).f0.f0 + ps.getD k 0) (l.getD k z95).f0.f1 (l.getD k z95).f0.f2
    have h2 := cut_bd ((l.getD k z95).f0.f0 + ps.getD k 0)
    omega
theorem csum_bd (l : List It) (ps : List Int) (k : Nat) : -33554432 * k ≤ csum l ps k ∧ csum l ps k ≤ 33554432 * k := by
  induction k with
  | zero => simp [csum]
  | succ k ih =>
    have := by_bd l ps k
    rw [csum_snoc]
    omega
theorem sumU_snoc (g : Bool) (l : List It) (x : It) : sumU g (l ++ [x]) = if x.f2 = true then sumU g l else sumU g l + facP g x := by simp [sumU]
theorem sumU_bd (g : Bool) (l : List It) (h : ∀ x, x ∈ l → TameI x) : ∀ k, k ≤ l.length → 0 ≤ sumU g (l.take k) ∧ sumU g (l.take k) ≤ 1000000 * k := by
  intro k
  induction k with
  | zero => intro _; simp [sumU]
  | succ k ih =>
    intro hk
    have := ih (by omega)
    rw [take_snocI l k (by omega), sumU_snoc]
    obtain ⟨_, _, _, _, h5, h6⟩ := h _ (rd_memI l k (by omega))
    unfold facP
    split
    · omega
    · split <;> omega
theorem parts_el (g : Bool) (l : List It) (free : Int) (k : Nat) (hk : k < l.length) : -33554432 ≤ (partsP g l free).getD k 0 ∧ (partsP g l free).getD k 0 ≤ 33554432 := by
  unfold partsP
  split
  · exact share_el _ _ k (by rw [List.length_map]; exact hk)
  · have h := share_el (max 0 (-free)) (l.map (wgtP g)) k (by rw [List.length_map]; exact hk)
    have e : ((share (max 0 (-free)) (l.map (wgtP g))).map fun x => -x).getD k 0 = -((share (max 0 (-free)) (l.map (wgtP g))).getD k 0) := by
      have hk2 : k < (share (max 0 (-free)) (l.map (wgtP g))).length := by rw [share_len, List.length_map]; exact hk
      simp [List.getD_eq_getElem?_getD, hk2]
    rw [e]
    omega
theorem parts_len (g : Bool) (l : List It) (free : Int) : (partsP g l free).length = l.length := by
  unfold partsP
  split
  · rw [share_len, List.length_map]
  · rw [List.length_map, share_len, List.length_map]
end Go.Proofs.Ytfkgpkkjiolfpaa.Flx
