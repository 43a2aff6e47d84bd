/- Tables' spans: what the law's own cells are, and what columns then hold, plain. -/
import Derived.Test.YtfkgpkkjiolfpaaTabColP
namespace Go.Proofs.Ytfkgpkkjiolfpaa.Tab
open Go.RowKit Go.Lib Go.Proofs.Ytfkgpkkjiolfpaa.Pl Go.Proofs.Ytfkgpkkjiolfpaa.Fx Go.Proofs.Ytfkgpkkjiolfpaa.Sh Go.Proofs.Ytfkgpkkjiolfpaa.Sm Go.Proofs.YtfkgpkkjiolfpaaW.PrintWords Go.Proofs.YtfkgpkkjiolfpaaW.PrintMore
set_option linter.unusedVariables false
set_option linter.unusedSimpArgs false

theorem i16b (x : Int) : -32768 ≤ IntKind.i16.wrap x ∧ IntKind.i16.wrap x ≤ 32767 := by
  simp only [IntKind.wrap, IntKind.bits, IntKind.signed, Nat.reducePow, Nat.reduceSub]
  simp
  omega
/-- A cell of the law's own, a row, all rows. -/
def mkC (c : LC) : LC := ⟨IntKind.i16.wrap c.f0, IntKind.i16.wrap c.f1, c.f2 % 256 % 5 + 1⟩
def ownRow (row : List LC) : List LC := (row.take 12).map mkC
def ownP (z : List (List LC)) : List (List LC) := (z.take 12).map ownRow
def MildC (x : LC) : Prop := 1 ≤ x.f2 ∧ x.f2 ≤ 5 ∧ -32768 ≤ x.f0 ∧ x.f0 ≤ 32767 ∧ -32768 ≤ x.f1 ∧ x.f1 ≤ 32767
def MildRow (row : List LC) : Prop := row.length ≤ 12 ∧ ∀ x, x ∈ row → MildC x
theorem mild_mk (c : LC) : MildC (mkC c) := by
  have h1 := i16b c.f0
  have h2 := i16b c.f1
  unfold mkC MildC
  simp only
  omega
theorem mild_row (row : List LC) : MildRow (ownRow row) := by
  refine ⟨by rw [ownRow, List.length_map, List.length_take]; omega, fun x hx => ?_⟩
  obtain ⟨c, -, rfl⟩ := List.mem_map.1 hx
  exact mild_mk c
theorem mild_own (z : List (List LC)) : (ownP z).length ≤ 12 ∧ ∀ r, r ∈ ownP z → MildRow r := by
  refine ⟨by rw [ownP, List.length_map, List.length_take]; omega, fun x hx => ?_⟩
  obtain ⟨c, -, rfl⟩ := List.mem_map.1 hx
  exact mild_row c
/-- Where the j-th cell of a row begins. -/
def pos (row : List LC) (j : Nat) : Int := ((row.take j).map fun x => x.f2).sum
theorem pos_zero (row : List LC) : pos row 0 = 0 := by simp [pos]
theorem pos_cons (x : LC) (l : List LC) (j : Nat) : pos (x :: l) (j + 1) = x.f2 + pos l j := by simp [pos]
theorem pos_succ (row : List LC) (j : Nat) (h : j < row.length) : pos row (j + 1) = pos row j + (row.getD j z50).f2 := by
  unfold pos
  rw [List.take_succ_eq_append_getElem h, List.map_append, List.sum_append]
  simp [List.getD_eq_getElem?_getD, h]
theorem pos_bd (row : List LC) (h : ∀ x, x ∈ row → MildC x) (j : Nat) : 0 ≤ pos row j ∧ pos row j ≤ 5 * (row.length : Int) := by
  induction row generalizing j with
  | nil => simp [pos]
  | cons x l ih =>
    have hx := h x (List.mem_cons_self ..)
    have hl := ih (fun y hy => h y (List.mem_cons_of_mem _ hy))
    unfold MildC at hx
    cases j with
    | zero => rw [pos_zero, List.length_cons]; omega
    | succ j => have := hl j; rw [pos_cons, List.length_cons]; omega
theorem row_cells (row : List LC) : ∀ a : Int, (∀ x, x ∈ row → MildC x) → 0 ≤ a → a + 5 * (row.length : Int) ≤ 99 →
    rowEnd row a = a + pos row row.length ∧ (∀ j, j < row.length → cellP (row.getD j z50) (a + pos row j) ∈ rowP row a) ∧ (∀ c, c ∈ rowP row a → ∃ j, j < row.length ∧ c = cellP (row.getD j z50) (a + pos row j)) ∧ (rowP row a).length = row.length := by
  induction row with
  | nil =>
    intro a _ _ _
    refine ⟨by simp [rowEnd, pos], fun j hj => by simp at hj, fun c hc => by simp [rowP] at hc, by simp [rowP]⟩
  | cons x l ih =>
    intro a h ha hl
    have hx := h x (List.mem_cons_self ..)
    unfold MildC at hx
    rw [List.length_cons] at hl
    have hsp : spanP x a = x.f2 := by unfold spanP; omega
    obtain ⟨i1, i2, i3, i4⟩ := ih (a + x.f2) (fun y hy => h y (List.mem_cons_of_mem _ hy)) (by omega) (by omega)
    have e1 : rowP (x :: l) a = cellP x a :: rowP l (a + x.f2) := by rw [rowP, if_neg (by omega), hsp]
    have e2 : rowEnd (x :: l) a = rowEnd l (a + x.f2) := by rw [rowEnd, if_neg (by omega), hsp]
    refine ⟨?_, fun j hj => ?_, fun c hc => ?_, ?_⟩
    · rw [e2, i1, List.length_cons, pos_cons]; omega
    · rw [e1]
      cases j with
      | zero => rw [pos_zero, Int.add_zero]; simp
      | succ j =>
        have := i2 j (by simpa using hj)
        rw [pos_cons, ← Int.add_assoc]
        exact List.mem_cons_of_mem _ (by simpa using this)
    · rw [e1] at hc
      rcases List.mem_cons.1 hc with rfl | hc
      · exact ⟨0, by simp, by rw [pos_zero, Int.add_zero]; simp⟩
      · obtain ⟨j, hj, rfl⟩ := i3 c hc
        exact ⟨j + 1, by simpa using hj, by rw [pos_cons, ← Int.add_assoc]; simp⟩
    · rw [e1, List.length_cons, i4, List.length_cons]
theorem many_ge (rows : List (List LC)) : ∀ m : Int, m ≤ manyP rows m ∧ (∀ r, r ∈ rows → rowEnd r 0 ≤ manyP rows m) ∧ (∀ B : Int, m ≤ B → (∀ r, r ∈ rows → rowEnd r 0 ≤ B) → manyP rows m ≤ B) := by
  induction rows with
  | nil => intro m; exact ⟨Int.le_refl _, fun r hr => by simp at hr, fun B h _ => h⟩
  | cons x l ih =>
    intro m
    obtain ⟨i1, i2, i3⟩ := ih (max m (rowEnd x 0))
    have e : manyP (x :: l) m = manyP l (max m (rowEnd x 0)) := rfl
    rw [e]
    refine ⟨by omega, fun r hr => ?_, fun B h1 h2 => i3 B ?_ (fun r hr => h2 r (List.mem_cons_of_mem _ hr))⟩
    · rcases List.mem_cons.1 hr with rfl | hr
      · omega
      · exact i2 r hr
    · have := h2 x (List.mem_cons_self ..)
      omega
theorem cells_len (rows : List (List LC)) (h : ∀ r, r ∈ rows → MildRow r) : (cellsP rows).length ≤ 12 * rows.length := by
  induction rows with
  | nil => simp [cellsP]
  | cons x l ih =>
    have := ih (fun r hr => h r (List.mem_cons_of_mem _ hr))
    obtain ⟨h1, h2⟩ := h x (List.mem_cons_self ..)
    have h3 := (row_cells x 0 h2 (by omega) (by omega)).2.2.2
    have e : cellsP (x :: l) = rowP x 0 ++ cellsP l := by simp [cellsP]
    rw [e, List.length_append, List.length_cons]
    omega
/-- What the law's own rows give. -/
theorem span_rows (rows : List (List LC)) (hl : rows.length ≤ 12) (h : ∀ r, r ∈ rows → MildRow r) : ∃ n : Nat, manyP rows 0 = (n : Int) ∧ n ≤ 100 ∧ (cellsP rows).length ≤ 1000 ∧ ∀ c, c ∈ cellsP rows → CellOK n c := by
  obtain ⟨m1, m2, m3⟩ := many_ge rows 0
  have hb := m3 60 (by omega) (fun r hr => by
    obtain ⟨h1, h2⟩ := h r hr
    have h3 := (row_cells r 0 h2 (by omega) (by omega)).1
    have h4 := pos_bd r h2 r.length
    omega)
  refine ⟨(manyP rows 0).toNat, by omega, by omega, by have := cells_len rows h; omega, fun c hc => ?_⟩
  obtain ⟨r, hr, hc⟩ := List.mem_flatMap.1 hc
  obtain ⟨h1, h2⟩ := h r hr
  obtain ⟨r1, r2, r3, r4⟩ := row_cells r 0 h2 (by omega) (by omega)
  obtain ⟨j, hj, rfl⟩ := r3 c hc
  have hx := h2 (r.getD j z50) (by rw [List.getD_eq_getElem?_getD, List.getElem?_eq_getElem hj]; exact List.getElem_mem _)
  have hp1 := pos_bd r h2 j
  have hp2 := pos_bd r h2 (j + 1)
  have hps := pos_succ r j hj
  have hpl : pos r (j + 1) ≤ pos r r.length := by
    have key : ∀ d, j + 1 + d ≤ r.length → pos r (j + 1) ≤ pos r (j + 1 + d) := fun d => by
      induction d with
      | zero => intro _; exact Int.le_refl _
      | succ d ih =>
        intro hd
        have h5 := ih (by omega)
        have h6 := pos_succ r (j + 1 + d) (by omega)
        have h7 := h2 (r.getD (j + 1 + d) z50) (by rw [List.getD_eq_getElem?_getD, List.getElem?_eq_getElem (by omega)]; exact List.getElem_mem _)
        unfold MildC at h7
        rw [show j + 1 + (d + 1) = j + 1 + d + 1 by omega]
        omega
    have := key (r.length - (j + 1)) (by omega)
    rwa [show j + 1 + (r.length - (j + 1)) = r.length by omega] at this
  have hm := m2 r hr
  unfold MildC at hx
  have hc0 := cut_bd (r.getD j z50).f0
  have hc1 := cut_bd (r.getD j z50).f1
  unfold CellOK cellP spanP
  simp only
  omega
/-- Each cell has in its columns what it needs. -/
theorem span_check (rows : List (List LC)) (hl : rows.length ≤ 12) (h : ∀ r, r ∈ rows → MildRow r) (n : Nat) (hok : ∀ c, c ∈ cellsP rows → CellOK n c) (ls ms : List Int) (hf : ColsFacts (cellsP rows) n ls ms) (r : List LC) (hr : r ∈ rows) (j : Nat) (hj : j < r.length) :
    ∃ p s : Nat, pos r j = (p : Int) ∧ (r.getD j z50).f2 = (s : Int) ∧ 1 ≤ s ∧ s ≤ 5 ∧ p + s ≤ n ∧ (r.getD j z50).f0 ≤ (seg ls p s).sum ∧ max (r.getD j z50).f0 (r.getD j z50).f1 ≤ (seg ms p s).sum := by
  obtain ⟨h1, h2⟩ := h r hr
  obtain ⟨r1, r2, r3, r4⟩ := row_cells r 0 h2 (by omega) (by omega)
  have hmem : cellP (r.getD j z50) (0 + pos r j) ∈ cellsP rows := List.mem_flatMap.2 ⟨r, hr, r2 j hj⟩
  have hx := h2 (r.getD j z50) (by rw [List.getD_eq_getElem?_getD, List.getElem?_eq_getElem hj]; exact List.getElem_mem _)
  have hp1 := pos_bd r h2 j
  have hk := hok _ hmem
  obtain ⟨k1, k2⟩ := hf.2.2.2.2.2 _ hmem
  rw [Int.zero_add] at hk k1 k2
  unfold MildC at hx
  have hsp : spanP (r.getD j z50) (pos r j) = (r.getD j z50).f2 := by unfold spanP; omega
  unfold CellOK at hk
  unfold cellP at hk k1 k2
  simp only [hsp] at hk k1 k2
  refine ⟨(pos r j).toNat, (r.getD j z50).f2.toNat, by omega, by omega, by omega, by omega, by omega, ?_, ?_⟩
  · have := cut_id (n := (r.getD j z50).f0) (by omega) (by omega)
    omega
  · have := cut_id (n := (r.getD j z50).f0) (by omega) (by omega)
    have := cut_id (n := (r.getD j z50).f1) (by omega) (by omega)
    omega
end Go.Proofs.Ytfkgpkkjiolfpaa.Tab
