/- The closed fact of tables: the columns of two cells of span 1. -/
import Derived.Test.YtfkgpkkjiolfpaaTabCols
import Derived.Test.YtfkgpkkjiolfpaaWRepsOne
namespace Go.Proofs.Ytfkgpkkjiolfpaa.Tab
open Go.RowKit Go.Lib Go.Proofs.Ytfkgpkkjiolfpaa.Pl Go.Proofs.Ytfkgpkkjiolfpaa.Fx Go.Proofs.Ytfkgpkkjiolfpaa.Sh Go.Proofs.Ytfkgpkkjiolfpaa.Rgn Go.Proofs.Ytfkgpkkjiolfpaa.Blk Go.Proofs.Ytfkgpkkjiolfpaa.Tab Go.Proofs.YtfkgpkkjiolfpaaW.PrintWords Go.Proofs.YtfkgpkkjiolfpaaW.PrintLast Go.Proofs.YtfkgpkkjiolfpaaW.PrintMore
set_option linter.unusedVariables false
set_option linter.unusedSimpArgs false
attribute [local go_sem] mx2 mn2 mx_two mn_two mx_three mn_three

theorem reps_lc (w : World) (base : Nat) (ok : Nat → Prop) : ∀ ps : List LC, Reps (k50.M w base ok) k50.sz ps (ps.flatMap lcV)
  | [] => Reps.none _ _
  | p :: ps => by
    have ih := reps_lc w base ok ps
    rw [List.flatMap_cons]
    exact Reps.front (lcMk w base ok p) rfl ih rfl
theorem lit_lc (W : World) (base : Nat) (xs : List LC) (hb : base ≤ W.heap.size) (hn : xs.length ≤ 1000000) :
    Kd.R k50 50 (W.alloc (.cells (xs.flatMap lcV).toArray 50)) base (fun _ => True) (.slice (some ⟨W.heap.size, 0, none⟩) xs.length xs.length) xs :=
  ⟨fun _ _ => trivial, OwnRow.lit W base (reps_lc _ base _ xs) hb (by omega)⟩
def tabL : List LC := [⟨5, 9, 1⟩, ⟨2, 3, 1⟩]
def tabC : List Ce := [⟨5, 9, 0, 1⟩, ⟨2, 3, 1, 1⟩]
theorem tab_cells : cellsP [tabL] = tabC := by kernel_rfl
theorem tab_many : manyP [tabL] 0 = ((2 : Nat) : Int) := by decide +kernel
theorem tab_one : OneEach tabC 2 := by
  refine ⟨rfl, fun i hi => ?_⟩
  match i, hi with
  | 0, _ => decide +kernel
  | 1, _ => decide +kernel
theorem tab_least : leastR tabC 2 = [5, 2] := by decide +kernel
theorem tab_most : zipK max (mostR tabC 2) (leastR tabC 2) 2 = [9, 3] := by decide +kernel
theorem lit_rows (w : World) : Kd.C kRow ((w.alloc (.cells #[.int .i64 5, .int .i64 9, .int .i64 1, .int .i64 2, .int .i64 3, .int .i64 1] 50)).alloc (.cells #[.slice (some ⟨w.heap.size, 0, none⟩) 2 2] 48)) (some ⟨w.heap.size + 1, 0, none⟩) 1 [tabL] := by
  have hR := lit_lc w w.heap.size tabL (Nat.le_refl _) (by decide)
  have hR2 := Kd.R_alloc hR (.cells #[.slice (some ⟨w.heap.size, 0, none⟩) 2 2] 48)
  obtain ⟨-, -, hC⟩ := Kd.R_reads' hR2
  have hb := blk_new (w.alloc (.cells #[.int .i64 5, .int .i64 9, .int .i64 1, .int .i64 2, .int .i64 3, .int .i64 1] 50)) (.cells #[.slice (some ⟨w.heap.size, 0, none⟩) 2 2] 48)
  rw [World.size_alloc] at hb
  refine ⟨rfl, by decide, fun _ => ⟨_, rfl, fun j p hj => ?_⟩⟩
  match j, hj with
  | 0, hj =>
    have : p = tabL := by simpa using hj.symm
    subst this
    refine ⟨[.slice (some ⟨w.heap.size, 0, none⟩) 2 2], rfl, ⟨_, _, rfl, by decide, hC⟩, fun i u hu => ?_⟩
    match i, hu with
    | 0, hu =>
      have : u = .slice (some ⟨w.heap.size, 0, none⟩) 2 2 := by simpa using hu.symm
      subst this
      exact blk_cell hb 0
  | j + 1, hj => simp at hj
set_option maxRecDepth 100000 in
set_option maxHeartbeats 2000000 in
theorem tabled_c (w : World) : Calls Try.prog 25 #[] w fun e w' => e = .returned (.bool true) ∧ Below w.heap.size w w' := by
  have C := Lib.hid (ColsE_c _ 1 1 [tabL] _ (lit_rows w) (by decide) tabC tab_cells 2 tab_one (by decide) (by decide) tab_many)
  have HB := Lib.hid (below_alloc (below_alloc (Below.refl w.heap.size w) (.cells #[.int .i64 5, .int .i64 9, .int .i64 1, .int .i64 2, .int .i64 3, .int .i64 1] 50)) (.cells #[.slice (some ⟨w.heap.size, 0, none⟩) 2 2] 48))
  go_enter Try.func25, Try.ntmps25
  go_wp2_with fail
  refine C.out.mono ?_
  rintro e w1 ⟨v1, v2, rfl, hO1, hO2, hB1⟩
  rw [tab_least] at hO1
  rw [tab_most] at hO2
  have HB1 := Lib.hid (below_then HB.out HB.out.size hB1)
  obtain ⟨g1, c1, rfl, _, _⟩ := own_form hO1 (by decide)
  obtain ⟨g2, c2, rfl, _, _⟩ := own_form hO2 (by decide)
  have hal := below_alloc (Below.refl w1.heap.size w1) (.cells #[.int .i64 5, .int .i64 2] 3)
  have EQ := Lib.hid (eq_c _ w1.heap.size g1 w1.heap.size 2 c1 2 [5, 2] (w1.alloc (.cells #[.int .i64 5, .int .i64 2] 3)) (pw_own_below hO1 hal) ⟨rfl, .inr ⟨w1.heap.size, 2, #[.int .i64 5, .int .i64 2], rfl, Nat.le_refl _, blk_new w1 _, by decide, by decide, rfl, rfl⟩⟩ (by decide))
  have HB2 := Lib.hid (below_then HB1.out HB1.out.size hal)
  have hO3 := pw_own_below hO2 hal
  clear hO1 hO2 hB1 hal C HB
  go_wp2_with fail
  refine EQ.out.mono ?_
  rintro e w2 ⟨rfl, rfl⟩
  generalize w1.alloc (.cells #[.int .i64 5, .int .i64 2] 3) = w3 at *
  have hal := below_alloc (Below.refl w3.heap.size w3) (.cells #[.int .i64 9, .int .i64 3] 3)
  have EQ2 := Lib.hid (eq_c _ w3.heap.size g2 w3.heap.size 2 c2 2 [9, 3] (w3.alloc (.cells #[.int .i64 9, .int .i64 3] 3)) (pw_own_below hO3 hal) ⟨rfl, .inr ⟨w3.heap.size, 2, #[.int .i64 9, .int .i64 3], rfl, Nat.le_refl _, blk_new w3 _, by decide, by decide, rfl, rfl⟩⟩ (by decide))
  have HB3 := Lib.hid (below_then HB2.out HB2.out.size hal)
  clear hO3 hal
  go_wp2_with fail
  refine EQ2.out.mono ?_
  rintro e w2 ⟨rfl, rfl⟩
  go_wp2_with fail
  go_ret
  exact ⟨rfl, HB3.out⟩
end Go.Proofs.Ytfkgpkkjiolfpaa.Tab
