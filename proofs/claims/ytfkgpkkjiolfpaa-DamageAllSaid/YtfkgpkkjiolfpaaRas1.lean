/- Package raster: rectangles, parts, one color over another. -/
import Derived.Test.YtfkgpkkjiolfpaaRasPlain
import Derived.Test.YtfkgpkkjiolfpaaRegion
import Derived.Test.YtfkgpkkjiolfpaaWLast
import Derived.Test.YtfkgpkkjiolfpaaStruct
import Derived.StillTailTactics
import Derived.RegionTactic
import Derived.BigRegion
namespace Go.Proofs.Ytfkgpkkjiolfpaa.Ras
open Go.RowKit Go.Lib Go.Proofs.Ytfkgpkkjiolfpaa.Blk Go.Proofs.Ytfkgpkkjiolfpaa.Rgn Go.Proofs.Ytfkgpkkjiolfpaa.Pl Go.Proofs.Ytfkgpkkjiolfpaa.Fx Go.Proofs.Ytfkgpkkjiolfpaa.Fnt Go.Proofs.YtfkgpkkjiolfpaaW.PrintWords Go.Proofs.YtfkgpkkjiolfpaaW.PrintLast Go.Proofs.YtfkgpkkjiolfpaaW.PrintMore
set_option linter.unusedVariables false
set_option linter.unusedSimpArgs false
attribute [local go_sem] mx2 mn2 mx_two mn_two mx_three mn_three

def cmV (c : Cm) : List Value := [.int .i64 c.f0, .int .i64 c.f1, .int .i64 c.f2, .int .i64 c.f3, .int .i64 c.f4, .int .i64 c.f5, .int .i64 c.f6, .int .i64 c.f7, .string c.f8]
def lrV (r : LR) : List Value := [.int .i64 r.f0, .int .i64 r.f1, .int .i64 r.f2, .int .i64 r.f3]

theorem all_c (w : World) : Calls Try.prog 84 #[] w fun e w' => e = .returned (.agg (lrV allR).toArray) ∧ Below w.heap.size w w' := by
  go_enter Try.func84, Try.ntmps84
  go_wp2
  refine bodyPost_ret (v := .agg (lrV allR).toArray) (by simp [results, Try.results84, go_sem, lrV, allR]) rfl ⟨rfl, below_alloc (Below.refl _ _) _⟩
theorem part_c (n : Int) (w : World) : Calls Try.prog 62 #[.int .i64 n] w fun e w' => e = .returned (.int .i64 (partP n)) ∧ w = w' := by
  go_enter Try.func62, Try.ntmps62
  go_wp2
  go_ret
  exact ⟨rfl, rfl⟩
set_option maxHeartbeats 1000000 in
theorem within_c (r : LR) (x y : Int) (w : World) (hx : -1000000000000 ≤ x ∧ x ≤ 1000000000000) (hy : -1000000000000 ≤ y ∧ y ≤ 1000000000000) (h0 : -1000000000000 ≤ r.f0 ∧ r.f0 ≤ 1000000000000) (h1 : -1000000000000 ≤ r.f1 ∧ r.f1 ≤ 1000000000000) :
    Calls Try.prog 96 #[.agg (lrV r).toArray, .int .i64 x, .int .i64 y] w fun e w' => e = .returned (.bool (withinB r x y)) ∧ Below w.heap.size w w' := by
  obtain ⟨a, b, c, d⟩ := r
  simp only at h0 h1
  have hb : withinB ⟨a, b, c, d⟩ x y = (decide (a ≤ x) && (decide (x - a < c) && (decide (b ≤ y) && decide (y - b < d)))) := rfl
  rw [hb]
  clear hb
  by_cases c1 : a ≤ x
  · have n1 : decide (a ≤ x) = true := decide_eq_true c1
    by_cases c2 : x - a < c
    · have n2 : decide (x - a < c) = true := decide_eq_true c2
      by_cases c3 : b ≤ y
      · have n3 : decide (b ≤ y) = true := decide_eq_true c3
        by_cases c4 : y - b < d
        · have n4 : decide (y - b < d) = true := decide_eq_true c4
          rw [n1, n2, n3, n4]
          clear c1 c2 c3 c4
          unfold lrV
          go_enter Try.func96, Try.ntmps96
          go_wp2
          go_ret
          exact ⟨rfl, below_alloc (Below.refl _ _) _⟩
        · have n4 : decide (y - b < d) = false := decide_eq_false c4
          rw [n1, n2, n3, n4]
          clear c1 c2 c3 c4
          unfold lrV
          go_enter Try.func96, Try.ntmps96
          go_wp2
          go_ret
          exact ⟨rfl, below_alloc (Below.refl _ _) _⟩
      · have n3 : decide (b ≤ y) = false := decide_eq_false c3
        rw [n1, n2, n3]
        clear c1 c2 c3
        unfold lrV
        go_enter Try.func96, Try.ntmps96
        go_wp2
        go_ret
        exact ⟨rfl, below_alloc (Below.refl _ _) _⟩
    · have n2 : decide (x - a < c) = false := decide_eq_false c2
      rw [n1, n2]
      clear c1 c2
      unfold lrV
      go_enter Try.func96, Try.ntmps96
      go_wp2
      go_ret
      exact ⟨rfl, below_alloc (Below.refl _ _) _⟩
  · have n1 : decide (a ≤ x) = false := decide_eq_false c1
    rw [n1]
    clear c1
    unfold lrV
    go_enter Try.func96, Try.ntmps96
    go_wp2
    go_ret
    exact ⟨rfl, below_alloc (Below.refl _ _) _⟩
end Go.Proofs.Ytfkgpkkjiolfpaa.Ras
