/- Package table: how two cells are told apart. -/
import Derived.Test.YtfkgpkkjiolfpaaTabCells
namespace Go.Proofs.Ytfkgpkkjiolfpaa.Tab
open Go.RowKit Go.Lib Go.Proofs.Ytfkgpkkjiolfpaa.Pl Go.Proofs.Ytfkgpkkjiolfpaa.Fx Go.Proofs.Ytfkgpkkjiolfpaa.Rgn Go.Proofs.Ytfkgpkkjiolfpaa.Blk Go.Proofs.Ytfkgpkkjiolfpaa.Tab Go.Proofs.YtfkgpkkjiolfpaaW.PrintWords Go.Proofs.YtfkgpkkjiolfpaaW.PrintLast Go.Proofs.YtfkgpkkjiolfpaaW.PrintMore
set_option linter.unusedVariables false
set_option linter.unusedSimpArgs false
attribute [local go_sem] mx2 mn2 mx_two mn_two mx_three mn_three

def SpanB (a : Ce) : Prop := 1 ≤ a.f3 ∧ a.f3 ≤ 50
set_option maxHeartbeats 1000000 in
theorem cmp_c (a b : Ce) (w : World) (ha : SpanB a) (hb : SpanB b) :
    Calls Try.prog 58 #[.agg (ceV a).toArray, .agg (ceV b).toArray] w fun e w' => e = .returned (.int .i64 (a.f3 - b.f3)) ∧ Below w.heap.size w w' := by
  obtain ⟨a0, a1, a2, a3⟩ := a
  obtain ⟨b0, b1, b2, b3⟩ := b
  obtain ⟨h1, h2⟩ := ha
  obtain ⟨h3, h4⟩ := hb
  simp only at h1 h2 h3 h4 ⊢
  unfold ceV
  go_enter Try.func58, Try.ntmps58
  go_wp2
  go_ret
  exact ⟨rfl, below_alloc (below_alloc (Below.refl _ _) _) _⟩
end Go.Proofs.Ytfkgpkkjiolfpaa.Tab
