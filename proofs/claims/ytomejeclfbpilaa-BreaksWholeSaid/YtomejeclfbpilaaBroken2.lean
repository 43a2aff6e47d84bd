/- The closed fact 'broken'. -/
import Derived.Test.YtomejeclfbpilaaPieces
namespace Go.Proofs.Ytomejeclfbpilaa.Brk
open Go.RowKit Go.Lib Go.Proofs.Ytomejeclfbpilaa.Pl Go.Proofs.Ytomejeclfbpilaa.Fx Go.Proofs.YtomejeclfbpilaaW.PrintWords Go.Proofs.YtomejeclfbpilaaW.PrintLast Go.Proofs.YtomejeclfbpilaaW.PrintMore
set_option linter.unusedVariables false
set_option linter.unusedSimpArgs false
theorem broken_c (w : World) : Calls Try.prog 36 #[] w fun e w' => e = .returned (.bool true) ∧ Below w.heap.size w w' := by
  have hp : (piecesP ab ([⟨2, false⟩] ++ [⟨(ab.size : Int), false⟩])).2.length = 2 := by decide
  have HPL := Lib.hid hp
  clear hp
  go_enter Try.func36, Try.ntmps36
  go_wp2_with fail
  refine (Pieces_c ab 0 (fun us => us = [⟨2, false⟩]) w (by decide) (fun w => (All_ab w).mono fun e w' ⟨v, h1, h2, h3⟩ => ⟨v, _, h1, h2, rfl, h3⟩) (fun us h => by subst h; refine ⟨by simp, fun u hu => ?_⟩; rw [List.mem_singleton] at hu; subst hu; decide)).mono ?_
  rintro e w1 ⟨v, us, rfl, hR, rfl, hB⟩
  obtain ⟨Aa, ca, rfl, hca, hC⟩ := Kd.R_reads hR
  rw [HPL.out]
  have HB := Lib.hid hB
  clear hB hR hC hca
  go_wp2_with fail
  go_ret
  exact ⟨rfl, HB.out⟩
end Go.Proofs.Ytomejeclfbpilaa.Brk
