/- The closed fact 'floated'. -/
import Derived.Test.YtomejeclfbpilaaFloatsPlain
namespace Go.Proofs.Ytomejeclfbpilaa.Fl
open Go.RowKit Go.Proofs.Ytomejeclfbpilaa.Pl Go.Proofs.Ytomejeclfbpilaa.Fx Go.Proofs.YtomejeclfbpilaaW.PrintWords Go.Proofs.YtomejeclfbpilaaW.PrintLast Go.Proofs.YtomejeclfbpilaaW.PrintMore
set_option linter.unusedVariables false
set_option linter.unusedSimpArgs false
attribute [local go_sem] mx2 mn2 mx_two mn_two mx_three mn_three

set_option maxHeartbeats 1000000 in
theorem floated_c (w : World) : Calls Try.prog 24 #[] w fun e w' => e = .returned (.bool true) ∧ Below w.heap.size w w' := by
  go_enter Try.func24, Try.ntmps24
  go_wp2_with fail
  refine (New_c _ _).mono ?_
  rintro e w1 ⟨rfl, hI, hB⟩
  have e100 : max 0 (cut 100) = 100 := by decide
  rw [e100] at hI
  have B1 := Lib.hid hB
  clear hB e100
  go_wp2_with fail
  refine (Place_c w.heap.size 100 [] 2 3 40 10 3 w1 hI (fun f hf => by simp at hf) (by unfold fits; omega) (by simp) (Or.inr rfl) (by omega) (by decide) (by omega) (fun f hf => by simp at hf)).mono ?_
  rintro e w2 ⟨f, rfl, hp, -, hB2, -⟩
  have hx : f.f0.f0 = 60 ∧ f.f0.f1 = 3 := by
    obtain ⟨p1, p2, p3, p4, p5, p6, p7⟩ := hp
    have t : topP [] 3 = 3 := by decide
    have e2 : f.f0.f2 = 40 := by rw [p2]; decide
    rw [t] at p4
    rw [if_pos rfl, e2] at p7
    have e3 : (edges 100 [] f.f0.f1 f.f0.f3).2.1 = 100 := rfl
    rw [e3] at p7
    omega
  obtain ⟨hx1, hx2⟩ := hx
  rw [hx1, hx2]
  have B2 := Lib.hid (B1.out.trans hB2)
  clear hp hB2 hx1 hx2
  go_wp2
  go_ret
  exact ⟨rfl, B2.out⟩
end Go.Proofs.Ytomejeclfbpilaa.Fl
