/- Package table: Columns, whole. -/
import Derived.Test.YtfkgpkkjiolfpaaTabColP
import Derived.Test.YtfkgpkkjiolfpaaTabStb
import Derived.Test.YtfkgpkkjiolfpaaWInvWords
import Derived.BigRegion
namespace Go.Proofs.Ytfkgpkkjiolfpaa.Tab
open Go.RowKit Go.Lib Go.Proofs.Ytfkgpkkjiolfpaa.Pl Go.Proofs.Ytfkgpkkjiolfpaa.Fx Go.Proofs.Ytfkgpkkjiolfpaa.Sh Go.Proofs.Ytfkgpkkjiolfpaa.Rgn Go.Proofs.Ytfkgpkkjiolfpaa.Blk Go.Proofs.YtfkgpkkjiolfpaaW.PrintWords Go.Proofs.YtfkgpkkjiolfpaaW.PrintLast Go.Proofs.YtfkgpkkjiolfpaaW.PrintMore
set_option linter.unusedVariables false
set_option linter.unusedSimpArgs false
attribute [local go_sem] mx2 mn2 mx_two mn_two mx_three mn_three

theorem ins0_c (A : Option Addr) (cp : Nat) (w : World) : Calls Try.prog 94 #[.slice A 0 cp, .int .i64 0, .int .i64 0, .func (.func 58) #[] #[]] w fun e w' => e = .returned (.tuple #[]) ∧ w' = w := by
  go_enter Try.func94, Try.ntmps94
  go_wp2_with fail
  go_loopw [8] (fun i wr => i = .int .i64 1 ∧ Hid (Below 0 w wr ∧ wr = w)) (fun i _ => 0)
  case atStart => exact ⟨by go_num, Below.refl _ _, rfl⟩
  case round =>
    obtain ⟨rfl, hw⟩ := hrel
    obtain ⟨-, rfl⟩ := hw.out
    go_wp2_with fail
    go_end0
    exact ⟨rfl, rfl⟩
theorem stb0_c (A : Option Addr) (cp : Nat) (w : World) : Calls Try.prog 83 #[.slice A 0 cp, .int .i64 0, .func (.func 58) #[] #[]] w fun e w' => e = .returned (.tuple #[]) ∧ w' = w := by
  go_enter Try.func83, Try.ntmps83
  go_wp2_with fail
  go_loopw [7, 8] (fun av bv wr => av = .int .i64 0 ∧ bv = .int .i64 20 ∧ Hid (Below 0 w wr ∧ wr = w)) (fun _ _ _ => 0)
  case atStart => exact ⟨rfl, rfl, Below.refl _ _, rfl⟩
  case round =>
    obtain ⟨rfl, rfl, hw⟩ := hrel
    obtain ⟨-, rfl⟩ := hw.out
    go_wp2_with fail
    refine (ins0_c A cp _).mono ?_
    rintro e w' ⟨rfl, rfl⟩
    go_wp2_with fail
    obtain ⟨W1, hW1⟩ : ∃ W1, W1 = w' := ⟨_, rfl⟩
    go_loopw [6] (fun sv wr => sv = .int .i64 20 ∧ Hid (Below 0 W1 wr ∧ wr = W1)) (fun _ _ => 0)
    case atStart => exact ⟨rfl, by rw [hW1]; exact Below.refl _ _, hW1.symm⟩
    case round =>
      obtain ⟨rfl, hw⟩ := hrel
      obtain ⟨-, rfl⟩ := hw.out
      subst hW1
      go_wp2_with fail
      go_end0
      exact ⟨rfl, rfl⟩
theorem sort0_c (A : Option Addr) (cp : Nat) (w : World) : Calls Try.prog 57 #[.slice A 0 cp, .func (.func 58) #[] #[]] w fun e w' => e = .returned (.tuple #[]) ∧ w' = w := by
  go_enter Try.func57, Try.ntmps57
  go_wp2_with fail
  refine (stb0_c A cp _).mono ?_
  rintro e w' ⟨rfl, rfl⟩
  go_wp2_with fail
  go_end0
  exact ⟨rfl, rfl⟩
end Go.Proofs.Ytfkgpkkjiolfpaa.Tab
