/- Package breaks: may a line end between two runes. For every input. -/
import Derived.Test.YtmkgapdadandmaaFix
import Derived.Test.YtmkgapdadandmaaWMore
import Derived.Deep.QuietTactic
import Derived.BigQuiet
import Derived.Below
namespace Go.Proofs.Ytmkgapdadandmaa.Brk
open Go.RowKit Go.Proofs.Ytmkgapdadandmaa.Pl Go.Proofs.Ytmkgapdadandmaa.Fx Go.Proofs.YtmkgapdadandmaaW.PrintWords Go.Proofs.YtmkgapdadandmaaW.PrintLast Go.Proofs.YtmkgapdadandmaaW.PrintMore
set_option linter.unusedVariables false
set_option linter.unusedSimpArgs false

def Someb (w : World) (e : Ending) (w' : World) : Prop := ∃ c : Bool, e = .returned (.bool c) ∧ w = w'
theorem letter_c (r : Int) (w : World) : Calls Try.prog 71 #[.int .i32 r] w (Someb w) := by
  go_enter Try.func71, Try.ntmps71
  go_wp2
  all_goals (go_ret; exact ⟨_, rfl, rfl⟩)
theorem other_c (r : Int) (w : World) : Calls Try.prog 77 #[.int .i32 r] w (Someb w) := by
  go_enter Try.func77, Try.ntmps77
  go_wp2
  all_goals (go_ret; exact ⟨_, rfl, rfl⟩)
theorem wide_c (a b : Int) (w : World) : Calls Try.prog 72 #[.int .i32 a, .int .i32 b] w (Someb w) := by
  go_enter Try.func72, Try.ntmps72
  go_wp2_with (first
    | (go_at_call 77; refine (other_c _ _).mono ?_; rintro e w' ⟨c, rfl, rfl⟩))
  all_goals (go_ret; exact ⟨_, rfl, rfl⟩)
theorem may_c (a b : Int) (w : World) : Calls Try.prog 65 #[.int .i32 a, .int .i32 b] w (Someb w) := by
  go_enter Try.func65, Try.ntmps65
  go_wp2_with (first
    | (go_at_call 71; refine (letter_c _ _).mono ?_; rintro e w' ⟨c, rfl, rfl⟩)
    | (go_at_call 72; refine (wide_c _ _ _).mono ?_; rintro e w' ⟨c, rfl, rfl⟩))
  all_goals (go_ret; exact ⟨_, rfl, rfl⟩)
end Go.Proofs.Ytmkgapdadandmaa.Brk
