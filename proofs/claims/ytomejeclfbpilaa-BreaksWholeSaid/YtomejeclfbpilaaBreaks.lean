/- Package breaks: may a line end between two runes. For every input. -/
import Derived.Test.YtomejeclfbpilaaFix
import Derived.Test.YtomejeclfbpilaaWMore
import Derived.Deep.QuietTactic
import Derived.BigQuiet
import Derived.Below
namespace Go.Proofs.Ytomejeclfbpilaa.Brk
open Go.RowKit Go.Proofs.Ytomejeclfbpilaa.Pl Go.Proofs.Ytomejeclfbpilaa.Fx Go.Proofs.YtomejeclfbpilaaW.PrintWords Go.Proofs.YtomejeclfbpilaaW.PrintLast Go.Proofs.YtomejeclfbpilaaW.PrintMore
set_option linter.unusedVariables false
set_option linter.unusedSimpArgs false

def Someb (w : World) (e : Ending) (w' : World) : Prop := ∃ c : Bool, e = .returned (.bool c) ∧ w = w'
theorem letter_c (r : Int) (w : World) : Calls Try.prog 66 #[.int .i32 r] w (Someb w) := by
  go_enter Try.func66, Try.ntmps66
  go_wp2
  all_goals (go_ret; exact ⟨_, rfl, rfl⟩)
theorem other_c (r : Int) (w : World) : Calls Try.prog 72 #[.int .i32 r] w (Someb w) := by
  go_enter Try.func72, Try.ntmps72
  go_wp2
  all_goals (go_ret; exact ⟨_, rfl, rfl⟩)
theorem wide_c (a b : Int) (w : World) : Calls Try.prog 67 #[.int .i32 a, .int .i32 b] w (Someb w) := by
  go_enter Try.func67, Try.ntmps67
  go_wp2_with (first
    | (go_at_call 72; refine (other_c _ _).mono ?_; rintro e w' ⟨c, rfl, rfl⟩))
  all_goals (go_ret; exact ⟨_, rfl, rfl⟩)
theorem may_c (a b : Int) (w : World) : Calls Try.prog 53 #[.int .i32 a, .int .i32 b] w (Someb w) := by
  go_enter Try.func53, Try.ntmps53
  go_wp2_with (first
    | (go_at_call 66; refine (letter_c _ _).mono ?_; rintro e w' ⟨c, rfl, rfl⟩)
    | (go_at_call 67; refine (wide_c _ _ _).mono ?_; rintro e w' ⟨c, rfl, rfl⟩))
  all_goals (go_ret; exact ⟨_, rfl, rfl⟩)
end Go.Proofs.Ytomejeclfbpilaa.Brk
