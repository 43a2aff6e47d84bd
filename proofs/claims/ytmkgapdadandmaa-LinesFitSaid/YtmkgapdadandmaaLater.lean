/- A region that draws its order, reads old cells and calls what lays new blocks: walked once, in the order of the text; the class of worlds: those in which all blocks below b are as they were. -/
import Derived.Test.YtmkgapdadandmaaFix
import Derived.Test.YtmkgapdadandmaaWWords
import Derived.Test.YtmkgapdadandmaaWLast
import Derived.Test.YtmkgapdadandmaaWMore
import Derived.Deep.QuietTactic
import Derived.BigQuiet
namespace Go
set_option linter.unusedVariables false
open Go.Lib BigFrame Go.RowKit Go.Proofs.Ytmkgapdadandmaa.Pl Go.Proofs.Ytmkgapdadandmaa.Fx Go.Proofs.YtmkgapdadandmaaW.PrintWords Go.Proofs.YtmkgapdadandmaaW.PrintLast Go.Proofs.YtmkgapdadandmaaW.PrintMore
/-- A world later than w: below b all is as it was. -/
structure LaterOf (b : Nat) (w : World) where
  wd : World
  ok : Below b w wd
instance (b : Nat) (w : World) : Inhabited (LaterOf b w) := ⟨⟨w, Below.refl _ _⟩⟩
theorem wp_region_later {P : Program} {id : Nat} {Q : Exit → Act → World → Prop} {a : Act} {w : World} {l : List Oper} (hm : P.follows .mixedOrders = true) (hB : Region.lexB .any l.toArray = true)
    (h : wpQuiet P l.toArray (fun w' => ∃ p : LaterOf w.heap.size w, w' = p.wd) (fun a' => ∀ w', (∃ p : LaterOf w.heap.size w, w' = p.wd) → Q .normal a' w') l a) : (Code.region id l.toArray true).wp P Q a w :=
  wp_region_quiet (C := fun w' => ∃ p : LaterOf w.heap.size w, w' = p.wd) hm hB ⟨⟨w.drew, (Below.refl _ _).drew⟩, rfl⟩ (by simpa using h)
theorem Calls.later_of {P : Program} {f : FuncId} {args : Array Value} {w : World} {p : LaterOf w.heap.size w} {v : Value}
    (h : Calls P f args p.wd fun e w' => e = .returned v ∧ Below p.wd.heap.size p.wd w') : Calls P f args p.wd fun e w'' => e = .returned v ∧ ∃ q : LaterOf w.heap.size w, w'' = q.wd :=
  h.mono fun _ w' ⟨he, hB⟩ => ⟨he, ⟨⟨w', below_then p.ok p.ok.size hB⟩, rfl⟩⟩
theorem Calls.later_of_same {P : Program} {f : FuncId} {args : Array Value} {w : World} {p : LaterOf w.heap.size w} {v : Value}
    (h : Calls P f args p.wd fun e w' => e = .returned v ∧ w' = p.wd) : Calls P f args p.wd fun e w'' => e = .returned v ∧ ∃ q : LaterOf w.heap.size w, w'' = q.wd :=
  h.mono fun _ w' ⟨he, hB⟩ => ⟨he, p, hB⟩
theorem LaterOf.cell {w : World} {a : Addr} {v : Value} (h : w.cell? a = some v) (p : LaterOf w.heap.size w) : p.wd.cell? a = some v := by
  rw [p.ok.cell (p := a) (World.block_lt_of_cell? w a h)]; exact h
end Go
