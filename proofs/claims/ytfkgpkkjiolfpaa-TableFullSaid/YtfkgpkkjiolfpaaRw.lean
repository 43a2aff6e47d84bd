/- The row's slice of whole numbers, as a reading. -/
import Derived.Test.YtfkgpkkjiolfpaaWWords
import Derived.Test.YtfkgpkkjiolfpaaWSized
namespace Go.Proofs.Ytfkgpkkjiolfpaa.Rw
open Go.RowKit Go.Proofs.YtfkgpkkjiolfpaaW.PrintWords
def IsRow (k : IntKind) (w : World) (a : Option Addr) (len cap : Nat) (zs : List Int) : Prop :=
  (a = none ∧ len = 0 ∧ cap = 0 ∧ zs = []) ∨
  ∃ x, a = some x ∧ len ≤ cap ∧ cap ≤ maxLen ∧ zs.length = cap ∧ (∀ i, i < zs.length → w.cell? (x.add i) = some (.int k (zs.getD i 0))) ∧ ∀ n ∈ zs, (Lit.int k n).wf = true
end Go.Proofs.Ytfkgpkkjiolfpaa.Rw
