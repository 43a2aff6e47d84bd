/-
  No cell of these rows narrows 'for every input' (looked for: loops, veiled, ifaces, maps, wideKeys, modest, calm, conditions, laid).
  DERIVED. THE GIVEN ROWS OF THIS SEAT. 4 by the template 'for every input the law returns true; each argument reads behind the call as it read before'; 0 by the template 'total and deterministic' (their statements: YtmkgapdadandmaaTotals.lean).
  GIVEN WITH THE SEED: the statements are not yours to turn. If you find one false, say at which input.
  Laid BY PROGRAM, IN A SANDBOX (cutbox-rows.mjs): the forced cells as the released guide's own fill.sh prints them over the translation 82b4c3c36e1a6aa1… (all of the seat's roots in one cut). By AI agents, Wed Nov 11 2026. No macro, syntax, notation, axiom, sorry.
-/
import Derived.Test.YtmkgapdadandmaaChecked
import GoSem.Claim
import GoSem.ClaimJoined
import GoSem.ClaimMapViews
import Derived.JoinedTies
import Derived.KernelRfl
namespace Go.Proofs.Ytmkgapdadandmaa
/- THE CELL 'sum', in the pinned program and in every row, IS THE sha256 OF THE DUMP (.gsa) THAT YtmkgapdadandmaaProg.lean LOADS. Nothing in Lean hashes anything: it is a label: what it is worth is what the hold of that sum in a sandbox is worth. -/
noncomputable def Try.pinned : Pinned := { name := "ytmkgapdadandmaa", sum := "82b4c3c36e1a6aa18fe910244cdcca03564f77d29ab9aecb4f6353673559deeb", checked := Try.checked }
namespace Rows
def none {H : Type} : Left H := { results := [], args := [] }

/-- 'clerestorykeep3.SizesOrder': WHATEVER THE INPUT: true; the input reads as it did. -/
def sizesOrderSpec : ChangeSpec := { name := "sizesOrder", fn := fun _ => fun
  | [d] => { results := [.lit (.bool true)], args := [d] }
  | _ => none }
def sizesOrderRow : OpenClaim := { program := "ytmkgapdadandmaa", sum := "82b4c3c36e1a6aa18fe910244cdcca03564f77d29ab9aecb4f6353673559deeb", func := "clerestory/clerestorykeep3.SizesOrder", spec := "sizesOrder", inPlace := ["internal/bytealg.IndexByteString", "internal/bytealg.IndexString"], unfollowed := true, recurses := true, named := ["internal/bytealg.MaxLen"], apart := false }
def SizesOrderSaid : Prop := sizesOrderRow.holds Try.pinned (OpenSpec.ofChange sizesOrderSpec)

/-- ITS FALSE NEIGHBOUR: 'it returns false'. Refute it at one input. -/
def sizesOrderWrong : ChangeSpec := { name := "sizesOrder", fn := fun _ => fun
  | [d] => { results := [.lit (.bool false)], args := [d] }
  | _ => none }
def SizesOrderWrongFalsely : Prop := sizesOrderRow.holds Try.pinned (OpenSpec.ofChange sizesOrderWrong)

/-- 'clerestorykeep3.LinesJustified': WHATEVER THE INPUT: true; the input reads as it did. -/
def linesJustifiedSpec : ChangeSpec := { name := "linesJustified", fn := fun _ => fun
  | [d1, d2, d3] => { results := [.lit (.bool true)], args := [d1, d2, d3] }
  | _ => none }
def linesJustifiedRow : OpenClaim := { program := "ytmkgapdadandmaa", sum := "82b4c3c36e1a6aa18fe910244cdcca03564f77d29ab9aecb4f6353673559deeb", func := "clerestory/clerestorykeep3.LinesJustified", spec := "linesJustified", inPlace := ["internal/bytealg.IndexByteString", "internal/bytealg.IndexString"], unfollowed := true, recurses := true, named := ["internal/bytealg.MaxLen"], apart := false }
def LinesJustifiedSaid : Prop := linesJustifiedRow.holds Try.pinned (OpenSpec.ofChange linesJustifiedSpec)

/-- ITS FALSE NEIGHBOUR: 'it returns false'. Refute it at one input. -/
def linesJustifiedWrong : ChangeSpec := { name := "linesJustified", fn := fun _ => fun
  | [d1, d2, d3] => { results := [.lit (.bool false)], args := [d1, d2, d3] }
  | _ => none }
def LinesJustifiedWrongFalsely : Prop := linesJustifiedRow.holds Try.pinned (OpenSpec.ofChange linesJustifiedWrong)

/-- 'clerestorykeep3.LinesOne': WHATEVER THE INPUT: true; the input reads as it did. -/
def linesOneSpec : ChangeSpec := { name := "linesOne", fn := fun _ => fun
  | [d] => { results := [.lit (.bool true)], args := [d] }
  | _ => none }
def linesOneRow : OpenClaim := { program := "ytmkgapdadandmaa", sum := "82b4c3c36e1a6aa18fe910244cdcca03564f77d29ab9aecb4f6353673559deeb", func := "clerestory/clerestorykeep3.LinesOne", spec := "linesOne", inPlace := ["internal/bytealg.IndexByteString", "internal/bytealg.IndexString"], unfollowed := true, recurses := true, named := ["internal/bytealg.MaxLen"], apart := false }
def LinesOneSaid : Prop := linesOneRow.holds Try.pinned (OpenSpec.ofChange linesOneSpec)

/-- ITS FALSE NEIGHBOUR: 'it returns false'. Refute it at one input. -/
def linesOneWrong : ChangeSpec := { name := "linesOne", fn := fun _ => fun
  | [d] => { results := [.lit (.bool false)], args := [d] }
  | _ => none }
def LinesOneWrongFalsely : Prop := linesOneRow.holds Try.pinned (OpenSpec.ofChange linesOneWrong)

/-- 'clerestorykeep3.LinesFit': WHATEVER THE INPUT: true; the input reads as it did. -/
def linesFitSpec : ChangeSpec := { name := "linesFit", fn := fun _ => fun
  | [d1, d2, d3] => { results := [.lit (.bool true)], args := [d1, d2, d3] }
  | _ => none }
def linesFitRow : OpenClaim := { program := "ytmkgapdadandmaa", sum := "82b4c3c36e1a6aa18fe910244cdcca03564f77d29ab9aecb4f6353673559deeb", func := "clerestory/clerestorykeep3.LinesFit", spec := "linesFit", inPlace := ["internal/bytealg.IndexByteString", "internal/bytealg.IndexString"], unfollowed := true, recurses := true, named := ["internal/bytealg.MaxLen"], apart := false }
def LinesFitSaid : Prop := linesFitRow.holds Try.pinned (OpenSpec.ofChange linesFitSpec)

/-- ITS FALSE NEIGHBOUR: 'it returns false'. Refute it at one input. -/
def linesFitWrong : ChangeSpec := { name := "linesFit", fn := fun _ => fun
  | [d1, d2, d3] => { results := [.lit (.bool false)], args := [d1, d2, d3] }
  | _ => none }
def LinesFitWrongFalsely : Prop := linesFitRow.holds Try.pinned (OpenSpec.ofChange linesFitWrong)

/- THE SECOND FORM. 'bulk': how many values and letters a reading holds, each counted each time it is reached (what is shared counts as often as it is met; a slice's spare places count too). A statement '..UptoSaid' is the law's where the arguments, and the package variables that the reading takes, are together of bulk at most 1048576: NARROWER than '..Said'. Prove '..Said' where nothing that the law and all that it calls make is longer than what came in: it says more and counts as full. Else prove '..UptoSaid'. A law counts once. -/
mutual
def uptoBulk {H : Type} : DataW H → Nat
  | .lit (.string bytes) => bytes.length + 1
  | .lit _ => 1
  | .nil => 1
  | .ptr d => uptoBulk d + 1
  | .slice elems spare => uptoBulkAll elems + uptoBulkAll spare + 1
  | .agg parts => uptoBulkAll parts + 1
  | .iface _ d => uptoBulk d + 1
  | .map entries => uptoBulkEntries entries + 1
  | .held _ => 1
def uptoBulkAll {H : Type} : List (DataW H) → Nat
  | [] => 0
  | d :: r => uptoBulk d + uptoBulkAll r
def uptoBulkEntries {H : Type} : List (Lit × DataW H) → Nat
  | [] => 0
  | x :: r => uptoBulkEntry x + uptoBulkEntries r
def uptoBulkEntry {H : Type} : Lit × DataW H → Nat
  | (.string bytes, d) => bytes.length + uptoBulk d + 1
  | (_, d) => uptoBulk d + 1
 end
def uptoSmall : (H : Type) → List (DataW H) → Bool := fun _ ds => decide (uptoBulkAll ds ≤ 1048576)
def OpenSpec.upto (s : _root_.Go.ChangeSpec) : _root_.Go.OpenSpec := { _root_.Go.OpenSpec.ofChange s with cond := some uptoSmall }

/-- 'clerestorykeep3.SizesOrder', WHERE WHAT IT READS IS OF BULK AT MOST 1048576: true; the input reads as it did. -/
def sizesOrderUptoRow : OpenClaim := { program := "ytmkgapdadandmaa", sum := "82b4c3c36e1a6aa18fe910244cdcca03564f77d29ab9aecb4f6353673559deeb", func := "clerestory/clerestorykeep3.SizesOrder", spec := "sizesOrder", inPlace := ["internal/bytealg.IndexByteString", "internal/bytealg.IndexString"], unfollowed := true, recurses := true, named := ["internal/bytealg.MaxLen"], apart := false, narrowed := true }
def SizesOrderUptoSaid : Prop := sizesOrderUptoRow.holds Try.pinned (OpenSpec.upto sizesOrderSpec)

/-- 'clerestorykeep3.LinesJustified', WHERE WHAT IT READS IS OF BULK AT MOST 1048576: true; the input reads as it did. -/
def linesJustifiedUptoRow : OpenClaim := { program := "ytmkgapdadandmaa", sum := "82b4c3c36e1a6aa18fe910244cdcca03564f77d29ab9aecb4f6353673559deeb", func := "clerestory/clerestorykeep3.LinesJustified", spec := "linesJustified", inPlace := ["internal/bytealg.IndexByteString", "internal/bytealg.IndexString"], unfollowed := true, recurses := true, named := ["internal/bytealg.MaxLen"], apart := false, narrowed := true }
def LinesJustifiedUptoSaid : Prop := linesJustifiedUptoRow.holds Try.pinned (OpenSpec.upto linesJustifiedSpec)

/-- 'clerestorykeep3.LinesOne', WHERE WHAT IT READS IS OF BULK AT MOST 1048576: true; the input reads as it did. -/
def linesOneUptoRow : OpenClaim := { program := "ytmkgapdadandmaa", sum := "82b4c3c36e1a6aa18fe910244cdcca03564f77d29ab9aecb4f6353673559deeb", func := "clerestory/clerestorykeep3.LinesOne", spec := "linesOne", inPlace := ["internal/bytealg.IndexByteString", "internal/bytealg.IndexString"], unfollowed := true, recurses := true, named := ["internal/bytealg.MaxLen"], apart := false, narrowed := true }
def LinesOneUptoSaid : Prop := linesOneUptoRow.holds Try.pinned (OpenSpec.upto linesOneSpec)

/-- 'clerestorykeep3.LinesFit', WHERE WHAT IT READS IS OF BULK AT MOST 1048576: true; the input reads as it did. -/
def linesFitUptoRow : OpenClaim := { program := "ytmkgapdadandmaa", sum := "82b4c3c36e1a6aa18fe910244cdcca03564f77d29ab9aecb4f6353673559deeb", func := "clerestory/clerestorykeep3.LinesFit", spec := "linesFit", inPlace := ["internal/bytealg.IndexByteString", "internal/bytealg.IndexString"], unfollowed := true, recurses := true, named := ["internal/bytealg.MaxLen"], apart := false, narrowed := true }
def LinesFitUptoSaid : Prop := linesFitUptoRow.holds Try.pinned (OpenSpec.upto linesFitSpec)

end Rows
end Go.Proofs.Ytmkgapdadandmaa
