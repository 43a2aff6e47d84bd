/-
  No cell of these rows narrows 'for every input' (looked for: loops, veiled, ifaces, maps, wideKeys, modest, calm, conditions, laid).
  DERIVED. THE GIVEN ROWS OF THIS SEAT. 10 by the template 'for every input the law returns true; each argument reads behind the call as it read before'; 0 by the template 'total and deterministic' (their statements: YtomejeclfbpilaaTotals.lean).
  GIVEN WITH THE SEED: the statements are not yours to turn. If you find one false, say at which input.
  Laid BY PROGRAM, IN A SANDBOX (cutbox-rows.mjs): the forced cells as the released guide's own fill.sh prints them over the translation cbbbf66d5533e4ee… (all of the seat's roots in one cut). By AI agents, Wed Nov 11 2026. No macro, syntax, notation, axiom, sorry.
-/
import Derived.Test.YtomejeclfbpilaaChecked
import GoSem.Claim
import GoSem.ClaimJoined
import GoSem.ClaimMapViews
import Derived.JoinedTies
import Derived.KernelRfl
namespace Go.Proofs.Ytomejeclfbpilaa
/- THE CELL 'sum', in the pinned program and in every row, IS THE sha256 OF THE DUMP (.gsa) THAT YtomejeclfbpilaaProg.lean LOADS. Nothing in Lean hashes anything: it is a label: what it is worth is what the hold of that sum in a sandbox is worth. -/
noncomputable def Try.pinned : Pinned := { name := "ytomejeclfbpilaa", sum := "cbbbf66d5533e4eea9104e90b78a086688a33879469a6d50db18e4b8285f06d6", checked := Try.checked }
namespace Rows
def none {H : Type} : Left H := { results := [], args := [] }

/-- 'clerestorykeep3.MarginsOrder': WHATEVER THE INPUT: true; the input reads as it did. -/
def marginsOrderSpec : ChangeSpec := { name := "marginsOrder", fn := fun _ => fun
  | [d1, d2] => { results := [.lit (.bool true)], args := [d1, d2] }
  | _ => none }
def marginsOrderRow : OpenClaim := { program := "ytomejeclfbpilaa", sum := "cbbbf66d5533e4eea9104e90b78a086688a33879469a6d50db18e4b8285f06d6", func := "clerestory/clerestorykeep3.MarginsOrder", spec := "marginsOrder", apart := false }
def MarginsOrderSaid : Prop := marginsOrderRow.holds Try.pinned (OpenSpec.ofChange marginsOrderSpec)

/-- ITS FALSE NEIGHBOUR: 'it returns false'. Refute it at one input. -/
def marginsOrderWrong : ChangeSpec := { name := "marginsOrder", fn := fun _ => fun
  | [d1, d2] => { results := [.lit (.bool false)], args := [d1, d2] }
  | _ => none }
def MarginsOrderWrongFalsely : Prop := marginsOrderRow.holds Try.pinned (OpenSpec.ofChange marginsOrderWrong)

/-- 'clerestorykeep3.FixMonotone': WHATEVER THE INPUT: true; the input reads as it did. -/
def fixMonotoneSpec : ChangeSpec := { name := "fixMonotone", fn := fun _ => fun
  | [d1, d2, d3, d4] => { results := [.lit (.bool true)], args := [d1, d2, d3, d4] }
  | _ => none }
def fixMonotoneRow : OpenClaim := { program := "ytomejeclfbpilaa", sum := "cbbbf66d5533e4eea9104e90b78a086688a33879469a6d50db18e4b8285f06d6", func := "clerestory/clerestorykeep3.FixMonotone", spec := "fixMonotone", apart := false }
def FixMonotoneSaid : Prop := fixMonotoneRow.holds Try.pinned (OpenSpec.ofChange fixMonotoneSpec)

/-- ITS FALSE NEIGHBOUR: 'it returns false'. Refute it at one input. -/
def fixMonotoneWrong : ChangeSpec := { name := "fixMonotone", fn := fun _ => fun
  | [d1, d2, d3, d4] => { results := [.lit (.bool false)], args := [d1, d2, d3, d4] }
  | _ => none }
def FixMonotoneWrongFalsely : Prop := fixMonotoneRow.holds Try.pinned (OpenSpec.ofChange fixMonotoneWrong)

/-- 'clerestorykeep3.WhiteJoined': WHATEVER THE INPUT: true; the input reads as it did. -/
def whiteJoinedSpec : ChangeSpec := { name := "whiteJoined", fn := fun _ => fun
  | [d1, d2, d3, d4] => { results := [.lit (.bool true)], args := [d1, d2, d3, d4] }
  | _ => none }
def whiteJoinedRow : OpenClaim := { program := "ytomejeclfbpilaa", sum := "cbbbf66d5533e4eea9104e90b78a086688a33879469a6d50db18e4b8285f06d6", func := "clerestory/clerestorykeep3.WhiteJoined", spec := "whiteJoined", inPlace := ["internal/bytealg.IndexByteString"], apart := false }
def WhiteJoinedSaid : Prop := whiteJoinedRow.holds Try.pinned (OpenSpec.ofChange whiteJoinedSpec)

/-- ITS FALSE NEIGHBOUR: 'it returns false'. Refute it at one input. -/
def whiteJoinedWrong : ChangeSpec := { name := "whiteJoined", fn := fun _ => fun
  | [d1, d2, d3, d4] => { results := [.lit (.bool false)], args := [d1, d2, d3, d4] }
  | _ => none }
def WhiteJoinedWrongFalsely : Prop := whiteJoinedRow.holds Try.pinned (OpenSpec.ofChange whiteJoinedWrong)

/-- 'clerestorykeep3.FixWhole': WHATEVER THE INPUT: true; the input reads as it did. -/
def fixWholeSpec : ChangeSpec := { name := "fixWhole", fn := fun _ => fun
  | [d1, d2] => { results := [.lit (.bool true)], args := [d1, d2] }
  | _ => none }
def fixWholeRow : OpenClaim := { program := "ytomejeclfbpilaa", sum := "cbbbf66d5533e4eea9104e90b78a086688a33879469a6d50db18e4b8285f06d6", func := "clerestory/clerestorykeep3.FixWhole", spec := "fixWhole", unfollowed := true, recurses := true, apart := false }
def FixWholeSaid : Prop := fixWholeRow.holds Try.pinned (OpenSpec.ofChange fixWholeSpec)

/-- ITS FALSE NEIGHBOUR: 'it returns false'. Refute it at one input. -/
def fixWholeWrong : ChangeSpec := { name := "fixWhole", fn := fun _ => fun
  | [d1, d2] => { results := [.lit (.bool false)], args := [d1, d2] }
  | _ => none }
def FixWholeWrongFalsely : Prop := fixWholeRow.holds Try.pinned (OpenSpec.ofChange fixWholeWrong)

/-- 'clerestorykeep3.FloatsApart': WHATEVER THE INPUT: true; the input reads as it did. -/
def floatsApartSpec : ChangeSpec := { name := "floatsApart", fn := fun _ => fun
  | [d1, d2] => { results := [.lit (.bool true)], args := [d1, d2] }
  | _ => none }
def floatsApartRow : OpenClaim := { program := "ytomejeclfbpilaa", sum := "cbbbf66d5533e4eea9104e90b78a086688a33879469a6d50db18e4b8285f06d6", func := "clerestory/clerestorykeep3.FloatsApart", spec := "floatsApart", apart := false }
def FloatsApartSaid : Prop := floatsApartRow.holds Try.pinned (OpenSpec.ofChange floatsApartSpec)

/-- ITS FALSE NEIGHBOUR: 'it returns false'. Refute it at one input. -/
def floatsApartWrong : ChangeSpec := { name := "floatsApart", fn := fun _ => fun
  | [d1, d2] => { results := [.lit (.bool false)], args := [d1, d2] }
  | _ => none }
def FloatsApartWrongFalsely : Prop := floatsApartRow.holds Try.pinned (OpenSpec.ofChange floatsApartWrong)

/-- 'clerestorykeep3.FloatsRoom': WHATEVER THE INPUT: true; the input reads as it did. -/
def floatsRoomSpec : ChangeSpec := { name := "floatsRoom", fn := fun _ => fun
  | [d1, d2, d3, d4] => { results := [.lit (.bool true)], args := [d1, d2, d3, d4] }
  | _ => none }
def floatsRoomRow : OpenClaim := { program := "ytomejeclfbpilaa", sum := "cbbbf66d5533e4eea9104e90b78a086688a33879469a6d50db18e4b8285f06d6", func := "clerestory/clerestorykeep3.FloatsRoom", spec := "floatsRoom", apart := false }
def FloatsRoomSaid : Prop := floatsRoomRow.holds Try.pinned (OpenSpec.ofChange floatsRoomSpec)

/-- ITS FALSE NEIGHBOUR: 'it returns false'. Refute it at one input. -/
def floatsRoomWrong : ChangeSpec := { name := "floatsRoom", fn := fun _ => fun
  | [d1, d2, d3, d4] => { results := [.lit (.bool false)], args := [d1, d2, d3, d4] }
  | _ => none }
def FloatsRoomWrongFalsely : Prop := floatsRoomRow.holds Try.pinned (OpenSpec.ofChange floatsRoomWrong)

/-- 'clerestorykeep3.WidthsAdd': WHATEVER THE INPUT: true; the input reads as it did. -/
def widthsAddSpec : ChangeSpec := { name := "widthsAdd", fn := fun _ => fun
  | [d1, d2] => { results := [.lit (.bool true)], args := [d1, d2] }
  | _ => none }
def widthsAddRow : OpenClaim := { program := "ytomejeclfbpilaa", sum := "cbbbf66d5533e4eea9104e90b78a086688a33879469a6d50db18e4b8285f06d6", func := "clerestory/clerestorykeep3.WidthsAdd", spec := "widthsAdd", unfollowed := true, recurses := true, apart := false }
def WidthsAddSaid : Prop := widthsAddRow.holds Try.pinned (OpenSpec.ofChange widthsAddSpec)

/-- ITS FALSE NEIGHBOUR: 'it returns false'. Refute it at one input. -/
def widthsAddWrong : ChangeSpec := { name := "widthsAdd", fn := fun _ => fun
  | [d1, d2] => { results := [.lit (.bool false)], args := [d1, d2] }
  | _ => none }
def WidthsAddWrongFalsely : Prop := widthsAddRow.holds Try.pinned (OpenSpec.ofChange widthsAddWrong)

/-- 'clerestorykeep3.BreaksWhole': WHATEVER THE INPUT: true; the input reads as it did. -/
def breaksWholeSpec : ChangeSpec := { name := "breaksWhole", fn := fun _ => fun
  | [d1, d2] => { results := [.lit (.bool true)], args := [d1, d2] }
  | _ => none }
def breaksWholeRow : OpenClaim := { program := "ytomejeclfbpilaa", sum := "cbbbf66d5533e4eea9104e90b78a086688a33879469a6d50db18e4b8285f06d6", func := "clerestory/clerestorykeep3.BreaksWhole", spec := "breaksWhole", inPlace := ["internal/abi.NoEscape", "internal/bytealg.MakeNoZero"], unfollowed := true, recurses := true, apart := false }
def BreaksWholeSaid : Prop := breaksWholeRow.holds Try.pinned (OpenSpec.ofChange breaksWholeSpec)

/-- ITS FALSE NEIGHBOUR: 'it returns false'. Refute it at one input. -/
def breaksWholeWrong : ChangeSpec := { name := "breaksWhole", fn := fun _ => fun
  | [d1, d2] => { results := [.lit (.bool false)], args := [d1, d2] }
  | _ => none }
def BreaksWholeWrongFalsely : Prop := breaksWholeRow.holds Try.pinned (OpenSpec.ofChange breaksWholeWrong)

/-- 'clerestorykeep3.WhiteTwice': WHATEVER THE INPUT: true; the input reads as it did. -/
def whiteTwiceSpec : ChangeSpec := { name := "whiteTwice", fn := fun _ => fun
  | [d1, d2, d3] => { results := [.lit (.bool true)], args := [d1, d2, d3] }
  | _ => none }
def whiteTwiceRow : OpenClaim := { program := "ytomejeclfbpilaa", sum := "cbbbf66d5533e4eea9104e90b78a086688a33879469a6d50db18e4b8285f06d6", func := "clerestory/clerestorykeep3.WhiteTwice", spec := "whiteTwice", inPlace := ["internal/bytealg.IndexByteString", "internal/bytealg.IndexString"], named := ["internal/bytealg.MaxLen"], apart := false }
def WhiteTwiceSaid : Prop := whiteTwiceRow.holds Try.pinned (OpenSpec.ofChange whiteTwiceSpec)

/-- ITS FALSE NEIGHBOUR: 'it returns false'. Refute it at one input. -/
def whiteTwiceWrong : ChangeSpec := { name := "whiteTwice", fn := fun _ => fun
  | [d1, d2, d3] => { results := [.lit (.bool false)], args := [d1, d2, d3] }
  | _ => none }
def WhiteTwiceWrongFalsely : Prop := whiteTwiceRow.holds Try.pinned (OpenSpec.ofChange whiteTwiceWrong)

/-- 'clerestorykeep3.BreaksMust': WHATEVER THE INPUT: true; the input reads as it did. -/
def breaksMustSpec : ChangeSpec := { name := "breaksMust", fn := fun _ => fun
  | [d1, d2] => { results := [.lit (.bool true)], args := [d1, d2] }
  | _ => none }
def breaksMustRow : OpenClaim := { program := "ytomejeclfbpilaa", sum := "cbbbf66d5533e4eea9104e90b78a086688a33879469a6d50db18e4b8285f06d6", func := "clerestory/clerestorykeep3.BreaksMust", spec := "breaksMust", inPlace := ["internal/bytealg.CountString", "internal/bytealg.IndexByteString", "internal/bytealg.IndexString"], unfollowed := true, recurses := true, named := ["internal/bytealg.MaxLen"], apart := false }
def BreaksMustSaid : Prop := breaksMustRow.holds Try.pinned (OpenSpec.ofChange breaksMustSpec)

/-- ITS FALSE NEIGHBOUR: 'it returns false'. Refute it at one input. -/
def breaksMustWrong : ChangeSpec := { name := "breaksMust", fn := fun _ => fun
  | [d1, d2] => { results := [.lit (.bool false)], args := [d1, d2] }
  | _ => none }
def BreaksMustWrongFalsely : Prop := breaksMustRow.holds Try.pinned (OpenSpec.ofChange breaksMustWrong)

/- THE SECOND FORM. 'bulk': how many values and letters a reading holds, each counted each time it is reached (what is shared counts as often as it is met; a slice's spare places count too). A statement '..UptoSaid' is the law's where the arguments, and the package variables that the reading takes, are together of bulk at most 1048576: NARROWER than '..Said'. Prove '..Said' where nothing that the law and all that it calls make is longer than what came in: it says more and counts as full. Else prove '..UptoSaid'. A law counts once. -/
mutual
def uptoBulk {H : Type} : DataW H → Nat
  | .lit (.string bytes) => bytes.length + 1
  | .lit _ => 1
  | .nil => 1
  | .ptr d => uptoBulk d + 1
  | .slice elems spare => uptoBulkAll elems + uptoBulkAll spare + 1
  | .agg parts => uptoBulkAll parts + 1
  | .iface _ d => uptoBulk d + 1
  | .map entries => uptoBulkEntries entries + 1
  | .held _ => 1
def uptoBulkAll {H : Type} : List (DataW H) → Nat
  | [] => 0
  | d :: r => uptoBulk d + uptoBulkAll r
def uptoBulkEntries {H : Type} : List (Lit × DataW H) → Nat
  | [] => 0
  | x :: r => uptoBulkEntry x + uptoBulkEntries r
def uptoBulkEntry {H : Type} : Lit × DataW H → Nat
  | (.string bytes, d) => bytes.length + uptoBulk d + 1
  | (_, d) => uptoBulk d + 1
 end
def uptoSmall : (H : Type) → List (DataW H) → Bool := fun _ ds => decide (uptoBulkAll ds ≤ 1048576)
def OpenSpec.upto (s : _root_.Go.ChangeSpec) : _root_.Go.OpenSpec := { _root_.Go.OpenSpec.ofChange s with cond := some uptoSmall }

/-- 'clerestorykeep3.MarginsOrder', WHERE WHAT IT READS IS OF BULK AT MOST 1048576: true; the input reads as it did. -/
def marginsOrderUptoRow : OpenClaim := { program := "ytomejeclfbpilaa", sum := "cbbbf66d5533e4eea9104e90b78a086688a33879469a6d50db18e4b8285f06d6", func := "clerestory/clerestorykeep3.MarginsOrder", spec := "marginsOrder", apart := false, narrowed := true }
def MarginsOrderUptoSaid : Prop := marginsOrderUptoRow.holds Try.pinned (OpenSpec.upto marginsOrderSpec)

/-- 'clerestorykeep3.FixMonotone', WHERE WHAT IT READS IS OF BULK AT MOST 1048576: true; the input reads as it did. -/
def fixMonotoneUptoRow : OpenClaim := { program := "ytomejeclfbpilaa", sum := "cbbbf66d5533e4eea9104e90b78a086688a33879469a6d50db18e4b8285f06d6", func := "clerestory/clerestorykeep3.FixMonotone", spec := "fixMonotone", apart := false, narrowed := true }
def FixMonotoneUptoSaid : Prop := fixMonotoneUptoRow.holds Try.pinned (OpenSpec.upto fixMonotoneSpec)

/-- 'clerestorykeep3.WhiteJoined', WHERE WHAT IT READS IS OF BULK AT MOST 1048576: true; the input reads as it did. -/
def whiteJoinedUptoRow : OpenClaim := { program := "ytomejeclfbpilaa", sum := "cbbbf66d5533e4eea9104e90b78a086688a33879469a6d50db18e4b8285f06d6", func := "clerestory/clerestorykeep3.WhiteJoined", spec := "whiteJoined", inPlace := ["internal/bytealg.IndexByteString"], apart := false, narrowed := true }
def WhiteJoinedUptoSaid : Prop := whiteJoinedUptoRow.holds Try.pinned (OpenSpec.upto whiteJoinedSpec)

/-- 'clerestorykeep3.FixWhole', WHERE WHAT IT READS IS OF BULK AT MOST 1048576: true; the input reads as it did. -/
def fixWholeUptoRow : OpenClaim := { program := "ytomejeclfbpilaa", sum := "cbbbf66d5533e4eea9104e90b78a086688a33879469a6d50db18e4b8285f06d6", func := "clerestory/clerestorykeep3.FixWhole", spec := "fixWhole", unfollowed := true, recurses := true, apart := false, narrowed := true }
def FixWholeUptoSaid : Prop := fixWholeUptoRow.holds Try.pinned (OpenSpec.upto fixWholeSpec)

/-- 'clerestorykeep3.FloatsApart', WHERE WHAT IT READS IS OF BULK AT MOST 1048576: true; the input reads as it did. -/
def floatsApartUptoRow : OpenClaim := { program := "ytomejeclfbpilaa", sum := "cbbbf66d5533e4eea9104e90b78a086688a33879469a6d50db18e4b8285f06d6", func := "clerestory/clerestorykeep3.FloatsApart", spec := "floatsApart", apart := false, narrowed := true }
def FloatsApartUptoSaid : Prop := floatsApartUptoRow.holds Try.pinned (OpenSpec.upto floatsApartSpec)

/-- 'clerestorykeep3.FloatsRoom', WHERE WHAT IT READS IS OF BULK AT MOST 1048576: true; the input reads as it did. -/
def floatsRoomUptoRow : OpenClaim := { program := "ytomejeclfbpilaa", sum := "cbbbf66d5533e4eea9104e90b78a086688a33879469a6d50db18e4b8285f06d6", func := "clerestory/clerestorykeep3.FloatsRoom", spec := "floatsRoom", apart := false, narrowed := true }
def FloatsRoomUptoSaid : Prop := floatsRoomUptoRow.holds Try.pinned (OpenSpec.upto floatsRoomSpec)

/-- 'clerestorykeep3.WidthsAdd', WHERE WHAT IT READS IS OF BULK AT MOST 1048576: true; the input reads as it did. -/
def widthsAddUptoRow : OpenClaim := { program := "ytomejeclfbpilaa", sum := "cbbbf66d5533e4eea9104e90b78a086688a33879469a6d50db18e4b8285f06d6", func := "clerestory/clerestorykeep3.WidthsAdd", spec := "widthsAdd", unfollowed := true, recurses := true, apart := false, narrowed := true }
def WidthsAddUptoSaid : Prop := widthsAddUptoRow.holds Try.pinned (OpenSpec.upto widthsAddSpec)

/-- 'clerestorykeep3.BreaksWhole', WHERE WHAT IT READS IS OF BULK AT MOST 1048576: true; the input reads as it did. -/
def breaksWholeUptoRow : OpenClaim := { program := "ytomejeclfbpilaa", sum := "cbbbf66d5533e4eea9104e90b78a086688a33879469a6d50db18e4b8285f06d6", func := "clerestory/clerestorykeep3.BreaksWhole", spec := "breaksWhole", inPlace := ["internal/abi.NoEscape", "internal/bytealg.MakeNoZero"], unfollowed := true, recurses := true, apart := false, narrowed := true }
def BreaksWholeUptoSaid : Prop := breaksWholeUptoRow.holds Try.pinned (OpenSpec.upto breaksWholeSpec)

/-- 'clerestorykeep3.WhiteTwice', WHERE WHAT IT READS IS OF BULK AT MOST 1048576: true; the input reads as it did. -/
def whiteTwiceUptoRow : OpenClaim := { program := "ytomejeclfbpilaa", sum := "cbbbf66d5533e4eea9104e90b78a086688a33879469a6d50db18e4b8285f06d6", func := "clerestory/clerestorykeep3.WhiteTwice", spec := "whiteTwice", inPlace := ["internal/bytealg.IndexByteString", "internal/bytealg.IndexString"], named := ["internal/bytealg.MaxLen"], apart := false, narrowed := true }
def WhiteTwiceUptoSaid : Prop := whiteTwiceUptoRow.holds Try.pinned (OpenSpec.upto whiteTwiceSpec)

/-- 'clerestorykeep3.BreaksMust', WHERE WHAT IT READS IS OF BULK AT MOST 1048576: true; the input reads as it did. -/
def breaksMustUptoRow : OpenClaim := { program := "ytomejeclfbpilaa", sum := "cbbbf66d5533e4eea9104e90b78a086688a33879469a6d50db18e4b8285f06d6", func := "clerestory/clerestorykeep3.BreaksMust", spec := "breaksMust", inPlace := ["internal/bytealg.CountString", "internal/bytealg.IndexByteString", "internal/bytealg.IndexString"], unfollowed := true, recurses := true, named := ["internal/bytealg.MaxLen"], apart := false, narrowed := true }
def BreaksMustUptoSaid : Prop := breaksMustUptoRow.holds Try.pinned (OpenSpec.upto breaksMustSpec)

end Rows
end Go.Proofs.Ytomejeclfbpilaa
