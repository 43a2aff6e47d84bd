/-
  No cell of these rows narrows 'for every input' (looked for: loops, veiled, ifaces, maps, wideKeys, modest, calm, conditions, laid).
  DERIVED. THE GIVEN ROWS OF THIS SEAT. 12 by the template 'for every input the law returns true; each argument reads behind the call as it read before'; 0 by the template 'total and deterministic' (their statements: YtfkgpkkjiolfpaaTotals.lean).
  GIVEN WITH THE SEED: the statements are not yours to turn. If you find one false, say at which input.
  Laid BY PROGRAM, IN A SANDBOX (cutbox-rows.mjs): the forced cells as the released guide's own fill.sh prints them over the translation ef03a989dd02ddef… (all of the seat's roots in one cut). By AI agents, Wed Nov 11 2026. No macro, syntax, notation, axiom, sorry.
-/
import Derived.Test.YtfkgpkkjiolfpaaChecked
import GoSem.Claim
import GoSem.ClaimJoined
import GoSem.ClaimMapViews
import Derived.JoinedTies
import Derived.KernelRfl
namespace Go.Proofs.Ytfkgpkkjiolfpaa
/- THE CELL 'sum', in the pinned program and in every row, IS THE sha256 OF THE DUMP (.gsa) THAT YtfkgpkkjiolfpaaProg.lean LOADS. Nothing in Lean hashes anything: it is a label: what it is worth is what the hold of that sum in a sandbox is worth. -/
noncomputable def Try.pinned : Pinned := { name := "ytfkgpkkjiolfpaa", sum := "ef03a989dd02ddef3b77b83d62a040e5da8eec758893615b9a412f11ae249cec", checked := Try.checked }
namespace Rows
def none {H : Type} : Left H := { results := [], args := [] }

/-- 'clerestorykeep3.PaintHidden': WHATEVER THE INPUT: true; the input reads as it did. -/
def paintHiddenSpec : ChangeSpec := { name := "paintHidden", fn := fun _ => fun
  | [d1, d2, d3] => { results := [.lit (.bool true)], args := [d1, d2, d3] }
  | _ => none }
def paintHiddenRow : OpenClaim := { program := "ytfkgpkkjiolfpaa", sum := "ef03a989dd02ddef3b77b83d62a040e5da8eec758893615b9a412f11ae249cec", func := "clerestory/clerestorykeep3.PaintHidden", spec := "paintHidden", unfollowed := true, recurses := true, apart := false }
def PaintHiddenSaid : Prop := paintHiddenRow.holds Try.pinned (OpenSpec.ofChange paintHiddenSpec)

/-- ITS FALSE NEIGHBOUR: 'it returns false'. Refute it at one input. -/
def paintHiddenWrong : ChangeSpec := { name := "paintHidden", fn := fun _ => fun
  | [d1, d2, d3] => { results := [.lit (.bool false)], args := [d1, d2, d3] }
  | _ => none }
def PaintHiddenWrongFalsely : Prop := paintHiddenRow.holds Try.pinned (OpenSpec.ofChange paintHiddenWrong)

/-- 'clerestorykeep3.FlexBounds': WHATEVER THE INPUT: true; the input reads as it did. -/
def flexBoundsSpec : ChangeSpec := { name := "flexBounds", fn := fun _ => fun
  | [d1, d2, d3] => { results := [.lit (.bool true)], args := [d1, d2, d3] }
  | _ => none }
def flexBoundsRow : OpenClaim := { program := "ytfkgpkkjiolfpaa", sum := "ef03a989dd02ddef3b77b83d62a040e5da8eec758893615b9a412f11ae249cec", func := "clerestory/clerestorykeep3.FlexBounds", spec := "flexBounds", unfollowed := true, recurses := true, apart := false }
def FlexBoundsSaid : Prop := flexBoundsRow.holds Try.pinned (OpenSpec.ofChange flexBoundsSpec)

/-- ITS FALSE NEIGHBOUR: 'it returns false'. Refute it at one input. -/
def flexBoundsWrong : ChangeSpec := { name := "flexBounds", fn := fun _ => fun
  | [d1, d2, d3] => { results := [.lit (.bool false)], args := [d1, d2, d3] }
  | _ => none }
def FlexBoundsWrongFalsely : Prop := flexBoundsRow.holds Try.pinned (OpenSpec.ofChange flexBoundsWrong)

/-- 'clerestorykeep3.FlexFilled': WHATEVER THE INPUT: true; the input reads as it did. -/
def flexFilledSpec : ChangeSpec := { name := "flexFilled", fn := fun _ => fun
  | [d1, d2, d3] => { results := [.lit (.bool true)], args := [d1, d2, d3] }
  | _ => none }
def flexFilledRow : OpenClaim := { program := "ytfkgpkkjiolfpaa", sum := "ef03a989dd02ddef3b77b83d62a040e5da8eec758893615b9a412f11ae249cec", func := "clerestory/clerestorykeep3.FlexFilled", spec := "flexFilled", unfollowed := true, recurses := true, apart := false }
def FlexFilledSaid : Prop := flexFilledRow.holds Try.pinned (OpenSpec.ofChange flexFilledSpec)

/-- ITS FALSE NEIGHBOUR: 'it returns false'. Refute it at one input. -/
def flexFilledWrong : ChangeSpec := { name := "flexFilled", fn := fun _ => fun
  | [d1, d2, d3] => { results := [.lit (.bool false)], args := [d1, d2, d3] }
  | _ => none }
def FlexFilledWrongFalsely : Prop := flexFilledRow.holds Try.pinned (OpenSpec.ofChange flexFilledWrong)

/-- 'clerestorykeep3.FlexRowsAll': WHATEVER THE INPUT: true; the input reads as it did. -/
def flexRowsAllSpec : ChangeSpec := { name := "flexRowsAll", fn := fun _ => fun
  | [d1, d2, d3, d4] => { results := [.lit (.bool true)], args := [d1, d2, d3, d4] }
  | _ => none }
def flexRowsAllRow : OpenClaim := { program := "ytfkgpkkjiolfpaa", sum := "ef03a989dd02ddef3b77b83d62a040e5da8eec758893615b9a412f11ae249cec", func := "clerestory/clerestorykeep3.FlexRowsAll", spec := "flexRowsAll", unfollowed := true, recurses := true, apart := false }
def FlexRowsAllSaid : Prop := flexRowsAllRow.holds Try.pinned (OpenSpec.ofChange flexRowsAllSpec)

/-- ITS FALSE NEIGHBOUR: 'it returns false'. Refute it at one input. -/
def flexRowsAllWrong : ChangeSpec := { name := "flexRowsAll", fn := fun _ => fun
  | [d1, d2, d3, d4] => { results := [.lit (.bool false)], args := [d1, d2, d3, d4] }
  | _ => none }
def FlexRowsAllWrongFalsely : Prop := flexRowsAllRow.holds Try.pinned (OpenSpec.ofChange flexRowsAllWrong)

/-- 'clerestorykeep3.FlexSpreadAll': WHATEVER THE INPUT: true; the input reads as it did. -/
def flexSpreadAllSpec : ChangeSpec := { name := "flexSpreadAll", fn := fun _ => fun
  | [d1, d2, d3] => { results := [.lit (.bool true)], args := [d1, d2, d3] }
  | _ => none }
def flexSpreadAllRow : OpenClaim := { program := "ytfkgpkkjiolfpaa", sum := "ef03a989dd02ddef3b77b83d62a040e5da8eec758893615b9a412f11ae249cec", func := "clerestory/clerestorykeep3.FlexSpreadAll", spec := "flexSpreadAll", unfollowed := true, recurses := true, apart := false }
def FlexSpreadAllSaid : Prop := flexSpreadAllRow.holds Try.pinned (OpenSpec.ofChange flexSpreadAllSpec)

/-- ITS FALSE NEIGHBOUR: 'it returns false'. Refute it at one input. -/
def flexSpreadAllWrong : ChangeSpec := { name := "flexSpreadAll", fn := fun _ => fun
  | [d1, d2, d3] => { results := [.lit (.bool false)], args := [d1, d2, d3] }
  | _ => none }
def FlexSpreadAllWrongFalsely : Prop := flexSpreadAllRow.holds Try.pinned (OpenSpec.ofChange flexSpreadAllWrong)

/-- 'clerestorykeep3.TableSpans': WHATEVER THE INPUT: true; the input reads as it did. -/
def tableSpansSpec : ChangeSpec := { name := "tableSpans", fn := fun _ => fun
  | [d] => { results := [.lit (.bool true)], args := [d] }
  | _ => none }
def tableSpansRow : OpenClaim := { program := "ytfkgpkkjiolfpaa", sum := "ef03a989dd02ddef3b77b83d62a040e5da8eec758893615b9a412f11ae249cec", func := "clerestory/clerestorykeep3.TableSpans", spec := "tableSpans", unfollowed := true, recurses := true, apart := false }
def TableSpansSaid : Prop := tableSpansRow.holds Try.pinned (OpenSpec.ofChange tableSpansSpec)

/-- ITS FALSE NEIGHBOUR: 'it returns false'. Refute it at one input. -/
def tableSpansWrong : ChangeSpec := { name := "tableSpans", fn := fun _ => fun
  | [d] => { results := [.lit (.bool false)], args := [d] }
  | _ => none }
def TableSpansWrongFalsely : Prop := tableSpansRow.holds Try.pinned (OpenSpec.ofChange tableSpansWrong)

/-- 'clerestorykeep3.TableFull': WHATEVER THE INPUT: true; the input reads as it did. -/
def tableFullSpec : ChangeSpec := { name := "tableFull", fn := fun _ => fun
  | [d1, d2, d3, d4, d5] => { results := [.lit (.bool true)], args := [d1, d2, d3, d4, d5] }
  | _ => none }
def tableFullRow : OpenClaim := { program := "ytfkgpkkjiolfpaa", sum := "ef03a989dd02ddef3b77b83d62a040e5da8eec758893615b9a412f11ae249cec", func := "clerestory/clerestorykeep3.TableFull", spec := "tableFull", unfollowed := true, recurses := true, apart := false }
def TableFullSaid : Prop := tableFullRow.holds Try.pinned (OpenSpec.ofChange tableFullSpec)

/-- ITS FALSE NEIGHBOUR: 'it returns false'. Refute it at one input. -/
def tableFullWrong : ChangeSpec := { name := "tableFull", fn := fun _ => fun
  | [d1, d2, d3, d4, d5] => { results := [.lit (.bool false)], args := [d1, d2, d3, d4, d5] }
  | _ => none }
def TableFullWrongFalsely : Prop := tableFullRow.holds Try.pinned (OpenSpec.ofChange tableFullWrong)

/-- 'clerestorykeep3.RasterBetween': WHATEVER THE INPUT: true; the input reads as it did. -/
def rasterBetweenSpec : ChangeSpec := { name := "rasterBetween", fn := fun _ => fun
  | [d1, d2, d3] => { results := [.lit (.bool true)], args := [d1, d2, d3] }
  | _ => none }
def rasterBetweenRow : OpenClaim := { program := "ytfkgpkkjiolfpaa", sum := "ef03a989dd02ddef3b77b83d62a040e5da8eec758893615b9a412f11ae249cec", func := "clerestory/clerestorykeep3.RasterBetween", spec := "rasterBetween", inPlace := ["internal/bytealg.IndexByteString", "internal/bytealg.IndexString"], named := ["internal/bytealg.MaxLen"], apart := false }
def RasterBetweenSaid : Prop := rasterBetweenRow.holds Try.pinned (OpenSpec.ofChange rasterBetweenSpec)

/-- ITS FALSE NEIGHBOUR: 'it returns false'. Refute it at one input. -/
def rasterBetweenWrong : ChangeSpec := { name := "rasterBetween", fn := fun _ => fun
  | [d1, d2, d3] => { results := [.lit (.bool false)], args := [d1, d2, d3] }
  | _ => none }
def RasterBetweenWrongFalsely : Prop := rasterBetweenRow.holds Try.pinned (OpenSpec.ofChange rasterBetweenWrong)

/-- 'clerestorykeep3.RasterClip': WHATEVER THE INPUT: true; the input reads as it did. -/
def rasterClipSpec : ChangeSpec := { name := "rasterClip", fn := fun _ => fun
  | [d1, d2] => { results := [.lit (.bool true)], args := [d1, d2] }
  | _ => none }
def rasterClipRow : OpenClaim := { program := "ytfkgpkkjiolfpaa", sum := "ef03a989dd02ddef3b77b83d62a040e5da8eec758893615b9a412f11ae249cec", func := "clerestory/clerestorykeep3.RasterClip", spec := "rasterClip", inPlace := ["internal/bytealg.IndexByteString", "internal/bytealg.IndexString"], unfollowed := true, recurses := true, named := ["internal/bytealg.MaxLen"], apart := false }
def RasterClipSaid : Prop := rasterClipRow.holds Try.pinned (OpenSpec.ofChange rasterClipSpec)

/-- ITS FALSE NEIGHBOUR: 'it returns false'. Refute it at one input. -/
def rasterClipWrong : ChangeSpec := { name := "rasterClip", fn := fun _ => fun
  | [d1, d2] => { results := [.lit (.bool false)], args := [d1, d2] }
  | _ => none }
def RasterClipWrongFalsely : Prop := rasterClipRow.holds Try.pinned (OpenSpec.ofChange rasterClipWrong)

/-- 'clerestorykeep3.RasterParts': WHATEVER THE INPUT: true; the input reads as it did. -/
def rasterPartsSpec : ChangeSpec := { name := "rasterParts", fn := fun _ => fun
  | [d] => { results := [.lit (.bool true)], args := [d] }
  | _ => none }
def rasterPartsRow : OpenClaim := { program := "ytfkgpkkjiolfpaa", sum := "ef03a989dd02ddef3b77b83d62a040e5da8eec758893615b9a412f11ae249cec", func := "clerestory/clerestorykeep3.RasterParts", spec := "rasterParts", inPlace := ["internal/bytealg.IndexByteString", "internal/bytealg.IndexString"], unfollowed := true, recurses := true, named := ["internal/bytealg.MaxLen"], apart := false }
def RasterPartsSaid : Prop := rasterPartsRow.holds Try.pinned (OpenSpec.ofChange rasterPartsSpec)

/-- ITS FALSE NEIGHBOUR: 'it returns false'. Refute it at one input. -/
def rasterPartsWrong : ChangeSpec := { name := "rasterParts", fn := fun _ => fun
  | [d] => { results := [.lit (.bool false)], args := [d] }
  | _ => none }
def RasterPartsWrongFalsely : Prop := rasterPartsRow.holds Try.pinned (OpenSpec.ofChange rasterPartsWrong)

/-- 'clerestorykeep3.DamageAll': WHATEVER THE INPUT: true; the input reads as it did. -/
def damageAllSpec : ChangeSpec := { name := "damageAll", fn := fun _ => fun
  | [d1, d2, d3] => { results := [.lit (.bool true)], args := [d1, d2, d3] }
  | _ => none }
def damageAllRow : OpenClaim := { program := "ytfkgpkkjiolfpaa", sum := "ef03a989dd02ddef3b77b83d62a040e5da8eec758893615b9a412f11ae249cec", func := "clerestory/clerestorykeep3.DamageAll", spec := "damageAll", inPlace := ["internal/bytealg.IndexByteString", "internal/bytealg.IndexString"], unfollowed := true, recurses := true, named := ["internal/bytealg.MaxLen"], apart := false }
def DamageAllSaid : Prop := damageAllRow.holds Try.pinned (OpenSpec.ofChange damageAllSpec)

/-- ITS FALSE NEIGHBOUR: 'it returns false'. Refute it at one input. -/
def damageAllWrong : ChangeSpec := { name := "damageAll", fn := fun _ => fun
  | [d1, d2, d3] => { results := [.lit (.bool false)], args := [d1, d2, d3] }
  | _ => none }
def DamageAllWrongFalsely : Prop := damageAllRow.holds Try.pinned (OpenSpec.ofChange damageAllWrong)

/-- 'clerestorykeep3.DamageSame': WHATEVER THE INPUT: true; the input reads as it did. -/
def damageSameSpec : ChangeSpec := { name := "damageSame", fn := fun _ => fun
  | [d1, d2] => { results := [.lit (.bool true)], args := [d1, d2] }
  | _ => none }
def damageSameRow : OpenClaim := { program := "ytfkgpkkjiolfpaa", sum := "ef03a989dd02ddef3b77b83d62a040e5da8eec758893615b9a412f11ae249cec", func := "clerestory/clerestorykeep3.DamageSame", spec := "damageSame", inPlace := ["internal/bytealg.IndexByteString", "internal/bytealg.IndexString"], unfollowed := true, recurses := true, named := ["internal/bytealg.MaxLen"], apart := false }
def DamageSameSaid : Prop := damageSameRow.holds Try.pinned (OpenSpec.ofChange damageSameSpec)

/-- ITS FALSE NEIGHBOUR: 'it returns false'. Refute it at one input. -/
def damageSameWrong : ChangeSpec := { name := "damageSame", fn := fun _ => fun
  | [d1, d2] => { results := [.lit (.bool false)], args := [d1, d2] }
  | _ => none }
def DamageSameWrongFalsely : Prop := damageSameRow.holds Try.pinned (OpenSpec.ofChange damageSameWrong)

/- THE SECOND FORM. 'bulk': how many values and letters a reading holds, each counted each time it is reached (what is shared counts as often as it is met; a slice's spare places count too). A statement '..UptoSaid' is the law's where the arguments, and the package variables that the reading takes, are together of bulk at most 1048576: NARROWER than '..Said'. Prove '..Said' where nothing that the law and all that it calls make is longer than what came in: it says more and counts as full. Else prove '..UptoSaid'. A law counts once. -/
mutual
def uptoBulk {H : Type} : DataW H → Nat
  | .lit (.string bytes) => bytes.length + 1
  | .lit _ => 1
  | .nil => 1
  | .ptr d => uptoBulk d + 1
  | .slice elems spare => uptoBulkAll elems + uptoBulkAll spare + 1
  | .agg parts => uptoBulkAll parts + 1
  | .iface _ d => uptoBulk d + 1
  | .map entries => uptoBulkEntries entries + 1
  | .held _ => 1
def uptoBulkAll {H : Type} : List (DataW H) → Nat
  | [] => 0
  | d :: r => uptoBulk d + uptoBulkAll r
def uptoBulkEntries {H : Type} : List (Lit × DataW H) → Nat
  | [] => 0
  | x :: r => uptoBulkEntry x + uptoBulkEntries r
def uptoBulkEntry {H : Type} : Lit × DataW H → Nat
  | (.string bytes, d) => bytes.length + uptoBulk d + 1
  | (_, d) => uptoBulk d + 1
 end
def uptoSmall : (H : Type) → List (DataW H) → Bool := fun _ ds => decide (uptoBulkAll ds ≤ 1048576)
def OpenSpec.upto (s : _root_.Go.ChangeSpec) : _root_.Go.OpenSpec := { _root_.Go.OpenSpec.ofChange s with cond := some uptoSmall }

/-- 'clerestorykeep3.PaintHidden', WHERE WHAT IT READS IS OF BULK AT MOST 1048576: true; the input reads as it did. -/
def paintHiddenUptoRow : OpenClaim := { program := "ytfkgpkkjiolfpaa", sum := "ef03a989dd02ddef3b77b83d62a040e5da8eec758893615b9a412f11ae249cec", func := "clerestory/clerestorykeep3.PaintHidden", spec := "paintHidden", unfollowed := true, recurses := true, apart := false, narrowed := true }
def PaintHiddenUptoSaid : Prop := paintHiddenUptoRow.holds Try.pinned (OpenSpec.upto paintHiddenSpec)

/-- 'clerestorykeep3.FlexBounds', WHERE WHAT IT READS IS OF BULK AT MOST 1048576: true; the input reads as it did. -/
def flexBoundsUptoRow : OpenClaim := { program := "ytfkgpkkjiolfpaa", sum := "ef03a989dd02ddef3b77b83d62a040e5da8eec758893615b9a412f11ae249cec", func := "clerestory/clerestorykeep3.FlexBounds", spec := "flexBounds", unfollowed := true, recurses := true, apart := false, narrowed := true }
def FlexBoundsUptoSaid : Prop := flexBoundsUptoRow.holds Try.pinned (OpenSpec.upto flexBoundsSpec)

/-- 'clerestorykeep3.FlexFilled', WHERE WHAT IT READS IS OF BULK AT MOST 1048576: true; the input reads as it did. -/
def flexFilledUptoRow : OpenClaim := { program := "ytfkgpkkjiolfpaa", sum := "ef03a989dd02ddef3b77b83d62a040e5da8eec758893615b9a412f11ae249cec", func := "clerestory/clerestorykeep3.FlexFilled", spec := "flexFilled", unfollowed := true, recurses := true, apart := false, narrowed := true }
def FlexFilledUptoSaid : Prop := flexFilledUptoRow.holds Try.pinned (OpenSpec.upto flexFilledSpec)

/-- 'clerestorykeep3.FlexRowsAll', WHERE WHAT IT READS IS OF BULK AT MOST 1048576: true; the input reads as it did. -/
def flexRowsAllUptoRow : OpenClaim := { program := "ytfkgpkkjiolfpaa", sum := "ef03a989dd02ddef3b77b83d62a040e5da8eec758893615b9a412f11ae249cec", func := "clerestory/clerestorykeep3.FlexRowsAll", spec := "flexRowsAll", unfollowed := true, recurses := true, apart := false, narrowed := true }
def FlexRowsAllUptoSaid : Prop := flexRowsAllUptoRow.holds Try.pinned (OpenSpec.upto flexRowsAllSpec)

/-- 'clerestorykeep3.FlexSpreadAll', WHERE WHAT IT READS IS OF BULK AT MOST 1048576: true; the input reads as it did. -/
def flexSpreadAllUptoRow : OpenClaim := { program := "ytfkgpkkjiolfpaa", sum := "ef03a989dd02ddef3b77b83d62a040e5da8eec758893615b9a412f11ae249cec", func := "clerestory/clerestorykeep3.FlexSpreadAll", spec := "flexSpreadAll", unfollowed := true, recurses := true, apart := false, narrowed := true }
def FlexSpreadAllUptoSaid : Prop := flexSpreadAllUptoRow.holds Try.pinned (OpenSpec.upto flexSpreadAllSpec)

/-- 'clerestorykeep3.TableSpans', WHERE WHAT IT READS IS OF BULK AT MOST 1048576: true; the input reads as it did. -/
def tableSpansUptoRow : OpenClaim := { program := "ytfkgpkkjiolfpaa", sum := "ef03a989dd02ddef3b77b83d62a040e5da8eec758893615b9a412f11ae249cec", func := "clerestory/clerestorykeep3.TableSpans", spec := "tableSpans", unfollowed := true, recurses := true, apart := false, narrowed := true }
def TableSpansUptoSaid : Prop := tableSpansUptoRow.holds Try.pinned (OpenSpec.upto tableSpansSpec)

/-- 'clerestorykeep3.TableFull', WHERE WHAT IT READS IS OF BULK AT MOST 1048576: true; the input reads as it did. -/
def tableFullUptoRow : OpenClaim := { program := "ytfkgpkkjiolfpaa", sum := "ef03a989dd02ddef3b77b83d62a040e5da8eec758893615b9a412f11ae249cec", func := "clerestory/clerestorykeep3.TableFull", spec := "tableFull", unfollowed := true, recurses := true, apart := false, narrowed := true }
def TableFullUptoSaid : Prop := tableFullUptoRow.holds Try.pinned (OpenSpec.upto tableFullSpec)

/-- 'clerestorykeep3.RasterBetween', WHERE WHAT IT READS IS OF BULK AT MOST 1048576: true; the input reads as it did. -/
def rasterBetweenUptoRow : OpenClaim := { program := "ytfkgpkkjiolfpaa", sum := "ef03a989dd02ddef3b77b83d62a040e5da8eec758893615b9a412f11ae249cec", func := "clerestory/clerestorykeep3.RasterBetween", spec := "rasterBetween", inPlace := ["internal/bytealg.IndexByteString", "internal/bytealg.IndexString"], named := ["internal/bytealg.MaxLen"], apart := false, narrowed := true }
def RasterBetweenUptoSaid : Prop := rasterBetweenUptoRow.holds Try.pinned (OpenSpec.upto rasterBetweenSpec)

/-- 'clerestorykeep3.RasterClip', WHERE WHAT IT READS IS OF BULK AT MOST 1048576: true; the input reads as it did. -/
def rasterClipUptoRow : OpenClaim := { program := "ytfkgpkkjiolfpaa", sum := "ef03a989dd02ddef3b77b83d62a040e5da8eec758893615b9a412f11ae249cec", func := "clerestory/clerestorykeep3.RasterClip", spec := "rasterClip", inPlace := ["internal/bytealg.IndexByteString", "internal/bytealg.IndexString"], unfollowed := true, recurses := true, named := ["internal/bytealg.MaxLen"], apart := false, narrowed := true }
def RasterClipUptoSaid : Prop := rasterClipUptoRow.holds Try.pinned (OpenSpec.upto rasterClipSpec)

/-- 'clerestorykeep3.RasterParts', WHERE WHAT IT READS IS OF BULK AT MOST 1048576: true; the input reads as it did. -/
def rasterPartsUptoRow : OpenClaim := { program := "ytfkgpkkjiolfpaa", sum := "ef03a989dd02ddef3b77b83d62a040e5da8eec758893615b9a412f11ae249cec", func := "clerestory/clerestorykeep3.RasterParts", spec := "rasterParts", inPlace := ["internal/bytealg.IndexByteString", "internal/bytealg.IndexString"], unfollowed := true, recurses := true, named := ["internal/bytealg.MaxLen"], apart := false, narrowed := true }
def RasterPartsUptoSaid : Prop := rasterPartsUptoRow.holds Try.pinned (OpenSpec.upto rasterPartsSpec)

/-- 'clerestorykeep3.DamageAll', WHERE WHAT IT READS IS OF BULK AT MOST 1048576: true; the input reads as it did. -/
def damageAllUptoRow : OpenClaim := { program := "ytfkgpkkjiolfpaa", sum := "ef03a989dd02ddef3b77b83d62a040e5da8eec758893615b9a412f11ae249cec", func := "clerestory/clerestorykeep3.DamageAll", spec := "damageAll", inPlace := ["internal/bytealg.IndexByteString", "internal/bytealg.IndexString"], unfollowed := true, recurses := true, named := ["internal/bytealg.MaxLen"], apart := false, narrowed := true }
def DamageAllUptoSaid : Prop := damageAllUptoRow.holds Try.pinned (OpenSpec.upto damageAllSpec)

/-- 'clerestorykeep3.DamageSame', WHERE WHAT IT READS IS OF BULK AT MOST 1048576: true; the input reads as it did. -/
def damageSameUptoRow : OpenClaim := { program := "ytfkgpkkjiolfpaa", sum := "ef03a989dd02ddef3b77b83d62a040e5da8eec758893615b9a412f11ae249cec", func := "clerestory/clerestorykeep3.DamageSame", spec := "damageSame", inPlace := ["internal/bytealg.IndexByteString", "internal/bytealg.IndexString"], unfollowed := true, recurses := true, named := ["internal/bytealg.MaxLen"], apart := false, narrowed := true }
def DamageSameUptoSaid : Prop := damageSameUptoRow.holds Try.pinned (OpenSpec.upto damageSameSpec)

end Rows
end Go.Proofs.Ytfkgpkkjiolfpaa
