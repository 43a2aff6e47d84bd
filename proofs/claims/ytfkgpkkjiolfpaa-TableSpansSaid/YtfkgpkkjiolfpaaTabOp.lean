/- From a row's reading of an argument to its rows of cells. -/
import Derived.Test.YtfkgpkkjiolfpaaTabCells
import Derived.Test.YtfkgpkkjiolfpaaOpen
namespace Go.Proofs.Ytfkgpkkjiolfpaa.Tab
open Go.RowKit Go.Proofs.Ytfkgpkkjiolfpaa.Opn Go.Proofs.YtfkgpkkjiolfpaaW.PrintWords
set_option linter.unusedVariables false
theorem op_T50 : OpK k50 50 := by
  refine ⟨by kernel_rfl, fun {H enc w base spare held fuel cs x} h => ?_⟩
  obtain ⟨xs, n, -, -, hlen, hxs, hf⟩ := DataW.trod_struct Try.underlying50 h
  obtain ⟨a0, h0⟩ := seg_of hf hxs 0 _ rfl 0 rfl 3 rfl (op_int (t := 3) (by kernel_rfl) (by kernel_rfl))
  obtain ⟨a1, h1⟩ := seg_of hf hxs 1 _ rfl 1 rfl 3 rfl (op_int (t := 3) (by kernel_rfl) (by kernel_rfl))
  obtain ⟨a2, h2⟩ := seg_of hf hxs 2 _ rfl 2 rfl 3 rfl (op_int (t := 3) (by kernel_rfl) (by kernel_rfl))
  have hl : cs.length = 3 := hlen.trans (by kernel_rfl)
  have hcs : (cs.drop 0).take 3 = cs := by rw [List.drop_zero]; exact List.take_of_length_le (by omega)
  have hk := (seg_pair (o := 0) (x := (a0, (a1, a2))) h0 (seg_pair (o := 1) (x := (a1, a2)) h1 h2))
  refine ⟨⟨a0, a1, a2⟩, ?_⟩
  rw [← hcs]
  exact hk
theorem opRow : OpK kRow 48 := op_slice (t := 48) (e := 50) Try.underlying48 (by kernel_rfl) op_T50
end Go.Proofs.Ytfkgpkkjiolfpaa.Tab
