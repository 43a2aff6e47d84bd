/- Flexible rows: the items of a law's argument, opened. -/
import Derived.Test.YtfkgpkkjiolfpaaFlex11
import Derived.Test.YtfkgpkkjiolfpaaOpen
namespace Go.Proofs.Ytfkgpkkjiolfpaa.Flx
open Go.RowKit Go.Lib Go.Proofs.Ytfkgpkkjiolfpaa.Pl Go.Proofs.Ytfkgpkkjiolfpaa.Opn Go.Proofs.YtfkgpkkjiolfpaaW.PrintWords Go.Proofs.YtfkgpkkjiolfpaaW.PrintMore
set_option linter.unusedVariables false
theorem op_T37 : OpK k37 37 := by
  refine ⟨by kernel_rfl, fun {H enc w base spare held fuel cs x} h => ?_⟩
  obtain ⟨xs, n, -, -, hlen, hxs, hf⟩ := DataW.trod_struct Try.underlying37 h
  obtain ⟨a0, h0⟩ := seg_of hf hxs 0 _ rfl 0 rfl 3 rfl (op_int (t := 3) (by kernel_rfl) (by kernel_rfl))
  obtain ⟨a1, h1⟩ := seg_of hf hxs 1 _ rfl 1 rfl 3 rfl (op_int (t := 3) (by kernel_rfl) (by kernel_rfl))
  obtain ⟨a2, h2⟩ := seg_of hf hxs 2 _ rfl 2 rfl 3 rfl (op_int (t := 3) (by kernel_rfl) (by kernel_rfl))
  obtain ⟨a3, h3⟩ := seg_of hf hxs 3 _ rfl 3 rfl 3 rfl (op_int (t := 3) (by kernel_rfl) (by kernel_rfl))
  obtain ⟨a4, h4⟩ := seg_of hf hxs 4 _ rfl 4 rfl 3 rfl (op_int (t := 3) (by kernel_rfl) (by kernel_rfl))
  obtain ⟨a5, h5⟩ := seg_of hf hxs 5 _ rfl 5 rfl 3 rfl (op_int (t := 3) (by kernel_rfl) (by kernel_rfl))
  have hl : cs.length = 6 := hlen.trans (by kernel_rfl)
  have hcs : (cs.drop 0).take 6 = cs := by rw [List.drop_zero]; exact List.take_of_length_le (by omega)
  have hk := (seg_pair (o := 0) (x := (a0, (a1, (a2, (a3, (a4, a5)))))) h0 (seg_pair (o := 1) (x := (a1, (a2, (a3, (a4, a5))))) h1 (seg_pair (o := 2) (x := (a2, (a3, (a4, a5)))) h2 (seg_pair (o := 3) (x := (a3, (a4, a5))) h3 (seg_pair (o := 4) (x := (a4, a5)) h4 h5)))))
  refine ⟨⟨a0, a1, a2, a3, a4, a5⟩, ?_⟩
  rw [← hcs]
  exact hk
end Go.Proofs.Ytfkgpkkjiolfpaa.Flx
