/- Rectangles that come in. -/
import Derived.Test.YtomejeclfbpilaaOpen
import Derived.Test.YtomejeclfbpilaaFloats
namespace Go.Proofs.Ytomejeclfbpilaa.Fl
open Go.RowKit Go.Proofs.Ytomejeclfbpilaa.Opn Go.Proofs.YtomejeclfbpilaaW.PrintWords
theorem op_T39 : OpK k39 39 := by
  refine ⟨by kernel_rfl, fun {H enc w base spare held fuel cs x} h => ?_⟩
  obtain ⟨xs, n, -, -, hlen, hxs, hf⟩ := DataW.trod_struct Try.underlying39 h
  obtain ⟨a0, h0⟩ := seg_of hf hxs 0 _ rfl 0 rfl 3 rfl (op_int (t := 3) (by kernel_rfl) (by kernel_rfl))
  obtain ⟨a1, h1⟩ := seg_of hf hxs 1 _ rfl 1 rfl 3 rfl (op_int (t := 3) (by kernel_rfl) (by kernel_rfl))
  obtain ⟨a2, h2⟩ := seg_of hf hxs 2 _ rfl 2 rfl 3 rfl (op_int (t := 3) (by kernel_rfl) (by kernel_rfl))
  obtain ⟨a3, h3⟩ := seg_of hf hxs 3 _ rfl 3 rfl 3 rfl (op_int (t := 3) (by kernel_rfl) (by kernel_rfl))
  have hl : cs.length = 4 := hlen.trans (by kernel_rfl)
  have hcs : (cs.drop 0).take 4 = cs := by rw [List.drop_zero]; exact List.take_of_length_le (by omega)
  have hk := (seg_pair (o := 0) (x := (a0, (a1, (a2, a3)))) h0 (seg_pair (o := 1) (x := (a1, (a2, a3))) h1 (seg_pair (o := 2) (x := (a2, a3)) h2 h3)))
  refine ⟨⟨a0, a1, a2, a3⟩, ?_⟩
  rw [← hcs]
  exact hk
end Go.Proofs.Ytomejeclfbpilaa.Fl
