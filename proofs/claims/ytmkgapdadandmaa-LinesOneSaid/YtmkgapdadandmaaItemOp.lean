/- Items of lines: a law's argument, opened. -/
import Derived.Test.YtmkgapdadandmaaTame
import Derived.Test.YtmkgapdadandmaaOpen
namespace Go.Proofs.Ytmkgapdadandmaa.Lin
open Go.RowKit Go.Lib Go.Proofs.Ytmkgapdadandmaa.Pl Go.Proofs.Ytmkgapdadandmaa.Opn Go.Proofs.YtmkgapdadandmaaW.PrintWords Go.Proofs.YtmkgapdadandmaaW.PrintMore
set_option linter.unusedVariables false
theorem op_T27 : OpK k27 27 := by
  refine ⟨by kernel_rfl, fun {H enc w base spare held fuel cs x} h => ?_⟩
  obtain ⟨xs, n, -, -, hlen, hxs, hf⟩ := DataW.trod_struct Try.underlying27 h
  obtain ⟨a0, h0⟩ := seg_of hf hxs 0 _ rfl 0 rfl 3 rfl (op_int (t := 3) (by kernel_rfl) (by kernel_rfl))
  obtain ⟨a1, h1⟩ := seg_of hf hxs 1 _ rfl 1 rfl 3 rfl (op_int (t := 3) (by kernel_rfl) (by kernel_rfl))
  obtain ⟨a2, h2⟩ := seg_of hf hxs 2 _ rfl 2 rfl 9 rfl (op_string (t := 9) (by kernel_rfl) (by kernel_rfl))
  obtain ⟨a3, h3⟩ := seg_of hf hxs 3 _ rfl 3 rfl 3 rfl (op_int (t := 3) (by kernel_rfl) (by kernel_rfl))
  obtain ⟨a4, h4⟩ := seg_of hf hxs 4 _ rfl 4 rfl 3 rfl (op_int (t := 3) (by kernel_rfl) (by kernel_rfl))
  obtain ⟨a5, h5⟩ := seg_of hf hxs 5 _ rfl 5 rfl 3 rfl (op_int (t := 3) (by kernel_rfl) (by kernel_rfl))
  obtain ⟨a6, h6⟩ := seg_of hf hxs 6 _ rfl 6 rfl 3 rfl (op_int (t := 3) (by kernel_rfl) (by kernel_rfl))
  obtain ⟨a7, h7⟩ := seg_of hf hxs 7 _ rfl 7 rfl 3 rfl (op_int (t := 3) (by kernel_rfl) (by kernel_rfl))
  obtain ⟨a8, h8⟩ := seg_of hf hxs 8 _ rfl 8 rfl 3 rfl (op_int (t := 3) (by kernel_rfl) (by kernel_rfl))
  obtain ⟨a9, h9⟩ := seg_of hf hxs 9 _ rfl 9 rfl 3 rfl (op_int (t := 3) (by kernel_rfl) (by kernel_rfl))
  obtain ⟨a10, h10⟩ := seg_of hf hxs 10 _ rfl 10 rfl 3 rfl (op_int (t := 3) (by kernel_rfl) (by kernel_rfl))
  have hl : cs.length = 11 := hlen.trans (by kernel_rfl)
  have hcs : (cs.drop 0).take 11 = cs := by rw [List.drop_zero]; exact List.take_of_length_le (by omega)
  have hk := (seg_pair (o := 0) (x := (a0, (a1, (a2, (a3, (a4, (a5, (a6, (a7, (a8, (a9, a10))))))))))) h0 (seg_pair (o := 1) (x := (a1, (a2, (a3, (a4, (a5, (a6, (a7, (a8, (a9, a10)))))))))) h1 (seg_pair (o := 2) (x := (a2, (a3, (a4, (a5, (a6, (a7, (a8, (a9, a10))))))))) h2 (seg_pair (o := 3) (x := (a3, (a4, (a5, (a6, (a7, (a8, (a9, a10)))))))) h3 (seg_pair (o := 4) (x := (a4, (a5, (a6, (a7, (a8, (a9, a10))))))) h4 (seg_pair (o := 5) (x := (a5, (a6, (a7, (a8, (a9, a10)))))) h5 (seg_pair (o := 6) (x := (a6, (a7, (a8, (a9, a10))))) h6 (seg_pair (o := 7) (x := (a7, (a8, (a9, a10)))) h7 (seg_pair (o := 8) (x := (a8, (a9, a10))) h8 (seg_pair (o := 9) (x := (a9, a10)) h9 h10))))))))))
  refine ⟨⟨a0, a1, a2, a3, a4, a5, a6, a7, a8, a9, a10⟩, ?_⟩
  rw [← hcs]
  exact hk
end Go.Proofs.Ytmkgapdadandmaa.Lin
