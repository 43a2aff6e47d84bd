/- From a row's reading of an argument to its commands. -/
import Derived.Test.YtfkgpkkjiolfpaaRasPlain
import Derived.Test.YtfkgpkkjiolfpaaOpen
namespace Go.Proofs.Ytfkgpkkjiolfpaa.Opn
open Go.RowKit
theorem okWide_rec {P : Program} {w : World} {r : Reach} {base : Nat} {t : TypeId} {v : Value} {fs : Array Field} (ht : P.underlying t = some (.struct fs)) (h : Value.okWide P w r base t v) : ∃ cs, v = .agg cs := by
  simp only [Value.okWide, ht] at h
  obtain ⟨cs, h1, _⟩ := h
  exact ⟨cs, h1⟩
end Go.Proofs.Ytfkgpkkjiolfpaa.Opn
namespace Go.Proofs.Ytfkgpkkjiolfpaa.Ras
open Go.RowKit Go.Proofs.Ytfkgpkkjiolfpaa.Opn Go.Proofs.YtfkgpkkjiolfpaaW.PrintWords
set_option linter.unusedVariables false
theorem op_T65 : OpK k65 65 := by
  refine ⟨by kernel_rfl, fun {H enc w base spare held fuel cs x} h => ?_⟩
  obtain ⟨xs, n, -, -, hlen, hxs, hf⟩ := DataW.trod_struct Try.underlying65 h
  obtain ⟨a0, h0⟩ := seg_of hf hxs 0 _ rfl 0 rfl 3 rfl (op_int (t := 3) (by kernel_rfl) (by kernel_rfl))
  obtain ⟨a1, h1⟩ := seg_of hf hxs 1 _ rfl 1 rfl 3 rfl (op_int (t := 3) (by kernel_rfl) (by kernel_rfl))
  obtain ⟨a2, h2⟩ := seg_of hf hxs 2 _ rfl 2 rfl 3 rfl (op_int (t := 3) (by kernel_rfl) (by kernel_rfl))
  obtain ⟨a3, h3⟩ := seg_of hf hxs 3 _ rfl 3 rfl 3 rfl (op_int (t := 3) (by kernel_rfl) (by kernel_rfl))
  obtain ⟨a4, h4⟩ := seg_of hf hxs 4 _ rfl 4 rfl 3 rfl (op_int (t := 3) (by kernel_rfl) (by kernel_rfl))
  obtain ⟨a5, h5⟩ := seg_of hf hxs 5 _ rfl 5 rfl 3 rfl (op_int (t := 3) (by kernel_rfl) (by kernel_rfl))
  obtain ⟨a6, h6⟩ := seg_of hf hxs 6 _ rfl 6 rfl 3 rfl (op_int (t := 3) (by kernel_rfl) (by kernel_rfl))
  obtain ⟨a7, h7⟩ := seg_of hf hxs 7 _ rfl 7 rfl 3 rfl (op_int (t := 3) (by kernel_rfl) (by kernel_rfl))
  obtain ⟨a8, h8⟩ := seg_of hf hxs 8 _ rfl 8 rfl 9 rfl (op_string (t := 9) (by kernel_rfl) (by kernel_rfl))
  have hl : cs.length = 9 := hlen.trans (by kernel_rfl)
  have hcs : (cs.drop 0).take 9 = cs := by rw [List.drop_zero]; exact List.take_of_length_le (by omega)
  have hk := (seg_pair (o := 0) (x := (a0, (a1, (a2, (a3, (a4, (a5, (a6, (a7, a8))))))))) h0 (seg_pair (o := 1) (x := (a1, (a2, (a3, (a4, (a5, (a6, (a7, a8)))))))) h1 (seg_pair (o := 2) (x := (a2, (a3, (a4, (a5, (a6, (a7, a8))))))) h2 (seg_pair (o := 3) (x := (a3, (a4, (a5, (a6, (a7, a8)))))) h3 (seg_pair (o := 4) (x := (a4, (a5, (a6, (a7, a8))))) h4 (seg_pair (o := 5) (x := (a5, (a6, (a7, a8)))) h5 (seg_pair (o := 6) (x := (a6, (a7, a8))) h6 (seg_pair (o := 7) (x := (a7, a8)) h7 h8))))))))
  refine ⟨⟨a0, a1, a2, a3, a4, a5, a6, a7, a8⟩, ?_⟩
  rw [← hcs]
  exact hk
theorem op_T59 : OpK k59 59 := by
  refine ⟨by kernel_rfl, fun {H enc w base spare held fuel cs x} h => ?_⟩
  obtain ⟨xs, n, -, -, hlen, hxs, hf⟩ := DataW.trod_struct Try.underlying59 h
  obtain ⟨a0, h0⟩ := seg_of hf hxs 0 _ rfl 0 rfl 3 rfl (op_int (t := 3) (by kernel_rfl) (by kernel_rfl))
  obtain ⟨a1, h1⟩ := seg_of hf hxs 1 _ rfl 1 rfl 3 rfl (op_int (t := 3) (by kernel_rfl) (by kernel_rfl))
  obtain ⟨a2, h2⟩ := seg_of hf hxs 2 _ rfl 2 rfl 3 rfl (op_int (t := 3) (by kernel_rfl) (by kernel_rfl))
  obtain ⟨a3, h3⟩ := seg_of hf hxs 3 _ rfl 3 rfl 3 rfl (op_int (t := 3) (by kernel_rfl) (by kernel_rfl))
  have hl : cs.length = 4 := hlen.trans (by kernel_rfl)
  have hcs : (cs.drop 0).take 4 = cs := by rw [List.drop_zero]; exact List.take_of_length_le (by omega)
  have hk := (seg_pair (o := 0) (x := (a0, (a1, (a2, a3)))) h0 (seg_pair (o := 1) (x := (a1, (a2, a3))) h1 (seg_pair (o := 2) (x := (a2, a3)) h2 h3)))
  refine ⟨⟨a0, a1, a2, a3⟩, ?_⟩
  rw [← hcs]
  exact hk
end Go.Proofs.Ytfkgpkkjiolfpaa.Ras
