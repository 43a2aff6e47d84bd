/- A row's style, by value: its cells are whole numbers. -/
import Derived.Test.YtfkgpkkjiolfpaaOpen
import Derived.Test.YtfkgpkkjiolfpaaStyle
import Derived.OpenShut
import Derived.ChangeArms
namespace Go.Proofs.Ytfkgpkkjiolfpaa.Opn
open Go.RowKit Go.Proofs.Ytfkgpkkjiolfpaa.Sty Go.Proofs.YtfkgpkkjiolfpaaW.PrintWords Go.WideShapes
set_option linter.unusedVariables false
set_option linter.unusedSimpArgs false
theorem okWide_row {P : Program} {w : World} {r : Reach} {base : Nat} {t : TypeId} {v : Value} {n : Nat} {e : TypeId} (ht : P.underlying t = some (.array n e)) (h : Value.okWide P w r base t v) : ∃ cs, v = .agg cs := by
  simp only [Value.okWide, ht] at h
  obtain ⟨cs, h1, _⟩ := h
  exact ⟨cs, h1⟩
theorem okWide_rec {P : Program} {w : World} {r : Reach} {base : Nat} {t : TypeId} {v : Value} {fs : Array Field} (ht : P.underlying t = some (.struct fs)) (h : Value.okWide P w r base t v) : ∃ cs, v = .agg cs := by
  simp only [Value.okWide, ht] at h
  obtain ⟨cs, h1, _⟩ := h
  exact ⟨cs, h1⟩
set_option maxRecDepth 100000 in
theorem val_of {H : Type} {enc : TypeId × Value → H} {w : World} {base : Nat} {spare : Nat → Bool} {held : Bool} {fuel : Nat} {cs : List Value} {x : DataW H × List MemPlace}
    (h : DataW.trod enc Try.prog w base spare held fuel 25 cs = some x) : ∃ a b : Int, cs = [.int .i64 a, .int .i64 b] := by
  obtain ⟨xs, n, -, -, hlen, hxs, hf⟩ := DataW.trod_struct Try.underlying25 h
  obtain ⟨a, h0⟩ := seg_of hf hxs 0 _ rfl 0 rfl 3 rfl (op_int (t := 3) (by kernel_rfl) (by kernel_rfl))
  obtain ⟨b, h1⟩ := seg_of hf hxs 1 _ rfl 1 rfl 3 rfl (op_int (t := 3) (by kernel_rfl) (by kernel_rfl))
  have hl : cs.length = 2 := hlen.trans (by kernel_rfl)
  have h0 : (cs.drop 0).take 1 = [.int .i64 a] := h0
  have h1 : (cs.drop 1).take 1 = [.int .i64 b] := h1
  refine ⟨a, b, ?_⟩
  match cs, hl with
  | [u, v], _ =>
    simp at h0 h1
    rw [h0, h1]
set_option maxRecDepth 100000 in
theorem style_of {H : Type} {enc : TypeId × Value → H} {w : World} {base : Nat} {spare : Nat → Bool} {held : Bool} {fuel : Nat} {cs : List Value} {x : DataW H × List MemPlace}
    (h : DataW.trod enc Try.prog w base spare held fuel 27 cs = some x) : ∃ zs : List Int, zs.length = 118 ∧ cs = sv zs := by
  obtain ⟨xs, m, -, -, hlen, hxs, hf⟩ := DataW.trod_array Try.underlying27 h
  have hl : cs.length = 118 := hlen.trans (by kernel_rfl)
  have hc : Try.prog.cellsOf 25 = 2 := by kernel_rfl
  have key : ∀ k, k < 118 → ∃ a : Int, cs[k]? = some (.int .i64 a) := by
    intro k hk
    have h1 := hf (k / 2) (by omega)
    rw [hc, List.getElem?_eq_getElem (by omega)] at h1
    obtain ⟨a, b, he⟩ := val_of h1
    rcases Nat.mod_two_eq_zero_or_one k with h2 | h2
    · refine ⟨a, ?_⟩
      have e : ((cs.drop (k / 2 * 2)).take 2)[0]? = some (.int .i64 a) := by rw [he]; rfl
      rw [List.getElem?_take_of_lt (by omega), List.getElem?_drop, show k / 2 * 2 + 0 = k by omega] at e
      exact e
    · refine ⟨b, ?_⟩
      have e : ((cs.drop (k / 2 * 2)).take 2)[1]? = some (.int .i64 b) := by rw [he]; rfl
      rw [List.getElem?_take_of_lt (by omega), List.getElem?_drop, show k / 2 * 2 + 1 = k by omega] at e
      exact e
  obtain ⟨zs, hz, hp⟩ := list_of (n := 118) (p := fun k (a : Int) => cs[k]? = some (.int .i64 a)) key
  refine ⟨zs, hz, ?_⟩
  apply List.ext_getElem?
  intro k
  rcases Nat.lt_or_ge k 118 with hk | hk
  · have hzk : zs[k]? = some zs[k] := List.getElem?_eq_getElem (by omega)
    rw [hp k _ hzk]
    simp [sv, hz, hk]
  · rw [List.getElem?_eq_none (by omega), List.getElem?_eq_none (by rw [sv_len]; omega)]
end Go.Proofs.Ytfkgpkkjiolfpaa.Opn
