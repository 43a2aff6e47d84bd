/- From a row's reading of an argument to what its cells say, kind by kind. -/
import Derived.Test.YtmkgapdadandmaaRows
import Derived.Test.YtmkgapdadandmaaWWords
import Derived.ProofKit
import Derived.Deep.Slices
namespace Go.Proofs.Ytmkgapdadandmaa.Opn
open Go.RowKit Go.Proofs.YtmkgapdadandmaaW.PrintWords
set_option linter.unusedVariables false
set_option linter.unusedSimpArgs false

/-- Whatever of type t can be read as data is of the kind d. -/
def OpK {α : Type} (d : Kd α) (t : TypeId) : Prop :=
  Try.prog.cellsOf t = d.sz ∧ ∀ {H : Type} {enc : TypeId × Value → H} {w : World} {base : Nat} {spare : Nat → Bool} {held : Bool} {fuel : Nat} {cs : List Value} {x : DataW H × List MemPlace},
    DataW.trod enc Try.prog w base spare held fuel t cs = some x → ∃ a, d.K w a cs
theorem op_int {k : IntKind} {t : TypeId} (hu : Try.prog.underlying t = some (.int k)) (hc : Try.prog.cellsOf t = 1) : OpK (Kd.int k) t :=
  ⟨hc, fun h => by obtain ⟨n, rfl, _⟩ := DataW.trod_int hu h; exact ⟨n, rfl⟩⟩
theorem op_bool {t : TypeId} (hu : Try.prog.underlying t = some .bool) (hc : Try.prog.cellsOf t = 1) : OpK Kd.bool t :=
  ⟨hc, fun h => by obtain ⟨n, rfl, _⟩ := DataW.trod_bool hu h; exact ⟨n, rfl⟩⟩
theorem op_string {t : TypeId} (hu : Try.prog.underlying t = some .string) (hc : Try.prog.cellsOf t = 1) : OpK Kd.string t :=
  ⟨hc, fun h => by obtain ⟨n, rfl, _⟩ := DataW.trod_string hu h; exact ⟨n, rfl⟩⟩
theorem add_add (ad : Addr) (i j : Nat) : (ad.add i).add j = ad.add (i + j) := by
  unfold Addr.add
  by_cases h1 : i = 0 <;> by_cases h2 : j = 0 <;> simp [h1, h2, Nat.add_assoc]
theorem list_of {α : Type} {n : Nat} {p : Nat → α → Prop} (h : ∀ i, i < n → ∃ a, p i a) : ∃ l : List α, l.length = n ∧ ∀ i a, l[i]? = some a → p i a := by
  induction n with
  | zero => exact ⟨[], rfl, fun i a h => by simp at h⟩
  | succ n ih =>
    obtain ⟨l, hl, hp⟩ := ih (fun i hi => h i (by omega))
    obtain ⟨a, ha⟩ := h n (by omega)
    refine ⟨l ++ [a], by simp [hl], fun i b hb => ?_⟩
    rcases Nat.lt_or_ge i l.length with hi | hi
    · rw [List.getElem?_append_left hi] at hb
      exact hp i b hb
    · have hi2 : i = n := by
        have := (List.getElem?_eq_some_iff.1 hb).1
        simp at this; omega
      subst hi2
      rw [List.getElem?_append_right hi] at hb
      simp [hl] at hb
      exact hb ▸ ha
/-- A slice whose elements are of a kind. -/
theorem slice_of {α : Type} {d : Kd α} {t e : TypeId} (hu : Try.prog.underlying t = some (.slice e)) (he : OpK d e) {H : Type} {enc : TypeId × Value → H} {w : World} {base : Nat} {spare : Nat → Bool} {held : Bool} {fuel : Nat} {cs : List Value} {x : DataW H × List MemPlace}
    (h : DataW.trod enc Try.prog w base spare held fuel t cs = some x) : ∃ (A : Option Addr) (c : Nat) (xs : List α), cs = [.slice A xs.length c] ∧ xs.length ≤ c ∧ d.C w A xs.length xs := by
  rcases Go.Deep.open_slice hu h with ⟨rfl, _⟩ | ⟨a, len, cap, m, n, D, Pl, rfl, hb, hl, hm, hmm, rfl, hx⟩
  · exact ⟨none, 0, [], rfl, Nat.le_refl _, rfl, by simp, fun h => by simp at h⟩
  · have hlm : len ≤ m := by rw [hmm]; split <;> omega
    obtain ⟨xs, hxl, hp⟩ := list_of (n := len) (p := fun i (y : α) => ∃ c, c.length = d.sz ∧ d.K w y c ∧ ∀ j u, c[j]? = some u → w.cell? (a.add (i * d.sz + j)) = some u) (fun i hi => by
      obtain ⟨cs', h1, h2⟩ := hx i (by omega)
      obtain ⟨y, hy⟩ := he.2 h2
      rw [he.1] at h1
      obtain ⟨_, hlen, hcell⟩ := World.cells?_some h1
      refine ⟨y, cs', hlen, hy, fun j u hj => ?_⟩
      have hjl : j < d.sz := by have := (List.getElem?_eq_some_iff.1 hj).1; omega
      rw [← add_add, hcell j hjl, hj])
    subst hxl
    exact ⟨some a, cap, xs, rfl, hl, rfl, by simp only [maxLen] at hm; omega, fun _ => ⟨a, rfl, hp⟩⟩
theorem op_slice {α : Type} {d : Kd α} {t e : TypeId} (hu : Try.prog.underlying t = some (.slice e)) (hc : Try.prog.cellsOf t = 1) (he : OpK d e) : OpK (Kd.slice e d) t :=
  ⟨hc, fun h => by obtain ⟨A, c, xs, rfl, h1, h2⟩ := slice_of hu he h; exact ⟨xs, A, c, rfl, h1, h2⟩⟩
theorem seg_of {α : Type} {d : Kd α} {H : Type} {enc : TypeId × Value → H} {w : World} {base : Nat} {spare : Nat → Bool} {held : Bool} {n : Nat} {cs : List Value} {fs : Array Field} {xs : List (DataW H × List MemPlace)}
    (hf : ∀ (i : Nat) (f : Field), fs[i]? = some f → DataW.trod enc Try.prog w base spare held n f.type ((cs.drop f.offset).take (Try.prog.cellsOf f.type)) = xs[i]?) (hxs : xs.length = fs.size)
    (i : Nat) (f : Field) (hi : fs[i]? = some f) (o : Nat) (ho : f.offset = o) (t : TypeId) (ht : f.type = t) (hd : OpK d t) : ∃ a, d.K w a ((cs.drop o).take d.sz) := by
  subst ho ht
  have h := hf i f hi
  have hlt : i < xs.length := by rw [hxs]; exact (Array.getElem?_eq_some_iff.1 hi).1
  rw [List.getElem?_eq_getElem hlt, hd.1] at h
  exact hd.2 h
theorem seg_pair {α β : Type} {a : Kd α} {b : Kd β} {w : World} {cs : List Value} {o : Nat} {x : α × β} (h1 : a.K w x.1 ((cs.drop o).take a.sz)) (h2 : b.K w x.2 ((cs.drop (o + a.sz)).take b.sz)) : (Kd.pair a b).K w x ((cs.drop o).take (a.sz + b.sz)) := by
  refine ⟨_, _, ?_, h1, h2⟩
  rw [List.take_add, List.drop_drop]
end Go.Proofs.Ytmkgapdadandmaa.Opn
