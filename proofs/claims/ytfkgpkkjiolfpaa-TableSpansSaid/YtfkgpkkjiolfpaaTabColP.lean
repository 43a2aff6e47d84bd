/- Package table: what columns are told to be, plain. -/
import Derived.Test.YtfkgpkkjiolfpaaTabWiden
namespace Go.Proofs.Ytfkgpkkjiolfpaa.Tab
open Go.RowKit Go.Lib Go.Proofs.Ytfkgpkkjiolfpaa.Pl Go.Proofs.Ytfkgpkkjiolfpaa.Fx Go.Proofs.Ytfkgpkkjiolfpaa.Sh Go.Proofs.Ytfkgpkkjiolfpaa.Sm Go.Proofs.YtfkgpkkjiolfpaaW.PrintWords Go.Proofs.YtfkgpkkjiolfpaaW.PrintMore
set_option linter.unusedVariables false
set_option linter.unusedSimpArgs false

theorem sum_mono : ∀ (a b : List Int), a.length = b.length → (∀ i, a.getD i 0 ≤ b.getD i 0) → a.sum ≤ b.sum
  | [], [], _, _ => Int.le_refl _
  | [], _ :: _, h, _ => by simp at h
  | _ :: _, [], h, _ => by simp at h
  | x :: a, y :: b, h, k => by
    have h0 := k 0
    have h1 := sum_mono a b (by simpa using h) (fun i => by have := k (i + 1); simpa using this)
    simp at h0
    simp only [List.sum_cons]
    omega
theorem seg_mono (xs ys : List Int) (a k : Nat) (hl : xs.length = ys.length) (h : ∀ i, xs.getD i 0 ≤ ys.getD i 0) (hak : a + k ≤ xs.length) : (seg xs a k).sum ≤ (seg ys a k).sum := by
  refine sum_mono _ _ (by rw [seg_len _ _ _ hak, seg_len _ _ _ (by omega)]) (fun i => ?_)
  by_cases hi : i < k
  · rw [seg_get _ _ _ _ hi, seg_get _ _ _ _ hi]; exact h _
  · have e : ∀ zs : List Int, (seg zs a k).getD i 0 = 0 := fun zs => by
      unfold seg
      rw [List.getD_eq_getElem?_getD, List.getElem?_take, if_neg hi]
      rfl
    rw [e, e]
    exact Int.le_refl _
/-- A cell that fits among n columns. -/
def CellOK (n : Nat) (c : Ce) : Prop := 0 ≤ c.f2 ∧ 1 ≤ c.f3 ∧ c.f3 ≤ 50 ∧ c.f2 + c.f3 ≤ (n : Int) ∧ 0 ≤ c.f0 ∧ c.f0 ≤ 16777216 ∧ 0 ≤ c.f1 ∧ c.f1 ≤ 16777216
def CellHas (c : Ce) (ls ms : List Int) : Prop := c.f0 ≤ (seg ls c.f2.toNat c.f3.toNat).sum ∧ c.f1 ≤ (seg ms c.f2.toNat c.f3.toNat).sum
/-- The first k cells have what they need. -/
def DoneTo (ys : List Ce) (n k : Nat) (ls ms : List Int) : Prop := ls.length = n ∧ ms.length = n ∧ Good ls ∧ Good ms ∧ ∀ i, i < k → CellHas (ys.getD i z108) ls ms
theorem good_zero (n : Nat) : Good (List.replicate n 0) := fun i => by
  by_cases h : i < n
  · simp [List.getD_eq_getElem?_getD, h]
  · simp [List.getD_eq_getElem?_getD, h]
theorem done_zero (ys : List Ce) (n : Nat) : DoneTo ys n 0 (List.replicate n 0) (List.replicate n 0) := ⟨by simp, by simp, good_zero n, good_zero n, fun i hi => by omega⟩
theorem has_mono {c : Ce} {n : Nat} {ls ms ls' ms' : List Int} (hc : CellOK n c) (h : CellHas c ls ms) (h1 : ls.length = n) (h2 : ms.length = n) (h3 : ls'.length = n) (h4 : ms'.length = n) (h5 : ∀ i, ls.getD i 0 ≤ ls'.getD i 0) (h6 : ∀ i, ms.getD i 0 ≤ ms'.getD i 0) : CellHas c ls' ms' := by
  obtain ⟨a1, a2, a3, a4, -⟩ := hc
  obtain ⟨b1, b2⟩ := h
  have m1 := seg_mono ls ls' c.f2.toNat c.f3.toNat (by omega) h5 (by omega)
  have m2 := seg_mono ms ms' c.f2.toNat c.f3.toNat (by omega) h6 (by omega)
  exact ⟨by omega, by omega⟩
theorem done_step {ys : List Ce} {n k : Nat} {ls ms ls' ms' : List Int} (h : DoneTo ys n k ls ms) (hok : ∀ i, i < ys.length → CellOK n (ys.getD i z108)) (hk : k < ys.length) (h3 : ls'.length = n) (h4 : ms'.length = n) (h5 : ∀ i, ls.getD i 0 ≤ ls'.getD i 0) (h6 : ∀ i, ms.getD i 0 ≤ ms'.getD i 0) (h7 : Good ls') (h8 : Good ms') (h9 : CellHas (ys.getD k z108) ls' ms') :
    DoneTo ys n (k + 1) ls' ms' := by
  obtain ⟨a1, a2, a3, a4, a5⟩ := h
  refine ⟨h3, h4, h7, h8, fun i hi => ?_⟩
  by_cases e : i = k
  · subst e; exact h9
  · exact has_mono (hok i (by omega)) (a5 i (by omega)) a1 a2 h3 h4 h5 h6
theorem set_get (xs : List Int) (a i : Nat) (v : Int) (ha : a < xs.length) : (xs.set a v).getD i 0 = if i = a then v else xs.getD i 0 := by
  by_cases e : i = a
  · subst e
    rw [if_pos rfl, List.getD_eq_getElem?_getD, List.getElem?_set_self ha]
    rfl
  · rw [if_neg e, List.getD_eq_getElem?_getD, List.getElem?_set_ne (by omega), List.getD_eq_getElem?_getD]
/-- One column is made at least so much. -/
theorem one_up (xs : List Int) (a : Nat) (v : Int) (ha : a < xs.length) (hx : Good xs) (hv : v ≤ 16777216) :
    (xs.set a (max (xs.getD a 0) v)).length = xs.length ∧ (∀ i, xs.getD i 0 ≤ (xs.set a (max (xs.getD a 0) v)).getD i 0) ∧ Good (xs.set a (max (xs.getD a 0) v)) ∧ v ≤ (seg (xs.set a (max (xs.getD a 0) v)) a 1).sum := by
  refine ⟨by simp, fun i => ?_, fun i => ?_, ?_⟩
  · rw [set_get _ _ _ _ ha]
    split
    · next e => subst e; omega
    · omega
  · rw [set_get _ _ _ _ ha]
    split
    · next e => have := hx a; omega
    · exact hx i
  · have hl := seg_len (xs.set a (max (xs.getD a 0) v)) a 1 (by simp; omega)
    have hg := seg_get (xs.set a (max (xs.getD a 0) v)) a 1 0 (by omega)
    rw [set_get _ _ _ _ ha, if_pos (by omega)] at hg
    generalize seg (xs.set a (max (xs.getD a 0) v)) a 1 = s at *
    match s, hl with
    | [x], _ =>
      simp at hg
      simp
      omega
/-- What columns are told to be. -/
def ColsFacts (cs : List Ce) (n : Nat) (ls ms : List Int) : Prop := ls.length = n ∧ ms.length = n ∧ Good ls ∧ Good ms ∧ (∀ i, i < n → ls.getD i 0 ≤ ms.getD i 0) ∧ ∀ c, c ∈ cs → CellHas c ls ms
theorem cols_end {cs ys : List Ce} {n : Nat} {ls ms : List Int} (hp : ys.Perm cs) (hok : ∀ c, c ∈ cs → CellOK n c) (h : DoneTo ys n ys.length ls ms) : ColsFacts cs n ls (zipK max ms ls n) := by
  obtain ⟨a1, a2, a3, a4, a5⟩ := h
  have hz : (zipK max ms ls n).length = n := by rw [zip_len]; exact a2
  have hg : ∀ i, i < n → (zipK max ms ls n).getD i 0 = max (ms.getD i 0) (ls.getD i 0) := fun i hi => by rw [zip_get _ _ _ _ _ (by omega), if_pos hi]
  have ho : ∀ i, ¬ i < n → ∀ zs : List Int, zs.length = n → zs.getD i 0 = 0 := fun i hi zs hl => by simp [List.getD_eq_getElem?_getD, List.getElem?_eq_none (show zs.length ≤ i by omega)]
  have hle : ∀ i, ms.getD i 0 ≤ (zipK max ms ls n).getD i 0 := fun i => by
    by_cases hi : i < n
    · rw [hg i hi]; omega
    · rw [ho i hi _ hz, ho i hi _ a2]; exact Int.le_refl _
  refine ⟨a1, hz, a3, fun i => ?_, fun i hi => by rw [hg i hi]; omega, fun c hc => ?_⟩
  · by_cases hi : i < n
    · rw [hg i hi]
      have := a3 i
      have := a4 i
      omega
    · rw [ho i hi _ hz]; omega
  · obtain ⟨i, hi, rfl⟩ := List.getElem_of_mem (hp.mem_iff.2 hc)
    have h5 := a5 i hi
    rw [List.getD_eq_getElem?_getD, List.getElem?_eq_getElem hi] at h5
    exact has_mono (hok _ hc) h5 a1 a2 a1 hz (fun _ => Int.le_refl _) hle
/-- A row of cells that is read, wherever it lies. -/
def RowAt (w : World) (A : Option Addr) (N : Nat) (ys : List Ce) (g : Nat) : Prop := Kd.C k108 w A N ys ∧ (0 < N → A = some ⟨g, 0, none⟩)
theorem rowAt_keep {w w' : World} {A : Option Addr} {N g : Nat} {ys : List Ce} (h : RowAt w A N ys g) (hb : w'.heap[g]? = w.heap[g]?) : RowAt w' A N ys g := by
  obtain ⟨⟨h1, h2, h3⟩, h4⟩ := h
  refine ⟨⟨h1, h2, fun hn => ?_⟩, h4⟩
  obtain ⟨ad, e, hc⟩ := h3 hn
  rw [h4 hn] at e
  injection e with e
  subst e
  refine ⟨_, h4 hn, fun j p hj => ?_⟩
  obtain ⟨c, k1, k2, k3⟩ := hc j p hj
  exact ⟨c, k1, k2, fun i u hi => (World.cell?_of_block (a := (⟨g, 0, none⟩ : Addr).add (j * k108.sz + i)) (by simpa [Addr.add_mid] using hb)).trans (k3 i u hi)⟩
end Go.Proofs.Ytfkgpkkjiolfpaa.Tab
