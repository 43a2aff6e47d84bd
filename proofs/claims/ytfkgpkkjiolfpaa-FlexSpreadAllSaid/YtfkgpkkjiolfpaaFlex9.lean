/- Flexible rows: Mains, plain: who is settled at once; how many are not. -/
import Derived.Test.YtfkgpkkjiolfpaaFlex8
namespace Go.Proofs.Ytfkgpkkjiolfpaa.Flx
open Go.RowKit Go.Lib Go.Proofs.Ytfkgpkkjiolfpaa.Rgn Go.Proofs.Ytfkgpkkjiolfpaa.Pl Go.Proofs.Ytfkgpkkjiolfpaa.Fx Go.Proofs.Ytfkgpkkjiolfpaa.Sh Go.Proofs.Ytfkgpkkjiolfpaa.Sm Go.Proofs.YtfkgpkkjiolfpaaW.PrintWords Go.Proofs.YtfkgpkkjiolfpaaW.PrintLast Go.Proofs.YtfkgpkkjiolfpaaW.PrintMore
set_option linter.unusedVariables false
set_option linter.unusedSimpArgs false

/-- Who is settled at once, up to a place. -/
def isome (g : Bool) (l : List It) (k : Nat) : List It := (List.range l.length).map fun j => if j < k then initI g (l.getD j z95) else l.getD j z95
theorem isome_len (g : Bool) (l : List It) (k : Nat) : (isome g l k).length = l.length := by simp [isome]
theorem isome_zero (g : Bool) (l : List It) : isome g l 0 = l := by
  apply List.ext_getElem
  · simp [isome]
  · intro i h1 h2
    simp [isome, List.getD_eq_getElem?_getD, h2]
theorem isome_all (g : Bool) (l : List It) : isome g l l.length = l.map (initI g) := by
  apply List.ext_getElem
  · simp [isome]
  · intro i h1 h2
    have hi : i < l.length := by simpa [isome] using h1
    simp [isome, hi, List.getD_eq_getElem?_getD]
theorem isome_get (g : Bool) (l : List It) (k : Nat) (hk : k < l.length) : (isome g l k).getD k z95 = l.getD k z95 := by
  unfold isome
  rw [map_range_getD hk]
  simp
theorem isome_set (g : Bool) (l : List It) (k : Nat) (hk : k < l.length) : (isome g l k).set k (initI g (l.getD k z95)) = isome g l (k + 1) := by
  unfold isome
  refine map_range_set hk _ _ _ (fun j hj hne => ?_) (by simp)
  by_cases h : j < k
  · rw [if_pos h, if_pos (by omega)]
  · rw [if_neg h, if_neg (by omega)]
theorem isome_same (g : Bool) (l : List It) (k : Nat) (hk : k < l.length) (h : initI g (l.getD k z95) = l.getD k z95) : isome g l k = isome g l (k + 1) := by
  unfold isome
  refine map_range_ext fun j hj => ?_
  by_cases hjk : j = k
  · subst hjk
    rw [if_neg (by omega), if_pos (by omega), h]
  · by_cases h2 : j < k
    · rw [if_pos h2, if_pos (by omega)]
    · rw [if_neg h2, if_neg (by omega)]

/-- How many are not settled, as the memory has it. -/
def itemsAt (w : World) (g : Nat) : Nat := match w.cell? ⟨g, 1, none⟩ with
  | some (.slice (some a) _ _) => a.block
  | _ => 0
def isNo : Option Value → Bool
  | some (.bool false) => true
  | _ => false
def unsetW (w : World) (g n : Nat) : Nat := ((List.range n).filter fun j => isNo (w.cell? ⟨itemsAt w g, j * 9 + 7, none⟩)).length
theorem at_set {w : World} {g n : Nat} {xs : List It} (h : Kd.C k95 w (some ⟨g, 0, none⟩) n xs) (j : Nat) (hj : j < n) : w.cell? ⟨g, j * 9 + 7, none⟩ = some (.bool (xs.getD j z95).f2) := by
  obtain ⟨ad, ea, _, _, _, _, _, _, _, x7, _⟩ := at_T95 h (j : Int) (by omega) (by omega)
  injection ea with ea
  subst ea
  rw [Int.toNat_natCast] at x7
  have e : (⟨g, 0, none⟩ : Addr).add (j * 9) = ⟨g, j * 9, none⟩ := by rw [Addr.add_mid, Nat.zero_add]
  rw [e] at x7
  have e2 : rd_T95 xs (j : Int) = xs.getD j z95 := by simp [rd_T95]
  rw [e2] at x7
  exact x7
theorem unsetW_eq {w : World} {base g : Nat} {room : Int} {grows : Bool} {l : List It} (h : IsR w base g room grows l) : unsetW w g l.length = unset l := by
  obtain ⟨v, h1, h2⟩ := h
  obtain ⟨A, c, rfl, hl, hC⟩ := Kd.R_reads h2
  rw [unset_eq]
  unfold unsetW
  congr 1
  apply List.filter_congr
  intro j hj
  have hjl := List.mem_range.1 hj
  obtain ⟨_, inner, hown, _⟩ := h2
  rcases hown.2 with ⟨hv, h0⟩ | ⟨gi, cap, cur, hv, _⟩
  · omega
  · injection hv with hv
    subst hv
    have hi : itemsAt w g = gi := by
      unfold itemsAt
      rw [show w.cell? ⟨g, 1, none⟩ = some (.slice (some ⟨gi, 0, none⟩) l.length c) from blk_cell h1 1]
    rw [hi, at_set hC j hjl]
    cases (l.getD j z95).f2 <;> rfl
theorem IsR.of_items {w : World} {base g : Nat} {room : Int} {grows : Bool} {v : Value} {l : List It} (h1 : w.heap[g]? = some (.cells #[.int .i64 room, v, .bool grows] 92 (0, 0))) (h2 : Kd.R k95 95 w base (fun _ => True) v l) (h3 : ∀ k, v.ownBlock = some k → k ≠ g) : IsR w base g room grows l := by
  refine ⟨v, h1, h3, ?_⟩
  obtain ⟨_, h4⟩ := h2
  exact h4.imp_ (fun x cs hx => by
    have hcs := k95_openM hx
    rw [hcs]
    exact k95_mkM _ _ _ x)
theorem IsR.grow {w : World} {base g : Nat} {room : Int} {grows : Bool} {l : List It} (h : IsR w base g room grows l) (b : Bool) : IsR (w.setCell ⟨g, 2, none⟩ (.bool b)) base g room b l := by
  obtain ⟨v, h1, h2⟩ := h
  exact ⟨v, blk_set h1 2 (.bool b), Kd.R_mono (Kd.R_far (p := ⟨g, 2, none⟩) h2 (fun k hk => hk) (.bool b)) (fun _ hk => hk)⟩
def MainsPost (room gap : Int) (l : List LF) (w : World) (e : Ending) (w' : World) : Prop := ∃ v, e = .returned v ∧ w'.ownsRow w.heap.size 3 1 v l.length (nums .i64 (mainsP room gap l)) ∧ Below w.heap.size w w'
theorem tame_run (g : Bool) (room first : Int) : ∀ (n : Nat) (l : List It), (∀ x, x ∈ l → TameI x) → ∀ x, x ∈ runP g room first n l → TameI x := by
  intro n
  induction n with
  | zero => intro l h; exact h
  | succ n ih =>
    intro l h
    unfold runP
    split
    · exact ih _ (tame_turn h _)
    · exact h
theorem turnG_len (g : Bool) (room first : Int) (l : List It) : (turnG g room first l).length = l.length := turn_len _ _
theorem turnG_less (g : Bool) (room first : Int) (l : List It) (h : 0 < unset l) : unset (turnG g room first l) < unset l := turn_less _ _ h
end Go.Proofs.Ytfkgpkkjiolfpaa.Flx
