/- Flexible rows: no item is below its least, nor above its most: plain. -/
import Derived.Test.YtfkgpkkjiolfpaaFlex11
namespace Go.Proofs.Ytfkgpkkjiolfpaa.Flx
open Go.RowKit Go.Lib Go.Proofs.Ytfkgpkkjiolfpaa.Pl Go.Proofs.Ytfkgpkkjiolfpaa.Fx Go.Proofs.Ytfkgpkkjiolfpaa.Sh Go.Proofs.Ytfkgpkkjiolfpaa.Sm Go.Proofs.YtfkgpkkjiolfpaaW.PrintWords Go.Proofs.YtfkgpkkjiolfpaaW.PrintMore
set_option linter.unusedVariables false

/-- A settled item is between its bounds. -/
def Bd (x : It) : Prop := ∃ n, x.f3 = btw n x.f0.f1 x.f0.f2
/-- The items of a list, as they were made; settled, between their bounds. -/
def Inv (l0 l : List It) : Prop := l.length = l0.length ∧ ∀ k, k < l.length → (l.getD k z95).f0 = (l0.getD k z95).f0 ∧ ((l.getD k z95).f2 = true → Bd (l.getD k z95))
theorem inv_turn {l0 l : List It} (h : Inv l0 l) (ps : List Int) : Inv l0 (turnP l ps) := by
  refine ⟨by rw [turn_len]; exact h.1, fun k hk => ?_⟩
  rw [turn_len] at hk
  rw [turn_get l ps k hk]
  obtain ⟨h1, h2⟩ := h.2 k hk
  have t0 : (tellI (l.getD k z95) (ps.getD k 0)).f0 = (l.getD k z95).f0 := by unfold tellI; split <;> rfl
  have t1 : Bd (tellI (l.getD k z95) (ps.getD k 0)) := by
    unfold tellI
    split
    · rename_i hf; exact h2 hf
    · exact ⟨_, rfl⟩
  generalize tellI (l.getD k z95) (ps.getD k 0) = y at *
  unfold settI
  split
  · exact ⟨t0.trans h1, fun _ => t1⟩
  · exact ⟨t0.trans h1, fun _ => t1⟩
theorem inv_run {l0 : List It} (g : Bool) (room first : Int) : ∀ (n : Nat) (l : List It), Inv l0 l → Inv l0 (runP g room first n l) := by
  intro n
  induction n with
  | zero => intro l h; exact h
  | succ n ih =>
    intro l h
    unfold runP
    split
    · exact ih _ (inv_turn h _)
    · exact h
theorem run_done (g : Bool) (room first : Int) : ∀ (n : Nat) (l : List It), unset l ≤ n → unset (runP g room first n l) = 0 := by
  intro n
  induction n with
  | zero => intro l h; exact Nat.le_zero.1 h
  | succ n ih =>
    intro l h
    unfold runP
    by_cases h0 : 0 < unset l
    · rw [if_pos h0]
      have := turn_less l (partsP g l (free1 g room first l)) h0
      exact ih _ (by unfold turnG; omega)
    · rw [if_neg h0]; omega
theorem all_set {l : List It} (h : unset l = 0) (k : Nat) (hk : k < l.length) : (l.getD k z95).f2 = true := by
  rw [unset_eq] at h
  have h1 := List.eq_nil_of_length_eq_zero h
  rw [List.filter_eq_nil_iff] at h1
  have := h1 k (List.mem_range.2 hk)
  simpa using this
theorem start_len (room : Int) (l : List It) : (startP room l).length = l.length := by simp [startP]
theorem start_get (room : Int) (l : List It) (k : Nat) (hk : k < l.length) : (startP room l).getD k z95 = initI (growsP room l) (l.getD k z95) := by
  simp [startP, List.getD_eq_getElem?_getD, hk]
theorem unset_le (l : List It) : unset l ≤ l.length := List.length_filter_le _ _
theorem inv_start (room : Int) (l : List LF) : Inv (l.map mkIt) (startP room (l.map mkIt)) := by
  refine ⟨start_len _ _, fun k hk => ?_⟩
  rw [start_len] at hk
  rw [start_get _ _ _ hk]
  generalize growsP room (l.map mkIt) = g
  have hx : ∃ y, (l.map mkIt).getD k z95 = mkIt y := by
    have hk2 : k < l.length := by simpa using hk
    exact ⟨l[k], by simp [List.getD_eq_getElem?_getD, hk2]⟩
  obtain ⟨y, hy⟩ := hx
  rw [hy]
  unfold initI
  split
  · exact ⟨rfl, fun _ => ⟨_, rfl⟩⟩
  · refine ⟨rfl, fun h => ?_⟩
    have h' : false = true := h
    exact absurd h' (by decide)
theorem inv_end (room : Int) (l : List LF) : Inv (l.map mkIt) (endP room (l.map mkIt)) := inv_run _ _ _ _ _ (inv_start room l)
theorem end_set (room : Int) (l : List It) : unset (endP room l) = 0 := run_done _ _ _ _ _ (by have := unset_le (startP room l); rw [start_len] at this; exact this)
theorem mains_len (room gap : Int) (l : List LF) : (mainsP room gap l).length = l.length := by
  unfold mainsP
  rw [List.length_map]
  have := (inv_end (roomP room gap l.length) l).1
  rw [List.length_map] at this
  exact this
/-- Each item's length, between its bounds. -/
theorem mains_bd (room gap : Int) (l : List LF) (k : Nat) (hk : k < l.length) : ∃ n, (mainsP room gap l).getD k 0 = max 0 (btw n (max 0 (cut (l.getD k z37).f1)) (cut (l.getD k z37).f2)) := by
  have hI := inv_end (roomP room gap l.length) l
  have hl : (endP (roomP room gap l.length) (l.map mkIt)).length = l.length := by have := hI.1; rwa [List.length_map] at this
  have hs := all_set (end_set (roomP room gap l.length) (l.map mkIt)) k (by omega)
  obtain ⟨h0, h1⟩ := hI.2 k (by omega)
  obtain ⟨n, hn⟩ := h1 hs
  have hm : (l.map mkIt).getD k z95 = mkIt (l.getD k z37) := by simp [List.getD_eq_getElem?_getD, hk]
  rw [hm] at h0
  refine ⟨n, ?_⟩
  have e : (mainsP room gap l).getD k 0 = max 0 ((endP (roomP room gap l.length) (l.map mkIt)).getD k z95).f3 := by
    unfold mainsP
    simp [List.getD_eq_getElem?_getD, hl, hk]
  rw [e, hn, h0]
  rfl
theorem mild_bd (room gap : Int) (l : List LF) (k : Nat) (hk : k < l.length) (x : LF) (hx : l.getD k z37 = mildI x) :
    (mildI x).f1 ≤ (mainsP room gap l).getD k 0 ∧ (0 ≤ (mildI x).f2 → (mainsP room gap l).getD k 0 ≤ max (mildI x).f2 (mildI x).f1) := by
  obtain ⟨n, hn⟩ := mains_bd room gap l k hk
  rw [hx] at hn
  have h1 := u16_bd x.f1
  have h2 := i16_bd x.f2
  have e1 : (mildI x).f1 = IntKind.u16.wrap x.f1 / 8 := rfl
  have e2 : (mildI x).f2 = IntKind.i16.wrap x.f2 := rfl
  rw [e1, e2] at hn ⊢
  generalize IntKind.u16.wrap x.f1 = a at *
  generalize IntKind.i16.wrap x.f2 = b at *
  have c1 : cut (a / 8) = a / 8 := cut_id (by omega) (by omega)
  have c2 : cut b = b := cut_id (by omega) (by omega)
  have c3 : max 0 (a / 8) = a / 8 := by omega
  rw [c1, c2, c3] at hn
  have hb : btw n (a / 8) b = max (if 0 ≤ b then min (cut n) (cut b) else cut n) (cut (a / 8)) := rfl
  rw [c1, c2] at hb
  rw [hn, hb]
  split <;> omega
end Go.Proofs.Ytfkgpkkjiolfpaa.Flx
