/- Flexible rows: where all may grow the room is filled, to the unit: plain. -/
import Derived.Test.YtfkgpkkjiolfpaaFlexBounds
namespace Go.Proofs.Ytfkgpkkjiolfpaa.Flx
open Go.RowKit Go.Lib Go.Proofs.Ytfkgpkkjiolfpaa.Pl Go.Proofs.Ytfkgpkkjiolfpaa.Fx Go.Proofs.Ytfkgpkkjiolfpaa.Sh Go.Proofs.Ytfkgpkkjiolfpaa.Sm Go.Proofs.YtfkgpkkjiolfpaaW.PrintWords Go.Proofs.YtfkgpkkjiolfpaaW.PrintMore
set_option linter.unusedVariables false

/-- A sum over places. -/
def sm (n : Nat) (f : Nat → Int) : Int := ((List.range n).map f).sum
theorem sm_zero (f : Nat → Int) : sm 0 f = 0 := rfl
theorem sm_succ (n : Nat) (f : Nat → Int) : sm (n + 1) f = sm n f + f n := by
  unfold sm
  rw [List.range_succ, List.map_append, List.sum_append]
  simp
theorem sm_add (n : Nat) (f g : Nat → Int) : sm n (fun k => f k + g k) = sm n f + sm n g := by
  induction n with
  | zero => rfl
  | succ n ih => rw [sm_succ, sm_succ, sm_succ, ih]; omega
theorem sm_le (n : Nat) (f g : Nat → Int) (h : ∀ k, k < n → f k ≤ g k) : sm n f ≤ sm n g := by
  induction n with
  | zero => exact Int.le_refl _
  | succ n ih =>
    have h1 := ih (fun k hk => h k (by omega))
    have h2 := h n (by omega)
    rw [sm_succ, sm_succ]; omega
theorem sm_congr (n : Nat) (f g : Nat → Int) (h : ∀ k, k < n → f k = g k) : sm n f = sm n g := by
  induction n with
  | zero => rfl
  | succ n ih => rw [sm_succ, sm_succ, ih (fun k hk => h k (by omega)), h n (by omega)]
theorem sm_bd (n : Nat) (f : Nat → Int) (a b : Int) (h : ∀ k, k < n → a ≤ f k ∧ f k ≤ b) : a * n ≤ sm n f ∧ sm n f ≤ b * n := by
  induction n with
  | zero => simp [sm]
  | succ n ih =>
    obtain ⟨h1, h2⟩ := ih (fun k hk => h k (by omega))
    obtain ⟨h3, h4⟩ := h n (by omega)
    rw [sm_succ]
    push_cast
    rw [Int.mul_add, Int.mul_add]
    omega
theorem sm_all_zero (n : Nat) (f : Nat → Int) (h : ∀ k, k < n → 0 ≤ f k) (h0 : sm n f = 0) : ∀ k, k < n → f k = 0 := by
  induction n with
  | zero => intro k hk; omega
  | succ n ih =>
    have h1 : 0 ≤ sm n f := by
      have := sm_le n (fun _ => 0) f (fun k hk => h k (by omega))
      have h2 : sm n (fun _ => 0) = 0 := by
        clear ih h h0 this
        induction n with
        | zero => rfl
        | succ n ih => rw [sm_succ, ih]; rfl
      omega
    have h2 := h n (by omega)
    rw [sm_succ] at h0
    intro k hk
    by_cases e : k = n
    · subst e; omega
    · exact ih (fun k hk => h k (by omega)) (by omega) k (by omega)
abbrev gI (l : List It) (k : Nat) : It := l.getD k z95
theorem free_sm (room : Int) (of : It → Int) (l : List It) : freeP room of l = room - sm l.length (fun k => of (gI l k) + (gI l k).f0.f5) := by
  have key : ∀ n, n ≤ l.length → freeP room of (l.take n) = room - sm n (fun k => of (gI l k) + (gI l k).f0.f5) := by
    intro n
    induction n with
    | zero => intro _; simp [freeP, sm]
    | succ n ih =>
      intro hn
      have e : rd_T95 l (n : Int) = gI l n := by simp [rd_T95]
      rw [take_snocI l n (by omega), free_snoc, ih (by omega), sm_succ, e]
      omega
  have := key l.length (Nat.le_refl _)
  rwa [List.take_length] at this
theorem sumU_sm (g : Bool) (l : List It) : sumU g l = sm l.length (fun k => if (gI l k).f2 = true then 0 else facP g (gI l k)) := by
  have key : ∀ n, n ≤ l.length → sumU g (l.take n) = sm n (fun k => if (gI l k).f2 = true then 0 else facP g (gI l k)) := by
    intro n
    induction n with
    | zero => intro _; simp [sumU, sm]
    | succ n ih =>
      intro hn
      have e : rd_T95 l (n : Int) = gI l n := by simp [rd_T95]
      rw [take_snocI l n (by omega), sumU_snoc, ih (by omega), sm_succ, e]
      split <;> omega
  have := key l.length (Nat.le_refl _)
  rwa [List.take_length] at this
theorem changed_sm (l : List It) (ps : List Int) : changedP l ps = sm l.length (byK l ps) := rfl
theorem list_sm (xs : List Int) : xs.sum = sm xs.length (fun k => xs.getD k 0) := by
  have key : ∀ n, n ≤ xs.length → (xs.take n).sum = sm n (fun k => xs.getD k 0) := by
    intro n
    induction n with
    | zero => intro _; simp [sm]
    | succ n ih =>
      intro hn
      rw [take_sum xs n (by omega), ih (by omega), sm_succ]
  have := key xs.length (Nat.le_refl _)
  rwa [List.take_length] at this

/-- An item that may grow, and has no most. -/
def Gr (x : It) : Prop := (0 ≤ x.f0.f0 ∧ x.f0.f0 ≤ 65535) ∧ (0 ≤ x.f0.f1 ∧ x.f0.f1 ≤ 65535) ∧ x.f0.f2 = -1 ∧ (1000 ≤ x.f0.f3 ∧ x.f0.f3 ≤ 1000000) ∧ (-128 ≤ x.f0.f5 ∧ x.f0.f5 ≤ 127) ∧ (x.f2 = true → x.f3 = max x.f0.f0 x.f0.f1)
theorem btw_most {n least : Int} (h1 : -16777216 ≤ n) (h2 : n ≤ 16777216) (h3 : 0 ≤ least) (h4 : least ≤ 16777216) : btw n least (-1) = max n least := by
  unfold btw
  rw [if_neg (by omega), cut_id h1 h2, cut_id (by omega) h4]
/-- What is free in all, with each item as long as it was. -/
def slack (room : Int) (l : List It) : Int := room - sm l.length (fun k => max (gI l k).f0.f0 (gI l k).f0.f1 + (gI l k).f0.f5)
theorem turn_free (room first : Int) (l : List It) (h : ∀ k, k < l.length → Gr (gI l k)) (hs : 0 < slack room l) (hr : room ≤ 8388608) (hl : l.length ≤ 12) (hu : 0 < unset l) :
    (unset (turnG true room first l) = 0 → freeP room (fun x => x.f3) (turnG true room first l) = 0) ∧
    (0 < unset (turnG true room first l) → (∀ k, k < l.length → Gr (gI (turnG true room first l) k)) ∧ slack room (turnG true room first l) = slack room l) := by
  obtain ⟨fr, hfr⟩ : ∃ fr, freeP room nowOf l = fr := ⟨_, rfl⟩
  have hnow : ∀ k, k < l.length → 0 ≤ nowOf (gI l k) ∧ nowOf (gI l k) ≤ max (gI l k).f0.f0 (gI l k).f0.f1 := by
    intro k hk
    obtain ⟨h0, h1, h2, h3, h5, hf⟩ := h k hk
    unfold nowOf
    split
    · rename_i hf2; rw [hf hf2]; omega
    · omega
  have hfs : fr = room - sm l.length (fun k => nowOf (gI l k) + (gI l k).f0.f5) := by rw [← hfr, free_sm]
  have hf0 : slack room l ≤ fr := by
    rw [hfs]
    have := sm_le l.length (fun k => nowOf (gI l k) + (gI l k).f0.f5) (fun k => max (gI l k).f0.f0 (gI l k).f0.f1 + (gI l k).f0.f5) (fun k hk => by have := hnow k hk; show _ + _ ≤ _ + _; omega)
    unfold slack
    omega
  have hf1 : fr ≤ 8390144 := by
    have := sm_bd l.length (fun k => nowOf (gI l k) + (gI l k).f0.f5) (-128) 131197 (fun k hk => by
      have h1 := hnow k hk
      obtain ⟨h0, h1', h2, h3, h5, hf⟩ := h k hk
      show -128 ≤ _ + _ ∧ _ + _ ≤ _
      omega)
    omega
  have hsu : 1000 ≤ sumU true l := by
    obtain ⟨k, hk, hk2⟩ : ∃ k, k < l.length ∧ (gI l k).f2 = false := by
      rw [unset_eq] at hu
      obtain ⟨k, hk⟩ := List.exists_mem_of_length_pos hu
      rw [List.mem_filter] at hk
      exact ⟨k, List.mem_range.1 hk.1, by simpa using hk.2⟩
    rw [sumU_sm]
    have key : ∀ n, k < n → n ≤ l.length → 1000 ≤ sm n (fun k => if (gI l k).f2 = true then 0 else facP true (gI l k)) := by
      intro n
      induction n with
      | zero => intro h; omega
      | succ n ih =>
        intro hkn hn
        rw [sm_succ]
        have hge : 0 ≤ (if (gI l n).f2 = true then 0 else facP true (gI l n)) := by
          obtain ⟨h0, h1, h2, h3, h5, hf⟩ := h n (by omega)
          unfold facP
          simp only [if_true]
          split <;> omega
        by_cases e : k = n
        · subst e
          have h0 : 0 ≤ sm k (fun k => if (gI l k).f2 = true then 0 else facP true (gI l k)) := by
            have := sm_bd k (fun k => if (gI l k).f2 = true then 0 else facP true (gI l k)) 0 1000000 (fun j hj => by
              obtain ⟨h0, h1, h2, h3, h5, hf⟩ := h j (by omega)
              unfold facP
              simp only [if_true]
              split <;> omega)
            omega
          obtain ⟨_, _, _, h3, _, _⟩ := h k hk
          rw [hk2, if_neg (by decide), show facP true (gI l k) = (gI l k).f0.f3 from if_pos rfl]
          omega
        · have := ih (by omega) (by omega)
          omega
    exact key _ hk (Nat.le_refl _)
  have hfree1 : free1 true room first l = fr := by unfold free1; rw [if_neg (by omega)]; exact hfr
  obtain ⟨ps, hps⟩ : ∃ ps, partsP true l fr = ps := ⟨_, rfl⟩
  have hps' : ps = share fr (l.map (wgtP true)) := by
    rw [← hps]; unfold partsP
    rw [if_pos rfl, show max 0 fr = fr by omega]
  have hTG : turnG true room first l = turnP l ps := by unfold turnG; rw [hfree1, hps]
  rw [hTG]
  have hwl : (l.map (wgtP true)).length = l.length := List.length_map ..
  have hwg : ∀ k, k < l.length → (l.map (wgtP true)).getD k 0 = wgtP true (gI l k) := by
    intro k hk
    simp [List.getD_eq_getElem?_getD, hk]
  -- the parts
  have hp : ∀ k, k < l.length → 0 ≤ ps.getD k 0 ∧ ((gI l k).f2 = true → ps.getD k 0 = 0) := by
    intro k hk
    have := share_at fr (l.map (wgtP true)) k (by rw [hwl]; exact hk) (by rw [hwl]; omega)
    rw [← hps'] at this
    refine ⟨this.2.1 (by omega), fun hf => this.1 ?_⟩
    rw [hwg k hk]
    unfold wgtP
    rw [if_pos hf]
    exact Int.le_refl _
  have hpsl : ps.length = l.length := by rw [hps', share_len, hwl]
  have hpsum : sm l.length (fun k => ps.getD k 0) = fr := by
    have h1 := list_sm ps
    rw [hpsl] at h1
    rw [← h1, hps', share_sum]
    have hz : ¬ ws (l.map (wgtP true)) (l.map (wgtP true)).length = 0 := by
      rw [ws_pos_iff _ (by rw [hwl]; omega)]
      intro hall
      rw [hwl] at hall
      rw [sumU_sm] at hsu
      have := sm_le l.length (fun k => if (gI l k).f2 = true then 0 else facP true (gI l k)) (fun _ => 0) (fun k hk => by
        have h2 := hall k hk
        rw [hwg k hk] at h2
        unfold wgtP at h2
        show (if (gI l k).f2 = true then 0 else facP true (gI l k)) ≤ 0
        unfold facP
        simp only [if_true] at h2 ⊢
        exact h2)
      have h3 := sm_bd l.length (fun _ => 0) 0 0 (fun _ _ => ⟨Int.le_refl _, Int.le_refl _⟩)
      omega
    rw [if_neg hz]
    exact cut_id (by omega) (by omega)
  have hple : ∀ k, k < l.length → ps.getD k 0 ≤ fr := by
    intro k hk
    rw [← hpsum]
    have key : ∀ n, k < n → n ≤ l.length → ps.getD k 0 ≤ sm n (fun k => ps.getD k 0) := by
      intro n
      induction n with
      | zero => intro h; omega
      | succ n ih =>
        intro h1 h2
        rw [sm_succ]
        have hn := hp n (by omega)
        by_cases e : k = n
        · subst e
          have := sm_le k (fun _ => 0) (fun k => ps.getD k 0) (fun j hj => (hp j (by omega)).1)
          have h3 := sm_bd k (fun _ => 0) 0 0 (fun _ _ => ⟨Int.le_refl _, Int.le_refl _⟩)
          omega
        · have := ih (by omega) (by omega)
          omega
    exact key _ hk (Nat.le_refl _)
  -- what each would be
  have htell : ∀ k, k < l.length → (gI l k).f2 = false → btw ((gI l k).f0.f0 + ps.getD k 0) (gI l k).f0.f1 (gI l k).f0.f2 = max ((gI l k).f0.f0 + ps.getD k 0) (gI l k).f0.f1 ∧ cut ((gI l k).f0.f0 + ps.getD k 0) = (gI l k).f0.f0 + ps.getD k 0 := by
    intro k hk hf
    obtain ⟨h0, h1, h2, h3, h5, _⟩ := h k hk
    have p1 := (hp k hk).1
    have p2 := hple k hk
    rw [h2]
    exact ⟨btw_most (by omega) (by omega) (by omega) (by omega), cut_id (by omega) (by omega)⟩
  have hby : ∀ k, k < l.length → 0 ≤ byK l ps k := by
    intro k hk
    unfold byK byI
    split
    · omega
    · rename_i hf
      obtain ⟨e1, e2⟩ := htell k hk (by simpa using hf)
      rw [e1, e2]
      omega
  have hc0 : 0 ≤ changedP l ps := by
    rw [changed_sm]
    have := sm_le l.length (fun _ => 0) (byK l ps) hby
    have h3 := sm_bd l.length (fun _ => 0) 0 0 (fun _ _ => ⟨Int.le_refl _, Int.le_refl _⟩)
    omega
  have hlen := turn_len l ps
  have hget : ∀ k, k < l.length → gI (turnP l ps) k = settI (changedP l ps) (byK l ps k) (tellI (gI l k) (ps.getD k 0)) := fun k hk => turn_get l ps k hk
  have hf0' : ∀ k, k < l.length → (gI (turnP l ps) k).f0 = (gI l k).f0 := by
    intro k hk
    rw [hget k hk]
    unfold settI tellI
    split <;> split <;> rfl
  by_cases hch : changedP l ps = 0
  · -- all are settled
    have hz := sm_all_zero l.length (byK l ps) hby (by rw [← changed_sm]; exact hch)
    have hf3 : ∀ k, k < l.length → (gI (turnP l ps) k).f3 = nowOf (gI l k) + ps.getD k 0 ∧ (gI (turnP l ps) k).f2 = true := by
      intro k hk
      rw [hget k hk]
      have hzk := hz k hk
      unfold settI
      rw [if_pos (.inl hch)]
      refine ⟨?_, rfl⟩
      show (tellI (gI l k) (ps.getD k 0)).f3 = _
      cases hf : (gI l k).f2 with
      | true =>
        unfold tellI nowOf
        rw [if_pos hf, if_pos hf, (hp k hk).2 hf]
        omega
      | false =>
        unfold tellI nowOf
        rw [if_neg (by rw [hf]; decide), if_neg (by rw [hf]; decide)]
        show btw ((gI l k).f0.f0 + ps.getD k 0) (gI l k).f0.f1 (gI l k).f0.f2 = _
        unfold byK byI at hzk
        have hf' : (List.getD l k z95).f2 = false := hf
        rw [if_neg (by rw [hf']; decide)] at hzk
        obtain ⟨e1, e2⟩ := htell k hk hf
        have e1' : btw ((List.getD l k z95).f0.f0 + ps.getD k 0) (List.getD l k z95).f0.f1 (List.getD l k z95).f0.f2 = max ((gI l k).f0.f0 + ps.getD k 0) (gI l k).f0.f1 := e1
        have e2' : cut ((List.getD l k z95).f0.f0 + ps.getD k 0) = (gI l k).f0.f0 + ps.getD k 0 := e2
        rw [e1', e2'] at hzk
        rw [e1]
        omega
    have hun : unset (turnP l ps) = 0 := by
      rw [unset_eq]
      rw [List.length_eq_zero_iff, List.filter_eq_nil_iff]
      intro k hk
      have hk' := List.mem_range.1 hk
      rw [hlen] at hk'
      have := (hf3 k hk').2
      show ¬ (!(gI (turnP l ps) k).f2) = true
      rw [this]
      decide
    refine ⟨fun _ => ?_, fun h0 => by omega⟩
    rw [free_sm, hlen]
    have e : sm l.length (fun k => (gI (turnP l ps) k).f3 + (gI (turnP l ps) k).f0.f5) = sm l.length (fun k => (nowOf (gI l k) + (gI l k).f0.f5) + ps.getD k 0) := by
      refine sm_congr _ _ _ fun k hk => ?_
      rw [(hf3 k hk).1, hf0' k hk]
      omega
    show room - sm l.length (fun k => (gI (turnP l ps) k).f3 + (gI (turnP l ps) k).f0.f5) = 0
    rw [e, sm_add, hpsum]
    omega
  · have hcp : 0 < changedP l ps := by omega
    have hsl : slack room (turnP l ps) = slack room l := by
      unfold slack
      rw [hlen]
      congr 1
      refine sm_congr _ _ _ fun k hk => ?_
      rw [hf0' k hk]
    refine ⟨fun hun => ?_, fun _ => ⟨fun k hk => ?_, hsl⟩⟩
    · -- not all of them can be settled
      exfalso
      have hall := fun k (hk : k < l.length) => all_set hun k (by rw [hlen]; exact hk)
      have hge : ∀ k, k < l.length → nowOf (gI l k) + (gI l k).f0.f5 + ps.getD k 0 ≤ max (gI l k).f0.f0 (gI l k).f0.f1 + (gI l k).f0.f5 := by
        intro k hk
        have h1 : (gI (turnP l ps) k).f2 = true := hall k hk
        rw [hget k hk] at h1
        cases hf : (gI l k).f2 with
        | true =>
          have := hnow k hk
          rw [(hp k hk).2 hf]
          omega
        | false =>
          unfold settI at h1
          by_cases hc : changedP l ps = 0 ∨ (0 < changedP l ps ∧ 0 < byK l ps k) ∨ (changedP l ps < 0 ∧ byK l ps k < 0)
          · have hb : 0 < byK l ps k := by omega
            unfold byK byI at hb
            have hf' : (List.getD l k z95).f2 = false := hf
            rw [if_neg (by rw [hf']; decide)] at hb
            obtain ⟨e1, e2⟩ := htell k hk hf
            have e1' : btw ((List.getD l k z95).f0.f0 + ps.getD k 0) (List.getD l k z95).f0.f1 (List.getD l k z95).f0.f2 = max ((gI l k).f0.f0 + ps.getD k 0) (gI l k).f0.f1 := e1
            have e2' : cut ((List.getD l k z95).f0.f0 + ps.getD k 0) = (gI l k).f0.f0 + ps.getD k 0 := e2
            rw [e1', e2'] at hb
            unfold nowOf
            rw [if_neg (by rw [hf]; decide)]
            omega
          · rw [if_neg hc, tell_f2, hf] at h1
            exact absurd h1 (by decide)
      have h1 := sm_le l.length _ _ hge
      rw [sm_add l.length (fun k => nowOf (gI l k) + (gI l k).f0.f5) (fun k => ps.getD k 0), hpsum] at h1
      unfold slack at hs
      omega
    · obtain ⟨h0, h1, h2, h3, h5, hf⟩ := h k hk
      have e0 := hf0' k hk
      refine ⟨by rw [e0]; exact h0, by rw [e0]; exact h1, by rw [e0]; exact h2, by rw [e0]; exact h3, by rw [e0]; exact h5, fun hs2 => ?_⟩
      rw [e0]
      rw [hget k hk] at hs2 ⊢
      cases hg : (gI l k).f2 with
      | true =>
        have e : (settI (changedP l ps) (byK l ps k) (tellI (gI l k) (ps.getD k 0))).f3 = (gI l k).f3 := by
          unfold settI tellI
          rw [if_pos hg]
          split <;> rfl
        rw [e]
        exact hf hg
      | false =>
        unfold settI at hs2 ⊢
        by_cases hc : changedP l ps = 0 ∨ (0 < changedP l ps ∧ 0 < byK l ps k) ∨ (changedP l ps < 0 ∧ byK l ps k < 0)
        · rw [if_pos hc]
          have hb : 0 < byK l ps k := by omega
          unfold byK byI at hb
          have hf' : (List.getD l k z95).f2 = false := hg
          rw [if_neg (by rw [hf']; decide)] at hb
          obtain ⟨e1, e2⟩ := htell k hk hg
          have e1' : btw ((List.getD l k z95).f0.f0 + ps.getD k 0) (List.getD l k z95).f0.f1 (List.getD l k z95).f0.f2 = max ((gI l k).f0.f0 + ps.getD k 0) (gI l k).f0.f1 := e1
          have e2' : cut ((List.getD l k z95).f0.f0 + ps.getD k 0) = (gI l k).f0.f0 + ps.getD k 0 := e2
          rw [e1', e2'] at hb
          have p1 := (hp k hk).1
          show (tellI (gI l k) (ps.getD k 0)).f3 = _
          unfold tellI
          rw [if_neg (by rw [hg]; decide)]
          show btw _ _ _ = _
          rw [e1]
          omega
        · rw [if_neg hc, tell_f2, hg] at hs2
          exact absurd hs2 (by decide)
end Go.Proofs.Ytfkgpkkjiolfpaa.Flx
