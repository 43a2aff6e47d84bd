/- In room enough nothing breaks: the plain law. -/
import Derived.Test.YtmkgapdadandmaaExact
namespace Go.Proofs.Ytmkgapdadandmaa.Lin
open Go.RowKit Go.Lib Go.Proofs.Ytmkgapdadandmaa.Pl Go.Proofs.Ytmkgapdadandmaa.Fx Go.Proofs.Ytmkgapdadandmaa.Fnt Go.Proofs.Ytmkgapdadandmaa.Brk Go.Proofs.Ytmkgapdadandmaa.Siz Go.Proofs.YtmkgapdadandmaaW.PrintWords Go.Proofs.YtmkgapdadandmaaW.PrintLast Go.Proofs.YtmkgapdadandmaaW.PrintMore
set_option linter.unusedVariables false
set_option linter.unusedSimpArgs false

def gpOf (l : List LI) (g : List Pt) : Gp := ⟨wAll g, gtailP l g, mustB l g⟩
theorem clean_true (l : List LI) : ∀ g : List Pt, cleanP l true g = g := by
  intro g
  induction g with
  | nil => rfl
  | cons p r ih => rw [clean_cons, if_neg (by simp), Bool.true_or, ih]
theorem must_nil (l : List LI) : mustB l [] = false := rfl
theorem must_one (l : List LI) (p : Pt) : mustB l [p] = ((itm l p).f0 == 6) := by unfold mustB kd; simp
theorem must_cons (l : List LI) (p : Pt) {r : List Pt} (h : r ≠ []) : mustB l (p :: r) = mustB l r := by
  have hl : 0 < r.length := List.length_pos_iff.2 h
  unfold mustB kd
  rw [List.length_cons, show r.length + 1 - 1 = (r.length - 1) + 1 by omega, List.getD_cons_succ]
  simp [hl]
theorem must_clean (l : List LI) : ∀ (g : List Pt) (b : Bool), (∀ i, i + 1 < g.length → kd l g i ≠ 6) → mustB l (cleanP l b g) = mustB l g := by
  intro g
  induction g with
  | nil => intro b _; rfl
  | cons p r ih =>
    intro b h
    rw [clean_cons]
    by_cases hr : r = []
    · subst hr
      split
      · rename_i hc
        have hk : (itm l p).f0 = 1 := by
          simp only [Bool.and_eq_true] at hc
          have := hc.1.2
          unfold collP at this
          simp only [Bool.and_eq_true, beq_iff_eq] at this
          exact this.1
        rw [must_one, hk]; rfl
      · rfl
    · have hp : (itm l p).f0 ≠ 6 := by
        have := h 0 (by rw [List.length_cons]; have := List.length_pos_iff.2 hr; omega)
        exact this
      have hi : ∀ i, i + 1 < r.length → kd l r i ≠ 6 := fun i hi => by
        have := h (i + 1) (by rw [List.length_cons]; omega)
        unfold kd at this ⊢
        rwa [List.getD_cons_succ] at this
      rw [must_cons l p hr]
      split
      · exact ih b hi
      · have e := ih (b || solidP l p) hi
        by_cases hc : cleanP l (b || solidP l p) r = []
        · rw [hc] at e ⊢
          rw [must_one, ← e, must_nil]
          simpa using hp
        · rw [must_cons l p hc]; exact e
theorem clean_w (l : List LI) : ∀ (g : List Pt) (b : Bool), (∀ p, p ∈ g → 0 ≤ p.w) → wAll (cleanP l b g) ≤ wAll g := by
  intro g
  induction g with
  | nil => intro b _; exact Int.le_refl _
  | cons p r ih =>
    intro b h
    have h0 := h p (List.mem_cons_self ..)
    have hr := fun b => ih b (fun q hq => h q (List.mem_cons_of_mem _ hq))
    have ew : ∀ x : List Pt, wAll (p :: x) = p.w + wAll x := fun x => by unfold wAll; rw [List.map_cons, List.sum_cons]
    rw [clean_cons]
    split
    · have := hr b; rw [ew]; omega
    · have := hr (b || solidP l p); rw [ew, ew]; omega
theorem step_max {s : Sz} {g : Gp} (h : OkS s) (hg : MildG g) : max s.most s.fin ≤ max (stepS s g).most (stepS s g).fin ∧ s.sum + g.w - g.t ≤ max (stepS s g).most (stepS s g).fin := by
  unfold OkS at h
  unfold MildG at hg
  unfold stepS
  split
  · simp only; omega
  · simp only; omega
theorem go_max : ∀ (l : List Gp) (s : Sz), OkS s → (∀ g, g ∈ l → MildG g) → max s.most s.fin ≤ max (goS s l).most (goS s l).fin := by
  intro l
  induction l with
  | nil => intro s _ _; exact Int.le_refl _
  | cons g l ih =>
    intro s h hl
    have hg := hl g (List.mem_cons_self ..)
    have := (step_max h hg).1
    have := ih (stepS s g) (step_ok h hg) (fun x hx => hl x (List.mem_cons_of_mem _ hx))
    show _ ≤ max (goS (stepS s g) l).most (goS (stepS s g) l).fin
    omega
theorem end_out {K : Bc} {l : List LI} {width : Int} {s : Bk} {last : Bool} : (endS K l width s last).out.length ≤ s.out.length + 1 := by
  unfold endS beginS
  split
  · show (s.out ++ [_]).length ≤ _; rw [List.length_append, List.length_singleton]; exact Nat.le_refl _
  · exact Nat.le_succ _
/-- Nothing breaks but where it must. -/
theorem one_puts {K : Bc} {l : List LI} {W : Int} : ∀ (gs : List (List Pt)) (s : Bk) (z : Sz), OkS z → (∀ g, g ∈ gs → MildG (gpOf l g) ∧ (∀ p, p ∈ g → 0 ≤ p.w) ∧ ∀ i, i + 1 < g.length → kd l g i ≠ 6) →
    s.left = 0 ∧ s.right = W ∧ s.indent = 0 → wAll s.line ≤ z.sum → max (goS z (gs.map (gpOf l))).most (goS z (gs.map (gpOf l))).fin ≤ W → (gs.foldl (putS K l W) s).out.length ≤ s.out.length + gs.countP (mustB l) := by
  intro gs
  induction gs with
  | nil => intro s z _ _ _ _ _; exact Nat.le_add_right _ _
  | cons g r ih =>
    intro s z hz hg hs hw hW
    obtain ⟨g1, g2, g3⟩ := hg g (List.mem_cons_self ..)
    have hgr := fun x hx => hg x (List.mem_cons_of_mem _ hx)
    have hok := step_ok hz g1
    have hm := step_max hz g1
    have hM := go_max (r.map (gpOf l)) (stepS z (gpOf l g)) hok (fun x hx => by obtain ⟨y, hy, rfl⟩ := List.mem_map.1 hx; exact (hgr y hy).1)
    have hW' : max (goS (stepS z (gpOf l g)) (r.map (gpOf l))).most (goS (stepS z (gpOf l g)) (r.map (gpOf l))).fin ≤ W := hW
    have hfit : z.sum + wAll g - gtailP l g ≤ W := by
      have := hm.2
      have e1 : (gpOf l g).w = wAll g := rfl
      have e2 : (gpOf l g).t = gtailP l g := rfl
      omega
    have hop : openS K l W s g = s := by
      unfold openS
      by_cases hf : s.full = true
      · rw [if_neg]
        rintro ⟨h1, _⟩
        rw [hf, clean_true] at h1
        unfold fitsB at h1
        rw [Bool.or_eq_false_iff] at h1
        have := of_decide_eq_false h1.1
        obtain ⟨e1, e2, _⟩ := hs
        omega
      · rw [if_neg]
        rintro ⟨_, h2⟩
        exact hf h2
    have hmc := must_clean l g s.full g3
    have hcw := clean_w l g s.full g2
    rw [List.foldl_cons, List.countP_cons]
    have hput : putS K l W s g = if mustB l g = true then endS K l W (addS l s (cleanP l s.full g)) true else addS l s (cleanP l s.full g) := by
      unfold putS; rw [hop, hmc]
    rw [hput]
    by_cases hmu : mustB l g = true
    · rw [if_pos hmu, if_pos hmu]
      have hst : (stepS z (gpOf l g)).sum = 0 := by
        unfold stepS; rw [if_pos (show (gpOf l g).m = true from hmu)]
      have := ih (endS K l W (addS l s (cleanP l s.full g)) true) (stepS z (gpOf l g)) hok hgr ⟨rfl, rfl, rfl⟩ (by rw [hst]; exact Int.le_refl _) hW'
      have h2 := end_out (K := K) (l := l) (width := W) (s := addS l s (cleanP l s.full g)) (last := true)
      have h3 : (addS l s (cleanP l s.full g)).out = s.out := rfl
      rw [h3] at h2
      omega
    · rw [if_neg hmu, if_neg hmu]
      have hst : (stepS z (gpOf l g)).sum = z.sum + wAll g := by
        unfold stepS; rw [if_neg (show ¬ (gpOf l g).m = true from hmu)]; rfl
      have := ih (addS l s (cleanP l s.full g)) (stepS z (gpOf l g)) hok hgr hs (by
        rw [hst]
        show wAll (s.line ++ cleanP l s.full g) ≤ _
        unfold wAll at hw hcw ⊢
        rw [List.map_append, List.sum_append]
        omega) hW'
      have h3 : (addS l s (cleanP l s.full g)).out = s.out := rfl
      rw [h3] at this
      omega
theorem must_count (l : List LI) : ∀ gs : List (List Pt), gs.countP (mustB l) ≤ gs.flatten.countP (fun p => (itm l p).f0 == 6) := by
  intro gs
  induction gs with
  | nil => exact Nat.le_refl _
  | cons g r ih =>
    rw [List.countP_cons, List.flatten_cons, List.countP_append]
    split
    · rename_i h
      have : 0 < g.countP (fun p => (itm l p).f0 == 6) := by
        rw [List.countP_pos_iff]
        unfold mustB kd at h
        rw [Bool.and_eq_true] at h
        have h1 := of_decide_eq_true h.1
        refine ⟨g.getD (g.length - 1) zPt, ?_, h.2⟩
        rw [List.getD_eq_getElem?_getD, List.getElem?_eq_getElem (by omega)]
        exact List.getElem_mem _
      omega
    · omega
theorem item_count (l : List LI) (k : Nat) : (itemX k (l.getD k z27)).countP (fun p => (itm l p).f0 == 6) ≤ if (l.getD k z27).f0 = 6 then 1 else 0 := by
  unfold itemX
  split
  · rename_i h1
    rw [List.countP_eq_zero.2]
    · exact Nat.zero_le _
    · intro p hp
      unfold partsOf at hp
      obtain ⟨j, _, rfl⟩ := List.mem_map.1 hp
      show ¬ ((l.getD k z27).f0 == 6) = true
      rw [h1]; decide
  · rw [List.countP_cons, List.countP_nil]
    have : (itm l ⟨k, noS, oneW (l.getD k z27), true⟩).f0 = (l.getD k z27).f0 := rfl
    rw [this]
    simp
theorem parts_count (l : List LI) : ∀ k, k ≤ l.length → (partsX l k).countP (fun p => (itm l p).f0 == 6) ≤ (l.take k).countP (fun x => x.f0 == 6) := by
  intro k
  induction k with
  | zero => intro _; exact Nat.le_refl _
  | succ k ih =>
    intro hk
    have h1 := ih (by omega)
    have h2 := item_count l k
    show (partsX l k ++ itemX k _).countP _ ≤ _
    rw [List.countP_append, List.take_succ_eq_append_getElem (by omega), List.countP_append, List.countP_cons, List.countP_nil]
    have e : l.getD k z27 = l[k] := by rw [List.getD_eq_getElem?_getD, List.getElem?_eq_getElem (by omega)]; rfl
    rw [e] at h2
    rw [e]
    have h3 : (if l[k].f0 = 6 then 1 else 0) = if (l[k].f0 == 6) = true then 1 else 0 := by simp
    omega
theorem gS_in (l : List LI) (ps : List Pt) : ∀ k, (∀ i, (gS l ps k).1 < i → i ≤ k → endG l ps i = false) ∧ ∀ p, p ∈ (gS l ps k).2 → ∀ i, p.1 < i → i < p.2 → endG l ps i = false := by
  intro k
  induction k with
  | zero => exact ⟨fun i h1 h2 => by have : (0 : Nat) < i := h1; omega, fun p hp => by cases hp⟩
  | succ k ih =>
    obtain ⟨h1, h2⟩ := ih
    rw [gS_step]
    split
    · rename_i he
      refine ⟨fun i k1 k2 => by have : k + 1 < i := k1; omega, fun p hp => ?_⟩
      rcases List.mem_append.1 hp with hp | hp
      · exact h2 p hp
      · rw [List.mem_singleton] at hp
        subst hp
        exact fun i k1 k2 => h1 i k1 (by have : i < k + 1 := k2; omega)
    · rename_i he
      refine ⟨fun i k1 k2 => ?_, h2⟩
      by_cases hi : i = k + 1
      · subst hi; simpa using he
      · exact h1 i k1 (by omega)
theorem grp_no6 (l : List LI) (ps : List Pt) {p : Nat × Nat} (hp : p ∈ groupsP l ps) : ∀ i, i + 1 < (sub ps p).length → kd l (sub ps p) i ≠ 6 := by
  intro i hi
  have hb := (gS_bd l ps ps.length).2.2 p hp
  rw [sub_len hb.2] at hi
  have h := (gS_in l ps ps.length).2 p hp (p.1 + i + 1) (by omega) (by omega)
  unfold kd
  rw [sub_get hb.2 (by omega)]
  unfold endG at h
  split at h
  · cases h
  · split at h
    · cases h
    · rename_i h6
      have : p.1 + i + 1 - 1 = p.1 + i := by omega
      rw [this] at h6
      exact h6
theorem grp_of (l : List LI) (ps : List Pt) {p : Nat × Nat} (hp : p ∈ groupsP l ps) : toG (mkG l ps p) = gpOf l (sub ps p) := by
  have hb := (gS_bd l ps ps.length).2.2 p hp
  have hl := sub_len (ps := ps) hb.2
  show (⟨wAll (sub ps p), gtailP l (sub ps p), kd l ps (p.2 - 1) == 6⟩ : Gp) = ⟨wAll (sub ps p), gtailP l (sub ps p), mustB l (sub ps p)⟩
  have : mustB l (sub ps p) = (kd l ps (p.2 - 1) == 6) := by
    unfold mustB kd
    rw [hl, sub_get hb.2 (by omega), show p.1 + (p.2 - p.1 - 1) = p.2 - 1 by omega, decide_eq_true (by omega), Bool.true_and]
  rw [this]
end Go.Proofs.Ytmkgapdadandmaa.Lin
