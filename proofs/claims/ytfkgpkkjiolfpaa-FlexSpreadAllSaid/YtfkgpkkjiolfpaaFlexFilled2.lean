/- Flexible rows: where all may grow the room is filled: the whole. -/
import Derived.Test.YtfkgpkkjiolfpaaFlexFilled
namespace Go.Proofs.Ytfkgpkkjiolfpaa.Flx
open Go.RowKit Go.Lib Go.Proofs.Ytfkgpkkjiolfpaa.Pl Go.Proofs.Ytfkgpkkjiolfpaa.Fx Go.Proofs.Ytfkgpkkjiolfpaa.Sh Go.Proofs.Ytfkgpkkjiolfpaa.Sm Go.Proofs.YtfkgpkkjiolfpaaW.PrintWords Go.Proofs.YtfkgpkkjiolfpaaW.PrintMore
set_option linter.unusedVariables false

theorem run_rest (g : Bool) (room first : Int) (n : Nat) (l : List It) (h : unset l = 0) : runP g room first n l = l := by
  cases n with
  | zero => rfl
  | succ n => unfold runP; rw [if_neg (by omega)]
theorem run_filled (room first : Int) (hr : room ≤ 8388608) : ∀ (n : Nat) (l : List It), (∀ k, k < l.length → Gr (gI l k)) → 0 < slack room l → l.length ≤ 12 → 0 < unset l → unset l ≤ n → freeP room (fun x => x.f3) (runP true room first n l) = 0 := by
  intro n
  induction n with
  | zero => intro l _ _ _ h1 h2; omega
  | succ n ih =>
    intro l hG hs hl hu hn
    have T := turn_free room first l hG hs hr hl hu
    have hlt := turnG_less true room first l hu
    have hle := turnG_len true room first l
    unfold runP
    rw [if_pos hu]
    by_cases h0 : unset (turnG true room first l) = 0
    · rw [run_rest _ _ _ _ _ h0]
      exact T.1 h0
    · obtain ⟨t1, t2⟩ := T.2 (by omega)
      exact ih _ (fun k hk => t1 k (by omega)) (by rw [t2]; exact hs) (by omega) (by omega) (by omega)
/-- An item that may grow, with no most. -/
def fillI (x : LF) : LF := ⟨x.f0, x.f1, -1, x.f3 + 1000, x.f4, x.f5⟩
theorem filled (room gap : Int) (l : List LF) (hl : l.length ≤ 12) (h0 : 0 < l.length) (hx : ∀ k, k < l.length → ∃ x, l.getD k z37 = fillI (mildI x)) (hr0 : -8388608 ≤ room) (hr1 : room ≤ 8388608) (hg0 : 0 ≤ gap) (hg1 : gap ≤ 255)
    (hlong : gap * max 0 ((l.length : Int) - 1) + sm l.length (fun k => max (l.getD k z37).f0 (l.getD k z37).f1 + (l.getD k z37).f5) < room) :
    gap * ((l.length : Int) - 1) + sm l.length (fun k => (mainsP room gap l).getD k 0 + (l.getD k z37).f5) = room := by
  have hm : max 0 ((l.length : Int) - 1) = (l.length : Int) - 1 := by omega
  rw [hm] at hlong
  have hrp : roomP room gap l.length = room - gap * ((l.length : Int) - 1) := by
    unfold roomP
    rw [hm, cut_id (by omega) (by omega), cut_id (n := gap) (by omega) (by omega), show max 0 gap = gap by omega]
  have hpr : 0 ≤ gap * ((l.length : Int) - 1) := Int.mul_nonneg hg0 (by omega)
  generalize gap * ((l.length : Int) - 1) = gp at *
  obtain ⟨its, hits⟩ : ∃ its, l.map mkIt = its := ⟨_, rfl⟩
  have hil : its.length = l.length := by rw [← hits, List.length_map]
  have hgi : ∀ k, k < l.length → gI its k = mkIt (l.getD k z37) := by
    intro k hk
    subst hits
    simp [gI, List.getD_eq_getElem?_getD, hk]
  -- each item
  have hit : ∀ k, k < l.length → Gr (gI its k) ∧ (gI its k).f2 = false ∧ (gI its k).f1 = max (gI its k).f0.f0 (gI its k).f0.f1 ∧ (gI its k).f0.f0 = (l.getD k z37).f0 ∧ (gI its k).f0.f1 = (l.getD k z37).f1 ∧ (gI its k).f0.f5 = (l.getD k z37).f5 := by
    intro k hk
    obtain ⟨x, hxk⟩ := hx k hk
    rw [hgi k hk, hxk]
    have b0 := u16_bd x.f0
    have b1 := u16_bd x.f1
    have b3 := u16_bd x.f3
    have b5 := i8_bd x.f5
    have e0 : (fillI (mildI x)).f0 = IntKind.u16.wrap x.f0 := rfl
    have e1 : (fillI (mildI x)).f1 = IntKind.u16.wrap x.f1 / 8 := rfl
    have e2 : (fillI (mildI x)).f2 = -1 := rfl
    have e3 : (fillI (mildI x)).f3 = IntKind.u16.wrap x.f3 + 1000 := rfl
    have e5 : (fillI (mildI x)).f5 = IntKind.i8.wrap x.f5 := rfl
    generalize fillI (mildI x) = y at *
    generalize IntKind.u16.wrap x.f0 = u0 at *
    generalize IntKind.u16.wrap x.f1 = u1 at *
    generalize IntKind.u16.wrap x.f3 = u3 at *
    generalize IntKind.i8.wrap x.f5 = u5 at *
    have c0 : cut y.f0 = y.f0 := cut_id (by omega) (by omega)
    have c1 : max 0 (cut y.f1) = y.f1 := by rw [cut_id (by omega) (by omega)]; omega
    have c2 : cut y.f2 = -1 := by rw [e2]; exact cut_id (by omega) (by omega)
    have c3 : bnd y.f3 = y.f3 := by unfold bnd; omega
    have c5 : cut y.f5 = y.f5 := cut_id (by omega) (by omega)
    have m0 : (mkIt y).f0.f0 = y.f0 := c0
    have m1 : (mkIt y).f0.f1 = y.f1 := c1
    have m2 : (mkIt y).f0.f2 = -1 := c2
    have m3 : (mkIt y).f0.f3 = y.f3 := c3
    have m5 : (mkIt y).f0.f5 = y.f5 := c5
    have m6 : (mkIt y).f1 = max y.f0 y.f1 := by
      show btw (cut y.f0) (max 0 (cut y.f1)) (cut y.f2) = _
      rw [c0, c1, c2]
      exact btw_most (by omega) (by omega) (by omega) (by omega)
    refine ⟨⟨by rw [m0]; omega, by rw [m1]; omega, m2, by rw [m3]; omega, by rw [m5]; omega, fun h => ?_⟩, rfl, by rw [m6, m0, m1], m0, m1, m5⟩
    have h' : false = true := h
    exact absurd h' (by decide)
  have hsl : slack (room - gp) its = room - gp - sm l.length (fun k => max (l.getD k z37).f0 (l.getD k z37).f1 + (l.getD k z37).f5) := by
    unfold slack
    rw [hil]
    congr 1
    refine sm_congr _ _ _ fun k hk => ?_
    obtain ⟨_, _, _, h3, h4, h5⟩ := hit k hk
    rw [h3, h4, h5]
  have hspos : 0 < slack (room - gp) its := by omega
  have hgrow : growsP (room - gp) its = true := by
    unfold growsP
    refine decide_eq_true ?_
    rw [free_sm, hil]
    have : sm l.length (fun k => (gI its k).f1 + (gI its k).f0.f5) = sm l.length (fun k => max (gI its k).f0.f0 (gI its k).f0.f1 + (gI its k).f0.f5) := sm_congr _ _ _ fun k hk => by rw [(hit k hk).2.2.1]
    unfold slack at hspos
    rw [hil] at hspos
    show 0 < room - gp - sm l.length (fun k => (gI its k).f1 + (gI its k).f0.f5)
    rw [this]
    exact hspos
  have hstart : startP (room - gp) its = its := by
    apply List.ext_getElem
    · simp [startP]
    · intro k h1 h2
      have hk : k < l.length := by omega
      obtain ⟨hG, hf, h1', h3, h4, h5⟩ := hit k hk
      have e : its[k] = gI its k := by simp [gI, List.getD_eq_getElem?_getD, h2]
      simp only [startP, List.getElem_map, hgrow]
      rw [e]
      generalize gI its k = y at *
      obtain ⟨g0, g1, g2, g3, g5, g6⟩ := hG
      unfold initI facP
      rw [if_neg]
      simp only [if_true]
      rintro (h | ⟨_, h⟩ | ⟨h, _⟩)
      · omega
      · omega
      · exact absurd h (by decide)
  have hun : unset its = its.length := by
    rw [unset_eq]
    rw [List.filter_eq_self.2]
    · exact List.length_range
    · intro k hk
      have hk' := List.mem_range.1 hk
      rw [hil] at hk'
      have := (hit k hk').2.1
      show (!(gI its k).f2) = true
      rw [this]; rfl
  have hE : endP (room - gp) its = runP true (room - gp) (freeP (room - gp) nowOf its) its.length its := by
    unfold endP
    rw [hgrow, hstart]
  have hF : freeP (room - gp) (fun x => x.f3) (endP (room - gp) its) = 0 := by
    rw [hE]
    exact run_filled _ _ (by omega) _ _ (fun k hk => (hit k (by omega)).1) hspos (by omega) (by omega) (by omega)
  have hI := inv_end (room - gp) l
  rw [hits] at hI
  rw [free_sm, hI.1, hil] at hF
  have hS : sm l.length (fun k => (mainsP room gap l).getD k 0 + (l.getD k z37).f5) = sm l.length (fun k => (gI (endP (room - gp) its) k).f3 + (gI (endP (room - gp) its) k).f0.f5) := by
    refine sm_congr _ _ _ fun k hk => ?_
    have hset := all_set (end_set (room - gp) its) k (by rw [hI.1]; omega)
    obtain ⟨i1, i2⟩ := hI.2 k (by rw [hI.1]; omega)
    obtain ⟨n, hn⟩ := i2 hset
    have e : (mainsP room gap l).getD k 0 = max 0 (gI (endP (room - gp) its) k).f3 := by
      unfold mainsP
      rw [hrp, hits]
      have hk2 : k < (endP (room - gp) its).length := by rw [hI.1]; omega
      simp [gI, List.getD_eq_getElem?_getD, hk2]
    have hpos : 0 ≤ (gI (endP (room - gp) its) k).f3 := by
      show 0 ≤ ((endP (room - gp) its).getD k z95).f3
      rw [hn, i1]
      have hG := (hit k hk).1
      obtain ⟨_, g1, _⟩ := hG
      have hb : cut ((its.getD k z95).f0.f1) ≤ btw n ((its.getD k z95).f0.f1) ((its.getD k z95).f0.f2) := by
        unfold btw
        omega
      have hc : cut ((its.getD k z95).f0.f1) = (its.getD k z95).f0.f1 := cut_id (by have : 0 ≤ (its.getD k z95).f0.f1 := g1.1; omega) (by have : (its.getD k z95).f0.f1 ≤ 65535 := g1.2; omega)
      have : 0 ≤ (its.getD k z95).f0.f1 := g1.1
      omega
    have i1' : (gI (endP (room - gp) its) k).f0 = (gI its k).f0 := i1
    rw [e, i1', (hit k hk).2.2.2.2.2]
    omega
  rw [hS]
  have hF' : room - gp - sm l.length (fun k => (gI (endP (room - gp) its) k).f3 + (gI (endP (room - gp) its) k).f0.f5) = 0 := hF
  omega
end Go.Proofs.Ytfkgpkkjiolfpaa.Flx
