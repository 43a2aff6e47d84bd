/- Lists of commands within a group, or a clip: plain. -/
import Derived.Test.YtfkgpkkjiolfpaaBetween
import Derived.Test.YtfkgpkkjiolfpaaRasDraw
namespace Go.Proofs.Ytfkgpkkjiolfpaa.Ras
open Go.RowKit Go.Lib Go.Proofs.Ytfkgpkkjiolfpaa.Blk Go.Proofs.Ytfkgpkkjiolfpaa.Rgn Go.Proofs.Ytfkgpkkjiolfpaa.Pl Go.Proofs.Ytfkgpkkjiolfpaa.Fx Go.Proofs.Ytfkgpkkjiolfpaa.Fnt Go.Proofs.YtfkgpkkjiolfpaaW.PrintWords Go.Proofs.YtfkgpkkjiolfpaaW.PrintLast Go.Proofs.YtfkgpkkjiolfpaaW.PrintMore
set_option linter.unusedVariables false
set_option linter.unusedSimpArgs false
attribute [local go_sem] mx2 mn2 mx_two mn_two mx_three mn_three

def grp (n : Int) : Cm := ⟨4, 0, 0, 0, 0, 0, 0, n, ⟨#[]⟩⟩
def endC : Cm := ⟨5, 0, 0, 0, 0, 0, 0, 0, ⟨#[]⟩⟩
theorem map_nil (x : Except Int (List LD)) : x.map (([] : List LD) ++ ·) = x := by cases x <;> rfl
theorem map_cons (x : Except Int (List LD)) (d : LD) (o : List LD) : (x.map (o ++ ·)).map (d :: ·) = x.map ((d :: o) ++ ·) := by cases x <;> rfl
/-- What goes well on some states goes well on more below them. -/
theorem flat_under (l r : List Cm) (t : List St) : ∀ (s : List St) (out : List LD) (hs : s ≠ []), flatGo l s = .ok out → flatGo (l ++ r) (s ++ t) = (flatGo r (s.getLast hs :: t)).map (out ++ ·) := by
  induction l with
  | nil =>
    intro s out hs h
    rw [flatGo] at h
    split at h
    · cases h
    · rename_i hl
      injection h with h
      subst h
      match s, hs, hl with
      | [x], _, _ => rw [map_nil]; rfl
      | x :: y :: s, _, hl => simp at hl
  | cons c l ih =>
    intro s out hs h
    match s, hs with
    | now :: rest, hs =>
      rw [flatGo] at h
      rw [List.cons_append, List.cons_append, flatGo]
      by_cases h1 : c.f0 = 1 ∨ c.f0 = 2
      · rw [if_pos h1] at h ⊢
        cases hg : flatGo l (now :: rest) with
        | error e => rw [hg] at h; cases h
        | ok o =>
          rw [hg] at h
          injection h with h
          subst h
          have := ih (now :: rest) o hs hg
          rw [List.cons_append] at this
          rw [this, map_cons]
      · rw [if_neg h1] at h ⊢
        by_cases h3 : c.f0 = 3
        · rw [if_pos h3] at h ⊢
          have := ih _ out (List.cons_ne_nil _ _) h
          rw [List.getLast_cons hs] at this
          exact this
        · rw [if_neg h3] at h ⊢
          by_cases h4 : c.f0 = 4
          · rw [if_pos h4] at h ⊢
            have := ih _ out (List.cons_ne_nil _ _) h
            rw [List.getLast_cons hs] at this
            exact this
          · rw [if_neg h4] at h ⊢
            by_cases h5 : c.f0 = 5
            · rw [if_pos h5] at h ⊢
              by_cases h0 : rest = []
              · rw [if_pos h0] at h; cases h
              · rw [if_neg h0] at h
                rw [if_neg (by simp [h0])]
                have := ih rest out h0 h
                rw [this, List.getLast_cons h0]
            · rw [if_neg h5] at h; cases h
theorem flat_end (b g : St) : flatGo [endC] [g, b] = .ok [] := by
  rw [flatGo, if_neg (by decide), if_neg (by decide), if_neg (by decide), if_pos (by decide), if_neg (by simp), flatGo]
  rfl
/-- A list that goes well, between a group's or a clip's beginning and its end. -/
theorem flat_in (l : List Cm) (g : St) (out : List LD) (c : Cm) (hc : ∀ l', flatGo (c :: l') [⟨allR, 1000⟩] = flatGo l' [g, ⟨allR, 1000⟩]) (h : flatGo l [g] = .ok out) : flatP (([c] ++ l) ++ [endC]) = .ok out := by
  unfold flatP
  rw [List.append_assoc, List.singleton_append, hc]
  have := flat_under l [endC] [⟨allR, 1000⟩] [g] out (by simp) h
  rw [List.singleton_append] at this
  rw [this, List.getLast_singleton, flat_end]
  show Except.ok (out ++ []) = Except.ok out
  rw [List.append_nil]
theorem grp_in (n : Int) (l' : List Cm) : flatGo (grp n :: l') [⟨allR, 1000⟩] = flatGo l' [⟨allR, 1000 * partP n / 1000⟩, ⟨allR, 1000⟩] := by
  rw [flatGo, if_neg (by show ¬((4 : Int) = 1 ∨ (4 : Int) = 2); omega), if_neg (by show ¬(4 : Int) = 3; omega), if_pos (by show (4 : Int) = 4; rfl)]
  rfl
theorem part_full (l : List Cm) (out : List LD) (h : flatP l = .ok out) : flatP (([grp 1000] ++ l) ++ [endC]) = .ok out := flat_in l ⟨allR, 1000⟩ out (grp 1000) (fun l' => by rw [grp_in]; rfl) h
/-- How far all is seen changes not what goes well. -/
theorem flat_zero (l : List Cm) : ∀ (s1 s2 : List St) (out : List LD), s1.map (fun x => x.f0) = s2.map (fun x => x.f0) → (∀ x, x ∈ s2 → x.f1 = 0) → flatGo l s1 = .ok out → ∃ out2, flatGo l s2 = .ok out2 ∧ ∀ d, d ∈ out2 → d.f2 = 0 := by
  induction l with
  | nil =>
    intro s1 s2 out hm hz h
    have hl : s1.length = s2.length := by have := congrArg List.length hm; simpa using this
    rw [flatGo] at h ⊢
    rw [← hl]
    split at h
    · cases h
    · rename_i hh
      rw [if_neg hh]
      exact ⟨[], rfl, fun d hd => by simp at hd⟩
  | cons c l ih =>
    intro s1 s2 out hm hz h
    match s1, s2 with
    | [], [] => rw [flatGo] at h; cases h
    | [], y :: ys => simp at hm
    | x :: xs, [] => simp at hm
    | now :: rest, now2 :: rest2 =>
      simp only [List.map_cons, List.cons.injEq] at hm
      have hz0 := hz now2 (List.mem_cons_self ..)
      have hzr : ∀ x, x ∈ rest2 → x.f1 = 0 := fun x hx => hz x (List.mem_cons_of_mem _ hx)
      have hlr : rest = [] ↔ rest2 = [] := by
        have := congrArg List.length hm.2
        simp only [List.length_map] at this
        rw [← List.length_eq_zero_iff, ← List.length_eq_zero_iff, this]
      rw [flatGo] at h ⊢
      by_cases h1 : c.f0 = 1 ∨ c.f0 = 2
      · rw [if_pos h1] at h ⊢
        cases hg : flatGo l (now :: rest) with
        | error e => rw [hg] at h; cases h
        | ok o =>
          obtain ⟨o2, e2, e3⟩ := ih (now :: rest) (now2 :: rest2) o (by simp only [List.map_cons]; rw [hm.1, hm.2]) hz hg
          rw [e2]
          refine ⟨_, rfl, fun d hd => ?_⟩
          rcases List.mem_cons.1 hd with rfl | hd
          · exact hz0
          · exact e3 d hd
      · rw [if_neg h1] at h ⊢
        by_cases h3 : c.f0 = 3
        · rw [if_pos h3] at h ⊢
          exact ih _ _ out (by simp only [List.map_cons]; rw [hm.1, hm.2]) (fun x hx => by rcases List.mem_cons.1 hx with rfl | hx; exact hz0; exact hz x hx) h
        · rw [if_neg h3] at h ⊢
          by_cases h4 : c.f0 = 4
          · rw [if_pos h4] at h ⊢
            exact ih _ _ out (by simp only [List.map_cons]; rw [hm.1, hm.2]) (fun x hx => by rcases List.mem_cons.1 hx with rfl | hx; (show now2.f1 * partP c.f7 / 1000 = 0; rw [hz0, Int.zero_mul]; rfl); exact hz x hx) h
          · rw [if_neg h4] at h ⊢
            by_cases h5 : c.f0 = 5
            · rw [if_pos h5] at h ⊢
              by_cases h0 : rest = []
              · rw [if_pos h0] at h; cases h
              · rw [if_neg h0] at h
                rw [if_neg (fun e => h0 (hlr.2 e))]
                exact ih rest rest2 out hm.2 hzr h
            · rw [if_neg h5] at h; cases h
theorem alpha_none (top n : Int) (h : n = 0) : alphaP top n = 0 := by subst h; exact alpha_zero top
theorem pixel_none (out : List LD) (hz : ∀ d, d ∈ out → d.f2 = 0) (x y : Int) : pixelP out x y 4294967295 = 4294967295 := by
  unfold pixelP
  induction out with
  | nil => rfl
  | cons d out ih =>
    rw [List.foldl_cons]
    have e : (if coversB d x y = true then overP d.f0.f6 4294967295 d.f2 else 4294967295) = 4294967295 := by
      split
      · rw [over_none d.f0.f6 4294967295 d.f2 (alpha_none _ _ (hz d (List.mem_cons_self ..))) (by decide)]
        decide
      · rfl
    rw [e]
    exact ih fun d hd => hz d (List.mem_cons_of_mem _ hd)
theorem draw_none (out : List LD) (W H : Nat) (hz : ∀ d, d ∈ out → d.f2 = 0) : drawP out W H = List.replicate (W * H) 4294967295 := by
  unfold drawP
  apply List.ext_getElem
  · simp
  · intro i h1 h2
    simp only [List.getElem_map, List.getElem_replicate]
    exact pixel_none out hz _ _
theorem part_none (l : List Cm) (out : List LD) (h : flatP l = .ok out) : ∃ out2, flatP (([grp 0] ++ l) ++ [endC]) = .ok out2 ∧ ∀ W H, drawP out2 W H = List.replicate (W * H) 4294967295 := by
  obtain ⟨o2, h2, hz⟩ := flat_zero l [⟨allR, 1000⟩] [⟨allR, 0⟩] out rfl (fun x hx => by rw [List.mem_singleton] at hx; subst hx; rfl) h
  exact ⟨o2, flat_in l ⟨allR, 0⟩ o2 (grp 0) (fun l' => by rw [grp_in]; rfl) h2, fun W H => draw_none o2 W H hz⟩
/-! ### Within a clip -/
def clipC (r : LR) : Cm := ⟨3, 0, r.f0, r.f1, r.f2, r.f3, 0, 0, ⟨#[]⟩⟩
theorem clip_in (r : LR) (l' : List Cm) : flatGo (clipC r :: l') [⟨allR, 1000⟩] = flatGo l' [⟨meetR allR (rectR (clipC r)), 1000⟩, ⟨allR, 1000⟩] := by
  rw [flatGo, if_neg (by show ¬((3 : Int) = 1 ∨ (3 : Int) = 2); omega), if_pos (by show (3 : Int) = 3; rfl)]
theorem within_iff (r : LR) (x y : Int) : withinB r x y = true ↔ r.f0 ≤ x ∧ x - r.f0 < r.f2 ∧ r.f1 ≤ y ∧ y - r.f1 < r.f3 := by
  unfold withinB
  simp
theorem within_meet (a b : LR) (x y : Int) : withinB (meetR a b) x y = (withinB a x y && withinB b x y) := by
  rw [Bool.eq_iff_iff, Bool.and_eq_true, within_iff, within_iff, within_iff]
  unfold meetR
  split
  · rename_i h
    simp only
    omega
  · simp only
    omega
/-- Each drawn as before, but within K alone. -/
def Kin (K : LR) (d d2 : LD) : Prop := d2.f0 = d.f0 ∧ d2.f2 = d.f2 ∧ ∀ x y, withinB d2.f1 x y = (withinB K x y && withinB d.f1 x y)
def KinS (K : LR) (s s2 : St) : Prop := s2.f1 = s.f1 ∧ ∀ x y, withinB s2.f0 x y = (withinB K x y && withinB s.f0 x y)
def KinL (K : LR) : List LD → List LD → Prop
  | [], [] => True
  | a :: xs, b :: ys => Kin K a b ∧ KinL K xs ys
  | _, _ => False
theorem flat_clip (K : LR) (l : List Cm) : ∀ (s1 s2 : List St) (out : List LD), s1.length = s2.length → (∀ i (h1 : i < s1.length) (h2 : i < s2.length), KinS K s1[i] s2[i]) → flatGo l s1 = .ok out → ∃ out2, flatGo l s2 = .ok out2 ∧ KinL K out out2 := by
  induction l with
  | nil =>
    intro s1 s2 out hl hk h
    rw [flatGo] at h ⊢
    rw [← hl]
    split at h
    · cases h
    · rename_i hh
      rw [if_neg hh]
      injection h with h
      subst h
      exact ⟨[], rfl, trivial⟩
  | cons c l ih =>
    intro s1 s2 out hl hk h
    match s1, s2 with
    | [], [] => rw [flatGo] at h; cases h
    | [], y :: ys => simp at hl
    | x :: xs, [] => simp at hl
    | now :: rest, now2 :: rest2 =>
      have h0k : KinS K now now2 := hk 0 (by simp) (by simp)
      have hlr : rest.length = rest2.length := by simpa using hl
      have hkr : ∀ i (h1 : i < rest.length) (h2 : i < rest2.length), KinS K rest[i] rest2[i] := fun i h1 h2 => hk (i + 1) (by simp; omega) (by simp; omega)
      have push : ∀ a b, KinS K a b → ∀ i (h1 : i < (a :: now :: rest).length) (h2 : i < (b :: now2 :: rest2).length), KinS K (a :: now :: rest)[i] (b :: now2 :: rest2)[i] := fun a b hab i h1 h2 => by
        cases i with
        | zero => exact hab
        | succ i => exact hk i (by simpa using h1) (by simpa using h2)
      rw [flatGo] at h ⊢
      by_cases h1 : c.f0 = 1 ∨ c.f0 = 2
      · rw [if_pos h1] at h ⊢
        cases hg : flatGo l (now :: rest) with
        | error e => rw [hg] at h; cases h
        | ok o =>
          rw [hg] at h
          injection h with h
          subst h
          obtain ⟨o2, e2, e3⟩ := ih (now :: rest) (now2 :: rest2) o hl hk hg
          rw [e2]
          exact ⟨_, rfl, ⟨rfl, h0k.1, h0k.2⟩, e3⟩
      · rw [if_neg h1] at h ⊢
        by_cases h3 : c.f0 = 3
        · rw [if_pos h3] at h ⊢
          refine ih _ _ out (by simp [hlr]) (push ⟨meetR now.f0 (rectR c), now.f1⟩ ⟨meetR now2.f0 (rectR c), now2.f1⟩ ⟨h0k.1, fun x y => ?_⟩) h
          show withinB (meetR now2.f0 (rectR c)) x y = (withinB K x y && withinB (meetR now.f0 (rectR c)) x y)
          rw [within_meet, within_meet, h0k.2, Bool.and_assoc]
        · rw [if_neg h3] at h ⊢
          by_cases h4 : c.f0 = 4
          · rw [if_pos h4] at h ⊢
            exact ih _ _ out (by simp [hlr]) (push ⟨now.f0, now.f1 * partP c.f7 / 1000⟩ ⟨now2.f0, now2.f1 * partP c.f7 / 1000⟩ ⟨by show now2.f1 * partP c.f7 / 1000 = now.f1 * partP c.f7 / 1000; rw [h0k.1], h0k.2⟩) h
          · rw [if_neg h4] at h ⊢
            by_cases h5 : c.f0 = 5
            · rw [if_pos h5] at h ⊢
              by_cases h0 : rest = []
              · rw [if_pos h0] at h; cases h
              · rw [if_neg h0] at h
                rw [if_neg (fun e => h0 (by rw [e] at hlr; exact List.eq_nil_of_length_eq_zero hlr))]
                exact ih rest rest2 out hlr hkr h
            · rw [if_neg h5] at h; cases h
theorem covers_in {K : LR} {d d2 : LD} (h : Kin K d d2) (x y : Int) : coversB d2 x y = (withinB K x y && coversB d x y) := by
  unfold coversB
  rw [h.2.2, h.1, Bool.and_assoc]
theorem pixel_in {K : LR} (x y : Int) : ∀ {o o2 : List LD}, KinL K o o2 → ∀ c, pixelP o2 x y c = if withinB K x y = true then pixelP o x y c else c := by
  intro o
  induction o with
  | nil =>
    intro o2 h c
    cases o2 with
    | nil => unfold pixelP; simp
    | cons _ _ => exact h.elim
  | cons d o ih =>
    intro o2 h c
    cases o2 with
    | nil => exact h.elim
    | cons d2 o2 =>
      obtain ⟨hd, h2⟩ := h
      have e := covers_in hd x y
      have ih2 := ih h2
      unfold pixelP at ih2 ⊢
      rw [List.foldl_cons, List.foldl_cons, ih2, e, hd.1, hd.2.1]
      cases hk : withinB K x y <;> simp
theorem clip_out (r : LR) (l : List Cm) (out : List LD) (h : flatP l = .ok out) : ∃ out2, flatP (([clipC r] ++ l) ++ [endC]) = .ok out2 ∧ KinL (meetR allR (rectR (clipC r))) out out2 := by
  obtain ⟨o2, h2, hk⟩ := flat_clip (meetR allR (rectR (clipC r))) l [⟨allR, 1000⟩] [⟨meetR allR (rectR (clipC r)), 1000⟩] out rfl (fun i h1 h2 => by
    have : i = 0 := by simpa using h1
    subst this
    exact ⟨rfl, fun x y => by
      show withinB (meetR allR (rectR (clipC r))) x y = (withinB (meetR allR (rectR (clipC r))) x y && withinB allR x y)
      rw [within_meet]
      cases withinB allR x y <;> cases withinB (rectR (clipC r)) x y <;> rfl⟩) h
  exact ⟨o2, flat_in l _ o2 (clipC r) (clip_in r) h2, hk⟩
end Go.Proofs.Ytfkgpkkjiolfpaa.Ras
