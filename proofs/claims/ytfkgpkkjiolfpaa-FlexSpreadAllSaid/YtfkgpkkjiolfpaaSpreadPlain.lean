/- Spread items: what it comes to, plain. -/
import Derived.Test.YtfkgpkkjiolfpaaShareSum
namespace Go.Proofs.Ytfkgpkkjiolfpaa.Spd
open Go.RowKit Go.Proofs.Ytfkgpkkjiolfpaa.Pl Go.Proofs.Ytfkgpkkjiolfpaa.Fx Go.Proofs.Ytfkgpkkjiolfpaa.Sh Go.Proofs.Ytfkgpkkjiolfpaa.Sm Go.Proofs.YtfkgpkkjiolfpaaW.PrintWords Go.Proofs.YtfkgpkkjiolfpaaW.PrintMore
set_option linter.unusedVariables false

/-- The mode, where nothing is free. -/
def modeP (fr mode : Int) : Int := if fr ≤ 0 then (if mode = 4 then 0 else if mode = 5 then 2 else mode) else mode
/-- A part told to a place. -/
def addAt (o : List Int) (i : Nat) (x : Int) : List Int := o.set i (o.getD i 0 + x)
/-- Around: each part but the last goes half the way. -/
def aroundP (ps : List Int) (n : Nat) : Nat → List Int
  | 0 => List.replicate n 0
  | i + 1 => addAt (aroundP ps n i) ((i + 1) / 2) (ps.getD i 0)
def spreadP (mode free : Int) (n : Nat) : List Int :=
  let fr := cut free
  let md := modeP fr mode
  if n = 0 then []
  else if md = 1 then (List.replicate n 0).set 0 fr
  else if md = 2 then (List.replicate n 0).set 0 (prt fr 1 2)
  else if md = 4 then 0 :: share fr (List.replicate (n - 1) 1)
  else if md = 5 then aroundP (share fr (List.replicate (2 * n) 1)) n (2 * n - 1)
  else List.replicate n 0
theorem addAt_len (o : List Int) (i : Nat) (x : Int) : (addAt o i x).length = o.length := by simp [addAt]
theorem around_len (ps : List Int) (n : Nat) : ∀ i, (aroundP ps n i).length = n := by
  intro i
  induction i with
  | zero => simp [aroundP]
  | succ i ih => rw [aroundP, addAt_len, ih]
theorem set_sum (o : List Int) (i : Nat) (x : Int) (h : i < o.length) : (o.set i x).sum = o.sum - o.getD i 0 + x := by
  induction o generalizing i with
  | nil => simp at h
  | cons a o ih =>
    cases i with
    | zero => simp; omega
    | succ i =>
      have h' : i < o.length := by simpa using h
      have := ih i h'
      simp only [List.set_cons_succ, List.sum_cons, List.getD_cons_succ]
      omega
theorem zero_sum (n : Nat) : (List.replicate n (0 : Int)).sum = 0 := by
  induction n with
  | zero => rfl
  | succ n ih => rw [List.replicate_succ, List.sum_cons, ih]; rfl
theorem zero_get (n i : Nat) : (List.replicate n (0 : Int)).getD i 0 = 0 := by
  simp [List.getD_eq_getElem?_getD, List.getElem?_replicate]
  split <;> rfl
theorem around_facts (ps : List Int) (n : Nat) (hp : ∀ k, 0 ≤ ps.getD k 0) : ∀ i, i ≤ 2 * n - 1 → i ≤ ps.length → (∀ x, x ∈ aroundP ps n i → 0 ≤ x) ∧ (aroundP ps n i).sum = (ps.take i).sum := by
  intro i
  induction i with
  | zero => intro _ _; exact ⟨fun x hx => by rw [aroundP] at hx; have := (List.mem_replicate.1 hx).2; omega, by rw [aroundP, zero_sum]; rfl⟩
  | succ i ih =>
    intro h1 h2
    obtain ⟨h3, h4⟩ := ih (by omega) (by omega)
    have hl := around_len ps n i
    have hi : (i + 1) / 2 < (aroundP ps n i).length := by omega
    have hge : 0 ≤ (aroundP ps n i).getD ((i + 1) / 2) 0 := by
      have e : (aroundP ps n i).getD ((i + 1) / 2) 0 = (aroundP ps n i)[(i + 1) / 2] := by simp [List.getD_eq_getElem?_getD, hi]
      rw [e]; exact h3 _ (List.getElem_mem hi)
    rw [aroundP]
    unfold addAt
    refine ⟨fun x hx => ?_, ?_⟩
    · rcases List.mem_or_eq_of_mem_set hx with h | rfl
      · exact h3 x h
      · have := hp i; omega
    · rw [set_sum _ _ _ hi, take_sum ps i (by omega), h4]
      omega
theorem ones_ws (k : Nat) (h0 : 0 < k) (h : k ≤ 1000) : ¬ ws (List.replicate k 1) (List.replicate k (1 : Int)).length = 0 := by
  rw [ws_pos_iff _ (by rw [List.length_replicate]; exact h)]
  intro hall
  have := hall 0 (by rw [List.length_replicate]; exact h0)
  simp [List.getD_eq_getElem?_getD, h0] at this
theorem ones_share (fr : Int) (k : Nat) (h0 : 0 ≤ fr) (h1 : fr ≤ 65535) (hk : k ≤ 1000) : (∀ i, 0 ≤ (share fr (List.replicate k 1)).getD i 0) ∧ (0 < k → (share fr (List.replicate k 1)).sum = fr) ∧ (share fr (List.replicate k 1)).length = k := by
  have hl : (share fr (List.replicate k 1)).length = k := by rw [share_len, List.length_replicate]
  refine ⟨fun i => ?_, fun hk0 => ?_, hl⟩
  · by_cases hi : i < k
    · exact (share_at fr (List.replicate k 1) i (by rw [List.length_replicate]; exact hi) (by rw [List.length_replicate]; exact hk)).2.1 h0
    · rw [List.getD_eq_getElem?_getD, List.getElem?_eq_none (by rw [hl]; omega)]
      exact Int.le_refl _
  · rw [share_sum, if_neg (ones_ws k hk0 hk)]
    exact cut_id (by omega) (by omega)
theorem nonneg_of (xs : List Int) (h : ∀ i, 0 ≤ xs.getD i 0) : ∀ x, x ∈ xs → 0 ≤ x := by
  intro x hx
  obtain ⟨i, hi, rfl⟩ := List.getElem_of_mem hx
  have := h i
  rwa [List.getD_eq_getElem?_getD, List.getElem?_eq_getElem hi] at this
theorem take_le_sum (xs : List Int) (h : ∀ i, 0 ≤ xs.getD i 0) (k : Nat) (hk : k < xs.length) (hk2 : k + 1 = xs.length) : (xs.take k).sum ≤ xs.sum := by
  have h1 := take_sum xs k hk
  rw [hk2, List.take_of_length_le (Nat.le_refl _)] at h1
  have := h k
  omega
theorem half_bd (fr : Int) (h0 : 0 ≤ fr) (h1 : fr ≤ 65535) : 0 ≤ prt fr 1 2 ∧ prt fr 1 2 ≤ fr := by
  unfold prt
  rw [cut_id (n := fr) (by omega) (by omega), cut_id (n := 1) (by omega) (by omega), cut_id (n := 2) (by omega) (by omega)]
  rw [if_neg (by omega)]
  have e : cut (fr * 1 / 2) = fr * 1 / 2 := cut_id (by omega) (by omega)
  first
    | (rw [e]; omega)
    | (unfold cut; omega)
theorem spread_facts (mode fr : Int) (n : Nat) (h0 : 0 ≤ fr) (h1 : fr ≤ 65535) (hn : n ≤ 50) : (spreadP mode fr n).length = n ∧ (∀ x, x ∈ spreadP mode fr n → 0 ≤ x) ∧ (spreadP mode fr n).sum ≤ fr ∧ (mode = 4 → 2 ≤ n → (spreadP mode fr n).sum = fr) := by
  have hc : cut fr = fr := cut_id (by omega) (by omega)
  unfold spreadP
  simp only [hc]
  have one : ∀ v : Int, 0 ≤ v → v ≤ fr → 0 < n → ((List.replicate n 0).set 0 v).length = n ∧ (∀ x, x ∈ (List.replicate n 0).set 0 v → 0 ≤ x) ∧ ((List.replicate n 0).set 0 v).sum ≤ fr := by
    intro v hv hv2 hn0
    refine ⟨by simp, fun x hx => ?_, ?_⟩
    · rcases List.mem_or_eq_of_mem_set hx with h | rfl
      · have := (List.mem_replicate.1 h).2; omega
      · exact hv
    · rw [set_sum _ _ _ (by rw [List.length_replicate]; exact hn0), zero_sum, zero_get]; omega
  have rep : (List.replicate n (0 : Int)).length = n ∧ (∀ x, x ∈ List.replicate n (0 : Int) → 0 ≤ x) ∧ (List.replicate n (0 : Int)).sum ≤ fr :=
    ⟨by simp, fun x hx => by have := (List.mem_replicate.1 hx).2; omega, by rw [zero_sum]; exact h0⟩
  by_cases hn0 : n = 0
  · rw [if_pos hn0]
    exact ⟨by simp [hn0], fun x hx => by simp at hx, by simpa using h0, fun _ h => by omega⟩
  · rw [if_neg hn0]
    have m4 : mode = 4 → modeP fr mode = (if fr ≤ 0 then 0 else 4) := fun h => by subst h; unfold modeP; simp
    by_cases a1 : modeP fr mode = 1
    · rw [if_pos a1]
      obtain ⟨b1, b2, b3⟩ := one fr h0 (Int.le_refl _) (by omega)
      exact ⟨b1, b2, b3, fun h => by have := m4 h; rw [a1] at this; split at this <;> omega⟩
    · rw [if_neg a1]
      by_cases a2 : modeP fr mode = 2
      · rw [if_pos a2]
        obtain ⟨b1, b2, b3⟩ := one (prt fr 1 2) (half_bd fr h0 h1).1 (half_bd fr h0 h1).2 (by omega)
        exact ⟨b1, b2, b3, fun h => by have := m4 h; rw [a2] at this; split at this <;> omega⟩
      · rw [if_neg a2]
        by_cases a4 : modeP fr mode = 4
        · rw [if_pos a4]
          obtain ⟨o1, o2, o3⟩ := ones_share fr (n - 1) h0 h1 (by omega)
          refine ⟨by simp [o3]; omega, fun x hx => ?_, ?_, fun _ h2 => ?_⟩
          · rcases List.mem_cons.1 hx with rfl | h
            · exact Int.le_refl _
            · exact nonneg_of _ o1 x h
          · rw [List.sum_cons]
            by_cases hk : 0 < n - 1
            · rw [o2 hk]; omega
            · have : share fr (List.replicate (n - 1) 1) = [] := List.eq_nil_of_length_eq_zero (by rw [o3]; omega)
              rw [this]
              simpa using h0
          · rw [List.sum_cons, o2 (by omega)]; omega
        · rw [if_neg a4]
          have no4 : mode = 4 → fr = 0 := fun h => by have := m4 h; rw [this] at a4; split at a4 <;> omega
          by_cases a5 : modeP fr mode = 5
          · rw [if_pos a5]
            obtain ⟨o1, o2, o3⟩ := ones_share fr (2 * n) h0 h1 (by omega)
            obtain ⟨f1, f2⟩ := around_facts (share fr (List.replicate (2 * n) 1)) n o1 (2 * n - 1) (Nat.le_refl _) (by rw [o3]; omega)
            have hle := take_le_sum _ o1 (2 * n - 1) (by rw [o3]; omega) (by rw [o3]; omega)
            rw [o2 (by omega)] at hle
            refine ⟨around_len _ _ _, f1, by rw [f2]; exact hle, fun h => ?_⟩
            have := m4 h; rw [a5] at this; split at this <;> omega
          · rw [if_neg a5]
            obtain ⟨b1, b2, b3⟩ := rep
            exact ⟨b1, b2, b3, fun h _ => by rw [zero_sum, no4 h]⟩
end Go.Proofs.Ytfkgpkkjiolfpaa.Spd
