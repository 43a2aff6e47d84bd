/- Package damage: what the law on it needs, plain; a row of one rectangle. -/
import Derived.Test.YtfkgpkkjiolfpaaDamage3
import Derived.Test.YtfkgpkkjiolfpaaWRepsOne
namespace Go.Proofs.Ytfkgpkkjiolfpaa.Ras
open Go.RowKit Go.Lib Go.Proofs.Ytfkgpkkjiolfpaa.Blk Go.Proofs.Ytfkgpkkjiolfpaa.Rgn Go.Proofs.Ytfkgpkkjiolfpaa.Pl Go.Proofs.Ytfkgpkkjiolfpaa.Fx Go.Proofs.Ytfkgpkkjiolfpaa.Fnt Go.Proofs.YtfkgpkkjiolfpaaW.PrintWords Go.Proofs.YtfkgpkkjiolfpaaW.PrintLast Go.Proofs.YtfkgpkkjiolfpaaW.PrintMore
set_option linter.unusedVariables false
set_option linter.unusedSimpArgs false
attribute [local go_sem] mx2 mn2 mx_two mn_two mx_three mn_three

def fullR : LR := ⟨0, 0, 384, 384⟩
theorem cut_full : ([fullR].take 1000).map cutR = [fullR] := by
  show [(⟨cut 0, cut 0, cut 384, cut 384⟩ : LR)] = [⟨0, 0, 384, 384⟩]
  have h0 : cut 0 = 0 := by decide +kernel
  have h1 : cut 384 = 384 := by decide +kernel
  rw [h0, h1]
theorem full_in : ∀ i, i < 36 → inR [fullR] i = true := by decide +kernel
theorem full_many : manyP [fullR] 36 = 36 := by decide +kernel
theorem full_red (out : List LD) (px : List Int) : redS out [fullR] px 36 = drawP out 6 6 := by
  unfold redS drawP
  apply List.map_congr_left
  intro i hi
  have hi2 := List.mem_range.1 hi
  rw [if_pos hi2]
  unfold redAt
  rw [full_in i hi2]
  rfl
/-- What was, where there is nothing. -/
def oldP (z : List Int) (k : Nat) : List Int := (List.range k).map fun i => if i < z.length then z.getD i 0 else 7
theorem old_len (z : List Int) (k : Nat) : (oldP z k).length = k := by simp [oldP]
theorem old_succ (z : List Int) (k : Nat) : oldP z (k + 1) = oldP z k ++ [if k < z.length then z.getD k 0 else 7] := by
  unfold oldP
  rw [List.range_succ, List.map_append]
  rfl
/-- How many have changed, of the first k. -/
def chP (p o : List Int) : Nat → Nat
  | 0 => 0
  | k + 1 => chP p o k + if p.getD k 0 = o.getD k 0 then 0 else 1
theorem ch_le (p o : List Int) (k : Nat) : chP p o k ≤ k := by
  induction k with
  | zero => exact Nat.le_refl _
  | succ k ih => rw [chP]; split <;> omega
theorem drawP_get6 (o : List LD) (k : Nat) (hk : k < 36) : (drawP o 6 6).getD k 0 = pxy o 6 k := by
  unfold drawP pxy
  simp [List.getD_eq_getElem?_getD, hk]
theorem red_at (out : List LD) (rs : List LR) (px : List Int) (i : Nat) (hi : i < 36) : (redS out rs px 36).getD i 0 = if inR rs i = true then (drawP out 6 6).getD i 0 else px.getD i 0 := by
  rw [redS_get out rs px 36 i hi, if_pos hi]
  unfold redAt
  rw [drawP_get6 out i hi]
theorem ch_many (out : List LD) (rs : List LR) (px : List Int) : ∀ k, k ≤ 36 → chP (redS out rs px 36) px k ≤ manyP rs k := by
  intro k
  induction k with
  | zero => intro _; exact Nat.zero_le _
  | succ k ih =>
    intro hk
    have h1 := ih (by omega)
    rw [chP, many_succ, red_at out rs px k (by omega)]
    cases h : inR rs k
    · simp; omega
    · simp; split <;> omega
theorem reps_lr (w : World) (base : Nat) (ok : Nat → Prop) (r : LR) : Reps (k59.M w base ok) k59.sz [r] (lrV r) := by
  have h : Reps (k59.M w base ok) k59.sz [r] (lrV r ++ []) := Reps.front (k59_mkM w base ok r) rfl (Reps.none _ _) rfl
  rwa [List.append_nil] at h
theorem lit_lr (W : World) (base : Nat) (r : LR) (hb : base ≤ W.heap.size) : Kd.R k59 59 (W.alloc (.cells (lrV r).toArray 59)) base (fun _ => True) (.slice (some ⟨W.heap.size, 0, none⟩) 1 1) [r] :=
  ⟨fun _ _ => trivial, OwnRow.lit W base (reps_lr _ base _ r) hb (by simp)⟩
end Go.Proofs.Ytfkgpkkjiolfpaa.Ras
