/- Contracts of package fix: what Cut, floor, Part, Between come to. For every input. -/
import Derived.Test.YtmkgapdadandmaaProg
import Derived.Test.YtmkgapdadandmaaPl
import Derived.WalkKit
import Derived.WalkLawsBesides
import Derived.KernelRfl
import Derived.Lib.Hide
namespace Go.Proofs.Ytmkgapdadandmaa.Fx
open Go.RowKit Go.Proofs.Ytmkgapdadandmaa.Pl
set_option linter.unusedVariables false
set_option linter.unusedSimpArgs false

theorem mx2 (k k' : IntKind) (x y : Int) : Builtin.max2 (.int k x) (.int k' y) = pure (.int k (max x y)) := by
  simp only [Builtin.max2, gt_iff_lt]
  congr 2
  split <;> omega
theorem mn2 (k k' : IntKind) (x y : Int) : Builtin.min2 (.int k x) (.int k' y) = pure (.int k (min x y)) := by
  simp only [Builtin.min2]
  congr 2
  split <;> omega
theorem mx_two (ats : Array TypeId) (ty : TypeId) (a b : Value) : Builtin.max_ ats ty #[a, b] = (Builtin.max2 a b >>= fun s => pure s) := by simp only [Builtin.max_, List.foldlM_cons, List.foldlM_nil]
theorem mn_two (ats : Array TypeId) (ty : TypeId) (a b : Value) : Builtin.min_ ats ty #[a, b] = (Builtin.min2 a b >>= fun s => pure s) := by simp only [Builtin.min_, List.foldlM_cons, List.foldlM_nil]
theorem mx_three (ats : Array TypeId) (ty : TypeId) (a b c : Value) : Builtin.max_ ats ty #[a, b, c] = (Builtin.max2 a b >>= fun s => Builtin.max2 s c >>= fun s => pure s) := by simp only [Builtin.max_, List.foldlM_cons, List.foldlM_nil]
theorem mn_three (ats : Array TypeId) (ty : TypeId) (a b c : Value) : Builtin.min_ ats ty #[a, b, c] = (Builtin.min2 a b >>= fun s => Builtin.min2 s c >>= fun s => pure s) := by simp only [Builtin.min_, List.foldlM_cons, List.foldlM_nil]
attribute [local go_sem] mx2 mn2 mx_two mn_two mx_three mn_three

theorem Cut_c (n : Int) (w : World) : Calls Try.prog 17 #[.int .i64 n] w fun e w' => e = .returned (.int .i64 (cut n)) ∧ w = w' := by
  go_enter Try.func17, Try.ntmps17
  go_wp2
  go_ret
  exact ⟨rfl, rfl⟩

theorem wrap_id {x : Int} (h1 : -9223372036854775808 ≤ x) (h2 : x ≤ 9223372036854775807) : wrap64 x = x := by
  unfold wrap64; omega

theorem floor_c (n d : Int) (w : World) (hd : 0 < d) (h1 : -9000000000000000000 ≤ n) (h2 : n ≤ 9000000000000000000) :
    Calls Try.prog 59 #[.int .i64 n, .int .i64 d] w fun e w' => e = .returned (.int .i64 (n / d)) ∧ w = w' := by
  have hf := tdiv_floor (n := n) hd
  have hb := ediv_bd (n := n) hd
  have ht : -9000000000000000000 ≤ Int.tdiv n d ∧ Int.tdiv n d ≤ 9000000000000000001 := by
    by_cases h : Int.tmod n d = 0
    · rw [if_pos h] at hf; omega
    · rw [if_neg h] at hf
      by_cases hn : n < 0
      · rw [if_pos hn] at hf; omega
      · rw [if_neg hn] at hf; omega
  have hz : ¬ d = 0 := by omega
  have hd0 : decide (d < 0) = false := decide_eq_false (by omega)
  have hw : wrap64 (Int.tdiv n d) = Int.tdiv n d := wrap_id (by omega) (by omega)
  have hw1 : wrap64 (Int.tdiv n d - 1) = Int.tdiv n d - 1 := wrap_id (by omega) (by omega)
  obtain ⟨t1, t2⟩ := ht
  clear hb
  by_cases h : Int.tmod n d = 0
  · rw [if_pos h] at hf
    have HF := Lib.hid hf
    have hx : (Int.tmod n d != 0) = false := by simp [h]
    clear hf h h1 h2
    go_enter Try.func59, Try.ntmps59
    go_wp2
    go_ret
    exact ⟨by rw [← HF.out]; simp, rfl⟩
  · rw [if_neg h] at hf
    have hx : (Int.tmod n d != 0) = true := by simp [h]
    by_cases hn : n < 0
    · rw [if_pos hn] at hf
      have HF := Lib.hid hf
      have hy : (decide (n < 0) != decide (d < 0)) = true := by simp [hn, hd0]
      clear hf h h1 h2
      go_enter Try.func59, Try.ntmps59
      go_wp2
      go_ret
      exact ⟨by rw [← HF.out]; simp, rfl⟩
    · rw [if_neg hn] at hf
      have HF := Lib.hid hf
      have hy : (decide (n < 0) != decide (d < 0)) = false := by simp [hn, hd0]
      clear hf h h1 h2
      go_enter Try.func59, Try.ntmps59
      go_wp2
      all_goals
        go_ret
        exact ⟨by rw [← HF.out]; simp, rfl⟩

/-- A part: up, down from 0 on, or down above 0. -/
theorem Part_c (n up down : Int) (w : World) (hd : 0 ≤ down) :
    Calls Try.prog 41 #[.int .i64 n, .int .i64 up, .int .i64 down] w fun e w' => e = .returned (.int .i64 (prt n up down)) ∧ w = w' := by
  have b1 := cut_bd n
  have b2 := cut_bd up
  have b4 : 0 ≤ cut down := cut_nonneg.2 hd
  have hm := mul_bd b1.1 b1.2 b2.1 b2.2
  have hw : wrap64 (cut n * cut up) = cut n * cut up := wrap_id (by omega) (by omega)
  by_cases h : cut down = 0
  · have hp : prt n up down = 0 := by unfold prt; rw [if_pos h]
    have HP := Lib.hid hp
    have hx : (cut down == 0) = true := by simp [h]
    clear hp h hm hw b1 b2 b4
    go_enter Try.func41, Try.ntmps41
    go_wp2_with (go_at_call 17; refine (Cut_c _ _).mono ?_; rintro e w' ⟨rfl, rfl⟩)
    go_ret
    exact ⟨by rw [HP.out]; rfl, rfl⟩
  · have hp : prt n up down = cut (cut n * cut up / cut down) := by unfold prt; rw [if_neg h]
    have HP := Lib.hid hp
    have hx : (cut down == 0) = false := by simp [h]
    have hd1 : 0 < cut down := by omega
    have l1 : -9000000000000000000 ≤ cut n * cut up := by omega
    have l2 : cut n * cut up ≤ 9000000000000000000 := by omega
    clear hp h hm b1 b2 b4
    go_enter Try.func41, Try.ntmps41
    go_wp2_with (first | (go_at_call 17; refine (Cut_c _ _).mono ?_; rintro e w' ⟨rfl, rfl⟩) | (go_at_call 59; refine (floor_c _ _ _ hd1 l1 l2).mono ?_; rintro e w' ⟨rfl, rfl⟩))
    go_ret
    exact ⟨by rw [HP.out]; rfl, rfl⟩

end Go.Proofs.Ytmkgapdadandmaa.Fx
