/- Plain facts on whole numbers: clamping to 2^24, rounding division, sharing. No program, no memory. -/
import Derived.WalkKit
namespace Go.Proofs.Ytmkgapdadandmaa.Pl

/-- Clamp to [-2^24, 2^24]. -/
def cut (n : Int) : Int := min (max n (-16777216)) 16777216
theorem cut_bd (n : Int) : -16777216 ≤ cut n ∧ cut n ≤ 16777216 := by unfold cut; omega
theorem cut_id {n : Int} (h1 : -16777216 ≤ n) (h2 : n ≤ 16777216) : cut n = n := by unfold cut; omega
theorem cut_mono {a b : Int} (h : a ≤ b) : cut a ≤ cut b := by unfold cut; omega
theorem cut_cut (n : Int) : cut (cut n) = cut n := cut_id (cut_bd n).1 (cut_bd n).2
theorem cut_pos {n : Int} : 0 < cut n ↔ 0 < n := by unfold cut; omega
theorem cut_neg {n : Int} : cut n < 0 ↔ n < 0 := by unfold cut; omega
theorem cut_nonneg {n : Int} : 0 ≤ cut n ↔ 0 ≤ n := by unfold cut; omega

/-- Rounding down of a quotient by what is above 0. -/
theorem ediv_bd {n d : Int} (hd : 0 < d) : (0 ≤ n → 0 ≤ n / d ∧ n / d ≤ n) ∧ (n < 0 → n ≤ n / d ∧ n / d < 0) := by
  constructor
  · intro h
    exact ⟨Int.ediv_nonneg h (by omega), Int.ediv_le_self _ h⟩
  · intro h
    refine ⟨?_, Int.ediv_neg_of_neg_of_pos h hd⟩
    rw [Int.le_ediv_iff_mul_le hd]
    have : n * d ≤ n * 1 := Int.mul_le_mul_of_nonpos_left (by omega) (by omega)
    omega
theorem ediv_mono {a b d : Int} (hd : 0 < d) (h : a ≤ b) : a / d ≤ b / d := Int.ediv_le_ediv hd h
theorem mul_ediv_self {a d : Int} (hd : 0 < d) : a * d / d = a := Int.mul_ediv_cancel _ (by omega)

/-- Go's quotient and remainder, turned into rounding down. -/
theorem tdiv_floor {n d : Int} (hd : 0 < d) : (if Int.tmod n d = 0 then Int.tdiv n d else if n < 0 then Int.tdiv n d - 1 else Int.tdiv n d) = n / d := by
  by_cases h : Int.tmod n d = 0
  · rw [if_pos h, Int.tdiv_eq_ediv, if_pos (Or.inr (Int.dvd_of_tmod_eq_zero h))]; omega
  · rw [if_neg h]
    have hnd : ¬ d ∣ n := fun hh => h (Int.tmod_eq_zero_of_dvd hh)
    by_cases hn : n < 0
    · rw [if_pos hn, Int.tdiv_eq_ediv, if_neg (by rintro (h1 | h1); omega; exact hnd h1)]
      rw [Int.sign_eq_one_of_pos hd]; omega
    · rw [if_neg hn, Int.tdiv_eq_ediv, if_pos (Or.inl (by omega))]; omega

/-- A product of two clamped numbers. -/
theorem mul_bd {a b A B : Int} (ha1 : -A ≤ a) (ha2 : a ≤ A) (hb1 : -B ≤ b) (hb2 : b ≤ B) : -(A * B) ≤ a * b ∧ a * b ≤ A * B := by
  have hA : 0 ≤ A := by omega
  have hB : 0 ≤ B := by omega
  have h : (a * b).natAbs ≤ (A * B).natAbs := by
    rw [Int.natAbs_mul, Int.natAbs_mul]
    exact Nat.mul_le_mul (by omega) (by omega)
  have hAB : 0 ≤ A * B := Int.mul_nonneg hA hB
  omega

/-- A part of a number. -/
def prt (n up down : Int) : Int := if cut down = 0 then 0 else cut ((cut n * cut up) / cut down)
theorem prt_mono {n m up down : Int} (h : n ≤ m) (hu : 0 ≤ up) (hd : 0 < down) : prt n up down ≤ prt m up down := by
  have hd' : 0 < cut down := cut_pos.2 hd
  unfold prt
  rw [if_neg (by omega), if_neg (by omega)]
  exact cut_mono (ediv_mono hd' (Int.mul_le_mul_of_nonneg_right (cut_mono h) (cut_nonneg.2 hu)))
theorem prt_self {n down : Int} (hd : 0 < down) : prt n down down = cut n := by
  have hd' : 0 < cut down := cut_pos.2 hd
  unfold prt
  rw [if_neg (by omega), mul_ediv_self hd', cut_cut]
end Go.Proofs.Ytmkgapdadandmaa.Pl
