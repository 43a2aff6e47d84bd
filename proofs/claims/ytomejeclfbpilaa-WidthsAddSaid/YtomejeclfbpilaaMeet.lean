/- margins.Meet: what margins are together. -/
import Derived.Test.YtomejeclfbpilaaFix
import Derived.Test.YtomejeclfbpilaaWWords
namespace Go.Proofs.Ytomejeclfbpilaa.Mg
open Go.RowKit Go.Proofs.Ytomejeclfbpilaa.Pl Go.Proofs.Ytomejeclfbpilaa.Fx Go.Proofs.YtomejeclfbpilaaW.PrintWords
set_option linter.unusedVariables false
set_option linter.unusedSimpArgs false
attribute [local go_sem] mx2 mn2 mx_two mn_two mx_three mn_three

/-- The greatest of 0 and the clamped numbers; the least. -/
def hi (xs : List Int) : Int := xs.foldl (fun a x => max a (cut x)) 0
def lo (xs : List Int) : Int := xs.foldl (fun a x => min a (cut x)) 0
def meet (xs : List Int) : Int := cut (hi xs + lo xs)
theorem hi_snoc (xs : List Int) (x : Int) : hi (xs ++ [x]) = max (hi xs) (cut x) := by simp [hi]
theorem lo_snoc (xs : List Int) (x : Int) : lo (xs ++ [x]) = min (lo xs) (cut x) := by simp [lo]
theorem take_snoc' (xs : List Int) (k : Nat) (h : k < xs.length) : xs.take (k + 1) = xs.take k ++ [xs.getD k 0] := by
  rw [List.take_succ_eq_append_getElem h]; simp [List.getD_eq_getElem?_getD, h]
theorem hi_bd (xs : List Int) (n : Nat) : 0 ≤ hi (xs.take n) ∧ hi (xs.take n) ≤ 16777216 ∧ -16777216 ≤ lo (xs.take n) ∧ lo (xs.take n) ≤ 0 := by
  induction n with
  | zero => simp [hi, lo]
  | succ n ih =>
    by_cases h : n < xs.length
    · rw [take_snoc' xs n h, hi_snoc, lo_snoc]
      have := cut_bd (xs.getD n 0)
      omega
    · rw [List.take_of_length_le (by omega)]
      rw [List.take_of_length_le (by omega)] at ih
      exact ih

theorem Meet_c (w : World) (A : Option Addr) (n c : Nat) (xs : List Int) (h : ReadsInt w .i64 A n xs) :
    Calls Try.prog 14 #[.slice A n c] w fun e w' => e = .returned (.int .i64 (meet xs)) ∧ w = w' := by
  obtain ⟨hl, hn, hc⟩ := h
  have HL := Lib.hid hl
  clear hl
  go_enter Try.func14, Try.ntmps14
  go_wp2
  go_loop [3, 4, 9] (fun m l i => ∃ k : Nat, k ≤ n ∧ i = .int .i64 k ∧ m = .int .i64 (hi (xs.take k)) ∧ l = .int .i64 (lo (xs.take k))) (fun _ _ i => n - (intOf i).toNat)
  case atStart => exact ⟨0, Nat.zero_le _, rfl, rfl, rfl⟩
  case round =>
    obtain ⟨k, hk, rfl, rfl, rfl⟩ := hrel
    have hb := hi_bd xs k
    by_cases hlt : k < n
    · obtain ⟨ad, rfl, hcell⟩ := hc (by omega)
      have hx := hcell k hlt
      have h1 : hi (xs.take (k + 1)) = max (hi (xs.take k)) (cut (xs.getD k 0)) := by rw [take_snoc' xs k (by rw [HL.out]; exact hlt), hi_snoc]
      have h2 : lo (xs.take (k + 1)) = min (lo (xs.take k)) (cut (xs.getD k 0)) := by rw [take_snoc' xs k (by rw [HL.out]; exact hlt), lo_snoc]
      have H1 := Lib.hid h1
      have H2 := Lib.hid h2
      clear h1 h2 hc hcell
      generalize xs.getD k 0 = x at *
      go_wp2_with (go_at_call 17; refine (Cut_c _ _).mono ?_; rintro e w' ⟨rfl, rfl⟩)
      go_round
      case rel => exact ⟨k + 1, by omega, by go_num, by rw [H1.out], by rw [H2.out]⟩
      case measure => simp [intOf]; omega
    · clear hc
      have hkn : xs.take k = xs := List.take_of_length_le (by rw [HL.out]; omega)
      rw [hkn] at hb ⊢
      clear hkn
      go_wp2_with (go_at_call 17; refine (Cut_c _ _).mono ?_; rintro e w' ⟨rfl, rfl⟩)
      go_ret
      exact ⟨rfl, rfl⟩

theorem lit_reads (W : World) (e : TypeId) (k : IntKind) (xs : List Int) (hm : xs.length ≤ 9223372036854775807) : ReadsInt (W.alloc (.cells (nums k xs).toArray e)) k (some ⟨W.heap.size, 0, none⟩) xs.length xs := by
  obtain ⟨A, c, he, hr⟩ := own_reads (own_lit W 0 e k xs (Nat.zero_le _) hm)
  injection he with h1 h2 h3
  rw [h1]
  exact hr

theorem met_c (w : World) : Calls Try.prog 13 #[] w fun e w' => e = .returned (.bool true) ∧ Below w.heap.size w w' := by
  have h1 : meet [5, -2, 9, -7] = 2 := by decide
  have hx : (meet [5, -2, 9, -7] == 2) = true := by simp [h1]
  have hr := lit_reads w 3 .i64 [5, -2, 9, -7] (by decide)
  have HR : Hid (ReadsInt (w.alloc (.cells #[.int .i64 5, .int .i64 (-2), .int .i64 9, .int .i64 (-7)] 3)) .i64 (some ⟨w.heap.size, 0, none⟩) 4 [5, -2, 9, -7]) := Lib.hid hr
  clear h1 hr
  go_enter Try.func13, Try.ntmps13
  go_wp2_with (go_at_call 14; refine (Meet_c _ _ _ _ _ HR.out).mono ?_; rintro e w' ⟨rfl, rfl⟩)
  go_ret
  exact ⟨by simp [hx], below_alloc (Below.refl _ _) _⟩

end Go.Proofs.Ytomejeclfbpilaa.Mg
