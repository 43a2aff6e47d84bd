/- Package table: the sum of some numbers. -/
import Derived.Test.YtfkgpkkjiolfpaaShareSum
namespace Go.Proofs.Ytfkgpkkjiolfpaa.Tab
open Go.RowKit Go.Proofs.Ytfkgpkkjiolfpaa.Pl Go.Proofs.Ytfkgpkkjiolfpaa.Fx Go.Proofs.Ytfkgpkkjiolfpaa.Sh Go.Proofs.Ytfkgpkkjiolfpaa.Sm Go.Proofs.YtfkgpkkjiolfpaaW.PrintWords Go.Proofs.YtfkgpkkjiolfpaaW.PrintMore
set_option linter.unusedVariables false
set_option linter.unusedSimpArgs false

theorem tsum_c (W : World) (A : Option Addr) (n c : Nat) (xs : List Int) (hr : ReadsInt W .i64 A n xs) (hb : ∀ k, -4000000000000000000 ≤ (xs.take k).sum ∧ (xs.take k).sum ≤ 4000000000000000000) :
    Calls Try.prog 61 #[.slice A n c] W fun e w' => e = .returned (.int .i64 xs.sum) ∧ W = w' := by
  obtain ⟨hl, hn, hc⟩ := hr
  have HL := Lib.hid hl
  have HB := Lib.hid hb
  clear hl hb
  go_enter Try.func61, Try.ntmps61
  go_wp2
  go_loop [2, 7] (fun a i => ∃ k : Nat, k ≤ n ∧ i = .int .i64 k ∧ a = .int .i64 (xs.take k).sum) (fun _ i => n - (intOf i).toNat)
  case atStart => exact ⟨0, Nat.zero_le _, rfl, rfl⟩
  case round =>
    obtain ⟨k, hk, rfl, rfl⟩ := hrel
    by_cases hlt : k < n
    · obtain ⟨ad, rfl, hcell⟩ := hc (by omega)
      have hx := hcell k hlt
      have h1 := take_sum xs k (by rw [HL.out]; exact hlt)
      have hb1 := HB.out (k + 1)
      rw [h1] at hb1
      obtain ⟨b1, b2⟩ := hb1
      have H1 := Lib.hid h1
      clear h1 hcell hc
      generalize xs.getD k 0 = x at *
      go_wp2
      go_round
      case rel => exact ⟨k + 1, by omega, by go_num, by rw [H1.out]⟩
      case measure => simp [intOf]; omega
    · clear hc
      have hkn : xs.take k = xs := List.take_of_length_le (by rw [HL.out]; omega)
      rw [hkn]
      clear hkn
      go_wp2
      go_ret
      exact ⟨rfl, rfl⟩
end Go.Proofs.Ytfkgpkkjiolfpaa.Tab
