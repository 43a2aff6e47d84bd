/- slices.stableCmpFunc, SortStableFunc at cells: the row holds the same cells, in some order. -/
import Derived.Test.YtfkgpkkjiolfpaaTabSm3
namespace Go.Proofs.Ytfkgpkkjiolfpaa.Tab
open Go.RowKit Go.Lib Go.Proofs.Ytfkgpkkjiolfpaa.Pl Go.Proofs.Ytfkgpkkjiolfpaa.Fx Go.Proofs.Ytfkgpkkjiolfpaa.Rgn Go.Proofs.Ytfkgpkkjiolfpaa.Blk Go.Proofs.YtfkgpkkjiolfpaaW.PrintWords Go.Proofs.YtfkgpkkjiolfpaaW.PrintLast Go.Proofs.YtfkgpkkjiolfpaaW.PrintMore
set_option linter.unusedVariables false
set_option linter.unusedSimpArgs false
attribute [local go_sem] mx2 mn2 mx_two mn_two mx_three mn_three

set_option maxRecDepth 1000000 in
set_option maxHeartbeats 4000000 in
theorem stb_c (g n cp : Nat) (xs : List Ce) (Br : Nat) (ok : Nat → Prop) (w0 w : World) (hR : Sorted xs g n cp Br ok w0 w) (hs : ∀ x, x ∈ xs → SpanB x) (hn : xs.length = n) (hn2 : n ≤ 1000000) :
    Calls Try.prog 83 #[.slice (some ⟨g, 0, none⟩) n cp, .int .i64 n, .func (.func 58) #[] #[]] w (SortPost xs g n cp Br ok w0) := by
  have HR := Lib.hid hR
  have INS := Lib.hid fun a b W (h : Sorted xs g n cp Br ok w0 W) (h1 : a ≤ b) (h2 : b ≤ n) => ins_c g n cp a b xs Br ok w0 W h hs hn hn2 h1 h2
  have SM := Lib.hid fun a m b W (h : Sorted xs g n cp Br ok w0 W) (h1 : a < m) (h2 : m < b) (h3 : b ≤ n) => sm_c g n cp xs Br ok w0 hs hn hn2 b a m b W h h1 h2 h3 (by omega)
  clear hR
  go_enter Try.func83, Try.ntmps83
  go_wp2_with fail
  go_loopw [7, 8] (fun av bv wr => ∃ a : Nat, av = .int .i64 a ∧ bv = .int .i64 ((a + 20 : Nat) : Int) ∧ a ≤ n ∧ Hid (Sorted xs g n cp Br ok w0 wr)) (fun av _ _ => n - (RowKit.intOf av).toNat)
  case atStart => exact ⟨0, rfl, rfl, Nat.zero_le _, HR⟩
  case round =>
    obtain ⟨a, rfl, rfl, ha, hR⟩ := hrel
    obtain ⟨b, hb⟩ : ∃ b, b = a + 20 := ⟨_, rfl⟩
    rw [← hb]
    have hb2 : a + 20 ≤ b ∧ b ≤ a + 20 := by omega
    clear hb
    by_cases hle : b ≤ n
    · have I := Lib.hid (INS.out a b wr hR.out (by omega) hle)
      have n1 : decide (b ≤ n) = true := decide_eq_true hle
      clear hR
      go_wp2_with fail
      refine I.out.mono ?_
      rintro e w1 ⟨rfl, h1⟩
      have H1 := Lib.hid h1
      clear h1
      go_wp2_with fail
      go_roundw
      case rel => exact ⟨b, by go_num, by go_num, hle, H1.out⟩
      case measure => simp [RowKit.intOf]; omega
    · have I := Lib.hid (INS.out a n wr hR.out ha (Nat.le_refl _))
      have n1 : decide (b ≤ n) = false := decide_eq_false hle
      clear hR
      go_wp2_with fail
      refine I.out.mono ?_
      rintro e w1 ⟨rfl, h1⟩
      have H1 := Lib.hid h1
      clear h1
      go_wp2_with fail
      go_loopw [6] (fun sv wr => ∃ s : Nat, sv = .int .i64 s ∧ 20 ≤ s ∧ s ≤ 2000000 ∧ Hid (Sorted xs g n cp Br ok w0 wr)) (fun sv _ => n - (RowKit.intOf sv).toNat)
      case atStart => exact ⟨20, rfl, Nat.le_refl _, by omega, H1⟩
      case round =>
        obtain ⟨s, rfl, hs1, hs2, hR2⟩ := hrel
        by_cases hlt : s < n
        · have n2 : decide (s < n) = true := decide_eq_true hlt
          go_wp2_with fail
          go_loopw [7, 8] (fun av bv wr => ∃ a b : Nat, av = .int .i64 a ∧ bv = .int .i64 b ∧ a + 2 * s ≤ b ∧ b ≤ a + 2 * s ∧ a ≤ n ∧ Hid (Sorted xs g n cp Br ok w0 wr)) (fun av _ _ => n - (RowKit.intOf av).toNat)
          case atStart => exact ⟨0, 2 * s, rfl, by go_num, by omega, by omega, Nat.zero_le _, hR2⟩
          case round =>
            obtain ⟨a, b, rfl, rfl, hb1, hb2, ha, hR3⟩ := hrel
            by_cases hle : b ≤ n
            · have I := Lib.hid (SM.out a (a + s) b wr hR3.out (by omega) (by omega) hle)
              rw [show ((a + s : Nat) : Int) = (a : Int) + (s : Int) by omega] at I
              have n3 : decide (b ≤ n) = true := decide_eq_true hle
              clear hR3
              go_wp2_with fail
              refine I.out.mono ?_
              rintro e w1 ⟨rfl, h1⟩
              have H1 := Lib.hid h1
              clear h1
              go_wp2_with fail
              go_roundw
              case rel => exact ⟨b, b + 2 * s, by go_num, by go_num, by omega, by omega, hle, H1.out⟩
              case measure => simp [RowKit.intOf]; omega
            · have n3 : decide (b ≤ n) = false := decide_eq_false hle
              by_cases hm : a + s < n
              · have I := Lib.hid (SM.out a (a + s) n wr hR3.out (by omega) hm (Nat.le_refl _))
                rw [show ((a + s : Nat) : Int) = (a : Int) + (s : Int) by omega] at I
                have n4 : decide ((a : Int) + (s : Int) < (n : Int)) = true := decide_eq_true (by omega)
                clear hR3
                go_wp2_with fail
                refine I.out.mono ?_
                rintro e w1 ⟨rfl, h1⟩
                have H1 := Lib.hid h1
                clear h1
                go_wp2_with fail
                go_roundw
                case rel => exact ⟨s * 2, by go_num, by omega, by omega, H1.out⟩
                case measure => simp [RowKit.intOf]; omega
              · have n4 : decide ((a : Int) + (s : Int) < (n : Int)) = false := decide_eq_false (by omega)
                go_wp2_with fail
                go_roundw
                case rel => exact ⟨s * 2, by go_num, by omega, by omega, hR3.out⟩
                case measure => simp [RowKit.intOf]; omega
        · have n2 : decide (s < n) = false := decide_eq_false hlt
          go_wp2_with fail
          go_end0
          exact ⟨rfl, hR2.out⟩
theorem sort_c (g n cp : Nat) (xs : List Ce) (Br : Nat) (ok : Nat → Prop) (w0 w : World) (hR : Sorted xs g n cp Br ok w0 w) (hs : ∀ x, x ∈ xs → SpanB x) (hn : xs.length = n) (hn2 : n ≤ 1000000) :
    Calls Try.prog 57 #[.slice (some ⟨g, 0, none⟩) n cp, .func (.func 58) #[] #[]] w (SortPost xs g n cp Br ok w0) := by
  have ST := Lib.hid (stb_c g n cp xs Br ok w0 w hR hs hn hn2)
  clear hR hs
  go_enter Try.func57, Try.ntmps57
  go_wp2_with fail
  refine ST.out.mono ?_
  rintro e w1 ⟨rfl, h1⟩
  have H1 := Lib.hid h1
  clear h1
  go_wp2_with fail
  go_end0
  exact ⟨rfl, H1.out⟩
end Go.Proofs.Ytfkgpkkjiolfpaa.Tab
