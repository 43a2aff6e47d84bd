/- Package raster: one color over another. -/
import Derived.Test.YtfkgpkkjiolfpaaRas1
namespace Go.Proofs.Ytfkgpkkjiolfpaa.Ras
open Go.RowKit Go.Lib Go.Proofs.Ytfkgpkkjiolfpaa.Blk Go.Proofs.Ytfkgpkkjiolfpaa.Rgn Go.Proofs.Ytfkgpkkjiolfpaa.Pl Go.Proofs.Ytfkgpkkjiolfpaa.Fx Go.Proofs.Ytfkgpkkjiolfpaa.Fnt Go.Proofs.YtfkgpkkjiolfpaaW.PrintWords Go.Proofs.YtfkgpkkjiolfpaaW.PrintLast Go.Proofs.YtfkgpkkjiolfpaaW.PrintMore
set_option linter.unusedVariables false
set_option linter.unusedSimpArgs false
attribute [local go_sem] mx2 mn2 mx_two mn_two mx_three mn_three

theorem and255_bd (x : Int) : 0 ≤ Go.bits .and .i64 x 255 ∧ Go.bits .and .i64 x 255 ≤ 255 := by
  have h : Go.bits .and .i64 x 255 = IntKind.i64.wrap ((BitVec.ofInt 64 x &&& BitVec.ofInt 64 255).toNat : Int) := rfl
  have h2 : (BitVec.ofInt 64 x &&& BitVec.ofInt 64 255).toNat ≤ 255 := by
    rw [BitVec.toNat_and]
    exact Nat.and_le_right
  rw [h, show IntKind.i64.wrap ((BitVec.ofInt 64 x &&& BitVec.ofInt 64 255).toNat : Int) = ((BitVec.ofInt 64 x &&& BitVec.ofInt 64 255).toNat : Int) from IntWalk.i64_in _ ⟨by omega, by omega⟩]
  omega
theorem mul_bd2 {t al : Int} (h : 0 ≤ t ∧ t ≤ 255) (g : 0 ≤ al ∧ al ≤ 255) : 0 ≤ t * al ∧ t * al ≤ 65025 :=
  ⟨Int.mul_nonneg h.1 g.1, Int.mul_le_mul h.2 g.2 g.1 (by omega)⟩
theorem alpha_bd (top n : Int) : 0 ≤ alphaP top n ∧ alphaP top n ≤ 255 := by
  have h := and255_bd top
  have p := partP_bd n
  unfold alphaP
  have h1 : 0 ≤ Go.bits .and .i64 top 255 * partP n := Int.mul_nonneg h.1 p.1
  have h2 : Go.bits .and .i64 top 255 * partP n ≤ 255 * 1000 := Int.mul_le_mul h.2 p.2 p.1 (by omega)
  omega
def outP (top under al : Int) : Nat → Int
  | 0 => 255
  | k + 1 => Go.bits .or .i64 (outP top under al k) (mixP top under al (8 + 8 * k) * 2 ^ (8 + 8 * k))
set_option maxHeartbeats 1000000 in
theorem Over_c (top under n : Int) (w : World) : Calls Try.prog 27 #[.int .i64 top, .int .i64 under, .int .i64 n] w fun e w' => e = .returned (.int .i64 (overP top under n)) ∧ Below w.heap.size w w' := by
  have hp := partP_bd n
  have hb := and255_bd top
  have hal := alpha_bd top n
  have h2 : Go.bits .and .i64 top 255 * partP n ≤ 255 * 1000 := Int.mul_le_mul hb.2 hp.2 hp.1 (by omega)
  have h1 : 0 ≤ Go.bits .and .i64 top 255 * partP n := Int.mul_nonneg hb.1 hp.1
  obtain ⟨al, ha3⟩ : ∃ al, alphaP top n = al := ⟨_, rfl⟩
  rw [ha3] at hal
  have hal2 : Go.bits .and .i64 top 255 * partP n / 1000 = al := ha3
  have hov : overP top under n = outP top under al 3 := by rw [← ha3]; rfl
  rw [hov]
  clear hov ha3
  go_enter Try.func27, Try.ntmps27
  go_wp2_with (go_at_call 62; refine (part_c _ _).mono ?_; rintro e w' ⟨rfl, rfl⟩)
  clear h1 h2 hp hb
  rw [hal2]
  clear hal2
  have HAL := Lib.hid hal
  go_loopw [8, 9] (fun o at_ wr => ∃ k : Nat, k ≤ 3 ∧ at_ = .int .i64 ((8 + 8 * k : Nat) : Int) ∧ o = .int .i64 (outP top under al k) ∧ Hid (Below w.heap.size w wr)) (fun _ at_ _ => 33 - (RowKit.intOf at_).toNat)
  case atStart => exact ⟨0, by omega, rfl, rfl, Below.refl _ _⟩
  case round =>
    obtain ⟨k, hk, rfl, rfl, hB⟩ := hrel
    clear hal
    have hal : 0 ≤ al ∧ al ≤ 255 := HAL.out
    obtain rfl | rfl | rfl | rfl : k = 0 ∨ k = 1 ∨ k = 2 ∨ k = 3 := by omega
    · have o1 : outP top under al 1 = Go.bits .or .i64 (outP top under al 0) ((Go.bits .and .i64 (top / 256) 255 * al + Go.bits .and .i64 (under / 256) 255 * (255 - al) + 127) / 255 * 256) := rfl
      have O1 := Lib.hid o1
      have q1 := mul_bd2 (and255_bd (top / 256)) HAL.out
      have q2 := mul_bd2 (and255_bd (under / 256)) (show 0 ≤ 255 - al ∧ 255 - al ≤ 255 by omega)
      have BD : Hid (∀ n, Below w.heap.size w (wr.drewN n)) := Lib.hid fun n => pw_below_drewN hB.out n
      clear o1 hB
      go_wp2_with fail
      go_quiet (fail)
      go_wp2_with fail
      go_roundw
      case rel => exact ⟨1, by omega, by go_num, by rw [O1.out], BD.out _⟩
      case measure => simp [RowKit.intOf]
    · have o1 : outP top under al 2 = Go.bits .or .i64 (outP top under al 1) ((Go.bits .and .i64 (top / 65536) 255 * al + Go.bits .and .i64 (under / 65536) 255 * (255 - al) + 127) / 255 * 65536) := rfl
      have O1 := Lib.hid o1
      have q1 := mul_bd2 (and255_bd (top / 65536)) HAL.out
      have q2 := mul_bd2 (and255_bd (under / 65536)) (show 0 ≤ 255 - al ∧ 255 - al ≤ 255 by omega)
      have BD : Hid (∀ n, Below w.heap.size w (wr.drewN n)) := Lib.hid fun n => pw_below_drewN hB.out n
      clear o1 hB
      go_wp2_with fail
      go_quiet (fail)
      go_wp2_with fail
      go_roundw
      case rel => exact ⟨2, by omega, by go_num, by rw [O1.out], BD.out _⟩
      case measure => simp [RowKit.intOf]
    · have o1 : outP top under al 3 = Go.bits .or .i64 (outP top under al 2) ((Go.bits .and .i64 (top / 16777216) 255 * al + Go.bits .and .i64 (under / 16777216) 255 * (255 - al) + 127) / 255 * 16777216) := rfl
      have O1 := Lib.hid o1
      have q1 := mul_bd2 (and255_bd (top / 16777216)) HAL.out
      have q2 := mul_bd2 (and255_bd (under / 16777216)) (show 0 ≤ 255 - al ∧ 255 - al ≤ 255 by omega)
      have BD : Hid (∀ n, Below w.heap.size w (wr.drewN n)) := Lib.hid fun n => pw_below_drewN hB.out n
      clear o1 hB
      go_wp2_with fail
      go_quiet (fail)
      go_wp2_with fail
      go_roundw
      case rel => exact ⟨3, by omega, by go_num, by rw [O1.out], BD.out _⟩
      case measure => simp [RowKit.intOf]
    · go_wp2_with fail
      go_ret
      exact ⟨rfl, hB.out⟩
end Go.Proofs.Ytfkgpkkjiolfpaa.Ras
