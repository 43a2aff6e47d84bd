/- Pixels: what is opaque hides, what is clear shows, what is between lies between. For every input. -/
import Derived.Test.YtfkgpkkjiolfpaaRows
import Derived.Test.YtfkgpkkjiolfpaaBetween
import Derived.Test.YtfkgpkkjiolfpaaRasLaw0
import Derived.ProofKit
import Derived.OpenShut
import Derived.ShutString
import Derived.ChangeOld
import Derived.Below
import Derived.SizedLaws
namespace Go.Proofs.Ytfkgpkkjiolfpaa.RasterBetween
open Go.RowKit Go.Proofs.Ytfkgpkkjiolfpaa.Ras Go.Proofs.Ytfkgpkkjiolfpaa.Rgn Go.Proofs.Ytfkgpkkjiolfpaa.Pl Go.Proofs.Ytfkgpkkjiolfpaa.Fx Go.Proofs.Ytfkgpkkjiolfpaa.Fnt Go.Proofs.YtfkgpkkjiolfpaaW.PrintWords Go.Proofs.YtfkgpkkjiolfpaaW.PrintLast Go.Proofs.YtfkgpkkjiolfpaaW.PrintMore
open Go.ChangeShapes Go.WideShapes Go.ChangeAt
set_option linter.unusedVariables false
set_option linter.unusedSimpArgs false
attribute [local go_sem] mx2 mn2 mx_two mn_two mx_three mn_three

theorem mid8 (top under n : Int) : min (Go.bits .and .i64 (top / 256) 255) (Go.bits .and .i64 (under / 256) 255) ≤ Go.bits .and .i64 (overP top under n / 256) 255 ∧ Go.bits .and .i64 (overP top under n / 256) 255 ≤ max (Go.bits .and .i64 (top / 256) 255) (Go.bits .and .i64 (under / 256) 255) := by
  have h := mixP_bd top under (alphaP top n) 8 (alpha_bd top n)
  have e := over_byte top under n 8 (.inl rfl)
  rw [← e] at h
  exact ⟨h.2.2.1, h.2.2.2⟩
theorem mid16 (top under n : Int) : min (Go.bits .and .i64 (top / 65536) 255) (Go.bits .and .i64 (under / 65536) 255) ≤ Go.bits .and .i64 (overP top under n / 65536) 255 ∧ Go.bits .and .i64 (overP top under n / 65536) 255 ≤ max (Go.bits .and .i64 (top / 65536) 255) (Go.bits .and .i64 (under / 65536) 255) := by
  have h := mixP_bd top under (alphaP top n) 16 (alpha_bd top n)
  have e := over_byte top under n 16 (.inr (.inl rfl))
  rw [← e] at h
  exact ⟨h.2.2.1, h.2.2.2⟩
theorem mid24 (top under n : Int) : min (Go.bits .and .i64 (top / 16777216) 255) (Go.bits .and .i64 (under / 16777216) 255) ≤ Go.bits .and .i64 (overP top under n / 16777216) 255 ∧ Go.bits .and .i64 (overP top under n / 16777216) 255 ≤ max (Go.bits .and .i64 (top / 16777216) 255) (Go.bits .and .i64 (under / 16777216) 255) := by
  have h := mixP_bd top under (alphaP top n) 24 (alpha_bd top n)
  have e := over_byte top under n 24 (.inr (.inr rfl))
  rw [← e] at h
  exact ⟨h.2.2.1, h.2.2.2⟩
set_option maxRecDepth 100000 in
set_option maxHeartbeats 2000000 in
theorem walk (top under n : Int) (w : World) (h1 : (Lit.int .i64 top).wf = true) (h2 : (Lit.int .i64 under).wf = true) (h3 : (Lit.int .i64 n).wf = true) :
    Calls Try.prog 10 #[.int .i64 top, .int .i64 under, .int .i64 n] w fun e w' => e = .returned (.bool true) ∧ Below w.heap.size w w' := by
  have b1 := bounds_i64 h1
  have b2 := bounds_i64 h2
  have hu : Go.bits .or .i64 under 255 % 256 = 255 := by have := or255 under b2.1 b2.2; omega
  have OV1 := Lib.hid (fun W => Over_c (Go.bits .or .i64 top 255) (Go.bits .or .i64 under 255) 1000 W)
  rw [over_full top _ b1.1 b1.2] at OV1
  have OV2 := Lib.hid (fun W => Over_c top (Go.bits .or .i64 under 255) 0 W)
  rw [over_none top _ 0 (alpha_zero top) hu] at OV2
  have OV3 := Lib.hid (fun W => Over_c (Go.bits .andNot .i64 top 255) (Go.bits .or .i64 under 255) n W)
  rw [over_none _ _ n (alpha_clear top n) hu] at OV3
  have OV4 := Lib.hid (fun W => Over_c top (Go.bits .or .i64 under 255) n W)
  have M8 := Lib.hid (mid8 top (Go.bits .or .i64 under 255) n)
  have M16 := Lib.hid (mid16 top (Go.bits .or .i64 under 255) n)
  have M24 := Lib.hid (mid24 top (Go.bits .or .i64 under 255) n)
  clear b1 b2 h1 h2 h3 hu
  go_enter Try.func10, Try.ntmps10
  go_wp2_with fail
  generalize Go.bits .or .i64 under 255 = u at *
  generalize ht1 : Go.bits .or .i64 top 255 = t1 at *
  refine (OV1.out _).mono ?_
  rintro e w1 ⟨rfl, h1⟩
  have B1 := Lib.hid h1
  clear h1 OV1
  go_wp2_with fail
  with_reducible refine (Rest_c t1 4294967296 w1 (by decide) (by decide)).mono ?_
  rintro e w' ⟨rfl, rfl⟩
  clear ht1
  go_wp2_with fail
  refine (OV2.out _).mono ?_
  rintro e w2 ⟨rfl, h2⟩
  have B2 := Lib.hid (below_then B1.out B1.out.size h2)
  clear h2 OV2 B1
  go_wp2_with fail
  refine (Rest_c u 4294967296 w2 (by decide) (by decide)).mono ?_
  rintro e w' ⟨rfl, rfl⟩
  go_wp2_with fail
  generalize Go.bits .andNot .i64 top 255 = t2 at *
  refine (OV3.out _).mono ?_
  rintro e w3 ⟨rfl, h3⟩
  have B3 := Lib.hid (below_then B2.out B2.out.size h3)
  clear h3 OV3 B2
  go_wp2_with fail
  refine (Rest_c u 4294967296 w3 (by decide) (by decide)).mono ?_
  rintro e w' ⟨rfl, rfl⟩
  go_wp2_with fail
  refine (OV4.out _).mono ?_
  rintro e w4 ⟨rfl, h4⟩
  have B4 := Lib.hid (below_then B3.out B3.out.size h4)
  clear h4 OV4 B3
  go_wp2_with fail
  generalize overP top u n = x at *
  go_loopw [8] (fun at_ wr => ∃ k : Nat, k ≤ 3 ∧ at_ = .int .i64 ((8 + 8 * k : Nat) : Int) ∧ Hid (Below w.heap.size w wr)) (fun at_ _ => 33 - (RowKit.intOf at_).toNat)
  case atStart => exact ⟨0, by omega, rfl, B4.out⟩
  case round =>
    obtain ⟨k, hk, rfl, hB⟩ := hrel
    obtain rfl | rfl | rfl | rfl : k = 0 ∨ k = 1 ∨ k = 2 ∨ k = 3 := by omega
    · have m := M8.out
      have BD : Hid (∀ n, Below w.heap.size w (wr.drewN n)) := Lib.hid fun n => pw_below_drewN hB.out n
      have n1 : decide (Go.bits .and .i64 (x / 256) 255 < min (Go.bits .and .i64 (top / 256) 255) (Go.bits .and .i64 (u / 256) 255)) = false := decide_eq_false (by omega)
      have n2 : decide (max (Go.bits .and .i64 (top / 256) 255) (Go.bits .and .i64 (u / 256) 255) < Go.bits .and .i64 (x / 256) 255) = false := decide_eq_false (by omega)
      clear m hB
      go_wp2_with fail
      go_quiet (fail)
      go_wp2_with fail
      go_roundw
      case rel => exact ⟨1, by omega, by go_num, BD.out _⟩
      case measure => simp [RowKit.intOf]
    · have m := M16.out
      have BD : Hid (∀ n, Below w.heap.size w (wr.drewN n)) := Lib.hid fun n => pw_below_drewN hB.out n
      have n1 : decide (Go.bits .and .i64 (x / 65536) 255 < min (Go.bits .and .i64 (top / 65536) 255) (Go.bits .and .i64 (u / 65536) 255)) = false := decide_eq_false (by omega)
      have n2 : decide (max (Go.bits .and .i64 (top / 65536) 255) (Go.bits .and .i64 (u / 65536) 255) < Go.bits .and .i64 (x / 65536) 255) = false := decide_eq_false (by omega)
      clear m hB
      go_wp2_with fail
      go_quiet (fail)
      go_wp2_with fail
      go_roundw
      case rel => exact ⟨2, by omega, by go_num, BD.out _⟩
      case measure => simp [RowKit.intOf]
    · have m := M24.out
      have BD : Hid (∀ n, Below w.heap.size w (wr.drewN n)) := Lib.hid fun n => pw_below_drewN hB.out n
      have n1 : decide (Go.bits .and .i64 (x / 16777216) 255 < min (Go.bits .and .i64 (top / 16777216) 255) (Go.bits .and .i64 (u / 16777216) 255)) = false := decide_eq_false (by omega)
      have n2 : decide (max (Go.bits .and .i64 (top / 16777216) 255) (Go.bits .and .i64 (u / 16777216) 255) < Go.bits .and .i64 (x / 16777216) 255) = false := decide_eq_false (by omega)
      clear m hB
      go_wp2_with fail
      go_quiet (fail)
      go_wp2_with fail
      go_roundw
      case rel => exact ⟨3, by omega, by go_num, BD.out _⟩
      case measure => simp [RowKit.intOf]
    · go_wp2_with fail
      refine (drawn_c _).mono ?_
      rintro e w5 ⟨rfl, h5⟩
      have B5 := Lib.hid (below_then hB.out hB.out.size h5)
      clear h5
      go_wp2_with fail
      go_ret
      exact ⟨rfl, B5.out⟩

theorem own : ownKnob Try.prog.godebug = none := by kernel_rfl
set_option maxRecDepth 100000 in
theorem lifted (os : Os) (started : os.Started) (H : Type) (enc : TypeId × Value → H) :
    ReturnsInHanded {} Try.checked os 10 .any (Rows.rasterBetweenSpec.pre6 enc Try.prog Try.f10 Rows.rasterBetweenRow.domain false) (Rows.rasterBetweenSpec.post enc Try.prog Try.f10 false true false false) := by
  refine returnsInHanded_of_change_sized (C := Try.checked) own started (by kernel_rfl) Try.func10
    (ChangeSpec.witness6 (enc := enc) (C := Try.checked) false ⟨#[], #[.int .i64 0, .int .i64 0, .int .i64 0], []⟩ 8 (by kernel_rfl) (by kernel_rfl) (by kernel_rfl) (by kernel_rfl)) ?_
  intro W base args ds gs before hval0 hW hcnd hsz0 _
  have hsz : (DataW.weightsEach Try.prog (Try.f10.params.toList ++ Rows.rasterBetweenSpec.plain.varTypes Try.prog) (ds ++ gs)).all (· ≤ reachBytes) = true := hsz0
  have hval : ∀ (j : Nat) t v, Try.f10.params[j]? = some t → args[j]? = some v → Value.okWide Try.prog W .any base t v := hval0
  have hW' := hW
  obtain ⟨p, q, hA0, hV, rfl, hfz, hnd⟩ := hW
  have hA : DataW.TrodAll enc Try.prog W 0 (fun _ => true) true Try.f10.params.toList args.toList ds p := hA0
  rw [Try.params10] at hA hval hsz
  obtain ⟨v0, vs0, d0, ds0, p0, q0, hargs, rfl, rfl, h0, r0⟩ := trodAll_cons hA
  obtain ⟨v1, vs1, d1, ds1, p1, q1, rfl, rfl, rfl, h1, r1⟩ := trodAll_cons r0
  obtain ⟨v2, vs2, d2, ds2, p2, q2, rfl, rfl, rfl, h2, r2⟩ := trodAll_cons r1
  obtain ⟨rfl, rfl, rfl⟩ := trodAll_nil r2
  obtain rfl : args = #[v0, v1, v2] := by cases args; simp_all
  obtain ⟨rfl, rfl⟩ := trodVars_none hV
  obtain ⟨a0, rfl, rfl, rfl, w0⟩ := open_int Try.underlying3 (hval 0 3 v0 rfl rfl) h0
  obtain ⟨a1, rfl, rfl, rfl, w1⟩ := open_int Try.underlying3 (hval 1 3 v1 rfl rfl) h1
  obtain ⟨a2, rfl, rfl, rfl, w2⟩ := open_int Try.underlying3 (hval 2 3 v2 rfl rfl) h2
  clear hA0 hval0 hsz0 hsz
  refine (walk a0 a1 a2 W w0 w1 w2).mono fun e W' ⟨he, bel⟩ => ?_
  subst he
  exact ⟨_, rfl, _, _, _, [], _, [], hW', trodAll_mk1 (shut_bool Try.underlying4 _), (trodAll_cons_mk (shut_int Try.underlying3 w0) (trodAll_cons_mk (shut_int Try.underlying3 w1) (trodAll_cons_mk (shut_int Try.underlying3 w2) trodAll_mk0))), rfl, bel.frame _, fun h => by cases h⟩
theorem over : Rows.rasterBetweenRow.holds Try.pinned (OpenSpec.ofChange Rows.rasterBetweenSpec) :=
  OpenClaim.holds_of_wide 10 Try.f10 rfl rfl rfl rfl rfl rfl rfl ⟨rfl, rfl, rfl, rfl, rfl⟩ rfl rfl rfl rfl rfl (by kernel_rfl) Try.func10 (by kernel_rfl)
    (of_decide_eq_true (by kernel_rfl)) (by unfold Func.isWrapper; first | (rw [if_pos (by decide +kernel)]; kernel_rfl) | (rw [if_neg (by decide +kernel)]; exact ⟨rfl, rfl⟩))
    (fun os started H enc _ => lifted os started H enc)
theorem proved : Rows.RasterBetweenSaid := over
#print axioms proved
end Go.Proofs.Ytfkgpkkjiolfpaa.RasterBetween
