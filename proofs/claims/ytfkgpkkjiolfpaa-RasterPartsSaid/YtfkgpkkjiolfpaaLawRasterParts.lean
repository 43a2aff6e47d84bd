/- Pixels: a group that is seen in full is none; one that is not seen leaves nothing. For every input. -/
import Derived.Test.YtfkgpkkjiolfpaaRows
import Derived.Test.YtfkgpkkjiolfpaaRasGroup
import Derived.Test.YtfkgpkkjiolfpaaRasOp
import Derived.ProofKit
import Derived.OpenShut
import Derived.ShutString
import Derived.ChangeOld
import Derived.Below
import Derived.SizedLaws
namespace Go.Proofs.Ytfkgpkkjiolfpaa.RasterParts
open Go.RowKit Go.Lib Go.Proofs.Ytfkgpkkjiolfpaa.Ras Go.Proofs.Ytfkgpkkjiolfpaa.Opn Go.Proofs.Ytfkgpkkjiolfpaa.Blk Go.Proofs.Ytfkgpkkjiolfpaa.Rgn Go.Proofs.Ytfkgpkkjiolfpaa.Pl Go.Proofs.Ytfkgpkkjiolfpaa.Fx Go.Proofs.Ytfkgpkkjiolfpaa.Fnt Go.Proofs.YtfkgpkkjiolfpaaW.PrintWords Go.Proofs.YtfkgpkkjiolfpaaW.PrintLast Go.Proofs.YtfkgpkkjiolfpaaW.PrintMore
open Go.ChangeShapes Go.WideShapes Go.ChangeAt
set_option linter.unusedVariables false
set_option linter.unusedSimpArgs false
attribute [local go_sem] mx2 mn2 mx_two mn_two mx_three mn_three

set_option maxRecDepth 100000 in
set_option maxHeartbeats 2000000 in
theorem walk (a0 : Option Addr) (len0 cap0 : Nat) (z0 : List Cm) (w : World) (e0 : len0 = z0.length) (c0 : len0 ≤ cap0) (w0 : Kd.C k65 w a0 len0 z0) :
    Calls Try.prog 12 #[.slice a0 len0 cap0] w fun e w' => e = .returned (.bool true) ∧ Below w.heap.size w w' := by
  have hal := below_alloc (Below.refl w.heap.size w) (.cells #[.slice a0 len0 cap0] 28)
  have SM := Lib.hid (small_c a0 len0 cap0 z0 _ (Kd.C_below w0 hal) c0)
  have hkb := blk_new w (.cells #[.slice a0 len0 cap0] 28)
  have HA := Lib.hid hal
  have KB := Lib.hid hkb
  have hsz : (w.alloc (.cells #[.slice a0 len0 cap0] 28)).heap.size = w.heap.size + 1 := by simp
  have SZ := Lib.hid hsz
  clear e0 w0 hal hkb hsz
  go_enter Try.func12, Try.ntmps12
  go_wp2_with fail
  generalize w.alloc (.cells #[.slice a0 len0 cap0] 28) = WA at *
  refine SM.out.mono ?_
  rintro e w1 ⟨v1, rfl, hR1, hB1⟩
  have hk1 := blk_below KB.out hB1
  have z1 : w1.cell? ⟨w.heap.size, 0, none⟩ = some (.slice a0 len0 cap0) := blk_cell hk1 0
  have f1 := blk_frozen hk1 0
  have hR2 := Kd.R_set hR1 hk1 (by decide) 0 v1
  obtain ⟨A1, c1, rfl, hc1, hC1⟩ := Kd.R_reads hR2
  have hk2 := blk_set hk1 0 (.slice A1 (smallP z0).length c1)
  have hB2 := (below_then HA.out (by have := SZ.out; omega) hB1).setCell (p := ⟨w.heap.size, 0, none⟩) (Nat.le_refl _) (.slice A1 (smallP z0).length c1)
  have hl := small_len z0
  have ht := small_text z0
  generalize smallP z0 = l at *
  have C1 := Lib.hid hC1
  have K2 := Lib.hid hk2
  have B2 := Lib.hid hB2
  have HT := Lib.hid ht
  have HL := Lib.hid hl
  clear hB1 hk1 hR1 hR2 hC1 hk2 hB2 ht hl SM KB HA
  go_wp2_with fail
  generalize w1.setCell ⟨w.heap.size, 0, none⟩ (.slice A1 l.length c1) = W1 at *
  clear z1 f1
  refine (Draw_c A1 l.length c1 l 6 6 W1 C1.out (by have := HL.out; omega) (fun x hx => by have := HT.out x hx; omega) (by decide) (by decide)).mono ?_
  rintro e w2 (⟨k, h1, h0, rfl, h2⟩ | ⟨out, v, h1, rfl, h2, h3⟩)
  · have nk : (k != 0) = true := by simp [h0]
    have B3 := Lib.hid (below_then B2.out B2.out.size h2)
    clear h0 h1 h2
    go_wp2_with fail
    refine (drawn_c _).mono ?_
    rintro e w3 ⟨rfl, h3⟩
    have B4 := Lib.hid (below_then B3.out B3.out.size h3)
    clear h3
    go_wp2_with fail
    go_ret
    exact ⟨rfl, B4.out⟩
  · obtain ⟨g, cp, rfl, hg1, hg2⟩ := own_form h2 (by decide)
    have hk3 := blk_below K2.out h3
    have y0 : w2.cell? ⟨w.heap.size, 0, none⟩ = some (.slice A1 l.length c1) := blk_cell hk3 0
    have G1 := Lib.hid (group_c ⟨w.heap.size, 0, none⟩ 1000 A1 l.length c1 l w2 y0 (Kd.C_below C1.out h3) HL.out HT.out)
    have K3 := Lib.hid hk3
    have C3 := Lib.hid (Kd.C_below C1.out h3)
    have B3 := Lib.hid (below_then B2.out B2.out.size h3)
    have O3 := Lib.hid h2
    have F1 := Lib.hid (part_full l out h1)
    have F0 := Lib.hid (part_none l out h1)
    clear h1 h2 h3 hk3 y0
    go_wp2_with fail
    refine G1.out.mono ?_
    rintro e w3 (⟨k, h1, _⟩ | ⟨out', v4, h1, rfl, h2, h3⟩)
    · rw [F1.out] at h1; cases h1
    · rw [F1.out] at h1
      injection h1 with h1
      subst h1
      obtain ⟨g4, cp4, rfl, _, _⟩ := own_form h2 (by decide)
      have hk4 := blk_below K3.out h3
      have y0 : w3.cell? ⟨w.heap.size, 0, none⟩ = some (.slice A1 l.length c1) := blk_cell hk4 0
      have O4 := pw_own_below O3.out h3
      have EQ := Lib.hid (eq_c _ _ g4 g 36 cp4 cp (drawP out 6 6) w3 h2 O4 (by decide))
      have G0 := Lib.hid (group_c ⟨w.heap.size, 0, none⟩ 0 A1 l.length c1 l w3 y0 (Kd.C_below C3.out h3) HL.out HT.out)
      have B4 := Lib.hid (below_then B3.out B3.out.size h3)
      clear hk4 y0 O4 h2 h3 G1 O3
      go_wp2_with fail
      refine EQ.out.mono ?_
      rintro e w' ⟨rfl, rfl⟩
      go_wp2_with fail
      refine G0.out.mono ?_
      obtain ⟨out2, hf, hd⟩ := F0.out
      rintro e w4 (⟨k, h1, _⟩ | ⟨out', v5, h1, rfl, h2, h3⟩)
      · rw [hf] at h1; cases h1
      · rw [hf] at h1
        injection h1 with h1
        subst h1
        rw [hd] at h2
        obtain ⟨g5, cp5, rfl, _, _⟩ := own_form h2 (by decide)
        have O5 := Lib.hid h2
        have B5 := Lib.hid (below_then B4.out B4.out.size h3)
        clear h2 h3 hf hd
        go_wp2_with fail
        go_loopw [32] (fun i wr => ∃ k : Nat, k ≤ 36 ∧ i = .int .i64 k ∧ Hid (wr = w4)) (fun i _ => 36 - (RowKit.intOf i).toNat)
        case atStart => exact ⟨0, Nat.zero_le _, rfl, rfl⟩
        case round =>
          obtain ⟨k, hk, rfl, hW⟩ := hrel
          obtain rfl := hW.out
          clear hW
          by_cases hlt : k < 36
          · obtain ⟨q1, q2⟩ := own_at O5.out (k : Int) (by omega) (by omega)
            rw [Int.toNat_natCast] at q1
            have hr : rd (List.replicate (6 * 6) (4294967295 : Int)) (k : Int) = 4294967295 := by
              unfold rd
              rw [Int.toNat_natCast, List.getD_eq_getElem?_getD, List.getElem?_replicate, if_pos (by omega)]
              rfl
            rw [hr] at q1
            clear q2 hr
            go_wp2_with fail
            go_roundw
            case rel => exact ⟨k + 1, by omega, by go_num, by first | exact rfl | exact trivial⟩
            case measure => simp [RowKit.intOf]; omega
          · obtain rfl : k = 36 := by omega
            go_wp2_with fail
            refine (drawn_c _).mono ?_
            rintro e w5 ⟨rfl, h5⟩
            have B6 := Lib.hid (below_then B5.out B5.out.size h5)
            clear h5
            go_wp2_with fail
            go_ret
            exact ⟨rfl, B6.out⟩

theorem own : ownKnob Try.prog.godebug = none := by kernel_rfl
theorem laidOut : laidOutB Try.prog = true := by kernel_rfl
set_option maxRecDepth 100000 in
theorem lifted (os : Os) (started : os.Started) (H : Type) (enc : TypeId × Value → H) :
    ReturnsInHanded {} Try.checked os 12 .any (Rows.rasterPartsSpec.pre6 enc Try.prog Try.f12 Rows.rasterPartsRow.domain false) (Rows.rasterPartsSpec.post enc Try.prog Try.f12 false true false false) := by
  refine returnsInHanded_of_change_sized (C := Try.checked) own started (by kernel_rfl) Try.func12
    (ChangeSpec.witness6 (enc := enc) (C := Try.checked) false ⟨#[], #[.slice none 0 0], []⟩ 8 (by kernel_rfl) (by kernel_rfl) (by kernel_rfl) (by kernel_rfl)) ?_
  intro W base args ds gs before hval0 hW hcnd hsz0 _
  have hsz : (DataW.weightsEach Try.prog (Try.f12.params.toList ++ Rows.rasterPartsSpec.plain.varTypes Try.prog) (ds ++ gs)).all (· ≤ reachBytes) = true := hsz0
  have hval : ∀ (j : Nat) t v, Try.f12.params[j]? = some t → args[j]? = some v → Value.okWide Try.prog W .any base t v := hval0
  have hW' := hW
  obtain ⟨p, q, hA0, hV, rfl, hfz, hnd⟩ := hW
  have hA : DataW.TrodAll enc Try.prog W 0 (fun _ => true) true Try.f12.params.toList args.toList ds p := hA0
  rw [Try.params12] at hA hval hsz
  obtain ⟨v0, vs0, d0, ds0, p0, q0, hargs, rfl, rfl, h0, r0⟩ := trodAll_cons hA
  obtain ⟨rfl, rfl, rfl⟩ := trodAll_nil r0
  obtain rfl : args = #[v0] := by cases args; simp_all
  obtain ⟨rfl, rfl⟩ := trodVars_none hV
  obtain ⟨a0, len0, cap0, rfl⟩ := okWide_slice Try.underlying28 (hval 0 28 v0 rfl rfl)
  have k0 := h0
  have lt0 : ∀ x ∈ p0, x.block < W.heap.size := by obtain ⟨m, hm⟩ := k0; exact DataW.trod_lt m _ _ _ hm
  obtain ⟨z0, e0, c0, w0⟩ : ∃ zs, len0 = zs.length ∧ len0 ≤ cap0 ∧ Kd.C k65 W a0 len0 zs := by
    obtain ⟨fuel, hf⟩ := h0
    obtain ⟨A, c, xs, hcs, h1, h2⟩ := slice_of Try.underlying28 op_T65 hf
    simp [Value.cells] at hcs
    obtain ⟨rfl, rfl, rfl⟩ := hcs
    exact ⟨xs, rfl, h1, h2⟩
  clear hA0 hval0 hsz0 hsz
  refine (walk a0 len0 cap0 z0 W e0 c0 w0).mono fun e W' ⟨he, bel⟩ => ?_
  subst he
  exact ⟨_, rfl, _, _, _, [], _, [], hW', trodAll_mk1 (shut_bool Try.underlying4 _), (trodAll_cons_mk (Below.trod laidOut (by kernel_rfl) (of_decide_eq_true (by kernel_rfl)) k0 bel lt0) trodAll_mk0), rfl, bel.frame _, fun h => by cases h⟩
theorem over : Rows.rasterPartsRow.holds Try.pinned (OpenSpec.ofChange Rows.rasterPartsSpec) :=
  OpenClaim.holds_of_wide 12 Try.f12 rfl rfl rfl rfl rfl rfl rfl ⟨rfl, rfl, rfl, rfl, rfl⟩ rfl rfl rfl rfl rfl (by kernel_rfl) Try.func12 (by kernel_rfl)
    (of_decide_eq_true (by kernel_rfl)) (by unfold Func.isWrapper; first | (rw [if_pos (by decide +kernel)]; kernel_rfl) | (rw [if_neg (by decide +kernel)]; exact ⟨rfl, rfl⟩))
    (fun os started H enc _ => lifted os started H enc)
theorem proved : Rows.RasterPartsSaid := over
#print axioms proved
end Go.Proofs.Ytfkgpkkjiolfpaa.RasterParts
