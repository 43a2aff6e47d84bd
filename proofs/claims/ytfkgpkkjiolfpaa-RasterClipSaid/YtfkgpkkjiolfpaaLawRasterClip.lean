/- Pixels: beyond a clip nothing is painted; and what is clipped by all there is is as it was. For every input. -/
import Derived.Test.YtfkgpkkjiolfpaaRows
import Derived.Test.YtfkgpkkjiolfpaaRasClip
import Derived.Test.YtfkgpkkjiolfpaaRasOp
import Derived.ProofKit
import Derived.OpenShut
import Derived.ShutString
import Derived.ChangeOld
import Derived.Below
import Derived.SizedLaws
import Derived.Deep.QuietTactic
import Derived.BigQuiet
namespace Go.Proofs.Ytfkgpkkjiolfpaa.RasterClip
open Go.RowKit Go.Lib Go.Proofs.Ytfkgpkkjiolfpaa.Ras Go.Proofs.Ytfkgpkkjiolfpaa.Opn Go.Proofs.Ytfkgpkkjiolfpaa.Blk Go.Proofs.Ytfkgpkkjiolfpaa.Rgn Go.Proofs.Ytfkgpkkjiolfpaa.Pl Go.Proofs.Ytfkgpkkjiolfpaa.Fx Go.Proofs.Ytfkgpkkjiolfpaa.Fnt Go.Proofs.YtfkgpkkjiolfpaaW.PrintWords Go.Proofs.YtfkgpkkjiolfpaaW.PrintLast Go.Proofs.YtfkgpkkjiolfpaaW.PrintMore
open Go.ChangeShapes Go.WideShapes Go.ChangeAt
set_option linter.unusedVariables false
set_option linter.unusedSimpArgs false
attribute [local go_sem] mx2 mn2 mx_two mn_two mx_three mn_three

instance : Inhabited LR := ⟨⟨0, 0, 0, 0⟩⟩
theorem lr_of {H : Type} {enc : TypeId × Value → H} {w : World} {base : Nat} {spare : Nat → Bool} {held : Bool} {fuel : Nat} {cs : List Value} {x : DataW H × List MemPlace}
    (h : DataW.trod enc Try.prog w base spare held fuel 59 cs = some x) : ∃ a : LR, cs = lrV a := by
  obtain ⟨a, ha⟩ := op_T59.2 h
  exact ⟨a, k59_open ha⟩
/-- A rectangle of bounded numbers. -/
def mildR (r : LR) : LR := ⟨IntKind.i16.wrap r.f0, IntKind.i16.wrap r.f1, IntKind.u16.wrap r.f2, IntKind.u16.wrap r.f3⟩
theorem mild_cut (r : LR) : CutR (mildR r) := by
  have h0 := i16_bd r.f0
  have h1 := i16_bd r.f1
  have h2 := u16_bd r.f2
  have h3 := u16_bd r.f3
  exact ⟨by show _ ≤ IntKind.i16.wrap r.f0 ∧ IntKind.i16.wrap r.f0 ≤ _; omega, by show _ ≤ IntKind.i16.wrap r.f1 ∧ IntKind.i16.wrap r.f1 ≤ _; omega, by show _ ≤ IntKind.u16.wrap r.f2 ∧ IntKind.u16.wrap r.f2 ≤ _; omega, by show _ ≤ IntKind.u16.wrap r.f3 ∧ IntKind.u16.wrap r.f3 ≤ _; omega⟩
def AnyPost (w : World) (e : Ending) (w' : World) : Prop := ∃ v k, e = .returned (.tuple #[v, .int .i64 k]) ∧ Below w.heap.size w w'
theorem any_of {L : List Cm} {W H : Nat} {w w' : World} {e : Ending} (h : DrawPost L W H w e w') : AnyPost w e w' := by
  rcases h with ⟨k, _, _, h, hb⟩ | ⟨out, v, _, h, _, hb⟩
  · exact ⟨_, _, h, hb⟩
  · exact ⟨_, _, h, hb⟩
theorem R_four {W W1 : World} {base g t : Nat} {ok : Nat → Prop} {v : Value} {xs : List Cm} {cells : Array Value} (hR : Kd.R k65 65 W base ok v xs) (hb : W.heap[g]? = some (.cells cells t (0, 0))) (ht : ∀ q, q ∈ 65 :: (k65).E → q ≠ t) (hf : ∀ i, i ≠ g → W1.heap[i]? = W.heap[i]?) : Kd.R k65 65 W1 base ok v xs :=
  Kd.R_mono (Kd.R_step (Kd.R_types hR hb ht) (fun k hk _ => hf k hk.2)) (fun _ hk => hk.1)
set_option maxRecDepth 100000 in
set_option maxHeartbeats 4000000 in
theorem walk (a0 : Option Addr) (len0 cap0 : Nat) (z0 : List Cm) (r : LR) (w : World) (e0 : len0 = z0.length) (c0 : len0 ≤ cap0) (w0 : Kd.C k65 w a0 len0 z0) :
    Calls Try.prog 11 #[.slice a0 len0 cap0, .agg (lrV r).toArray] w fun e w' => e = .returned (.bool true) ∧ Below w.heap.size w w' := by
  obtain ⟨WA, eWA, hBA, hszA, hk0, hk1⟩ := blk_two w (.cells #[.slice a0 len0 cap0] 28) (.cells #[.int .i64 r.f0, .int .i64 r.f1, .int .i64 r.f2, .int .i64 r.f3] 59)
  have SM := Lib.hid (small_c a0 len0 cap0 z0 WA (Kd.C_below w0 hBA) c0)
  have EWA := Lib.hid eWA
  have BA := Lib.hid hBA
  have SA := Lib.hid hszA
  have K0 := Lib.hid hk0
  have K1 := Lib.hid hk1
  have MC := Lib.hid (mild_cut r)
  have b0 := i16_bd r.f0
  have b1 := i16_bd r.f1
  have b2 := u16_bd r.f2
  have b3 := u16_bd r.f3
  have hmr : mildR r = ⟨IntKind.i16.wrap r.f0, IntKind.i16.wrap r.f1, IntKind.u16.wrap r.f2, IntKind.u16.wrap r.f3⟩ := rfl
  have HMR := Lib.hid hmr
  clear e0 w0 eWA hBA hszA hk0 hk1 hmr
  unfold lrV
  go_enter Try.func11, Try.ntmps11
  go_wp2_with fail
  rw [EWA.out]
  refine SM.out.mono ?_
  rintro e w1 ⟨v1, rfl, hR1, hB1⟩
  have hk0 := blk_below K0.out hB1
  have hk1 := blk_below K1.out hB1
  have z1 : w1.cell? ⟨w.heap.size, 0, none⟩ = some (.slice a0 len0 cap0) := blk_cell hk0 0
  have f1 := blk_frozen hk0 0
  have hR2 := Kd.R_set hR1 hk0 (by decide) 0 v1
  obtain ⟨A1, c1, rfl, hc1, hC1⟩ := Kd.R_reads hR2
  have hk2 := blk_set hk0 0 (.slice A1 (smallP z0).length c1)
  have hk3 : (w1.setCell ⟨w.heap.size, 0, none⟩ (.slice A1 (smallP z0).length c1)).heap[w.heap.size + 1]? = _ := (Below.heap_setCell _ _ _ _ (by show w.heap.size + 1 ≠ w.heap.size; omega)).trans hk1
  have hB2 := (below_then BA.out (by have := SA.out; omega) hB1).setCell (p := ⟨w.heap.size, 0, none⟩) (Nat.le_refl _) (.slice A1 (smallP z0).length c1)
  have hl := small_len z0
  have ht := small_text z0
  generalize smallP z0 = l at *
  have R2 := Lib.hid hR2
  have C1 := Lib.hid hC1
  have K2 := Lib.hid hk2
  have K3 := Lib.hid hk3
  have B2 := Lib.hid hB2
  have HT := Lib.hid ht
  have HL := Lib.hid hl
  clear hB1 hk0 hk1 hR1 hR2 hC1 hk2 hk3 hB2 ht hl SM K0 K1 BA
  go_wp2_with fail
  generalize w1.setCell ⟨w.heap.size, 0, none⟩ (.slice A1 l.length c1) = W1 at *
  clear z1 f1
  refine (Draw_c A1 l.length c1 l 8 8 W1 C1.out (by have := HL.out; omega) (fun x hx => by have := HT.out x hx; omega) (by decide) (by decide)).mono ?_
  rintro e w2 hD
  have h2 : Below W1.heap.size W1 w2 := by
    rcases hD with ⟨k, _, _, _, hb⟩ | ⟨out, v, _, _, _, hb⟩
    · exact hb
    · exact hb
  have k4 := blk_below K2.out h2
  have k5 := blk_below K3.out h2
  have y0 : w2.cell? ⟨w.heap.size + 1, 0, none⟩ = some (.int .i64 r.f0) := blk_cell k5 0
  have y1 : w2.cell? ⟨w.heap.size + 1, 1, none⟩ = some (.int .i64 r.f1) := blk_cell k5 1
  have y2 : w2.cell? ⟨w.heap.size + 1, 2, none⟩ = some (.int .i64 r.f2) := blk_cell k5 2
  have y3 : w2.cell? ⟨w.heap.size + 1, 3, none⟩ = some (.int .i64 r.f3) := blk_cell k5 3
  have f0 := blk_frozen k5 0
  have f1 := blk_frozen k5 1
  have f2 := blk_frozen k5 2
  have f3 := blk_frozen k5 3
  obtain ⟨W3, eW3, q1, q2, q3, q4, q5⟩ := four_set (.int .i64 (IntKind.i16.wrap r.f0)) (.int .i64 (IntKind.i16.wrap r.f1)) (.int .i64 (IntKind.u16.wrap r.f2)) (.int .i64 (IntKind.u16.wrap r.f3)) k5
  have x0 : W3.cell? ⟨w.heap.size + 1, 0, none⟩ = some (.int .i64 (IntKind.i16.wrap r.f0)) := blk_cell q1 0
  have x1 : W3.cell? ⟨w.heap.size + 1, 1, none⟩ = some (.int .i64 (IntKind.i16.wrap r.f1)) := blk_cell q1 1
  have x2 : W3.cell? ⟨w.heap.size + 1, 2, none⟩ = some (.int .i64 (IntKind.u16.wrap r.f2)) := blk_cell q1 2
  have x3 : W3.cell? ⟨w.heap.size + 1, 3, none⟩ = some (.int .i64 (IntKind.u16.wrap r.f3)) := blk_cell q1 3
  have K5 := Lib.hid q1
  have K4 : Hid (W3.heap[w.heap.size]? = some (.cells #[.slice A1 l.length c1] 28 (0, 0))) := Lib.hid ((q2 _ (by omega)).trans k4)
  have R3 := Lib.hid (R_four (Kd.R_below R2.out h2) k5 (by decide) q2)
  have B3 := Lib.hid (q4 _ _ (below_then B2.out B2.out.size h2) (by omega))
  obtain ⟨-, -, hC3⟩ := Kd.R_reads' R3.out
  have CL1 := Lib.hid (clip_c ⟨w.heap.size, 0, none⟩ (mildR r) A1 l.length c1 l W3 (blk_cell K4.out 0) hC3 HL.out HT.out)
  rw [HMR.out] at CL1
  unfold lrV at CL1
  simp only at CL1
  have Q5 := Lib.hid q5
  have HW1s : W1.heap.size = w.heap.size + 2 ∨ w.heap.size + 2 ≤ W1.heap.size := by right; have := blk_lt K3.out; omega
  rcases hD with ⟨k, g1, g0, rfl, -⟩ | ⟨out, v, g1, rfl, g2, -⟩
  · have nk : (k != 0) = true := by simp [g0]
    clear k4 k5 q1 q2 q3 q4 q5 hC3 g0 g1 h2 Q5 HW1s
    go_wp2_with fail
    refine CL1.out.mono ?_
    rintro e w4 hD4
    obtain ⟨v4, e4, rfl, h4⟩ := any_of hD4
    obtain ⟨-, -, hC4⟩ := Kd.R_reads' (Kd.R_below R3.out h4)
    have CL2 := Lib.hid (clip_c ⟨w.heap.size, 0, none⟩ bigR A1 l.length c1 l w4 (blk_cell (blk_below K4.out h4) 0) hC4 HL.out HT.out)
    have B4 := Lib.hid (below_then B3.out B3.out.size h4)
    clear hD4 h4 hC4 CL1 y0 y1 y2 y3 f0 f1 f2 f3 x0 x1 x2 x3 eW3
    go_wp2_with fail
    refine CL2.out.mono ?_
    rintro e w5 hD5
    obtain ⟨v5, e5, rfl, h5⟩ := any_of hD5
    have B5 := Lib.hid (below_then B4.out B4.out.size h5)
    clear hD5 h5
    go_wp2_with fail
    refine (drawn_c _).mono ?_
    rintro e w6 ⟨rfl, h6⟩
    have B6 := Lib.hid (below_then B5.out B5.out.size h6)
    clear h6
    go_wp2_with fail
    go_ret
    exact ⟨rfl, B6.out⟩
  · obtain ⟨ga, cpa, rfl, hga1, hga2⟩ := own_form g2 (by decide)
    obtain ⟨o2, f2p, hk2⟩ := clip_out (mildR r) l out g1
    obtain ⟨o3, f3p, hk3⟩ := clip_out bigR l out g1
    have OA := Lib.hid (q5 _ _ _ _ _ _ g2 (by simp [Value.ownBlock]; omega))
    have F2 := Lib.hid f2p
    have F3 := Lib.hid f3p
    have PIX := Lib.hid (fun k h => clip_pix (mildR r) out o2 hk2 MC.out k h)
    have BIG := Lib.hid (clip_big out o3 hk3)
    rw [HMR.out] at F2 PIX
    clear k4 k5 q1 q2 q3 q4 q5 hC3 g1 g2 h2 Q5 HW1s f2p f3p hk2 hk3
    go_wp2_with fail
    refine CL1.out.mono ?_
    rintro e w4 (⟨k, g1, _⟩ | ⟨out', v4, g1, rfl, g2, h4⟩)
    · rw [F2.out] at g1; cases g1
    · rw [F2.out] at g1
      injection g1 with g1
      subst g1
      obtain ⟨gb, cpb, rfl, hgb1, hgb2⟩ := own_form g2 (by decide)
      obtain ⟨-, -, hC4⟩ := Kd.R_reads' (Kd.R_below R3.out h4)
      have CL2 := Lib.hid (clip_c ⟨w.heap.size, 0, none⟩ bigR A1 l.length c1 l w4 (blk_cell (blk_below K4.out h4) 0) hC4 HL.out HT.out)
      have B4 := Lib.hid (below_then B3.out B3.out.size h4)
      have OA4 := Lib.hid (pw_own_below OA.out h4)
      have OB4 := Lib.hid g2
      have K54 := Lib.hid (blk_below K5.out h4)
      clear h4 hC4 CL1 y0 y1 y2 y3 f0 f1 f2 f3 x0 x1 x2 x3 eW3 g2
      go_wp2_with fail
      refine CL2.out.mono ?_
      rintro e w5 (⟨k, g1, _⟩ | ⟨out', v5, g1, rfl, g2, h5⟩)
      · rw [F3.out] at g1; cases g1
      · rw [F3.out] at g1
        injection g1 with g1
        subst g1
        rw [BIG.out] at g2
        obtain ⟨gc, cpc, rfl, hgc1, hgc2⟩ := own_form g2 (by decide)
        have hOA5 := pw_own_below OA4.out h5
        have EQ := Lib.hid (eq_c _ _ ga gc 64 cpa cpc (drawP out 8 8) w5 hOA5 g2 (by decide))
        have OA5 := Lib.hid hOA5
        have OB5 := Lib.hid (pw_own_below OB4.out h5)
        have K55 := Lib.hid (blk_below K54.out h5)
        have B5 := Lib.hid (below_then B4.out B4.out.size h5)
        clear g2 h5 hOA5 CL2
        go_wp2_with fail
        refine EQ.out.mono ?_
        rintro e w' ⟨rfl, rfl⟩
        go_wp2_with fail
        go_loopw [75] (fun i wr => ∃ k : Nat, k ≤ 64 ∧ i = .int .i64 k ∧ Hid (Below w5.heap.size w5 wr)) (fun i _ => 64 - (RowKit.intOf i).toNat)
        case atStart => exact ⟨0, Nat.zero_le _, rfl, Below.refl _ _⟩
        case round =>
          obtain ⟨k, hk, rfl, hB⟩ := hrel
          by_cases hlt : k < 64
          · obtain ⟨km, hkm⟩ : ∃ km, k % 8 = km := ⟨_, rfl⟩
            obtain ⟨kd, hkd⟩ : ∃ kd, k / 8 = kd := ⟨_, rfl⟩
            have d1 : km < 8 := by omega
            have d2 : kd < 8 := by omega
            have E1 : (k : Int) % 8 = (km : Int) := by omega
            have E2 : (k : Int) / 8 = (kd : Int) := by omega
            have hpx := PIX.out k hlt
            rw [hkm, hkd] at hpx
            have k6 := blk_below K55.out hB.out
            have x0 : wr.cell? ⟨w.heap.size + 1, 0, none⟩ = some (.int .i64 (IntKind.i16.wrap r.f0)) := blk_cell k6 0
            have x1 : wr.cell? ⟨w.heap.size + 1, 1, none⟩ = some (.int .i64 (IntKind.i16.wrap r.f1)) := blk_cell k6 1
            have x2 : wr.cell? ⟨w.heap.size + 1, 2, none⟩ = some (.int .i64 (IntKind.u16.wrap r.f2)) := blk_cell k6 2
            have x3 : wr.cell? ⟨w.heap.size + 1, 3, none⟩ = some (.int .i64 (IntKind.u16.wrap r.f3)) := blk_cell k6 3
            have IN := Lib.hid (In_c ⟨IntKind.i16.wrap r.f0, IntKind.i16.wrap r.f1, IntKind.u16.wrap r.f2, IntKind.u16.wrap r.f3⟩ ((km * 64 + 32 : Nat) : Int) ((kd * 64 + 32 : Nat) : Int) wr (by simp only; omega) (by simp only; omega) (by simp only; omega) (by simp only; omega))
            rw [show ((km * 64 + 32 : Nat) : Int) = (km : Int) * 64 + 32 by omega, show ((kd * 64 + 32 : Nat) : Int) = (kd : Int) * 64 + 32 by omega] at IN hpx
            unfold lrV at IN
            simp only at IN
            generalize withinB ⟨IntKind.i16.wrap r.f0, IntKind.i16.wrap r.f1, IntKind.u16.wrap r.f2, IntKind.u16.wrap r.f3⟩ ((km : Int) * 64 + 32) ((kd : Int) * 64 + 32) = bi at *
            have PX := Lib.hid hpx
            clear hpx k6 hkm hkd
            go_wp2_with fail
            refine IN.out.mono ?_
            rintro e w6 ⟨rfl, h6⟩
            have B6 := Lib.hid (below_then hB.out hB.out.size h6)
            have hOA6 := pw_own_below OA5.out B6.out
            have hOB6 := pw_own_below OB5.out B6.out
            obtain ⟨p1, -⟩ := own_at hOA6 (k : Int) (by omega) (by omega)
            obtain ⟨p2, -⟩ := own_at hOB6 (k : Int) (by omega) (by omega)
            rw [Int.toNat_natCast] at p1 p2
            have r1 : rd (drawP out 8 8) (k : Int) = (drawP out 8 8).getD k 0 := by simp [rd]
            have r2 : rd (drawP o2 8 8) (k : Int) = (drawP o2 8 8).getD k 0 := by simp [rd]
            rw [r1] at p1
            rw [r2, PX.out] at p2
            generalize (drawP out 8 8).getD k 0 = va at *
            have BD : Hid (∀ n, Below w5.heap.size w5 (w6.drewN n)) := Lib.hid fun n => pw_below_drewN B6.out n
            clear r1 r2 PX hOA6 hOB6 h6 x0 x1 x2 x3 E1 E2 B6
            cases bi with
            | true =>
              rw [if_pos rfl] at p2
              go_wp2_with fail
              go_quiet (fail)
              go_wp2_with fail
              go_roundw
              case rel => exact ⟨k + 1, by omega, by go_num, BD.out _⟩
              case measure => simp [RowKit.intOf]; omega
            | false =>
              rw [if_neg (by decide)] at p2
              go_wp2_with fail
              go_quiet (fail)
              go_wp2_with fail
              go_roundw
              case rel => exact ⟨k + 1, by omega, by go_num, BD.out _⟩
              case measure => simp [RowKit.intOf]; omega
          · obtain rfl : k = 64 := by omega
            go_wp2_with fail
            refine (drawn_c _).mono ?_
            rintro e w7 ⟨rfl, h7⟩
            have B7 := Lib.hid (below_then (below_then B5.out B5.out.size hB.out) (Nat.le_trans B5.out.size hB.out.size) h7)
            clear h7
            go_wp2_with fail
            go_ret
            exact ⟨rfl, B7.out⟩

theorem own : ownKnob Try.prog.godebug = none := by kernel_rfl
theorem laidOut : laidOutB Try.prog = true := by kernel_rfl
set_option maxRecDepth 100000 in
theorem lifted (os : Os) (started : os.Started) (H : Type) (enc : TypeId × Value → H) :
    ReturnsInHanded {} Try.checked os 11 .any (Rows.rasterClipSpec.pre6 enc Try.prog Try.f11 Rows.rasterClipRow.domain false) (Rows.rasterClipSpec.post enc Try.prog Try.f11 false true false false) := by
  refine returnsInHanded_of_change_sized (C := Try.checked) own started (by kernel_rfl) Try.func11
    (ChangeSpec.witness6 (enc := enc) (C := Try.checked) false ⟨#[], #[.slice none 0 0, .agg (lrV default).toArray], []⟩ 8 (by kernel_rfl) (by kernel_rfl) (by kernel_rfl) (by kernel_rfl)) ?_
  intro W base args ds gs before hval0 hW hcnd hsz0 _
  have hsz : (DataW.weightsEach Try.prog (Try.f11.params.toList ++ Rows.rasterClipSpec.plain.varTypes Try.prog) (ds ++ gs)).all (· ≤ reachBytes) = true := hsz0
  have hval : ∀ (j : Nat) t v, Try.f11.params[j]? = some t → args[j]? = some v → Value.okWide Try.prog W .any base t v := hval0
  have hW' := hW
  obtain ⟨p, q, hA0, hV, rfl, hfz, hnd⟩ := hW
  have hA : DataW.TrodAll enc Try.prog W 0 (fun _ => true) true Try.f11.params.toList args.toList ds p := hA0
  rw [Try.params11] at hA hval hsz
  obtain ⟨v0, vs0, d0, ds0, p0, q0, hargs, rfl, rfl, h0, r0⟩ := trodAll_cons hA
  obtain ⟨v1, vs1, d1, ds1, p1, q1, rfl, rfl, rfl, h1, r1⟩ := trodAll_cons r0
  obtain ⟨rfl, rfl, rfl⟩ := trodAll_nil r1
  obtain rfl : args = #[v0, v1] := by cases args; simp_all
  obtain ⟨rfl, rfl⟩ := trodVars_none hV
  obtain ⟨a0, len0, cap0, rfl⟩ := okWide_slice Try.underlying28 (hval 0 28 v0 rfl rfl)
  have k0 := h0
  have lt0 : ∀ x ∈ p0, x.block < W.heap.size := by obtain ⟨m, hm⟩ := k0; exact DataW.trod_lt m _ _ _ hm
  obtain ⟨z0, e0, c0, w0⟩ : ∃ zs, len0 = zs.length ∧ len0 ≤ cap0 ∧ Kd.C k65 W a0 len0 zs := by
    obtain ⟨fuel, hf⟩ := h0
    obtain ⟨A, c, xs, hcs, h1, h2⟩ := slice_of Try.underlying28 op_T65 hf
    simp [Value.cells] at hcs
    obtain ⟨rfl, rfl, rfl⟩ := hcs
    exact ⟨xs, rfl, h1, h2⟩
  obtain ⟨c1, rfl⟩ := Go.Proofs.Ytfkgpkkjiolfpaa.Opn.okWide_rec Try.underlying59 (hval 1 59 v1 rfl rfl)
  have k1 := h1
  have lt1 : ∀ x ∈ p1, x.block < W.heap.size := by obtain ⟨m, hm⟩ := k1; exact DataW.trod_lt m _ _ _ hm
  obtain ⟨a1, e1⟩ : ∃ a, c1 = (lrV a).toArray := by
    obtain ⟨fuel, hf⟩ := h1
    obtain ⟨a, h2⟩ := lr_of hf
    exact ⟨a, by rw [← h2]; simp [Value.cells]⟩
  subst e1
  clear hA0 hval0 hsz0 hsz
  refine (walk a0 len0 cap0 z0 a1 W e0 c0 w0).mono fun e W' ⟨he, bel⟩ => ?_
  subst he
  exact ⟨_, rfl, _, _, _, [], _, [], hW', trodAll_mk1 (shut_bool Try.underlying4 _), (trodAll_cons_mk (Below.trod laidOut (by kernel_rfl) (of_decide_eq_true (by kernel_rfl)) k0 bel lt0) (trodAll_cons_mk (Below.trod laidOut (by kernel_rfl) (of_decide_eq_true (by kernel_rfl)) k1 bel lt1) trodAll_mk0)), rfl, bel.frame _, fun h => by cases h⟩
theorem over : Rows.rasterClipRow.holds Try.pinned (OpenSpec.ofChange Rows.rasterClipSpec) :=
  OpenClaim.holds_of_wide 11 Try.f11 rfl rfl rfl rfl rfl rfl rfl ⟨rfl, rfl, rfl, rfl, rfl⟩ rfl rfl rfl rfl rfl (by kernel_rfl) Try.func11 (by kernel_rfl)
    (of_decide_eq_true (by kernel_rfl)) (by unfold Func.isWrapper; first | (rw [if_pos (by decide +kernel)]; kernel_rfl) | (rw [if_neg (by decide +kernel)]; exact ⟨rfl, rfl⟩))
    (fun os started H enc _ => lifted os started H enc)
theorem proved : Rows.RasterClipSaid := over
#print axioms proved
end Go.Proofs.Ytfkgpkkjiolfpaa.RasterClip
