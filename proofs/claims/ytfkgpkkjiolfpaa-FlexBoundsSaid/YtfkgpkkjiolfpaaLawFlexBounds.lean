/- Flexible rows: no item is below its least, nor above its most. For every input. -/
import Derived.Test.YtfkgpkkjiolfpaaRows
import Derived.Test.YtfkgpkkjiolfpaaFlexBounds
import Derived.Test.YtfkgpkkjiolfpaaFlexOp
import Derived.ProofKit
import Derived.OpenShut
import Derived.ShutString
import Derived.ChangeOld
import Derived.Below
import Derived.SizedLaws
import Derived.Deep.QuietTactic
import Derived.BigQuiet
namespace Go.Proofs.Ytfkgpkkjiolfpaa.FlexBounds
open Go.RowKit Go.Proofs.Ytfkgpkkjiolfpaa.Flx Go.Proofs.Ytfkgpkkjiolfpaa.Rgn Go.Proofs.Ytfkgpkkjiolfpaa.Pl Go.Proofs.Ytfkgpkkjiolfpaa.Fx Go.Proofs.Ytfkgpkkjiolfpaa.Opn Go.Proofs.YtfkgpkkjiolfpaaW.PrintWords Go.Proofs.YtfkgpkkjiolfpaaW.PrintLast Go.Proofs.YtfkgpkkjiolfpaaW.PrintMore
open Go.ChangeShapes Go.WideShapes Go.ChangeAt
set_option linter.unusedVariables false
set_option linter.unusedSimpArgs false
attribute [local go_sem] mx2 mn2 mx_two mn_two mx_three mn_three

set_option maxRecDepth 100000 in
set_option maxHeartbeats 4000000 in
theorem walk (room gap : Int) (a1 : Option Addr) (len1 cap1 : Nat) (z1 : List LF) (w : World) (_ : (Lit.int .i64 room).wf = true) (_ : (Lit.int .i64 gap).wf = true) (e1 : len1 = z1.length) (c1 : len1 ≤ cap1) (w1 : Kd.C k37 w a1 len1 z1) :
    Calls Try.prog 4 #[.int .i64 room, .int .i64 gap, .slice a1 len1 cap1] w fun e w' => e = .returned (.bool true) ∧ Below w.heap.size w w' := by
  have MC := Lib.hid (mild_c a1 len1 cap1 z1 w w1 c1)
  obtain ⟨lm, hlm⟩ : ∃ lm, (z1.take 12).map mildI = lm := ⟨_, rfl⟩
  have hl12 : lm.length ≤ 12 := by rw [← hlm, List.length_map]; exact List.length_take_le _ _
  have hmi : ∀ k, k < lm.length → ∃ x, lm.getD k z37 = mildI x := fun k hk => by
    subst hlm
    have hk2 : k < (z1.take 12).length := by simpa using hk
    exact ⟨(z1.take 12)[k], by rw [List.getD_eq_getElem?_getD, List.getElem?_map, List.getElem?_eq_getElem hk2]; rfl⟩
  have HM := Lib.hid hlm
  have MI := Lib.hid hmi
  clear w1 c1 e1 hlm hmi
  go_enter Try.func4, Try.ntmps4
  go_wp2_with fail
  refine MC.out.mono ?_
  rintro e w2 ⟨v, rfl, hR, hB⟩
  rw [HM.out] at hR
  obtain ⟨A, c, rfl, hc, hC⟩ := Kd.R_reads hR
  have RC := Lib.hid hC
  have B2 := Lib.hid hB
  obtain ⟨m, hm⟩ : ∃ m, lm.length = m := ⟨_, rfl⟩
  have MA := Lib.hid (Mains_c room gap A lm.length c lm w2 hC (by omega))
  have HL := Lib.hid hm
  rw [hm] at RC MA hl12 MI ⊢
  clear hR hC hB MC hc hm
  go_wp2_with fail
  refine MA.out.mono ?_
  rintro e w3 ⟨v, rfl, hO, hB3⟩
  obtain ⟨A3, c3, rfl⟩ := own_slice hO
  rw [HL.out] at hO
  rw [HL.out]
  have O3 := Lib.hid hO
  have RC3 := Lib.hid (Kd.C_below RC.out hB3)
  have B3 := Lib.hid (below_then B2.out B2.out.size hB3)
  clear hO hB3 MA RC
  go_wp2_with fail
  refine (flexed_c w3).mono ?_
  rintro e w4 ⟨rfl, hB4⟩
  have O4 := Lib.hid (pw_own_below O3.out hB4)
  have RC4 := Lib.hid (Kd.C_below RC3.out hB4)
  have B4 := Lib.hid (below_then B3.out B3.out.size hB4)
  clear hB4 O3 RC3
  go_wp2_with fail
  obtain ⟨V, rfl⟩ : ∃ V : World, V = w4 := ⟨_, rfl⟩
  go_loopw [27] (fun i wr => ∃ k : Nat, k ≤ m ∧ i = .int .i64 k ∧ Hid (Below V.heap.size V wr)) (fun i _ => m - (intOf i).toNat)
  case atStart => exact ⟨0, Nat.zero_le _, rfl, Below.refl _ _⟩
  case round =>
    obtain ⟨k, hk, rfl, hB⟩ := hrel
    by_cases hlt : k < m
    · have hkl : k < lm.length := by rw [HL.out]; exact hlt
      obtain ⟨ad, ea, x0, x1, x2, x3, x4, x5⟩ := at_T37 (Kd.C_below RC4.out hB.out) (k : Int) (by omega) (by omega)
      subst ea
      rw [Int.toNat_natCast] at x0 x1 x2 x3 x4 x5
      obtain ⟨x, hx⟩ := MI.out k hlt
      have hbd := mild_bd room gap lm k hkl x hx
      rw [← hx] at hbd
      have hrd : rd_T37 lm (k : Int) = lm.getD k z37 := by simp [rd_T37]
      rw [hrd] at x0 x1 x2 x3 x4 x5
      have hO := pw_own_below O4.out hB.out
      obtain ⟨g3, rfl⟩ : ∃ g, A3 = some ⟨g, 0, none⟩ := by
        rcases hO.2 with ⟨_, h0⟩ | ⟨g, cap, cur, hv, _⟩
        · omega
        · injection hv with hv
          exact ⟨g, hv⟩
      obtain ⟨y0, _⟩ := own_at hO (k : Int) (by omega) (by omega)
      rw [Int.toNat_natCast] at y0
      have hre : rd (mainsP room gap lm) (k : Int) = (mainsP room gap lm).getD k 0 := by simp [rd]
      rw [hre] at y0
      generalize (mainsP room gap lm).getD k 0 = o at *
      generalize lm.getD k z37 = y at *
      obtain ⟨a0, b1, a2, a3, a4, a5⟩ := y
      simp only at x0 x1 x2 x3 x4 x5 hbd
      have hgb : g3 < wr.heap.size := own_lt hO g3 rfl
      have HB1 := Lib.hid (below_alloc hB.out (.cells #[.int .i64 a0, .int .i64 b1, .int .i64 a2, .int .i64 a3, .int .i64 a4, .int .i64 a5] 37))
      have hal := below_alloc (Below.refl wr.heap.size wr) (.cells #[.int .i64 a0, .int .i64 b1, .int .i64 a2, .int .i64 a3, .int .i64 a4, .int .i64 a5] 37)
      have y1 : (wr.alloc (.cells #[.int .i64 a0, .int .i64 b1, .int .i64 a2, .int .i64 a3, .int .i64 a4, .int .i64 a5] 37)).cell? ⟨g3, k, none⟩ = some (.int .i64 o) := (hal.cell (p := ⟨g3, k, none⟩) hgb).trans y0
      obtain ⟨hb1, hb2⟩ := hbd
      have n1 : decide (o < b1) = false := decide_eq_false (by omega)
      clear hal hre hrd hx hO hkl
      by_cases h2 : 0 ≤ a2
      · have n2 : decide (0 ≤ a2) = true := decide_eq_true h2
        have hb3 := hb2 h2
        have n3 : decide (max a2 b1 < o) = false := decide_eq_false (by omega)
        clear hb2
        go_wp2_with fail
        obtain ⟨W6, hW6⟩ : ∃ W6, wr.alloc (.cells #[.int .i64 a0, .int .i64 b1, .int .i64 a2, .int .i64 a3, .int .i64 a4, .int .i64 a5] 37) = W6 := ⟨_, rfl⟩
        rw [hW6] at y1 ⊢
        have hbx : W6.heap[wr.heap.size]? = some (.cells #[.int .i64 a0, .int .i64 b1, .int .i64 a2, .int .i64 a3, .int .i64 a4, .int .i64 a5] 37 (0, 0)) := by rw [← hW6]; exact blk_new wr _
        have B6 : Hid (Below V.heap.size V W6) := by rw [← hW6]; exact HB1
        have z1 : W6.cell? ⟨wr.heap.size, 1, none⟩ = some (.int .i64 b1) := blk_cell hbx 1
        have z2 : W6.cell? ⟨wr.heap.size, 2, none⟩ = some (.int .i64 a2) := blk_cell hbx 2
        generalize wr.heap.size = bx at *
        clear hW6 hbx HB1 x0 x1 x2 x3 x4 x5 y0 hgb
        go_quiet (fail)
        have B7 : Hid (Below V.heap.size V (W6.drewN nq)) := Lib.hid (pw_below_drewN B6.out nq)
        generalize W6.drewN nq = W7 at *
        clear y1 z1 z2 B6
        go_wp2_with fail
        exact ⟨⟨k + 1, by omega, by go_num, B7.out⟩, by simp [RowKit.intOf]; omega⟩
      · have n2 : decide (0 ≤ a2) = false := decide_eq_false h2
        clear hb2
        go_wp2_with fail
        obtain ⟨W6, hW6⟩ : ∃ W6, wr.alloc (.cells #[.int .i64 a0, .int .i64 b1, .int .i64 a2, .int .i64 a3, .int .i64 a4, .int .i64 a5] 37) = W6 := ⟨_, rfl⟩
        rw [hW6] at y1 ⊢
        have hbx : W6.heap[wr.heap.size]? = some (.cells #[.int .i64 a0, .int .i64 b1, .int .i64 a2, .int .i64 a3, .int .i64 a4, .int .i64 a5] 37 (0, 0)) := by rw [← hW6]; exact blk_new wr _
        have B6 : Hid (Below V.heap.size V W6) := by rw [← hW6]; exact HB1
        have z1 : W6.cell? ⟨wr.heap.size, 1, none⟩ = some (.int .i64 b1) := blk_cell hbx 1
        have z2 : W6.cell? ⟨wr.heap.size, 2, none⟩ = some (.int .i64 a2) := blk_cell hbx 2
        generalize wr.heap.size = bx at *
        clear hW6 hbx HB1 x0 x1 x2 x3 x4 x5 y0 hgb
        go_quiet (fail)
        have B7 : Hid (Below V.heap.size V (W6.drewN nq)) := Lib.hid (pw_below_drewN B6.out nq)
        generalize W6.drewN nq = W7 at *
        clear y1 z1 z2 B6
        go_wp2_with fail
        exact ⟨⟨k + 1, by omega, by go_num, B7.out⟩, by simp [RowKit.intOf]; omega⟩
    · obtain rfl : k = m := by omega
      have HB2 := Lib.hid (below_then B4.out B4.out.size hB.out)
      clear hB
      go_wp2_with fail
      go_ret
      exact ⟨rfl, HB2.out⟩

theorem own : ownKnob Try.prog.godebug = none := by kernel_rfl
theorem laidOut : laidOutB Try.prog = true := by kernel_rfl
set_option maxRecDepth 100000 in
theorem lifted (os : Os) (started : os.Started) (H : Type) (enc : TypeId × Value → H) :
    ReturnsInHanded {} Try.checked os 4 .any (Rows.flexBoundsSpec.pre6 enc Try.prog Try.f4 Rows.flexBoundsRow.domain false) (Rows.flexBoundsSpec.post enc Try.prog Try.f4 false true false false) := by
  refine returnsInHanded_of_change_sized (C := Try.checked) own started (by kernel_rfl) Try.func4
    (ChangeSpec.witness6 (enc := enc) (C := Try.checked) false ⟨#[], #[.int .i64 0, .int .i64 0, .slice none 0 0], []⟩ 8 (by kernel_rfl) (by kernel_rfl) (by kernel_rfl) (by kernel_rfl)) ?_
  intro W base args ds gs before hval0 hW hcnd hsz0 _
  have hsz : (DataW.weightsEach Try.prog (Try.f4.params.toList ++ Rows.flexBoundsSpec.plain.varTypes Try.prog) (ds ++ gs)).all (· ≤ reachBytes) = true := hsz0
  have hval : ∀ (j : Nat) t v, Try.f4.params[j]? = some t → args[j]? = some v → Value.okWide Try.prog W .any base t v := hval0
  have hW' := hW
  obtain ⟨p, q, hA0, hV, rfl, hfz, hnd⟩ := hW
  have hA : DataW.TrodAll enc Try.prog W 0 (fun _ => true) true Try.f4.params.toList args.toList ds p := hA0
  rw [Try.params4] at hA hval hsz
  obtain ⟨v0, vs0, d0, ds0, p0, q0, hargs, rfl, rfl, h0, r0⟩ := trodAll_cons hA
  obtain ⟨v1, vs1, d1, ds1, p1, q1, rfl, rfl, rfl, h1, r1⟩ := trodAll_cons r0
  obtain ⟨v2, vs2, d2, ds2, p2, q2, rfl, rfl, rfl, h2, r2⟩ := trodAll_cons r1
  obtain ⟨rfl, rfl, rfl⟩ := trodAll_nil r2
  obtain rfl : args = #[v0, v1, v2] := by cases args; simp_all
  obtain ⟨rfl, rfl⟩ := trodVars_none hV
  obtain ⟨a0, rfl, rfl, rfl, w0⟩ := open_int Try.underlying3 (hval 0 3 v0 rfl rfl) h0
  obtain ⟨a1, rfl, rfl, rfl, w1⟩ := open_int Try.underlying3 (hval 1 3 v1 rfl rfl) h1
  obtain ⟨a2, len2, cap2, rfl⟩ := okWide_slice Try.underlying31 (hval 2 31 v2 rfl rfl)
  have k2 := h2
  have lt2 : ∀ x ∈ p2, x.block < W.heap.size := by obtain ⟨m, hm⟩ := k2; exact DataW.trod_lt m _ _ _ hm
  obtain ⟨z2, e2, c2, w2⟩ : ∃ zs, len2 = zs.length ∧ len2 ≤ cap2 ∧ Kd.C k37 W a2 len2 zs := by
    obtain ⟨fuel, hf⟩ := h2
    obtain ⟨A, c, xs, hcs, h1, h2⟩ := slice_of Try.underlying31 op_T37 hf
    simp [Value.cells] at hcs
    obtain ⟨rfl, rfl, rfl⟩ := hcs
    exact ⟨xs, rfl, h1, h2⟩
  clear hA0 hval0 hsz0 hsz
  refine (walk a0 a1 a2 len2 cap2 z2 W w0 w1 e2 c2 w2).mono fun e W' ⟨he, bel⟩ => ?_
  subst he
  exact ⟨_, rfl, _, _, _, [], _, [], hW', trodAll_mk1 (shut_bool Try.underlying4 _), (trodAll_cons_mk (shut_int Try.underlying3 w0) (trodAll_cons_mk (shut_int Try.underlying3 w1) (trodAll_cons_mk (Below.trod laidOut (by kernel_rfl) (of_decide_eq_true (by kernel_rfl)) k2 bel lt2) trodAll_mk0))), rfl, bel.frame _, fun h => by cases h⟩
theorem over : Rows.flexBoundsRow.holds Try.pinned (OpenSpec.ofChange Rows.flexBoundsSpec) :=
  OpenClaim.holds_of_wide 4 Try.f4 rfl rfl rfl rfl rfl rfl rfl ⟨rfl, rfl, rfl, rfl, rfl⟩ rfl rfl rfl rfl rfl (by kernel_rfl) Try.func4 (by kernel_rfl)
    (of_decide_eq_true (by kernel_rfl)) (by unfold Func.isWrapper; first | (rw [if_pos (by decide +kernel)]; kernel_rfl) | (rw [if_neg (by decide +kernel)]; exact ⟨rfl, rfl⟩))
    (fun os started H enc _ => lifted os started H enc)
theorem proved : Rows.FlexBoundsSaid := over
#print axioms proved
end Go.Proofs.Ytfkgpkkjiolfpaa.FlexBounds
