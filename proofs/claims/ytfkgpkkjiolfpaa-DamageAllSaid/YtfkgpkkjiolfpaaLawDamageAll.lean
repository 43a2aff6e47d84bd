/- Pictures: drawn anew all over it is the picture, whatever it was. For every input. -/
import Derived.Test.YtfkgpkkjiolfpaaRows
import Derived.Test.YtfkgpkkjiolfpaaDamage4
import Derived.Test.YtfkgpkkjiolfpaaRasSmall
import Derived.Test.YtfkgpkkjiolfpaaRasOp
import Derived.Test.YtfkgpkkjiolfpaaRw
import Derived.ProofKit
import Derived.OpenShut
import Derived.ShutString
import Derived.ChangeOld
import Derived.Below
import Derived.SizedLaws
import Derived.Deep.QuietTactic
import Derived.BigQuiet
namespace Go.Proofs.Ytfkgpkkjiolfpaa.DamageAll
open Go.RowKit Go.Lib Go.Proofs.Ytfkgpkkjiolfpaa.Rw Go.Proofs.Ytfkgpkkjiolfpaa.Ras Go.Proofs.Ytfkgpkkjiolfpaa.Opn Go.Proofs.Ytfkgpkkjiolfpaa.Blk Go.Proofs.Ytfkgpkkjiolfpaa.Rgn Go.Proofs.Ytfkgpkkjiolfpaa.Pl Go.Proofs.Ytfkgpkkjiolfpaa.Fx Go.Proofs.Ytfkgpkkjiolfpaa.Fnt Go.Proofs.YtfkgpkkjiolfpaaW.PrintWords Go.Proofs.YtfkgpkkjiolfpaaW.PrintLast Go.Proofs.YtfkgpkkjiolfpaaW.PrintMore
open Go.ChangeShapes Go.WideShapes Go.ChangeAt
set_option linter.unusedVariables false
set_option linter.unusedSimpArgs false
attribute [local go_sem] mx2 mn2 mx_two mn_two mx_three mn_three

set_option maxRecDepth 1000000 in
set_option maxHeartbeats 4000000 in
theorem walk (a0 : Option Addr) (len0 cap0 : Nat) (z0 : List Int) (a1 : Option Addr) (len1 cap1 : Nat) (z1 : List Cm) (a2 : Option Addr) (len2 cap2 : Nat) (z2 : List LR) (w : World)
    (i0 : IsRow .i64 w a0 len0 cap0 z0) (y0 : len0 * 8 ≤ 140737488351232) (e1 : len1 = z1.length) (c1 : len1 ≤ cap1) (i1 : Kd.C k65 w a1 len1 z1) (e2 : len2 = z2.length) (c2 : len2 ≤ cap2) (i2 : Kd.C k59 w a2 len2 z2) :
    Calls Try.prog 13 #[.slice a0 len0 cap0, .slice a1 len1 cap1, .slice a2 len2 cap2] w fun e w' => e = .returned (.bool true) ∧ Below w.heap.size w w' := by
  obtain ⟨pz, rfl, hr0, -, -, -⟩ := ReadsInt.ofRowC i0
  have hpl : pz.length ≤ 100000000000000 := by omega
  have SM := Lib.hid (small_c a1 len1 cap1 z1 w i1 c1)
  have R0 := Lib.hid hr0
  have I2 := Lib.hid i2
  clear i0 y0 e1 i1 e2 i2 hr0
  go_enter Try.func13, Try.ntmps13
  go_wp2_with fail
  refine SM.out.mono ?_
  rintro e w1 ⟨v1, rfl, hR1, hB1⟩
  obtain ⟨A1, cc1, rfl, -, hC1⟩ := Kd.R_reads hR1
  have hl := small_len z1
  have ht := small_text z1
  generalize smallP z1 = l at *
  have C1 := Lib.hid hC1
  have B1 := Lib.hid hB1
  have R1 := Lib.hid (R0.out.below hB1)
  have I3 := Lib.hid (Kd.C_below I2.out hB1)
  have HT := Lib.hid ht
  have HL := Lib.hid hl
  clear hR1 hC1 hB1 hl ht SM R0 I2
  go_wp2_with fail
  go_loopw [7, 22] (fun v i wr => ∃ k : Nat, k ≤ 36 ∧ i = .int .i64 k ∧ Hid (wr.ownsRow w1.heap.size 3 1 v k (nums .i64 (oldP pz k))) ∧ Hid (Below w1.heap.size w1 wr)) (fun _ i _ => 36 - (RowKit.intOf i).toNat)
  case atStart => exact ⟨0, Nat.zero_le _, rfl, own_nil _ _ _ _, Below.refl _ _⟩
  case round =>
    obtain ⟨k, hk, rfl, hO, hB⟩ := hrel
    by_cases hlt : k < 36
    · have hos := old_succ pz k
      have hol := old_len pz k
      by_cases hkp : k < pz.length
      · obtain ⟨ad, ea, hx⟩ := (R1.out.below hB.out).at_ (k : Int) (by omega) (by omega)
        rw [Int.toNat_natCast] at hx
        have hrd : rd pz (k : Int) = pz.getD k 0 := by simp [rd]
        rw [hrd] at hx
        rw [if_pos hkp] at hos
        have n1 : decide (k < pz.length) = true := decide_eq_true (by omega)
        subst ea
        generalize pz.getD k 0 = x at *
        generalize hxs : oldP pz k = xs at *
        have OS := Lib.hid hos
        have OL := Lib.hid hol
        have OA := Lib.hid (pw_own_below hO.out (below_alloc (Below.refl wr.heap.size wr) (.cells #[.int .i64 x] 3)))
        clear hos hol hrd hxs
        go_wp2_with (at_builtin; go_loud (refine print_append_num (w0 := w1) (W := wr) w1.heap.size rfl (.tmp 33) (.tmp 35) 33 3 .i64 8 rfl Try.underlying33 infoN (by decide) _ xs x rfl rfl (by rw [OL.out]; exact hO.out) hB.out hB.out.size (by rw [OL.out]; omega) ?_; intro v1 w2 hO1 hB1 hG1 hat1; have O1 := Lib.hid hO1; have B1 := Lib.hid hB1; clear hO1 hB1 hG1 hat1))
        go_roundw
        case rel => exact ⟨k + 1, by omega, by go_num, by rw [OS.out]; have h := O1.out; rw [List.length_append, OL.out] at h; exact h, B1.out⟩
        case measure => simp [RowKit.intOf]; omega
      · rw [if_neg hkp] at hos
        have n1 : decide (k < pz.length) = false := decide_eq_false (by omega)
        generalize hxs : oldP pz k = xs at *
        have OS := Lib.hid hos
        have OL := Lib.hid hol
        clear hos hol hxs hkp
        go_wp2_with (at_builtin; go_loud (refine print_append_num (w0 := w1) (W := wr) w1.heap.size rfl (.tmp 33) (.tmp 35) 33 3 .i64 8 rfl Try.underlying33 infoN (by decide) _ xs 7 rfl rfl (by rw [OL.out]; exact hO.out) hB.out hB.out.size (by rw [OL.out]; omega) ?_; intro v1 w2 hO1 hB1 hG1 hat1; have O1 := Lib.hid hO1; have B1 := Lib.hid hB1; clear hO1 hB1 hG1 hat1))
        go_roundw
        case rel => exact ⟨k + 1, by omega, by go_num, by rw [OS.out]; have h := O1.out; rw [List.length_append, OL.out] at h; exact h, B1.out⟩
        case measure => simp [RowKit.intOf]; omega
    · obtain rfl : k = 36 := by omega
      obtain ⟨g0, cp0, hv0, hg0, hg0l⟩ := own_form hO.out (by decide)
      subst hv0
      have hol := old_len pz 36
      generalize oldP pz 36 = old at *
      have B2 := Lib.hid (below_then B1.out B1.out.size hB.out)
      have C2 := Lib.hid (Kd.C_below C1.out hB.out)
      have I4 := Lib.hid (Kd.C_below I3.out hB.out)
      have hll := HL.out
      have HT2 := Lib.hid (fun x (hx : x ∈ l) => Nat.le_trans (HT.out x hx) (by decide : (10 : Nat) ≤ 1000))
      have DR := Lib.hid (Draw_c A1 l.length cc1 l 6 6 wr C2.out (by omega) HT2.out (by decide) (by decide))
      have HL2 := Lib.hid (show l.length ≤ 100 by omega)
      have OLD := Lib.hid hol
      clear hol hll hB B1 C1 I3 HT HL R1 hlt hk hpl
      go_wp2_with fail
      refine DR.out.mono ?_
      rintro e w2 (⟨kk, hf, hk0, rfl, hb2⟩ | ⟨out, v2, hf, rfl, ho2, hb2⟩)
      · have nk : (kk != 0) = true := bne_iff_ne.2 hk0
        have B3 := Lib.hid (below_then B2.out B2.out.size hb2)
        clear hf hk0 hb2 DR
        go_wp2_with fail
        refine (drawn_c _).mono ?_
        rintro e w3 ⟨rfl, h3⟩
        have B4 := Lib.hid (below_then B3.out B3.out.size h3)
        clear h3 B3
        go_wp2_with fail
        go_ret
        exact ⟨rfl, B4.out⟩
      · obtain ⟨g2, cp2, rfl, hg2, hg2l⟩ := own_form ho2 (by decide)
        have hal := below_alloc (Below.refl w2.heap.size w2) (.cells #[.int .i64 0, .int .i64 0, .int .i64 384, .int .i64 384] 59)
        have B3 := Lib.hid (below_then (below_then B2.out B2.out.size hb2) (below_then B2.out B2.out.size hb2).size hal)
        have OO := Lib.hid (pw_own_below (pw_own_below hO.out hb2) hal)
        have OW := Lib.hid (pw_own_below ho2 hal)
        have C3 := Lib.hid (Kd.C_below (Kd.C_below C2.out hb2) hal)
        have I5 := Lib.hid (Kd.C_below (Kd.C_below I4.out hb2) hal)
        obtain ⟨A9, c9, e9, _, hC9⟩ := Kd.R_reads (lit_lr w2 w2.heap.size fullR (Nat.le_refl _))
        injection e9 with e9 e99 e999
        subst e9 e999
        have RD := Lib.hid (Redraw_c g0 cp0 old _ A1 l.length cc1 l _ 1 1 [fullR] _ OO.out C3.out HL2.out HT2.out hC9 (Nat.le_refl _))
        rw [cut_full] at RD
        have HF := Lib.hid hf
        clear hf ho2 hb2 hal hC9 e99 DR B2 C2 I4 hO
        go_wp2_with fail
        refine RD.out.mono ?_
        rintro e w4 (⟨kk, hf, hk0, rfl, hb4⟩ | ⟨out2, v4, hf, rfl, ho4, hb4⟩)
        · exact absurd (HF.out.symm.trans hf) (by intro h; cases h)
        · have he : out = out2 := by have := HF.out.symm.trans hf; injection this
          subst he
          rw [full_red] at ho4
          rw [full_many]
          obtain ⟨g4, cp4, rfl, hg4, hg4l⟩ := own_form ho4 (by decide)
          have B5 := Lib.hid (below_then B3.out B3.out.size hb4)
          have OO5 := Lib.hid (pw_own_below OO.out hb4)
          have OW5 := Lib.hid (pw_own_below OW.out hb4)
          have C5 := Lib.hid (Kd.C_below C3.out hb4)
          have I6 := Lib.hid (Kd.C_below I5.out hb4)
          have RD2 := Lib.hid (Redraw_c g0 cp0 old _ A1 l.length cc1 l a2 len2 cap2 z2 w4 OO5.out C5.out HL2.out HT2.out I6.out c2)
          have O4 := Lib.hid ho4
          generalize ((z2.take 1000).map cutR) = rs at *
          clear hf ho4 hb4 RD B3 OO OW C3 I5
          go_wp2_with fail
          refine RD2.out.mono ?_
          rintro e w5 (⟨kk, hf, hk0, rfl, hb5⟩ | ⟨out3, v5, hf, rfl, ho5, hb5⟩)
          · exact absurd (HF.out.symm.trans hf) (by intro h; cases h)
          · have he : out = out3 := by have := HF.out.symm.trans hf; injection this
            subst he
            obtain ⟨g5, cp5, rfl, hg5, hg5l⟩ := own_form ho5 (by decide)
            have B6 := Lib.hid (below_then B5.out B5.out.size hb5)
            have OO6 := Lib.hid (pw_own_below OO5.out hb5)
            have OW6 := Lib.hid (pw_own_below OW5.out hb5)
            have O6 := Lib.hid (pw_own_below O4.out hb5)
            have EQ := Lib.hid (eq_c _ _ g4 g2 36 cp4 cp2 (drawP out 6 6) w5 O6.out OW6.out (by decide))
            have O5 := Lib.hid ho5
            have CM := Lib.hid (ch_many out rs old 36 (Nat.le_refl _))
            have AT := Lib.hid (fun i hi => red_at out rs old i hi)
            generalize hmm : manyP rs 36 = many at *
            generalize redS out rs old 36 = part at *
            generalize drawP out 6 6 = whole at *
            clear hf ho5 hb5 RD2 B5 OO5 OW5 O4 C5 I6 O6 HF hmm
            go_wp2_with fail
            refine EQ.out.mono ?_
            rintro e w6 ⟨rfl, rfl⟩
            clear EQ
            go_wp2_with fail
            go_loopw [18, 86] (fun c i wv => ∃ k : Nat, k ≤ 36 ∧ i = .int .i64 k ∧ c = .int .i64 (chP part old k : Nat) ∧ Hid (Below w5.heap.size w5 wv)) (fun _ i _ => 36 - (RowKit.intOf i).toNat)
            case atStart => exact ⟨0, Nat.zero_le _, rfl, rfl, Below.refl _ _⟩
            case round =>
              obtain ⟨k, hk, rfl, rfl, hB⟩ := hrel
              by_cases hlt : k < 36
              · obtain ⟨hp, -⟩ := own_at (pw_own_below O5.out hB.out) (k : Int) (by omega) (by omega)
                obtain ⟨ho, -⟩ := own_at (pw_own_below OO6.out hB.out) (k : Int) (by omega) (by omega)
                obtain ⟨hd, -⟩ := own_at (pw_own_below OW6.out hB.out) (k : Int) (by omega) (by omega)
                have r1 : rd part (k : Int) = part.getD k 0 := by simp [rd]
                have r2 : rd old (k : Int) = old.getD k 0 := by simp [rd]
                have r3 : rd whole (k : Int) = whole.getD k 0 := by simp [rd]
                rw [Int.toNat_natCast] at hp ho hd
                rw [r1] at hp
                rw [r2] at ho
                rw [r3] at hd
                have hor : part.getD k 0 = old.getD k 0 ∨ part.getD k 0 = whole.getD k 0 := by
                  rw [AT.out k hlt]
                  split
                  · exact .inr rfl
                  · exact .inl rfl
                have hcl := ch_le part old k
                have hch : chP part old (k + 1) = chP part old k + if part.getD k 0 = old.getD k 0 then 0 else 1 := rfl
                have BD : Hid (∀ n, Below w5.heap.size w5 (wr.drewN n)) := Lib.hid fun n => pw_below_drewN hB.out n
                generalize hcc : chP part old k = cc at *
                generalize part.getD k 0 = pk at *
                generalize old.getD k 0 = ok at *
                generalize whole.getD k 0 = dk at *
                by_cases hpo : pk = ok
                · subst hpo
                  rw [if_pos rfl] at hch
                  have HC := Lib.hid hch
                  clear hch hor hB r1 r2 r3
                  go_wp2_with fail
                  go_quiet (fail)
                  go_wp2_with fail
                  go_quiet (fail)
                  go_wp2_with fail
                  go_roundw
                  case rel => exact ⟨k + 1, by omega, by go_num, by rw [HC.out]; rfl, BD.out _⟩
                  case measure => simp [RowKit.intOf]; omega
                · have hpd : pk = dk := hor.resolve_left hpo
                  subst hpd
                  rw [if_neg hpo] at hch
                  have HC := Lib.hid hch
                  have nk : (pk != ok) = true := bne_iff_ne.2 hpo
                  clear hch hor hB r1 r2 r3 hpo
                  go_wp2_with fail
                  go_quiet (fail)
                  go_wp2_with fail
                  go_quiet (fail)
                  go_wp2_with fail
                  go_roundw
                  case rel => exact ⟨k + 1, by omega, by go_num, by rw [HC.out]; go_num, BD.out _⟩
                  case measure => simp [RowKit.intOf]; omega
              · obtain rfl : k = 36 := by omega
                have ncm : decide ((chP part old 36 : Nat) ≤ many) = true := decide_eq_true CM.out
                have B7 := Lib.hid (below_then B6.out B6.out.size hB.out)
                generalize chP part old 36 = cc at *
                clear hB
                go_wp2_with fail
                refine (drawn_c _).mono ?_
                rintro e w7 ⟨rfl, h7⟩
                have B8 := Lib.hid (below_then B7.out B7.out.size h7)
                clear h7
                go_wp2_with fail
                go_ret
                exact ⟨rfl, B8.out⟩

theorem own : ownKnob Try.prog.godebug = none := by kernel_rfl
theorem laidOut : laidOutB Try.prog = true := by kernel_rfl
set_option maxRecDepth 100000 in
theorem lifted (os : Os) (started : os.Started) (H : Type) (enc : TypeId × Value → H) :
    ReturnsInHanded {} Try.checked os 13 .any (Rows.damageAllSpec.pre6 enc Try.prog Try.f13 Rows.damageAllRow.domain false) (Rows.damageAllSpec.post enc Try.prog Try.f13 false true false false) := by
  refine returnsInHanded_of_change_sized (C := Try.checked) own started (by kernel_rfl) Try.func13
    (ChangeSpec.witness6 (enc := enc) (C := Try.checked) false ⟨#[], #[.slice none 0 0, .slice none 0 0, .slice none 0 0], []⟩ 8 (by kernel_rfl) (by kernel_rfl) (by kernel_rfl) (by kernel_rfl)) ?_
  intro W base args ds gs before hval0 hW hcnd hsz0 _
  have hsz : (DataW.weightsEach Try.prog (Try.f13.params.toList ++ Rows.damageAllSpec.plain.varTypes Try.prog) (ds ++ gs)).all (· ≤ reachBytes) = true := hsz0
  have hval : ∀ (j : Nat) t v, Try.f13.params[j]? = some t → args[j]? = some v → Value.okWide Try.prog W .any base t v := hval0
  have hW' := hW
  obtain ⟨p, q, hA0, hV, rfl, hfz, hnd⟩ := hW
  have hA : DataW.TrodAll enc Try.prog W 0 (fun _ => true) true Try.f13.params.toList args.toList ds p := hA0
  rw [Try.params13] at hA hval hsz
  obtain ⟨v0, vs0, d0, ds0, p0, q0, hargs, rfl, rfl, h0, r0⟩ := trodAll_cons hA
  obtain ⟨v1, vs1, d1, ds1, p1, q1, rfl, rfl, rfl, h1, r1⟩ := trodAll_cons r0
  obtain ⟨v2, vs2, d2, ds2, p2, q2, rfl, rfl, rfl, h2, r2⟩ := trodAll_cons r1
  obtain ⟨rfl, rfl, rfl⟩ := trodAll_nil r2
  obtain rfl : args = #[v0, v1, v2] := by cases args; simp_all
  obtain ⟨rfl, rfl⟩ := trodVars_none hV
  obtain ⟨a0, len0, cap0, rfl⟩ := okWide_slice Try.underlying33 (hval 0 33 v0 rfl rfl)
  have k0 := h0
  have lt0 : ∀ x ∈ p0, x.block < W.heap.size := by obtain ⟨m, hm⟩ := k0; exact DataW.trod_lt m _ _ _ hm
  obtain ⟨z0, w0⟩ : ∃ zs, IsRow .i64 W a0 len0 cap0 zs := by
    obtain ⟨fuel, hf⟩ := h0
    rcases open_ints Try.underlying33 Try.underlying3 (by kernel_rfl) hf with ⟨hcs, _⟩ | ⟨x, l, c, zs, hcs, _, hl, hm, hz, _, hcell, hwz⟩
    · simp [Value.cells] at hcs
      obtain ⟨rfl, rfl, rfl⟩ := hcs
      exact ⟨[], .inl ⟨rfl, rfl, rfl, rfl⟩⟩
    · simp [Value.cells] at hcs
      obtain ⟨rfl, rfl, rfl⟩ := hcs
      exact ⟨zs, .inr ⟨_, rfl, hl, hm, by simpa using hz, hcell, hwz⟩⟩
  have y0 : len0 * 8 ≤ 140737488351232 := sized_ints hsz (j := 0) (t := 33) rfl rfl Try.underlying33 Try.underlying3 (by kernel_rfl) (by kernel_rfl) h0
  obtain ⟨a1, len1, cap1, rfl⟩ := okWide_slice Try.underlying28 (hval 1 28 v1 rfl rfl)
  have k1 := h1
  have lt1 : ∀ x ∈ p1, x.block < W.heap.size := by obtain ⟨m, hm⟩ := k1; exact DataW.trod_lt m _ _ _ hm
  obtain ⟨z1, e1, c1, w1⟩ : ∃ zs, len1 = zs.length ∧ len1 ≤ cap1 ∧ Kd.C k65 W a1 len1 zs := by
    obtain ⟨fuel, hf⟩ := h1
    obtain ⟨A, c, xs, hcs, h1, h2⟩ := slice_of Try.underlying28 op_T65 hf
    simp [Value.cells] at hcs
    obtain ⟨rfl, rfl, rfl⟩ := hcs
    exact ⟨xs, rfl, h1, h2⟩
  obtain ⟨a2, len2, cap2, rfl⟩ := okWide_slice Try.underlying72 (hval 2 72 v2 rfl rfl)
  have k2 := h2
  have lt2 : ∀ x ∈ p2, x.block < W.heap.size := by obtain ⟨m, hm⟩ := k2; exact DataW.trod_lt m _ _ _ hm
  obtain ⟨z2, e2, c2, w2⟩ : ∃ zs, len2 = zs.length ∧ len2 ≤ cap2 ∧ Kd.C k59 W a2 len2 zs := by
    obtain ⟨fuel, hf⟩ := h2
    obtain ⟨A, c, xs, hcs, h1, h2⟩ := slice_of Try.underlying72 op_T59 hf
    simp [Value.cells] at hcs
    obtain ⟨rfl, rfl, rfl⟩ := hcs
    exact ⟨xs, rfl, h1, h2⟩
  clear hA0 hval0 hsz0 hsz
  refine (walk a0 len0 cap0 z0 a1 len1 cap1 z1 a2 len2 cap2 z2 W w0 y0 e1 c1 w1 e2 c2 w2).mono fun e W' ⟨he, bel⟩ => ?_
  subst he
  exact ⟨_, rfl, _, _, _, [], _, [], hW', trodAll_mk1 (shut_bool Try.underlying4 _), (trodAll_cons_mk (Below.trod laidOut (by kernel_rfl) (of_decide_eq_true (by kernel_rfl)) k0 bel lt0) (trodAll_cons_mk (Below.trod laidOut (by kernel_rfl) (of_decide_eq_true (by kernel_rfl)) k1 bel lt1) (trodAll_cons_mk (Below.trod laidOut (by kernel_rfl) (of_decide_eq_true (by kernel_rfl)) k2 bel lt2) trodAll_mk0))), rfl, bel.frame _, fun h => by cases h⟩
theorem over : Rows.damageAllRow.holds Try.pinned (OpenSpec.ofChange Rows.damageAllSpec) :=
  OpenClaim.holds_of_wide 13 Try.f13 rfl rfl rfl rfl rfl rfl rfl ⟨rfl, rfl, rfl, rfl, rfl⟩ rfl rfl rfl rfl rfl (by kernel_rfl) Try.func13 (by kernel_rfl)
    (of_decide_eq_true (by kernel_rfl)) (by unfold Func.isWrapper; first | (rw [if_pos (by decide +kernel)]; kernel_rfl) | (rw [if_neg (by decide +kernel)]; exact ⟨rfl, rfl⟩))
    (fun os started H enc _ => lifted os started H enc)
theorem proved : Rows.DamageAllSaid := over
#print axioms proved
end Go.Proofs.Ytfkgpkkjiolfpaa.DamageAll
