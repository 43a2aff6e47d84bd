/- Flexible rows: what is spread is no more than what is free, and, between items, all of it. For every input. -/
import Derived.Test.YtfkgpkkjiolfpaaRows
import Derived.Test.YtfkgpkkjiolfpaaSpread3
import Derived.Test.YtfkgpkkjiolfpaaFlexOp
import Derived.ProofKit
import Derived.OpenShut
import Derived.ShutString
import Derived.ChangeOld
import Derived.Below
import Derived.SizedLaws
namespace Go.Proofs.Ytfkgpkkjiolfpaa.FlexSpreadAll
open Go.RowKit Go.Proofs.Ytfkgpkkjiolfpaa.Flx Go.Proofs.Ytfkgpkkjiolfpaa.Spd Go.Proofs.Ytfkgpkkjiolfpaa.Rgn Go.Proofs.Ytfkgpkkjiolfpaa.Pl Go.Proofs.Ytfkgpkkjiolfpaa.Fx Go.Proofs.Ytfkgpkkjiolfpaa.Sm Go.Proofs.YtfkgpkkjiolfpaaW.PrintWords Go.Proofs.YtfkgpkkjiolfpaaW.PrintLast Go.Proofs.YtfkgpkkjiolfpaaW.PrintMore
open Go.ChangeShapes Go.WideShapes Go.ChangeAt
set_option linter.unusedVariables false
set_option linter.unusedSimpArgs false
attribute [local go_sem] mx2 mn2 mx_two mn_two mx_three mn_three

theorem nonneg_sum (xs : List Int) (h : ∀ x, x ∈ xs → 0 ≤ x) : 0 ≤ xs.sum ∧ ∀ k, 0 ≤ (xs.take k).sum ∧ (xs.take k).sum ≤ xs.sum := by
  induction xs with
  | nil => exact ⟨Int.le_refl _, fun k => by simp⟩
  | cons a xs ih =>
    obtain ⟨i1, i2⟩ := ih (fun x hx => h x (List.mem_cons_of_mem _ hx))
    have ha := h a (List.mem_cons_self ..)
    refine ⟨by rw [List.sum_cons]; omega, fun k => ?_⟩
    cases k with
    | zero => rw [List.take_zero, List.sum_nil, List.sum_cons]; omega
    | succ k =>
      have := i2 k
      rw [List.take_succ_cons, List.sum_cons, List.sum_cons]
      omega
theorem walk (mode free n : Int) (w : World) (h1 : (Lit.int .i64 mode).wf = true) (h2 : (Lit.int .i64 free).wf = true) (h3 : (Lit.int .i64 n).wf = true) :
    Calls Try.prog 7 #[.int .i64 mode, .int .i64 free, .int .i64 n] w fun e w' => e = .returned (.bool true) ∧ Below w.heap.size w w' := by
  have b1 := u16_bd free
  obtain ⟨N, hN⟩ : ∃ N : Nat, n % 256 % 50 = (N : Int) := ⟨(n % 256 % 50).toNat, by omega⟩
  have hN2 : N ≤ 49 := by omega
  clear h1 h2 h3
  go_enter Try.func7, Try.ntmps7
  go_wp2_with fail
  rw [hN]
  clear hN
  generalize IntKind.u16.wrap free = fr at *
  refine (Spread_c mode fr N w (by omega)).mono ?_
  rintro e w1 ⟨v, rfl, hO, hB⟩
  obtain ⟨hl, h0, hs, h4⟩ := spread_facts mode fr N b1.1 b1.2 (by omega)
  obtain ⟨s0, s1⟩ := nonneg_sum _ h0
  obtain ⟨A, c, rfl, hrd⟩ := own_reads hO
  generalize spreadP mode fr N = xs at *
  have R1 := Lib.hid hrd
  have B1 := Lib.hid hB
  have L1 := Lib.hid hl
  have H0 := Lib.hid h0
  have H4 := Lib.hid h4
  have SB : Hid (∀ k, -4000000000000000000 ≤ (xs.take k).sum ∧ (xs.take k).sum ≤ 4000000000000000000) := Lib.hid fun k => by have := s1 k; omega
  clear hO hrd hB hl h0 h4 s1
  go_wp2_with fail
  refine (flexed_c w1).mono ?_
  rintro e w2 ⟨rfl, hB⟩
  have B2 := Lib.hid (below_then B1.out B1.out.size hB)
  have R2 := Lib.hid (R1.out.below hB)
  have t1 : decide (fr < xs.sum) = false := decide_eq_false (by omega)
  clear hB R1 B1
  go_wp2_with (first
    | ((with_reducible refine (sum_c w2 A N c xs R2.out SB.out).mono ?_); rintro e w' ⟨rfl, rfl⟩))
  go_loopw [37] (fun i wr => ∃ k : Nat, k ≤ N ∧ i = .int .i64 k ∧ Hid (wr = w2)) (fun i _ => N - (RowKit.intOf i).toNat)
  case atStart => exact ⟨0, Nat.zero_le _, rfl, rfl⟩
  case round =>
    obtain ⟨k, hk, rfl, hW⟩ := hrel
    obtain rfl := hW.out
    clear hW
    by_cases hlt : k < N
    · obtain ⟨ad, e1, hc⟩ := R2.out.at_ (k : Int) (by omega) (by omega)
      rw [Int.toNat_natCast] at hc
      subst e1
      have hx : rd xs (k : Int) = xs[k]'(by rw [L1.out]; exact hlt) := by simp [rd, L1.out, hlt]
      have hge : 0 ≤ rd xs (k : Int) := by rw [hx]; exact H0.out _ (List.getElem_mem _)
      have t2 : decide (rd xs (k : Int) < 0) = false := decide_eq_false (by omega)
      generalize rd xs (k : Int) = y at *
      clear hx
      go_wp2_with fail
      go_roundw
      case rel => exact ⟨k + 1, by omega, by go_num, by first | exact rfl | exact trivial⟩
      case measure => simp [RowKit.intOf]; omega
    · obtain rfl : k = N := by omega
      by_cases m4 : mode = 4
      · subst m4
        by_cases m2 : k < 2
        · have t3 : decide ((k : Int) < 2) = true := decide_eq_true (by omega)
          go_wp2_with fail
          go_ret
          exact ⟨rfl, B2.out⟩
        · have t3 : decide ((k : Int) < 2) = false := decide_eq_false (by omega)
          have hss := H4.out rfl (by omega)
          have t4 : (xs.sum == fr) = true := by simp [hss]
          clear hss
          go_wp2_with (first
            | ((with_reducible refine (sum_c wr A k c xs R2.out SB.out).mono ?_); rintro e w' ⟨rfl, rfl⟩))
          go_ret
          exact ⟨rfl, B2.out⟩
      · have t3 : (mode != 4) = true := by simp [m4]
        go_wp2_with fail
        go_ret
        exact ⟨rfl, B2.out⟩

theorem own : ownKnob Try.prog.godebug = none := by kernel_rfl
set_option maxRecDepth 100000 in
theorem lifted (os : Os) (started : os.Started) (H : Type) (enc : TypeId × Value → H) :
    ReturnsInHanded {} Try.checked os 7 .any (Rows.flexSpreadAllSpec.pre6 enc Try.prog Try.f7 Rows.flexSpreadAllRow.domain false) (Rows.flexSpreadAllSpec.post enc Try.prog Try.f7 false true false false) := by
  refine returnsInHanded_of_change_sized (C := Try.checked) own started (by kernel_rfl) Try.func7
    (ChangeSpec.witness6 (enc := enc) (C := Try.checked) false ⟨#[], #[.int .i64 0, .int .i64 0, .int .i64 0], []⟩ 8 (by kernel_rfl) (by kernel_rfl) (by kernel_rfl) (by kernel_rfl)) ?_
  intro W base args ds gs before hval0 hW hcnd hsz0 _
  have hsz : (DataW.weightsEach Try.prog (Try.f7.params.toList ++ Rows.flexSpreadAllSpec.plain.varTypes Try.prog) (ds ++ gs)).all (· ≤ reachBytes) = true := hsz0
  have hval : ∀ (j : Nat) t v, Try.f7.params[j]? = some t → args[j]? = some v → Value.okWide Try.prog W .any base t v := hval0
  have hW' := hW
  obtain ⟨p, q, hA0, hV, rfl, hfz, hnd⟩ := hW
  have hA : DataW.TrodAll enc Try.prog W 0 (fun _ => true) true Try.f7.params.toList args.toList ds p := hA0
  rw [Try.params7] at hA hval hsz
  obtain ⟨v0, vs0, d0, ds0, p0, q0, hargs, rfl, rfl, h0, r0⟩ := trodAll_cons hA
  obtain ⟨v1, vs1, d1, ds1, p1, q1, rfl, rfl, rfl, h1, r1⟩ := trodAll_cons r0
  obtain ⟨v2, vs2, d2, ds2, p2, q2, rfl, rfl, rfl, h2, r2⟩ := trodAll_cons r1
  obtain ⟨rfl, rfl, rfl⟩ := trodAll_nil r2
  obtain rfl : args = #[v0, v1, v2] := by cases args; simp_all
  obtain ⟨rfl, rfl⟩ := trodVars_none hV
  obtain ⟨a0, rfl, rfl, rfl, w0⟩ := open_int Try.underlying3 (hval 0 3 v0 rfl rfl) h0
  obtain ⟨a1, rfl, rfl, rfl, w1⟩ := open_int Try.underlying3 (hval 1 3 v1 rfl rfl) h1
  obtain ⟨a2, rfl, rfl, rfl, w2⟩ := open_int Try.underlying3 (hval 2 3 v2 rfl rfl) h2
  clear hA0 hval0 hsz0 hsz
  refine (walk a0 a1 a2 W w0 w1 w2).mono fun e W' ⟨he, bel⟩ => ?_
  subst he
  exact ⟨_, rfl, _, _, _, [], _, [], hW', trodAll_mk1 (shut_bool Try.underlying4 _), (trodAll_cons_mk (shut_int Try.underlying3 w0) (trodAll_cons_mk (shut_int Try.underlying3 w1) (trodAll_cons_mk (shut_int Try.underlying3 w2) trodAll_mk0))), rfl, bel.frame _, fun h => by cases h⟩
theorem over : Rows.flexSpreadAllRow.holds Try.pinned (OpenSpec.ofChange Rows.flexSpreadAllSpec) :=
  OpenClaim.holds_of_wide 7 Try.f7 rfl rfl rfl rfl rfl rfl rfl ⟨rfl, rfl, rfl, rfl, rfl⟩ rfl rfl rfl rfl rfl (by kernel_rfl) Try.func7 (by kernel_rfl)
    (of_decide_eq_true (by kernel_rfl)) (by unfold Func.isWrapper; first | (rw [if_pos (by decide +kernel)]; kernel_rfl) | (rw [if_neg (by decide +kernel)]; exact ⟨rfl, rfl⟩))
    (fun os started H enc _ => lifted os started H enc)
theorem proved : Rows.FlexSpreadAllSaid := over
#print axioms proved
end Go.Proofs.Ytfkgpkkjiolfpaa.FlexSpreadAll
