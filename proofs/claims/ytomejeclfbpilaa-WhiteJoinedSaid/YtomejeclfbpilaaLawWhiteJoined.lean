/- Two texts, one behind the other, are collapsed as one. For every input. -/
import Derived.Test.YtomejeclfbpilaaRows
import Derived.Test.YtomejeclfbpilaaWhite
import Derived.ProofKit
import Derived.OpenShut
import Derived.ShutString
import Derived.ChangeOld
import Derived.Below
import Derived.SizedLaws
namespace Go.Proofs.Ytomejeclfbpilaa.WhiteJoined
open Go.RowKit Go.Proofs.Ytomejeclfbpilaa.Pl Go.Proofs.Ytomejeclfbpilaa.Fx Go.Proofs.Ytomejeclfbpilaa.Wh Go.Proofs.YtomejeclfbpilaaW.PrintWords
open Go.ChangeShapes Go.WideShapes Go.ChangeAt
open Go.ChangeMaps (open_string shut_string)
set_option linter.unusedVariables false
set_option linter.unusedSimpArgs false
attribute [local go_sem] mx2 mn2 mx_two mn_two mx_three mn_three

set_option maxHeartbeats 1000000 in
theorem walk (a b : ByteArray) (mode : Int) (blank : Bool) (w : World) (_ : a.size ≤ 140737488351232) (_ : b.size ≤ 140737488351232) (_ : (Lit.int .i64 mode).wf = true) :
    Calls Try.prog 5 #[.string a, .string b, .int .i64 mode, .bool blank] w fun e w' => e = .returned (.bool true) ∧ Below w.heap.size w w' := by
  obtain ⟨m0, e0, q0, r0⟩ : ∃ m : Nat, min (a.size : Int) 200 = (m : Int) ∧ m ≤ a.size ∧ m ≤ 200 := ⟨min a.size 200, by omega, by omega, by omega⟩
  obtain ⟨m1, e1, q1, r1⟩ : ∃ m : Nat, min (b.size : Int) 200 = (m : Int) ∧ m ≤ b.size ∧ m ≤ 200 := ⟨min b.size 200, by omega, by omega, by omega⟩
  go_enter Try.func5, Try.ntmps5
  go_wp2
  go_quiet (fail)
  have hB0 : Below w.heap.size w (w.drewN nq) := pw_below_drewN (Below.refl _ _) nq
  have B0 := Lib.hid hB0
  clear hB0
  have hu : (a.extract 0 m0).size ≤ 200 := by rw [ByteArray.size_extract]; omega
  have hv : (b.extract 0 m1).size ≤ 200 := by rw [ByteArray.size_extract]; omega
  generalize a.extract 0 m0 = u at *
  generalize b.extract 0 m1 = v at *
  generalize w.drewN nq = wd at *
  have huv : (u ++ v).size ≤ 400 := by rw [ByteArray.size_append]; omega
  have hd : (u ++ v).data.toList = u.data.toList ++ v.data.toList := by rw [ByteArray.data_append, Array.toList_append]
  cases hk : keeps mode with
  | true =>
    go_wp2_with (first
      | (go_at_call 18; refine (Collapse_k _ _ _ _ hk).mono ?_; rintro e w' ⟨rfl, rfl⟩)
      | (go_at_call 19; refine (whited_c _).mono ?_; rintro e wF ⟨rfl, hF⟩; have BF := Lib.hid hF; clear hF)
      | (go_at_call 20; refine (rkeeps_c _ _).mono ?_; rintro e w' ⟨rfl, rfl⟩))
    go_ret
    exact ⟨by simp, below_then B0.out B0.out.size BF.out⟩
  | false =>
    go_wp2_with fail
    refine (Collapse_c _ _ _ _ hk (by omega)).mono ?_
    rintro e w1 ⟨rfl, h1⟩
    have B1 := Lib.hid (below_then B0.out B0.out.size h1)
    have z1 := h1.size
    clear h1
    go_wp2_with fail
    refine (Collapse_c _ _ _ _ hk (by omega)).mono ?_
    rintro e w2 ⟨rfl, h2⟩
    have B2 := Lib.hid (below_then B1.out B1.out.size h2)
    clear h2 z1
    go_wp2_with fail
    refine (Collapse_c _ _ _ _ hk (by omega)).mono ?_
    rintro e w3 ⟨rfl, h3⟩
    have B3 := Lib.hid (below_then B2.out B2.out.size h3)
    clear h3
    go_wp2_with fail
    simp only [coll_app]
    have l1 : (coll u.data.toList blank).1.length ≤ 200 := by have := coll_len u.data.toList blank; rw [data_length] at this; omega
    generalize coll u.data.toList blank = x at *
    obtain ⟨xs, xb⟩ := x
    simp only at l1 ⊢
    have l2 : (coll v.data.toList xb).1.length ≤ 200 := by have := coll_len v.data.toList xb; rw [data_length] at this; omega
    generalize coll v.data.toList xb = y at *
    obtain ⟨ys, yb⟩ := y
    simp only at l2
    have hcat : ((⟨xs.toArray⟩ : ByteArray) ++ ⟨ys.toArray⟩) = ⟨(xs ++ ys).toArray⟩ := by apply ByteArray.ext; simp
    go_wp2_with (first
      | (go_at_call 19; refine (whited_c _).mono ?_; rintro e wF ⟨rfl, hF⟩; have BF := Lib.hid hF; clear hF)
      | (go_at_call 20; refine (rkeeps_c _ _).mono ?_; rintro e w' ⟨rfl, rfl⟩))
    go_ret
    exact ⟨by simp, below_then B3.out B3.out.size BF.out⟩

theorem own : ownKnob Try.prog.godebug = none := by kernel_rfl
set_option maxRecDepth 100000 in
theorem lifted (os : Os) (started : os.Started) (H : Type) (enc : TypeId × Value → H) :
    ReturnsInHanded {} Try.checked os 5 .any (Rows.whiteJoinedSpec.pre6 enc Try.prog Try.f5 Rows.whiteJoinedRow.domain false) (Rows.whiteJoinedSpec.post enc Try.prog Try.f5 false true false false) := by
  refine returnsInHanded_of_change_sized (C := Try.checked) own started (by kernel_rfl) Try.func5
    (ChangeSpec.witness6 (enc := enc) (C := Try.checked) false ⟨#[], #[.string ByteArray.empty, .string ByteArray.empty, .int .i64 0, .bool false], []⟩ 8 (by kernel_rfl) (by kernel_rfl) (by kernel_rfl) (by kernel_rfl)) ?_
  intro W base args ds gs before hval0 hW hcnd hsz0 _
  have hsz : (DataW.weightsEach Try.prog (Try.f5.params.toList ++ Rows.whiteJoinedSpec.plain.varTypes Try.prog) (ds ++ gs)).all (· ≤ reachBytes) = true := hsz0
  have hval : ∀ (j : Nat) t v, Try.f5.params[j]? = some t → args[j]? = some v → Value.okWide Try.prog W .any base t v := hval0
  have hW' := hW
  obtain ⟨p, q, hA0, hV, rfl, hfz, hnd⟩ := hW
  have hA : DataW.TrodAll enc Try.prog W 0 (fun _ => true) true Try.f5.params.toList args.toList ds p := hA0
  rw [Try.params5] at hA hval hsz
  obtain ⟨v0, vs0, d0, ds0, p0, q0, hargs, rfl, rfl, h0, r0⟩ := trodAll_cons hA
  obtain ⟨v1, vs1, d1, ds1, p1, q1, rfl, rfl, rfl, h1, r1⟩ := trodAll_cons r0
  obtain ⟨v2, vs2, d2, ds2, p2, q2, rfl, rfl, rfl, h2, r2⟩ := trodAll_cons r1
  obtain ⟨v3, vs3, d3, ds3, p3, q3, rfl, rfl, rfl, h3, r3⟩ := trodAll_cons r2
  obtain ⟨rfl, rfl, rfl⟩ := trodAll_nil r3
  obtain rfl : args = #[v0, v1, v2, v3] := by cases args; simp_all
  obtain ⟨rfl, rfl⟩ := trodVars_none hV
  obtain ⟨a0, rfl, rfl, rfl, y0⟩ := open_string Try.underlying9 (hval 0 9 v0 rfl rfl) h0
  have w0 : a0.size ≤ 140737488351232 := by
    have z := sized_string hsz (j := 0) (t := 9) rfl rfl
    rw [Array.length_toList] at z
    exact z
  obtain ⟨a1, rfl, rfl, rfl, y1⟩ := open_string Try.underlying9 (hval 1 9 v1 rfl rfl) h1
  have w1 : a1.size ≤ 140737488351232 := by
    have z := sized_string hsz (j := 1) (t := 9) rfl rfl
    rw [Array.length_toList] at z
    exact z
  obtain ⟨a2, rfl, rfl, rfl, w2⟩ := open_int Try.underlying3 (hval 2 3 v2 rfl rfl) h2
  obtain ⟨a3, rfl, rfl, rfl⟩ := open_bool Try.underlying4 (hval 3 4 v3 rfl rfl) h3
  clear hA0 hval0 hsz0 hsz
  refine (walk a0 a1 a2 a3 W w0 w1 w2).mono fun e W' ⟨he, bel⟩ => ?_
  subst he
  exact ⟨_, rfl, _, _, _, [], _, [], hW', trodAll_mk1 (shut_bool Try.underlying4 _), (trodAll_cons_mk (shut_string Try.underlying9 y0) (trodAll_cons_mk (shut_string Try.underlying9 y1) (trodAll_cons_mk (shut_int Try.underlying3 w2) (trodAll_cons_mk (shut_bool Try.underlying4 _) trodAll_mk0)))), rfl, bel.frame _, fun h => by cases h⟩
theorem over : Rows.whiteJoinedRow.holds Try.pinned (OpenSpec.ofChange Rows.whiteJoinedSpec) :=
  OpenClaim.holds_of_wide 5 Try.f5 rfl rfl rfl rfl rfl rfl rfl ⟨rfl, rfl, rfl, rfl, rfl⟩ rfl rfl rfl rfl rfl (by kernel_rfl) Try.func5 (by kernel_rfl)
    (of_decide_eq_true (by kernel_rfl)) (by unfold Func.isWrapper; first | (rw [if_pos (by decide +kernel)]; kernel_rfl) | (rw [if_neg (by decide +kernel)]; exact ⟨rfl, rfl⟩))
    (fun os started H enc _ => lifted os started H enc)
theorem proved : Rows.WhiteJoinedSaid := over
#print axioms proved
end Go.Proofs.Ytomejeclfbpilaa.WhiteJoined
