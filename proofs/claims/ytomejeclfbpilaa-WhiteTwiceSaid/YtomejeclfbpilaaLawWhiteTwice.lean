/- What is collapsed stays as it is, and no blanks stand side by side. For every input. -/
import Derived.Test.YtomejeclfbpilaaRows
import Derived.Test.YtomejeclfbpilaaWhite
import Derived.ProofKit
import Derived.OpenShut
import Derived.ShutString
import Derived.ChangeOld
import Derived.Below
import Derived.SizedLaws
import Derived.HandedShaped
namespace Go.Proofs.Ytomejeclfbpilaa.WhiteTwice
open Go.RowKit Go.Proofs.Ytomejeclfbpilaa.Pl Go.Proofs.Ytomejeclfbpilaa.Fx Go.Proofs.Ytomejeclfbpilaa.Wh Go.Proofs.YtomejeclfbpilaaW.PrintWords
open Go.ChangeShapes Go.WideShapes Go.ChangeAt
open Go.ChangeMaps (open_string shut_string)
set_option linter.unusedVariables false
set_option linter.unusedSimpArgs false
attribute [local go_sem] mx2 mn2 mx_two mn_two mx_three mn_three

theorem coll_cons (c : UInt8) (l : List UInt8) (b : Bool) : coll (c :: l) b = if isB c = true then (if b = true then coll l true else (32 :: (coll l true).1, (coll l true).2)) else (c :: (coll l false).1, (coll l false).2) := by
  have h := coll_app [c] l b
  rw [List.singleton_append] at h
  rw [h]
  have e : coll [c] b = stp ([], b) c := rfl
  rw [e]
  unfold stp
  split
  · split <;> simp
  · simp
theorem coll_twice (l : List UInt8) : ∀ b, coll (coll l b).1 b = coll l b := by
  induction l with
  | nil => intro b; rfl
  | cons c l ih =>
    intro b
    rw [coll_cons c l b]
    by_cases h : isB c = true
    · rw [if_pos h]
      cases b with
      | true => exact ih true
      | false =>
        simp only [Bool.false_eq_true, if_false]
        rw [coll_cons 32 _ false, if_pos (by decide)]
        simp only [Bool.false_eq_true, if_false]
        rw [ih true]
    · rw [if_neg h]
      simp only
      rw [coll_cons c _ b, if_neg h, ih false]
theorem coll_good (l : List UInt8) : ∀ b, Lib.index (coll l b).1 [32, 32] = -1 ∧ (b = true → [32].isPrefixOf (coll l b).1 = false) := by
  induction l with
  | nil => intro b; exact ⟨rfl, fun _ => rfl⟩
  | cons c l ih =>
    intro b
    rw [coll_cons c l b]
    by_cases h : isB c = true
    · rw [if_pos h]
      cases b with
      | true => exact ih true
      | false =>
        simp only [Bool.false_eq_true, if_false]
        have h1 := ih true
        refine ⟨?_, fun h => by cases h⟩
        have h2 := h1.2 rfl
        unfold Lib.index
        have h3 : [32, 32].isPrefixOf (32 :: (coll l true).1) = false := by
          simp only [List.isPrefixOf, beq_self_eq_true, Bool.true_and]
          exact h2
        rw [h3, h1.1]
        rfl
    · rw [if_neg h]
      have h1 := ih false
      have hc : (32 == c) = false := by
        rw [beq_eq_false_iff_ne]
        rintro rfl
        exact h (by decide)
      refine ⟨?_, fun _ => ?_⟩
      · simp only
        unfold Lib.index
        have h3 : [32, 32].isPrefixOf (c :: (coll l false).1) = false := by
          simp only [List.isPrefixOf, hc, Bool.false_and]
        rw [h3, h1.1]
        rfl
      · simp only [List.isPrefixOf, hc, Bool.false_and]

set_option maxHeartbeats 1000000 in
theorem walk (a : ByteArray) (mode : Int) (blank : Bool) (w : World) (_ : a.size ≤ 140737488351232) (_ : (Lit.int .i64 mode).wf = true) (hsh : w.ShapedOpen Try.prog) :
    Calls Try.prog 11 #[.string a, .int .i64 mode, .bool blank] w fun e w' => e = .returned (.bool true) ∧ Below w.heap.size w w' := by
  obtain ⟨m0, e0, q0, r0⟩ : ∃ m : Nat, min (a.size : Int) 400 = (m : Int) ∧ m ≤ a.size ∧ m ≤ 400 := ⟨min a.size 400, by omega, by omega, by omega⟩
  obtain ⟨m, hm⟩ := cell_of_shapedOpen_int (P := Try.prog) (g := 0) (t := 3) (zero := #[.int .i64 0]) hsh (of_decide_eq_true (by kernel_rfl)) (by kernel_rfl) rfl (by kernel_rfl) (by kernel_rfl) Try.underlying3
  have HM := Lib.hid hm
  clear hsh hm
  cases hk : keeps mode with
  | true =>
    go_enter Try.func11, Try.ntmps11
    go_wp2_with (first
      | (go_at_call 18; refine (Collapse_k _ _ _ _ hk).mono ?_; rintro e w' ⟨rfl, rfl⟩)
      | (go_at_call 19; refine (whited_c _).mono ?_; rintro e wF ⟨rfl, hF⟩; have BF := Lib.hid hF; clear hF)
      | (go_at_call 20; refine (rkeeps_c _ _).mono ?_; rintro e w' ⟨rfl, rfl⟩))
    go_ret
    exact ⟨by simp, BF.out⟩
  | false =>
    go_enter Try.func11, Try.ntmps11
    go_wp2_with fail
    have hu : (a.extract 0 m0).size ≤ 400 := by rw [ByteArray.size_extract]; omega
    generalize a.extract 0 m0 = u at *
    refine (Collapse_c _ _ _ _ hk (by omega)).mono ?_
    rintro e w1 ⟨rfl, h1⟩
    have B1 := Lib.hid h1
    clear h1
    go_wp2_with fail
    have hg := coll_good u.data.toList blank
    have ht := coll_twice u.data.toList blank
    have l1 : (coll u.data.toList blank).1.length ≤ 400 := by have := coll_len u.data.toList blank; rw [data_length] at this; omega
    generalize coll u.data.toList blank = x at *
    obtain ⟨xs, xb⟩ := x
    simp only at hg ht l1 ⊢
    refine (Collapse_c ⟨xs.toArray⟩ _ _ _ hk (by show xs.toArray.size ≤ _; simp; omega)).mono ?_
    rintro e w2 ⟨rfl, h2⟩
    have B2 := Lib.hid (below_then B1.out B1.out.size h2)
    clear h2
    simp only [ht]
    obtain ⟨g1, g2⟩ := hg
    have hc : Lib.contains xs [32, 32] = false := by unfold Lib.contains; rw [g1]; rfl
    have cC : ∀ W : World, Below w.heap.size w W → Calls Try.prog 38 #[.string ⟨xs.toArray⟩, .string ⟨#[32, 32]⟩] W fun e w' => e = .returned (.bool false) ∧ W = w' := by
      intro W hW
      refine (Try.strings_Contains ⟨xs.toArray⟩ ⟨#[32, 32]⟩ m W (by show xs.toArray.size < _; simp; omega) (pw_cell_below hW HM.out)).mono ?_
      rintro e w' ⟨rfl, rfl⟩
      exact ⟨by simp [hc], rfl⟩
    have cP : blank = true → ∀ W : World, Calls Try.prog 39 #[.string ⟨xs.toArray⟩, .string ⟨#[32]⟩] W fun e w' => e = .returned (.bool false) ∧ W = w' := by
      intro hb W
      refine (Try.strings_HasPrefix ⟨xs.toArray⟩ ⟨#[32]⟩ W).mono ?_
      rintro e w' ⟨rfl, rfl⟩
      have := g2 hb
      exact ⟨by simp [Lib.hasPrefix, this], rfl⟩
    have CC := Lib.hid cC
    have CP := Lib.hid cP
    clear ht g1 g2 hc cC cP
    cases blank with
    | true =>
      go_wp2_with (first
        | (go_at_call 19; refine (whited_c _).mono ?_; rintro e wF ⟨rfl, hF⟩; have BF := Lib.hid (below_then B2.out B2.out.size hF); clear hF)
        | (go_at_call 20; refine (rkeeps_c _ _).mono ?_; rintro e w' ⟨rfl, rfl⟩)
        | (go_at_call 38; refine (CC.out _ BF.out).mono ?_; rintro e w' ⟨rfl, rfl⟩)
        | (go_at_call 39; refine (CP.out (by first | rfl | trivial) _).mono ?_; rintro e w' ⟨rfl, rfl⟩))
      go_ret
      exact ⟨by simp, BF.out⟩
    | false =>
      go_wp2_with (first
        | (go_at_call 19; refine (whited_c _).mono ?_; rintro e wF ⟨rfl, hF⟩; have BF := Lib.hid (below_then B2.out B2.out.size hF); clear hF)
        | (go_at_call 20; refine (rkeeps_c _ _).mono ?_; rintro e w' ⟨rfl, rfl⟩)
        | (go_at_call 38; refine (CC.out _ BF.out).mono ?_; rintro e w' ⟨rfl, rfl⟩))
      go_ret
      exact ⟨by simp, BF.out⟩

theorem own : ownKnob Try.prog.godebug = none := by kernel_rfl
set_option maxRecDepth 100000 in
theorem lifted (os : Os) (started : os.Started) (H : Type) (enc : TypeId × Value → H) :
    ReturnsInHanded {} Try.checked os 11 .any (Rows.whiteTwiceSpec.pre6 enc Try.prog Try.f11 Rows.whiteTwiceRow.domain false) (Rows.whiteTwiceSpec.post enc Try.prog Try.f11 false true false false) := by
  refine returnsInHanded_of_change_shaped (C := Try.checked) own started (by kernel_rfl) Try.func11
    (ChangeSpec.witness6 (enc := enc) (C := Try.checked) false ⟨#[], #[.string ByteArray.empty, .int .i64 0, .bool false], []⟩ 8 (by kernel_rfl) (by kernel_rfl) (by kernel_rfl) (by kernel_rfl)) ?_
  intro W base args ds gs before hval0 hW hcnd hsz0 hsh0 _
  have hsh : W.ShapedOpen Try.prog := hsh0
  have hsz : (DataW.weightsEach Try.prog (Try.f11.params.toList ++ Rows.whiteTwiceSpec.plain.varTypes Try.prog) (ds ++ gs)).all (· ≤ reachBytes) = true := hsz0
  have hval : ∀ (j : Nat) t v, Try.f11.params[j]? = some t → args[j]? = some v → Value.okWide Try.prog W .any base t v := hval0
  have hW' := hW
  obtain ⟨p, q, hA0, hV, rfl, hfz, hnd⟩ := hW
  have hA : DataW.TrodAll enc Try.prog W 0 (fun _ => true) true Try.f11.params.toList args.toList ds p := hA0
  rw [Try.params11] at hA hval hsz
  obtain ⟨v0, vs0, d0, ds0, p0, q0, hargs, rfl, rfl, h0, r0⟩ := trodAll_cons hA
  obtain ⟨v1, vs1, d1, ds1, p1, q1, rfl, rfl, rfl, h1, r1⟩ := trodAll_cons r0
  obtain ⟨v2, vs2, d2, ds2, p2, q2, rfl, rfl, rfl, h2, r2⟩ := trodAll_cons r1
  obtain ⟨rfl, rfl, rfl⟩ := trodAll_nil r2
  obtain rfl : args = #[v0, v1, v2] := by cases args; simp_all
  obtain ⟨rfl, rfl⟩ := trodVars_none hV
  obtain ⟨a0, rfl, rfl, rfl, y0⟩ := open_string Try.underlying9 (hval 0 9 v0 rfl rfl) h0
  have w0 : a0.size ≤ 140737488351232 := by
    have z := sized_string hsz (j := 0) (t := 9) rfl rfl
    rw [Array.length_toList] at z
    exact z
  obtain ⟨a1, rfl, rfl, rfl, w1⟩ := open_int Try.underlying3 (hval 1 3 v1 rfl rfl) h1
  obtain ⟨a2, rfl, rfl, rfl⟩ := open_bool Try.underlying4 (hval 2 4 v2 rfl rfl) h2
  clear hA0 hval0 hsz0 hsz
  refine (walk a0 a1 a2 W w0 w1 hsh).mono fun e W' ⟨he, bel⟩ => ?_
  subst he
  exact ⟨_, rfl, _, _, _, [], _, [], hW', trodAll_mk1 (shut_bool Try.underlying4 _), (trodAll_cons_mk (shut_string Try.underlying9 y0) (trodAll_cons_mk (shut_int Try.underlying3 w1) (trodAll_cons_mk (shut_bool Try.underlying4 _) trodAll_mk0))), rfl, bel.frame _, fun h => by cases h⟩
theorem over : Rows.whiteTwiceRow.holds Try.pinned (OpenSpec.ofChange Rows.whiteTwiceSpec) :=
  OpenClaim.holds_of_wide 11 Try.f11 rfl rfl rfl rfl rfl rfl rfl ⟨rfl, rfl, rfl, rfl, rfl⟩ rfl rfl rfl rfl rfl (by kernel_rfl) Try.func11 (by kernel_rfl)
    (of_decide_eq_true (by kernel_rfl)) (by unfold Func.isWrapper; first | (rw [if_pos (by decide +kernel)]; kernel_rfl) | (rw [if_neg (by decide +kernel)]; exact ⟨rfl, rfl⟩))
    (fun os started H enc _ => lifted os started H enc)
theorem proved : Rows.WhiteTwiceSaid := over
#print axioms proved
end Go.Proofs.Ytomejeclfbpilaa.WhiteTwice
