/- What fits has room, and one rune more has none. For every input; the two tables of unicode/utf8 as their text lays them. -/
import Derived.Test.YtnmagdjkefhllaaDoorRows
import Derived.Test.YtnmagdjkefhllaaDoorCards
import Derived.Test.YtnmagdjkefhllaaDoorTie
import Derived.Test.YtnmagdjkefhllaaDoorFontWidth
import Derived.Shelf.Unicode.ValidAny
import Derived.Lib.LaidU8T
import Derived.PinnedBridge
import Derived.Lay
import Derived.SevenTiedAt
import Derived.ProofKit
import Derived.OpenShut
import Derived.ShutString
import Derived.ChangeOld
import Derived.Below
import Derived.SizedLaws
namespace Go.Proofs.YtnmagdjkefhllaaDoor.FontFitMost
open Go.RowKit Go.Shelf Go.Lib Go.Proofs.YtnmagdjkefhllaaDoor.Pl Go.Proofs.YtnmagdjkefhllaaDoor.Fx Go.Proofs.YtnmagdjkefhllaaDoor.Fnt Go.Proofs.YtnmagdjkefhllaaDoorW.PrintWords
open Go.ChangeShapes Go.WideShapes Go.ChangeAt
open Go.ChangeMaps (open_string shut_string)
set_option linter.unusedVariables false
set_option linter.unusedSimpArgs false
attribute [local go_sem] mx2 mn2 mx_two mn_two mx_three mn_three

theorem i16_bd (x : Int) : -32768 ≤ IntKind.i16.wrap x ∧ IntKind.i16.wrap x ≤ 32767 := by
  simp only [IntKind.wrap, IntKind.bits, IntKind.signed, Nat.reducePow, Nat.reduceSub]
  simp
  omega
theorem i32_bd (x : Int) : -2147483648 ≤ wrap32 x ∧ wrap32 x ≤ 2147483647 := by
  unfold wrap32
  omega
theorem w64_id {x : Int} (h1 : -9223372036854775808 ≤ x) (h2 : x ≤ 9223372036854775807) : wrap64 x = x := by
  unfold wrap64; omega
theorem w64_i16 (x : Int) : wrap64 (IntKind.i16.wrap x) = IntKind.i16.wrap x := by have := i16_bd x; exact w64_id (by omega) (by omega)
theorem w64_i32 (x : Int) : wrap64 (wrap32 x) = wrap32 x := by have := i32_bd x; exact w64_id (by omega) (by omega)
theorem ext_head (s : ByteArray) (k : Nat) : (s.extract 0 k).data.toList = s.data.toList.take k := by
  rw [ByteArray.data_extract, Array.toList_extract]
  simp
theorem ext_tail (s : ByteArray) (k : Nat) : (s.extract k s.size).data.toList = s.data.toList.drop k := by
  rw [ByteArray.data_extract, Array.toList_extract, List.extract_eq_take_drop]
  exact List.take_of_length_le (by rw [List.length_drop, ← Lib.size_eq]; omega)
theorem go_dec (s : ByteArray) (k : Nat) (h : k < s.size) : decodeGo (s.extract k s.size) = decodeL (s.data.toList.drop k) := by
  have hz : (s.extract k s.size).size ≠ 0 := by rw [ByteArray.size_extract]; omega
  unfold decodeGo
  rw [if_neg hz, ← decodeL_drop, List.drop_zero, ext_tail]
/-- The plain law. -/
theorem fit_law (s : ByteArray) (size sp room : Int) (hv : validD s.data.toList = true) (h0 : 0 ≤ room) :
    fitP s size sp room ≤ s.size ∧ cut (wsum (rwt size sp) (s.extract 0 (fitP s size sp room)).data.toList) ≤ cut room ∧
    (fitP s size sp room < s.size → fitP s size sp room + (decodeGo (s.extract (fitP s size sp room) s.size)).2 ≤ s.size ∧
      cut room < cut (wsum (rwt size sp) (s.extract 0 (fitP s size sp room + (decodeGo (s.extract (fitP s size sp room) s.size)).2)).data.toList)) := by
  have hc : 0 ≤ cut room := cut_nonneg.2 h0
  have hf : fitP s size sp room = fitD (rwt size sp) cut (cut room) s.data.toList 0 := by unfold fitP; rw [if_neg (by omega)]
  obtain ⟨h1, h2, h3⟩ := fit_most (rwt size sp) cut (cut room) _ s.data.toList 0 (Nat.le_refl _) hv (by rw [cut_id (by omega) (by omega)]; exact hc)
  rw [hf]
  generalize fitD (rwt size sp) cut (cut room) s.data.toList 0 = k at *
  rw [← Lib.size_eq] at h1 h3
  refine ⟨h1, ?_, fun hlt => ?_⟩
  · rw [ext_head]
    rwa [Int.zero_add] at h2
  · rw [go_dec s k hlt, ext_head]
    have h4 := h3 hlt
    rw [Int.zero_add] at h4
    have h5 := decodeL_le _ (drop_ne hlt)
    rw [List.length_drop, ← Lib.size_eq] at h5
    exact ⟨by omega, h4⟩
theorem fit_low (s : ByteArray) (size sp room : Int) (h0 : room < 0) : fitP s size sp room = 0 := by
  unfold fitP
  rw [if_pos (cut_neg.2 h0)]
theorem valid_c (s : ByteArray) (w : World) (hs : s.size ≤ 1000) (hT : Lib.Utf8Tabs 0 1 w) :
    Calls Tryd.prog 5 #[.string s] w fun e w' => e = .returned (.bool (Lib.validD s.data.toList)) ∧ Below w.heap.size w w' :=
  Any.utf8_ValidString Tryd.lays196 s w (by omega) hT

set_option maxHeartbeats 1000000 in
theorem walk (a : ByteArray) (size sp room : Int) (w : World) (_ : a.size ≤ 9223372036854775807) (_ : (Lit.int .i64 size).wf = true) (_ : (Lit.int .i64 sp).wf = true) (_ : (Lit.int .i64 room).wf = true) (hT : Lib.Utf8Tabs 0 1 w) :
    Calls Tryd.prog 4 #[.string a, .int .i64 size, .int .i64 sp, .int .i64 room] w fun e w' => e = .returned (.bool true) ∧ Below w.heap.size w w' := by
  have HT := Lib.hid hT
  clear hT
  obtain ⟨m0, e0, q0, r0⟩ : ∃ m : Nat, min (a.size : Int) 200 = (m : Int) ∧ m ≤ a.size ∧ m ≤ 200 := ⟨min a.size 200, by omega, by omega, by omega⟩
  go_enter Tryd.func4, Tryd.ntmps4
  go_wp2_with fail
  refine (fonted_c _).mono ?_
  rintro e w0 ⟨rfl, h0⟩
  have B0 := Lib.hid h0
  clear h0
  have hu : (a.extract 0 m0).size ≤ 200 := by rw [ByteArray.size_extract]; omega
  generalize a.extract 0 m0 = u at *
  simp only [w64_i16, w64_i32]
  generalize IntKind.i16.wrap size = S at *
  generalize sp % 256 = Q at *
  have hR := i32_bd room
  generalize wrap32 room = R at *
  go_wp2_with fail
  refine (valid_c u _ (by omega) (Utf8Tabs_below HT.out B0.out)).mono ?_
  rintro e w1 ⟨rfl, h1⟩
  have B1 := Lib.hid (below_then B0.out B0.out.size h1)
  clear h1
  cases hv1 : validD u.data.toList with
  | false =>
    go_wp2_with fail
    refine (fonted_c _).mono ?_
    rintro e w2 ⟨rfl, h2⟩
    have B2 := Lib.hid (below_then B1.out B1.out.size h2)
    clear h2
    go_wp2_with fail
    go_ret
    exact ⟨rfl, B2.out⟩
  | true =>
    have HV1 := Lib.hid hv1
    clear hv1
    have FIT := Lib.hid fun w => Fit_c u S Q R w (by omega)
    have W := Lib.hid fun t w (h : ByteArray.size t ≤ 1000) => Width_c t S Q w h
    by_cases h0 : R < 0
    · have hk := fit_low u S Q R h0
      rw [hk] at FIT
      have n1 : decide (R < 0) = true := decide_eq_true h0
      clear hk
      go_wp2_with fail
      refine (FIT.out _).mono ?_
      rintro e w2 ⟨rfl, h2⟩
      have B2 := Lib.hid (below_then B1.out B1.out.size h2)
      clear h2
      go_wp2_with fail
      go_ret
      exact ⟨rfl, B2.out⟩
    · have LAW := fit_law u S Q R HV1.out (by omega)
      have n1 : decide (R < 0) = false := decide_eq_false h0
      generalize fitP u S Q R = k at *
      obtain ⟨l1, l2, l3⟩ := LAW
      have n2 : decide ((k : Int) < 0) = false := decide_eq_false (by omega)
      have n3 : decide ((u.size : Int) < (k : Int)) = false := decide_eq_false (by omega)
      have n3' : decide (u.size < k) = false := decide_eq_false (by omega)
      have CUT := Lib.hid fun w => Cut_c R w
      have W1 := Lib.hid fun w => W.out (u.extract 0 k) w (by rw [ByteArray.size_extract]; omega)
      generalize cut (wsum (rwt S Q) (u.extract 0 k).data.toList) = x1 at *
      generalize cut R = R' at *
      have n4 : decide (R' < x1) = false := decide_eq_false (by omega)
      by_cases hlt : k < u.size
      · obtain ⟨l4, l5⟩ := l3 hlt
        have DEC := Lib.hid fun w hT => Tryd.utf8_DecodeRuneInString (u.extract k u.size) w hT
        generalize (decodeGo (u.extract k u.size)).2 = n at *
        generalize (decodeGo (u.extract k u.size)).1 = r at *
        have W2 := Lib.hid fun w => W.out (u.extract 0 (k + n)) w (by rw [ByteArray.size_extract]; omega)
        generalize cut (wsum (rwt S Q) (u.extract 0 (k + n)).data.toList) = x2 at *
        have n5 : decide (R' < x2) = true := decide_eq_true l5
        have n6 : ((k : Int) == (u.size : Int)) = false := by simp; omega
        have n7 : (k == u.size) = false := by simp; omega
        clear l2 l3 l5
        go_wp2_with fail
        refine (FIT.out _).mono ?_
        rintro e w2 ⟨rfl, h2⟩
        have B2 := Lib.hid (below_then B1.out B1.out.size h2)
        clear h2
        go_wp2_with fail
        refine (CUT.out _).mono ?_
        rintro e w' ⟨rfl, rfl⟩
        go_wp2_with fail
        refine (W1.out _).mono ?_
        rintro e w3 ⟨rfl, h3⟩
        have B3 := Lib.hid (below_then B2.out B2.out.size h3)
        clear h3
        go_wp2_with fail
        refine (DEC.out _ (Utf8Tabs_below HT.out B3.out)).mono ?_
        rintro e w4 ⟨rfl, h4⟩
        have B4 := Lib.hid (below_then B3.out B3.out.size h4)
        clear h4
        go_wp2_with fail
        refine (W2.out _).mono ?_
        rintro e w5 ⟨rfl, h5⟩
        have B5 := Lib.hid (below_then B4.out B4.out.size h5)
        clear h5
        go_wp2_with fail
        go_ret
        exact ⟨rfl, B5.out⟩
      · have hke : k = u.size := by omega
        have n6 : ((k : Int) == (u.size : Int)) = true := by simp; omega
        have n7 : (k == u.size) = true := by simp; omega
        clear l2 l3
        have KE := Lib.hid hke
        clear hke
        go_wp2_with fail
        refine (FIT.out _).mono ?_
        rintro e w2 ⟨rfl, h2⟩
        have B2 := Lib.hid (below_then B1.out B1.out.size h2)
        clear h2
        go_wp2_with fail
        refine (CUT.out _).mono ?_
        rintro e w' ⟨rfl, rfl⟩
        go_wp2_with fail
        refine (W1.out _).mono ?_
        rintro e w3 ⟨rfl, h3⟩
        have B3 := Lib.hid (below_then B2.out B2.out.size h3)
        clear h3
        go_wp2_with fail
        go_ret
        exact ⟨rfl, B3.out⟩
theorem own : ownKnob Tryd.prog.godebug = none := by kernel_rfl
theorem accEq : (Rows.laid_unicode_utf8_acceptRanges : DataW Unit) = acceptData := by kernel_rfl
set_option maxRecDepth 100000 in
theorem lifted (os : Os) (started : os.Started) (H : Type) (enc : TypeId × Value → H) :
    ReturnsInHanded {} Tryd.checked os 4 .any (fun w args => (Rows.fontFitMostSpec.pre enc Tryd.prog Tryd.f4 [] false w args ∧ laidMetH Tryd.prog Rows.fontFitMostRow.laid w) ∧ sizedMet enc Tryd.prog Tryd.f4 (OpenSpec.ofChange Rows.fontFitMostSpec) false w args)
      (Rows.fontFitMostSpec.post enc Tryd.prog Tryd.f4 false true false false) := by
  refine returnsInHanded_of_change_and (C := Tryd.checked) (X := fun w _ => laidMetH Tryd.prog Rows.fontFitMostRow.laid w) (fun _ _ _ hh h => h.of_heap hh) own started (by kernel_rfl) Tryd.func4
    (ChangeSpec.witness_shaped (enc := enc) (C := Tryd.checked) (os := os) (X := fun w _ => laidMetH Tryd.prog Rows.fontFitMostRow.laid w) false (World.laidAll Tryd.prog os Rows.fontFitMostRow.laid) #[.string ByteArray.empty, .int .i64 0, .int .i64 0, .int .i64 0] 8 (World.laidAll_os _ _ _)
      (World.shaped_of_ZipB (by kernel_rfl) (by kernel_rfl)) (by kernel_rfl) (by kernel_rfl) (by kernel_rfl)
      (by rw [MakeChecks.laidMetH_plain _ _ _ (by kernel_rfl)]; exact laidMet_laidAll _ (by kernel_rfl) (by kernel_rfl))) ?_
  intro W base args ds gs before hval0 hW _ _ hL _
  have hval : ∀ (j : Nat) t v, Tryd.f4.params[j]? = some t → args[j]? = some v → Value.okWide Tryd.prog W .any base t v := hval0
  have hW' := hW
  obtain ⟨p, q, hA0, hV, rfl, _, _⟩ := hW
  have hA : DataW.TrodAll enc Tryd.prog W 0 (fun _ => true) true Tryd.f4.params.toList args.toList ds p := hA0
  rw [Tryd.params4] at hA hval
  obtain ⟨v0, vs0, d0, ds0, p0, q0, hargs, rfl, rfl, h0, r0⟩ := trodAll_cons hA
  obtain ⟨v1, vs1, d1, ds1, p1, q1, rfl, rfl, rfl, h1, r1⟩ := trodAll_cons r0
  obtain ⟨v2, vs2, d2, ds2, p2, q2, rfl, rfl, rfl, h2, r2⟩ := trodAll_cons r1
  obtain ⟨v3, vs3, d3, ds3, p3, q3, rfl, rfl, rfl, h3, r3⟩ := trodAll_cons r2
  obtain ⟨rfl, rfl, rfl⟩ := trodAll_nil r3
  obtain rfl : args = #[v0, v1, v2, v3] := by cases args; simp_all
  obtain ⟨rfl, rfl⟩ := trodVars_none hV
  obtain ⟨a0, rfl, rfl, rfl, y0⟩ := open_string Tryd.underlying9 (hval 0 9 v0 rfl rfl) h0
  have w0 : a0.size ≤ 9223372036854775807 := by unfold maxLen at y0; omega
  obtain ⟨a1, rfl, rfl, rfl, w1⟩ := open_int Tryd.underlying3 (hval 1 3 v1 rfl rfl) h1
  obtain ⟨a2, rfl, rfl, rfl, w2⟩ := open_int Tryd.underlying3 (hval 2 3 v2 rfl rfl) h2
  obtain ⟨a3, rfl, rfl, rfl, w3⟩ := open_int Tryd.underlying3 (hval 3 3 v3 rfl rfl) h3
  rw [MakeChecks.laidMetH_plain _ _ _ (by kernel_rfl)] at hL
  have hT : Lib.Utf8Tabs 0 1 W := utf8Tabs_of_readsT (U8Types.of196 Tryd.lays196) ⟨by kernel_rfl, by kernel_rfl, by kernel_rfl, by kernel_rfl, by kernel_rfl, by kernel_rfl, by kernel_rfl⟩ (Pinned.utf8First_eq ▸ Lib.laidMet.reads hL (.tail _ (.head _))) (accEq ▸ Lib.laidMet.reads hL (.head _))
  clear hA0 hval0
  refine (walk a0 a1 a2 a3 W w0 w1 w2 w3 hT).mono fun e W' ⟨he, bel⟩ => ?_
  subst he
  exact ⟨_, rfl, _, _, _, [], _, [], hW', trodAll_mk1 (shut_bool Tryd.underlying4 _), (trodAll_cons_mk (shut_string Tryd.underlying9 y0) (trodAll_cons_mk (shut_int Tryd.underlying3 w1) (trodAll_cons_mk (shut_int Tryd.underlying3 w2) (trodAll_cons_mk (shut_int Tryd.underlying3 w3) trodAll_mk0)))), rfl, bel.frame _, fun h => by cases h⟩
theorem over : Rows.fontFitMostRow.holds Tryd.pinned (OpenSpec.ofChange Rows.fontFitMostSpec) :=
  OpenClaim.holds_of_wide 4 Tryd.f4 rfl rfl rfl rfl rfl rfl rfl ⟨rfl, rfl, rfl, rfl, rfl⟩ rfl rfl rfl rfl rfl (by kernel_rfl) Tryd.func4 (by kernel_rfl)
    (of_decide_eq_true (by kernel_rfl)) (by unfold Func.isWrapper; first | (rw [if_pos (by decide +kernel)]; kernel_rfl) | (rw [if_neg (by decide +kernel)]; exact ⟨rfl, rfl⟩))
    (fun os started H enc _ => lifted os started H enc)
theorem proved : Rows.FontFitMostCardSaid :=
  Claim7.holds_tied_plain_at .later [] [.data, .pinned] true (true, "c1612f71189b6aa4e3d05f1cfcf97c97dc78806c6f7fee4e926f8fba217614d9") false over (fun _ h => by cases h) (by kernel_rfl) (fun _ h => by cases h) fontFitMost_row_tie rfl ⟨rfl, rfl⟩ (by kernel_rfl) rfl
    (fun f fn hf hfn => by
      obtain rfl : f = 4 := Option.some.inj ((show Tryd.prog.funcNamed "clerestory/clerestorykeep3.FontFitMost" = some 4 by kernel_rfl).symm.trans hf) |>.symm
      obtain rfl : fn = Tryd.f4 := (Option.some.inj (Tryd.func4.symm.trans hfn)).symm
      exact ⟨by kernel_rfl, fun j t ht => by
        rw [Tryd.params4] at ht
        have hm : t ∈ [9, 3, 3, 3] := by simpa using Array.mem_of_getElem? ht
        have hall : ([9, 3, 3, 3].all fun u => !Tryd.prog.wantsStandIn u) = true := by kernel_rfl
        exact (show Tryd.prog.wantsStandIn t = false by simpa using List.all_eq_true.1 hall t hm)⟩)
    (by kernel_rfl)
#print axioms proved
end Go.Proofs.YtnmagdjkefhllaaDoor.FontFitMost
