/- Two texts, one behind the other, are as wide as both; ascent and descent are the size. For every input; the two tables of unicode/utf8 as their text lays them. -/
import Derived.Test.YtnmagdjkefhllaaDoorRows
import Derived.Test.YtnmagdjkefhllaaDoorCards
import Derived.Test.YtnmagdjkefhllaaDoorTie
import Derived.Test.YtnmagdjkefhllaaDoorFontWidth
import Derived.Shelf.Unicode.ValidAny
import Derived.Lib.LaidU8T
import Derived.PinnedBridge
import Derived.Lay
import Derived.SevenTiedAt
import Derived.ProofKit
import Derived.OpenShut
import Derived.ShutString
import Derived.ChangeOld
import Derived.Below
import Derived.SizedLaws
namespace Go.Proofs.YtnmagdjkefhllaaDoor.FontJoined
open Go.RowKit Go.Shelf Go.Lib Go.Proofs.YtnmagdjkefhllaaDoor.Pl Go.Proofs.YtnmagdjkefhllaaDoor.Fx Go.Proofs.YtnmagdjkefhllaaDoor.Fnt Go.Proofs.YtnmagdjkefhllaaDoorW.PrintWords
open Go.ChangeShapes Go.WideShapes Go.ChangeAt
open Go.ChangeMaps (open_string shut_string)
set_option linter.unusedVariables false
set_option linter.unusedSimpArgs false
attribute [local go_sem] mx2 mn2 mx_two mn_two mx_three mn_three

theorem i16_bd (x : Int) : -32768 ≤ IntKind.i16.wrap x ∧ IntKind.i16.wrap x ≤ 32767 := by
  simp only [IntKind.wrap, IntKind.bits, IntKind.signed, Nat.reducePow, Nat.reduceSub]
  simp
  omega
theorem i8_bd (x : Int) : -128 ≤ IntKind.i8.wrap x ∧ IntKind.i8.wrap x ≤ 127 := by
  simp only [IntKind.wrap, IntKind.bits, IntKind.signed, Nat.reducePow, Nat.reduceSub]
  simp
  omega
theorem w64_id {x : Int} (h1 : -9223372036854775808 ≤ x) (h2 : x ≤ 9223372036854775807) : wrap64 x = x := by
  unfold wrap64; omega
theorem w64_i16 (x : Int) : wrap64 (IntKind.i16.wrap x) = IntKind.i16.wrap x := by have := i16_bd x; exact w64_id (by omega) (by omega)
theorem w64_i8 (x : Int) : wrap64 (IntKind.i8.wrap x) = IntKind.i8.wrap x := by have := i8_bd x; exact w64_id (by omega) (by omega)
attribute [local go_sem] w64_i16 w64_i8
theorem adv_sz (r n : Int) : 0 ≤ adv r n ∧ adv r n ≤ sz n := by
  have h1 := sz_bd n
  have h2 := fou_bd r
  have e : adv r n = cut (sz n * fou r / 4) := by
    unfold adv prt
    rw [cut_id (n := sz n) (by omega) (by omega), cut_id (n := fou r) (by omega) (by omega), cut_id (n := 4) (by omega) (by omega), if_neg (by omega)]
  have h3 : 0 ≤ sz n * fou r := Int.mul_nonneg h1.1 h2.1
  have h4 : sz n * fou r ≤ sz n * 4 := Int.mul_le_mul_of_nonneg_left h2.2 h1.1
  rw [e, cut_id (by omega) (by omega)]
  omega
/-- The plain law. -/
theorem joined_law (u v : ByteArray) (size sp : Int) (hu : u.size ≤ 100) (hv : v.size ≤ 100) (h1 : -32768 ≤ size ∧ size ≤ 32767) (h2 : -128 ≤ sp ∧ sp ≤ 127) (hv1 : validD u.data.toList = true) :
    cut (wsum (rwt size sp) (u ++ v).data.toList) = cut (wsum (rwt size sp) u.data.toList) + cut (wsum (rwt size sp) v.data.toList) := by
  have hb : ∀ r, -32895 ≤ rwt size sp r ∧ rwt size sp r ≤ 32895 := fun r => by
    have h3 := adv_sz (r : Int) size
    have h4 : sz size ≤ 32767 := by unfold sz cut; omega
    have h5 : cut sp = sp := cut_id (by omega) (by omega)
    unfold rwt
    omega
  have b1 := wsum_bd (rwt size sp) 32895 (by omega) hb 100 u.data.toList (by rw [← Lib.size_eq]; omega)
  have b2 := wsum_bd (rwt size sp) 32895 (by omega) hb 100 v.data.toList (by rw [← Lib.size_eq]; omega)
  have hd : (u ++ v).data.toList = u.data.toList ++ v.data.toList := by rw [ByteArray.data_append, Array.toList_append]
  rw [hd, (joined (rwt size sp) v.data.toList _ u.data.toList (Nat.le_refl _) hv1).1, cut_id (by omega) (by omega), cut_id (by omega) (by omega), cut_id (by omega) (by omega)]
theorem size_law (size : Int) (h1 : -32768 ≤ size ∧ size ≤ 32767) : asc size + (sz size - asc size) = max 0 size := by
  have : cut size = size := cut_id (by omega) (by omega)
  unfold sz
  rw [this]
  omega
theorem valid_c (s : ByteArray) (w : World) (hs : s.size ≤ 1000) (hT : Lib.Utf8Tabs 0 1 w) :
    Calls Tryd.prog 5 #[.string s] w fun e w' => e = .returned (.bool (Lib.validD s.data.toList)) ∧ Below w.heap.size w w' :=
  Any.utf8_ValidString Tryd.lays196 s w (by omega) hT

set_option maxHeartbeats 1000000 in
theorem walk (a b : ByteArray) (size sp : Int) (w : World) (_ : a.size ≤ 9223372036854775807) (_ : b.size ≤ 9223372036854775807) (_ : (Lit.int .i64 size).wf = true) (_ : (Lit.int .i64 sp).wf = true) (hT : Lib.Utf8Tabs 0 1 w) :
    Calls Tryd.prog 3 #[.string a, .string b, .int .i64 size, .int .i64 sp] w fun e w' => e = .returned (.bool true) ∧ Below w.heap.size w w' := by
  have HT := Lib.hid hT
  clear hT
  obtain ⟨m0, e0, q0, r0⟩ : ∃ m : Nat, min (a.size : Int) 100 = (m : Int) ∧ m ≤ a.size ∧ m ≤ 100 := ⟨min a.size 100, by omega, by omega, by omega⟩
  obtain ⟨m1, e1, q1, r1⟩ : ∃ m : Nat, min (b.size : Int) 100 = (m : Int) ∧ m ≤ b.size ∧ m ≤ 100 := ⟨min b.size 100, by omega, by omega, by omega⟩
  go_enter Tryd.func3, Tryd.ntmps3
  go_wp2
  go_quiet (fail)
  have hB0 : Below w.heap.size w (w.drewN nq) := pw_below_drewN (Below.refl _ _) nq
  have B0 := Lib.hid hB0
  clear hB0
  have hu : (a.extract 0 m0).size ≤ 100 := by rw [ByteArray.size_extract]; omega
  have hv : (b.extract 0 m1).size ≤ 100 := by rw [ByteArray.size_extract]; omega
  generalize a.extract 0 m0 = u at *
  generalize b.extract 0 m1 = v at *
  generalize w.drewN nq = wd at *
  have huv : (u ++ v).size ≤ 200 := by rw [ByteArray.size_append]; omega
  have HU := Lib.hid hu
  have HV := Lib.hid hv
  have HUV := Lib.hid huv
  go_wp2_with fail
  refine (valid_c u _ (by have := HU.out; omega) (Utf8Tabs_below HT.out B0.out)).mono ?_
  rintro e w1 ⟨rfl, h1⟩
  have B1 := Lib.hid (below_then B0.out B0.out.size h1)
  clear h1
  cases hv1 : validD u.data.toList with
  | false =>
    go_wp2_with fail
    refine (fonted_c _).mono ?_
    rintro e w2 ⟨rfl, h2⟩
    have B2 := Lib.hid (below_then B1.out B1.out.size h2)
    clear h2
    go_wp2_with fail
    go_ret
    exact ⟨rfl, B2.out⟩
  | true =>
    go_wp2_with fail
    refine (valid_c v _ (by have := HV.out; omega) (Utf8Tabs_below HT.out B1.out)).mono ?_
    rintro e w2 ⟨rfl, h2⟩
    have B2 := Lib.hid (below_then B1.out B1.out.size h2)
    clear h2
    cases hv2 : validD v.data.toList with
    | false =>
      go_wp2_with fail
      refine (fonted_c _).mono ?_
      rintro e w3 ⟨rfl, h3⟩
      have B3 := Lib.hid (below_then B2.out B2.out.size h3)
      clear h3
      go_wp2_with fail
      go_ret
      exact ⟨rfl, B3.out⟩
    | true =>
      go_wp2_with fail
      refine (fonted_c _).mono ?_
      rintro e w3 ⟨rfl, h3⟩
      have B3 := Lib.hid (below_then B2.out B2.out.size h3)
      clear h3
      simp only [w64_i16, w64_i8]
      have z1 := i16_bd size
      have z2 := i8_bd sp
      have LAW := joined_law u v (IntKind.i16.wrap size) (IntKind.i8.wrap sp) HU.out HV.out z1 z2 hv1
      have SIZE := size_law (IntKind.i16.wrap size) z1
      have a1 : -16777216 ≤ asc (IntKind.i16.wrap size) ∧ asc (IntKind.i16.wrap size) ≤ 16777216 := prt_bd _ _ _
      have s1 := sz_bd (IntKind.i16.wrap size)
      generalize IntKind.i16.wrap size = S at *
      generalize IntKind.i8.wrap sp = Q at *
      have l1 := cut_bd (wsum (rwt S Q) u.data.toList)
      have l2 := cut_bd (wsum (rwt S Q) v.data.toList)
      have WA := Lib.hid fun w => Width_c u S Q w (by have := HU.out; omega)
      have WB := Lib.hid fun w => Width_c v S Q w (by have := HV.out; omega)
      have WC := Lib.hid fun w => Width_c (u ++ v) S Q w (by have := HUV.out; omega)
      generalize cut (wsum (rwt S Q) u.data.toList) = x1 at *
      generalize cut (wsum (rwt S Q) v.data.toList) = x2 at *
      generalize cut (wsum (rwt S Q) (u ++ v).data.toList) = x3 at *
      subst LAW
      have AS := Lib.hid fun w => Ascent_c S w
      have DS := Lib.hid fun w => Descent_c S w
      generalize asc S = y1 at *
      generalize sz S = y2 at *
      have HSIZE := Lib.hid SIZE
      clear SIZE hv1 hv2
      go_wp2_with fail
      refine (WC.out _).mono ?_
      rintro e w4 ⟨rfl, h4⟩
      have B4 := Lib.hid (below_then B3.out B3.out.size h4)
      clear h4
      go_wp2_with fail
      refine (WA.out _).mono ?_
      rintro e w5 ⟨rfl, h5⟩
      have B5 := Lib.hid (below_then B4.out B4.out.size h5)
      clear h5
      go_wp2_with fail
      refine (WB.out _).mono ?_
      rintro e w6 ⟨rfl, h6⟩
      have B6 := Lib.hid (below_then B5.out B5.out.size h6)
      clear h6
      go_wp2_with (first
        | (refine (AS.out _).mono ?_; rintro e w' ⟨rfl, rfl⟩)
        | (refine (DS.out _).mono ?_; rintro e w' ⟨rfl, rfl⟩))
      go_ret
      exact ⟨by simp; have := HSIZE.out; omega, B6.out⟩
theorem own : ownKnob Tryd.prog.godebug = none := by kernel_rfl
theorem accEq : (Rows.laid_unicode_utf8_acceptRanges : DataW Unit) = acceptData := by kernel_rfl
set_option maxRecDepth 100000 in
theorem lifted (os : Os) (started : os.Started) (H : Type) (enc : TypeId × Value → H) :
    ReturnsInHanded {} Tryd.checked os 3 .any (fun w args => (Rows.fontJoinedSpec.pre enc Tryd.prog Tryd.f3 [] false w args ∧ laidMetH Tryd.prog Rows.fontJoinedRow.laid w) ∧ sizedMet enc Tryd.prog Tryd.f3 (OpenSpec.ofChange Rows.fontJoinedSpec) false w args)
      (Rows.fontJoinedSpec.post enc Tryd.prog Tryd.f3 false true false false) := by
  refine returnsInHanded_of_change_and (C := Tryd.checked) (X := fun w _ => laidMetH Tryd.prog Rows.fontJoinedRow.laid w) (fun _ _ _ hh h => h.of_heap hh) own started (by kernel_rfl) Tryd.func3
    (ChangeSpec.witness_shaped (enc := enc) (C := Tryd.checked) (os := os) (X := fun w _ => laidMetH Tryd.prog Rows.fontJoinedRow.laid w) false (World.laidAll Tryd.prog os Rows.fontJoinedRow.laid) #[.string ByteArray.empty, .string ByteArray.empty, .int .i64 0, .int .i64 0] 8 (World.laidAll_os _ _ _)
      (World.shaped_of_ZipB (by kernel_rfl) (by kernel_rfl)) (by kernel_rfl) (by kernel_rfl) (by kernel_rfl)
      (by rw [MakeChecks.laidMetH_plain _ _ _ (by kernel_rfl)]; exact laidMet_laidAll _ (by kernel_rfl) (by kernel_rfl))) ?_
  intro W base args ds gs before hval0 hW _ _ hL _
  have hval : ∀ (j : Nat) t v, Tryd.f3.params[j]? = some t → args[j]? = some v → Value.okWide Tryd.prog W .any base t v := hval0
  have hW' := hW
  obtain ⟨p, q, hA0, hV, rfl, _, _⟩ := hW
  have hA : DataW.TrodAll enc Tryd.prog W 0 (fun _ => true) true Tryd.f3.params.toList args.toList ds p := hA0
  rw [Tryd.params3] at hA hval
  obtain ⟨v0, vs0, d0, ds0, p0, q0, hargs, rfl, rfl, h0, r0⟩ := trodAll_cons hA
  obtain ⟨v1, vs1, d1, ds1, p1, q1, rfl, rfl, rfl, h1, r1⟩ := trodAll_cons r0
  obtain ⟨v2, vs2, d2, ds2, p2, q2, rfl, rfl, rfl, h2, r2⟩ := trodAll_cons r1
  obtain ⟨v3, vs3, d3, ds3, p3, q3, rfl, rfl, rfl, h3, r3⟩ := trodAll_cons r2
  obtain ⟨rfl, rfl, rfl⟩ := trodAll_nil r3
  obtain rfl : args = #[v0, v1, v2, v3] := by cases args; simp_all
  obtain ⟨rfl, rfl⟩ := trodVars_none hV
  obtain ⟨a0, rfl, rfl, rfl, y0⟩ := open_string Tryd.underlying9 (hval 0 9 v0 rfl rfl) h0
  have w0 : a0.size ≤ 9223372036854775807 := by unfold maxLen at y0; omega
  obtain ⟨a1, rfl, rfl, rfl, y1⟩ := open_string Tryd.underlying9 (hval 1 9 v1 rfl rfl) h1
  have w1 : a1.size ≤ 9223372036854775807 := by unfold maxLen at y1; omega
  obtain ⟨a2, rfl, rfl, rfl, w2⟩ := open_int Tryd.underlying3 (hval 2 3 v2 rfl rfl) h2
  obtain ⟨a3, rfl, rfl, rfl, w3⟩ := open_int Tryd.underlying3 (hval 3 3 v3 rfl rfl) h3
  rw [MakeChecks.laidMetH_plain _ _ _ (by kernel_rfl)] at hL
  have hT : Lib.Utf8Tabs 0 1 W := utf8Tabs_of_readsT (U8Types.of196 Tryd.lays196) ⟨by kernel_rfl, by kernel_rfl, by kernel_rfl, by kernel_rfl, by kernel_rfl, by kernel_rfl, by kernel_rfl⟩ (Pinned.utf8First_eq ▸ Lib.laidMet.reads hL (.tail _ (.head _))) (accEq ▸ Lib.laidMet.reads hL (.head _))
  clear hA0 hval0
  refine (walk a0 a1 a2 a3 W w0 w1 w2 w3 hT).mono fun e W' ⟨he, bel⟩ => ?_
  subst he
  exact ⟨_, rfl, _, _, _, [], _, [], hW', trodAll_mk1 (shut_bool Tryd.underlying4 _), (trodAll_cons_mk (shut_string Tryd.underlying9 y0) (trodAll_cons_mk (shut_string Tryd.underlying9 y1) (trodAll_cons_mk (shut_int Tryd.underlying3 w2) (trodAll_cons_mk (shut_int Tryd.underlying3 w3) trodAll_mk0)))), rfl, bel.frame _, fun h => by cases h⟩
theorem over : Rows.fontJoinedRow.holds Tryd.pinned (OpenSpec.ofChange Rows.fontJoinedSpec) :=
  OpenClaim.holds_of_wide 3 Tryd.f3 rfl rfl rfl rfl rfl rfl rfl ⟨rfl, rfl, rfl, rfl, rfl⟩ rfl rfl rfl rfl rfl (by kernel_rfl) Tryd.func3 (by kernel_rfl)
    (of_decide_eq_true (by kernel_rfl)) (by unfold Func.isWrapper; first | (rw [if_pos (by decide +kernel)]; kernel_rfl) | (rw [if_neg (by decide +kernel)]; exact ⟨rfl, rfl⟩))
    (fun os started H enc _ => lifted os started H enc)
theorem proved : Rows.FontJoinedCardSaid :=
  Claim7.holds_tied_plain_at .later [] [.data, .pinned] true (true, "c1612f71189b6aa4e3d05f1cfcf97c97dc78806c6f7fee4e926f8fba217614d9") false over (fun _ h => by cases h) (by kernel_rfl) (fun _ h => by cases h) fontJoined_row_tie rfl ⟨rfl, rfl⟩ (by kernel_rfl) rfl
    (fun f fn hf hfn => by
      obtain rfl : f = 3 := Option.some.inj ((show Tryd.prog.funcNamed "clerestory/clerestorykeep3.FontJoined" = some 3 by kernel_rfl).symm.trans hf) |>.symm
      obtain rfl : fn = Tryd.f3 := (Option.some.inj (Tryd.func3.symm.trans hfn)).symm
      exact ⟨by kernel_rfl, fun j t ht => by
        rw [Tryd.params3] at ht
        have hm : t ∈ [9, 9, 3, 3] := by simpa using Array.mem_of_getElem? ht
        have hall : ([9, 9, 3, 3].all fun u => !Tryd.prog.wantsStandIn u) = true := by kernel_rfl
        exact (show Tryd.prog.wantsStandIn t = false by simpa using List.all_eq_true.1 hall t hm)⟩)
    (by kernel_rfl)
#print axioms proved
end Go.Proofs.YtnmagdjkefhllaaDoor.FontJoined
