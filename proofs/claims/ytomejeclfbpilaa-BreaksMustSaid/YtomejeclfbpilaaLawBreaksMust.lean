/- Where blanks are kept each line feed ends a line; else nothing must. For every input. -/
import Derived.Test.YtomejeclfbpilaaRows
import Derived.Test.YtomejeclfbpilaaBroken2
import Derived.Test.YtomejeclfbpilaaShelf
import Derived.ProofKit
import Derived.OpenShut
import Derived.ShutString
import Derived.ChangeOld
import Derived.Below
import Derived.SizedLaws
namespace Go.Proofs.Ytomejeclfbpilaa.BreaksMust
open Go.RowKit Go.Lib Go.Proofs.Ytomejeclfbpilaa.Pl Go.Proofs.Ytomejeclfbpilaa.Fx Go.Proofs.Ytomejeclfbpilaa.Brk Go.Proofs.YtomejeclfbpilaaW.PrintWords Go.Proofs.YtomejeclfbpilaaW.PrintLast Go.Proofs.YtomejeclfbpilaaW.PrintMore
open Go.ChangeShapes Go.WideShapes Go.ChangeAt
open Go.ChangeMaps (open_string shut_string)
set_option linter.unusedVariables false
set_option linter.unusedSimpArgs false
attribute [local go_sem] mx2 mn2 mx_two mn_two mx_three mn_three

theorem keepsR_c (mode : Int) (w : World) : Calls Try.prog 20 #[.int .i64 mode] w fun e w' => e = .returned (.bool (keepsB mode)) ∧ w = w' := by
  by_cases h1 : mode = 1
  · subst h1
    go_enter Try.func20, Try.ntmps20
    go_wp2_with fail
    go_ret
    exact ⟨rfl, rfl⟩
  · by_cases h3 : mode = 3
    · subst h3
      go_enter Try.func20, Try.ntmps20
      go_wp2_with fail
      go_ret
      exact ⟨rfl, rfl⟩
    · have e : keepsB mode = false := by unfold keepsB; rw [decide_eq_false h1, decide_eq_false h3]; rfl
      rw [e]
      have q1 : (mode == 1) = false := by simpa using h1
      have q3 : (mode == 3) = false := by simpa using h3
      clear e h1 h3
      go_enter Try.func20, Try.ntmps20
      go_wp2_with fail
      go_ret
      exact ⟨rfl, rfl⟩

theorem nlc_count (s : ByteArray) : nlc s s.size = s.data.toList.count 10 := by
  have key : ∀ p, p ≤ s.size → nlc s p = (s.data.toList.take p).count 10 := by
    intro p
    induction p with
    | zero => intro _; simp [nlc]
    | succ p ih =>
      intro hp
      have hlt : p < s.data.toList.length := by rw [Array.length_toList]; exact hp
      rw [nlc_succ, ih (by omega), List.take_succ_eq_append_getElem hlt, List.count_append]
      congr 1
      have e : s.get! p = s.data.toList[p] := by
        have : p < s.data.size := by simpa using hlt
        show s.data[p]! = _
        rw [getElem!_pos s.data p this, Array.getElem_toList]
      rw [e, List.count_singleton]
      by_cases h : s.data.toList[p] = 10
      · rw [h]; rfl
      · rw [if_neg (by intro h2; exact h (UInt8.toNat_inj.1 h2)), if_neg (by simpa using h)]
  rw [key _ (Nat.le_refl _), List.take_of_length_le (by rw [Array.length_toList]; exact Nat.le_refl _)]

set_option maxRecDepth 100000 in
set_option maxHeartbeats 4000000 in
theorem walk (t : ByteArray) (mode : Int) (w : World) (_ : t.size ≤ 140737488351232) (_ : (Lit.int .i64 mode).wf = true) :
    Calls Try.prog 12 #[.string t, .int .i64 mode] w fun e w' => e = .returned (.bool true) ∧ Below w.heap.size w w' := by
  go_enter Try.func12, Try.ntmps12
  go_wp2_with fail
  obtain ⟨s, hs⟩ : ∃ s, t.extract 0 (min (t.size : Int) 400).toNat = s := ⟨_, rfl⟩
  have hz : s.size ≤ 400 := by rw [← hs, ByteArray.size_extract]; omega
  rw [hs]
  have HZ := Lib.hid hz
  clear hs hz
  refine (All_c s mode w (by have := HZ.out; omega)).mono ?_
  rintro e w1 ⟨v, us, rfl, hR, hP, hB⟩
  obtain ⟨Aa, ca, rfl, hca, hC⟩ := Kd.R_reads hR
  obtain ⟨m, hm⟩ : ∃ m, us.length = m := ⟨_, rfl⟩
  rw [hm] at hC hca ⊢
  have hmz : m ≤ 400 := by have := hP.1; have := HZ.out; omega
  have AC := Lib.hid hC
  have PL := Lib.hid hP
  have HM := Lib.hid hm
  have HB := Lib.hid hB
  clear hR hP hB hC hm
  obtain ⟨W0, rfl⟩ : ∃ W0 : World, W0 = w1 := ⟨_, rfl⟩
  go_wp2_with fail
  go_loopw [5, 17] (fun n i wr => ∃ k : Nat, k ≤ m ∧ i = .int .i64 k ∧ n = .int .i64 (((us.take k).filter fun u => u.f1).length : Nat) ∧ Hid (Below W0.heap.size W0 wr)) (fun _ i _ => m - (RowKit.intOf i).toNat)
  case atStart => exact ⟨0, Nat.zero_le _, rfl, rfl, Below.refl _ _⟩
  case round =>
    obtain ⟨k, hk, rfl, rfl, hB0⟩ := hrel
    by_cases hlt : k < m
    · obtain ⟨ad, ea, x0, x1⟩ := at_T68 (Kd.C_below AC.out hB0.out) (k : Int) (by omega) (by omega)
      subst ea
      rw [Int.toNat_natCast] at x0 x1
      have hkl : k < us.length := by rw [HM.out]; exact hlt
      obtain ⟨u1, u2, u3⟩ := PL.out.2.2.1 _ (rd_memB us k hkl)
      have hsn : (us.take (k + 1)).filter (fun u => u.f1) = (us.take k).filter (fun u => u.f1) ++ (if (rd_T68 us (k : Int)).f1 = true then [rd_T68 us (k : Int)] else []) := by
        rw [take_snocB us k hkl, List.filter_append]
        congr 1
        cases h : (rd_T68 us (k : Int)).f1 <;> simp [h]
      have hlen : ((us.take k).filter fun u => u.f1).length ≤ 400 := by
        have h2 : (us.take k).length ≤ k := List.length_take_le k us
        exact Nat.le_trans (List.length_filter_le _ _) (Nat.le_trans h2 (by omega))
      generalize rd_T68 us (k : Int) = u at *
      obtain ⟨f0, f1⟩ := u
      simp only at x0 x1 u1 u2 u3 hsn
      generalize hn : ((us.take k).filter fun u => u.f1).length = n at *
      have HSN : Hid (((us.take (k + 1)).filter fun u => u.f1).length = n + (if f1 = true then 1 else 0)) := by
        show _ = _
        rw [hsn, List.length_append, hn]
        congr 1
        cases f1 <;> rfl
      clear hsn hn hkl
      cases f1 with
      | false =>
        go_wp2_with fail
        exact ⟨⟨k + 1, by omega, by go_num, by rw [HSN.out]; simp, below_alloc hB0.out _⟩, by simp [RowKit.intOf]; omega⟩
      | true =>
        have hg := (u3 rfl).2
        have hlt0 : (f0 - 1).toNat < s.size := by omega
        have hgx : (s[(f0 - 1).toNat]'hlt0).toNat = 10 := by
          have e : s.get! (f0.toNat - 1) = s[(f0 - 1).toNat]'hlt0 := by
            have e2 : f0.toNat - 1 = (f0 - 1).toNat := by omega
            rw [e2]
            show s.data[(f0 - 1).toNat]! = _
            rw [getElem!_pos s.data _ hlt0]
            rfl
          rw [← e]; exact hg
        have hix : ∀ ww, (Instr.index 9 (.string s) (.int .i64 (f0 - 1))).run Try.prog ww = .ok (.int .u8 10) ww := fun ww => by
          rw [run_index_string ww 9 s .i64 (f0 - 1) Try.underlying9, dif_pos ⟨by omega, by omega⟩, hgx]
          rfl
        have hf4 : f0 ≤ 400 := by have := HZ.out; omega
        clear hg u3
        go_wp2_with fail
        exact ⟨⟨k + 1, by omega, by go_num, by rw [HSN.out]; simp, below_alloc hB0.out _⟩, by simp [RowKit.intOf]; omega⟩
    · obtain rfl : k = m := by omega
      have hkn : us.take k = us := List.take_of_length_le (by rw [HM.out]; exact Nat.le_refl _)
      rw [hkn]
      clear hkn
      have BX := Lib.hid (below_then HB.out HB.out.size hB0.out)
      go_wp2_with fail
      refine (broken_c wr).mono ?_
      rintro e w2 ⟨rfl, h2⟩
      have B2 := Lib.hid (below_then BX.out BX.out.size h2)
      clear h2
      have hyes : keepsB mode = true → (us.filter fun u => u.f1).length = Lib.countByte s.data.toList 10 := fun h => (PL.out.2.2.2 h).trans (nlc_count s)
      have hno : keepsB mode = false → (us.filter fun u => u.f1).length = 0 := fun h => by
        rw [List.length_eq_zero_iff, List.filter_eq_nil_iff]
        intro u hu h1
        have := ((PL.out.2.2.1 u hu).2.2 h1).1
        rw [h] at this
        cases this
      generalize (us.filter fun u => u.f1).length = n at *
      obtain ⟨kb, hkb⟩ : ∃ kb, keepsB mode = kb := ⟨_, rfl⟩
      have KC : ∀ ww, Calls Try.prog 20 #[.int .i64 mode] ww fun e w' => e = .returned (.bool kb) ∧ ww = w' := fun ww => by rw [← hkb]; exact keepsR_c mode ww
      have CC : ∀ ww, Calls Try.prog 40 #[.string s, .string ⟨#[10]⟩] ww fun e w' => e = .returned (.int .i64 (Lib.countByte s.data.toList 10)) ∧ ww = w' := fun ww => (Try.strings_Count_one s 10 ww).mono fun e w' h => ⟨h.1, h.2.symm⟩
      rw [hkb] at hyes hno
      have HK := Lib.hid KC
      have HC := Lib.hid CC
      clear KC CC hkb
      cases kb with
      | true =>
        have hn := hyes rfl
        clear hyes hno
        rw [← hn] at HC
        clear hn
        go_wp2_with (first
          | (go_at_call 20; refine (HK.out _).mono ?_; rintro e w' ⟨rfl, rfl⟩)
          | (go_at_call 40; refine (HC.out _).mono ?_; rintro e w' ⟨rfl, rfl⟩))
        go_ret
        exact ⟨rfl, B2.out⟩
      | false =>
        have hn := hno rfl
        clear hyes hno
        subst hn
        go_wp2_with (first
          | (go_at_call 20; refine (HK.out _).mono ?_; rintro e w' ⟨rfl, rfl⟩)
          | (go_at_call 40; refine (HC.out _).mono ?_; rintro e w' ⟨rfl, rfl⟩))
        go_ret
        exact ⟨rfl, B2.out⟩

theorem own : ownKnob Try.prog.godebug = none := by kernel_rfl
set_option maxRecDepth 100000 in
theorem lifted (os : Os) (started : os.Started) (H : Type) (enc : TypeId × Value → H) :
    ReturnsInHanded {} Try.checked os 12 .any (Rows.breaksMustSpec.pre6 enc Try.prog Try.f12 Rows.breaksMustRow.domain false) (Rows.breaksMustSpec.post enc Try.prog Try.f12 false true false false) := by
  refine returnsInHanded_of_change_sized (C := Try.checked) own started (by kernel_rfl) Try.func12
    (ChangeSpec.witness6 (enc := enc) (C := Try.checked) false ⟨#[], #[.string ByteArray.empty, .int .i64 0], []⟩ 8 (by kernel_rfl) (by kernel_rfl) (by kernel_rfl) (by kernel_rfl)) ?_
  intro W base args ds gs before hval0 hW hcnd hsz0 _
  have hsz : (DataW.weightsEach Try.prog (Try.f12.params.toList ++ Rows.breaksMustSpec.plain.varTypes Try.prog) (ds ++ gs)).all (· ≤ reachBytes) = true := hsz0
  have hval : ∀ (j : Nat) t v, Try.f12.params[j]? = some t → args[j]? = some v → Value.okWide Try.prog W .any base t v := hval0
  have hW' := hW
  obtain ⟨p, q, hA0, hV, rfl, hfz, hnd⟩ := hW
  have hA : DataW.TrodAll enc Try.prog W 0 (fun _ => true) true Try.f12.params.toList args.toList ds p := hA0
  rw [Try.params12] at hA hval hsz
  obtain ⟨v0, vs0, d0, ds0, p0, q0, hargs, rfl, rfl, h0, r0⟩ := trodAll_cons hA
  obtain ⟨v1, vs1, d1, ds1, p1, q1, rfl, rfl, rfl, h1, r1⟩ := trodAll_cons r0
  obtain ⟨rfl, rfl, rfl⟩ := trodAll_nil r1
  obtain rfl : args = #[v0, v1] := by cases args; simp_all
  obtain ⟨rfl, rfl⟩ := trodVars_none hV
  obtain ⟨a0, rfl, rfl, rfl, y0⟩ := open_string Try.underlying9 (hval 0 9 v0 rfl rfl) h0
  have w0 : a0.size ≤ 140737488351232 := by
    have z := sized_string hsz (j := 0) (t := 9) rfl rfl
    rw [Array.length_toList] at z
    exact z
  obtain ⟨a1, rfl, rfl, rfl, w1⟩ := open_int Try.underlying3 (hval 1 3 v1 rfl rfl) h1
  clear hA0 hval0 hsz0 hsz
  refine (walk a0 a1 W w0 w1).mono fun e W' ⟨he, bel⟩ => ?_
  subst he
  exact ⟨_, rfl, _, _, _, [], _, [], hW', trodAll_mk1 (shut_bool Try.underlying4 _), (trodAll_cons_mk (shut_string Try.underlying9 y0) (trodAll_cons_mk (shut_int Try.underlying3 w1) trodAll_mk0)), rfl, bel.frame _, fun h => by cases h⟩
theorem over : Rows.breaksMustRow.holds Try.pinned (OpenSpec.ofChange Rows.breaksMustSpec) :=
  OpenClaim.holds_of_wide 12 Try.f12 rfl rfl rfl rfl rfl rfl rfl ⟨rfl, rfl, rfl, rfl, rfl⟩ rfl rfl rfl rfl rfl (by kernel_rfl) Try.func12 (by kernel_rfl)
    (of_decide_eq_true (by kernel_rfl)) (by unfold Func.isWrapper; first | (rw [if_pos (by decide +kernel)]; kernel_rfl) | (rw [if_neg (by decide +kernel)]; exact ⟨rfl, rfl⟩))
    (fun os started H enc _ => lifted os started H enc)
theorem proved : Rows.BreaksMustSaid := over
#print axioms proved
end Go.Proofs.Ytomejeclfbpilaa.BreaksMust
