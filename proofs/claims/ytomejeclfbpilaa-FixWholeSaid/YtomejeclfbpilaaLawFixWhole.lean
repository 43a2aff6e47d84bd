/- What is shared out by weights is shared out whole: the parts are it together, none on the other side of 0, and who has no weight has none. For every input. -/
import Derived.Test.YtomejeclfbpilaaRows
import Derived.Test.YtomejeclfbpilaaSum
import Derived.Test.YtomejeclfbpilaaRw
import Derived.ProofKit
import Derived.OpenShut
import Derived.ShutString
import Derived.ChangeOld
import Derived.Below
import Derived.SizedLaws
namespace Go.Proofs.Ytomejeclfbpilaa.FixWhole
open Go.RowKit Go.Proofs.Ytomejeclfbpilaa.Pl Go.Proofs.Ytomejeclfbpilaa.Fx Go.Proofs.Ytomejeclfbpilaa.Sh Go.Proofs.Ytomejeclfbpilaa.Sm Go.Proofs.Ytomejeclfbpilaa.Rw Go.Proofs.YtomejeclfbpilaaW.PrintWords Go.Proofs.YtomejeclfbpilaaW.PrintMore
open Go.ChangeShapes Go.WideShapes Go.ChangeAt
set_option linter.unusedVariables false
set_option linter.unusedSimpArgs false
attribute [local go_sem] mx2 mn2 mx_two mn_two mx_three mn_three

def any (xs : List Int) : Bool := xs.any fun x => decide (0 < x)
theorem any_snoc (xs : List Int) (k : Nat) (h : k < xs.length) : any (xs.take (k + 1)) = (any (xs.take k) || decide (0 < xs.getD k 0)) := by
  unfold any
  rw [List.take_succ_eq_append_getElem h, List.any_append]
  simp [List.getD_eq_getElem?_getD, h]
theorem any_ws (xs : List Int) (h : xs.length ≤ 1000) : (any xs = true → ¬ ws xs xs.length = 0) ∧ (any xs = false → ws xs xs.length = 0) := by
  constructor
  · intro ha hz
    rw [ws_pos_iff xs h] at hz
    unfold any at ha
    rw [List.any_eq_true] at ha
    obtain ⟨x, hx, hp⟩ := ha
    obtain ⟨k, hk, rfl⟩ := List.getElem_of_mem hx
    have := hz k hk
    simp [List.getD_eq_getElem?_getD, hk] at this hp
    omega
  · intro ha
    rw [ws_pos_iff xs h]
    intro k hk
    unfold any at ha
    rw [List.any_eq_false] at ha
    have := ha (xs[k]) (List.getElem_mem hk)
    simp [List.getD_eq_getElem?_getD, hk] at this ⊢
    omega

theorem own_reads' {w : World} {base n : Nat} {e : TypeId} {k : IntKind} {v : Value} {xs : List Int} (h : w.ownsRow base e 1 v n (nums k xs)) : ∃ A c, v = .slice A n c ∧ ReadsInt w k A n xs := own_reads h

set_option maxHeartbeats 2000000 in
theorem walk (n : Int) (a1 : Option Addr) (len1 cap1 : Nat) (z1 : List Int) (w : World) (_ : (Lit.int .i64 n).wf = true) (w1 : IsRow .i64 w a1 len1 cap1 z1) (y1 : len1 * 8 ≤ 140737488351232) :
    Calls Try.prog 6 #[.int .i64 n, .slice a1 len1 cap1] w fun e w' => e = .returned (.bool true) ∧ Below w.heap.size w w' := by
  obtain ⟨l1, rfl, hr1, hm1, hw1, hc1⟩ := ReadsInt.ofRowC w1
  obtain ⟨m, e1, q1, r1⟩ : ∃ m : Nat, min (l1.length : Int) 900 = (m : Int) ∧ m ≤ l1.length ∧ (m : Int) ≤ 900 := ⟨min l1.length 900, by omega, by omega, by omega⟩
  have hl : (l1.take m).length = m := by rw [List.length_take]; omega
  have hR := hr1.take_ m q1
  generalize l1.take m = xs at *
  have R := Lib.hid hR
  have L := Lib.hid hl
  have hy : m * 8 ≤ 140737488351232 := by omega
  clear hr1 w1 hw1 hm1 hR hl
  go_enter Try.func6, Try.ntmps6
  go_wp2_with fail
  refine (Share_c n _ _ _ _ xs R.out hy).mono ?_
  rintro e wS ⟨v, rfl, hO, hB⟩
  obtain ⟨Ao, co, rfl, hRo⟩ := own_reads' hO
  have RS := Lib.hid (ReadsInt.below R.out hB)
  have RO := Lib.hid hRo
  have BS := Lib.hid hB
  clear hO hRo hB R
  go_wp2_with (go_at_call 15; refine (fixed_c _).mono ?_; rintro e w' ⟨rfl, rfl⟩)
  go_loop [6, 28] (fun b i => ∃ k : Nat, k ≤ m ∧ i = .int .i64 k ∧ b = .bool (any (xs.take k))) (fun _ i => m - (intOf i).toNat)
  case atStart => exact ⟨0, Nat.zero_le _, rfl, rfl⟩
  case round =>
    obtain ⟨k, hk, rfl, rfl⟩ := hrel
    by_cases hlt : k < m
    · have hsn := any_snoc xs k (by rw [L.out]; exact hlt)
      have hat := share_at n xs k (by rw [L.out]; exact hlt) (by rw [L.out]; omega)
      obtain ⟨ad, e1', hcx⟩ := RS.out.2.2 (by omega)
      obtain ⟨ao, e2', hco⟩ := RO.out.2.2 (by omega)
      subst e1' e2'
      have hx := hcx k hlt
      have ho := hco k hlt
      clear hcx hco
      generalize xs.getD k 0 = x at *
      generalize (share n xs).getD k 0 = o at *
      generalize any (xs.take k) = b at *
      have SN := Lib.hid hsn
      clear hsn
      obtain ⟨h1, h2, h3⟩ := hat
      have hxc : x ≤ 0 ∨ 0 < x := by omega
      have hnc : 0 < n ∨ (0 ≤ n ∧ n ≤ 0) ∨ n < 0 := by omega
      have hoc : (0 ≤ n → 0 ≤ o) ∧ (n ≤ 0 → o ≤ 0) := ⟨h2, h3⟩
      have HOC := Lib.hid hoc
      have H1 := Lib.hid h1
      clear h1 h2 h3 hoc
      rcases hxc with hxc | hxc
      · obtain rfl : o = 0 := H1.out hxc
        have hx0 : decide (0 < x) = false := by simp; omega
        cases b <;> rcases hnc with hnc | ⟨hnc, hnd⟩ | hnc
        all_goals
          go_wp2
          go_round
          case rel => exact ⟨k + 1, by omega, by go_num, by rw [SN.out]; simp [hx0]⟩
          case measure => simp [intOf]; omega
      · have hx0 : decide (0 < x) = true := by simp; omega
        cases b <;> rcases hnc with hnc | ⟨hnc, hnd⟩ | hnc
        all_goals
          have ho1 : 0 ≤ n → 0 ≤ o := HOC.out.1
          have ho2 : n ≤ 0 → o ≤ 0 := HOC.out.2
          have ho3 : (0 < n → decide (o < 0) = false) := fun h => by simp; omega
          have HO3 := Lib.hid ho3
          clear ho3
          first
            | (have hq1 : 0 ≤ o := ho1 (by omega); have hq2 : o ≤ 0 := ho2 (by omega); clear ho1 ho2; go_wp2; go_round; (case rel => exact ⟨k + 1, by omega, by go_num, by rw [SN.out]; simp [hx0]⟩); (case measure => simp [intOf]; omega))
            | (have hq1 : 0 ≤ o := ho1 (by omega); clear ho1 ho2; go_wp2; go_round; (case rel => exact ⟨k + 1, by omega, by go_num, by rw [SN.out]; simp [hx0]⟩); (case measure => simp [intOf]; omega))
            | (have hq2 : o ≤ 0 := ho2 (by omega); clear ho1 ho2; go_wp2; go_round; (case rel => exact ⟨k + 1, by omega, by go_num, by rw [SN.out]; simp [hx0]⟩); (case measure => simp [intOf]; omega))
    · have hkn : xs.take k = xs := List.take_of_length_le (by rw [L.out]; omega)
      rw [hkn]
      have haw := any_ws xs (by rw [L.out]; omega)
      have hsum := share_sum n xs
      have hsb : ∀ k, -4000000000000000000 ≤ ((share n xs).take k).sum ∧ ((share n xs).take k).sum ≤ 4000000000000000000 := fun k => by have := share_take_bd n xs k; omega
      have SB := Lib.hid hsb
      clear hkn hsb
      cases hb : any xs with
      | true =>
        rw [if_neg (haw.1 hb)] at hsum
        have SU := Lib.hid hsum
        have hb' := Lib.hid hb
        clear hsum haw hb
        go_wp2_with (first
          | (go_at_call 22; refine (sum_c _ _ _ _ _ RO.out SB.out).mono ?_; rintro e w' ⟨rfl, rfl⟩; rw [SU.out])
          | (go_at_call 17; refine (Cut_c _ _).mono ?_; rintro e w' ⟨rfl, rfl⟩))
        go_ret
        exact ⟨by simp, BS.out⟩
      | false =>
        rw [if_pos (haw.2 hb)] at hsum
        have SU := Lib.hid hsum
        have hb' := Lib.hid hb
        clear hsum haw hb
        go_wp2_with (first
          | (go_at_call 22; refine (sum_c _ _ _ _ _ RO.out SB.out).mono ?_; rintro e w' ⟨rfl, rfl⟩; rw [SU.out])
          | (go_at_call 17; refine (Cut_c _ _).mono ?_; rintro e w' ⟨rfl, rfl⟩))
        go_ret
        exact ⟨by simp, BS.out⟩

theorem own : ownKnob Try.prog.godebug = none := by kernel_rfl
theorem laidOut : laidOutB Try.prog = true := by kernel_rfl
set_option maxRecDepth 100000 in
theorem lifted (os : Os) (started : os.Started) (H : Type) (enc : TypeId × Value → H) :
    ReturnsInHanded {} Try.checked os 6 .any (Rows.fixWholeSpec.pre6 enc Try.prog Try.f6 Rows.fixWholeRow.domain false) (Rows.fixWholeSpec.post enc Try.prog Try.f6 false true false false) := by
  refine returnsInHanded_of_change_sized (C := Try.checked) own started (by kernel_rfl) Try.func6
    (ChangeSpec.witness6 (enc := enc) (C := Try.checked) false ⟨#[], #[.int .i64 0, .slice none 0 0], []⟩ 8 (by kernel_rfl) (by kernel_rfl) (by kernel_rfl) (by kernel_rfl)) ?_
  intro W base args ds gs before hval0 hW hcnd hsz0 _
  have hsz : (DataW.weightsEach Try.prog (Try.f6.params.toList ++ Rows.fixWholeSpec.plain.varTypes Try.prog) (ds ++ gs)).all (· ≤ reachBytes) = true := hsz0
  have hval : ∀ (j : Nat) t v, Try.f6.params[j]? = some t → args[j]? = some v → Value.okWide Try.prog W .any base t v := hval0
  have hW' := hW
  obtain ⟨p, q, hA0, hV, rfl, hfz, hnd⟩ := hW
  have hA : DataW.TrodAll enc Try.prog W 0 (fun _ => true) true Try.f6.params.toList args.toList ds p := hA0
  rw [Try.params6] at hA hval hsz
  obtain ⟨v0, vs0, d0, ds0, p0, q0, hargs, rfl, rfl, h0, r0⟩ := trodAll_cons hA
  obtain ⟨v1, vs1, d1, ds1, p1, q1, rfl, rfl, rfl, h1, r1⟩ := trodAll_cons r0
  obtain ⟨rfl, rfl, rfl⟩ := trodAll_nil r1
  obtain rfl : args = #[v0, v1] := by cases args; simp_all
  obtain ⟨rfl, rfl⟩ := trodVars_none hV
  obtain ⟨a0, rfl, rfl, rfl, w0⟩ := open_int Try.underlying3 (hval 0 3 v0 rfl rfl) h0
  obtain ⟨a1, len1, cap1, rfl⟩ := okWide_slice Try.underlying22 (hval 1 22 v1 rfl rfl)
  have k1 := h1
  have lt1 : ∀ x ∈ p1, x.block < W.heap.size := by obtain ⟨m, hm⟩ := k1; exact DataW.trod_lt m _ _ _ hm
  obtain ⟨z1, w1⟩ : ∃ zs, IsRow .i64 W a1 len1 cap1 zs := by
    obtain ⟨fuel, hf⟩ := h1
    rcases open_ints Try.underlying22 Try.underlying3 (by kernel_rfl) hf with ⟨hcs, _⟩ | ⟨x, l, c, zs, hcs, _, hl, hm, hz, _, hcell, hwz⟩
    · simp [Value.cells] at hcs
      obtain ⟨rfl, rfl, rfl⟩ := hcs
      exact ⟨[], .inl ⟨rfl, rfl, rfl, rfl⟩⟩
    · simp [Value.cells] at hcs
      obtain ⟨rfl, rfl, rfl⟩ := hcs
      exact ⟨zs, .inr ⟨_, rfl, hl, hm, by simpa using hz, hcell, hwz⟩⟩
  have y1 : len1 * 8 ≤ 140737488351232 := sized_ints hsz (j := 1) (t := 22) rfl rfl Try.underlying22 Try.underlying3 (by kernel_rfl) (by kernel_rfl) h1
  clear hA0 hval0 hsz0 hsz
  refine (walk a0 a1 len1 cap1 z1 W w0 w1 y1).mono fun e W' ⟨he, bel⟩ => ?_
  subst he
  exact ⟨_, rfl, _, _, _, [], _, [], hW', trodAll_mk1 (shut_bool Try.underlying4 _), (trodAll_cons_mk (shut_int Try.underlying3 w0) (trodAll_cons_mk (Below.trod laidOut (by kernel_rfl) (of_decide_eq_true (by kernel_rfl)) k1 bel lt1) trodAll_mk0)), rfl, bel.frame _, fun h => by cases h⟩
theorem over : Rows.fixWholeRow.holds Try.pinned (OpenSpec.ofChange Rows.fixWholeSpec) :=
  OpenClaim.holds_of_wide 6 Try.f6 rfl rfl rfl rfl rfl rfl rfl ⟨rfl, rfl, rfl, rfl, rfl⟩ rfl rfl rfl rfl rfl (by kernel_rfl) Try.func6 (by kernel_rfl)
    (of_decide_eq_true (by kernel_rfl)) (by unfold Func.isWrapper; first | (rw [if_pos (by decide +kernel)]; kernel_rfl) | (rw [if_neg (by decide +kernel)]; exact ⟨rfl, rfl⟩))
    (fun os started H enc _ => lifted os started H enc)
theorem proved : Rows.FixWholeSaid := over
#print axioms proved
end Go.Proofs.Ytomejeclfbpilaa.FixWhole
