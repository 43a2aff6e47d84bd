/- What is placed in a room stands apart: no two meet; none stands above one that came ahead; none beyond the room's end, if it is not wider. For every input. -/
import Derived.Test.YtomejeclfbpilaaRows
import Derived.Test.YtomejeclfbpilaaFloated
import Derived.Test.YtomejeclfbpilaaFloatsOp
import Derived.ProofKit
import Derived.OpenShut
import Derived.ShutString
import Derived.ChangeOld
import Derived.Below
import Derived.SizedLaws
import Derived.Deep.QuietTactic
import Derived.BigQuiet
namespace Go.Proofs.Ytomejeclfbpilaa.FloatsApart
open Go.RowKit Go.Proofs.Ytomejeclfbpilaa.Pl Go.Proofs.Ytomejeclfbpilaa.Fx Go.Proofs.Ytomejeclfbpilaa.Fl Go.Proofs.Ytomejeclfbpilaa.Opn Go.Proofs.YtomejeclfbpilaaW.PrintWords Go.Proofs.YtomejeclfbpilaaW.PrintLast Go.Proofs.YtomejeclfbpilaaW.PrintMore
open Go.ChangeShapes Go.WideShapes Go.ChangeAt
set_option linter.unusedVariables false
set_option linter.unusedSimpArgs false
attribute [local go_sem] mx2 mn2 mx_two mn_two mx_three mn_three

theorem mn_four (ats : Array TypeId) (ty : TypeId) (a b c d : Value) : Builtin.min_ ats ty #[a, b, c, d] = (Builtin.min2 a b >>= fun s => Builtin.min2 s c >>= fun s => Builtin.min2 s d >>= fun s => pure s) := by simp only [Builtin.min_, List.foldlM_cons, List.foldlM_nil]
attribute [local go_sem] mn_four
theorem i16_bd (x : Int) : -32768 ≤ IntKind.i16.wrap x ∧ IntKind.i16.wrap x ≤ 32767 := by
  simp only [IntKind.wrap, IntKind.signed, IntKind.bits]
  simp
  omega
theorem Width_q (g : Nat) (width : Int) (l : List F) (w : World) (h : IsF w g width l) : Calls Try.prog 27 #[.pointer (some ⟨g, 0, none⟩)] w fun e w' => e = .returned (.int .i64 width) ∧ w' = w :=
  (Width_c g width l w h).mono fun e w' h => ⟨h.1, h.2.symm⟩

theorem blk4 (V : World) (a b c d : Value) (t nq : Nat) : ∃ W3, (V.alloc (.cells #[a, b, c, d] t)).drewN nq = W3 ∧ Below V.heap.size V W3 ∧ W3.heap.size = V.heap.size + 1 ∧ W3.cell? ⟨V.heap.size, 0, none⟩ = some a ∧ W3.cell? ⟨V.heap.size, 1, none⟩ = some b ∧ W3.cell? ⟨V.heap.size, 2, none⟩ = some c ∧ W3.cell? ⟨V.heap.size, 3, none⟩ = some d :=
  ⟨_, rfl, pw_below_drewN (below_alloc (Below.refl _ _) _) nq, by simp, by simp, by simp, by simp, by simp⟩

/-- What the law asks of the rectangles. -/
def Good (width : Int) (l : List R4) : Prop :=
  (∀ k, k < l.length → fits (rd_T39 l (k : Int)).f0 ∧ fits (rd_T39 l (k : Int)).f1 ∧ fits (rd_T39 l (k : Int)).f2 ∧ fits (rd_T39 l (k : Int)).f3 ∧ ((rd_T39 l (k : Int)).f2 ≤ width → 0 ≤ (rd_T39 l (k : Int)).f0 ∧ (rd_T39 l (k : Int)).f0 + (rd_T39 l (k : Int)).f2 ≤ width)) ∧
  ∀ j k, j < k → k < l.length → (rd_T39 l (j : Int)).f1 ≤ (rd_T39 l (k : Int)).f1 ∧ ¬ over ⟨rd_T39 l (k : Int), 0⟩ ⟨rd_T39 l (j : Int), 0⟩
theorem rd_map (l : List F) (k : Nat) (hk : k < l.length) : rd_T39 (l.map fun f => f.f0) (k : Int) = (l[k]).f0 := by
  simp [rd_T39, List.getD_eq_getElem?_getD, hk]
theorem good_of {width : Int} {l : List F} (ha : Apart width l) (hok : ∀ f, f ∈ l → okF f) : Good width (l.map fun f => f.f0) := by
  constructor
  · intro k hk
    rw [List.length_map] at hk
    rw [rd_map l k hk]
    have hm : l[k] ∈ l := List.getElem_mem hk
    obtain ⟨a, b, c, d⟩ := hok _ hm
    exact ⟨a, b, c, d, ha.1 _ hm⟩
  · intro j k hjk hk
    rw [List.length_map] at hk
    rw [rd_map l k hk, rd_map l j (by omega)]
    have h := List.pairwise_iff_getElem.1 ha.2 j k (by omega) hk hjk
    exact ⟨h.1, fun ho => h.2 ho⟩

set_option maxRecDepth 100000 in
set_option maxHeartbeats 4000000 in
theorem walk (width : Int) (a1 : Option Addr) (len1 cap1 : Nat) (z1 : List R4) (w : World) (_ : (Lit.int .i64 width).wf = true) (e1 : len1 = z1.length) (c1 : len1 ≤ cap1) (w1 : Kd.C k39 w a1 len1 z1) :
    Calls Try.prog 7 #[.int .i64 width, .slice a1 len1 cap1] w fun e w' => e = .returned (.bool true) ∧ Below w.heap.size w w' := by
  have hlm : len1 ≤ 9223372036854775807 := w1.2.1
  subst e1
  obtain ⟨m, em, q0, r0⟩ : ∃ m : Nat, min (z1.length : Int) 30 = (m : Int) ∧ m ≤ z1.length ∧ (m : Int) ≤ 30 := ⟨min z1.length 30, by omega, by omega, by omega⟩
  have W1 := Lib.hid w1
  have hW0 : 0 ≤ max 0 (cut width) ∧ max 0 (cut width) ≤ 16777216 := by have := cut_bd width; omega
  clear w1
  go_enter Try.func7, Try.ntmps7
  go_wp2_with fail
  refine (New_c _ _).mono ?_
  rintro e wN ⟨rfl, hI, hB⟩
  generalize max 0 (cut width) = W at *
  have IN := Lib.hid hI
  have BN := Lib.hid hB
  clear hI hB
  go_wp2_with fail
  refine (floated_c _).mono ?_
  rintro e wG ⟨rfl, hB⟩
  have IG := Lib.hid (IN.out.below hB)
  have BG := Lib.hid (below_then BN.out BN.out.size hB)
  clear hB IN BN
  go_wp2_with fail
  go_loopw [27] (fun i wr => ∃ k : Nat, k ≤ m ∧ i = .int .i64 k ∧ Hid (∃ l, IsF wr w.heap.size W l ∧ Nums k l ∧ Apart W l) ∧ Hid (Below w.heap.size w wr)) (fun i _ => m - (intOf i).toNat)
  case atStart => exact ⟨0, Nat.zero_le _, rfl, ⟨[], IG.out, ⟨rfl, fun f hf => by simp at hf⟩, ⟨fun f hf => by simp at hf, List.Pairwise.nil⟩⟩, BG⟩
  case round =>
    obtain ⟨k, hk, rfl, hS, hB⟩ := hrel
    by_cases hlt : k < m
    · obtain ⟨ad, ea, x0, x1, x2, x3⟩ := at_T39 (Kd.C_below W1.out hB.out) (k : Int) (by omega) (by omega)
      subst ea
      rw [Int.toNat_natCast] at x0 x1 x2 x3
      generalize rd_T39 z1 (k : Int) = r at *
      obtain ⟨l, hI, hN, hA⟩ := hS.out
      have SI := Lib.hid hI
      have SN := Lib.hid hN
      have SA := Lib.hid hA
      clear hI hN hA hS
      have hb1 := i16_bd r.f1
      have hb2 := i16_bd r.f2
      have hb3 := i16_bd r.f3
      go_wp2_with fail
      refine (Place_c _ W l _ _ _ _ (32767 * ((k : Int) + 1)) _ (SI.out.below (below_alloc (Below.refl _ _) _)) (SN.out.ok (by omega)) (by unfold fits; omega) (by rw [SN.out.1]; omega) (by omega) (by omega) (by unfold cut; omega) (by omega) (fun f hf => by obtain ⟨_, _, h3, _, _, h6, _⟩ := SN.out.2 f hf; omega)).mono ?_
      rintro e wP ⟨f, rfl, hP, hI2, hB2, -⟩
      have hnx := place_next hW0.1 hW0.2 SN.out SA.out (by omega) (by omega) hb1 hb2.2 hb3.2 hP
      have SX : Hid (∃ l, IsF wP w.heap.size W l ∧ Nums (k + 1) l ∧ Apart W l) := Lib.hid ⟨_, hI2, hnx.1, hnx.2⟩
      have BP := Lib.hid (hB.out.trans ((below_alloc (Below.refl _ _) _).mono hB.out.size |>.trans hB2) : Below w.heap.size w wP)
      clear hP hI2 hB2 hnx x0 x1 x2 x3
      go_wp2
      go_roundw
      case rel => exact ⟨k + 1, by omega, by go_num, SX, BP⟩
      case measure => simp [intOf]; omega
    · obtain rfl : k = m := by omega
      obtain ⟨l, hI, hN, hA⟩ := hS.out
      have hgood := good_of hA (hN.ok (by omega))
      have hll : (l.map fun f => f.f0).length = k := by rw [List.length_map]; exact hN.1
      have SI := Lib.hid hI
      have hlt2 : (l.length : Int) ≤ 1000000 := by rw [hN.1]; omega
      have HLT := Lib.hid hlt2
      clear hS hN hA hI hlt2
      go_wp2_with fail
      refine (All_c _ W l wr SI.out HLT.out).mono ?_
      rintro e wA ⟨v, rfl, hR, hBA⟩
      obtain ⟨Aa, ca, rfl, hca, hC⟩ := Kd.R_reads hR
      have IA := Lib.hid (SI.out.below hBA)
      have BA := Lib.hid (below_then hB.out hB.out.size hBA)
      clear hR hBA SI HLT
      rw [hll] at hC hca ⊢
      generalize (l.map fun f => f.f0) = all at *
      have AC := Lib.hid hC
      have AG := Lib.hid hgood
      have AL := Lib.hid hll
      clear hC hgood hll hB
      obtain ⟨W0, rfl⟩ : ∃ W0 : World, W0 = wA := ⟨_, rfl⟩
      go_wp2_with fail
      go_loopw [54] (fun i wr => ∃ j : Nat, j ≤ k ∧ i = .int .i64 j ∧ Hid (Below W0.heap.size W0 wr)) (fun i _ => k - (intOf i).toNat)
      case atStart => exact ⟨0, Nat.zero_le _, rfl, Below.refl _ _⟩
      case round =>
        obtain ⟨j, hj, rfl, hB⟩ := hrel
        by_cases hlt2 : j < k
        · obtain ⟨ad, ea, x0, x1, x2, x3⟩ := at_T39 (Kd.C_below AC.out hB.out) (j : Int) (by omega) (by omega)
          subst ea
          rw [Int.toNat_natCast] at x0 x1 x2 x3
          obtain ⟨⟨f1, f2⟩, ⟨f3, f4⟩, ⟨f5, f6⟩, ⟨f7, f8⟩, hin⟩ := AG.out.1 j (by rw [AL.out]; omega)
          have hpair := AG.out.2
          generalize hr : rd_T39 all (j : Int) = r at *
          have HR := Lib.hid hr
          clear hpair hr
          have hcase : (r.f2 ≤ W ∧ 0 ≤ r.f0 ∧ r.f0 + r.f2 ≤ W) ∨ W < r.f2 := by
            by_cases h : r.f2 ≤ W
            · exact .inl ⟨h, hin h⟩
            · exact .inr (by omega)
          clear hin
          have IW : Hid (∀ o, IsF (wr.alloc o) w.heap.size W l) := Lib.hid fun o => (IA.out.below hB.out).below (below_alloc (Below.refl _ _) o)
          obtain ⟨V, rfl⟩ : ∃ V : World, V = wr := ⟨_, rfl⟩
          rcases hcase with ⟨k1, k2, k3⟩ | k1
          case' inl =>
            have d1 : decide (r.f2 ≤ W) = true := by simp; omega
            have d2 : decide (r.f0 < 0) = false := by simp; omega
            have d3 : decide (W < r.f0 + r.f2) = false := by simp; omega
          case' inr =>
            have d1 : decide (r.f2 ≤ W) = false := by simp; omega
          all_goals
            go_wp2_with fail
            go_quiet ((go_at_call 27; exact Calls.quiet_of_same (Width_q _ _ _ _ (IW.out _))))
            go_wp2_with fail
            obtain ⟨W3, e3, b3, s3, c0, c1, c2, c3⟩ := blk4 V (Value.int IntKind.i64 r.f0) (Value.int IntKind.i64 r.f1) (Value.int IntKind.i64 r.f2) (Value.int IntKind.i64 r.f3) 39 nq
            rw [e3]
            have hb3 : V.heap.size < W3.heap.size := by omega
            have C0 := Lib.hid c0
            have C1 := Lib.hid c1
            have C2 := Lib.hid c2
            have C3 := Lib.hid c3
            have B3 := Lib.hid (hB.out.trans (b3.mono hB.out.size))
            have S3 := Lib.hid hb3
            clear c0 c1 c2 c3 b3 s3 e3 hb3 x0 x1 x2 x3
            generalize V.heap.size = b at *
            go_loopw [83] (fun i wr => ∃ q : Nat, q ≤ j ∧ i = .int .i64 q ∧ Hid (Below W3.heap.size W3 wr)) (fun i _ => j - (intOf i).toNat)
            case atStart => exact ⟨0, Nat.zero_le _, rfl, Below.refl _ _⟩
            case round =>
              obtain ⟨i, hi, rfl, hB4⟩ := hrel
              by_cases hlt3 : i < j
              · obtain ⟨ad2, ea2, x0, x1, x2, x3⟩ := at_T39 (Kd.C_below AC.out (B3.out.trans (hB4.out.mono B3.out.size))) (i : Int) (by omega) (by omega)
                obtain rfl := Option.some.inj ea2
                rw [Int.toNat_natCast] at x0 x1 x2 x3
                obtain ⟨⟨g1, g2⟩, ⟨g3, g4⟩, ⟨g5, g6⟩, ⟨g7, g8⟩, -⟩ := AG.out.1 i (by rw [AL.out]; omega)
                have hpair := AG.out.2 i j hlt3 (by rw [AL.out]; omega)
                rw [HR.out] at hpair
                generalize rd_T39 all (i : Int) = q at *
                have y0 : ∀ o, (wr.alloc o).cell? ⟨b, 0, none⟩ = some (Value.int IntKind.i64 r.f0) := fun o => ((below_alloc hB4.out o).cell (p := ⟨b, 0, none⟩) S3.out).trans C0.out
                have y1 : ∀ o, (wr.alloc o).cell? ⟨b, 1, none⟩ = some (Value.int IntKind.i64 r.f1) := fun o => ((below_alloc hB4.out o).cell (p := ⟨b, 1, none⟩) S3.out).trans C1.out
                have y2 : ∀ o, (wr.alloc o).cell? ⟨b, 2, none⟩ = some (Value.int IntKind.i64 r.f2) := fun o => ((below_alloc hB4.out o).cell (p := ⟨b, 2, none⟩) S3.out).trans C2.out
                have y3 : ∀ o, (wr.alloc o).cell? ⟨b, 3, none⟩ = some (Value.int IntKind.i64 r.f3) := fun o => ((below_alloc hB4.out o).cell (p := ⟨b, 3, none⟩) S3.out).trans C3.out
                obtain ⟨hge, hno⟩ := hpair
                unfold over at hno
                simp only at hno
                have hmin : (0 < min r.f2 (min r.f3 (min q.f2 q.f3))) = (0 < r.f2 ∧ 0 < r.f3 ∧ 0 < q.f2 ∧ 0 < q.f3) := by
                  apply propext; omega
                have e1 : decide (r.f1 < q.f1) = false := by simp; omega
                have HM : Hid (0 < min r.f2 (min r.f3 (min q.f2 q.f3)) → r.f0 < q.f0 + q.f2 → q.f0 < r.f0 + r.f2 → r.f1 < q.f1 + q.f3 → q.f1 < r.f1 + r.f3 → False) := by
                  intro a1 a2 a3 a4 a5
                  rw [hmin] at a1
                  exact hno ⟨a1.1, a1.2.1, a1.2.2.1, a1.2.2.2, a2, a3, a4, a5⟩
                clear hno hmin hge
                have hBx : ∀ (o : Obj) (n : Nat), Hid (Below W3.heap.size W3 ((wr.alloc o).drewN n)) := fun o n => pw_below_drewN (below_alloc hB4.out o) n
                by_cases m1 : 0 < min r.f2 (min r.f3 (min q.f2 q.f3))
                case neg =>
                  have n1 : decide (0 < min r.f2 (min r.f3 (min q.f2 q.f3))) = false := by simpa using m1
                  clear HM m1
                  go_wp2_with fail
                  exact ⟨⟨i + 1, by omega, by go_num, below_alloc hB4.out _⟩, by simp [intOf]; omega⟩
                have n1 : decide (0 < min r.f2 (min r.f3 (min q.f2 q.f3))) = true := by simpa using m1
                by_cases m2 : r.f0 < q.f0 + q.f2
                case neg =>
                  have n2 : decide (r.f0 < q.f0 + q.f2) = false := by simpa using m2
                  clear HM m2
                  go_wp2_with fail
                  exact ⟨⟨i + 1, by omega, by go_num, below_alloc hB4.out _⟩, by simp [intOf]; omega⟩
                have n2 : decide (r.f0 < q.f0 + q.f2) = true := by simpa using m2
                by_cases m3 : q.f0 < r.f0 + r.f2
                case neg =>
                  have n3 : decide (q.f0 < r.f0 + r.f2) = false := by simpa using m3
                  clear HM m3
                  go_wp2_with fail
                  exact ⟨⟨i + 1, by omega, by go_num, below_alloc hB4.out _⟩, by simp [intOf]; omega⟩
                have n3 : decide (q.f0 < r.f0 + r.f2) = true := by simpa using m3
                by_cases m4 : r.f1 < q.f1 + q.f3
                case neg =>
                  have n4 : decide (r.f1 < q.f1 + q.f3) = false := by simpa using m4
                  clear HM m4
                  go_wp2_with fail
                  exact ⟨⟨i + 1, by omega, by go_num, below_alloc hB4.out _⟩, by simp [intOf]; omega⟩
                have n4 : decide (r.f1 < q.f1 + q.f3) = true := by simpa using m4
                by_cases m5 : q.f1 < r.f1 + r.f3
                case neg =>
                  have n5 : decide (q.f1 < r.f1 + r.f3) = false := by simpa using m5
                  clear HM m5
                  go_wp2_with fail
                  exact ⟨⟨i + 1, by omega, by go_num, below_alloc hB4.out _⟩, by simp [intOf]; omega⟩
                have n5 : decide (q.f1 < r.f1 + r.f3) = true := by simpa using m5
                exact (HM.out m1 m2 m3 m4 m5).elim
              · obtain rfl : i = j := by omega
                have BX := Lib.hid (B3.out.trans (hB4.out.mono B3.out.size))
                go_wp2_with fail
                exact ⟨⟨i + 1, by omega, by go_num, BX⟩, by simp [intOf]; omega⟩
        · obtain rfl : j = k := by omega
          have BX := Lib.hid (below_then BA.out BA.out.size hB.out)
          go_wp2_with fail
          go_ret
          exact ⟨rfl, BX.out⟩

theorem own : ownKnob Try.prog.godebug = none := by kernel_rfl
theorem laidOut : laidOutB Try.prog = true := by kernel_rfl
set_option maxRecDepth 100000 in
theorem lifted (os : Os) (started : os.Started) (H : Type) (enc : TypeId × Value → H) :
    ReturnsInHanded {} Try.checked os 7 .any (Rows.floatsApartSpec.pre6 enc Try.prog Try.f7 Rows.floatsApartRow.domain false) (Rows.floatsApartSpec.post enc Try.prog Try.f7 false true false false) := by
  refine returnsInHanded_of_change_sized (C := Try.checked) own started (by kernel_rfl) Try.func7
    (ChangeSpec.witness6 (enc := enc) (C := Try.checked) false ⟨#[], #[.int .i64 0, .slice none 0 0], []⟩ 8 (by kernel_rfl) (by kernel_rfl) (by kernel_rfl) (by kernel_rfl)) ?_
  intro W base args ds gs before hval0 hW hcnd hsz0 _
  have hsz : (DataW.weightsEach Try.prog (Try.f7.params.toList ++ Rows.floatsApartSpec.plain.varTypes Try.prog) (ds ++ gs)).all (· ≤ reachBytes) = true := hsz0
  have hval : ∀ (j : Nat) t v, Try.f7.params[j]? = some t → args[j]? = some v → Value.okWide Try.prog W .any base t v := hval0
  have hW' := hW
  obtain ⟨p, q, hA0, hV, rfl, hfz, hnd⟩ := hW
  have hA : DataW.TrodAll enc Try.prog W 0 (fun _ => true) true Try.f7.params.toList args.toList ds p := hA0
  rw [Try.params7] at hA hval hsz
  obtain ⟨v0, vs0, d0, ds0, p0, q0, hargs, rfl, rfl, h0, r0⟩ := trodAll_cons hA
  obtain ⟨v1, vs1, d1, ds1, p1, q1, rfl, rfl, rfl, h1, r1⟩ := trodAll_cons r0
  obtain ⟨rfl, rfl, rfl⟩ := trodAll_nil r1
  obtain rfl : args = #[v0, v1] := by cases args; simp_all
  obtain ⟨rfl, rfl⟩ := trodVars_none hV
  obtain ⟨a0, rfl, rfl, rfl, w0⟩ := open_int Try.underlying3 (hval 0 3 v0 rfl rfl) h0
  obtain ⟨a1, len1, cap1, rfl⟩ := okWide_slice Try.underlying35 (hval 1 35 v1 rfl rfl)
  have k1 := h1
  have lt1 : ∀ x ∈ p1, x.block < W.heap.size := by obtain ⟨m, hm⟩ := k1; exact DataW.trod_lt m _ _ _ hm
  obtain ⟨z1, e1, c1, w1⟩ : ∃ zs, len1 = zs.length ∧ len1 ≤ cap1 ∧ Kd.C k39 W a1 len1 zs := by
    obtain ⟨fuel, hf⟩ := h1
    obtain ⟨A, c, xs, hcs, h1, h2⟩ := slice_of Try.underlying35 op_T39 hf
    simp [Value.cells] at hcs
    obtain ⟨rfl, rfl, rfl⟩ := hcs
    exact ⟨xs, rfl, h1, h2⟩
  clear hA0 hval0 hsz0 hsz
  refine (walk a0 a1 len1 cap1 z1 W w0 e1 c1 w1).mono fun e W' ⟨he, bel⟩ => ?_
  subst he
  exact ⟨_, rfl, _, _, _, [], _, [], hW', trodAll_mk1 (shut_bool Try.underlying4 _), (trodAll_cons_mk (shut_int Try.underlying3 w0) (trodAll_cons_mk (Below.trod laidOut (by kernel_rfl) (of_decide_eq_true (by kernel_rfl)) k1 bel lt1) trodAll_mk0)), rfl, bel.frame _, fun h => by cases h⟩
theorem over : Rows.floatsApartRow.holds Try.pinned (OpenSpec.ofChange Rows.floatsApartSpec) :=
  OpenClaim.holds_of_wide 7 Try.f7 rfl rfl rfl rfl rfl rfl rfl ⟨rfl, rfl, rfl, rfl, rfl⟩ rfl rfl rfl rfl rfl (by kernel_rfl) Try.func7 (by kernel_rfl)
    (of_decide_eq_true (by kernel_rfl)) (by unfold Func.isWrapper; first | (rw [if_pos (by decide +kernel)]; kernel_rfl) | (rw [if_neg (by decide +kernel)]; exact ⟨rfl, rfl⟩))
    (fun os started H enc _ => lifted os started H enc)
theorem proved : Rows.FloatsApartSaid := over
#print axioms proved
end Go.Proofs.Ytomejeclfbpilaa.FloatsApart
