/- Between the edges of a stretch nothing floats; below all that floats the room is whole. For every input. -/
import Derived.Test.YtomejeclfbpilaaRows
import Derived.Test.YtomejeclfbpilaaFloated
import Derived.Test.YtomejeclfbpilaaFloatsOp
import Derived.ProofKit
import Derived.OpenShut
import Derived.ShutString
import Derived.ChangeOld
import Derived.Below
import Derived.SizedLaws
import Derived.Deep.QuietTactic
import Derived.BigQuiet
namespace Go.Proofs.Ytomejeclfbpilaa.FloatsRoom
open Go.RowKit Go.Proofs.Ytomejeclfbpilaa.Pl Go.Proofs.Ytomejeclfbpilaa.Fx Go.Proofs.Ytomejeclfbpilaa.Fl Go.Proofs.Ytomejeclfbpilaa.Opn Go.Proofs.YtomejeclfbpilaaW.PrintWords Go.Proofs.YtomejeclfbpilaaW.PrintLast Go.Proofs.YtomejeclfbpilaaW.PrintMore
open Go.ChangeShapes Go.WideShapes Go.ChangeAt
set_option linter.unusedVariables false
set_option linter.unusedSimpArgs false
attribute [local go_sem] mx2 mn2 mx_two mn_two mx_three mn_three

theorem mn_four (ats : Array TypeId) (ty : TypeId) (a b c d : Value) : Builtin.min_ ats ty #[a, b, c, d] = (Builtin.min2 a b >>= fun s => Builtin.min2 s c >>= fun s => Builtin.min2 s d >>= fun s => pure s) := by simp only [Builtin.min_, List.foldlM_cons, List.foldlM_nil]
attribute [local go_sem] mn_four
theorem i16_bd (x : Int) : -32768 ≤ IntKind.i16.wrap x ∧ IntKind.i16.wrap x ≤ 32767 := by
  simp only [IntKind.wrap, IntKind.signed, IntKind.bits]
  simp
  omega
theorem Width_q (g : Nat) (width : Int) (l : List F) (w : World) (h : IsF w g width l) : Calls Try.prog 27 #[.pointer (some ⟨g, 0, none⟩)] w fun e w' => e = .returned (.int .i64 width) ∧ w' = w :=
  (Width_c g width l w h).mono fun e w' h => ⟨h.1, h.2.symm⟩

theorem u8_bd (x : Int) : 0 ≤ IntKind.u8.wrap x ∧ IntKind.u8.wrap x ≤ 255 := by
  simp only [IntKind.wrap, IntKind.signed, IntKind.bits]
  simp
  omega
/-- What the law asks of the rectangles. -/
def Room (L R y h : Int) (l : List R4) : Prop :=
  ∀ k, k < l.length → fits (rd_T39 l (k : Int)).f0 ∧ fits (rd_T39 l (k : Int)).f1 ∧ fits (rd_T39 l (k : Int)).f2 ∧ fits (rd_T39 l (k : Int)).f3 ∧
    (0 < (rd_T39 l (k : Int)).f3 → 0 < (rd_T39 l (k : Int)).f2 → (rd_T39 l (k : Int)).f1 < y + h → y < (rd_T39 l (k : Int)).f1 + (rd_T39 l (k : Int)).f3 → (rd_T39 l (k : Int)).f0 < R → L < (rd_T39 l (k : Int)).f0 + (rd_T39 l (k : Int)).f2 → False)
theorem rd_map (l : List F) (k : Nat) (hk : k < l.length) : rd_T39 (l.map fun f => f.f0) (k : Int) = (l[k]).f0 := by
  simp [rd_T39, List.getD_eq_getElem?_getD, hk]
theorem room_of {width y h : Int} {l : List F} (hok : ∀ f, f ∈ l → okF f) (hh : 1 ≤ h) : Room (edges width l y h).1 (edges width l y h).2.1 y h (l.map fun f => f.f0) := by
  intro k hk
  rw [List.length_map] at hk
  rw [rd_map l k hk]
  have hm : l[k] ∈ l := List.getElem_mem hk
  obtain ⟨a, b, c, d⟩ := hok _ hm
  refine ⟨a, b, c, d, ?_⟩
  intro h1 h2 h3 h4 h5 h6
  have hmet : metB l[k] y h = true := by
    unfold metB
    have : max 1 h = h := by omega
    rw [this]
    simp only [Bool.and_eq_true, decide_eq_true_eq]
    exact ⟨h1, h3, h4⟩
  have he := edges_mem width y h l l[k] hm hmet
  by_cases hs : (l[k]).f1 = 1
  · have := he.2.1 hs; omega
  · have := he.2.2 hs; omega
theorem clear_facts (l : List F) (y M : Int) (hM : cut y ≤ M) (h : ∀ f, f ∈ l → f.f0.f1 + f.f0.f3 ≤ M) : cut y ≤ clearP l 3 y ∧ clearP l 3 y ≤ M ∧ ∀ f, f ∈ l → f.f0.f1 + f.f0.f3 ≤ clearP l 3 y := by
  have e : ∀ a f, stepC 3 a f = max a (f.f0.f1 + f.f0.f3) := fun a f => by unfold stepC; rw [if_pos (Or.inr rfl)]
  have key : ∀ (l : List F) (a : Int), a ≤ M → (∀ f, f ∈ l → f.f0.f1 + f.f0.f3 ≤ M) → a ≤ l.foldl (stepC 3) a ∧ l.foldl (stepC 3) a ≤ M ∧ ∀ f, f ∈ l → f.f0.f1 + f.f0.f3 ≤ l.foldl (stepC 3) a := by
    intro l
    induction l with
    | nil => intro a ha _; exact ⟨Int.le_refl _, ha, fun f hf => by simp at hf⟩
    | cons q l ih =>
      intro a ha hl
      rw [List.foldl_cons, e]
      have hq := hl q (by simp)
      obtain ⟨i1, i2, i3⟩ := ih (max a (q.f0.f1 + q.f0.f3)) (by omega) (fun f hf => hl f (by simp [hf]))
      refine ⟨by omega, i2, fun f hf => ?_⟩
      rcases List.mem_cons.1 hf with rfl | hf
      · omega
      · exact i3 f hf
  exact key l _ hM h
theorem edges_empty (width y h : Int) (l : List F) (hm : ∀ f, f ∈ l → metB f y h = false) : edges width l y h = (0, width, false) := by
  have key : ∀ (l : List F) (p : Int × Int × Bool), (∀ f, f ∈ l → metB f y h = false) → l.foldl (stepE y h) p = p := by
    intro l
    induction l with
    | nil => intro p _; rfl
    | cons q l ih =>
      intro p hl
      rw [List.foldl_cons]
      have : stepE y h p q = p := by unfold stepE; rw [if_neg (by rw [hl q (by simp)]; simp)]
      rw [this]
      exact ih p fun f hf => hl f (by simp [hf])
  exact key l _ hm
theorem below_empty (width b h : Int) (l : List F) (hm : ∀ f, f ∈ l → f.f0.f1 + f.f0.f3 ≤ b) : edges width l b h = (0, width, false) := by
  refine edges_empty width b h l fun f hf => ?_
  have := hm f hf
  unfold metB
  have : decide (b < f.f0.f1 + f.f0.f3) = false := by simp; omega
  rw [this]; simp

set_option maxRecDepth 100000 in
set_option maxHeartbeats 4000000 in
theorem walk (width : Int) (a1 : Option Addr) (len1 cap1 : Nat) (z1 : List R4) (y h : Int) (w : World) (_ : (Lit.int .i64 width).wf = true) (e1 : len1 = z1.length) (c1 : len1 ≤ cap1) (w1 : Kd.C k39 w a1 len1 z1) (wy : (Lit.int .i64 y).wf = true) (wh : (Lit.int .i64 h).wf = true) :
    Calls Try.prog 8 #[.int .i64 width, .slice a1 len1 cap1, .int .i64 y, .int .i64 h] w fun e w' => e = .returned (.bool true) ∧ Below w.heap.size w w' := by
  have hlm : len1 ≤ 9223372036854775807 := w1.2.1
  subst e1
  obtain ⟨m, em, q0, r0⟩ : ∃ m : Nat, min (z1.length : Int) 30 = (m : Int) ∧ m ≤ z1.length ∧ (m : Int) ≤ 30 := ⟨min z1.length 30, by omega, by omega, by omega⟩
  have W1 := Lib.hid w1
  have hW0 : 0 ≤ max 0 (cut width) ∧ max 0 (cut width) ≤ 16777216 := by have := cut_bd width; omega
  clear w1
  go_enter Try.func8, Try.ntmps8
  go_wp2_with fail
  refine (New_c _ _).mono ?_
  rintro e wN ⟨rfl, hI, hB⟩
  generalize max 0 (cut width) = W at *
  have IN := Lib.hid hI
  have BN := Lib.hid hB
  clear hI hB
  go_wp2_with fail
  refine (floated_c _).mono ?_
  rintro e wG ⟨rfl, hB⟩
  have IG := Lib.hid (IN.out.below hB)
  have BG := Lib.hid (below_then BN.out BN.out.size hB)
  clear hB IN BN
  go_wp2_with fail
  go_loopw [33] (fun i wr => ∃ k : Nat, k ≤ m ∧ i = .int .i64 k ∧ Hid (∃ l, IsF wr w.heap.size W l ∧ Nums k l ∧ Apart W l) ∧ Hid (Below w.heap.size w wr)) (fun i _ => m - (intOf i).toNat)
  case atStart => exact ⟨0, Nat.zero_le _, rfl, ⟨[], IG.out, ⟨rfl, fun f hf => by simp at hf⟩, ⟨fun f hf => by simp at hf, List.Pairwise.nil⟩⟩, BG⟩
  case round =>
    obtain ⟨k, hk, rfl, hS, hB⟩ := hrel
    by_cases hlt : k < m
    · obtain ⟨ad, ea, x0, x1, x2, x3⟩ := at_T39 (Kd.C_below W1.out hB.out) (k : Int) (by omega) (by omega)
      subst ea
      rw [Int.toNat_natCast] at x0 x1 x2 x3
      generalize rd_T39 z1 (k : Int) = r at *
      obtain ⟨l, hI, hN, hA⟩ := hS.out
      have SI := Lib.hid hI
      have SN := Lib.hid hN
      have SA := Lib.hid hA
      clear hI hN hA hS
      have hb1 := i16_bd r.f1
      have hb2 := i16_bd r.f2
      have hb3 := i16_bd r.f3
      go_wp2_with fail
      refine (Place_c _ W l _ _ _ _ (32767 * ((k : Int) + 1)) _ (SI.out.below (below_alloc (Below.refl _ _) _)) (SN.out.ok (by omega)) (by unfold fits; omega) (by rw [SN.out.1]; omega) (by omega) (by omega) (by unfold cut; omega) (by omega) (fun f hf => by obtain ⟨_, _, h3, _, _, h6, _⟩ := SN.out.2 f hf; omega)).mono ?_
      rintro e wP ⟨f, rfl, hP, hI2, hB2, -⟩
      have hnx := place_next hW0.1 hW0.2 SN.out SA.out (by omega) (by omega) hb1 hb2.2 hb3.2 hP
      have SX : Hid (∃ l, IsF wP w.heap.size W l ∧ Nums (k + 1) l ∧ Apart W l) := Lib.hid ⟨_, hI2, hnx.1, hnx.2⟩
      have BP := Lib.hid (hB.out.trans ((below_alloc (Below.refl _ _) _).mono hB.out.size |>.trans hB2) : Below w.heap.size w wP)
      clear hP hI2 hB2 hnx x0 x1 x2 x3
      go_wp2
      go_roundw
      case rel => exact ⟨k + 1, by omega, by go_num, SX, BP⟩
      case measure => simp [intOf]; omega
    · obtain rfl : k = m := by omega
      obtain ⟨l, hI, hN, hA⟩ := hS.out
      have hok := hN.ok (by omega)
      have hll : (l.map fun f => f.f0).length = k := by rw [List.length_map]; exact hN.1
      have SI := Lib.hid hI
      have SN := Lib.hid hN
      have HK := Lib.hid hok
      have hlt2 : (l.length : Int) ≤ 1000000 := by rw [hN.1]; omega
      have HLT := Lib.hid hlt2
      have hby := i16_bd y
      have hbh := u8_bd h
      clear hS hN hA hI hlt2 hok
      go_wp2_with fail
      generalize IntKind.i16.wrap y = Y at *
      obtain ⟨D, hD, d1, d2⟩ : ∃ D : Int, h % 256 + 1 = D ∧ 1 ≤ D ∧ D ≤ 256 := ⟨_, rfl, by omega, by omega⟩
      rw [hD]
      clear hD hbh
      have cY : cut Y = Y := cut_id (by omega) (by omega)
      have cD : cut D = D := cut_id (by omega) (by omega)
      refine (Edges_c _ W l Y D wr SI.out HK.out HLT.out).mono ?_
      rintro e wE ⟨rfl, hBE⟩
      rw [cY, cD]
      have hroom := room_of (width := W) (y := Y) (h := D) HK.out d1
      have IE := Lib.hid (SI.out.below hBE)
      have BE := Lib.hid (below_then hB.out hB.out.size hBE)
      have hbd := edges_bd W (by unfold fits; omega) Y D l HK.out
      generalize hL : (edges W l Y D).1 = L at *
      generalize hR : (edges W l Y D).2.1 = R at *
      have hcl := clear_facts l Y (32767 * ((k : Int) + 1)) (by omega) (fun f hf => by obtain ⟨_, _, _, _, _, h6, _⟩ := SN.out.2 f hf; omega)
      obtain ⟨i1, i2, i3⟩ := hcl
      have hbe := below_empty W (clearP l 3 Y) D l i3
      have hcb : cut (clearP l 3 Y) = clearP l 3 Y := cut_id (by omega) (by omega)
      have hle : Y ≤ clearP l 3 Y := by omega
      have HL := Lib.hid hroom
      have HBE := Lib.hid hbe
      have HCB := Lib.hid hcb
      have HLE := Lib.hid hle
      have HCY := Lib.hid cY
      have HCD := Lib.hid cD
      clear hroom hBE SI hB hbd hL hR i1 i2 i3 hbe hcb hle cY cD
      go_wp2_with fail
      refine (All_c _ W l wE IE.out HLT.out).mono ?_
      rintro e wA ⟨v, rfl, hR, hBA⟩
      obtain ⟨Aa, ca, rfl, hca, hC⟩ := Kd.R_reads hR
      have IA := Lib.hid (IE.out.below hBA)
      have BA := Lib.hid (below_then BE.out BE.out.size hBA)
      clear hR hBA IE BE
      rw [hll] at hC hca ⊢
      generalize (l.map fun f => f.f0) = all at *
      have AC := Lib.hid hC
      have AL := Lib.hid hll
      clear hC hll
      obtain ⟨W0, rfl⟩ : ∃ W0 : World, W0 = wA := ⟨_, rfl⟩
      go_wp2_with fail
      go_loopw [73] (fun i wr => ∃ j : Nat, j ≤ k ∧ i = .int .i64 j ∧ Hid (Below W0.heap.size W0 wr)) (fun i _ => k - (intOf i).toNat)
      case atStart => exact ⟨0, Nat.zero_le _, rfl, Below.refl _ _⟩
      case round =>
        obtain ⟨j, hj, rfl, hB4⟩ := hrel
        by_cases hlt2 : j < k
        · obtain ⟨ad, ea, x0, x1, x2, x3⟩ := at_T39 (Kd.C_below AC.out hB4.out) (j : Int) (by omega) (by omega)
          subst ea
          rw [Int.toNat_natCast] at x0 x1 x2 x3
          obtain ⟨⟨f1, f2⟩, ⟨f3, f4⟩, ⟨f5, f6⟩, ⟨f7, f8⟩, hno⟩ := HL.out j (by rw [AL.out]; omega)
          generalize rd_T39 all (j : Int) = r at *
          have HM := Lib.hid hno
          clear hno
          by_cases m1 : 0 < r.f3
          case neg =>
            have n1 : decide (0 < r.f3) = false := by simpa using m1
            clear HM m1
            go_wp2_with fail
            exact ⟨⟨j + 1, by omega, by go_num, below_alloc hB4.out _⟩, by simp [intOf]; omega⟩
          have n1 : decide (0 < r.f3) = true := by simpa using m1
          by_cases m2 : 0 < r.f2
          case neg =>
            have n2 : decide (0 < r.f2) = false := by simpa using m2
            clear HM m2
            go_wp2_with fail
            exact ⟨⟨j + 1, by omega, by go_num, below_alloc hB4.out _⟩, by simp [intOf]; omega⟩
          have n2 : decide (0 < r.f2) = true := by simpa using m2
          by_cases m3 : r.f1 < Y + D
          case neg =>
            have n3 : decide (r.f1 < Y + D) = false := by simpa using m3
            clear HM m3
            go_wp2_with fail
            exact ⟨⟨j + 1, by omega, by go_num, below_alloc hB4.out _⟩, by simp [intOf]; omega⟩
          have n3 : decide (r.f1 < Y + D) = true := by simpa using m3
          by_cases m4 : Y < r.f1 + r.f3
          case neg =>
            have n4 : decide (Y < r.f1 + r.f3) = false := by simpa using m4
            clear HM m4
            go_wp2_with fail
            exact ⟨⟨j + 1, by omega, by go_num, below_alloc hB4.out _⟩, by simp [intOf]; omega⟩
          have n4 : decide (Y < r.f1 + r.f3) = true := by simpa using m4
          by_cases m5 : r.f0 < R
          case neg =>
            have n5 : decide (r.f0 < R) = false := by simpa using m5
            clear HM m5
            go_wp2_with fail
            exact ⟨⟨j + 1, by omega, by go_num, below_alloc hB4.out _⟩, by simp [intOf]; omega⟩
          have n5 : decide (r.f0 < R) = true := by simpa using m5
          by_cases m6 : L < r.f0 + r.f2
          case neg =>
            have n6 : decide (L < r.f0 + r.f2) = false := by simpa using m6
            clear HM m6
            go_wp2_with fail
            exact ⟨⟨j + 1, by omega, by go_num, below_alloc hB4.out _⟩, by simp [intOf]; omega⟩
          have n6 : decide (L < r.f0 + r.f2) = true := by simpa using m6
          exact (HM.out m1 m2 m3 m4 m5 m6).elim
        · obtain rfl : j = k := by omega
          have IX := Lib.hid (IA.out.below hB4.out)
          have BX := Lib.hid (below_then BA.out BA.out.size hB4.out)
          go_wp2_with fail
          refine (Clear_c _ W l Y wr IX.out HK.out HLT.out).mono ?_
          rintro e wC ⟨rfl, hBC⟩
          have IC := Lib.hid (IX.out.below hBC)
          have BC := Lib.hid (below_then BX.out BX.out.size hBC)
          clear hBC
          generalize clearP l 3 Y = B at *
          go_wp2_with fail
          refine (Edges_c _ W l B D wC IC.out HK.out HLT.out).mono ?_
          rintro e wF ⟨rfl, hBF⟩
          rw [HCB.out, HCD.out, HBE.out]
          have IF := Lib.hid (IC.out.below hBF)
          have BF := Lib.hid (below_then BC.out BC.out.size hBF)
          clear hBF
          have n1 : decide (Y ≤ B) = true := by have := HLE.out; simp; omega
          go_wp2_with fail
          refine (Width_q _ W l wF IF.out).mono ?_
          rintro e w' ⟨rfl, rfl⟩
          go_wp2_with fail
          go_ret
          exact ⟨rfl, BF.out⟩

theorem own : ownKnob Try.prog.godebug = none := by kernel_rfl
theorem laidOut : laidOutB Try.prog = true := by kernel_rfl
set_option maxRecDepth 100000 in
theorem lifted (os : Os) (started : os.Started) (H : Type) (enc : TypeId × Value → H) :
    ReturnsInHanded {} Try.checked os 8 .any (Rows.floatsRoomSpec.pre6 enc Try.prog Try.f8 Rows.floatsRoomRow.domain false) (Rows.floatsRoomSpec.post enc Try.prog Try.f8 false true false false) := by
  refine returnsInHanded_of_change_sized (C := Try.checked) own started (by kernel_rfl) Try.func8
    (ChangeSpec.witness6 (enc := enc) (C := Try.checked) false ⟨#[], #[.int .i64 0, .slice none 0 0, .int .i64 0, .int .i64 0], []⟩ 8 (by kernel_rfl) (by kernel_rfl) (by kernel_rfl) (by kernel_rfl)) ?_
  intro W base args ds gs before hval0 hW hcnd hsz0 _
  have hsz : (DataW.weightsEach Try.prog (Try.f8.params.toList ++ Rows.floatsRoomSpec.plain.varTypes Try.prog) (ds ++ gs)).all (· ≤ reachBytes) = true := hsz0
  have hval : ∀ (j : Nat) t v, Try.f8.params[j]? = some t → args[j]? = some v → Value.okWide Try.prog W .any base t v := hval0
  have hW' := hW
  obtain ⟨p, q, hA0, hV, rfl, hfz, hnd⟩ := hW
  have hA : DataW.TrodAll enc Try.prog W 0 (fun _ => true) true Try.f8.params.toList args.toList ds p := hA0
  rw [Try.params8] at hA hval hsz
  obtain ⟨v0, vs0, d0, ds0, p0, q0, hargs, rfl, rfl, h0, r0⟩ := trodAll_cons hA
  obtain ⟨v1, vs1, d1, ds1, p1, q1, rfl, rfl, rfl, h1, r1⟩ := trodAll_cons r0
  obtain ⟨v2, vs2, d2, ds2, p2, q2, rfl, rfl, rfl, h2, r2⟩ := trodAll_cons r1
  obtain ⟨v3, vs3, d3, ds3, p3, q3, rfl, rfl, rfl, h3, r3⟩ := trodAll_cons r2
  obtain ⟨rfl, rfl, rfl⟩ := trodAll_nil r3
  obtain rfl : args = #[v0, v1, v2, v3] := by cases args; simp_all
  obtain ⟨rfl, rfl⟩ := trodVars_none hV
  obtain ⟨a0, rfl, rfl, rfl, w0⟩ := open_int Try.underlying3 (hval 0 3 v0 rfl rfl) h0
  obtain ⟨a1, len1, cap1, rfl⟩ := okWide_slice Try.underlying35 (hval 1 35 v1 rfl rfl)
  have k1 := h1
  have lt1 : ∀ x ∈ p1, x.block < W.heap.size := by obtain ⟨m, hm⟩ := k1; exact DataW.trod_lt m _ _ _ hm
  obtain ⟨z1, e1, c1, w1⟩ : ∃ zs, len1 = zs.length ∧ len1 ≤ cap1 ∧ Kd.C k39 W a1 len1 zs := by
    obtain ⟨fuel, hf⟩ := h1
    obtain ⟨A, c, xs, hcs, h1, h2⟩ := slice_of Try.underlying35 op_T39 hf
    simp [Value.cells] at hcs
    obtain ⟨rfl, rfl, rfl⟩ := hcs
    exact ⟨xs, rfl, h1, h2⟩
  obtain ⟨a2, rfl, rfl, rfl, w2⟩ := open_int Try.underlying3 (hval 2 3 v2 rfl rfl) h2
  obtain ⟨a3, rfl, rfl, rfl, w3⟩ := open_int Try.underlying3 (hval 3 3 v3 rfl rfl) h3
  clear hA0 hval0 hsz0 hsz
  refine (walk a0 a1 len1 cap1 z1 a2 a3 W w0 e1 c1 w1 w2 w3).mono fun e W' ⟨he, bel⟩ => ?_
  subst he
  exact ⟨_, rfl, _, _, _, [], _, [], hW', trodAll_mk1 (shut_bool Try.underlying4 _), (trodAll_cons_mk (shut_int Try.underlying3 w0) (trodAll_cons_mk (Below.trod laidOut (by kernel_rfl) (of_decide_eq_true (by kernel_rfl)) k1 bel lt1) (trodAll_cons_mk (shut_int Try.underlying3 w2) (trodAll_cons_mk (shut_int Try.underlying3 w3) trodAll_mk0)))), rfl, bel.frame _, fun h => by cases h⟩
theorem over : Rows.floatsRoomRow.holds Try.pinned (OpenSpec.ofChange Rows.floatsRoomSpec) :=
  OpenClaim.holds_of_wide 8 Try.f8 rfl rfl rfl rfl rfl rfl rfl ⟨rfl, rfl, rfl, rfl, rfl⟩ rfl rfl rfl rfl rfl (by kernel_rfl) Try.func8 (by kernel_rfl)
    (of_decide_eq_true (by kernel_rfl)) (by unfold Func.isWrapper; first | (rw [if_pos (by decide +kernel)]; kernel_rfl) | (rw [if_neg (by decide +kernel)]; exact ⟨rfl, rfl⟩))
    (fun os started H enc _ => lifted os started H enc)
theorem proved : Rows.FloatsRoomSaid := over
#print axioms proved
end Go.Proofs.Ytomejeclfbpilaa.FloatsRoom
