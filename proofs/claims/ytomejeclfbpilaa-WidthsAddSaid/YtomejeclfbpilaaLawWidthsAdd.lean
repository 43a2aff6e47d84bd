/- Margins, rim and width of a block are the room together, and its width is not below 0. For every input. -/
import Derived.Test.YtomejeclfbpilaaRows
import Derived.Test.YtomejeclfbpilaaWidths4
import Derived.Test.YtomejeclfbpilaaStyleRow
import Derived.Test.YtomejeclfbpilaaMeet
import Derived.ProofKit
import Derived.OpenShut
import Derived.ShutString
import Derived.ChangeOld
import Derived.Below
import Derived.SizedLaws
namespace Go.Proofs.Ytomejeclfbpilaa.WidthsAdd
open Go.RowKit Go.Proofs.Ytomejeclfbpilaa.Pl Go.Proofs.Ytomejeclfbpilaa.Fx Go.Proofs.Ytomejeclfbpilaa.Sty Go.Proofs.Ytomejeclfbpilaa.Wid Go.Proofs.YtomejeclfbpilaaW.PrintWords Go.Proofs.YtomejeclfbpilaaW.PrintLast Go.Proofs.YtomejeclfbpilaaW.PrintMore
open Go.ChangeShapes Go.WideShapes Go.ChangeAt
set_option linter.unusedVariables false
set_option linter.unusedSimpArgs false
attribute [local go_sem] mx2 mn2 mx_two mn_two mx_three mn_three

/-! ### Plain -/
theorem edge_auto (s : List Int) (p : Nat) (room : Int) (h : s.getD (p * 2) 0 = 6) : edgeP s p room = 0 := by
  unfold edgeP
  rw [Int.toNat_natCast, h]
  rfl
theorem sides_sum (s : List Int) (room : Int) : (sidesP s room).1 + widthP s room + (sidesP s room).2 + rimP s room = room := by
  have h14 : s.getD 28 0 = 6 → edgeP s 14 room = 0 := fun h => edge_auto s 14 room h
  have h12 : s.getD 24 0 = 6 → edgeP s 12 room = 0 := fun h => edge_auto s 12 room h
  have hr : restP s room = room - widthP s room - rimP s room - edgeP s 14 room - edgeP s 12 room := rfl
  unfold sidesP
  split
  · rename_i h28
    have e14 := h14 h28
    split
    · rename_i h24
      have e12 := h12 h24
      split
      · dsimp only
        omega
      · dsimp only
        omega
    · dsimp only
      omega
  · dsimp only
    omega
def inB (n : Int) : Bool := decide (-16777216 < n) && decide (n < 16777216)
theorem cut_in {n : Int} (h : inB (cut n) = true) : cut n = n := by
  unfold inB at h
  simp only [Bool.and_eq_true, decide_eq_true_eq] at h
  unfold cut at *
  omega
/-- The closed style. -/
def ws : List Int := ((((List.replicate 118 (0 : Int)).set 10 2).set 11 40).set 28 6).set 24 6
theorem ws_len : ws.length = 118 := by decide
theorem ws_wide : (cut (sidesP ws (cut 100)).1, cut (widthP ws (cut 100)), cut (sidesP ws (cut 100)).2) = (30, 40, 30) := by decide +kernel

theorem wpList_build {P : Program} {ops : Array Oper} {rest : List Oper} {op : Oper} {a : Act} {w : World} {Q : Exit → Act → World → Prop} (hgd : op.guard = none) (t : TypeId) (ps : List (Nat × Operand)) (ho : op.op = .build t ps.toArray)
    (vs : List (Nat × Value)) (hv : ps.map (fun p => (p.1, a.eval p.2)) = vs) (cells : Array Value) (hb : P.built t vs = some cells)
    (h : wpList P ops Q rest (a.put op.dst (.agg cells)) w) : wpList P ops Q (op :: rest) a w :=
  wpList_plain hgd fun _ hK => by
    subst hv
    have h2 := run_build (P := P) w t (ps.map (fun p => (p.1, a.eval p.2))).toArray cells hb
    unfold Oper.wp execOp
    simp only [ho, List.map_toArray, Sem.run_bind, Sem.run_pure, h2, Result.andThen_ok]
    exact hK _ _ h
theorem ws_built : Try.prog.built 54 [(5, .agg #[.int .i64 2, .int .i64 40]), (14, .agg #[.int .i64 6, .int .i64 0]), (12, .agg #[.int .i64 6, .int .i64 0])] = some (sv ws).toArray := by kernel_rfl

set_option maxRecDepth 100000 in
theorem wide_c (w : World) : Calls Try.prog 32 #[] w fun e w' => e = .returned (.bool true) ∧ Below w.heap.size w w' := by
  have hC := fun ww => Wide_c ws 100 ww ws_len
  have h := ws_wide
  simp only [Prod.mk.injEq] at h
  rw [h.1, h.2.1, h.2.2] at hC
  have HC := Lib.hid hC
  clear h hC
  go_enter Try.func32, Try.ntmps32
  go_wp2_with (first
    | ((with_reducible refine gate_dst (N := 8) rfl ?_); refine wpList_build rfl 54 [(5, .tmp 5), (14, .tmp 6), (12, .tmp 7)] rfl [(5, .agg #[.int .i64 2, .int .i64 40]), (14, .agg #[.int .i64 6, .int .i64 0]), (12, .agg #[.int .i64 6, .int .i64 0])] rfl _ ws_built ?_))
  refine (HC.out _).mono ?_
  rintro e w1 ⟨rfl, h1⟩
  have H1 := Lib.hid h1
  clear h1
  go_wp2_with fail
  go_ret
  exact ⟨rfl, H1.out⟩

/-- Are four numbers strictly within? -/
theorem inside_c (A : Option Addr) (n c : Nat) (xs : List Int) (b : Bool) (w : World) (hr : ReadsInt w .i64 A n xs) (hb : xs.all inB = b) :
    Calls Try.prog 33 #[.slice A n c] w fun e w' => e = .returned (.bool b) ∧ w = w' := by
  obtain ⟨hl, hn, hc⟩ := hr
  have HL := Lib.hid hl
  have HBB := Lib.hid hb
  clear hl hb
  go_enter Try.func33, Try.ntmps33
  go_wp2_with fail
  go_loop [7] (fun i => ∃ k : Nat, k ≤ n ∧ i = .int .i64 k ∧ Hid ((xs.take k).all inB = true)) (fun i => n - (RowKit.intOf i).toNat)
  case atStart => exact ⟨0, Nat.zero_le _, rfl, rfl⟩
  case round =>
    obtain ⟨k, hk, rfl, hA⟩ := hrel
    by_cases hlt : k < n
    · obtain ⟨ad, rfl, hcell⟩ := hc (by omega)
      have hx := hcell k hlt
      have hkl : k < xs.length := by rw [HL.out]; exact hlt
      have hts : (xs.take (k + 1)).all inB = inB (xs.getD k 0) := by
        rw [Go.Proofs.Ytomejeclfbpilaa.Mg.take_snoc' xs k hkl, List.all_append, hA.out]
        simp
      have hno : inB (xs.getD k 0) = false → b = false := fun h => by
        rw [← HBB.out, List.all_eq_false]
        refine ⟨xs[k], List.getElem_mem hkl, ?_⟩
        have e : xs.getD k 0 = xs[k] := by simp [List.getD_eq_getElem?_getD, hkl]
        rw [← e, h]
        decide
      have HTS := Lib.hid hts
      have HNO := Lib.hid hno
      clear hc hcell hkl hts hno
      generalize xs.getD k 0 = x at *
      cases hin : inB x with
      | true =>
        have e : -16777216 < x ∧ x < 16777216 := by
          unfold inB at hin
          simpa using hin
        have q1 : decide (x ≤ -16777216) = false := decide_eq_false (by omega)
        have q2 : decide (16777216 ≤ x) = false := decide_eq_false (by omega)
        have HT := Lib.hid (HTS.out.trans hin)
        clear hin e
        go_wp2_with fail
        exact ⟨⟨k + 1, by omega, by go_num, HT.out⟩, by simp [RowKit.intOf]; omega⟩
      | false =>
        have hb := HNO.out hin
        subst hb
        have e : x ≤ -16777216 ∨ 16777216 ≤ x := by
          unfold inB at hin
          simp at hin
          omega
        clear hin
        by_cases e1 : x ≤ -16777216
        · have q1 : decide (x ≤ -16777216) = true := decide_eq_true e1
          clear e
          go_wp2_with fail
          go_ret
          exact ⟨rfl, rfl⟩
        · have q1 : decide (x ≤ -16777216) = false := decide_eq_false e1
          have q2 : decide (16777216 ≤ x) = true := decide_eq_true (by omega)
          clear e e1
          go_wp2_with fail
          go_ret
          exact ⟨rfl, rfl⟩
    · obtain rfl : k = n := by omega
      have hkn : xs.take k = xs := List.take_of_length_le (by rw [HL.out]; exact Nat.le_refl _)
      have hA2 := hA.out
      rw [hkn, HBB.out] at hA2
      subst hA2
      clear hc hkn
      go_wp2_with fail
      go_ret
      exact ⟨rfl, rfl⟩

set_option maxRecDepth 100000 in
set_option maxHeartbeats 1000000 in
theorem walk (s : List Int) (room : Int) (w : World) (hs : s.length = 118) (hwf : (Lit.int .i64 room).wf = true) :
    Calls Try.prog 9 #[.agg (sv s).toArray, .int .i64 room] w fun e w' => e = .returned (.bool true) ∧ Below w.heap.size w w' := by
  have HS := Lib.hid hs
  have IZ := Lib.hid (size27 hs)
  have hsum0 := sides_sum s (cut room)
  have hw0 := (toldB_bd s (cut room) (rimP s (cut room)) (cut room - edgeP s 14 (cut room) - edgeP s 12 (cut room) - rimP s (cut room)) (rimP_bd s _).1).1
  have hw1 : 0 ≤ widthP s (cut room) := hw0
  have hcw : 0 ≤ cut (widthP s (cut room)) := cut_nonneg.2 hw1
  have hsum : ∀ b, [cut (sidesP s (cut room)).1, cut (widthP s (cut room)), cut (sidesP s (cut room)).2, room].all inB = b → b = true → cut (sidesP s (cut room)).1 + cut (widthP s (cut room)) + cut (sidesP s (cut room)).2 + max 0 (edgeP s 22 room) + max 0 (edgeP s 20 room) + max 0 (edgeP s 18 room) + max 0 (edgeP s 16 room) = room := by
    intro b hb h
    rw [h] at hb
    simp only [List.all_cons, List.all_nil, Bool.and_true, Bool.and_eq_true] at hb
    obtain ⟨h1, h2, h3, h4⟩ := hb
    have e4 : cut room = room := cut_in (by
      unfold inB at h4 ⊢
      simp only [Bool.and_eq_true, decide_eq_true_eq] at h4 ⊢
      unfold cut
      omega)
    rw [cut_in h1, cut_in h2, cut_in h3]
    rw [e4] at hsum0 ⊢
    unfold rimP at hsum0
    omega
  have HC := Lib.hid (fun ww => Wide_c s room ww hs)
  have c1 := cut_bd (sidesP s (cut room)).1
  have c2 := cut_bd (widthP s (cut room))
  have c3 := cut_bd (sidesP s (cut room)).2
  clear hsum0 hw0 hw1 hs
  generalize cut (sidesP s (cut room)).1 = xa at *
  generalize cut (widthP s (cut room)) = xm at *
  generalize cut (sidesP s (cut room)).2 = xc at *
  have y22 := edgeP_bd s 22 room
  have y20 := edgeP_bd s 20 room
  have y18 := edgeP_bd s 18 room
  have y16 := edgeP_bd s 16 room
  have HSUM := Lib.hid hsum
  clear hsum
  have hb0 : Below w.heap.size w (w.alloc (.cells (sv s).toArray 54)) := below_alloc (Below.refl _ _) _
  have HB0 := Lib.hid hb0
  have R0 := Lib.hid (range_new w (sv s) 54)
  clear hb0
  go_enter Try.func9, Try.ntmps9
  go_wp2_with (first
    | ((with_reducible refine gate_dst (N := 12) rfl ?_); refine wpList_load_mid rfl 54 (.tmp 2) rfl w.heap.size 0 rfl (sv s) _ R0.out Try.underlying54 rfl IZ.out ?_))
  refine (HC.out _).mono ?_
  rintro e w1 ⟨rfl, h1⟩
  have B1 := Lib.hid (below_then HB0.out HB0.out.size h1)
  have R1 := Lib.hid (range_below R0.out h1 (by simp))
  clear h1 HB0 R0
  go_wp2_with (first
    | ((with_reducible refine gate_dst (N := 19) rfl ?_); refine wpList_load_mid rfl 54 (.tmp 2) rfl w.heap.size 0 rfl (sv s) _ R1.out Try.underlying54 rfl IZ.out ?_))
  refine (Frame_c s room w1 HS.out).mono ?_
  rintro e w2 ⟨rfl, h2⟩
  have B2 := Lib.hid (below_then B1.out B1.out.size h2)
  clear h2 B1 R1
  unfold edV
  go_wp2_with fail
  obtain ⟨W5, eW5, hB5, hs5, k0, k1, k2⟩ := blk_three w2 (.cells #[.int .i64 (edgeP s 11 room), .int .i64 (edgeP s 12 room), .int .i64 (edgeP s 13 room), .int .i64 (edgeP s 14 room)] 58) (.cells #[.int .i64 (max 0 (edgeP s 19 room)), .int .i64 (max 0 (edgeP s 20 room)), .int .i64 (max 0 (edgeP s 21 room)), .int .i64 (max 0 (edgeP s 22 room))] 58) (.cells #[.int .i64 (max 0 (edgeP s 15 room)), .int .i64 (max 0 (edgeP s 16 room)), .int .i64 (max 0 (edgeP s 17 room)), .int .i64 (max 0 (edgeP s 18 room))] 58)
  refine Eq.mpr (by rw [← eW5]) ((wide_c W5).mono ?_)
  rintro e w6 ⟨rfl, h6⟩
  have hlt1 := blk_lt k1
  have hlt2 := blk_lt k2
  have d1 := (h6.cell (p := ⟨w2.heap.size + 1, 1, none⟩) hlt1).trans (blk_cell k1 1)
  have d3 := (h6.cell (p := ⟨w2.heap.size + 1, 3, none⟩) hlt1).trans (blk_cell k1 3)
  have p1 := (h6.cell (p := ⟨w2.heap.size + 1 + 1, 1, none⟩) hlt2).trans (blk_cell k2 1)
  have p3 := (h6.cell (p := ⟨w2.heap.size + 1 + 1, 3, none⟩) hlt2).trans (blk_cell k2 3)
  have d1' : w6.cell? ⟨w2.heap.size + 1, 1, none⟩ = some (.int .i64 (max 0 (edgeP s 20 room))) := d1
  have d3' : w6.cell? ⟨w2.heap.size + 1, 3, none⟩ = some (.int .i64 (max 0 (edgeP s 22 room))) := d3
  have p1' : w6.cell? ⟨w2.heap.size + 1 + 1, 1, none⟩ = some (.int .i64 (max 0 (edgeP s 16 room))) := p1
  have p3' : w6.cell? ⟨w2.heap.size + 1 + 1, 3, none⟩ = some (.int .i64 (max 0 (edgeP s 18 room))) := p3
  have l1 : w2.heap.size + 1 < w6.heap.size := Nat.lt_of_lt_of_le hlt1 h6.size
  have l2 : w2.heap.size + 1 + 1 < w6.heap.size := Nat.lt_of_lt_of_le hlt2 h6.size
  have B6 := Lib.hid (below_then B2.out B2.out.size (below_then hB5 hB5.size h6))
  have D1 := Lib.hid d1'
  have D3 := Lib.hid d3'
  have P1 := Lib.hid p1'
  have P3 := Lib.hid p3'
  clear d1 d3 p1 p3 d1' d3' p1' p3' hlt1 hlt2 h6 hB5 hs5 k0 k1 k2 eW5 B2
  generalize w2.heap.size = g at *
  generalize edgeP s 11 room = v11 at *
  generalize edgeP s 12 room = v12 at *
  generalize edgeP s 13 room = v13 at *
  generalize edgeP s 14 room = v14 at *
  generalize edgeP s 15 room = v15 at *
  generalize edgeP s 17 room = v17 at *
  generalize edgeP s 19 room = v19 at *
  generalize edgeP s 21 room = v21 at *
  generalize edgeP s 16 room = v16 at *
  generalize edgeP s 18 room = v18 at *
  generalize edgeP s 20 room = v20 at *
  generalize edgeP s 22 room = v22 at *
  have q0 : decide (xm < 0) = false := decide_eq_false (by omega)
  have hrd : ReadsInt (w6.alloc (.cells #[.int .i64 xa, .int .i64 xm, .int .i64 xc, .int .i64 room] 3)) .i64 (some ⟨w6.heap.size, 0, none⟩) 4 [xa, xm, xc, room] := Go.Proofs.Ytomejeclfbpilaa.Mg.lit_reads w6 3 .i64 [xa, xm, xc, room] (by show (4 : Nat) ≤ _; decide)
  have HRD := Lib.hid hrd
  have e1 : (w6.alloc (.cells #[.int .i64 xa, .int .i64 xm, .int .i64 xc, .int .i64 room] 3)).cell? ⟨g + 1, 1, none⟩ = some (.int .i64 (max 0 v20)) := (World.cell?_alloc_lt _ _ _ l1).trans D1.out
  have e3 : (w6.alloc (.cells #[.int .i64 xa, .int .i64 xm, .int .i64 xc, .int .i64 room] 3)).cell? ⟨g + 1, 3, none⟩ = some (.int .i64 (max 0 v22)) := (World.cell?_alloc_lt _ _ _ l1).trans D3.out
  have e5 : (w6.alloc (.cells #[.int .i64 xa, .int .i64 xm, .int .i64 xc, .int .i64 room] 3)).cell? ⟨g + 1 + 1, 1, none⟩ = some (.int .i64 (max 0 v16)) := (World.cell?_alloc_lt _ _ _ l2).trans P1.out
  have e7 : (w6.alloc (.cells #[.int .i64 xa, .int .i64 xm, .int .i64 xc, .int .i64 room] 3)).cell? ⟨g + 1 + 1, 3, none⟩ = some (.int .i64 (max 0 v18)) := (World.cell?_alloc_lt _ _ _ l2).trans P3.out
  have B7 := Lib.hid (below_alloc B6.out (.cells #[.int .i64 xa, .int .i64 xm, .int .i64 xc, .int .i64 room] 3))
  obtain ⟨b, hb⟩ : ∃ b, [xa, xm, xc, room].all inB = b := ⟨_, rfl⟩
  have hfin := HSUM.out b hb
  have HB := Lib.hid hb
  clear hrd hb D1 D3 P1 P3
  cases b with
  | true =>
    have q1 : (xa + xm + xc + max 0 v22 + max 0 v20 + max 0 v18 + max 0 v16 == room) = true := by simpa using hfin rfl
    have QQ := Lib.hid q1
    clear hfin q1
    go_wp2_with (first
      | (go_at_call 33; refine (inside_c _ _ _ _ true _ HRD.out HB.out).mono ?_; rintro e w' ⟨rfl, rfl⟩))
    go_ret
    exact ⟨congrArg (fun b => Ending.returned (Value.bool b)) QQ.out, B7.out⟩
  | false =>
    clear hfin
    go_wp2_with (first
      | (go_at_call 33; refine (inside_c _ _ _ _ false _ HRD.out HB.out).mono ?_; rintro e w' ⟨rfl, rfl⟩))
    go_ret
    exact ⟨rfl, B7.out⟩

theorem own : ownKnob Try.prog.godebug = none := by kernel_rfl
theorem laidOut : laidOutB Try.prog = true := by kernel_rfl
set_option maxRecDepth 100000 in
theorem lifted (os : Os) (started : os.Started) (H : Type) (enc : TypeId × Value → H) :
    ReturnsInHanded {} Try.checked os 9 .any (Rows.widthsAddSpec.pre6 enc Try.prog Try.f9 Rows.widthsAddRow.domain false) (Rows.widthsAddSpec.post enc Try.prog Try.f9 false true false false) := by
  refine returnsInHanded_of_change_sized (C := Try.checked) own started (by kernel_rfl) Try.func9
    (ChangeSpec.witness6 (enc := enc) (C := Try.checked) false ⟨#[], #[.agg (Go.Proofs.Ytomejeclfbpilaa.Sty.sv (List.replicate 118 0)).toArray, .int .i64 0], []⟩ 8 (by kernel_rfl) (by kernel_rfl) (by kernel_rfl) (by kernel_rfl)) ?_
  intro W base args ds gs before hval0 hW hcnd hsz0 _
  have hsz : (DataW.weightsEach Try.prog (Try.f9.params.toList ++ Rows.widthsAddSpec.plain.varTypes Try.prog) (ds ++ gs)).all (· ≤ reachBytes) = true := hsz0
  have hval : ∀ (j : Nat) t v, Try.f9.params[j]? = some t → args[j]? = some v → Value.okWide Try.prog W .any base t v := hval0
  have hW' := hW
  obtain ⟨p, q, hA0, hV, rfl, hfz, hnd⟩ := hW
  have hA : DataW.TrodAll enc Try.prog W 0 (fun _ => true) true Try.f9.params.toList args.toList ds p := hA0
  rw [Try.params9] at hA hval hsz
  obtain ⟨v0, vs0, d0, ds0, p0, q0, hargs, rfl, rfl, h0, r0⟩ := trodAll_cons hA
  obtain ⟨v1, vs1, d1, ds1, p1, q1, rfl, rfl, rfl, h1, r1⟩ := trodAll_cons r0
  obtain ⟨rfl, rfl, rfl⟩ := trodAll_nil r1
  obtain rfl : args = #[v0, v1] := by cases args; simp_all
  obtain ⟨rfl, rfl⟩ := trodVars_none hV
  obtain ⟨c0, rfl⟩ := Go.Proofs.Ytomejeclfbpilaa.Opn.okWide_row Try.underlying54 (hval 0 54 v0 rfl rfl)
  have k0 := h0
  have lt0 : ∀ x ∈ p0, x.block < W.heap.size := by obtain ⟨m, hm⟩ := k0; exact DataW.trod_lt m _ _ _ hm
  obtain ⟨a0, w0, e0⟩ : ∃ zs : List Int, zs.length = 118 ∧ c0 = (Go.Proofs.Ytomejeclfbpilaa.Sty.sv zs).toArray := by
    obtain ⟨fuel, hf⟩ := h0
    obtain ⟨zs, h1, h2⟩ := Go.Proofs.Ytomejeclfbpilaa.Opn.style_of hf
    exact ⟨zs, h1, by rw [← h2]; simp [Value.cells]⟩
  subst e0
  obtain ⟨a1, rfl, rfl, rfl, w1⟩ := open_int Try.underlying3 (hval 1 3 v1 rfl rfl) h1
  clear hA0 hval0 hsz0 hsz
  refine (walk a0 a1 W w0 w1).mono fun e W' ⟨he, bel⟩ => ?_
  subst he
  exact ⟨_, rfl, _, _, _, [], _, [], hW', trodAll_mk1 (shut_bool Try.underlying4 _), (trodAll_cons_mk (Below.trod laidOut (by kernel_rfl) (of_decide_eq_true (by kernel_rfl)) k0 bel lt0) (trodAll_cons_mk (shut_int Try.underlying3 w1) trodAll_mk0)), rfl, bel.frame _, fun h => by cases h⟩
theorem over : Rows.widthsAddRow.holds Try.pinned (OpenSpec.ofChange Rows.widthsAddSpec) :=
  OpenClaim.holds_of_wide 9 Try.f9 rfl rfl rfl rfl rfl rfl rfl ⟨rfl, rfl, rfl, rfl, rfl⟩ rfl rfl rfl rfl rfl (by kernel_rfl) Try.func9 (by kernel_rfl)
    (of_decide_eq_true (by kernel_rfl)) (by unfold Func.isWrapper; first | (rw [if_pos (by decide +kernel)]; kernel_rfl) | (rw [if_neg (by decide +kernel)]; exact ⟨rfl, rfl⟩))
    (fun os started H enc _ => lifted os started H enc)
theorem proved : Rows.WidthsAddSaid := over
#print axioms proved
end Go.Proofs.Ytomejeclfbpilaa.WidthsAdd
