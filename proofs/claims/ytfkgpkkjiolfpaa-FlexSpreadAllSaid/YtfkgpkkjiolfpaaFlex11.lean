/- Flexible rows: items made mild; the closed fact's parts. For every input. -/
import Derived.Test.YtfkgpkkjiolfpaaFlex10
import Derived.Test.YtfkgpkkjiolfpaaWRepsOne
namespace Go.Proofs.Ytfkgpkkjiolfpaa.Flx
open Go.RowKit Go.Lib Go.Proofs.Ytfkgpkkjiolfpaa.Rgn Go.Proofs.Ytfkgpkkjiolfpaa.Pl Go.Proofs.Ytfkgpkkjiolfpaa.Fx Go.Proofs.Ytfkgpkkjiolfpaa.Sh Go.Proofs.Ytfkgpkkjiolfpaa.Sm Go.Proofs.YtfkgpkkjiolfpaaW.PrintWords Go.Proofs.YtfkgpkkjiolfpaaW.PrintLast Go.Proofs.YtfkgpkkjiolfpaaW.PrintMore
set_option linter.unusedVariables false
set_option linter.unusedSimpArgs false
attribute [local go_sem] mx2 mn2 mx_two mn_two mx_three mn_three

theorem flexed_fact : mainsP 100 10 [⟨20, 0, -1, 1000, 0, 0⟩, ⟨20, 0, -1, 2000, 0, 0⟩] = [36, 54] := by decide +kernel
theorem infoL : (Try.prog.info? 37).map (fun i => (i.zero, i.size, i.bytes)) = some (some (.agg #[.int .i64 0, .int .i64 0, .int .i64 0, .int .i64 0, .int .i64 0, .int .i64 0]), k37.sz, 48) := by kernel_rfl
theorem u16_bd (x : Int) : 0 ≤ IntKind.u16.wrap x ∧ IntKind.u16.wrap x ≤ 65535 := by
  simp only [IntKind.wrap, IntKind.signed, IntKind.bits]
  simp
  omega
theorem i16_bd (x : Int) : -32768 ≤ IntKind.i16.wrap x ∧ IntKind.i16.wrap x ≤ 32767 := by
  simp only [IntKind.wrap, IntKind.signed, IntKind.bits]
  simp
  omega
theorem i8_bd (x : Int) : -128 ≤ IntKind.i8.wrap x ∧ IntKind.i8.wrap x ≤ 127 := by
  simp only [IntKind.wrap, IntKind.signed, IntKind.bits]
  simp
  omega
theorem w64_id {x : Int} (h1 : -9223372036854775808 ≤ x) (h2 : x ≤ 9223372036854775807) : wrap64 x = x := by
  unfold wrap64; omega
theorem w64_u16 (x : Int) : wrap64 (IntKind.u16.wrap x) = IntKind.u16.wrap x := by have := u16_bd x; exact w64_id (by omega) (by omega)
theorem w64_i16 (x : Int) : wrap64 (IntKind.i16.wrap x) = IntKind.i16.wrap x := by have := i16_bd x; exact w64_id (by omega) (by omega)
theorem w64_i8 (x : Int) : wrap64 (IntKind.i8.wrap x) = IntKind.i8.wrap x := by have := i8_bd x; exact w64_id (by omega) (by omega)
theorem w64_q8 (x : Int) : wrap64 ((IntKind.u16.wrap x).tdiv 8) = IntKind.u16.wrap x / 8 := by
  have := u16_bd x
  rw [Int.tdiv_eq_ediv_of_nonneg (by omega)]
  exact w64_id (by omega) (by omega)
attribute [local go_sem] w64_u16 w64_i16 w64_i8 w64_q8
/-- An item of bounded numbers. -/
def mildI (x : LF) : LF := ⟨IntKind.u16.wrap x.f0, IntKind.u16.wrap x.f1 / 8, IntKind.i16.wrap x.f2, IntKind.u16.wrap x.f3, IntKind.u16.wrap x.f4, IntKind.i8.wrap x.f5⟩
def MildPost (l : List LF) (w : World) (e : Ending) (w' : World) : Prop := ∃ v, e = .returned v ∧ Kd.R k37 37 w' w.heap.size (fun _ => True) v ((l.take 12).map mildI) ∧ Below w.heap.size w w'

set_option maxRecDepth 100000 in
set_option maxHeartbeats 2000000 in
theorem mild_c (A : Option Addr) (n c : Nat) (l : List LF) (w : World) (hC : Kd.C k37 w A n l) (hc : n ≤ c) :
    Calls Try.prog 16 #[.slice A n c] w (MildPost l w) := by
  have hln : l.length = n := hC.1
  have hlm : n ≤ 9223372036854775807 := hC.2.1
  obtain ⟨m, em, q0, r0⟩ : ∃ m : Nat, min (n : Int) 12 = (m : Int) ∧ m ≤ n ∧ (m : Int) ≤ 12 := ⟨min n 12, by omega, by omega, by omega⟩
  have hmt : l.take m = l.take 12 := by
    by_cases h : n ≤ 12
    · rw [List.take_of_length_le (by omega), List.take_of_length_le (by omega)]
    · rw [show m = 12 by omega]
  have MT := Lib.hid hmt
  have LN := Lib.hid hln
  have HC := Lib.hid hC
  clear hC hln hmt
  go_enter Try.func16, Try.ntmps16
  go_wp2_with fail
  go_loopw [3, 12] (fun v i wr => ∃ k : Nat, k ≤ m ∧ i = .int .i64 k ∧ Hid (Kd.R k37 37 wr w.heap.size (fun _ => True) v ((l.take k).map mildI)) ∧ Hid (Below w.heap.size w wr)) (fun _ i _ => m - (RowKit.intOf i).toNat)
  case atStart => exact ⟨0, Nat.zero_le _, rfl, Kd.R_nil _ _ _ _ _, Below.refl _ _⟩
  case round =>
    obtain ⟨k, hk, rfl, hR, hB⟩ := hrel
    by_cases hlt : k < m
    · have hkl : k < l.length := by rw [LN.out]; omega
      obtain ⟨ad, ea, x0, x1, x2, x3, x4, x5⟩ := at_T37 (Kd.C_below HC.out hB.out) (k : Int) (by omega) (by omega)
      subst ea
      rw [Int.toNat_natCast] at x0 x1 x2 x3 x4 x5
      have hsn : (l.take (k + 1)).map mildI = (l.take k).map mildI ++ [mildI (rd_T37 l (k : Int))] := by
        have e : rd_T37 l (k : Int) = l[k] := by simp [rd_T37, List.getD_eq_getElem?_getD, hkl]
        rw [e, List.take_succ_eq_append_getElem hkl, List.map_append]; rfl
      have hlk : ((l.take k).map mildI).length ≤ k := by rw [List.length_map]; exact List.length_take_le _ _
      generalize rd_T37 l (k : Int) = x at *
      generalize (l.take k).map mildI = us at *
      obtain ⟨a0, a1, a2, a3, a4, a5⟩ := x
      simp only at x0 x1 x2 x3 x4 x5 hsn
      have hme : mildI ⟨a0, a1, a2, a3, a4, a5⟩ = ⟨IntKind.u16.wrap a0, IntKind.u16.wrap a1 / 8, IntKind.i16.wrap a2, IntKind.u16.wrap a3, IntKind.u16.wrap a4, IntKind.i8.wrap a5⟩ := rfl
      rw [hme] at hsn
      have SN := Lib.hid hsn
      have hal := below_alloc (Below.refl wr.heap.size wr) (.cells #[.int .i64 a0, .int .i64 a1, .int .i64 a2, .int .i64 a3, .int .i64 a4, .int .i64 a5] 37)
      have RA := Lib.hid (Kd.R_below hR.out hal)
      have BA := Lib.hid (below_then hB.out hB.out.size hal)
      clear hsn hme hkl hal hR hB
      go_wp2_with (at_builtin; go_loud (refine Kd.R_append k37 (w0 := w) w.heap.size rfl (.tmp 16) (.tmp 43) 31 37 _ 48 rfl Try.underlying31 infoL rfl (by decide) (by decide) _ us ⟨IntKind.u16.wrap a0, IntKind.u16.wrap a1 / 8, IntKind.i16.wrap a2, IntKind.u16.wrap a3, IntKind.u16.wrap a4, IntKind.i8.wrap a5⟩ [.int .i64 (IntKind.u16.wrap a0), .int .i64 (IntKind.u16.wrap a1 / 8), .int .i64 (IntKind.i16.wrap a2), .int .i64 (IntKind.u16.wrap a3), .int .i64 (IntKind.u16.wrap a4), .int .i64 (IntKind.i8.wrap a5)] (fun _ => True) (fun _ => False) rfl (by show Value.slice (some ⟨wr.heap.size + 1, 0, none⟩) 1 1 = _; rw [World.size_alloc]) (k37_mkM _ _ _ ⟨IntKind.u16.wrap a0, IntKind.u16.wrap a1 / 8, IntKind.i16.wrap a2, IntKind.u16.wrap a3, IntKind.u16.wrap a4, IntKind.i8.wrap a5⟩) (fun _ h => h.elim) (fun _ _ => trivial) RA.out BA.out BA.out.size (by omega) ?_); intro v1 w1 hO1 hB1 hG1 hat1; have O1 := Lib.hid hO1; have B1 := Lib.hid hB1; clear hO1 hB1 hG1 hat1)
      exact ⟨⟨k + 1, by omega, by go_num, by rw [SN.out]; exact O1.out, B1.out⟩, by simp [RowKit.intOf]; omega⟩
    · obtain rfl : k = m := by omega
      rw [MT.out] at hR
      go_wp2_with fail
      go_ret
      exact ⟨_, rfl, hR.out, hB.out⟩

set_option maxRecDepth 100000 in
set_option maxHeartbeats 2000000 in
theorem eq_c (b1 b2 g1 g2 n c1 c2 : Nat) (xs : List Int) (w : World) (h1 : w.ownsRow b1 3 1 (.slice (some ⟨g1, 0, none⟩) n c1) n (nums .i64 xs)) (h2 : w.ownsRow b2 3 1 (.slice (some ⟨g2, 0, none⟩) n c2) n (nums .i64 xs)) (hn : n ≤ 1000000) :
    Calls Try.prog 33 #[.slice (some ⟨g1, 0, none⟩) n c1, .slice (some ⟨g2, 0, none⟩) n c2] w fun e w' => e = .returned (.bool true) ∧ w = w' := by
  have H1 := Lib.hid h1
  have H2 := Lib.hid h2
  clear h1 h2
  go_enter Try.func33, Try.ntmps33
  go_wp2_with fail
  go_loopw [14] (fun i wr => ∃ k : Nat, k ≤ n ∧ i = .int .i64 k ∧ w = wr) (fun i _ => n - (RowKit.intOf i).toNat)
  case atStart => exact ⟨0, Nat.zero_le _, rfl, by first | rfl | trivial⟩
  case round =>
    obtain ⟨k, hk, rfl, rfl⟩ := hrel
    by_cases hlt : k < n
    · obtain ⟨x1, _⟩ := own_at H1.out (k : Int) (by omega) (by omega)
      obtain ⟨x2, _⟩ := own_at H2.out (k : Int) (by omega) (by omega)
      rw [Int.toNat_natCast] at x1 x2
      generalize rd xs (k : Int) = x at *
      go_wp2_with fail
      refine ⟨⟨k + 1, by omega, ?_⟩, by simp [RowKit.intOf]; omega⟩
      first
        | rfl
        | (refine ⟨by go_num, ?_⟩; first | rfl | trivial)
        | (rw [show ((k : Int) + 1) = ((k + 1 : Nat) : Int) from by omega])
    · obtain rfl : k = n := by omega
      go_wp2_with fail
      go_ret
      first
        | exact ⟨rfl, rfl⟩
        | exact ⟨rfl, trivial⟩
def lfV (x : LF) : List Value := [.int .i64 x.f0, .int .i64 x.f1, .int .i64 x.f2, .int .i64 x.f3, .int .i64 x.f4, .int .i64 x.f5]
theorem reps_lf (w : World) (base : Nat) (ok : Nat → Prop) : ∀ ps : List LF, Reps (k37.M w base ok) k37.sz ps (ps.flatMap lfV)
  | [] => Reps.none _ _
  | p :: ps => by
    have ih := reps_lf w base ok ps
    rw [List.flatMap_cons]
    exact Reps.front (k37_mkM w base ok p) rfl ih rfl
theorem lit_lf (W : World) (base : Nat) (xs : List LF) (hb : base ≤ W.heap.size) (hn : xs.length ≤ 1000000) :
    Kd.R k37 37 (W.alloc (.cells (xs.flatMap lfV).toArray 37)) base (fun _ => True) (.slice (some ⟨W.heap.size, 0, none⟩) xs.length xs.length) xs :=
  ⟨fun _ _ => trivial, OwnRow.lit W base (reps_lf _ base _ xs) hb (by omega)⟩

set_option maxRecDepth 100000 in
set_option maxHeartbeats 2000000 in
theorem flexed_c (w : World) : Calls Try.prog 18 #[] w fun e w' => e = .returned (.bool true) ∧ Below w.heap.size w w' := by
  have hR := lit_lf w w.heap.size [⟨20, 0, -1, 1000, 0, 0⟩, ⟨20, 0, -1, 2000, 0, 0⟩] (Nat.le_refl _) (by decide)
  obtain ⟨A1, c1, e1, _, hC⟩ := Kd.R_reads hR
  injection e1 with e1 e2 e3
  subst e1 e3
  have M := Lib.hid (Mains_c 100 10 _ 2 2 _ _ hC (by decide))
  have HB := Lib.hid (below_alloc (Below.refl w.heap.size w) (.cells (([⟨20, 0, -1, 1000, 0, 0⟩, ⟨20, 0, -1, 2000, 0, 0⟩] : List LF).flatMap lfV).toArray 37))
  clear hR hC e2
  go_enter Try.func18, Try.ntmps18
  go_wp2_with fail
  refine M.out.mono ?_
  rintro e w1 ⟨v, rfl, hO, hB1⟩
  rw [flexed_fact] at hO
  have HB1 := Lib.hid (below_then HB.out HB.out.size hB1)
  obtain ⟨g, cap, rfl⟩ : ∃ g cap, v = .slice (some ⟨g, 0, none⟩) 2 cap := by
    rcases hO.2 with ⟨_, h0⟩ | ⟨g, cap, cur, hv, _⟩
    · exact absurd h0 (by decide)
    · exact ⟨g, cap, hv⟩
  have hal := below_alloc (Below.refl w1.heap.size w1) (.cells #[.int .i64 36, .int .i64 54] 3)
  have EQ := Lib.hid (eq_c _ w1.heap.size g w1.heap.size 2 cap 2 [36, 54] (w1.alloc (.cells #[.int .i64 36, .int .i64 54] 3)) (pw_own_below hO hal) ⟨rfl, .inr ⟨w1.heap.size, 2, #[.int .i64 36, .int .i64 54], rfl, Nat.le_refl _, blk_new w1 _, by decide, by decide, rfl, rfl⟩⟩ (by decide))
  have HB2 := Lib.hid (below_then HB1.out HB1.out.size hal)
  clear hO hB1 hal M HB
  go_wp2_with fail
  refine EQ.out.mono ?_
  rintro e w2 ⟨rfl, rfl⟩
  go_wp2_with fail
  go_ret
  exact ⟨rfl, HB2.out⟩
end Go.Proofs.Ytfkgpkkjiolfpaa.Flx
