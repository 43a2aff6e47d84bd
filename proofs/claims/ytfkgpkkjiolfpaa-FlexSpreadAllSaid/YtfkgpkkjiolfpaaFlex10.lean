/- Flexible rows: how long the items of a row are. For every input. -/
import Derived.Test.YtfkgpkkjiolfpaaFlex9
namespace Go.Proofs.Ytfkgpkkjiolfpaa.Flx
open Go.RowKit Go.Lib Go.Proofs.Ytfkgpkkjiolfpaa.Rgn Go.Proofs.Ytfkgpkkjiolfpaa.Pl Go.Proofs.Ytfkgpkkjiolfpaa.Fx Go.Proofs.Ytfkgpkkjiolfpaa.Sh Go.Proofs.Ytfkgpkkjiolfpaa.Sm Go.Proofs.YtfkgpkkjiolfpaaW.PrintWords Go.Proofs.YtfkgpkkjiolfpaaW.PrintLast Go.Proofs.YtfkgpkkjiolfpaaW.PrintMore
set_option linter.unusedVariables false
set_option linter.unusedSimpArgs false
attribute [local go_sem] mx2 mn2 mx_two mn_two mx_three mn_three

theorem room_prod (gap : Int) (n : Nat) (hn : n ≤ 1000) : 0 ≤ max 0 (cut gap) * max 0 ((n : Int) - 1) ∧ max 0 (cut gap) * max 0 ((n : Int) - 1) ≤ 16777216000 := by
  have h1 := cut_bd gap
  have h2 : 0 ≤ max 0 (cut gap) := by omega
  have h3 : max 0 (cut gap) ≤ 16777216 := by omega
  have h4 : 0 ≤ max 0 ((n : Int) - 1) := by omega
  have h5 : max 0 ((n : Int) - 1) ≤ 1000 := by omega
  refine ⟨Int.mul_nonneg h2 h4, ?_⟩
  have := Int.mul_le_mul h3 h5 h4 (by omega)
  omega
section
variable {ops : Array Oper} {S : World → Prop} {o : Oper} {a : Act}
theorem y_nil (hw : Region.wanted o (yielded ops a.tmps) = true) {x : Operand} {ad : Addr} (ho : o.op = .nilCheck x) (hx : a.eval x = .pointer (some ad)) : YieldsIf Try.prog ops S o (.pointer (some ad)) a :=
  .inl ⟨hw, fun w h => by
    unfold execOp
    simp only [ho, hx]
    go_simp⟩
theorem y_loadIs (hw : Region.wanted o (yielded ops a.tmps) = true) {x : Operand} {ad : Addr} {A : Option Addr} {n c : Nat} (ho : o.op = .load 89 x) (hx : a.eval x = .pointer (some ad)) (hS : ∀ w, S w → w.cell? ad = some (.slice A n c)) : YieldsIf Try.prog ops S o (.slice A n c) a :=
  .inl ⟨hw, fun w h => by
    have hc := hS w h
    unfold execOp
    simp only [ho, hx]
    go_simp⟩
theorem y_idxIs (hw : Region.wanted o (yielded ops a.tmps) = true) {x y : Operand} {gi n c k : Nat} (ho : o.op = .indexAddr 89 x y) (hx : a.eval x = .slice (some ⟨gi, 0, none⟩) n c) (hy : a.eval y = .int .i64 (k : Int)) (hk : k < n) : YieldsIf Try.prog ops S o (.pointer (some ⟨gi, k * 9, none⟩)) a :=
  .inl ⟨hw, fun w h => by
    have hk0 : (k : Int) < (n : Int) := by omega
    unfold execOp
    simp only [ho, hx, hy]
    go_simp⟩
theorem y_fieldk (hw : Region.wanted o (yielded ops a.tmps) = true) {x : Operand} {t : TypeId} {i b p off : Nat} (ho : o.op = .fieldAddr t x i) (hx : a.eval x = .pointer (some ⟨b, p, none⟩))
    (hr : ∀ w : World, (Instr.fieldAt t (.pointer (some ⟨b, p, none⟩)) i).run Try.prog w = .ok (.pointer (some ⟨b, off, none⟩)) w) : YieldsIf Try.prog ops S o (.pointer (some ⟨b, off, none⟩)) a :=
  .inl ⟨hw, fun w h => by
    unfold execOp
    simp only [ho, hx, Sem.run_bind, hr w, Result.andThen_ok, Sem.run_pure]⟩
end
theorem fld_R1 (b : Nat) (w : World) : (Instr.fieldAt 92 (.pointer (some ⟨b, 0, none⟩)) 1).run Try.prog w = .ok (.pointer (some ⟨b, 1, none⟩)) w := by go_simp
theorem fld_I1 (b : Nat) (w : World) : (Instr.fieldAt 95 (.pointer (some ⟨b, 0, none⟩)) 1).run Try.prog w = .ok (.pointer (some ⟨b, 6, none⟩)) w := by go_simp
theorem fld_I2 (b k : Nat) (w : World) : (Instr.fieldAt 95 (.pointer (some ⟨b, k, none⟩)) 2).run Try.prog w = .ok (.pointer (some ⟨b, k + 7, none⟩)) w := by go_simp
theorem fld_I3 (b k : Nat) (w : World) : (Instr.fieldAt 95 (.pointer (some ⟨b, k, none⟩)) 3).run Try.prog w = .ok (.pointer (some ⟨b, k + 8, none⟩)) w := by go_simp
set_option maxRecDepth 100000 in
set_option maxHeartbeats 4000000 in
theorem Mains_c (room gap : Int) (A : Option Addr) (n c : Nat) (l : List LF) (w : World) (hC : Kd.C k37 w A n l) (hn : n ≤ 1000) :
    Calls Try.prog 17 #[.int .i64 room, .int .i64 gap, .slice A n c] w (MainsPost room gap l w) := by
  have hln : l.length = n := hC.1
  have LN := Lib.hid hln
  have HC := Lib.hid hC
  have ITS := Lib.hid (items_c A n c l w hC hn)
  have hbr := cut_bd room
  have hpr := room_prod gap n hn
  have hrp : roomP room gap n = cut room - max 0 (cut gap) * max 0 ((n : Int) - 1) := rfl
  have RP := Lib.hid hrp
  clear hC hln hrp
  have q1 : -9223372036854775808 ≤ max 0 (cut gap) * max 0 ((n : Int) - 1) ∧ max 0 (cut gap) * max 0 ((n : Int) - 1) ≤ 9223372036854775807 := by omega
  have q2 : -9223372036854775808 ≤ cut room - max 0 (cut gap) * max 0 ((n : Int) - 1) ∧ cut room - max 0 (cut gap) * max 0 ((n : Int) - 1) ≤ 9223372036854775807 := by omega
  go_enter Try.func17, Try.ntmps17
  go_wp2_with (go_at_call 22; refine (Cut_c _ _).mono ?_; rintro e w' ⟨rfl, rfl⟩)
  refine ITS.out.mono ?_
  rintro e w1 ⟨vi, rfl, hR1, hB1⟩
  rw [← RP.out]
  have hrb : -1000000000000 ≤ roomP room gap n ∧ roomP room gap n ≤ 1000000000000 := by rw [RP.out]; omega
  obtain ⟨rm, hrm⟩ : ∃ rm, roomP room gap n = rm := ⟨_, rfl⟩
  have RM := Lib.hid hrm
  rw [hrm] at hrb ⊢
  obtain ⟨Ai, ci, rfl, hci, _⟩ := Kd.R_reads hR1
  have hob : ∀ k, (Value.slice Ai (l.map mkIt).length ci).ownBlock = some k → k < w1.heap.size := fun k hk => own_lt (Kd.R_own hR1).choose_spec k hk
  have hal := below_alloc (Below.refl w1.heap.size w1) (.cells #[.int .i64 rm, .slice Ai (l.map mkIt).length ci, .bool false] 92)
  have hIR : IsR (w1.alloc (.cells #[.int .i64 rm, .slice Ai (l.map mkIt).length ci, .bool false] 92)) w.heap.size w1.heap.size rm false (l.map mkIt) :=
    IsR.of_items (blk_new w1 _) (Kd.R_below hR1 hal) (fun k hk => by have := hob k hk; omega)
  have hB2 := below_alloc hB1 (.cells #[.int .i64 rm, .slice Ai (l.map mkIt).length ci, .bool false] 92)
  have hml : (l.map mkIt).length = n := by rw [List.length_map]; exact LN.out
  have hT0 : ∀ x, x ∈ l.map mkIt → TameI x := fun x hx => by
    obtain ⟨y, _, rfl⟩ := List.mem_map.1 hx
    exact tame_mk y
  have FR := Lib.hid (free_c 46 (.inl rfl) (fun x => x.f1) long_c w.heap.size w1.heap.size rm false (l.map mkIt) _ hIR (fun x hx => tame_long (hT0 x hx)) (by omega) hrb.1 hrb.2)
  have IR := Lib.hid hIR
  have HB2 := Lib.hid hB2
  have GL := Lib.hid (show w.heap.size ≤ w1.heap.size from hB1.size)
  have T0 := Lib.hid hT0
  have ML := Lib.hid hml
  have MLE : mainsP room gap l = (endP rm (l.map mkIt)).map fun x => max 0 x.f3 := by unfold mainsP; rw [LN.out, hrm]
  have MP := Lib.hid MLE
  rw [hml] at IR HB2 FR
  rw [hml]
  generalize l.map mkIt = is at *
  clear hR1 hB1 RP q1 q2 hpr hbr hrm ITS hci hob hal hIR hB2 hml hT0 MLE
  go_wp2_with fail
  refine FR.out.mono ?_
  rintro e w2 ⟨rfl, h2⟩
  have IR2 := Lib.hid (IR.out.below h2)
  have HB3 := Lib.hid (HB2.out.trans (h2.mono (by have := HB2.out.size; omega)))
  obtain ⟨g, hg⟩ : ∃ g, w1.heap.size = g := ⟨_, rfl⟩
  rw [hg] at IR2 GL ⊢
  obtain ⟨A2, c2, r0, r1, r2, r3, r4, r5⟩ := IR2.out.reads
  have rfz : w2.frozen? ⟨g, 2, none⟩ = false := by
    obtain ⟨v, h1, _⟩ := IR2.out
    exact blk_frozen h1 _
  have FRZ := Lib.hid hrb
  obtain ⟨vi, hvg, hvR⟩ := IR2.out
  have hvi : vi = .slice A2 n c2 := by
    have h1 : w2.cell? ⟨g, 1, none⟩ = some vi := blk_cell hvg 1
    rw [r1, ML.out] at h1
    injection h1 with h1
    exact h1.symm
  subst hvi
  rw [ML.out] at r1 r5
  obtain ⟨fr, hfr⟩ : ∃ fr, freeP rm (fun x => x.f1) is = fr := ⟨_, rfl⟩
  obtain ⟨gr, hgr⟩ : ∃ gr, decide (0 < fr) = gr := ⟨_, rfl⟩
  have hge : growsP rm is = gr := by unfold growsP; rw [hfr]; exact hgr
  have GE := Lib.hid hge
  have VG := Lib.hid (blk_set hvg 2 (.bool gr))
  have VR := Lib.hid (Kd.R_far (p := ⟨g, 2, none⟩) hvR (fun k hk => hk) (.bool gr))
  have BW := Lib.hid (HB3.out.setCell (p := ⟨g, 2, none⟩) GL.out (.bool gr))
  rw [hfr]
  clear h2 r0 r3 hg IR HB2 hvg hvR hfr hge
  go_wp2_with fail
  clear hgr r1 r2 r4 rfz
  generalize w2.setCell ⟨g, 2, none⟩ (.bool gr) = w3 at *
  go_loopw [40] (fun i wr => ∃ k : Nat, k ≤ n ∧ i = .int .i64 k ∧ Hid (wr.heap[g]? = some (.cells #[.int .i64 rm, .slice A2 n c2, .bool gr] 92 (0, 0))) ∧ Hid (Kd.R k95 95 wr w.heap.size (fun k => k ≠ g) (.slice A2 n c2) (isome gr is k)) ∧ Hid (Below w.heap.size w wr)) (fun i _ => n - (RowKit.intOf i).toNat)
  case atStart => exact ⟨0, Nat.zero_le _, rfl, VG.out, by rw [isome_zero]; exact VR.out, BW.out⟩
  case round =>
    obtain ⟨k, hk, rfl, hVG, hVR, hBz⟩ := hrel
    by_cases hlt : k < n
    · have hkl : k < is.length := by rw [ML.out]; exact hlt
      obtain ⟨hnn, hnc, hCC⟩ := Kd.R_reads' hVR.out
      have hform : ∃ gi, A2 = some ⟨gi, 0, none⟩ ∧ w.heap.size ≤ gi ∧ gi ≠ g ∧ gi < wr.heap.size := by
        obtain ⟨hok, inner, hown, _⟩ := hVR.out
        rcases hown.2 with ⟨hv, h0⟩ | ⟨gi, cap, cur, hv, hb, hh, _⟩
        · rw [isome_len, ML.out] at h0
          omega
        · injection hv with hv
          subst hv
          exact ⟨gi, rfl, hb, hok gi rfl, blk_lt hh⟩
      obtain ⟨gi, rfl, hgi0, hgi1, hgi2⟩ := hform
      obtain ⟨ad2, cc, e2, hcl, hKc, hcc⟩ := ReadsRow.get_ hCC z95 (k : Int) (by omega) (by rw [isome_len, ML.out]; omega)
      injection e2 with e2
      subst e2
      rw [Int.toNat_natCast, isome_get gr is k hkl] at hKc
      rw [Int.toNat_natCast] at hcc
      have htx := T0.out _ (getD_mem is k hkl)
      have hsm := isome_same gr is k hkl
      have hget := isome_get gr is k hkl
      have hst := isome_set gr is k hkl
      have FAC := Lib.hid (fun ww hB => factor_c (is.getD k z95) w.heap.size g rm gr _ ww (IsR.below ⟨_, hVG.out, hVR.out⟩ hB))
      generalize is.getD k z95 = x at *
      have hcce := k95_open hKc
      obtain ⟨⟨a0, a1, a2, a3, a4, a5⟩, a6, a7, a8⟩ := x
      simp only at hcce
      subst hcce
      have x0 : wr.cell? ⟨gi, k * 9, none⟩ = some (.int .i64 a0) := by have := hcc 0 _ rfl; rw [Addr.add_mid, Nat.zero_add] at this; exact this
      have x1 : wr.cell? ⟨gi, k * 9 + 1, none⟩ = some (.int .i64 a1) := by have := hcc 1 _ rfl; rw [Addr.add_mid, Nat.zero_add] at this; exact this
      have x2 : wr.cell? ⟨gi, k * 9 + 2, none⟩ = some (.int .i64 a2) := by have := hcc 2 _ rfl; rw [Addr.add_mid, Nat.zero_add] at this; exact this
      have x3 : wr.cell? ⟨gi, k * 9 + 3, none⟩ = some (.int .i64 a3) := by have := hcc 3 _ rfl; rw [Addr.add_mid, Nat.zero_add] at this; exact this
      have x4 : wr.cell? ⟨gi, k * 9 + 4, none⟩ = some (.int .i64 a4) := by have := hcc 4 _ rfl; rw [Addr.add_mid, Nat.zero_add] at this; exact this
      have x5 : wr.cell? ⟨gi, k * 9 + 5, none⟩ = some (.int .i64 a5) := by have := hcc 5 _ rfl; rw [Addr.add_mid, Nat.zero_add] at this; exact this
      have x6 : wr.cell? ⟨gi, k * 9 + 6, none⟩ = some (.int .i64 a6) := by have := hcc 6 _ rfl; rw [Addr.add_mid, Nat.zero_add] at this; exact this
      have x7 : wr.cell? ⟨gi, k * 9 + 7, none⟩ = some (.bool a7) := by have := hcc 7 _ rfl; rw [Addr.add_mid, Nat.zero_add] at this; exact this
      have x8 : wr.cell? ⟨gi, k * 9 + 8, none⟩ = some (.int .i64 a8) := by have := hcc 8 _ rfl; rw [Addr.add_mid, Nat.zero_add] at this; exact this
      have HSM := Lib.hid hsm
      have HGET := Lib.hid hget
      have HST := Lib.hid hst
      have HTX := Lib.hid htx
      have GI := Lib.hid (And.intro hgi0 (And.intro hgi1 hgi2))
      clear hget hsm hst htx hcc hKc hcl hCC hnn hnc hgi0 hgi1 hgi2 hkl
      have e0 : initI gr ⟨⟨a0, a1, a2, a3, a4, a5⟩, a6, a7, a8⟩ = if facP gr ⟨⟨a0, a1, a2, a3, a4, a5⟩, a6, a7, a8⟩ = 0 ∨ (gr = true ∧ a6 < a0) ∨ (gr = false ∧ a0 < a6) then ⟨⟨a0, a1, a2, a3, a4, a5⟩, a6, true, a6⟩ else ⟨⟨a0, a1, a2, a3, a4, a5⟩, a6, a7, a8⟩ := rfl
      obtain ⟨fc, hfc⟩ : ∃ fc, facP gr ⟨⟨a0, a1, a2, a3, a4, a5⟩, a6, a7, a8⟩ = fc := ⟨_, rfl⟩
      rw [hfc] at FAC e0
      have E0 := Lib.hid e0
      have hal := below_alloc (Below.refl wr.heap.size wr) (.cells (itV ⟨⟨a0, a1, a2, a3, a4, a5⟩, a6, a7, a8⟩).toArray 95)
      have AL := Lib.hid hal
      clear hfc e0 hal
      obtain ⟨bx, hbx⟩ : ∃ bx, wr.heap.size = bx := ⟨_, rfl⟩
      have BX := Lib.hid hbx
      clear hbx
      go_wp2_with fail
      refine (FAC.out _ AL.out).mono ?_
      rintro e w4 ⟨rfl, h4⟩
      rw [BX.out]
      have hbs : w4.heap[bx]? = some (.cells #[.int .i64 a0, .int .i64 a1, .int .i64 a2, .int .i64 a3, .int .i64 a4, .int .i64 a5, .int .i64 a6, .bool a7, .int .i64 a8] 95 (0, 0)) := by
        rw [h4.block bx (by rw [← BX.out]; simp), ← BX.out]
        exact blk_new wr _
      have hb0 : w4.cell? ⟨bx, 0, none⟩ = some (.int .i64 a0) := blk_cell hbs 0
      have hb6 : w4.cell? ⟨bx, 6, none⟩ = some (.int .i64 a6) := blk_cell hbs 6
      have B4 := Lib.hid (hBz.out.trans ((AL.out.trans (h4.mono (by simp))).mono (by have := hBz.out.size; omega)))
      have VG4 := Lib.hid ((AL.out.trans (h4.mono (by simp))).block g (blk_lt hVG.out) |>.trans hVG.out)
      have VR4 := Lib.hid (Kd.R_below hVR.out (AL.out.trans (h4.mono (by simp))))
      have hg2 : w4.cell? ⟨g, 2, none⟩ = some (.bool gr) := blk_cell VG4.out 2
      have HBS := Lib.hid hbs
      clear hbs h4 FAC AL x0 x1 x2 x3 x4 x5 x6 x7 x8 hVG hVR hBz VG VR BW
      by_cases c0 : fc = 0
      · have q0 : (fc == 0) = true := by simpa using c0
        have S := Lib.hid (E0.out.trans (if_pos (.inl c0)))
        clear c0
        go_wp2_with fail
        have VR5 : Hid (Kd.R k95 95 w4.drew w.heap.size (fun k => k ≠ g) (.slice (some ⟨gi, 0, none⟩) n c2) (isome gr is k)) := Lib.hid (Kd.R_step VR4.out (fun _ _ _ => rfl))
        have VG5 : Hid (w4.drew.heap[g]? = some (.cells #[.int .i64 rm, .slice (some ⟨gi, 0, none⟩) n c2, .bool gr] 92 (0, 0))) := VG4
        have BS5 : Hid (w4.drew.heap[bx]? = some (.cells #[.int .i64 a0, .int .i64 a1, .int .i64 a2, .int .i64 a3, .int .i64 a4, .int .i64 a5, .int .i64 a6, .bool a7, .int .i64 a8] 95 (0, 0))) := HBS
        have B5 : Hid (Below w.heap.size w w4.drew) := Lib.hid B4.out.drew
        obtain ⟨hnn, hnc, hCC⟩ := Kd.R_reads' VR5.out
        obtain ⟨ad3, cc3, e3, hcl3, hKc3, hcc3⟩ := ReadsRow.get_ hCC z95 (k : Int) (by omega) (by rw [isome_len, ML.out]; omega)
        injection e3 with e3
        subst e3
        rw [Int.toNat_natCast, HGET.out] at hKc3
        have hcce3 := k95_open hKc3
        simp only at hcce3
        subst hcce3
        have hcc4 : ∀ jj u, ([.int .i64 a0, .int .i64 a1, .int .i64 a2, .int .i64 a3, .int .i64 a4, .int .i64 a5, .int .i64 a6, .bool a7, .int .i64 a8] : List Value)[jj]? = some u → w4.drew.cell? ⟨gi, (k : Int).toNat * k95.sz + jj, none⟩ = some u := fun jj u hu => by
          have := hcc3 jj u hu
          rw [Addr.add_mid, Nat.zero_add] at this
          exact this
        have x7 : w4.drew.cell? ⟨gi, k * 9 + 7, none⟩ = some (.bool a7) := by
          have := hcc4 7 _ rfl
          rw [Int.toNat_natCast] at this
          exact this
        have x8 : w4.drew.cell? ⟨gi, k * 9 + 8, none⟩ = some (.int .i64 a8) := by
          have := hcc4 8 _ rfl
          rw [Int.toNat_natCast] at this
          exact this
        have hseg := Kd.R_seg VR5.out (k : Int) (by omega) (by omega) (seg := [.bool true, .int .i64 a6]) (j := 7) rfl hcc4 (by show 7 + 2 ≤ 9; omega) (x' := ⟨⟨a0, a1, a2, a3, a4, a5⟩, a6, true, a6⟩) (okp := fun _ => False) (k95_mkM _ _ _ (⟨⟨a0, a1, a2, a3, a4, a5⟩, a6, true, a6⟩)) (fun _ h => h.elim)
        rw [Int.toNat_natCast] at hseg
        have VR6 : Hid (Kd.R k95 95 ((w4.drew.setCell ⟨gi, k * 9 + 7, none⟩ (.bool true)).setCell ⟨gi, k * 9 + 8, none⟩ (.int .i64 a6)) w.heap.size (fun k => k ≠ g) (.slice (some ⟨gi, 0, none⟩) n c2) (isome gr is (k + 1))) := Lib.hid (by
          rw [← HST.out, S.out]
          exact hseg.1)
        have hgf : w4.drew.frozen? ⟨gi, k * 9 + 7, none⟩ = false ∧ w4.drew.frozen? ⟨gi, k * 9 + 8, none⟩ = false := by
          obtain ⟨hok, inner, hown, _⟩ := VR5.out
          rcases hown.2 with ⟨hv, h0⟩ | ⟨gi', cap, cur, hv, hb, hh, _⟩
          · cases hv
          · injection hv with hv
            injection hv with hv
            injection hv with hv
            subst hv
            exact ⟨blk_frozen hh _, blk_frozen hh _⟩
        obtain ⟨hz7, hz8⟩ := hgf
        have VG6 : Hid (((w4.drew.setCell ⟨gi, k * 9 + 7, none⟩ (.bool true)).setCell ⟨gi, k * 9 + 8, none⟩ (.int .i64 a6)).heap[g]? = some (.cells #[.int .i64 rm, .slice (some ⟨gi, 0, none⟩) n c2, .bool gr] 92 (0, 0))) :=
          Lib.hid (blk_far (blk_far VG5.out (p := ⟨gi, k * 9 + 7, none⟩) (fun e => GI.out.2.1 e.symm) (.bool true)) (p := ⟨gi, k * 9 + 8, none⟩) (fun e => GI.out.2.1 e.symm) (.int .i64 a6))
        have B6 : Hid (Below w.heap.size w ((w4.drew.setCell ⟨gi, k * 9 + 7, none⟩ (.bool true)).setCell ⟨gi, k * 9 + 8, none⟩ (.int .i64 a6))) := Lib.hid ((B5.out.setCell (p := ⟨gi, k * 9 + 7, none⟩) GI.out.1 (.bool true)).setCell (p := ⟨gi, k * 9 + 8, none⟩) GI.out.1 (.int .i64 a6))
        have hg1 : w4.drew.cell? ⟨g, 1, none⟩ = some (.slice (some ⟨gi, 0, none⟩) n c2) := blk_cell VG5.out 1
        have hx6 : w4.drew.cell? ⟨bx, 6, none⟩ = some (.int .i64 a6) := blk_cell BS5.out 6
        have hS1 : (w4.drew.setCell ⟨gi, k * 9 + 7, none⟩ (.bool true)).cell? ⟨g, 1, none⟩ = some (.slice (some ⟨gi, 0, none⟩) n c2) ∧ (w4.drew.setCell ⟨gi, k * 9 + 7, none⟩ (.bool true)).cell? ⟨bx, 6, none⟩ = some (.int .i64 a6) :=
          ⟨blk_cell (blk_far VG5.out (p := ⟨gi, k * 9 + 7, none⟩) (fun e => GI.out.2.1 e.symm) (.bool true)) 1, blk_cell (blk_far BS5.out (p := ⟨gi, k * 9 + 7, none⟩) (fun e => by have h1 := GI.out.2.2; have h2 := BX.out; change bx = gi at e; omega) (.bool true)) 6⟩
        have hS2 : ((w4.drew.setCell ⟨gi, k * 9 + 7, none⟩ (.bool true)).setCell ⟨gi, k * 9 + 8, none⟩ (.int .i64 a6)).cell? ⟨g, 1, none⟩ = some (.slice (some ⟨gi, 0, none⟩) n c2) ∧ ((w4.drew.setCell ⟨gi, k * 9 + 7, none⟩ (.bool true)).setCell ⟨gi, k * 9 + 8, none⟩ (.int .i64 a6)).cell? ⟨bx, 6, none⟩ = some (.int .i64 a6) :=
          ⟨blk_cell VG6.out 1, blk_cell (blk_far (blk_far BS5.out (p := ⟨gi, k * 9 + 7, none⟩) (fun e => by have h1 := GI.out.2.2; have h2 := BX.out; change bx = gi at e; omega) (.bool true)) (p := ⟨gi, k * 9 + 8, none⟩) (fun e => by have h1 := GI.out.2.2; have h2 := BX.out; change bx = gi at e; omega) (.int .i64 a6)) 6⟩
        have y8 : w4.cell? ⟨gi, k * 9 + 8, none⟩ = some (.int .i64 a8) := x8
        have z8 : w4.frozen? ⟨gi, k * 9 + 8, none⟩ = false := hz8
        have Z8 := Lib.hid (And.intro y8 z8)
        have HS1 := Lib.hid hS1
        have HS2 := Lib.hid hS2
        clear hseg hcc3 hcc4 hcl3 hKc3 hCC hnn hnc VR4 VG4 HBS B4 hb0 hb6 hg2 hS1 hS2 y8 z8 x8 hz8 VR5 VG5 BS5 B5
        refine wp_region_held_drew (S := fun w' => w'.cell? ⟨g, 1, none⟩ = some (.slice (some ⟨gi, 0, none⟩) n c2) ∧ w'.cell? ⟨bx, 6, none⟩ = some (.int .i64 a6)) (by kernel_rfl) ⟨hg1, hx6⟩ (fun hHeld => ?_)
        refine wpAnyH_take (i := 0) (v := .pointer (some ⟨g, 0, none⟩)) rfl (by kernel_rfl) (by kernel_rfl) (by kernel_rfl) (fun _ _ _ h => h) (y_move (by rfl) rfl rfl) hHeld ?_
        try simp only [Act.put, List.getElem_toArray, List.getElem_cons_succ, List.getElem_cons_zero, List.setIfInBounds_toArray, List.set_cons_zero, List.set_cons_succ]
        refine wpAnyH_take (i := 1) (v := .pointer (some ⟨g, 0, none⟩)) rfl (by kernel_rfl) (by kernel_rfl) (by kernel_rfl) (fun _ _ _ h => h) (y_nil (by rfl) rfl rfl) hHeld ?_
        try simp only [Act.put, List.getElem_toArray, List.getElem_cons_succ, List.getElem_cons_zero, List.setIfInBounds_toArray, List.set_cons_zero, List.set_cons_succ]
        refine wpAnyH_take (i := 2) (v := .pointer (some ⟨g, 1, none⟩)) rfl (by kernel_rfl) (by kernel_rfl) (by kernel_rfl) (fun _ _ _ h => h) (y_field (by rfl) rfl rfl (fld_R1 _)) hHeld ?_
        try simp only [Act.put, List.getElem_toArray, List.getElem_cons_succ, List.getElem_cons_zero, List.setIfInBounds_toArray, List.set_cons_zero, List.set_cons_succ]
        refine wpAnyH_take (i := 3) (v := .slice (some ⟨gi, 0, none⟩) n c2) rfl (by kernel_rfl) (by kernel_rfl) (by kernel_rfl) (fun _ _ _ h => h) (y_loadIs (by rfl) rfl rfl (fun w h => h.1)) hHeld ?_
        try simp only [Act.put, List.getElem_toArray, List.getElem_cons_succ, List.getElem_cons_zero, List.setIfInBounds_toArray, List.set_cons_zero, List.set_cons_succ]
        refine wpAnyH_take (i := 4) (v := .int .i64 (k : Int)) rfl (by kernel_rfl) (by kernel_rfl) (by kernel_rfl) (fun _ _ _ h => h) (y_move (by rfl) rfl rfl) hHeld ?_
        try simp only [Act.put, List.getElem_toArray, List.getElem_cons_succ, List.getElem_cons_zero, List.setIfInBounds_toArray, List.set_cons_zero, List.set_cons_succ]
        refine wpAnyH_take (i := 5) (v := .pointer (some ⟨g, 0, none⟩)) rfl (by kernel_rfl) (by kernel_rfl) (by kernel_rfl) (fun _ _ _ h => h) (y_move (by rfl) rfl rfl) hHeld ?_
        try simp only [Act.put, List.getElem_toArray, List.getElem_cons_succ, List.getElem_cons_zero, List.setIfInBounds_toArray, List.set_cons_zero, List.set_cons_succ]
        refine wpAnyH_take (i := 6) (v := .pointer (some ⟨g, 0, none⟩)) rfl (by kernel_rfl) (by kernel_rfl) (by kernel_rfl) (fun _ _ _ h => h) (y_nil (by rfl) rfl rfl) hHeld ?_
        try simp only [Act.put, List.getElem_toArray, List.getElem_cons_succ, List.getElem_cons_zero, List.setIfInBounds_toArray, List.set_cons_zero, List.set_cons_succ]
        refine wpAnyH_take (i := 7) (v := .pointer (some ⟨g, 1, none⟩)) rfl (by kernel_rfl) (by kernel_rfl) (by kernel_rfl) (fun _ _ _ h => h) (y_field (by rfl) rfl rfl (fld_R1 _)) hHeld ?_
        try simp only [Act.put, List.getElem_toArray, List.getElem_cons_succ, List.getElem_cons_zero, List.setIfInBounds_toArray, List.set_cons_zero, List.set_cons_succ]
        refine wpAnyH_take (i := 8) (v := .slice (some ⟨gi, 0, none⟩) n c2) rfl (by kernel_rfl) (by kernel_rfl) (by kernel_rfl) (fun _ _ _ h => h) (y_loadIs (by rfl) rfl rfl (fun w h => h.1)) hHeld ?_
        try simp only [Act.put, List.getElem_toArray, List.getElem_cons_succ, List.getElem_cons_zero, List.setIfInBounds_toArray, List.set_cons_zero, List.set_cons_succ]
        refine wpAnyH_take (i := 9) (v := .int .i64 (k : Int)) rfl (by kernel_rfl) (by kernel_rfl) (by kernel_rfl) (fun _ _ _ h => h) (y_move (by rfl) rfl rfl) hHeld ?_
        try simp only [Act.put, List.getElem_toArray, List.getElem_cons_succ, List.getElem_cons_zero, List.setIfInBounds_toArray, List.set_cons_zero, List.set_cons_succ]
        refine wpAnyH_take (i := 10) (v := .pointer (some ⟨bx, 6, none⟩)) rfl (by kernel_rfl) (by kernel_rfl) (by kernel_rfl) (fun _ _ _ h => h) (y_field (by rfl) rfl rfl (fld_I1 _)) hHeld ?_
        try simp only [Act.put, List.getElem_toArray, List.getElem_cons_succ, List.getElem_cons_zero, List.setIfInBounds_toArray, List.set_cons_zero, List.set_cons_succ]
        refine wpAnyH_take (i := 11) (v := .int .i64 a6) rfl (by kernel_rfl) (by kernel_rfl) (by kernel_rfl) (fun _ _ _ h => h) (y_load (by rfl) rfl rfl (fun w h => h.2)) hHeld ?_
        try simp only [Act.put, List.getElem_toArray, List.getElem_cons_succ, List.getElem_cons_zero, List.setIfInBounds_toArray, List.set_cons_zero, List.set_cons_succ]
        refine wpAnyH_take (i := 12) (v := .pointer (some ⟨gi, k * 9, none⟩)) rfl (by kernel_rfl) (by kernel_rfl) (by kernel_rfl) (fun _ _ _ h => h) (y_idxIs (by rfl) rfl rfl rfl hlt) hHeld ?_
        try simp only [Act.put, List.getElem_toArray, List.getElem_cons_succ, List.getElem_cons_zero, List.setIfInBounds_toArray, List.set_cons_zero, List.set_cons_succ]
        refine wpAnyH_take (i := 13) (v := .pointer (some ⟨gi, k * 9 + 7, none⟩)) rfl (by kernel_rfl) (by kernel_rfl) (by kernel_rfl) (fun _ _ _ h => h) (y_fieldk (by rfl) rfl rfl (fld_I2 _ _)) hHeld ?_
        try simp only [Act.put, List.getElem_toArray, List.getElem_cons_succ, List.getElem_cons_zero, List.setIfInBounds_toArray, List.set_cons_zero, List.set_cons_succ]
        refine wpAnyH_ready (rs := [14]) (by kernel_rfl) (by simp) ?_
        refine AllReadyH.cons rfl (fun K hK => ?_) AllReadyH.nil
        try simp only [Act.put, List.getElem_toArray, List.getElem_cons_succ, List.getElem_cons_zero, List.setIfInBounds_toArray, List.set_cons_zero, List.set_cons_succ]
        rw [if_pos (by rfl)]
        go_simp
        refine hK.out _ _ HS1.out (fun hHeld => ?_)
        clear hK K
        try simp only [Act.put, List.getElem_toArray, List.getElem_cons_succ, List.getElem_cons_zero, List.setIfInBounds_toArray, List.set_cons_zero, List.set_cons_succ]
        refine wpAnyH_take (i := 15) (v := .pointer (some ⟨gi, k * 9, none⟩)) rfl (by kernel_rfl) (by kernel_rfl) (by kernel_rfl) (fun _ _ _ h => h) (y_idxIs (by rfl) rfl rfl rfl hlt) hHeld ?_
        try simp only [Act.put, List.getElem_toArray, List.getElem_cons_succ, List.getElem_cons_zero, List.setIfInBounds_toArray, List.set_cons_zero, List.set_cons_succ]
        refine wpAnyH_take (i := 16) (v := .pointer (some ⟨gi, k * 9 + 8, none⟩)) rfl (by kernel_rfl) (by kernel_rfl) (by kernel_rfl) (fun _ _ _ h => h) (y_fieldk (by rfl) rfl rfl (fld_I3 _ _)) hHeld ?_
        try simp only [Act.put, List.getElem_toArray, List.getElem_cons_succ, List.getElem_cons_zero, List.setIfInBounds_toArray, List.set_cons_zero, List.set_cons_succ]
        obtain ⟨hx8, hz8⟩ := Z8.out
        refine wpAnyH_ready (rs := [17]) (by kernel_rfl) (by simp) ?_
        refine AllReadyH.cons rfl (fun K hK => ?_) AllReadyH.nil
        try simp only [Act.put, List.getElem_toArray, List.getElem_cons_succ, List.getElem_cons_zero, List.setIfInBounds_toArray, List.set_cons_zero, List.set_cons_succ]
        rw [if_pos (by rfl)]
        go_simp
        refine hK.out _ _ HS2.out (fun hHeld => ?_)
        clear hK K
        try simp only [Act.put, List.getElem_toArray, List.getElem_cons_succ, List.getElem_cons_zero, List.setIfInBounds_toArray, List.set_cons_zero, List.set_cons_succ]
        refine wpAnyH_done (by kernel_rfl) ?_ _
        clear hHeld x7 hz7 hx8 hz8 hg1 hx6
        go_wp2_with fail
        exact ⟨⟨k + 1, by omega, by go_num, VG6.out, VR6.out, B6.out⟩, by simp [RowKit.intOf]; omega⟩
      · have q0 : (fc == 0) = false := by simpa using c0
        cases gr with
        | true =>
          by_cases c1 : a6 < a0
          · have q1 : decide (a6 < a0) = true := decide_eq_true c1
            have S := Lib.hid (E0.out.trans (if_pos (.inr (.inl ⟨rfl, c1⟩))))
            clear c0 c1
            go_wp2_with fail
            have VR5 : Hid (Kd.R k95 95 w4.drew w.heap.size (fun k => k ≠ g) (.slice (some ⟨gi, 0, none⟩) n c2) (isome true is k)) := Lib.hid (Kd.R_step VR4.out (fun _ _ _ => rfl))
            have VG5 : Hid (w4.drew.heap[g]? = some (.cells #[.int .i64 rm, .slice (some ⟨gi, 0, none⟩) n c2, .bool true] 92 (0, 0))) := VG4
            have BS5 : Hid (w4.drew.heap[bx]? = some (.cells #[.int .i64 a0, .int .i64 a1, .int .i64 a2, .int .i64 a3, .int .i64 a4, .int .i64 a5, .int .i64 a6, .bool a7, .int .i64 a8] 95 (0, 0))) := HBS
            have B5 : Hid (Below w.heap.size w w4.drew) := Lib.hid B4.out.drew
            obtain ⟨hnn, hnc, hCC⟩ := Kd.R_reads' VR5.out
            obtain ⟨ad3, cc3, e3, hcl3, hKc3, hcc3⟩ := ReadsRow.get_ hCC z95 (k : Int) (by omega) (by rw [isome_len, ML.out]; omega)
            injection e3 with e3
            subst e3
            rw [Int.toNat_natCast, HGET.out] at hKc3
            have hcce3 := k95_open hKc3
            simp only at hcce3
            subst hcce3
            have hcc4 : ∀ jj u, ([.int .i64 a0, .int .i64 a1, .int .i64 a2, .int .i64 a3, .int .i64 a4, .int .i64 a5, .int .i64 a6, .bool a7, .int .i64 a8] : List Value)[jj]? = some u → w4.drew.cell? ⟨gi, (k : Int).toNat * k95.sz + jj, none⟩ = some u := fun jj u hu => by
              have := hcc3 jj u hu
              rw [Addr.add_mid, Nat.zero_add] at this
              exact this
            have x7 : w4.drew.cell? ⟨gi, k * 9 + 7, none⟩ = some (.bool a7) := by
              have := hcc4 7 _ rfl
              rw [Int.toNat_natCast] at this
              exact this
            have x8 : w4.drew.cell? ⟨gi, k * 9 + 8, none⟩ = some (.int .i64 a8) := by
              have := hcc4 8 _ rfl
              rw [Int.toNat_natCast] at this
              exact this
            have hseg := Kd.R_seg VR5.out (k : Int) (by omega) (by omega) (seg := [.bool true, .int .i64 a6]) (j := 7) rfl hcc4 (by show 7 + 2 ≤ 9; omega) (x' := ⟨⟨a0, a1, a2, a3, a4, a5⟩, a6, true, a6⟩) (okp := fun _ => False) (k95_mkM _ _ _ (⟨⟨a0, a1, a2, a3, a4, a5⟩, a6, true, a6⟩)) (fun _ h => h.elim)
            rw [Int.toNat_natCast] at hseg
            have VR6 : Hid (Kd.R k95 95 ((w4.drew.setCell ⟨gi, k * 9 + 7, none⟩ (.bool true)).setCell ⟨gi, k * 9 + 8, none⟩ (.int .i64 a6)) w.heap.size (fun k => k ≠ g) (.slice (some ⟨gi, 0, none⟩) n c2) (isome true is (k + 1))) := Lib.hid (by
              rw [← HST.out, S.out]
              exact hseg.1)
            have hgf : w4.drew.frozen? ⟨gi, k * 9 + 7, none⟩ = false ∧ w4.drew.frozen? ⟨gi, k * 9 + 8, none⟩ = false := by
              obtain ⟨hok, inner, hown, _⟩ := VR5.out
              rcases hown.2 with ⟨hv, h0⟩ | ⟨gi', cap, cur, hv, hb, hh, _⟩
              · cases hv
              · injection hv with hv
                injection hv with hv
                injection hv with hv
                subst hv
                exact ⟨blk_frozen hh _, blk_frozen hh _⟩
            obtain ⟨hz7, hz8⟩ := hgf
            have VG6 : Hid (((w4.drew.setCell ⟨gi, k * 9 + 7, none⟩ (.bool true)).setCell ⟨gi, k * 9 + 8, none⟩ (.int .i64 a6)).heap[g]? = some (.cells #[.int .i64 rm, .slice (some ⟨gi, 0, none⟩) n c2, .bool true] 92 (0, 0))) :=
              Lib.hid (blk_far (blk_far VG5.out (p := ⟨gi, k * 9 + 7, none⟩) (fun e => GI.out.2.1 e.symm) (.bool true)) (p := ⟨gi, k * 9 + 8, none⟩) (fun e => GI.out.2.1 e.symm) (.int .i64 a6))
            have B6 : Hid (Below w.heap.size w ((w4.drew.setCell ⟨gi, k * 9 + 7, none⟩ (.bool true)).setCell ⟨gi, k * 9 + 8, none⟩ (.int .i64 a6))) := Lib.hid ((B5.out.setCell (p := ⟨gi, k * 9 + 7, none⟩) GI.out.1 (.bool true)).setCell (p := ⟨gi, k * 9 + 8, none⟩) GI.out.1 (.int .i64 a6))
            have hg1 : w4.drew.cell? ⟨g, 1, none⟩ = some (.slice (some ⟨gi, 0, none⟩) n c2) := blk_cell VG5.out 1
            have hx6 : w4.drew.cell? ⟨bx, 6, none⟩ = some (.int .i64 a6) := blk_cell BS5.out 6
            have hS1 : (w4.drew.setCell ⟨gi, k * 9 + 7, none⟩ (.bool true)).cell? ⟨g, 1, none⟩ = some (.slice (some ⟨gi, 0, none⟩) n c2) ∧ (w4.drew.setCell ⟨gi, k * 9 + 7, none⟩ (.bool true)).cell? ⟨bx, 6, none⟩ = some (.int .i64 a6) :=
              ⟨blk_cell (blk_far VG5.out (p := ⟨gi, k * 9 + 7, none⟩) (fun e => GI.out.2.1 e.symm) (.bool true)) 1, blk_cell (blk_far BS5.out (p := ⟨gi, k * 9 + 7, none⟩) (fun e => by have h1 := GI.out.2.2; have h2 := BX.out; change bx = gi at e; omega) (.bool true)) 6⟩
            have hS2 : ((w4.drew.setCell ⟨gi, k * 9 + 7, none⟩ (.bool true)).setCell ⟨gi, k * 9 + 8, none⟩ (.int .i64 a6)).cell? ⟨g, 1, none⟩ = some (.slice (some ⟨gi, 0, none⟩) n c2) ∧ ((w4.drew.setCell ⟨gi, k * 9 + 7, none⟩ (.bool true)).setCell ⟨gi, k * 9 + 8, none⟩ (.int .i64 a6)).cell? ⟨bx, 6, none⟩ = some (.int .i64 a6) :=
              ⟨blk_cell VG6.out 1, blk_cell (blk_far (blk_far BS5.out (p := ⟨gi, k * 9 + 7, none⟩) (fun e => by have h1 := GI.out.2.2; have h2 := BX.out; change bx = gi at e; omega) (.bool true)) (p := ⟨gi, k * 9 + 8, none⟩) (fun e => by have h1 := GI.out.2.2; have h2 := BX.out; change bx = gi at e; omega) (.int .i64 a6)) 6⟩
            have y8 : w4.cell? ⟨gi, k * 9 + 8, none⟩ = some (.int .i64 a8) := x8
            have z8 : w4.frozen? ⟨gi, k * 9 + 8, none⟩ = false := hz8
            have Z8 := Lib.hid (And.intro y8 z8)
            have HS1 := Lib.hid hS1
            have HS2 := Lib.hid hS2
            clear hseg hcc3 hcc4 hcl3 hKc3 hCC hnn hnc VR4 VG4 HBS B4 hb0 hb6 hg2 hS1 hS2 y8 z8 x8 hz8 VR5 VG5 BS5 B5
            refine wp_region_held_drew (S := fun w' => w'.cell? ⟨g, 1, none⟩ = some (.slice (some ⟨gi, 0, none⟩) n c2) ∧ w'.cell? ⟨bx, 6, none⟩ = some (.int .i64 a6)) (by kernel_rfl) ⟨hg1, hx6⟩ (fun hHeld => ?_)
            refine wpAnyH_take (i := 0) (v := .pointer (some ⟨g, 0, none⟩)) rfl (by kernel_rfl) (by kernel_rfl) (by kernel_rfl) (fun _ _ _ h => h) (y_move (by rfl) rfl rfl) hHeld ?_
            try simp only [Act.put, List.getElem_toArray, List.getElem_cons_succ, List.getElem_cons_zero, List.setIfInBounds_toArray, List.set_cons_zero, List.set_cons_succ]
            refine wpAnyH_take (i := 1) (v := .pointer (some ⟨g, 0, none⟩)) rfl (by kernel_rfl) (by kernel_rfl) (by kernel_rfl) (fun _ _ _ h => h) (y_nil (by rfl) rfl rfl) hHeld ?_
            try simp only [Act.put, List.getElem_toArray, List.getElem_cons_succ, List.getElem_cons_zero, List.setIfInBounds_toArray, List.set_cons_zero, List.set_cons_succ]
            refine wpAnyH_take (i := 2) (v := .pointer (some ⟨g, 1, none⟩)) rfl (by kernel_rfl) (by kernel_rfl) (by kernel_rfl) (fun _ _ _ h => h) (y_field (by rfl) rfl rfl (fld_R1 _)) hHeld ?_
            try simp only [Act.put, List.getElem_toArray, List.getElem_cons_succ, List.getElem_cons_zero, List.setIfInBounds_toArray, List.set_cons_zero, List.set_cons_succ]
            refine wpAnyH_take (i := 3) (v := .slice (some ⟨gi, 0, none⟩) n c2) rfl (by kernel_rfl) (by kernel_rfl) (by kernel_rfl) (fun _ _ _ h => h) (y_loadIs (by rfl) rfl rfl (fun w h => h.1)) hHeld ?_
            try simp only [Act.put, List.getElem_toArray, List.getElem_cons_succ, List.getElem_cons_zero, List.setIfInBounds_toArray, List.set_cons_zero, List.set_cons_succ]
            refine wpAnyH_take (i := 4) (v := .int .i64 (k : Int)) rfl (by kernel_rfl) (by kernel_rfl) (by kernel_rfl) (fun _ _ _ h => h) (y_move (by rfl) rfl rfl) hHeld ?_
            try simp only [Act.put, List.getElem_toArray, List.getElem_cons_succ, List.getElem_cons_zero, List.setIfInBounds_toArray, List.set_cons_zero, List.set_cons_succ]
            refine wpAnyH_take (i := 5) (v := .pointer (some ⟨g, 0, none⟩)) rfl (by kernel_rfl) (by kernel_rfl) (by kernel_rfl) (fun _ _ _ h => h) (y_move (by rfl) rfl rfl) hHeld ?_
            try simp only [Act.put, List.getElem_toArray, List.getElem_cons_succ, List.getElem_cons_zero, List.setIfInBounds_toArray, List.set_cons_zero, List.set_cons_succ]
            refine wpAnyH_take (i := 6) (v := .pointer (some ⟨g, 0, none⟩)) rfl (by kernel_rfl) (by kernel_rfl) (by kernel_rfl) (fun _ _ _ h => h) (y_nil (by rfl) rfl rfl) hHeld ?_
            try simp only [Act.put, List.getElem_toArray, List.getElem_cons_succ, List.getElem_cons_zero, List.setIfInBounds_toArray, List.set_cons_zero, List.set_cons_succ]
            refine wpAnyH_take (i := 7) (v := .pointer (some ⟨g, 1, none⟩)) rfl (by kernel_rfl) (by kernel_rfl) (by kernel_rfl) (fun _ _ _ h => h) (y_field (by rfl) rfl rfl (fld_R1 _)) hHeld ?_
            try simp only [Act.put, List.getElem_toArray, List.getElem_cons_succ, List.getElem_cons_zero, List.setIfInBounds_toArray, List.set_cons_zero, List.set_cons_succ]
            refine wpAnyH_take (i := 8) (v := .slice (some ⟨gi, 0, none⟩) n c2) rfl (by kernel_rfl) (by kernel_rfl) (by kernel_rfl) (fun _ _ _ h => h) (y_loadIs (by rfl) rfl rfl (fun w h => h.1)) hHeld ?_
            try simp only [Act.put, List.getElem_toArray, List.getElem_cons_succ, List.getElem_cons_zero, List.setIfInBounds_toArray, List.set_cons_zero, List.set_cons_succ]
            refine wpAnyH_take (i := 9) (v := .int .i64 (k : Int)) rfl (by kernel_rfl) (by kernel_rfl) (by kernel_rfl) (fun _ _ _ h => h) (y_move (by rfl) rfl rfl) hHeld ?_
            try simp only [Act.put, List.getElem_toArray, List.getElem_cons_succ, List.getElem_cons_zero, List.setIfInBounds_toArray, List.set_cons_zero, List.set_cons_succ]
            refine wpAnyH_take (i := 10) (v := .pointer (some ⟨bx, 6, none⟩)) rfl (by kernel_rfl) (by kernel_rfl) (by kernel_rfl) (fun _ _ _ h => h) (y_field (by rfl) rfl rfl (fld_I1 _)) hHeld ?_
            try simp only [Act.put, List.getElem_toArray, List.getElem_cons_succ, List.getElem_cons_zero, List.setIfInBounds_toArray, List.set_cons_zero, List.set_cons_succ]
            refine wpAnyH_take (i := 11) (v := .int .i64 a6) rfl (by kernel_rfl) (by kernel_rfl) (by kernel_rfl) (fun _ _ _ h => h) (y_load (by rfl) rfl rfl (fun w h => h.2)) hHeld ?_
            try simp only [Act.put, List.getElem_toArray, List.getElem_cons_succ, List.getElem_cons_zero, List.setIfInBounds_toArray, List.set_cons_zero, List.set_cons_succ]
            refine wpAnyH_take (i := 12) (v := .pointer (some ⟨gi, k * 9, none⟩)) rfl (by kernel_rfl) (by kernel_rfl) (by kernel_rfl) (fun _ _ _ h => h) (y_idxIs (by rfl) rfl rfl rfl hlt) hHeld ?_
            try simp only [Act.put, List.getElem_toArray, List.getElem_cons_succ, List.getElem_cons_zero, List.setIfInBounds_toArray, List.set_cons_zero, List.set_cons_succ]
            refine wpAnyH_take (i := 13) (v := .pointer (some ⟨gi, k * 9 + 7, none⟩)) rfl (by kernel_rfl) (by kernel_rfl) (by kernel_rfl) (fun _ _ _ h => h) (y_fieldk (by rfl) rfl rfl (fld_I2 _ _)) hHeld ?_
            try simp only [Act.put, List.getElem_toArray, List.getElem_cons_succ, List.getElem_cons_zero, List.setIfInBounds_toArray, List.set_cons_zero, List.set_cons_succ]
            refine wpAnyH_ready (rs := [14]) (by kernel_rfl) (by simp) ?_
            refine AllReadyH.cons rfl (fun K hK => ?_) AllReadyH.nil
            try simp only [Act.put, List.getElem_toArray, List.getElem_cons_succ, List.getElem_cons_zero, List.setIfInBounds_toArray, List.set_cons_zero, List.set_cons_succ]
            rw [if_pos (by rfl)]
            go_simp
            refine hK.out _ _ HS1.out (fun hHeld => ?_)
            clear hK K
            try simp only [Act.put, List.getElem_toArray, List.getElem_cons_succ, List.getElem_cons_zero, List.setIfInBounds_toArray, List.set_cons_zero, List.set_cons_succ]
            refine wpAnyH_take (i := 15) (v := .pointer (some ⟨gi, k * 9, none⟩)) rfl (by kernel_rfl) (by kernel_rfl) (by kernel_rfl) (fun _ _ _ h => h) (y_idxIs (by rfl) rfl rfl rfl hlt) hHeld ?_
            try simp only [Act.put, List.getElem_toArray, List.getElem_cons_succ, List.getElem_cons_zero, List.setIfInBounds_toArray, List.set_cons_zero, List.set_cons_succ]
            refine wpAnyH_take (i := 16) (v := .pointer (some ⟨gi, k * 9 + 8, none⟩)) rfl (by kernel_rfl) (by kernel_rfl) (by kernel_rfl) (fun _ _ _ h => h) (y_fieldk (by rfl) rfl rfl (fld_I3 _ _)) hHeld ?_
            try simp only [Act.put, List.getElem_toArray, List.getElem_cons_succ, List.getElem_cons_zero, List.setIfInBounds_toArray, List.set_cons_zero, List.set_cons_succ]
            obtain ⟨hx8, hz8⟩ := Z8.out
            refine wpAnyH_ready (rs := [17]) (by kernel_rfl) (by simp) ?_
            refine AllReadyH.cons rfl (fun K hK => ?_) AllReadyH.nil
            try simp only [Act.put, List.getElem_toArray, List.getElem_cons_succ, List.getElem_cons_zero, List.setIfInBounds_toArray, List.set_cons_zero, List.set_cons_succ]
            rw [if_pos (by rfl)]
            go_simp
            refine hK.out _ _ HS2.out (fun hHeld => ?_)
            clear hK K
            try simp only [Act.put, List.getElem_toArray, List.getElem_cons_succ, List.getElem_cons_zero, List.setIfInBounds_toArray, List.set_cons_zero, List.set_cons_succ]
            refine wpAnyH_done (by kernel_rfl) ?_ _
            clear hHeld x7 hz7 hx8 hz8 hg1 hx6
            go_wp2_with fail
            exact ⟨⟨k + 1, by omega, by go_num, VG6.out, VR6.out, B6.out⟩, by simp [RowKit.intOf]; omega⟩
          · have q1 : decide (a6 < a0) = false := decide_eq_false c1
            have S := Lib.hid (E0.out.trans (if_neg (by
              rintro (h | ⟨_, h⟩ | ⟨h, _⟩)
              · exact c0 h
              · exact c1 h
              · exact absurd h (by decide))))
            have N := Lib.hid (HSM.out S.out)
            clear c0 c1
            go_wp2_with fail
            exact ⟨⟨k + 1, by omega, by go_num, VG4.out, by rw [← N.out]; exact VR4.out, B4.out⟩, by simp [RowKit.intOf]; omega⟩
        | false =>
          by_cases c1 : a0 < a6
          · have q1 : decide (a0 < a6) = true := decide_eq_true c1
            have S := Lib.hid (E0.out.trans (if_pos (.inr (.inr ⟨rfl, c1⟩))))
            clear c0 c1
            go_wp2_with fail
            have VR5 : Hid (Kd.R k95 95 w4.drew w.heap.size (fun k => k ≠ g) (.slice (some ⟨gi, 0, none⟩) n c2) (isome false is k)) := Lib.hid (Kd.R_step VR4.out (fun _ _ _ => rfl))
            have VG5 : Hid (w4.drew.heap[g]? = some (.cells #[.int .i64 rm, .slice (some ⟨gi, 0, none⟩) n c2, .bool false] 92 (0, 0))) := VG4
            have BS5 : Hid (w4.drew.heap[bx]? = some (.cells #[.int .i64 a0, .int .i64 a1, .int .i64 a2, .int .i64 a3, .int .i64 a4, .int .i64 a5, .int .i64 a6, .bool a7, .int .i64 a8] 95 (0, 0))) := HBS
            have B5 : Hid (Below w.heap.size w w4.drew) := Lib.hid B4.out.drew
            obtain ⟨hnn, hnc, hCC⟩ := Kd.R_reads' VR5.out
            obtain ⟨ad3, cc3, e3, hcl3, hKc3, hcc3⟩ := ReadsRow.get_ hCC z95 (k : Int) (by omega) (by rw [isome_len, ML.out]; omega)
            injection e3 with e3
            subst e3
            rw [Int.toNat_natCast, HGET.out] at hKc3
            have hcce3 := k95_open hKc3
            simp only at hcce3
            subst hcce3
            have hcc4 : ∀ jj u, ([.int .i64 a0, .int .i64 a1, .int .i64 a2, .int .i64 a3, .int .i64 a4, .int .i64 a5, .int .i64 a6, .bool a7, .int .i64 a8] : List Value)[jj]? = some u → w4.drew.cell? ⟨gi, (k : Int).toNat * k95.sz + jj, none⟩ = some u := fun jj u hu => by
              have := hcc3 jj u hu
              rw [Addr.add_mid, Nat.zero_add] at this
              exact this
            have x7 : w4.drew.cell? ⟨gi, k * 9 + 7, none⟩ = some (.bool a7) := by
              have := hcc4 7 _ rfl
              rw [Int.toNat_natCast] at this
              exact this
            have x8 : w4.drew.cell? ⟨gi, k * 9 + 8, none⟩ = some (.int .i64 a8) := by
              have := hcc4 8 _ rfl
              rw [Int.toNat_natCast] at this
              exact this
            have hseg := Kd.R_seg VR5.out (k : Int) (by omega) (by omega) (seg := [.bool true, .int .i64 a6]) (j := 7) rfl hcc4 (by show 7 + 2 ≤ 9; omega) (x' := ⟨⟨a0, a1, a2, a3, a4, a5⟩, a6, true, a6⟩) (okp := fun _ => False) (k95_mkM _ _ _ (⟨⟨a0, a1, a2, a3, a4, a5⟩, a6, true, a6⟩)) (fun _ h => h.elim)
            rw [Int.toNat_natCast] at hseg
            have VR6 : Hid (Kd.R k95 95 ((w4.drew.setCell ⟨gi, k * 9 + 7, none⟩ (.bool true)).setCell ⟨gi, k * 9 + 8, none⟩ (.int .i64 a6)) w.heap.size (fun k => k ≠ g) (.slice (some ⟨gi, 0, none⟩) n c2) (isome false is (k + 1))) := Lib.hid (by
              rw [← HST.out, S.out]
              exact hseg.1)
            have hgf : w4.drew.frozen? ⟨gi, k * 9 + 7, none⟩ = false ∧ w4.drew.frozen? ⟨gi, k * 9 + 8, none⟩ = false := by
              obtain ⟨hok, inner, hown, _⟩ := VR5.out
              rcases hown.2 with ⟨hv, h0⟩ | ⟨gi', cap, cur, hv, hb, hh, _⟩
              · cases hv
              · injection hv with hv
                injection hv with hv
                injection hv with hv
                subst hv
                exact ⟨blk_frozen hh _, blk_frozen hh _⟩
            obtain ⟨hz7, hz8⟩ := hgf
            have VG6 : Hid (((w4.drew.setCell ⟨gi, k * 9 + 7, none⟩ (.bool true)).setCell ⟨gi, k * 9 + 8, none⟩ (.int .i64 a6)).heap[g]? = some (.cells #[.int .i64 rm, .slice (some ⟨gi, 0, none⟩) n c2, .bool false] 92 (0, 0))) :=
              Lib.hid (blk_far (blk_far VG5.out (p := ⟨gi, k * 9 + 7, none⟩) (fun e => GI.out.2.1 e.symm) (.bool true)) (p := ⟨gi, k * 9 + 8, none⟩) (fun e => GI.out.2.1 e.symm) (.int .i64 a6))
            have B6 : Hid (Below w.heap.size w ((w4.drew.setCell ⟨gi, k * 9 + 7, none⟩ (.bool true)).setCell ⟨gi, k * 9 + 8, none⟩ (.int .i64 a6))) := Lib.hid ((B5.out.setCell (p := ⟨gi, k * 9 + 7, none⟩) GI.out.1 (.bool true)).setCell (p := ⟨gi, k * 9 + 8, none⟩) GI.out.1 (.int .i64 a6))
            have hg1 : w4.drew.cell? ⟨g, 1, none⟩ = some (.slice (some ⟨gi, 0, none⟩) n c2) := blk_cell VG5.out 1
            have hx6 : w4.drew.cell? ⟨bx, 6, none⟩ = some (.int .i64 a6) := blk_cell BS5.out 6
            have hS1 : (w4.drew.setCell ⟨gi, k * 9 + 7, none⟩ (.bool true)).cell? ⟨g, 1, none⟩ = some (.slice (some ⟨gi, 0, none⟩) n c2) ∧ (w4.drew.setCell ⟨gi, k * 9 + 7, none⟩ (.bool true)).cell? ⟨bx, 6, none⟩ = some (.int .i64 a6) :=
              ⟨blk_cell (blk_far VG5.out (p := ⟨gi, k * 9 + 7, none⟩) (fun e => GI.out.2.1 e.symm) (.bool true)) 1, blk_cell (blk_far BS5.out (p := ⟨gi, k * 9 + 7, none⟩) (fun e => by have h1 := GI.out.2.2; have h2 := BX.out; change bx = gi at e; omega) (.bool true)) 6⟩
            have hS2 : ((w4.drew.setCell ⟨gi, k * 9 + 7, none⟩ (.bool true)).setCell ⟨gi, k * 9 + 8, none⟩ (.int .i64 a6)).cell? ⟨g, 1, none⟩ = some (.slice (some ⟨gi, 0, none⟩) n c2) ∧ ((w4.drew.setCell ⟨gi, k * 9 + 7, none⟩ (.bool true)).setCell ⟨gi, k * 9 + 8, none⟩ (.int .i64 a6)).cell? ⟨bx, 6, none⟩ = some (.int .i64 a6) :=
              ⟨blk_cell VG6.out 1, blk_cell (blk_far (blk_far BS5.out (p := ⟨gi, k * 9 + 7, none⟩) (fun e => by have h1 := GI.out.2.2; have h2 := BX.out; change bx = gi at e; omega) (.bool true)) (p := ⟨gi, k * 9 + 8, none⟩) (fun e => by have h1 := GI.out.2.2; have h2 := BX.out; change bx = gi at e; omega) (.int .i64 a6)) 6⟩
            have y8 : w4.cell? ⟨gi, k * 9 + 8, none⟩ = some (.int .i64 a8) := x8
            have z8 : w4.frozen? ⟨gi, k * 9 + 8, none⟩ = false := hz8
            have Z8 := Lib.hid (And.intro y8 z8)
            have HS1 := Lib.hid hS1
            have HS2 := Lib.hid hS2
            clear hseg hcc3 hcc4 hcl3 hKc3 hCC hnn hnc VR4 VG4 HBS B4 hb0 hb6 hg2 hS1 hS2 y8 z8 x8 hz8 VR5 VG5 BS5 B5
            refine wp_region_held_drew (S := fun w' => w'.cell? ⟨g, 1, none⟩ = some (.slice (some ⟨gi, 0, none⟩) n c2) ∧ w'.cell? ⟨bx, 6, none⟩ = some (.int .i64 a6)) (by kernel_rfl) ⟨hg1, hx6⟩ (fun hHeld => ?_)
            refine wpAnyH_take (i := 0) (v := .pointer (some ⟨g, 0, none⟩)) rfl (by kernel_rfl) (by kernel_rfl) (by kernel_rfl) (fun _ _ _ h => h) (y_move (by rfl) rfl rfl) hHeld ?_
            try simp only [Act.put, List.getElem_toArray, List.getElem_cons_succ, List.getElem_cons_zero, List.setIfInBounds_toArray, List.set_cons_zero, List.set_cons_succ]
            refine wpAnyH_take (i := 1) (v := .pointer (some ⟨g, 0, none⟩)) rfl (by kernel_rfl) (by kernel_rfl) (by kernel_rfl) (fun _ _ _ h => h) (y_nil (by rfl) rfl rfl) hHeld ?_
            try simp only [Act.put, List.getElem_toArray, List.getElem_cons_succ, List.getElem_cons_zero, List.setIfInBounds_toArray, List.set_cons_zero, List.set_cons_succ]
            refine wpAnyH_take (i := 2) (v := .pointer (some ⟨g, 1, none⟩)) rfl (by kernel_rfl) (by kernel_rfl) (by kernel_rfl) (fun _ _ _ h => h) (y_field (by rfl) rfl rfl (fld_R1 _)) hHeld ?_
            try simp only [Act.put, List.getElem_toArray, List.getElem_cons_succ, List.getElem_cons_zero, List.setIfInBounds_toArray, List.set_cons_zero, List.set_cons_succ]
            refine wpAnyH_take (i := 3) (v := .slice (some ⟨gi, 0, none⟩) n c2) rfl (by kernel_rfl) (by kernel_rfl) (by kernel_rfl) (fun _ _ _ h => h) (y_loadIs (by rfl) rfl rfl (fun w h => h.1)) hHeld ?_
            try simp only [Act.put, List.getElem_toArray, List.getElem_cons_succ, List.getElem_cons_zero, List.setIfInBounds_toArray, List.set_cons_zero, List.set_cons_succ]
            refine wpAnyH_take (i := 4) (v := .int .i64 (k : Int)) rfl (by kernel_rfl) (by kernel_rfl) (by kernel_rfl) (fun _ _ _ h => h) (y_move (by rfl) rfl rfl) hHeld ?_
            try simp only [Act.put, List.getElem_toArray, List.getElem_cons_succ, List.getElem_cons_zero, List.setIfInBounds_toArray, List.set_cons_zero, List.set_cons_succ]
            refine wpAnyH_take (i := 5) (v := .pointer (some ⟨g, 0, none⟩)) rfl (by kernel_rfl) (by kernel_rfl) (by kernel_rfl) (fun _ _ _ h => h) (y_move (by rfl) rfl rfl) hHeld ?_
            try simp only [Act.put, List.getElem_toArray, List.getElem_cons_succ, List.getElem_cons_zero, List.setIfInBounds_toArray, List.set_cons_zero, List.set_cons_succ]
            refine wpAnyH_take (i := 6) (v := .pointer (some ⟨g, 0, none⟩)) rfl (by kernel_rfl) (by kernel_rfl) (by kernel_rfl) (fun _ _ _ h => h) (y_nil (by rfl) rfl rfl) hHeld ?_
            try simp only [Act.put, List.getElem_toArray, List.getElem_cons_succ, List.getElem_cons_zero, List.setIfInBounds_toArray, List.set_cons_zero, List.set_cons_succ]
            refine wpAnyH_take (i := 7) (v := .pointer (some ⟨g, 1, none⟩)) rfl (by kernel_rfl) (by kernel_rfl) (by kernel_rfl) (fun _ _ _ h => h) (y_field (by rfl) rfl rfl (fld_R1 _)) hHeld ?_
            try simp only [Act.put, List.getElem_toArray, List.getElem_cons_succ, List.getElem_cons_zero, List.setIfInBounds_toArray, List.set_cons_zero, List.set_cons_succ]
            refine wpAnyH_take (i := 8) (v := .slice (some ⟨gi, 0, none⟩) n c2) rfl (by kernel_rfl) (by kernel_rfl) (by kernel_rfl) (fun _ _ _ h => h) (y_loadIs (by rfl) rfl rfl (fun w h => h.1)) hHeld ?_
            try simp only [Act.put, List.getElem_toArray, List.getElem_cons_succ, List.getElem_cons_zero, List.setIfInBounds_toArray, List.set_cons_zero, List.set_cons_succ]
            refine wpAnyH_take (i := 9) (v := .int .i64 (k : Int)) rfl (by kernel_rfl) (by kernel_rfl) (by kernel_rfl) (fun _ _ _ h => h) (y_move (by rfl) rfl rfl) hHeld ?_
            try simp only [Act.put, List.getElem_toArray, List.getElem_cons_succ, List.getElem_cons_zero, List.setIfInBounds_toArray, List.set_cons_zero, List.set_cons_succ]
            refine wpAnyH_take (i := 10) (v := .pointer (some ⟨bx, 6, none⟩)) rfl (by kernel_rfl) (by kernel_rfl) (by kernel_rfl) (fun _ _ _ h => h) (y_field (by rfl) rfl rfl (fld_I1 _)) hHeld ?_
            try simp only [Act.put, List.getElem_toArray, List.getElem_cons_succ, List.getElem_cons_zero, List.setIfInBounds_toArray, List.set_cons_zero, List.set_cons_succ]
            refine wpAnyH_take (i := 11) (v := .int .i64 a6) rfl (by kernel_rfl) (by kernel_rfl) (by kernel_rfl) (fun _ _ _ h => h) (y_load (by rfl) rfl rfl (fun w h => h.2)) hHeld ?_
            try simp only [Act.put, List.getElem_toArray, List.getElem_cons_succ, List.getElem_cons_zero, List.setIfInBounds_toArray, List.set_cons_zero, List.set_cons_succ]
            refine wpAnyH_take (i := 12) (v := .pointer (some ⟨gi, k * 9, none⟩)) rfl (by kernel_rfl) (by kernel_rfl) (by kernel_rfl) (fun _ _ _ h => h) (y_idxIs (by rfl) rfl rfl rfl hlt) hHeld ?_
            try simp only [Act.put, List.getElem_toArray, List.getElem_cons_succ, List.getElem_cons_zero, List.setIfInBounds_toArray, List.set_cons_zero, List.set_cons_succ]
            refine wpAnyH_take (i := 13) (v := .pointer (some ⟨gi, k * 9 + 7, none⟩)) rfl (by kernel_rfl) (by kernel_rfl) (by kernel_rfl) (fun _ _ _ h => h) (y_fieldk (by rfl) rfl rfl (fld_I2 _ _)) hHeld ?_
            try simp only [Act.put, List.getElem_toArray, List.getElem_cons_succ, List.getElem_cons_zero, List.setIfInBounds_toArray, List.set_cons_zero, List.set_cons_succ]
            refine wpAnyH_ready (rs := [14]) (by kernel_rfl) (by simp) ?_
            refine AllReadyH.cons rfl (fun K hK => ?_) AllReadyH.nil
            try simp only [Act.put, List.getElem_toArray, List.getElem_cons_succ, List.getElem_cons_zero, List.setIfInBounds_toArray, List.set_cons_zero, List.set_cons_succ]
            rw [if_pos (by rfl)]
            go_simp
            refine hK.out _ _ HS1.out (fun hHeld => ?_)
            clear hK K
            try simp only [Act.put, List.getElem_toArray, List.getElem_cons_succ, List.getElem_cons_zero, List.setIfInBounds_toArray, List.set_cons_zero, List.set_cons_succ]
            refine wpAnyH_take (i := 15) (v := .pointer (some ⟨gi, k * 9, none⟩)) rfl (by kernel_rfl) (by kernel_rfl) (by kernel_rfl) (fun _ _ _ h => h) (y_idxIs (by rfl) rfl rfl rfl hlt) hHeld ?_
            try simp only [Act.put, List.getElem_toArray, List.getElem_cons_succ, List.getElem_cons_zero, List.setIfInBounds_toArray, List.set_cons_zero, List.set_cons_succ]
            refine wpAnyH_take (i := 16) (v := .pointer (some ⟨gi, k * 9 + 8, none⟩)) rfl (by kernel_rfl) (by kernel_rfl) (by kernel_rfl) (fun _ _ _ h => h) (y_fieldk (by rfl) rfl rfl (fld_I3 _ _)) hHeld ?_
            try simp only [Act.put, List.getElem_toArray, List.getElem_cons_succ, List.getElem_cons_zero, List.setIfInBounds_toArray, List.set_cons_zero, List.set_cons_succ]
            obtain ⟨hx8, hz8⟩ := Z8.out
            refine wpAnyH_ready (rs := [17]) (by kernel_rfl) (by simp) ?_
            refine AllReadyH.cons rfl (fun K hK => ?_) AllReadyH.nil
            try simp only [Act.put, List.getElem_toArray, List.getElem_cons_succ, List.getElem_cons_zero, List.setIfInBounds_toArray, List.set_cons_zero, List.set_cons_succ]
            rw [if_pos (by rfl)]
            go_simp
            refine hK.out _ _ HS2.out (fun hHeld => ?_)
            clear hK K
            try simp only [Act.put, List.getElem_toArray, List.getElem_cons_succ, List.getElem_cons_zero, List.setIfInBounds_toArray, List.set_cons_zero, List.set_cons_succ]
            refine wpAnyH_done (by kernel_rfl) ?_ _
            clear hHeld x7 hz7 hx8 hz8 hg1 hx6
            go_wp2_with fail
            exact ⟨⟨k + 1, by omega, by go_num, VG6.out, VR6.out, B6.out⟩, by simp [RowKit.intOf]; omega⟩
          · have q1 : decide (a0 < a6) = false := decide_eq_false c1
            have S := Lib.hid (E0.out.trans (if_neg (by
              rintro (h | ⟨h, _⟩ | ⟨_, h⟩)
              · exact c0 h
              · exact absurd h (by decide)
              · exact c1 h)))
            have N := Lib.hid (HSM.out S.out)
            clear c0 c1
            go_wp2_with fail
            exact ⟨⟨k + 1, by omega, by go_num, VG4.out, by rw [← N.out]; exact VR4.out, B4.out⟩, by simp [RowKit.intOf]; omega⟩
    · obtain rfl : k = n := by omega
      have hst : isome gr is k = startP rm is := by unfold startP; rw [GE.out, ← ML.out, isome_all]
      have hIR : IsR wr w.heap.size g rm gr (startP rm is) := ⟨_, hVG.out, by rw [← hst]; exact hVR.out⟩
      have hsl : (startP rm is).length = k := by unfold startP; rw [List.length_map]; exact ML.out
      have hT1 : ∀ x, x ∈ startP rm is → TameI x := fun x hx => by
        obtain ⟨y, hy, rfl⟩ := List.mem_map.1 hx
        exact tame_init (T0.out y hy) _
      have hen : endP rm is = runP gr rm (freeP rm nowOf (startP rm is)) (unset (startP rm is)) (startP rm is) := by
        unfold endP
        rw [GE.out]
        refine run_enough _ _ _ _ _ _ ?_ (Nat.le_refl _)
        have h1 : unset (startP rm is) ≤ (startP rm is).length := List.length_filter_le _ _
        rw [hsl] at h1
        rw [ML.out]
        exact h1
      have hfb := free_bd rm nowOf (startP rm is) (fun x hx => tame_small (hT1 x hx)) (startP rm is).length (Nat.le_refl _)
      rw [List.take_length, hsl] at hfb
      have NOW := Lib.hid (now_c w.heap.size g rm gr (startP rm is) wr hIR (fun x hx => tame_small (hT1 x hx)) (by omega) hrb.1 hrb.2)
      have T1 := Lib.hid hT1
      have IR := Lib.hid hIR
      have EN := Lib.hid hen
      have SL := Lib.hid hsl
      have B3 := Lib.hid hBz.out
      generalize startP rm is = st at *
      obtain ⟨fi, hfi⟩ : ∃ fi, freeP rm nowOf st = fi := ⟨_, rfl⟩
      rw [hfi] at hfb NOW EN
      obtain ⟨W3, rfl⟩ : ∃ W3 : World, W3 = wr := ⟨_, rfl⟩
      clear hVG hVR hBz hst hIR hsl hT1 hen hfi VG VR BW
      go_wp2_with fail
      refine NOW.out.mono ?_
      rintro e w5 ⟨rfl, h5⟩
      have IR5 := Lib.hid (IR.out.below h5)
      have B5 := Lib.hid (B3.out.trans (h5.mono (by have := B3.out.size; omega)))
      clear h5 IR B3 NOW
      go_wp2_with fail
      go_loopw [] (fun wr => ∃ ls : List It, Hid (ls.length = k) ∧ Hid (∀ x, x ∈ ls → TameI x) ∧ Hid (runP gr rm fi (unset ls) ls = endP rm is) ∧ Hid (IsR wr w.heap.size g rm gr ls) ∧ Hid (Below w.heap.size w wr)) (fun wr => unsetW wr g k)
      case atStart => exact ⟨st, SL.out, T1.out, EN.out.symm, IR5.out, B5.out⟩
      case round =>
        obtain ⟨ls, hLL, hTL, hRU, hIR, hBz⟩ := hrel
        obtain ⟨A3, c3, r0, r1, r2, r3, r4, r5⟩ := hIR.out.reads
        rw [hLL.out] at r1 r3
        have hu := unsetW_eq hIR.out
        rw [hLL.out] at hu
        have hll := hLL.out
        have TRN := Lib.hid (fun ww hB => turn_c w.heap.size g rm gr ls fi ww (hIR.out.below hB) hTL.out (by omega) hrb.1 hrb.2 (by omega) (by omega))
        by_cases hun : 0 < unset ls
        · have CON := Lib.hid (contains_c A3 k c3 ls true wr r3 hn (decide_eq_true hun))
          have hlt := turnG_less gr rm fi ls hun
          have hrt := run_turn gr rm fi ls hun
          have hle := turnG_len gr rm fi ls
          have htt := tame_turn hTL.out (partsP gr ls (free1 gr rm fi ls))
          rw [hRU.out] at hrt
          have LT := Lib.hid hlt
          have RT := Lib.hid hrt
          have LE := Lib.hid hle
          have TT := Lib.hid htt
          have HU := Lib.hid hu
          clear hlt hrt hle htt hu r0 r2 r3 r4 r5 hun
          go_wp2_with fail
          refine CON.out.mono ?_
          rintro e w6 ⟨rfl, h6⟩
          have B6 := Lib.hid (hBz.out.trans (h6.mono (by have := hBz.out.size; omega)))
          have TC := Lib.hid (TRN.out w6 h6 (by have := B6.out.size; omega))
          clear h6 r1
          go_wp2_with fail
          refine TC.out.mono ?_
          rintro e w7 ⟨rfl, h7, h8⟩
          have IR7 := Lib.hid h7
          have B7 := Lib.hid (B6.out.trans h8)
          clear h7 h8
          go_wp2_with fail
          refine ⟨⟨turnG gr rm fi ls, by rw [LE.out]; exact hLL.out, TT.out, RT.out, IR7.out, B7.out⟩, ?_⟩
          have h9 := unsetW_eq IR7.out
          rw [LE.out, hLL.out] at h9
          rw [h9, HU.out]
          exact LT.out
        · have CON := Lib.hid (contains_c A3 k c3 ls false wr r3 hn (decide_eq_false hun))
          have hu0 : unset ls = 0 := by omega
          have hru := hRU.out
          rw [hu0] at hru
          have hru2 : ls = endP rm is := hru
          have hml : mainsP room gap l = ls.map fun x => max 0 x.f3 := by rw [MP.out, hru2]
          have ML2 := Lib.hid hml
          clear hu hu0 hru hru2 hml r0 r2 r3 r4 r5 hun TRN
          go_wp2_with fail
          refine CON.out.mono ?_
          rintro e w6 ⟨rfl, h6⟩
          have B6 := Lib.hid (hBz.out.trans (h6.mono (by have := hBz.out.size; omega)))
          have IR6 := Lib.hid (hIR.out.below h6)
          clear h6 r1
          obtain ⟨A6, c6, r0, r1, r2, r3, r4, r5⟩ := IR6.out.reads
          rw [hLL.out] at r1 r3
          have R3 := Lib.hid r3
          clear r0 r2 r3 r4 r5
          go_wp2_with fail
          clear r1
          obtain ⟨V, rfl⟩ : ∃ V : World, V = w6 := ⟨_, rfl⟩
          go_loopw [11, 110] (fun o i wr => ∃ j : Nat, j ≤ k ∧ i = .int .i64 j ∧ Hid (wr.ownsRow V.heap.size 3 1 o j (nums .i64 ((ls.take j).map fun x => max 0 x.f3))) ∧ Hid (Below V.heap.size V wr)) (fun _ i _ => k - (RowKit.intOf i).toNat)
          case atStart => exact ⟨0, Nat.zero_le _, rfl, own_nil _ _ _ _, Below.refl _ _⟩
          case round =>
            obtain ⟨j, hj, rfl, hO, hBv⟩ := hrel
            by_cases hlt3 : j < k
            · have hjl : j < ls.length := by rw [hLL.out]; exact hlt3
              obtain ⟨ad, ea, x0, x1, x2, x3, x4, x5, x6, x7, x8⟩ := at_T95 (Kd.C_below R3.out hBv.out) (j : Int) (by omega) (by omega)
              subst ea
              rw [Int.toNat_natCast] at x0 x1 x2 x3 x4 x5 x6 x7 x8
              have htk : (ls.take (j + 1)).map (fun x => max 0 x.f3) = (ls.take j).map (fun x => max 0 x.f3) ++ [max 0 (rd_T95 ls (j : Int)).f3] := by rw [take_snocI ls j hjl, List.map_append]; rfl
              have hlen : ((ls.take j).map fun x => max 0 x.f3).length = j := by rw [List.length_map, List.length_take]; omega
              generalize rd_T95 ls (j : Int) = x at *
              obtain ⟨⟨a0, a1, a2, a3, a4, a5⟩, a6, a7, a8⟩ := x
              simp only at x0 x1 x2 x3 x4 x5 x6 x7 x8 htk
              have hal := below_alloc (Below.refl wr.heap.size wr) (.cells (itV ⟨⟨a0, a1, a2, a3, a4, a5⟩, a6, a7, a8⟩).toArray 95)
              have OA := Lib.hid (pw_own_below hO.out hal)
              have BA := Lib.hid (below_then hBv.out hBv.out.size hal)
              have TK := Lib.hid htk
              have LEN := Lib.hid hlen
              generalize (ls.take j).map (fun x => max 0 x.f3) = acc at *
              clear hal htk hlen hjl hO hBv
              go_wp2_with (at_builtin; go_loud (refine print_append_num (w0 := V) V.heap.size rfl (.tmp 114) (.tmp 118) 33 3 .i64 8 rfl Try.underlying33 info (by decide) _ acc _ rfl (by show Value.slice (some ⟨wr.heap.size + 1, 0, none⟩) 1 1 = _; rw [World.size_alloc]) (by rw [LEN.out]; exact OA.out) BA.out BA.out.size (by rw [LEN.out]; omega) ?_); intro v1 w7 hO1 hB1 hG1 hat1; have O1 := Lib.hid hO1; have B1 := Lib.hid hB1; clear hO1 hB1 hG1 hat1)
              have hO1 := O1.out
              rw [List.length_append, LEN.out] at hO1
              exact ⟨⟨j + 1, by omega, by go_num, by rw [TK.out]; exact hO1, B1.out⟩, by simp [RowKit.intOf]; omega⟩
            · obtain rfl : j = k := by omega
              have hO1 := hO.out
              rw [List.take_of_length_le (by rw [hLL.out]; exact Nat.le_refl _), ← ML2.out] at hO1
              have POST : Hid (∀ v, v = u11 → MainsPost room gap l w (.returned v) wr) := Lib.hid (fun v hv => by
                subst hv
                exact ⟨_, rfl, by rw [LN.out]; exact ⟨hO1.1, hO1.2.imp id (fun ⟨g, cap, cur, hv, hb, r⟩ => ⟨g, cap, cur, hv, Nat.le_trans B6.out.size hb, r⟩)⟩, B6.out.trans (hBv.out.mono B6.out.size)⟩)
              clear hO1 hO hBv
              go_wp2_with fail
              go_ret
              exact POST.out _ rfl
end Go.Proofs.Ytfkgpkkjiolfpaa.Flx
