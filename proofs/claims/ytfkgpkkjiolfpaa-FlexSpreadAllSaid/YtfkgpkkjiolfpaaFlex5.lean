/- Flexible rows: the parts of the free room, walked. For every input. -/
import Derived.Test.YtfkgpkkjiolfpaaFlex4
namespace Go.Proofs.Ytfkgpkkjiolfpaa.Flx
open Go.RowKit Go.Lib Go.Proofs.Ytfkgpkkjiolfpaa.Rgn Go.Proofs.Ytfkgpkkjiolfpaa.Pl Go.Proofs.Ytfkgpkkjiolfpaa.Fx Go.Proofs.Ytfkgpkkjiolfpaa.Sh Go.Proofs.Ytfkgpkkjiolfpaa.Sm Go.Proofs.YtfkgpkkjiolfpaaW.PrintWords Go.Proofs.YtfkgpkkjiolfpaaW.PrintLast Go.Proofs.YtfkgpkkjiolfpaaW.PrintMore
set_option linter.unusedVariables false
set_option linter.unusedSimpArgs false
attribute [local go_sem] mx2 mn2 mx_two mn_two mx_three mn_three

set_option maxRecDepth 100000 in
set_option maxHeartbeats 2000000 in
theorem parts_c (base g : Nat) (room : Int) (grows : Bool) (l : List It) (free : Int) (w : World) (h : IsR w base g room grows l) (hl : l.length ≤ 1000) (hf0 : -1000000000000000000 ≤ free) (hf1 : free ≤ 1000000000000000000) :
    Calls Try.prog 78 #[.pointer (some ⟨g, 0, none⟩), .int .i64 free] w (PartsPost grows l free w) := by
  obtain ⟨A, c, h0, h1, h2, h3, h4, h5⟩ := h.reads
  have H3 := Lib.hid h3
  obtain ⟨m, hm⟩ : ∃ m, l.length = m := ⟨_, rfl⟩
  have HM := Lib.hid hm
  rw [hm] at h1 h5 hl
  have hmk := print_make (P := Try.prog) 33 3 .i64 8 Try.underlying33 info (by decide) m (by omega)
  have k0 := own_made w w.heap.size 3 .i64 m (Nat.le_refl _) (by omega)
  have K0 := Lib.hid k0
  have B0 := Lib.hid (below_alloc (Below.refl w.heap.size w) (.cells (madeCells #[.int .i64 0] m) 3))
  have e1 : (w.alloc (.cells (madeCells #[.int .i64 0] m) 3)).cell? ⟨g, 1, none⟩ = some (.slice A m c) := by
    rw [Below.cell (below_alloc (Below.refl w.heap.size w) _) h4]; exact h1
  have H2 := Lib.hid h2
  clear h h3 hm k0 h2 h0
  go_enter Try.func78, Try.ntmps78
  go_wp2_with fail
  clear e1 hmk h1
  generalize w.alloc (.cells (madeCells #[.int .i64 0] m) 3) = W at *
  go_loopw [21] (fun i wr => ∃ k : Nat, k ≤ m ∧ i = .int .i64 k ∧ Hid (wr.ownsRow w.heap.size 3 1 (.slice (some ⟨w.heap.size, 0, none⟩) m m) m (nums .i64 (wsome grows l k))) ∧ Hid (Below w.heap.size w wr)) (fun i _ => m - (RowKit.intOf i).toNat)
  case atStart => exact ⟨0, Nat.zero_le _, rfl, by rw [wsome_zero, HM.out]; exact K0.out, B0.out⟩
  case round =>
    obtain ⟨k, hk, rfl, hO, hB⟩ := hrel
    by_cases hlt : k < m
    · have hkl : k < l.length := by rw [HM.out]; exact hlt
      obtain ⟨ad, ea, x0, x1, x2, x3, x4, x5, x6, x7, x8⟩ := at_T95 (Kd.C_below H3.out hB.out) (k : Int) (by omega) (by rw [HM.out]; omega)
      subst ea
      rw [Int.toNat_natCast] at x0 x1 x2 x3 x4 x5 x6 x7 x8
      have hrd : rd_T95 l (k : Int) = l.getD k z95 := by simp [rd_T95]
      rw [hrd] at x0 x1 x2 x3 x4 x5 x6 x7 x8
      have hset := wsome_set grows l k hkl
      have hsame := wsome_same grows l k hkl
      have g2 : wr.cell? ⟨g, 2, none⟩ = some (.bool grows) := (hB.out.cell (p := ⟨g, 2, none⟩) h4).trans H2.out
      have hgl : g < wr.heap.size := Nat.lt_of_lt_of_le h4 hB.out.size
      obtain ⟨hc1, hf1⟩ := own_at hO.out (k : Int) (by omega) (by omega)
      rw [Int.toNat_natCast] at hc1 hf1
      have hwl : w.heap.size < wr.heap.size := by
        have := own_lt hO.out w.heap.size rfl
        exact this
      generalize l.getD k z95 = x at *
      obtain ⟨⟨a0, a1, a2, a3, a4, a5⟩, a6, a7, a8⟩ := x
      simp only at x0 x1 x2 x3 x4 x5 x6 x7 x8
      generalize rd (wsome grows l k) (k : Int) = old at *
      obtain ⟨wt, hwt⟩ : ∃ wt, wgtP grows ⟨⟨a0, a1, a2, a3, a4, a5⟩, a6, a7, a8⟩ = wt := ⟨_, rfl⟩
      rw [hwt] at hset hsame
      have hal := below_alloc (Below.refl wr.heap.size wr) (.cells (itV ⟨⟨a0, a1, a2, a3, a4, a5⟩, a6, a7, a8⟩).toArray 95)
      have hO1 := pw_own_below hO.out hal
      have hB1 := below_then hB.out hB.out.size hal
      have hst0 := (own_store hO.out (k : Int) wt).1
      rw [Int.toNat_natCast, hset] at hst0
      have hst := pw_own_below hst0 (below_alloc (Below.refl _ _) (.cells (itV ⟨⟨a0, a1, a2, a3, a4, a5⟩, a6, a7, a8⟩).toArray 95))
      have hbs := below_alloc (hB.out.setCell (p := ⟨w.heap.size, k, none⟩) (Nat.le_refl _) (.int .i64 wt)) (.cells (itV ⟨⟨a0, a1, a2, a3, a4, a5⟩, a6, a7, a8⟩).toArray 95)
      have hwt2 : wgtP grows ⟨⟨a0, a1, a2, a3, a4, a5⟩, a6, a7, a8⟩ = if a7 = true then 0 else if grows = true then a3 else prt a4 (max 0 a0) 64 := rfl
      rw [hwt] at hwt2
      have HST := Lib.hid hst
      have HBS := Lib.hid hbs
      have HSAME := Lib.hid hsame
      have HO1 := Lib.hid hO1
      have HB1 := Lib.hid hB1
      have n0 : (0 : Int) ≤ 64 := by omega
      have N0 := Lib.hid n0
      clear hst hst0 hbs hsame hset hO1 hB1 hal hrd hkl hwt n0 hO hB
      cases a7 with
      | true =>
        have hw0 : wt = 0 := hwt2
        have HS2 := Lib.hid (HSAME.out hw0)
        clear hwt2 hw0
        go_wp2_with fail
        exact ⟨⟨k + 1, by omega, by go_num, by rw [← HS2.out]; exact HO1.out, HB1.out⟩, by simp [RowKit.intOf]; omega⟩
      | false =>
        cases grows with
        | true =>
          have hw0 : wt = a3 := hwt2
          subst hw0
          clear hwt2
          go_wp2_with fail
          exact ⟨⟨k + 1, by omega, by go_num, HST.out, HBS.out⟩, by simp [RowKit.intOf]; omega⟩
        | false =>
          have hw0 : wt = prt a4 (max 0 a0) 64 := hwt2
          subst hw0
          clear hwt2
          go_wp2_with (first
            | (go_at_call 55; refine (Part_c _ _ _ _ N0.out).mono ?_; rintro e w' ⟨rfl, rfl⟩))
          exact ⟨⟨k + 1, by omega, by go_num, HST.out, HBS.out⟩, by simp [RowKit.intOf]; omega⟩
    · obtain rfl : k = m := by omega
      rw [← HM.out, wsome_all] at hO
      rw [HM.out] at hO
      have hwl : (l.map (wgtP grows)).length = k := by rw [List.length_map]; exact HM.out
      obtain ⟨_, _, ev, hrd⟩ := own_reads hO.out
      injection ev with ev1 _ ev3
      subst ev1
      have g2 : wr.cell? ⟨g, 2, none⟩ = some (.bool grows) := (hB.out.cell (p := ⟨g, 2, none⟩) h4).trans H2.out
      have HRD := Lib.hid hrd
      have hpp : partsP grows l free = if grows = true then share (max 0 free) (l.map (wgtP grows)) else (share (max 0 (-free)) (l.map (wgtP grows))).map fun x => -x := rfl
      have HPP := Lib.hid hpp
      have HB := hB
      have HWL := Lib.hid hwl
      have hk8 : k * 8 ≤ 140737488351232 := by omega
      have HK8 := Lib.hid hk8
      clear hrd hpp hO hB ev3 hwl hk8
      generalize l.map (wgtP grows) = ws at *
      cases grows with
      | true =>
        have hq : partsP true l free = share (max 0 free) ws := HPP.out
        have HQ := Lib.hid hq
        clear hq
        go_wp2_with fail
        refine (Share_c (max 0 free) wr _ k _ ws HRD.out HK8.out).mono ?_
        rintro e w2 ⟨v, rfl, hO2, hB2⟩
        have POST : Hid (PartsPost true l free w (.returned v) w2) := Lib.hid ⟨v, rfl, by rw [HQ.out, HM.out]; exact own_weaken hO2 HB.out.size, below_then HB.out HB.out.size hB2⟩
        clear hO2 hB2
        go_wp2_with fail
        go_ret
        exact POST.out
      | false =>
        have hq : partsP false l free = (share (max 0 (-free)) ws).map fun x => -x := HPP.out
        have HQ := Lib.hid hq
        clear hq
        go_wp2_with fail
        refine (Share_c (max 0 (-free)) wr _ k _ ws HRD.out HK8.out).mono ?_
        rintro e w2 ⟨v, rfl, hO2, hB2⟩
        have hsl : (share (max 0 (-free)) ws).length = k := by rw [share_len, HWL.out]
        have hse : ∀ j, j < k → -33554432 ≤ (share (max 0 (-free)) ws).getD j 0 ∧ (share (max 0 (-free)) ws).getD j 0 ≤ 33554432 := fun j hj => share_el _ _ j (by rw [HWL.out]; exact hj)
        have HSE := Lib.hid hse
        have HSL := Lib.hid hsl
        clear hse hsl
        generalize share (max 0 (-free)) ws = sh at *
        obtain ⟨As, cs, rfl⟩ := own_slice hO2
        have O2 := Lib.hid hO2
        have B2 := Lib.hid (below_then HB.out HB.out.size hB2)
        have hsz := hB2.size
        have HSZ2 := Lib.hid (Nat.le_trans HB.out.size hB2.size)
        clear hO2 hB2 hsz HRD
        obtain ⟨W2, rfl⟩ : ∃ W2 : World, W2 = w2 := ⟨_, rfl⟩
        go_wp2_with fail
        obtain ⟨bs, hbs⟩ : ∃ bs, wr.heap.size = bs := ⟨_, rfl⟩
        have hbw : w.heap.size ≤ bs := by rw [← hbs]; exact HB.out.size
        rw [hbs] at O2
        clear hbs
        go_loopw [67] (fun i wz => ∃ j : Nat, j ≤ k ∧ i = .int .i64 j ∧ Hid (wz.ownsRow bs 3 1 (.slice As k cs) k (nums .i64 (nsome sh j))) ∧ Hid (Below w.heap.size w wz)) (fun i _ => k - (RowKit.intOf i).toNat)
        case atStart => exact ⟨0, Nat.zero_le _, rfl, by rw [nsome_zero]; exact O2.out, B2.out⟩
        case round =>
          obtain ⟨j, hj, rfl, hOz, hBz⟩ := hrel
          by_cases hlt2 : j < k
          · have hform : ∃ gs, As = some ⟨gs, 0, none⟩ ∧ bs ≤ gs := by
              rcases hOz.out.2 with ⟨hv, h00⟩ | ⟨gs, cap, cur, hv, hb, _⟩
              · omega
              · injection hv with hv1
                exact ⟨gs, hv1, hb⟩
            obtain ⟨gs, rfl, hgs⟩ := hform
            obtain ⟨hc1, hf1⟩ := own_at hOz.out (j : Int) (by omega) (by omega)
            rw [Int.toNat_natCast] at hc1 hf1
            have hr1 : rd (nsome sh j) (j : Int) = sh.getD j 0 := by
              have := nsome_get sh j (by rw [HSL.out]; exact hlt2)
              simpa [rd] using this
            rw [hr1] at hc1
            have hse := HSE.out j hlt2
            have hst := (own_store hOz.out (j : Int) (-(sh.getD j 0))).1
            rw [Int.toNat_natCast, nsome_set sh j (by rw [HSL.out]; exact hlt2)] at hst
            have HST := Lib.hid hst
            have HBS := Lib.hid (hBz.out.setCell (p := ⟨gs, j, none⟩) (by show w.heap.size ≤ gs; omega) (.int .i64 (-(sh.getD j 0))))
            generalize sh.getD j 0 = y at *
            clear hst hr1 hOz hBz
            go_wp2_with fail
            exact ⟨⟨j + 1, by omega, by go_num, HST.out, HBS.out⟩, by simp [RowKit.intOf]; omega⟩
          · obtain rfl : j = k := by omega
            have POST : Hid (PartsPost false l free w (.returned (.slice As j cs)) wr) := Lib.hid ⟨_, rfl, by
              rw [HQ.out, HM.out, ← nsome_all, HSL.out]; exact own_weaken hOz.out hbw, hBz.out⟩
            clear hOz hBz
            go_wp2_with fail
            go_ret
            exact POST.out
end Go.Proofs.Ytfkgpkkjiolfpaa.Flx
