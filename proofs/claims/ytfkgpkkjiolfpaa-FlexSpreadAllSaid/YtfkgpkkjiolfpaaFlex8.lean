/- Flexible rows: a turn, walked. For every input. -/
import Derived.Test.YtfkgpkkjiolfpaaFlex7
namespace Go.Proofs.Ytfkgpkkjiolfpaa.Flx
open Go.RowKit Go.Lib Go.Proofs.Ytfkgpkkjiolfpaa.Rgn Go.Proofs.Ytfkgpkkjiolfpaa.Pl Go.Proofs.Ytfkgpkkjiolfpaa.Fx Go.Proofs.Ytfkgpkkjiolfpaa.Sh Go.Proofs.Ytfkgpkkjiolfpaa.Sm Go.Proofs.YtfkgpkkjiolfpaaW.PrintWords Go.Proofs.YtfkgpkkjiolfpaaW.PrintLast Go.Proofs.YtfkgpkkjiolfpaaW.PrintMore
set_option linter.unusedVariables false
set_option linter.unusedSimpArgs false
attribute [local go_sem] mx2 mn2 mx_two mn_two mx_three mn_three

theorem own_apart {w : World} {b1 b2 : Nat} {e1 e2 : TypeId} {s1 s2 n1 n2 : Nat} {v1 v2 : Value} {x1 x2 : List Value} {g1 g2 : Nat} (h1 : w.ownsRow b1 e1 s1 v1 n1 x1) (h2 : w.ownsRow b2 e2 s2 v2 n2 x2) (k1 : v1.ownBlock = some g1) (k2 : v2.ownBlock = some g2) (he : e1 ≠ e2) : g1 ≠ g2 := by
  rintro rfl
  obtain ⟨c1, h1⟩ := own_typed h1 g1 k1
  obtain ⟨c2, h2⟩ := own_typed h2 g1 k2
  rw [h1] at h2
  injection h2 with h2
  injection h2 with _ h2
  exact he h2
theorem at_is {w : World} {g n : Nat} {xs : List It} (h : Kd.C k95 w (some ⟨g, 0, none⟩) n xs) (j : Nat) (hj : j < n) : w.cell? ⟨g, j * 9 + 8, none⟩ = some (.int .i64 (xs.getD j z95).f3) := by
  obtain ⟨ad, ea, _, _, _, _, _, _, _, _, x8⟩ := at_T95 h (j : Int) (by omega) (by omega)
  injection ea with ea
  subst ea
  rw [Int.toNat_natCast] at x8
  have e : (⟨g, 0, none⟩ : Addr).add (j * 9) = ⟨g, j * 9, none⟩ := by rw [Addr.add_mid, Nat.zero_add]
  rw [e] at x8
  have e2 : rd_T95 xs (j : Int) = xs.getD j z95 := by simp [rd_T95]
  rw [e2] at x8
  exact x8
def TurnPost (base g : Nat) (room : Int) (grows : Bool) (l' : List It) (w : World) (e : Ending) (w' : World) : Prop := e = .returned (.tuple #[]) ∧ IsR w' base g room grows l' ∧ Below base w w'
set_option maxRecDepth 100000 in
set_option maxHeartbeats 4000000 in
theorem turn_c (base g : Nat) (room : Int) (grows : Bool) (l : List It) (first : Int) (w : World) (h : IsR w base g room grows l) (hT : ∀ x, x ∈ l → TameI x) (hl : l.length ≤ 1000) (hr0 : -1000000000000 ≤ room) (hr1 : room ≤ 1000000000000)
    (hf0 : -1000000000000000000 ≤ first) (hf1 : first ≤ 1000000000000000000) (hbg : base ≤ w.heap.size) :
    Calls Try.prog 51 #[.pointer (some ⟨g, 0, none⟩), .int .i64 first] w (TurnPost base g room grows (turnG grows room first l) w) := by
  obtain ⟨m, hm⟩ : ∃ m, l.length = m := ⟨_, rfl⟩
  have HM := Lib.hid hm
  have HT := Lib.hid hT
  have H := Lib.hid h
  have hfb := free_bd room nowOf l (fun x hx => tame_small (hT x hx)) l.length (Nat.le_refl _)
  rw [List.take_length] at hfb
  have NOW := Lib.hid (now_c base g room grows l w h (fun x hx => tame_small (hT x hx)) hl hr0 hr1)
  have SB := Lib.hid (sumU_bd grows l hT)
  have LL := Lib.hid hl
  have HBG := Lib.hid hbg
  rw [hm] at hl hfb
  clear h hT hm hbg
  obtain ⟨fn, hfn⟩ : ∃ fn, freeP room nowOf l = fn := ⟨_, rfl⟩
  have hf1e : free1 grows room first l = if sumU grows l < 1000 then near fn (prt first (sumU grows l) 1000) else fn := by unfold free1; rw [hfn]
  rw [hfn] at NOW hfb
  have F1E := Lib.hid hf1e
  obtain ⟨ps, hps⟩ : ∃ ps, partsP grows l (free1 grows room first l) = ps := ⟨_, rfl⟩
  have hTG : turnG grows room first l = turnP l ps := by unfold turnG; rw [hps]
  rw [hTG]
  have HPS := Lib.hid hps
  clear hfn hf1e hps hTG
  go_enter Try.func51, Try.ntmps51
  go_wp2_with fail
  refine NOW.out.mono ?_
  rintro e w1 ⟨rfl, h1⟩
  have R1 := Lib.hid (H.out.below h1)
  have B1 := Lib.hid (h1.mono HBG.out)
  obtain ⟨A, c, r0, r1, r2, r3, r4, r5⟩ := R1.out.reads
  rw [HM.out] at r1 r5
  have C3 := Lib.hid r3
  clear h1 r0 r2 r3 NOW
  obtain ⟨W1, rfl⟩ : ∃ W : World, W = w1 := ⟨_, rfl⟩
  go_wp2_with fail
  clear r1
  go_loopw [5, 22] (fun s i wr => ∃ k : Nat, k ≤ m ∧ i = .int .i64 k ∧ s = .int .i64 (sumU grows (l.take k)) ∧ Hid (Below W1.heap.size W1 wr)) (fun _ i _ => m - (RowKit.intOf i).toNat)
  case atStart => exact ⟨0, Nat.zero_le _, rfl, rfl, Below.refl _ _⟩
  case round =>
    obtain ⟨k, hk, rfl, rfl, hB⟩ := hrel
    by_cases hlt : k < m
    · have hkl : k < l.length := by rw [HM.out]; exact hlt
      obtain ⟨ad, ea, x0, x1, x2, x3, x4, x5, x6, x7, x8⟩ := at_T95 (Kd.C_below C3.out hB.out) (k : Int) (by omega) (by rw [HM.out]; omega)
      subst ea
      rw [Int.toNat_natCast] at x0 x1 x2 x3 x4 x5 x6 x7 x8
      have hsn := sumU_snoc grows (l.take k) (rd_T95 l (k : Int))
      rw [← take_snocI l k hkl] at hsn
      have hsb := SB.out k (by omega)
      have FAC := Lib.hid (fun ww hB => factor_c (rd_T95 l (k : Int)) base g room grows l ww (R1.out.below hB))
      have hfc : 0 ≤ facP grows (rd_T95 l (k : Int)) ∧ facP grows (rd_T95 l (k : Int)) ≤ 1000000 := by
        obtain ⟨_, _, _, _, h5, h6⟩ := HT.out _ (rd_memI l k hkl)
        unfold facP
        split <;> omega
      generalize rd_T95 l (k : Int) = x at *
      obtain ⟨⟨a0, a1, a2, a3, a4, a5⟩, a6, a7, a8⟩ := x
      simp only at x0 x1 x2 x3 x4 x5 x6 x7 x8 hsn
      generalize facP grows ⟨⟨a0, a1, a2, a3, a4, a5⟩, a6, a7, a8⟩ = fc at *
      generalize sumU grows (l.take k) = su at *
      have HSN := Lib.hid hsn
      have BA := Lib.hid (below_alloc hB.out (.cells (itV ⟨⟨a0, a1, a2, a3, a4, a5⟩, a6, a7, a8⟩).toArray 95))
      clear hsn hkl
      cases a7 with
      | true =>
        have e : sumU grows (l.take (k + 1)) = su := HSN.out
        have E := Lib.hid e
        clear e
        go_wp2_with fail
        exact ⟨⟨k + 1, by omega, by go_num, by rw [E.out], BA.out⟩, by simp [RowKit.intOf]; omega⟩
      | false =>
        have e : sumU grows (l.take (k + 1)) = su + fc := HSN.out
        have E := Lib.hid e
        clear e
        go_wp2_with fail
        refine (FAC.out _ BA.out).mono ?_
        rintro e w2 ⟨rfl, h2⟩
        have BB := Lib.hid (below_then BA.out BA.out.size h2)
        clear h2 x0 x1 x2 x3 x4 x5 x6 x7 x8
        go_wp2_with fail
        exact ⟨⟨k + 1, by omega, by go_num, by rw [E.out], BB.out⟩, by simp [RowKit.intOf]; omega⟩
    · obtain rfl : k = m := by omega
      have hkn : l.take k = l := List.take_of_length_le (by rw [HM.out]; exact Nat.le_refl _)
      have hsb := SB.out k (by rw [HM.out]; exact Nat.le_refl _)
      rw [hkn] at hsb ⊢
      obtain ⟨W2, rfl⟩ : ∃ W : World, W = wr := ⟨_, rfl⟩
      have R2 := Lib.hid (R1.out.below hB.out)
      have B2 := Lib.hid (B1.out.trans (hB.out.mono (Nat.le_trans HBG.out B1.out.size)))
      have FE := F1E.out
      obtain ⟨su, hsu⟩ : ∃ su, sumU grows l = su := ⟨_, rfl⟩
      rw [hsu] at FE hsb ⊢
      obtain ⟨fr, hfr⟩ : ∃ fr, free1 grows room first l = fr := ⟨_, rfl⟩
      rw [hfr] at FE HPS
      have hpb : -16777216 ≤ prt first su 1000 ∧ prt first su 1000 ≤ 16777216 := by
        unfold prt
        split
        · omega
        · exact cut_bd _
      have hfrb : -1000000000000000 ≤ fr ∧ fr ≤ 1000000000000000 := by
        rw [FE]
        split
        · unfold near
          split <;> omega
        · omega
      have n0 : (0 : Int) ≤ 1000 := by omega
      have N0 := Lib.hid n0
      have PTS := Lib.hid (parts_c base g room grows l fr W2 R2.out LL.out (by omega) (by omega))
      have HFE := Lib.hid FE
      clear hkn hB hsu hfr FE n0 SB F1E C3 R1
      by_cases hlow : su < 1000
      all_goals
        have E0 := HFE.out
        first | rw [if_pos hlow] at E0 | rw [if_neg hlow] at E0
        first
          | (have q0 : decide (su < 1000) = true := decide_eq_true hlow)
          | (have q0 : decide (su < 1000) = false := decide_eq_false hlow)
        have E := Lib.hid E0
        clear E0 hlow HFE
        go_wp2_with (first
          | (go_at_call 55; refine (Part_c _ _ _ _ N0.out).mono ?_; rintro e w' ⟨rfl, rfl⟩)
          | (go_at_call 77; refine (near_c _ _ _ (by omega) (by omega) (by omega) (by omega)).mono ?_; rintro e w' ⟨rfl, rfl⟩))
        rw [← E.out]
        refine PTS.out.mono ?_
        rintro e w3 ⟨vp, rfl, hOp, hBp⟩
        rw [HPS.out, HM.out] at hOp
        obtain ⟨Ap, cp, rfl⟩ := own_slice hOp
        have R3 := R2.out.below hBp
        obtain ⟨A3, c3, q0', q1', q2', q3', q4', q5'⟩ := R3.reads
        rw [HM.out] at q1' q5'
        have hmk := print_make (P := Try.prog) 33 3 .i64 8 Try.underlying33 info (by decide) k (by omega)
        have hal := below_alloc (Below.refl w3.heap.size w3) (.cells (madeCells #[.int .i64 0] k) 3)
        have q1a : (w3.alloc (.cells (madeCells #[.int .i64 0] k) 3)).cell? ⟨g, 1, none⟩ = some (.slice A3 k c3) := (hal.cell (p := ⟨g, 1, none⟩) q4').trans q1'
        have OB := Lib.hid (own_made w3 w3.heap.size 3 .i64 k (Nat.le_refl _) (by omega))
        have OP := Lib.hid (pw_own_below hOp hal)
        have RR := Lib.hid (R3.below hal)
        have B4 := Lib.hid ((B2.out.trans (hBp.mono (by have := B2.out.size; have := HBG.out; omega))).trans (hal.mono (by have := B2.out.size; have := HBG.out; have := hBp.size; omega)))
        have hplt : ∀ gp, Ap = some gp → gp.block < w3.heap.size := by
          intro gp hgp
          subst hgp
          rcases hOp.2 with ⟨hv, _⟩ | ⟨g', cap', cur', hv, _, hh, _⟩
          · cases hv
          · injection hv with hv
            injection hv with hv
            subst hv
            exact blk_lt hh
        have HPL := Lib.hid hplt
        have hb3 : base ≤ w3.heap.size := by have := B2.out.size; have := HBG.out; have := hBp.size; omega
        have HB3 := Lib.hid hb3
        obtain ⟨gb, hgb⟩ : ∃ gb, w3.heap.size = gb := ⟨_, rfl⟩
        have HGB := Lib.hid hgb
        clear hOp hBp R3 q0' q2' q3' hal hplt PTS hb3 hgb
        go_wp2_with fail
        generalize w3.alloc (.cells (madeCells #[.int .i64 0] k) 3) = W4 at *
        rw [HGB.out]
        rw [HGB.out] at OB HPL HB3
        obtain ⟨vi, hvg, hvR⟩ := RR.out
        have hvi : vi = .slice A3 k c3 := by
          have h1 : W4.cell? ⟨g, 1, none⟩ = some vi := blk_cell hvg 1
          rw [q1a] at h1
          injection h1 with h1
          exact h1.symm
        subst hvi
        have VG := Lib.hid hvg
        rw [← told_zero l ps] at hvR
        have VR := Lib.hid hvR
        have hkc : k ≤ c3 := q5'
        obtain ⟨bp, hbp⟩ : ∃ bp, W2.heap.size = bp := ⟨_, rfl⟩
        rw [hbp] at OP
        clear q1a q1' hmk hvg hvR hbp HGB RR
        go_loopw [8, 56] (fun ch i wr => ∃ j : Nat, j ≤ k ∧ i = .int .i64 j ∧ ch = .int .i64 (csum l ps j) ∧ Hid (wr.heap[g]? = some (.cells #[.int .i64 room, .slice A3 k c3, .bool grows] 92 (0, 0))) ∧ Hid (Kd.R k95 95 wr base (fun k => k ≠ g) (.slice A3 k c3) (told l ps j)) ∧
            Hid (wr.ownsRow gb 3 1 (.slice (some ⟨gb, 0, none⟩) k k) k (nums .i64 (bsome l ps j))) ∧ Hid (wr.ownsRow bp 3 1 (.slice Ap k cp) k (nums .i64 ps)) ∧ Hid (Below base w wr)) (fun _ i _ => k - (RowKit.intOf i).toNat)
        case atStart => exact ⟨0, Nat.zero_le _, rfl, by rw [csum_zero], VG.out, VR.out, by rw [bsome_zero, HM.out]; exact OB.out, OP.out, B4.out⟩
        case round =>
          obtain ⟨j, hj, rfl, rfl, hVG, hVR, hOB, hOP, hBz⟩ := hrel
          by_cases hlt2 : j < k
          · have hjl : j < l.length := by rw [HM.out]; exact hlt2
            obtain ⟨hnn, hnc, hCC⟩ := Kd.R_reads' hVR.out
            have hrd : rd_T95 (told l ps j) (j : Int) = l.getD j z95 := by
              have := told_get l ps j hjl
              simpa [rd_T95] using this
            obtain ⟨ad, ea, x0, x1, x2, x3, x4, x5, x6, x7, x8⟩ := at_T95 hCC (j : Int) (by omega) (by rw [told_len, HM.out]; omega)
            subst ea
            rw [Int.toNat_natCast, hrd] at x0 x1 x2 x3 x4 x5 x6 x7 x8
            have hform : ∃ gi, ad = ⟨gi, 0, none⟩ ∧ base ≤ gi ∧ gi ≠ g ∧ gi < wr.heap.size := by
              obtain ⟨hok, inner, hown, _⟩ := hVR.out
              rcases hown.2 with ⟨hv, _⟩ | ⟨gi, cap, cur, hv, hb, hh, _⟩
              · cases hv
              · injection hv with hv
                injection hv with hv
                subst hv
                exact ⟨gi, rfl, hb, hok gi rfl, blk_lt hh⟩
            have hpf : ∃ gp, Ap = some ⟨gp, 0, none⟩ := by
              rcases hOP.out.2 with ⟨hv, h0⟩ | ⟨gp, cap, cur, hv, _⟩
              · omega
              · injection hv with hv
                exact ⟨gp, hv⟩
            obtain ⟨gp, rfl⟩ := hpf
            have hpg : gp < gb := HPL.out _ rfl
            obtain ⟨hcp, _⟩ := own_at hOP.out (j : Int) (by omega) (by omega)
            obtain ⟨hcb, hfb⟩ := own_at hOB.out (j : Int) (by omega) (by omega)
            rw [Int.toNat_natCast] at hcp hcb hfb
            have hrp : rd ps (j : Int) = ps.getD j 0 := by simp [rd]
            rw [hrp] at hcp
            have hpe : -33554432 ≤ ps.getD j 0 ∧ ps.getD j 0 ≤ 33554432 := by rw [← HPS.out]; exact parts_el grows l fr j hjl
            have htx := HT.out _ (getD_mem l j hjl)
            have htg := told_get l ps j hjl
            have hts := told_set l ps j hjl
            have hbs := bsome_set l ps j hjl
            have htm := told_same l ps j hjl
            have hbm := bsome_same l ps j hjl
            have hcs := csum_snoc l ps j
            have hcb2 := csum_bd l ps j
            have hbb := by_bd l ps j
            have hby : byK l ps j = byI (l.getD j z95) (ps.getD j 0) := rfl
            generalize l.getD j z95 = x at *
            generalize ps.getD j 0 = p at *
            generalize csum l ps j = cs at *
            generalize byK l ps j = bk at *
            generalize rd (bsome l ps j) (j : Int) = oldb at *
            obtain ⟨⟨a0, a1, a2, a3, a4, a5⟩, a6, a7, a8⟩ := x
            simp only at x0 x1 x2 x3 x4 x5 x6 x7 x8 htm
            have HTG := Lib.hid htg
            have HTS := Lib.hid hts
            have HBS := Lib.hid hbs
            have HTM := Lib.hid htm
            have HBM := Lib.hid hbm
            have HCS := Lib.hid hcs
            have HBY := Lib.hid hby
            have HFORM := Lib.hid hform
            obtain ⟨⟨t0, t1⟩, _, ⟨t2, t3⟩, _⟩ := htx
            simp only at t0 t1 t2 t3
            have hal := below_alloc (Below.refl wr.heap.size wr) (.cells (itV ⟨⟨a0, a1, a2, a3, a4, a5⟩, a6, a7, a8⟩).toArray 95)
            have hgl : g < wr.heap.size := blk_lt hVG.out
            have hgbl : gb < wr.heap.size := own_lt hOB.out gb rfl
            have VG5 := Lib.hid ((hal.block g hgl).trans hVG.out)
            have VR5 := Lib.hid (Kd.R_below hVR.out hal)
            have OB5 := Lib.hid (pw_own_below hOB.out hal)
            have OP5 := Lib.hid (pw_own_below hOP.out hal)
            have B5 := Lib.hid (hBz.out.trans (hal.mono (by have := hBz.out.size; have := HBG.out; omega)))
            have HGL := Lib.hid hgl
            have HGBL := Lib.hid hgbl
            have HPG := Lib.hid hpg
            have HWR := hBz
            clear htg hts hbs htm hbm hcs hby hform hVG hVR hOB hOP hBz hnn hnc hCC hrd hrp hgl hgbl hjl hpg
            cases a7 with
            | true =>
              have hb0 : bk = 0 := HBY.out
              have HTM2 := Lib.hid (HTM.out rfl)
              have HBM2 := Lib.hid (HBM.out hb0)
              have HCS2 : Hid (csum l ps (j + 1) = cs) := Lib.hid (by rw [HCS.out, hb0, Int.add_zero])
              clear hb0
              go_wp2_with fail
              exact ⟨⟨j + 1, by omega, by go_num, by rw [HCS2.out], VG5.out, by rw [← HTM2.out]; exact VR5.out, by rw [← HBM2.out]; exact OB5.out, OP5.out, B5.out⟩, by simp [RowKit.intOf]; omega⟩
            | false =>
              go_wp2_with fail
              obtain ⟨W6, hW6⟩ : ∃ W6, wr.alloc (.cells #[.int .i64 a0, .int .i64 a1, .int .i64 a2, .int .i64 a3, .int .i64 a4, .int .i64 a5, .int .i64 a6, .bool false, .int .i64 a8] 95) = W6 := ⟨_, rfl⟩
              rw [hW6]
              have hbx : W6.heap[wr.heap.size]? = some (.cells #[.int .i64 a0, .int .i64 a1, .int .i64 a2, .int .i64 a3, .int .i64 a4, .int .i64 a5, .int .i64 a6, .bool false, .int .i64 a8] 95 (0, 0)) := by rw [← hW6]; exact blk_new wr _
              have VG6 : Hid (W6.heap[g]? = some (.cells #[.int .i64 room, .slice (some ad) k c3, .bool grows] 92 (0, 0))) := by rw [← hW6]; exact VG5
              have VR6 : Hid (Kd.R k95 95 W6 base (fun k => k ≠ g) (.slice (some ad) k c3) (told l ps j)) := by rw [← hW6]; exact VR5
              have OB6 : Hid (W6.ownsRow gb 3 1 (.slice (some ⟨gb, 0, none⟩) k k) k (nums .i64 (bsome l ps j))) := by rw [← hW6]; exact OB5
              have OP6 : Hid (W6.ownsRow bp 3 1 (.slice (some ⟨gp, 0, none⟩) k cp) k (nums .i64 ps)) := by rw [← hW6]; exact OP5
              have B6 : Hid (Below base w W6) := by rw [← hW6]; exact B5
              have hcp6 : W6.cell? ⟨gp, j, none⟩ = some (.int .i64 p) := by
                rw [← hW6, World.cell?_alloc_lt _ _ _ (World.block_lt_of_cell? wr _ hcp)]; exact hcp
              obtain ⟨bx, hbxe⟩ : ∃ bx, wr.heap.size = bx := ⟨_, rfl⟩
              rw [hbxe] at hbx HFORM HGL HGBL ⊢
              clear hW6 VG5 VR5 OB5 OP5 B5 hbxe hcp HWR
              have y0 : W6.cell? ⟨bx, 0, none⟩ = some (.int .i64 a0) := blk_cell hbx 0
              go_quiet (fail)
              have HBX : Hid ((W6.drewN nq).heap[bx]? = some (.cells #[.int .i64 a0, .int .i64 a1, .int .i64 a2, .int .i64 a3, .int .i64 a4, .int .i64 a5, .int .i64 a6, .bool false, .int .i64 a8] 95 (0, 0))) := Lib.hid hbx
              have VG7 : Hid ((W6.drewN nq).heap[g]? = some (.cells #[.int .i64 room, .slice (some ad) k c3, .bool grows] 92 (0, 0))) := VG6
              have VR7 : Hid (Kd.R k95 95 (W6.drewN nq) base (fun k => k ≠ g) (.slice (some ad) k c3) (told l ps j)) := Lib.hid (Kd.R_step VR6.out (fun _ _ _ => rfl))
              have OB7 : Hid ((W6.drewN nq).ownsRow gb 3 1 (.slice (some ⟨gb, 0, none⟩) k k) k (nums .i64 (bsome l ps j))) := OB6
              have OP7 : Hid ((W6.drewN nq).ownsRow bp 3 1 (.slice (some ⟨gp, 0, none⟩) k cp) k (nums .i64 ps)) := OP6
              have B7 : Hid (Below base w (W6.drewN nq)) := Lib.hid (pw_below_drewN B6.out nq)
              generalize W6.drewN nq = W7 at *
              clear hbx y0 VG6 VR6 OB6 OP6 B6 hcp6
              go_wp2_with fail
              obtain ⟨gi, rfl, hgi0, hgi1, hgi2⟩ := HFORM.out
              have HGI := Lib.hid (And.intro hgi0 (And.intro hgi1 hgi2))
              have VG8 : Hid (W7.drew.heap[g]? = some (.cells #[.int .i64 room, .slice (some ⟨gi, 0, none⟩) k c3, .bool grows] 92 (0, 0))) := VG7
              have HBX8 : Hid (W7.drew.heap[bx]? = some (.cells #[.int .i64 a0, .int .i64 a1, .int .i64 a2, .int .i64 a3, .int .i64 a4, .int .i64 a5, .int .i64 a6, .bool false, .int .i64 a8] 95 (0, 0))) := HBX
              have VR8 : Hid (Kd.R k95 95 W7.drew base (fun k => k ≠ g) (.slice (some ⟨gi, 0, none⟩) k c3) (told l ps j)) := Lib.hid (Kd.R_step VR7.out (fun _ _ _ => rfl))
              have OB8 : Hid (W7.drew.ownsRow gb 3 1 (.slice (some ⟨gb, 0, none⟩) k k) k (nums .i64 (bsome l ps j))) := OB7
              have OP8 : Hid (W7.drew.ownsRow bp 3 1 (.slice (some ⟨gp, 0, none⟩) k cp) k (nums .i64 ps)) := OP7
              have B8 : Hid (Below base w W7.drew) := Lib.hid B7.out.drew
              refine wp_region_still_tail 15 (by kernel_rfl) (by kernel_rfl) ?_
              simp only [List.take_succ_cons, List.take_zero, List.drop_succ_cons, List.drop_zero]
              change wpStill _ _ (World.drew W7) (fun a' => wpList _ _ _ _ a' (World.drew W7)) _ _
              generalize W7.drew = W8 at *
              have y1 : W8.cell? ⟨bx, 1, none⟩ = some (.int .i64 a1) := blk_cell HBX8.out 1
              have y2 : W8.cell? ⟨bx, 2, none⟩ = some (.int .i64 a2) := blk_cell HBX8.out 2
              have z1 : W8.cell? ⟨g, 1, none⟩ = some (.slice (some ⟨gi, 0, none⟩) k c3) := blk_cell VG8.out 1
              have BTW : Hid (∀ x y z : Int, Calls Try.prog 21 #[.int .i64 x, .int .i64 y, .int .i64 z] W8 fun e w'' => e = .returned (.int .i64 (btw x y z)) ∧ w'' = W8) := Lib.hid (fun x y z => (Between_c x y z W8).mono fun e w' h => ⟨h.1, h.2.symm⟩)
              clear VG7 HBX VR7 OB7 OP7 B7 HFORM hgi0 hgi1 hgi2
              still_step
              still_step
              still_step
              still_step
              still_step
              still_step
              still_step
              still_step
              still_step
              still_step
              still_step
              still_step
              still_call (BTW.out _ _ _)
              still_step
              still_step
              refine wpStill_nil ?_
              clear y1 y2 z1 BTW
              have hbk : bk = btw (a0 + p) a1 a2 - cut (a0 + p) := HBY.out
              subst hbk
              obtain ⟨hnn, hnc, hCC⟩ := Kd.R_reads' VR8.out
              obtain ⟨ad2, cc, e2, hcl, hKc, hcc⟩ := ReadsRow.get_ hCC z95 (j : Int) (by omega) (by omega)
              injection e2 with e2
              subst e2
              rw [Int.toNat_natCast, HTG.out] at hKc
              have hcce := k95_open hKc
              simp only at hcce
              subst hcce
              have HCC := Lib.hid (fun i u hi => hcc i u hi)
              clear hcc hCC hKc
              refine Kd.R_store k95 (w0 := w) base rfl rfl 3 (.tmp 85) (.tmp 83) rfl 95 (g := gi) (n := k) (cap := c3) (o' := j * 9 + 8) (j : Int) 8 (told l ps j) (tellI ⟨⟨a0, a1, a2, a3, a4, a5⟩, a6, false, a8⟩ p) (.int .i64 (btw (a0 + p) a1 a2)) [.int .i64 (btw (a0 + p) a1 a2)] [.int .i64 a0, .int .i64 a1, .int .i64 a2, .int .i64 a3, .int .i64 a4, .int .i64 a5, .int .i64 a6, .bool false, .int .i64 a8] (fun k => k ≠ g) (fun _ => False) ?_ ?_ rfl rfl (by kernel_rfl) ?_ VR8.out (by omega) (by omega) rfl ?_ (by show 8 + 1 ≤ 9; omega) ?_ (fun _ h => h.elim) B8.out ?_
              · first
                  | rfl
                  | exact congrArg (fun a => Value.pointer (some a)) (by rw [Addr.add_mid, Nat.zero_add])
              · rfl
              · intro q hq
                rw [List.mem_singleton] at hq
                subst hq
                rfl
              · intro i u hi
                have := HCC.out i u hi
                rw [Addr.add_mid, Nat.zero_add] at this
                exact this
              · exact k95_mkM _ _ _ ⟨⟨a0, a1, a2, a3, a4, a5⟩, a6, false, btw (a0 + p) a1 a2⟩
              intro w9 hR9 hB9 hG9
              rw [Int.toNat_natCast, HTS.out] at hR9
              have hgb : gb ≠ gi := own_apart OB8.out (Kd.R_own VR8.out).choose_spec rfl rfl (by decide)
              have hgp : gp ≠ gi := own_apart OP8.out (Kd.R_own VR8.out).choose_spec rfl rfl (by decide)
              have nb : ∀ q : Nat, q ≠ gi → some q ≠ some gi := fun q h e => h (by injection e)
              have hOB9 := own_other OB8.out hG9 (.inr (nb gb hgb))
              have hOP9 := own_other OP8.out hG9 (.inr (nb gp hgp))
              have hVG9 := (hG9.block g (blk_lt VG8.out) (nb g (fun e => HGI.out.2.1 e.symm))).trans VG8.out
              have hRd9 := Kd.R_reads' hR9
              have hjl9 : j < l.length := by rw [HM.out]; exact hlt2
              have his : w9.cell? ⟨gi, j * 9 + 8, none⟩ = some (.int .i64 (btw (a0 + p) a1 a2)) := by
                have h1 := at_is hRd9.2.2 j (by rw [told_len]; exact hjl9)
                have h2 : (told l ps (j + 1)).getD j z95 = tellI ⟨⟨a0, a1, a2, a3, a4, a5⟩, a6, false, a8⟩ p := by
                  rw [← HTS.out]
                  simp [List.getD_eq_getElem?_getD, told_len, hjl9]
                rw [h2] at h1
                exact h1
              obtain ⟨hcb9, hfb9⟩ := own_at hOB9 (j : Int) (by omega) (by omega)
              rw [Int.toNat_natCast] at hcb9 hfb9
              have hv1 : w9.cell? ⟨g, 1, none⟩ = some (.slice (some ⟨gi, 0, none⟩) k c3) := blk_cell hVG9 1
              have VG9 := Lib.hid hVG9
              have R9 := Lib.hid hR9
              have OB9 := Lib.hid hOB9
              have OP9 := Lib.hid hOP9
              have B9 := Lib.hid hB9
              clear hVG9 hR9 hOB9 hOP9 hB9 hG9 hRd9 VG8 HBX8 VR8 OB8 OP8 B8 HCC HBY nb hgp hnn hnc hjl9
              go_wp2_with fail
              have z1 : w9.drew.cell? ⟨g, 1, none⟩ = some (.slice (some ⟨gi, 0, none⟩) k c3) := hv1
              have z2 : w9.drew.cell? ⟨gi, j * 9 + 8, none⟩ = some (.int .i64 (btw (a0 + p) a1 a2)) := his
              have z3 : w9.drew.cell? ⟨gb, j, none⟩ = some (.int .i64 (rd (bsome l ps j) (j : Int))) := hcb9
              have z4 : w9.drew.frozen? ⟨gb, j, none⟩ = false := hfb9
              have VGa : Hid (w9.drew.heap[g]? = some (.cells #[.int .i64 room, .slice (some ⟨gi, 0, none⟩) k c3, .bool grows] 92 (0, 0))) := VG9
              have Ra : Hid (Kd.R k95 95 w9.drew base (fun k => k ≠ g) (.slice (some ⟨gi, 0, none⟩) k c3) (told l ps (j + 1))) := Lib.hid (Kd.R_step R9.out (fun _ _ _ => rfl))
              have OBa : Hid (w9.drew.ownsRow gb 3 1 (.slice (some ⟨gb, 0, none⟩) k k) k (nums .i64 (bsome l ps j))) := OB9
              have OPa : Hid (w9.drew.ownsRow bp 3 1 (.slice (some ⟨gp, 0, none⟩) k cp) k (nums .i64 ps)) := OP9
              have Ba : Hid (Below base w w9.drew) := Lib.hid B9.out.drew
              refine wp_region_still_tail 14 (by kernel_rfl) (by kernel_rfl) ?_
              simp only [List.take_succ_cons, List.take_zero, List.drop_succ_cons, List.drop_zero]
              change wpStill _ _ (World.drew w9) (fun a' => wpList _ _ _ _ a' (World.drew w9)) _ _
              clear hv1 his hcb9 hfb9 VG9 R9 OB9 OP9 B9
              generalize w9.drew = wa at *
              have CUT : Hid (∀ n : Int, Calls Try.prog 22 #[.int .i64 n] wa fun e w'' => e = .returned (.int .i64 (cut n)) ∧ w'' = wa) := Lib.hid (fun n => (Cut_c n wa).mono fun e w' h => ⟨h.1, h.2.symm⟩)
              have hb1 := btw_bd (a0 + p) a1 a2
              have hb2 := cut_bd (a0 + p)
              still_step
              still_step
              still_step
              still_step
              still_step
              still_step
              still_step
              still_step
              still_step
              still_step
              still_step
              still_call (CUT.out _)
              still_step
              still_step
              refine wpStill_nil ?_
              clear z1 z2 CUT
              obtain ⟨cgb, hgbc⟩ := own_typed OBa.out gb rfl
              have hne : g ≠ gb := by
                rintro rfl
                have h1 := VGa.out
                rw [hgbc] at h1
                injection h1 with h1
                injection h1 with _ h1
                exact absurd h1 (by decide)
              obtain ⟨hst, hgr⟩ := own_store OBa.out (j : Int) (btw (a0 + p) a1 a2 - cut (a0 + p))
              rw [Int.toNat_natCast] at hst hgr
              rw [HBS.out] at hst
              have VGb := Lib.hid (blk_far VGa.out (p := ⟨gb, j, none⟩) hne (.int .i64 (btw (a0 + p) a1 a2 - cut (a0 + p))))
              have Rb := Lib.hid (Kd.R_set Ra.out hgbc (by decide) j (.int .i64 (btw (a0 + p) a1 a2 - cut (a0 + p))))
              have hpb2 : gp ≠ gb := by have := HPG.out; omega
              have OPb := Lib.hid (own_other OPa.out hgr (.inr (fun e => hpb2 (by injection e))))
              have OBb := Lib.hid hst
              have Bb := Lib.hid (Ba.out.setCell (p := ⟨gb, j, none⟩) HB3.out (.int .i64 (btw (a0 + p) a1 a2 - cut (a0 + p))))
              have hgbl : gb < wa.heap.size := blk_lt hgbc
              clear hgbc hst hgr hpb2 hne VGa Ra OBa OPa Ba
              go_wp2_with fail
              exact ⟨⟨j + 1, by omega, by go_num, by rw [HCS.out], VGb.out, Rb.out, OBb.out, OPb.out, Bb.out⟩, by simp [RowKit.intOf]; omega⟩
          · obtain rfl : j = k := by omega
            obtain ⟨W5, rfl⟩ : ∃ W : World, W = wr := ⟨_, rfl⟩
            have hch : csum l ps j = changedP l ps := by rw [← HM.out]; rfl
            rw [hch]
            have hR5 := hVR.out
            rw [show told l ps j = setd l ps 0 from by rw [setd_zero, HM.out]] at hR5
            have R5 := Lib.hid hR5
            have VG5 := Lib.hid hVG.out
            have OB5 := Lib.hid hOB.out
            have B5 := Lib.hid hBz.out
            have v1 : W5.cell? ⟨g, 1, none⟩ = some (.slice A3 j c3) := blk_cell VG5.out 1
            have hcb := csum_bd l ps j
            rw [hch] at hcb
            obtain ⟨ch, hche⟩ : ∃ ch, changedP l ps = ch := ⟨_, rfl⟩
            have HCH := Lib.hid hche
            rw [hche] at hcb ⊢
            clear hch hR5 hVR hVG hOB hOP hBz hche OB OP B4 VG VR
            go_wp2_with fail
            clear v1
            go_loopw [112] (fun i wr => ∃ i' : Nat, i' ≤ j ∧ i = .int .i64 i' ∧ Hid (wr.heap[g]? = some (.cells #[.int .i64 room, .slice A3 j c3, .bool grows] 92 (0, 0))) ∧ Hid (Kd.R k95 95 wr base (fun k => k ≠ g) (.slice A3 j c3) (setd l ps i')) ∧
              Hid (wr.ownsRow gb 3 1 (.slice (some ⟨gb, 0, none⟩) j j) j (nums .i64 (bsome l ps j))) ∧ Hid (Below base w wr)) (fun i _ => j - (RowKit.intOf i).toNat)
            case atStart => exact ⟨0, Nat.zero_le _, rfl, VG5.out, R5.out, OB5.out, B5.out⟩
            case round =>
              obtain ⟨i', hi', rfl, hVG, hVR, hOB, hBz⟩ := hrel
              by_cases hlt3 : i' < j
              · have hil : i' < l.length := by rw [HM.out]; exact hlt3
                obtain ⟨hnn, hnc, hCC⟩ := Kd.R_reads' hVR.out
                have hform : ∃ gi, A3 = some ⟨gi, 0, none⟩ ∧ base ≤ gi ∧ gi ≠ g ∧ gi < wr.heap.size ∧ wr.frozen? ⟨gi, i' * 9 + 7, none⟩ = false ∧ gb ≠ gi := by
                  obtain ⟨hok, inner, hown, _⟩ := hVR.out
                  have hap : ∀ gi, (Value.slice A3 j c3).ownBlock = some gi → gb ≠ gi := fun gi hgi => own_apart hOB.out hown rfl hgi (by decide)
                  rcases hown.2 with ⟨hv, h0⟩ | ⟨gi, cap, cur, hv, hb, hh, _⟩
                  · rw [setd_len, HM.out] at h0
                    omega
                  · injection hv with hv
                    subst hv
                    exact ⟨gi, rfl, hb, hok gi rfl, blk_lt hh, blk_frozen hh _, hap gi rfl⟩
                obtain ⟨gi, rfl, hgi0, hgi1, hgi2, hfz, hgb⟩ := hform
                obtain ⟨ad2, cc, e2, hcl, hKc, hcc⟩ := ReadsRow.get_ hCC z95 (i' : Int) (by omega) (by rw [setd_len, HM.out]; omega)
                injection e2 with e2
                subst e2
                rw [Int.toNat_natCast, setd_get l ps i' hil] at hKc
                have hcce := k95_open hKc
                obtain ⟨hcb1, hfb1⟩ := own_at hOB.out (i' : Int) (by omega) (by omega)
                rw [Int.toNat_natCast] at hcb1
                have hrb : rd (bsome l ps j) (i' : Int) = byK l ps i' := by
                  have := bsome_get l ps i' hil
                  rw [HM.out] at this
                  simpa [rd] using this
                rw [hrb] at hcb1
                have hss := setd_set l ps i' hil
                have hsm := setd_same l ps i' hil
                have hbb := by_bd l ps i'
                rw [HCH.out] at hss hsm
                generalize tellI (l.getD i' z95) (ps.getD i' 0) = y at *
                generalize byK l ps i' = bk at *
                obtain ⟨⟨a0, a1, a2, a3, a4, a5⟩, a6, a7, a8⟩ := y
                simp only at hcce
                subst hcce
                rw [Int.toNat_natCast] at hcc
                have hcc2 : ∀ jj u, ([.int .i64 a0, .int .i64 a1, .int .i64 a2, .int .i64 a3, .int .i64 a4, .int .i64 a5, .int .i64 a6, .bool a7, .int .i64 a8] : List Value)[jj]? = some u → wr.cell? ⟨gi, (i' : Int).toNat * k95.sz + jj, none⟩ = some u := fun jj u hu => by
                  have := hcc jj u hu
                  rw [Addr.add_mid, Nat.zero_add] at this
                  rw [Int.toNat_natCast]
                  exact this
                have h7 : wr.cell? ⟨gi, i' * 9 + 7, none⟩ = some (.bool a7) := by
                  have := hcc2 7 _ rfl
                  rw [Int.toNat_natCast] at this
                  exact this
                have hseg := Kd.R_seg hVR.out (i' : Int) (by omega) (by omega) (seg := [.bool true]) (j := 7) rfl hcc2 (by show 7 + 1 ≤ 9; omega) (x' := ⟨⟨a0, a1, a2, a3, a4, a5⟩, a6, true, a8⟩) (okp := fun _ => False) (k95_mkM _ _ _ ⟨⟨a0, a1, a2, a3, a4, a5⟩, a6, true, a8⟩) (fun _ h => h.elim)
                rw [Int.toNat_natCast] at hseg
                have hRs : Kd.R k95 95 (wr.setCell ⟨gi, i' * 9 + 7, none⟩ (.bool true)) base (fun k => k ≠ g) (.slice (some ⟨gi, 0, none⟩) j c3) ((setd l ps i').set i' ⟨⟨a0, a1, a2, a3, a4, a5⟩, a6, true, a8⟩) := hseg.1
                have hGs : wr.grownBy (wr.setCell ⟨gi, i' * 9 + 7, none⟩ (.bool true)) (some gi) := hseg.2
                have VGs := Lib.hid (blk_far hVG.out (p := ⟨gi, i' * 9 + 7, none⟩) (fun e => hgi1 e.symm) (.bool true))
                have OBs := Lib.hid (own_other hOB.out hGs (.inr (fun e => hgb (by injection e))))
                have Bs := Lib.hid (hBz.out.setCell (p := ⟨gi, i' * 9 + 7, none⟩) hgi0 (.bool true))
                have Rs := Lib.hid hRs
                have Rn := hVR
                have VGn := hVG
                have OBn := hOB
                have Bn := hBz
                have v1 : wr.cell? ⟨g, 1, none⟩ = some (.slice (some ⟨gi, 0, none⟩) j c3) := blk_cell hVG.out 1
                have YES : Hid ((ch = 0 ∨ (0 < ch ∧ 0 < bk) ∨ (ch < 0 ∧ bk < 0)) → (setd l ps i').set i' ⟨⟨a0, a1, a2, a3, a4, a5⟩, a6, true, a8⟩ = setd l ps (i' + 1)) := Lib.hid (fun hc => by
                  rw [← hss]
                  unfold settI
                  rw [if_pos hc])
                have NO : Hid (¬ (ch = 0 ∨ (0 < ch ∧ 0 < bk) ∨ (ch < 0 ∧ bk < 0)) → setd l ps i' = setd l ps (i' + 1)) := Lib.hid (fun hc => hsm (by unfold settI; rw [if_neg hc]))
                clear hss hsm hseg hRs hGs hcc hcc2 hKc hcl hCC hnn hnc hrb hfb1 hVG hVR hOB hBz hil
                by_cases c0 : ch = 0
                · have Y := Lib.hid (YES.out (.inl c0))
                  have q0 : (ch == 0) = true := by simpa using c0
                  clear c0 YES NO
                  go_wp2_with fail
                  exact ⟨⟨i' + 1, by omega, by go_num, VGs.out, by rw [← Y.out]; exact Rs.out, OBs.out, Bs.out⟩, by simp [RowKit.intOf]; omega⟩
                · have q0 : (ch == 0) = false := by simpa using c0
                  by_cases c1 : 0 < ch
                  · have q1 : decide (0 < ch) = true := decide_eq_true c1
                    have q2 : decide (ch < 0) = false := decide_eq_false (by omega)
                    by_cases c2 : 0 < bk
                    · have Y := Lib.hid (YES.out (.inr (.inl ⟨c1, c2⟩)))
                      have q3 : decide (0 < bk) = true := decide_eq_true c2
                      clear c0 c1 c2 YES NO
                      go_wp2_with fail
                      exact ⟨⟨i' + 1, by omega, by go_num, VGs.out, by rw [← Y.out]; exact Rs.out, OBs.out, Bs.out⟩, by simp [RowKit.intOf]; omega⟩
                    · have N := Lib.hid (NO.out (by omega))
                      have q3 : decide (0 < bk) = false := decide_eq_false c2
                      clear c0 c1 c2 YES NO
                      go_wp2_with fail
                      exact ⟨⟨i' + 1, by omega, by go_num, VGn.out, by rw [← N.out]; exact Rn.out, OBn.out, Bn.out⟩, by simp [RowKit.intOf]; omega⟩
                  · have q1 : decide (0 < ch) = false := decide_eq_false c1
                    have q2 : decide (ch < 0) = true := decide_eq_true (by omega)
                    by_cases c2 : bk < 0
                    · have Y := Lib.hid (YES.out (.inr (.inr ⟨by omega, c2⟩)))
                      have q3 : decide (bk < 0) = true := decide_eq_true c2
                      clear c0 c1 c2 YES NO
                      go_wp2_with fail
                      exact ⟨⟨i' + 1, by omega, by go_num, VGs.out, by rw [← Y.out]; exact Rs.out, OBs.out, Bs.out⟩, by simp [RowKit.intOf]; omega⟩
                    · have N := Lib.hid (NO.out (by omega))
                      have q3 : decide (bk < 0) = false := decide_eq_false c2
                      clear c0 c1 c2 YES NO
                      go_wp2_with fail
                      exact ⟨⟨i' + 1, by omega, by go_num, VGn.out, by rw [← N.out]; exact Rn.out, OBn.out, Bn.out⟩, by simp [RowKit.intOf]; omega⟩
              · obtain rfl : i' = j := by omega
                have hfin := hVR.out
                rw [show setd l ps i' = turnP l ps from by rw [← HM.out, setd_all]] at hfin
                have POST : Hid (TurnPost base g room grows (turnP l ps) w (.returned (.tuple #[])) wr) := Lib.hid ⟨rfl, ⟨_, hVG.out, hfin⟩, hBz.out⟩
                clear hfin hVG hVR hOB hBz
                go_wp2_with fail
                go_end0
                exact POST.out
end Go.Proofs.Ytfkgpkkjiolfpaa.Flx
