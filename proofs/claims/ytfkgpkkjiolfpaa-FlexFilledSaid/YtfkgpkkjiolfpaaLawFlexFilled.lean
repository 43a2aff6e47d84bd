/- Flexible rows: where all may grow the room is filled. For every input. -/
import Derived.Test.YtfkgpkkjiolfpaaRows
import Derived.Test.YtfkgpkkjiolfpaaFlexFilled2
import Derived.Test.YtfkgpkkjiolfpaaFlexOp
import Derived.ProofKit
import Derived.OpenShut
import Derived.ShutString
import Derived.ChangeOld
import Derived.Below
import Derived.SizedLaws
import Derived.Deep.QuietTactic
import Derived.BigQuiet
import Derived.StillTailTactics
namespace Go.Proofs.Ytfkgpkkjiolfpaa.FlexFilled
open Go.RowKit Go.Proofs.Ytfkgpkkjiolfpaa.Flx Go.Proofs.Ytfkgpkkjiolfpaa.Rgn Go.Proofs.Ytfkgpkkjiolfpaa.Pl Go.Proofs.Ytfkgpkkjiolfpaa.Fx Go.Proofs.Ytfkgpkkjiolfpaa.Opn Go.Proofs.YtfkgpkkjiolfpaaW.PrintWords Go.Proofs.YtfkgpkkjiolfpaaW.PrintLast Go.Proofs.YtfkgpkkjiolfpaaW.PrintMore
open Go.ChangeShapes Go.WideShapes Go.ChangeAt
set_option linter.unusedVariables false
set_option linter.unusedSimpArgs false
attribute [local go_sem] mx2 mn2 mx_two mn_two mx_three mn_three

/-- The items filled up to a place. -/
def fsome (l : List LF) (k : Nat) : List LF := (List.range l.length).map fun j => if j < k then fillI (l.getD j z37) else l.getD j z37
theorem fsome_len (l : List LF) (k : Nat) : (fsome l k).length = l.length := by simp [fsome]
theorem fsome_zero (l : List LF) : fsome l 0 = l := by
  apply List.ext_getElem
  · simp [fsome]
  · intro i h1 h2
    simp [fsome, List.getD_eq_getElem?_getD, h2]
theorem fsome_all (l : List LF) : fsome l l.length = l.map fillI := by
  apply List.ext_getElem
  · simp [fsome]
  · intro i h1 h2
    have hi : i < l.length := by simpa [fsome] using h1
    simp [fsome, hi, List.getD_eq_getElem?_getD]
theorem fsome_get (l : List LF) (k : Nat) (hk : k < l.length) : (fsome l k).getD k z37 = l.getD k z37 := by
  unfold fsome
  rw [map_range_getD hk]
  simp
theorem fsome_set (l : List LF) (k : Nat) (hk : k < l.length) : (fsome l k).set k (fillI (l.getD k z37)) = fsome l (k + 1) := by
  unfold fsome
  refine map_range_set hk _ _ _ (fun j hj hne => ?_) (by simp)
  by_cases h : j < k
  · rw [if_pos h, if_pos (by omega)]
  · rw [if_neg h, if_neg (by omega)]
/-- How long all is, up to a place. -/
def lsome (l : List LF) (k : Nat) : Int := sm k (fun k => max (l.getD k z37).f0 (l.getD k z37).f1 + (l.getD k z37).f5)
theorem w32_bd (x : Int) : -2147483648 ≤ wrap32 x ∧ wrap32 x ≤ 2147483647 := by unfold wrap32; omega
theorem w64_w32 (x : Int) : wrap64 (wrap32 x) = wrap32 x := by have := w32_bd x; exact w64_id (by omega) (by omega)
theorem r_bd (x : Int) : -8388608 ≤ (wrap32 x).tdiv 256 ∧ (wrap32 x).tdiv 256 ≤ 8388607 := by
  have h := w32_bd x
  generalize wrap32 x = y at *
  by_cases h0 : 0 ≤ y
  · rw [Int.tdiv_eq_ediv_of_nonneg h0]; omega
  · obtain ⟨z, rfl⟩ : ∃ z, y = -z := ⟨-y, by omega⟩
    rw [Int.neg_tdiv, Int.tdiv_eq_ediv_of_nonneg (by omega)]
    omega
theorem w64_r (x : Int) : wrap64 ((wrap32 x).tdiv 256) = (wrap32 x).tdiv 256 := by have := r_bd x; exact w64_id (by omega) (by omega)
attribute [local go_sem] w64_w32 w64_r

set_option maxRecDepth 100000 in
set_option maxHeartbeats 4000000 in
theorem walk (room gap : Int) (a1 : Option Addr) (len1 cap1 : Nat) (z1 : List LF) (w : World) (_ : (Lit.int .i64 room).wf = true) (_ : (Lit.int .i64 gap).wf = true) (e1 : len1 = z1.length) (c1 : len1 ≤ cap1) (w1 : Kd.C k37 w a1 len1 z1) :
    Calls Try.prog 5 #[.int .i64 room, .int .i64 gap, .slice a1 len1 cap1] w fun e w' => e = .returned (.bool true) ∧ Below w.heap.size w w' := by
  have W1 := Lib.hid w1
  have C1 := Lib.hid c1
  obtain ⟨lm, hlm⟩ : ∃ lm, (z1.take 12).map mildI = lm := ⟨_, rfl⟩
  have hl12 : lm.length ≤ 12 := by rw [← hlm, List.length_map]; exact List.length_take_le _ _
  have hmi : ∀ k, k < lm.length → ∃ x, lm.getD k z37 = mildI x := fun k hk => by
    subst hlm
    have hk2 : k < (z1.take 12).length := by simpa using hk
    exact ⟨(z1.take 12)[k], by rw [List.getD_eq_getElem?_getD, List.getElem?_map, List.getElem?_eq_getElem hk2]; rfl⟩
  have HM := Lib.hid hlm
  have MI := Lib.hid hmi
  clear w1 c1 e1 hlm hmi
  go_enter Try.func5, Try.ntmps5
  go_wp2_with fail
  refine (flexed_c w).mono ?_
  rintro e w2 ⟨rfl, hB⟩
  have MC := Lib.hid (mild_c a1 len1 cap1 z1 w2 (Kd.C_below W1.out hB) C1.out)
  have B2 := Lib.hid hB
  clear hB W1 C1
  go_wp2_with fail
  refine MC.out.mono ?_
  rintro e w3 ⟨v, rfl, hR, hB3⟩
  rw [HM.out] at hR
  obtain ⟨A, c, rfl, hc, hC⟩ := Kd.R_reads hR
  have B3 := Lib.hid (below_then B2.out B2.out.size hB3)
  have RR := Lib.hid hR
  have hrb := r_bd room
  have hgb : 0 ≤ gap % 256 ∧ gap % 256 ≤ 255 := by omega
  obtain ⟨m, hm⟩ : ∃ m, lm.length = m := ⟨_, rfl⟩
  have HL := Lib.hid hm
  rw [hm] at hl12 MI RR hc ⊢
  have hpr : 0 ≤ gap % 256 * max 0 ((m : Int) - 1) ∧ gap % 256 * max 0 ((m : Int) - 1) ≤ 3060 := by
    have h4 : 0 ≤ max 0 ((m : Int) - 1) := by omega
    have h5 : max 0 ((m : Int) - 1) ≤ 12 := by omega
    refine ⟨Int.mul_nonneg hgb.1 h4, ?_⟩
    have := Int.mul_le_mul hgb.2 h5 h4 (by omega)
    omega
  have q1 : -9223372036854775808 ≤ gap % 256 * max 0 ((m : Int) - 1) ∧ gap % 256 * max 0 ((m : Int) - 1) ≤ 9223372036854775807 := by omega
  clear hR hB3 MC hC hm
  go_wp2_with fail
  obtain ⟨R, hRe⟩ : ∃ R, (wrap32 room).tdiv 256 = R := ⟨_, rfl⟩
  obtain ⟨gp, hgp⟩ : ∃ gp, gap % 256 * max 0 ((m : Int) - 1) = gp := ⟨_, rfl⟩
  have HGP := Lib.hid hgp
  rw [hRe] at hrb
  rw [hgp] at hpr
  try rw [hRe]
  try rw [hgp]
  have hmb : ∀ k, k < m → (0 ≤ (lm.getD k z37).f0 ∧ (lm.getD k z37).f0 ≤ 65535) ∧ (0 ≤ (lm.getD k z37).f1 ∧ (lm.getD k z37).f1 ≤ 65535) ∧ (0 ≤ (lm.getD k z37).f3 ∧ (lm.getD k z37).f3 ≤ 65535) ∧ (-128 ≤ (lm.getD k z37).f5 ∧ (lm.getD k z37).f5 ≤ 127) := fun k hk => by
    obtain ⟨x, hx⟩ := MI.out k hk
    rw [hx]
    have b0 := u16_bd x.f0
    have b1 := u16_bd x.f1
    have b3 := u16_bd x.f3
    have b5 := i8_bd x.f5
    refine ⟨b0, ?_, b3, b5⟩
    show 0 ≤ IntKind.u16.wrap x.f1 / 8 ∧ IntKind.u16.wrap x.f1 / 8 ≤ 65535
    omega
  have hls : ∀ k, k ≤ m → -128 * (k : Int) ≤ lsome lm k ∧ lsome lm k ≤ 65662 * (k : Int) := fun k hk => sm_bd k _ (-128) 65662 (fun j hj => by
    have := hmb j (by omega)
    omega)
  have MB := Lib.hid hmb
  have LS := Lib.hid hls
  clear q1 hmb hls hRe hgp
  obtain ⟨W3, rfl⟩ : ∃ W : World, W = w3 := ⟨_, rfl⟩
  obtain ⟨bs, hbs⟩ : ∃ bs, w2.heap.size = bs := ⟨_, rfl⟩
  have hbw : w.heap.size ≤ bs := by rw [← hbs]; exact B2.out.size
  rw [hbs] at RR
  clear hbs
  go_loopw [7, 31] (fun o i wr => ∃ k : Nat, k ≤ m ∧ i = .int .i64 k ∧ o = .int .i64 (gp + lsome lm k) ∧ Hid (Kd.R k37 37 wr bs (fun _ => True) (.slice A m c) (fsome lm k)) ∧ Hid (Below w.heap.size w wr)) (fun _ i _ => m - (RowKit.intOf i).toNat)
  case atStart => exact ⟨0, Nat.zero_le _, rfl, by simp [lsome, sm], by rw [fsome_zero]; exact RR.out, B3.out⟩
  case round =>
    obtain ⟨k, hk, rfl, rfl, hR, hB⟩ := hrel
    by_cases hlt : k < m
    · have hkl : k < lm.length := by rw [HL.out]; exact hlt
      have hls := LS.out k hk
      have hls1 := LS.out (k + 1) hlt
      have hle : lsome lm (k + 1) = lsome lm k + (max (lm.getD k z37).f0 (lm.getD k z37).f1 + (lm.getD k z37).f5) := sm_succ _ _
      have hmb := MB.out k hlt
      obtain ⟨gi, rfl, hgi0, hgf⟩ : ∃ gi, A = some ⟨gi, 0, none⟩ ∧ bs ≤ gi ∧ ∀ o, wr.frozen? ⟨gi, o, none⟩ = false := by
        obtain ⟨hok, inner, hown, _⟩ := hR.out
        rcases hown.2 with ⟨hv, h0⟩ | ⟨gi, cap, cur, hv, hb, hh, _⟩
        · rw [fsome_len, HL.out] at h0
          omega
        · injection hv with hv
          subst hv
          exact ⟨gi, rfl, hb, fun o => blk_frozen hh o⟩
      obtain ⟨hnn, hnc, hCC⟩ := Kd.R_reads' hR.out
      obtain ⟨ad2, cc, e2, hcl, hKc, hcc⟩ := ReadsRow.get_ hCC z37 (k : Int) (by omega) (by rw [fsome_len, HL.out]; omega)
      injection e2 with e2
      subst e2
      rw [Int.toNat_natCast, fsome_get lm k hkl] at hKc
      have hcce := k37_open hKc
      have hset := fsome_set lm k hkl
      generalize lm.getD k z37 = x at *
      obtain ⟨a0, b1, a2, a3, a4, a5⟩ := x
      simp only at hcce hle hmb
      subst hcce
      have hcc2 : ∀ jj u, ([.int .i64 a0, .int .i64 b1, .int .i64 a2, .int .i64 a3, .int .i64 a4, .int .i64 a5] : List Value)[jj]? = some u → wr.cell? ⟨gi, (k : Int).toNat * k37.sz + jj, none⟩ = some u := fun jj u hu => by
        have := hcc jj u hu
        rw [Addr.add_mid, Nat.zero_add] at this
        exact this
      have cell : ∀ jj u, ([.int .i64 a0, .int .i64 b1, .int .i64 a2, .int .i64 a3, .int .i64 a4, .int .i64 a5] : List Value)[jj]? = some u → wr.cell? ⟨gi, k * 6 + jj, none⟩ = some u := fun jj u hu => by
        have := hcc2 jj u hu
        rw [Int.toNat_natCast] at this
        exact this
      have hseg := Kd.R_seg hR.out (k : Int) (by omega) (by omega) (seg := [.int .i64 (-1), .int .i64 (a3 + 1000)]) (j := 2) rfl hcc2 (by show 2 + 2 ≤ 6; omega) (x' := ⟨a0, b1, -1, a3 + 1000, a4, a5⟩) (okp := fun _ => False) (k37_mkM _ _ _ ⟨a0, b1, -1, a3 + 1000, a4, a5⟩) (fun _ h => h.elim)
      rw [Int.toNat_natCast] at hseg
      have hRs : Kd.R k37 37 ((wr.setCell ⟨gi, k * 6 + 2, none⟩ (.int .i64 (-1))).setCell ⟨gi, k * 6 + 3, none⟩ (.int .i64 (a3 + 1000))) bs (fun _ => True) (.slice (some ⟨gi, 0, none⟩) m c) ((fsome lm k).set k ⟨a0, b1, -1, a3 + 1000, a4, a5⟩) := hseg.1
      have hfe : fillI ⟨a0, b1, a2, a3, a4, a5⟩ = ⟨a0, b1, -1, a3 + 1000, a4, a5⟩ := rfl
      rw [hfe] at hset
      rw [hset] at hRs
      have Rs := Lib.hid hRs
      have x2 := cell 2 _ rfl
      have x3 := cell 3 _ rfl
      have f2 := hgf (k * 6 + 2)
      have f3 := hgf (k * 6 + 3)
      have Bs := Lib.hid ((hB.out.setCell (p := ⟨gi, k * 6 + 2, none⟩) (Nat.le_trans hbw hgi0) (.int .i64 (-1))).setCell (p := ⟨gi, k * 6 + 3, none⟩) (Nat.le_trans hbw hgi0) (.int .i64 (a3 + 1000)))
      have LE := Lib.hid hle
      have hg2 : (fsome lm (k + 1)).getD k z37 = ⟨a0, b1, -1, a3 + 1000, a4, a5⟩ := by
        rw [← hset]
        simp [List.getD_eq_getElem?_getD, fsome_len, hkl]
      obtain ⟨hn2, hc2, hC2⟩ := Kd.R_reads' Rs.out
      obtain ⟨ad3, e3, v0, v1, v2, v3, v4, v5⟩ := at_T37 hC2 (k : Int) (by omega) (by rw [fsome_len, HL.out]; omega)
      injection e3 with e3
      subst e3
      have hrd2 : rd_T37 (fsome lm (k + 1)) (k : Int) = ⟨a0, b1, -1, a3 + 1000, a4, a5⟩ := by rw [← hg2]; simp [rd_T37]
      rw [Int.toNat_natCast, hrd2] at v0 v1 v5
      simp only [Addr.add_mid, Nat.zero_add] at v0 v1 v5
      have V0 := Lib.hid v0
      have V1 := Lib.hid v1
      have V5 := Lib.hid v5
      clear hg2 hn2 hc2 hC2 hrd2 v0 v1 v2 v3 v4 v5
      clear hle hseg hRs hfe hset cell hcc hcc2 hcl hKc hCC hnn hnc hgf hR hB
      go_wp2_with fail
      obtain ⟨W6, hW6⟩ : ∃ W6, (wr.setCell ⟨gi, k * 6 + 2, none⟩ (.int .i64 (-1))).setCell ⟨gi, k * 6 + 3, none⟩ (.int .i64 (a3 + 1000)) = W6 := ⟨_, rfl⟩
      rw [hW6] at Rs Bs V0 V1 V5 ⊢
      have y0 := V0.out
      have y1 := V1.out
      have y5 := V5.out
      clear hW6 V0 V1 V5 x2 x3 f2 f3
      go_quiet (fail)
      have R7 : Hid (Kd.R k37 37 (W6.drewN nq) bs (fun _ => True) (.slice (some ⟨gi, 0, none⟩) m c) (fsome lm (k + 1))) := Lib.hid (Kd.R_step Rs.out (fun _ _ _ => rfl))
      have B7 : Hid (Below w.heap.size w (W6.drewN nq)) := Lib.hid (pw_below_drewN Bs.out nq)
      generalize W6.drewN nq = W7 at *
      clear y0 y1 y5 Rs Bs
      go_wp2_with fail
      exact ⟨⟨k + 1, by omega, by go_num, by rw [LE.out]; go_num, R7.out, B7.out⟩, by simp [RowKit.intOf]; omega⟩
    · obtain rfl : k = m := by omega
      have hlk := LS.out k (Nat.le_refl _)
      have hfa : fsome lm k = lm.map fillI := by rw [← HL.out, fsome_all]
      rw [hfa] at hR
      obtain ⟨W4, rfl⟩ : ∃ W : World, W = wr := ⟨_, rfl⟩
      have R4 := Lib.hid hR.out
      have B4 := Lib.hid hB.out
      obtain ⟨tot, htot⟩ : ∃ tot, gp + lsome lm k = tot := ⟨_, rfl⟩
      have TOT := Lib.hid htot
      rw [htot]
      clear hfa hR hB htot RR B3
      by_cases hm0 : k = 0
      · have q0 : ((k : Int) == 0) = true := by subst hm0; rfl
        clear hm0
        go_wp2_with fail
        go_ret
        exact ⟨rfl, B4.out⟩
      · have q0 : ((k : Int) == 0) = false := by simp; omega
        by_cases hlong : R ≤ tot
        · have q1 : decide (R ≤ tot) = true := decide_eq_true hlong
          clear hlong hm0
          go_wp2_with fail
          go_ret
          exact ⟨rfl, B4.out⟩
        · have q1 : decide (R ≤ tot) = false := decide_eq_false hlong
          have hge : gap % 256 * ((k : Int) - 1) = gp := by
            have h := HGP.out
            rwa [show max 0 ((k : Int) - 1) = (k : Int) - 1 by omega] at h
          have q2 : -9223372036854775808 ≤ gap % 256 * ((k : Int) - 1) ∧ gap % 256 * ((k : Int) - 1) ≤ 9223372036854775807 := by omega
          obtain ⟨A9, c9, e9, _, hC9⟩ := Kd.R_reads R4.out
          obtain ⟨lf, hlf⟩ : ∃ lf, lm.map fillI = lf := ⟨_, rfl⟩
          have hfl : lf.length = k := by rw [← hlf, List.length_map]; exact HL.out
          have hfg : ∀ j, j < k → lf.getD j z37 = fillI (lm.getD j z37) := fun j hj => by
            have hj2 : j < lm.length := by rw [HL.out]; exact hj
            subst hlf
            rw [List.getD_eq_getElem?_getD, List.getElem?_map, List.getD_eq_getElem?_getD, List.getElem?_eq_getElem hj2]; rfl
          have hfin := filled R (gap % 256) lf (by omega) (by omega) (fun j hj => by
            obtain ⟨x, hx⟩ := MI.out j (by omega)
            exact ⟨x, by rw [hfg j (by omega), hx]⟩) (by omega) (by omega) hgb.1 hgb.2 (by
              have e : sm lf.length (fun j => max (lf.getD j z37).f0 (lf.getD j z37).f1 + (lf.getD j z37).f5) = lsome lm k := by
                rw [hfl]
                refine sm_congr _ _ _ fun j hj => ?_
                rw [hfg j hj]
                rfl
              rw [e, hfl, HGP.out]
              have := TOT.out
              omega)
          rw [hfl, hge] at hfin
          rw [hlf] at hC9 e9
          rw [hfl] at hC9 e9
          injection e9 with e9a e9b e9c
          subst e9a e9c
          have MA := Lib.hid (Mains_c R (gap % 256) A k c lf W4 hC9 (by omega))
          have hob : ∀ j, j < k → (0 ≤ (mainsP R (gap % 256) lf).getD j 0 ∧ (mainsP R (gap % 256) lf).getD j 0 ≤ 16777216) ∧ (-128 ≤ (lf.getD j z37).f5 ∧ (lf.getD j z37).f5 ≤ 127) := fun j hj => by
            obtain ⟨n, hn⟩ := mains_bd R (gap % 256) lf j (by omega)
            have hb := btw_bd n (max 0 (cut (lf.getD j z37).f1)) (cut (lf.getD j z37).f2)
            have h5 := (MB.out j hj).2.2.2
            refine ⟨by rw [hn]; omega, ?_⟩
            rw [hfg j hj]
            exact h5
          have hos : ∀ j, j ≤ k → -128 * (j : Int) ≤ sm j (fun j => (mainsP R (gap % 256) lf).getD j 0 + (lf.getD j z37).f5) ∧ sm j (fun j => (mainsP R (gap % 256) lf).getD j 0 + (lf.getD j z37).f5) ≤ 16777343 * (j : Int) := fun j hj => sm_bd j _ (-128) 16777343 (fun i hi => by
            have := hob i (by omega)
            omega)
          have OB := Lib.hid hob
          have OS := Lib.hid hos
          have FIN := Lib.hid hfin
          have C9 := Lib.hid hC9
          have FL := Lib.hid hfl
          have GE := Lib.hid hge
          clear hlong hlf hfl hfg hfin hob hos hC9 e9b hge
          go_wp2_with fail
          refine MA.out.mono ?_
          rintro e w5 ⟨v, rfl, hO, hB5⟩
          obtain ⟨A5, c5, rfl⟩ := own_slice hO
          rw [FL.out] at hO
          rw [FL.out]
          have C5 := Lib.hid (Kd.C_below C9.out hB5)
          have B5 := Lib.hid (B4.out.trans (hB5.mono B4.out.size))
          obtain ⟨W5, rfl⟩ : ∃ W : World, W = w5 := ⟨_, rfl⟩
          have O5 := Lib.hid hO
          clear hO hB5 MA
          go_wp2_with fail
          rw [GE.out]
          have e0 : gp = gp + sm 0 (fun j => (mainsP R (gap % 256) lf).getD j 0 + (lf.getD j z37).f5) := by rw [sm_zero]; omega
          have E0 := Lib.hid e0
          clear e0
          go_loopw [9, 86] (fun o i wr => ∃ j : Nat, j ≤ k ∧ i = .int .i64 j ∧ o = .int .i64 (gp + sm j (fun j => (mainsP R (gap % 256) lf).getD j 0 + (lf.getD j z37).f5)) ∧ Hid (Below W5.heap.size W5 wr)) (fun _ i _ => k - (RowKit.intOf i).toNat)
          case atStart => exact ⟨0, Nat.zero_le _, rfl, by rw [← E0.out], Below.refl _ _⟩
          case round =>
            obtain ⟨j, hj, rfl, rfl, hB⟩ := hrel
            by_cases hlt3 : j < k
            · have hos := OS.out j hj
              have hos1 := OS.out (j + 1) hlt3
              have hsn : sm (j + 1) (fun j => (mainsP R (gap % 256) lf).getD j 0 + (lf.getD j z37).f5) = sm j (fun j => (mainsP R (gap % 256) lf).getD j 0 + (lf.getD j z37).f5) + ((mainsP R (gap % 256) lf).getD j 0 + (lf.getD j z37).f5) := sm_succ _ _
              have hob := OB.out j hlt3
              obtain ⟨ad, ea, x0, x1, x2, x3, x4, x5⟩ := at_T37 (Kd.C_below C5.out hB.out) (j : Int) (by omega) (by omega)
              subst ea
              rw [Int.toNat_natCast] at x5
              have hrd : rd_T37 lf (j : Int) = lf.getD j z37 := by simp [rd_T37]
              rw [hrd] at x5
              have hO := pw_own_below O5.out hB.out
              obtain ⟨g5, rfl⟩ : ∃ g, A5 = some ⟨g, 0, none⟩ := by
                rcases hO.2 with ⟨_, h0⟩ | ⟨g, cap, cur, hv, _⟩
                · omega
                · injection hv with hv
                  exact ⟨g, hv⟩
              obtain ⟨y0, _⟩ := own_at hO (j : Int) (by omega) (by omega)
              rw [Int.toNat_natCast] at y0
              have hre : rd (mainsP R (gap % 256) lf) (j : Int) = (mainsP R (gap % 256) lf).getD j 0 := by simp [rd]
              rw [hre] at y0
              have SN := Lib.hid hsn
              clear hsn hrd hre hO x0 x1 x2 x3 x4
              generalize (mainsP R (gap % 256) lf).getD j 0 = o at *
              generalize (lf.getD j z37).f5 = e5 at *
              obtain ⟨s0, hs0⟩ : ∃ s0, sm j (fun j => (mainsP R (gap % 256) lf).getD j 0 + (lf.getD j z37).f5) = s0 := ⟨_, rfl⟩
              rw [hs0] at SN hos ⊢
              have SN1 := Lib.hid SN.out
              rw [SN.out] at hos1
              clear hs0
              go_wp2_with fail
              exact ⟨⟨j + 1, by omega, by go_num, by rw [SN1.out]; go_num, hB.out⟩, by simp [RowKit.intOf]; omega⟩
            · obtain rfl : j = k := by omega
              rw [FIN.out]
              have B9 := Lib.hid (B5.out.trans (hB.out.mono B5.out.size))
              have qq : (R == R) = true := by simp
              clear hB
              go_wp2_with fail
              go_ret
              exact ⟨rfl, B9.out⟩

theorem own : ownKnob Try.prog.godebug = none := by kernel_rfl
theorem laidOut : laidOutB Try.prog = true := by kernel_rfl
set_option maxRecDepth 100000 in
theorem lifted (os : Os) (started : os.Started) (H : Type) (enc : TypeId × Value → H) :
    ReturnsInHanded {} Try.checked os 5 .any (Rows.flexFilledSpec.pre6 enc Try.prog Try.f5 Rows.flexFilledRow.domain false) (Rows.flexFilledSpec.post enc Try.prog Try.f5 false true false false) := by
  refine returnsInHanded_of_change_sized (C := Try.checked) own started (by kernel_rfl) Try.func5
    (ChangeSpec.witness6 (enc := enc) (C := Try.checked) false ⟨#[], #[.int .i64 0, .int .i64 0, .slice none 0 0], []⟩ 8 (by kernel_rfl) (by kernel_rfl) (by kernel_rfl) (by kernel_rfl)) ?_
  intro W base args ds gs before hval0 hW hcnd hsz0 _
  have hsz : (DataW.weightsEach Try.prog (Try.f5.params.toList ++ Rows.flexFilledSpec.plain.varTypes Try.prog) (ds ++ gs)).all (· ≤ reachBytes) = true := hsz0
  have hval : ∀ (j : Nat) t v, Try.f5.params[j]? = some t → args[j]? = some v → Value.okWide Try.prog W .any base t v := hval0
  have hW' := hW
  obtain ⟨p, q, hA0, hV, rfl, hfz, hnd⟩ := hW
  have hA : DataW.TrodAll enc Try.prog W 0 (fun _ => true) true Try.f5.params.toList args.toList ds p := hA0
  rw [Try.params5] at hA hval hsz
  obtain ⟨v0, vs0, d0, ds0, p0, q0, hargs, rfl, rfl, h0, r0⟩ := trodAll_cons hA
  obtain ⟨v1, vs1, d1, ds1, p1, q1, rfl, rfl, rfl, h1, r1⟩ := trodAll_cons r0
  obtain ⟨v2, vs2, d2, ds2, p2, q2, rfl, rfl, rfl, h2, r2⟩ := trodAll_cons r1
  obtain ⟨rfl, rfl, rfl⟩ := trodAll_nil r2
  obtain rfl : args = #[v0, v1, v2] := by cases args; simp_all
  obtain ⟨rfl, rfl⟩ := trodVars_none hV
  obtain ⟨a0, rfl, rfl, rfl, w0⟩ := open_int Try.underlying3 (hval 0 3 v0 rfl rfl) h0
  obtain ⟨a1, rfl, rfl, rfl, w1⟩ := open_int Try.underlying3 (hval 1 3 v1 rfl rfl) h1
  obtain ⟨a2, len2, cap2, rfl⟩ := okWide_slice Try.underlying31 (hval 2 31 v2 rfl rfl)
  have k2 := h2
  have lt2 : ∀ x ∈ p2, x.block < W.heap.size := by obtain ⟨m, hm⟩ := k2; exact DataW.trod_lt m _ _ _ hm
  obtain ⟨z2, e2, c2, w2⟩ : ∃ zs, len2 = zs.length ∧ len2 ≤ cap2 ∧ Kd.C k37 W a2 len2 zs := by
    obtain ⟨fuel, hf⟩ := h2
    obtain ⟨A, c, xs, hcs, h1, h2⟩ := slice_of Try.underlying31 op_T37 hf
    simp [Value.cells] at hcs
    obtain ⟨rfl, rfl, rfl⟩ := hcs
    exact ⟨xs, rfl, h1, h2⟩
  clear hA0 hval0 hsz0 hsz
  refine (walk a0 a1 a2 len2 cap2 z2 W w0 w1 e2 c2 w2).mono fun e W' ⟨he, bel⟩ => ?_
  subst he
  exact ⟨_, rfl, _, _, _, [], _, [], hW', trodAll_mk1 (shut_bool Try.underlying4 _), (trodAll_cons_mk (shut_int Try.underlying3 w0) (trodAll_cons_mk (shut_int Try.underlying3 w1) (trodAll_cons_mk (Below.trod laidOut (by kernel_rfl) (of_decide_eq_true (by kernel_rfl)) k2 bel lt2) trodAll_mk0))), rfl, bel.frame _, fun h => by cases h⟩
theorem over : Rows.flexFilledRow.holds Try.pinned (OpenSpec.ofChange Rows.flexFilledSpec) :=
  OpenClaim.holds_of_wide 5 Try.f5 rfl rfl rfl rfl rfl rfl rfl ⟨rfl, rfl, rfl, rfl, rfl⟩ rfl rfl rfl rfl rfl (by kernel_rfl) Try.func5 (by kernel_rfl)
    (of_decide_eq_true (by kernel_rfl)) (by unfold Func.isWrapper; first | (rw [if_pos (by decide +kernel)]; kernel_rfl) | (rw [if_neg (by decide +kernel)]; exact ⟨rfl, rfl⟩))
    (fun os started H enc _ => lifted os started H enc)
theorem proved : Rows.FlexFilledSaid := over
#print axioms proved
end Go.Proofs.Ytfkgpkkjiolfpaa.FlexFilled
