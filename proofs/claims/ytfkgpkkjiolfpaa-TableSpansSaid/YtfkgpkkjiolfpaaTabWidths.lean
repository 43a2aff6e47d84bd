/- Package table: widths of columns. -/
import Derived.Test.YtfkgpkkjiolfpaaTabPlain
import Derived.Test.YtfkgpkkjiolfpaaTabRep
import Derived.Test.YtfkgpkkjiolfpaaTabEq
import Derived.Deep.RegionHeld3
namespace Go.Proofs.Ytfkgpkkjiolfpaa.Tab
open Go.RowKit Go.Lib Go.Proofs.Ytfkgpkkjiolfpaa.Spd Go.Proofs.Ytfkgpkkjiolfpaa.Pl Go.Proofs.Ytfkgpkkjiolfpaa.Fx Go.Proofs.Ytfkgpkkjiolfpaa.Sh Go.Proofs.Ytfkgpkkjiolfpaa.Sm Go.Proofs.Ytfkgpkkjiolfpaa.Rgn Go.Proofs.Ytfkgpkkjiolfpaa.Blk Go.Proofs.Ytfkgpkkjiolfpaa.Tab Go.Proofs.YtfkgpkkjiolfpaaW.PrintWords Go.Proofs.YtfkgpkkjiolfpaaW.PrintLast Go.Proofs.YtfkgpkkjiolfpaaW.PrintMore
set_option linter.unusedVariables false
set_option linter.unusedSimpArgs false
attribute [local go_sem] mx2 mn2 mx_two mn_two mx_three mn_three

theorem two_made (w : World) (n : Nat) (hn : n ≤ 1000000) : ∃ W, ((w.alloc (.cells (madeCells #[.int .i64 0] n) 3)).alloc (.cells (madeCells #[.int .i64 0] n) 3)).drew = W ∧ Below w.heap.size w W ∧
    (∀ g, g = w.heap.size → W.ownsRow w.heap.size 3 1 (.slice (some ⟨g, 0, none⟩) n n) n (nums .i64 (List.replicate n 0))) ∧ (∀ g, g = w.heap.size + 1 → W.ownsRow w.heap.size 3 1 (.slice (some ⟨g, 0, none⟩) n n) n (nums .i64 (List.replicate n 0))) := by
  refine ⟨_, rfl, (below_alloc (below_alloc (Below.refl _ _) _) _).drew, ?_, ?_⟩
  · rintro g rfl
    exact pw_own_below (pw_own_below (own_made w w.heap.size 3 .i64 n (Nat.le_refl _) (by omega)) (below_alloc (Below.refl _ _) _)) (Below.refl _ _).drew
  · rintro g rfl
    have h := own_made (w.alloc (.cells (madeCells #[.int .i64 0] n) 3)) w.heap.size 3 .i64 n (by simp) (by omega)
    rw [World.size_alloc] at h
    exact pw_own_below h (Below.refl _ _).drew
theorem own_other {W : World} {base g g2 n c : Nat} {xs : List Value} (h : W.ownsRow base 3 1 (.slice (some ⟨g, 0, none⟩) n c) n xs) (hne : g ≠ g2) (j : Nat) (v : Value) : (W.setCell ⟨g2, j, none⟩ v).ownsRow base 3 1 (.slice (some ⟨g, 0, none⟩) n c) n xs :=
  own_move h fun k hk => by
    have : g = k := by simpa [Value.ownBlock] using hk
    subst this
    exact Below.heap_setCell W ⟨g2, j, none⟩ v g hne
theorem own_apart {W : World} {base g2 n : Nat} {v : Value} {xs : List Value} (h : W.ownsRow base 3 1 v n xs) (hlt : g2 < base) (j : Nat) (u : Value) : (W.setCell ⟨g2, j, none⟩ u).ownsRow base 3 1 v n xs :=
  own_move h fun k hk => Below.heap_setCell W ⟨g2, j, none⟩ u k (show k ≠ g2 by have := own_base h k hk; omega)
set_option maxRecDepth 1000000 in
set_option maxHeartbeats 4000000 in
theorem Widths_c (room sp : Int) (Al Am : Option Addr) (n cl cm : Nat) (ls ms : List Int) (fixed : Bool) (w : World) (hl : ReadsInt w .i64 Al n ls) (hm : ReadsInt w .i64 Am n ms) (hn : n ≤ 100) :
    Calls Try.prog 26 #[.int .i64 room, .int .i64 sp, .slice Al n cl, .slice Am n cm, .bool fixed] w fun e w' => ∃ v, e = .returned v ∧ w'.ownsRow w.heap.size 3 1 v n (nums .i64 (widthsP room sp ls ms n fixed)) ∧ Below w.heap.size w w' := by
  have HL := Lib.hid hl
  have HM := Lib.hid hm
  have hmk := print_make (P := Try.prog) 33 3 .i64 8 Try.underlying33 info (by decide) n (by omega)
  clear hl hm
  go_enter Try.func26, Try.ntmps26
  go_wp2_with fail
  go_region
  obtain ⟨W, eW, hBW, h0, h1⟩ := two_made w n (by omega)
  rw [eW]
  obtain ⟨gl, hgl⟩ : ∃ g, w.heap.size = g := ⟨_, rfl⟩
  obtain ⟨gm, hgm⟩ : ∃ g, w.heap.size + 1 = g := ⟨_, rfl⟩
  have hOL := h0 gl hgl.symm
  have hOM := h1 gm hgm.symm
  have hne : gl ≠ gm := by omega
  have hbl : w.heap.size ≤ gl := by omega
  have hbm : w.heap.size ≤ gm := by omega
  rw [hgm, hgl]
  clear h0 h1 eW hgl hgm hmk
  rotate_left
  obtain ⟨W, eW, hBW, h0, h1⟩ := two_made w n (by omega)
  rw [eW]
  obtain ⟨gl, hgl⟩ : ∃ g, w.heap.size + 1 = g := ⟨_, rfl⟩
  obtain ⟨gm, hgm⟩ : ∃ g, w.heap.size = g := ⟨_, rfl⟩
  have hOL := h1 gl hgl.symm
  have hOM := h0 gm hgm.symm
  have hne : gl ≠ gm := by omega
  have hbl : w.heap.size ≤ gl := by omega
  have hbm : w.heap.size ≤ gm := by omega
  rw [hgl, hgm]
  clear h0 h1 eW hgl hgm hmk
  all_goals (
    have OL := Lib.hid hOL
    have OM := Lib.hid hOM
    have BW := Lib.hid hBW
    clear hOL hOM hBW
    go_wp2_with fail
    rw [← part_zero (lowW ls), ] at OL
    rw [← part_zero (moreW ls ms)] at OM
    go_loopw [30] (fun i wr => ∃ k : Nat, k ≤ n ∧ i = .int .i64 k ∧ Hid (wr.ownsRow w.heap.size 3 1 (.slice (some ⟨gl, 0, none⟩) n n) n (nums .i64 (part_ (lowW ls) n k))) ∧ Hid (wr.ownsRow w.heap.size 3 1 (.slice (some ⟨gm, 0, none⟩) n n) n (nums .i64 (part_ (moreW ls ms) n k))) ∧ Hid (Below w.heap.size w wr)) (fun i _ => n - (RowKit.intOf i).toNat)
    case atStart => exact ⟨0, Nat.zero_le _, rfl, OL, OM, BW⟩
    case round =>
      obtain ⟨k, hk, rfl, hO1, hO2, hB⟩ := hrel
      by_cases hlt : k < n
      · obtain ⟨a1, ea1, hx1⟩ := (HL.out.below hB.out).at_ (k : Int) (by omega) (by omega)
        obtain ⟨a2, ea2, hx2⟩ := (HM.out.below hB.out).at_ (k : Int) (by omega) (by omega)
        rw [Int.toNat_natCast] at hx1 hx2
        have r1 : rd ls (k : Int) = ls.getD k 0 := by simp [rd]
        have r2 : rd ms (k : Int) = ms.getD k 0 := by simp [rd]
        rw [r1] at hx1
        rw [r2] at hx2
        have hlw : lowW ls k = max 0 (cut (ls.getD k 0)) := rfl
        have hmw : moreW ls ms k = max 0 (cut (ms.getD k 0) - max 0 (cut (ls.getD k 0))) := rfl
        have hs1 := part_set (lowW ls) n k hlt
        have hs2 := part_set (moreW ls ms) n k hlt
        rw [hlw] at hs1
        rw [hmw] at hs2
        generalize ls.getD k 0 = x at *
        generalize ms.getD k 0 = y at *
        have hcx := cut_bd x
        have hcy := cut_bd y
        obtain ⟨p1, f1⟩ := own_at hO1.out (k : Int) (by omega) (by omega)
        have hw1 := (own_store hO1.out (k : Int) (max 0 (cut x))).1
        rw [Int.toNat_natCast] at p1 f1 hw1
        rw [hs1] at hw1
        have hw2 := own_other hO2.out (Ne.symm hne) k (.int .i64 (max 0 (cut x)))
        have hw3 := hB.out.setCell (p := ⟨gl, k, none⟩) hbl (.int .i64 (max 0 (cut x)))
        have OK1 := Lib.hid (pw_own_below hw1 (Below.refl _ _).drew)
        have OK2 := Lib.hid (pw_own_below hw2 (Below.refl _ _).drew)
        have OK3 := Lib.hid hw3.drew
        have S2 := Lib.hid hs2
        have LW := Lib.hid hlw
        clear hs1 hs2 hw1 hw2 hw3 r1 hlw hmw
        subst ea1 ea2
        obtain ⟨a3, ea3, hx3⟩ := (HM.out.below OK3.out).at_ (k : Int) (by omega) (by omega)
        cases ea3
        rw [Int.toNat_natCast, r2] at hx3
        obtain ⟨p2, -⟩ := own_at OK1.out (k : Int) (by omega) (by omega)
        have r3 : rd (part_ (lowW ls) n (k + 1)) (k : Int) = max 0 (cut x) := by
          rw [show rd (part_ (lowW ls) n (k + 1)) (k : Int) = (part_ (lowW ls) n (k + 1)).getD k 0 by simp [rd], part_get _ _ _ _ hlt, if_pos (by omega), LW.out]
        rw [r3, Int.toNat_natCast] at p2
        obtain ⟨p3, f3⟩ := own_at OK2.out (k : Int) (by omega) (by omega)
        rw [Int.toNat_natCast] at p3 f3
        have hw4 := (own_store OK2.out (k : Int) (max 0 (cut y - max 0 (cut x)))).1
        rw [Int.toNat_natCast, S2.out] at hw4
        have hw5 := own_other OK1.out hne k (.int .i64 (max 0 (cut y - max 0 (cut x))))
        have hw6 := OK3.out.setCell (p := ⟨gm, k, none⟩) hbm (.int .i64 (max 0 (cut y - max 0 (cut x))))
        have OK4 := Lib.hid hw4
        have OK5 := Lib.hid hw5
        have OK6 := Lib.hid hw6
        clear r2 r3 hw4 hw5 hw6 S2 LW hO2 OL OM BW
        go_wp2_with (go_at_call 22; refine (Cut_c _ _).mono ?_; rintro e w' ⟨rfl, rfl⟩)
        refine wp_region_still_tail 14 (by kernel_rfl) (by kernel_rfl) ?_
        simp only [List.take_succ_cons, List.take_zero, List.drop_succ_cons, List.drop_zero]
        change wpStill _ _ (World.drew (wr.setCell ⟨gl, k, none⟩ (.int .i64 (max 0 (cut x))))) (fun a' => wpList _ _ _ _ a' (World.drew (wr.setCell ⟨gl, k, none⟩ (.int .i64 (max 0 (cut x)))))) _ _
        clear p1 f1
        generalize (wr.setCell ⟨gl, k, none⟩ (.int .i64 (max 0 (cut x)))).drew = w2 at *
        have CUT : Hid (∀ n : Int, Calls Try.prog 22 #[.int .i64 n] w2 fun e w'' => e = .returned (.int .i64 (cut n)) ∧ w'' = w2) := Lib.hid (fun n => (Cut_c n w2).mono fun e w' h => ⟨h.1, h.2.symm⟩)
        still_step
        still_step
        still_step
        still_step
        still_step
        still_step
        still_call (CUT.out _)
        still_step
        still_step
        still_step
        still_step
        still_step
        still_step
        still_step
        refine wpStill_nil ?_
        go_wp2_with fail
        go_roundw
        case rel => exact ⟨k + 1, by omega, by go_num, OK5, OK4, OK6⟩
        case measure => simp [RowKit.intOf]; omega
      · obtain rfl : k = n := by omega
        rw [part_all] at hO1 hO2
        have O1 : Hid (wr.ownsRow w.heap.size 3 1 (.slice (some ⟨gl, 0, none⟩) k k) k (nums .i64 (lowP ls k))) := hO1
        have O2 : Hid (wr.ownsRow w.heap.size 3 1 (.slice (some ⟨gm, 0, none⟩) k k) k (nums .i64 (moreP ls ms k))) := hO2
        have hfe : max 0 (cut room - max 0 (cut sp) * ((k : Int) + 1)) = freeP room sp k := rfl
        have hcr := cut_bd room
        have hcs := cut_bd sp
        have hmb : 0 ≤ max 0 (cut sp) * ((k : Int) + 1) ∧ max 0 (cut sp) * ((k : Int) + 1) ≤ 2000000000 := by
          have h1 : max 0 (cut sp) * ((k : Int) + 1) ≤ 16777216 * ((k : Int) + 1) := Int.mul_le_mul_of_nonneg_right (by omega) (by omega)
          exact ⟨Int.mul_nonneg (by omega) (by omega), by omega⟩
        have hls := sum_bd (lowW ls) k (lowW_bd ls) (by omega)
        have hms := sum_bd (moreW ls ms) k (moreW_bd ls ms) (by omega)
        have hlb := lowW_bd ls
        have hll : (lowP ls k).length = k := by simp [lowP]
        have hml : (moreP ls ms k).length = k := by simp [moreP]
        have hfb := freeP_bd room sp k
        have hwp : widthsP room sp ls ms k fixed = if fixed = true then zipK max (lowP ls k) (share (freeP room sp k) (List.replicate k 1)) k else if freeP room sp k ≤ (lowP ls k).sum then lowP ls k else zipK (· + ·) (lowP ls k) (share (min (freeP room sp k - (lowP ls k).sum) (moreP ls ms k).sum) (moreP ls ms k)) k := rfl
        have HWP := Lib.hid hwp
        have HFE := Lib.hid hfe
        have hgl := own_lt O1.out gl rfl
        have hgm := own_lt O2.out gm rfl
        clear hO1 hO2 OL OM BW hwp hfe HL HM hlt hk
        cases fixed with
        | true =>
          rw [if_pos rfl] at HWP
          go_wp2_with (go_at_call 22; refine (Cut_c _ _).mono ?_; rintro e w' ⟨rfl, rfl⟩)
          rw [HFE.out]
          generalize freeP room sp k = fr at *
          have hal := below_alloc (Below.refl wr.heap.size wr) (.cells #[.int .i64 1] 3)
          refine (Repeat_c wr.heap.size k _ (by simp) (by omega)).mono ?_
          rintro e w2 ⟨v2, rfl, hO3, hB3⟩
          obtain ⟨A, c, rfl, hR⟩ := own_reads hO3
          have hB4 := below_then hal hal.size hB3
          have O3 := Lib.hid (pw_own_below O1.out hB4)
          have B4 := Lib.hid (below_then hB.out hB.out.size hB4)
          have HR := Lib.hid hR
          have hsz := hB4.size
          clear hal hO3 hB3 hB4 hR O1 O2 HFE hms hml hmb hcr hcs hgm hfb
          go_wp2_with fail
          refine (Share_c fr w2 A k c (List.replicate k 1) HR.out (by omega)).mono ?_
          rintro e w3 ⟨v3, rfl, hO4, hB5⟩
          obtain ⟨A3, c3, rfl, hR3⟩ := own_reads hO4
          have O4 := Lib.hid hO4
          have O5 := Lib.hid (pw_own_below O3.out hB5)
          have B5 := Lib.hid (below_then B4.out B4.out.size hB5)
          have hsl : (share fr (List.replicate k 1)).length = k := by rw [share_len]; simp
          have hz0 := zip_zero max (lowP ls k) (share fr (List.replicate k 1))
          have hlb2 : ∀ i, i < k → (lowP ls k).getD i 0 = lowW ls i := fun i hi => by simp [lowP, List.getD_eq_getElem?_getD, hi]
          generalize share fr (List.replicate k 1) = sh at *
          generalize lowP ls k = low at *
          rw [← hz0] at O5
          clear hO4 hB5 hR3 O3 B4 HR hz0 hls
          go_wp2_with fail
          go_loopw [98] (fun i wv => ∃ j : Nat, j ≤ k ∧ i = .int .i64 j ∧ Hid (wv.ownsRow w.heap.size 3 1 (.slice (some ⟨gl, 0, none⟩) k k) k (nums .i64 (zipK max low sh j))) ∧ Hid (wv.ownsRow w2.heap.size 3 1 (.slice A3 k c3) k (nums .i64 sh)) ∧ Hid (Below w.heap.size w wv)) (fun i _ => k - (RowKit.intOf i).toNat)
          case atStart => exact ⟨0, Nat.zero_le _, rfl, O5, O4, B5⟩
          case round =>
            obtain ⟨j, hj, rfl, hP, hQ, hB6⟩ := hrel
            by_cases hlt2 : j < k
            · obtain ⟨ad, ea, hx⟩ := (own_reads' hQ.out).at_ (j : Int) (by omega) (by omega)
              subst ea
              obtain ⟨p1, f1⟩ := own_at hP.out (j : Int) (by omega) (by omega)
              have r1 : rd (zipK max low sh j) (j : Int) = low.getD j 0 := by
                rw [show rd (zipK max low sh j) (j : Int) = (zipK max low sh j).getD j 0 by simp [rd], zip_get _ _ _ _ _ (by omega), if_neg (by omega)]
              have r2 : rd sh (j : Int) = sh.getD j 0 := by simp [rd]
              rw [r1, Int.toNat_natCast] at p1
              rw [Int.toNat_natCast] at f1
              rw [r2, Int.toNat_natCast] at hx
              have hw1 := (own_store hP.out (j : Int) (max (low.getD j 0) (sh.getD j 0))).1
              rw [Int.toNat_natCast, zip_set max low sh j (by omega)] at hw1
              have hw2 := own_apart hQ.out (show gl < w2.heap.size by omega) j (.int .i64 (max (low.getD j 0) (sh.getD j 0)))
              have hw3 := hB6.out.setCell (p := ⟨gl, j, none⟩) hbl (.int .i64 (max (low.getD j 0) (sh.getD j 0)))
              generalize low.getD j 0 = x at *
              generalize sh.getD j 0 = y at *
              have W1 := Lib.hid hw1
              have W2 := Lib.hid hw2
              have W3 := Lib.hid hw3
              clear hw1 hw2 hw3 r1 r2 hlb hlb2
              go_wp2_with fail
              go_roundw
              case rel => exact ⟨j + 1, by omega, by go_num, W1, W2, W3⟩
              case measure => simp [RowKit.intOf]; omega
            · obtain rfl : j = k := by omega
              go_wp2_with fail
              go_ret
              exact ⟨_, rfl, by rw [HWP.out]; exact hP.out, hB6.out⟩
        | false =>
          rw [if_neg (by decide)] at HWP
          go_wp2_with (go_at_call 22; refine (Cut_c _ _).mono ?_; rintro e w' ⟨rfl, rfl⟩)
          rw [HFE.out]
          generalize freeP room sp k = fr at *
          have SL := Lib.hid (fun W (h : ReadsInt W .i64 (some ⟨gl, 0, none⟩) k (lowP ls k)) => tsum_c W (some ⟨gl, 0, none⟩) k k (lowP ls k) h (fun q => ⟨by have := (hls q).1; unfold lowP; omega, by have := (hls q).2; unfold lowP; omega⟩))
          have SM := Lib.hid (fun W (h : ReadsInt W .i64 (some ⟨gm, 0, none⟩) k (moreP ls ms k)) => tsum_c W (some ⟨gm, 0, none⟩) k k (moreP ls ms k) h (fun q => ⟨by have := (hms q).1; unfold moreP; omega, by have := (hms q).2; unfold moreP; omega⟩))
          have hls2 : 0 ≤ (lowP ls k).sum ∧ (lowP ls k).sum ≤ 2000000000000000 := by have := hls k; rwa [List.take_of_length_le (by simp)] at this
          have hms2 : 0 ≤ (moreP ls ms k).sum ∧ (moreP ls ms k).sum ≤ 2000000000000000 := by have := hms k; rwa [List.take_of_length_le (by simp)] at this
          have hlb2 : ∀ i, i < k → (lowP ls k).getD i 0 = lowW ls i := fun i hi => by simp [lowP, List.getD_eq_getElem?_getD, hi]
          clear HFE hmb hcr hcs hls hms
          generalize hlo : lowP ls k = low at *
          generalize hmo : moreP ls ms k = more at *
          clear hlo hmo
          generalize low.sum = sl at *
          generalize more.sum = sm at *
          refine (SL.out wr (own_reads' O1.out)).mono ?_
          rintro e w' ⟨rfl, rfl⟩
          by_cases hge : fr ≤ sl
          · have n1 : decide (sl ≥ fr) = true := decide_eq_true hge
            have n2 : decide (fr ≤ sl) = true := decide_eq_true hge
            rw [if_pos hge] at HWP
            clear hge SL SM
            go_wp2_with fail
            go_ret
            exact ⟨_, rfl, by rw [HWP.out]; exact O1.out, hB.out⟩
          · have n1 : decide (sl ≥ fr) = false := decide_eq_false hge
            have n2 : decide (fr ≤ sl) = false := decide_eq_false hge
            rw [if_neg hge] at HWP
            clear n2
            go_wp2_with fail
            refine (SL.out wr (own_reads' O1.out)).mono ?_
            rintro e w' ⟨rfl, rfl⟩
            go_wp2_with fail
            refine (SM.out wr (own_reads' O2.out)).mono ?_
            rintro e w' ⟨rfl, rfl⟩
            go_wp2_with fail
            refine (Share_c (min (fr - sl) sm) wr _ k k more (own_reads' O2.out) (by omega)).mono ?_
            rintro e w3 ⟨v3, rfl, hO4, hB5⟩
            obtain ⟨A3, c3, rfl, hR3⟩ := own_reads hO4
            have O4 := Lib.hid hO4
            have O5 := Lib.hid (pw_own_below O1.out hB5)
            have B5 := Lib.hid (below_then hB.out hB.out.size hB5)
            have hsl : (share (min (fr - sl) sm) more).length = k := by rw [share_len]; exact hml
            have hsb : ∀ i, -33554432 ≤ (share (min (fr - sl) sm) more).getD i 0 ∧ (share (min (fr - sl) sm) more).getD i 0 ≤ 33554432 := fun i => by
              by_cases hi : i < (share (min (fr - sl) sm) more).length
              · have h1 := share_take_bd (min (fr - sl) sm) more i
                have h2 := share_take_bd (min (fr - sl) sm) more (i + 1)
                rw [take_sum _ _ hi] at h2
                omega
              · rw [List.getD_eq_getElem?_getD, List.getElem?_eq_none (by omega)]
                decide
            have hz0 := zip_zero (· + ·) low (share (min (fr - sl) sm) more)
            generalize share (min (fr - sl) sm) more = sh at *
            rw [← hz0] at O5
            clear hO4 hB5 hR3 O1 hz0 SL SM O2 hB hge n1
            go_wp2_with fail
            go_loopw [77] (fun i wv => ∃ j : Nat, j ≤ k ∧ i = .int .i64 j ∧ Hid (wv.ownsRow w.heap.size 3 1 (.slice (some ⟨gl, 0, none⟩) k k) k (nums .i64 (zipK (· + ·) low sh j))) ∧ Hid (wv.ownsRow wr.heap.size 3 1 (.slice A3 k c3) k (nums .i64 sh)) ∧ Hid (Below w.heap.size w wv)) (fun i _ => k - (RowKit.intOf i).toNat)
            case atStart => exact ⟨0, Nat.zero_le _, rfl, O5, O4, B5⟩
            case round =>
              obtain ⟨j, hj, rfl, hP, hQ, hB6⟩ := hrel
              by_cases hlt2 : j < k
              · obtain ⟨ad, ea, hx⟩ := (own_reads' hQ.out).at_ (j : Int) (by omega) (by omega)
                subst ea
                obtain ⟨p1, f1⟩ := own_at hP.out (j : Int) (by omega) (by omega)
                have r1 : rd (zipK (· + ·) low sh j) (j : Int) = low.getD j 0 := by
                  rw [show rd (zipK (· + ·) low sh j) (j : Int) = (zipK (· + ·) low sh j).getD j 0 by simp [rd], zip_get _ _ _ _ _ (by omega), if_neg (by omega)]
                have r2 : rd sh (j : Int) = sh.getD j 0 := by simp [rd]
                rw [r1, Int.toNat_natCast] at p1
                rw [Int.toNat_natCast] at f1
                rw [r2, Int.toNat_natCast] at hx
                have hw1 := (own_store hP.out (j : Int) (low.getD j 0 + sh.getD j 0)).1
                rw [Int.toNat_natCast, zip_set (· + ·) low sh j (by omega)] at hw1
                have hw2 := own_apart hQ.out hgl j (.int .i64 (low.getD j 0 + sh.getD j 0))
                have hw3 := hB6.out.setCell (p := ⟨gl, j, none⟩) hbl (.int .i64 (low.getD j 0 + sh.getD j 0))
                have hb1 := hsb j
                have hb2 := hlb j
                rw [← hlb2 j hlt2] at hb2
                generalize low.getD j 0 = x at *
                generalize sh.getD j 0 = y at *
                have W1 := Lib.hid hw1
                have W2 := Lib.hid hw2
                have W3 := Lib.hid hw3
                clear hw1 hw2 hw3 r1 r2 hlb hlb2 hsb
                go_wp2_with fail
                go_roundw
                case rel => exact ⟨j + 1, by omega, by go_num, W1, W2, W3⟩
                case measure => simp [RowKit.intOf]; omega
              · obtain rfl : j = k := by omega
                go_wp2_with fail
                go_ret
                exact ⟨_, rfl, by rw [HWP.out]; exact hP.out, hB6.out⟩)
end Go.Proofs.Ytfkgpkkjiolfpaa.Tab
