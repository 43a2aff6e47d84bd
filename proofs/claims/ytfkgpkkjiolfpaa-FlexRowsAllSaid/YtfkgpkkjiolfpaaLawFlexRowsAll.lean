/- Flexible rows: each item is in one row; no row of several is longer than the room. For every input. -/
import Derived.Test.YtfkgpkkjiolfpaaRows
import Derived.Test.YtfkgpkkjiolfpaaFlexRows
import Derived.Test.YtfkgpkkjiolfpaaFlexOp
import Derived.ProofKit
import Derived.OpenShut
import Derived.ShutString
import Derived.ChangeOld
import Derived.Below
import Derived.SizedLaws
import Derived.Deep.QuietTactic
import Derived.BigQuiet
import Derived.StillTailTactics
namespace Go.Proofs.Ytfkgpkkjiolfpaa.FlexRowsAll
open Go.RowKit Go.Proofs.Ytfkgpkkjiolfpaa.Flx Go.Proofs.Ytfkgpkkjiolfpaa.Rgn Go.Proofs.Ytfkgpkkjiolfpaa.Pl Go.Proofs.Ytfkgpkkjiolfpaa.Fx Go.Proofs.Ytfkgpkkjiolfpaa.Sm Go.Proofs.Ytfkgpkkjiolfpaa.Opn Go.Proofs.YtfkgpkkjiolfpaaW.PrintWords Go.Proofs.YtfkgpkkjiolfpaaW.PrintLast Go.Proofs.YtfkgpkkjiolfpaaW.PrintMore
open Go.ChangeShapes Go.WideShapes Go.ChangeAt
set_option linter.unusedVariables false
set_option linter.unusedSimpArgs false
attribute [local go_sem] mx2 mn2 mx_two mn_two mx_three mn_three

theorem mild_len (lm : List LF) (k : Nat) (hk : k < lm.length) (x : LF) (hx : lm.getD k z37 = mildI x) : lenI (lm.map mkIt) k = btw (mildI x).f0 (mildI x).f1 (mildI x).f2 + (mildI x).f5 := by
  have e : gI (lm.map mkIt) k = mkIt (mildI x) := by
    rw [← hx]
    simp [gI, List.getD_eq_getElem?_getD, hk]
  unfold lenI
  rw [e]
  have b0 := u16_bd x.f0
  have b1 := u16_bd x.f1
  have b2 := i16_bd x.f2
  have b5 := i8_bd x.f5
  show btw (cut (IntKind.u16.wrap x.f0)) (max 0 (cut (IntKind.u16.wrap x.f1 / 8))) (cut (IntKind.i16.wrap x.f2)) + cut (IntKind.i8.wrap x.f5) = btw (IntKind.u16.wrap x.f0) (IntKind.u16.wrap x.f1 / 8) (IntKind.i16.wrap x.f2) + IntKind.i8.wrap x.f5
  generalize IntKind.u16.wrap x.f0 = u0 at *
  generalize IntKind.u16.wrap x.f1 = u1 at *
  generalize IntKind.i16.wrap x.f2 = u2 at *
  generalize IntKind.i8.wrap x.f5 = u5 at *
  rw [cut_id (n := u0) (by omega) (by omega), cut_id (n := u1 / 8) (by omega) (by omega), cut_id (n := u2) (by omega) (by omega), cut_id (n := u5) (by omega) (by omega), show max 0 (u1 / 8) = u1 / 8 by omega]
theorem ci_take (o : List Nat) (k : Nat) : ((ci o).take k).sum = ((o.take k).sum : Nat) := by
  unfold ci
  rw [← List.map_take]
  induction o.take k with
  | nil => rfl
  | cons a l ih => rw [List.map_cons, List.sum_cons, List.sum_cons, ih]; simp
theorem take_sum_le (o : List Nat) (k : Nat) : (o.take k).sum ≤ o.sum := by
  have h := List.take_append_drop k o
  have h2 : o.sum = (o.take k).sum + (o.drop k).sum := by rw [← List.sum_append, h]
  omega
theorem take_succ_sum (o : List Nat) (k : Nat) (hk : k < o.length) : (o.take (k + 1)).sum = (o.take k).sum + o.getD k 0 := by
  rw [List.take_succ_eq_append_getElem hk, List.sum_append]
  simp [List.getD_eq_getElem?_getD, hk]
theorem own_ints {W : World} {base n : Nat} {A : Option Addr} {c : Nat} {xs : List Int} (h : W.ownsRow base 3 1 (.slice A n c) n (nums .i64 xs)) (hn : n ≤ 1000000) : ReadsInt W .i64 A n xs := by
  have hl : xs.length = n := by have := h.1; simp [nums] at this; exact this
  refine ⟨hl, by omega, fun h0 => ?_⟩
  obtain ⟨g, cap, hv, _, _⟩ := own_form h (by omega)
  injection hv with h1 h2 h3
  subst h1 h3
  refine ⟨_, rfl, fun k hk => ?_⟩
  have := (own_at h (k : Int) (by omega) (by omega)).1
  rw [Int.toNat_natCast] at this
  have e : rd xs (k : Int) = xs.getD k 0 := by simp [rd]
  rw [e] at this
  have e2 : (⟨g, 0, none⟩ : Addr).add k = ⟨g, k, none⟩ := by rw [Addr.add_mid, Nat.zero_add]
  first
    | exact this
    | (rw [e2]; exact this)

theorem sm_diff (L : Nat → Int) (a : Nat) : ∀ j : Nat, (∀ i, i < j → -16777344 ≤ L (a + i) ∧ L (a + i) ≤ 16777344) → -16777344 * (j : Int) ≤ sm (a + j) L - sm a L ∧ sm (a + j) L - sm a L ≤ 16777344 * (j : Int) := by
  intro j
  induction j with
  | zero => intro _; simp
  | succ j ih =>
    intro h
    have h1 := ih (fun i hi => h i (by omega))
    have h2 := h j (by omega)
    rw [show a + (j + 1) = (a + j) + 1 from rfl, sm_succ]
    omega

set_option maxRecDepth 100000 in
set_option maxHeartbeats 1000000 in
theorem walk (room gap : Int) (a2 : Option Addr) (len2 cap2 : Nat) (z2 : List LF) (wraps : Bool) (w : World) (_ : (Lit.int .i64 room).wf = true) (_ : (Lit.int .i64 gap).wf = true) (e2 : len2 = z2.length) (c2 : len2 ≤ cap2) (w2 : Kd.C k37 w a2 len2 z2) :
    Calls Try.prog 6 #[.int .i64 room, .int .i64 gap, .slice a2 len2 cap2, .bool wraps] w fun e w' => e = .returned (.bool true) ∧ Below w.heap.size w w' := by
  have MC := Lib.hid (mild_c a2 len2 cap2 z2 w w2 c2)
  obtain ⟨lm, hlm⟩ : ∃ lm, (z2.take 12).map mildI = lm := ⟨_, rfl⟩
  have hl12 : lm.length ≤ 12 := by rw [← hlm, List.length_map]; exact List.length_take_le _ _
  have hmi : ∀ k, k < lm.length → ∃ x, lm.getD k z37 = mildI x := fun k hk => by
    subst hlm
    have hk2 : k < (z2.take 12).length := by simpa using hk
    exact ⟨(z2.take 12)[k], by rw [List.getD_eq_getElem?_getD, List.getElem?_map, List.getElem?_eq_getElem hk2]; rfl⟩
  have HM := Lib.hid hlm
  have MI := Lib.hid hmi
  have hgb : 0 ≤ gap % 256 ∧ gap % 256 ≤ 255 := by omega
  clear w2 c2 e2 hlm hmi
  go_enter Try.func6, Try.ntmps6
  go_wp2_with fail
  refine MC.out.mono ?_
  rintro e w3 ⟨v, rfl, hR, hB⟩
  rw [HM.out] at hR
  obtain ⟨A, c, rfl, hc, hC⟩ := Kd.R_reads hR
  have RC := Lib.hid hC
  have B2 := Lib.hid hB
  obtain ⟨m, hm⟩ : ∃ m, lm.length = m := ⟨_, rfl⟩
  have MA := Lib.hid (Rows_c room (gap % 256) A lm.length c lm wraps w3 hC (by omega))
  have hAf : ∃ gi, 0 < m → A = some ⟨gi, 0, none⟩ := by
    obtain ⟨inner, hown⟩ := Kd.R_own hR
    by_cases h0 : 0 < m
    · obtain ⟨g, cap, hv, _, _⟩ := own_form hown (by rw [hm]; exact h0)
      injection hv with h1
      exact ⟨g, fun _ => h1⟩
    · exact ⟨0, fun h => absurd h h0⟩
  have AF := Lib.hid hAf
  have HL := Lib.hid hm
  rw [hm] at RC MA hl12 MI hc ⊢
  have hGc : max 0 (cut (gap % 256)) = gap % 256 := by rw [cut_id (by omega) (by omega)]; omega
  rw [hGc] at MA
  have hcr := cut_bd room
  have hrg := rows_good (cut room) (gap % 256) wraps (lenI (lm.map mkIt)) m
  have hrl := rowsO_len (cut room) (gap % 256) wraps (lenI (lm.map mkIt)) m
  obtain ⟨o, ho⟩ : ∃ o, rowsO (cut room) (gap % 256) wraps (lenI (lm.map mkIt)) m = o := ⟨_, rfl⟩
  rw [ho] at MA hrg hrl
  obtain ⟨hg1, hg2, hg3⟩ := hrg
  have GD := Lib.hid hg1
  have SU := Lib.hid hg2
  have W1 := Lib.hid hg3
  clear hR hC hB MC hm hAf hGc ho hg1 hg2 hg3
  go_wp2_with fail
  generalize gap % 256 = G at *
  refine MA.out.mono ?_
  rintro e w4 ⟨v, rfl, hO, hB3⟩
  obtain ⟨A3, c3, rfl⟩ := own_slice hO
  have O3 := Lib.hid hO
  have RC3 := Lib.hid (Kd.C_below RC.out hB3)
  have B3 := Lib.hid (below_then B2.out B2.out.size hB3)
  clear hO hB3 MA RC
  go_wp2_with fail
  refine (flexed_c w4).mono ?_
  rintro e w5 ⟨rfl, hB4⟩
  have O4 := Lib.hid (pw_own_below O3.out hB4)
  have RC4 := Lib.hid (Kd.C_below RC3.out hB4)
  have B4 := Lib.hid (below_then B3.out B3.out.size hB4)
  obtain ⟨q, hq⟩ : ∃ q, o.length = q := ⟨_, rfl⟩
  have QL := Lib.hid hq
  rw [hq] at O4 hrl ⊢
  have hsm : (ci o).sum = (m : Int) := by
    have h1 := ci_take o o.length
    rw [List.take_of_length_le (by rw [ci_len]; exact Nat.le_refl _), List.take_of_length_le (Nat.le_refl _), SU.out] at h1
    exact h1
  have SUMC := Lib.hid (sum_c w5 A3 q c3 (ci o) (own_ints O4.out (by omega)) (fun k => by
    rw [ci_take]
    have := take_sum_le o k
    rw [SU.out] at this
    omega))
  rw [hsm] at SUMC
  have wq : wraps = false → q ≤ 1 := fun h => by have := W1.out h; rw [hq] at this; exact this
  have WQ := Lib.hid wq
  clear hB4 O3 RC3 hq hsm wq W1
  obtain ⟨V, rfl⟩ : ∃ V : World, V = w5 := ⟨_, rfl⟩
  go_wp2_with fail
  refine SUMC.out.mono ?_
  rintro e w6 ⟨rfl, rfl⟩
  have qm : ((m : Int) == (m : Int)) = true := by simp
  obtain ⟨gi, hgi⟩ := AF.out
  have GI := Lib.hid hgi
  clear hgi AF HM SUMC
  cases wraps
  all_goals
    have q1 := WQ.out
    try (have qn : decide ((1 : Int) < (q : Int)) = false := decide_eq_false (by have := q1 rfl; omega))
    clear q1
    go_wp2_with fail
    go_loopw [10, 46] (fun a i wr => ∃ p : Nat, p ≤ q ∧ i = .int .i64 p ∧ a = .int .i64 ((o.take p).sum : Nat) ∧ Hid (Below V.heap.size V wr)) (fun _ i _ => q - (RowKit.intOf i).toNat)
    case atStart => exact ⟨0, Nat.zero_le _, rfl, rfl, Below.refl _ _⟩
    case round =>
      obtain ⟨p, hp, rfl, rfl, hB⟩ := hrel
      by_cases hlt : p < q
      · have hpo : p < o.length := by rw [QL.out]; exact hlt
        have hts := take_succ_sum o p hpo
        have htl := take_sum_le o (p + 1)
        rw [SU.out] at htl
        obtain ⟨hn1, hgood⟩ := GD.out p hpo
        have hO := pw_own_below O4.out hB.out
        obtain ⟨g3, cap3, hv3, _, _⟩ := own_form hO (by omega)
        injection hv3 with hv31 hv32 hv33
        subst hv31
        obtain ⟨y0, _⟩ := own_at hO (p : Int) (by omega) (by omega)
        rw [Int.toNat_natCast] at y0
        have hre : rd (ci o) (p : Int) = (o.getD p 0 : Nat) := by simp [rd, ci, List.getD_eq_getElem?_getD, hpo]
        rw [hre] at y0
        have TS := Lib.hid hts
        rw [hts] at htl
        generalize o.getD p 0 = nn at *
        obtain ⟨at_, hat⟩ : ∃ a, (o.take p).sum = a := ⟨_, rfl⟩
        rw [hat] at TS htl hgood ⊢
        obtain rfl := GI.out (by omega)
        have hgl : 0 ≤ G * ((nn : Int) - 1) ∧ G * ((nn : Int) - 1) ≤ 3060 := by
          have h4 : 0 ≤ (nn : Int) - 1 := by omega
          have h5 : (nn : Int) - 1 ≤ 12 := by omega
          refine ⟨Int.mul_nonneg hgb.1 h4, ?_⟩
          have := Int.mul_le_mul hgb.2 h5 h4 (by omega)
          omega
        obtain ⟨gl, hgle⟩ : ∃ gl, G * ((nn : Int) - 1) = gl := ⟨_, rfl⟩
        rw [hgle] at hgl hgood
        have HG := Lib.hid hgood
        have n1 : decide ((nn : Int) < 1) = false := decide_eq_false (by omega)
        have s1 : (0 : Int) ≤ (at_ : Int) ∧ (at_ : Int) ≤ (at_ : Int) + nn ∧ (at_ : Int) + nn ≤ (c : Int) := by omega
        clear hts hre hO hat hpo hv32 hgood hv33
        go_wp2_with fail
        obtain ⟨W0, rfl⟩ : ∃ W0 : World, W0 = wr := ⟨_, rfl⟩
        obtain ⟨L, hL⟩ : ∃ L, lenI (lm.map mkIt) = L := ⟨_, rfl⟩
        have HLL := Lib.hid hL
        rw [hL] at HG
        clear hL y0 n1
        go_loopw [13, 63] (fun s i wr => ∃ j : Nat, j ≤ nn ∧ i = .int .i64 j ∧ s = .int .i64 (gl + (sm (at_ + j) L - sm at_ L)) ∧ Hid (Below V.heap.size V wr)) (fun _ i _ => nn - (RowKit.intOf i).toNat)
        case atStart => exact ⟨0, Nat.zero_le _, rfl, by simp, hB.out⟩
        case round =>
          obtain ⟨j, hj, rfl, rfl, hBi⟩ := hrel
          by_cases hlt2 : j < nn
          · have hkm : at_ + j < m := by omega
            have hkl : at_ + j < lm.length := by rw [HL.out]; exact hkm
            obtain ⟨ad, ea, x0, x1, x2, x3, x4, x5⟩ := at_T37 (Kd.C_below RC4.out hBi.out) ((at_ + j : Nat) : Int) (by omega) (by omega)
            injection ea with ea
            subst ea
            have hrd : rd_T37 lm ((at_ + j : Nat) : Int) = lm.getD (at_ + j) z37 := by
              show lm.getD ((at_ + j : Nat) : Int).toNat z37 = _
              rw [Int.toNat_natCast]
            rw [Int.toNat_natCast, hrd] at x0 x1 x2 x3 x4 x5
            simp only [Addr.add_mid, Nat.zero_add, Nat.add_mul] at x0 x1 x2 x3 x4 x5
            obtain ⟨y, hy⟩ := MI.out (at_ + j) hkm
            have hml := mild_len lm (at_ + j) hkl y hy
            rw [HLL.out, ← hy] at hml
            have hLb : ∀ i, i < j + 1 → -16777344 ≤ L (at_ + i) ∧ L (at_ + i) ≤ 16777344 := fun i hi => by
              obtain ⟨y2, hy2⟩ := MI.out (at_ + i) (by omega)
              have h := mild_len lm (at_ + i) (by rw [HL.out]; omega) y2 hy2
              rw [HLL.out] at h
              rw [h]
              have h1 := btw_bd (mildI y2).f0 (mildI y2).f1 (mildI y2).f2
              have h2 : -128 ≤ (mildI y2).f5 ∧ (mildI y2).f5 ≤ 127 := i8_bd y2.f5
              omega
            have hd0 := sm_diff L at_ j (fun i hi => hLb i (by omega))
            have hd1 := hLb j (by omega)
            have hss : sm (at_ + (j + 1)) L = sm (at_ + j) L + L (at_ + j) := sm_succ _ _
            rw [hml] at hss hd1
            have h5 : -128 ≤ (lm.getD (at_ + j) z37).f5 ∧ (lm.getD (at_ + j) z37).f5 ≤ 127 := by rw [hy]; exact i8_bd y.f5
            generalize lm.getD (at_ + j) z37 = x at *
            obtain ⟨a0, b1, b2, a3, a4, a5⟩ := x
            simp only at x0 x1 x2 x3 x4 x5 hss hd1 h5
            have hbb := btw_bd a0 b1 b2
            have SS := Lib.hid hss
            have B6 := Lib.hid (below_alloc hBi.out (.cells #[.int .i64 a0, .int .i64 b1, .int .i64 b2, .int .i64 a3, .int .i64 a4, .int .i64 a5] 37))
            have BX := Lib.hid (blk_new wr (.cells #[.int .i64 a0, .int .i64 b1, .int .i64 b2, .int .i64 a3, .int .i64 a4, .int .i64 a5] 37))
            obtain ⟨sd, hsd⟩ : ∃ sd, sm (at_ + j) L - sm at_ L = sd := ⟨_, rfl⟩
            have SD := Lib.hid hsd
            rw [hsd] at hd0
            clear hss hy hml hrd hLb hkl hkm
            try rw [hsd]
            clear hsd
            go_wp2_with fail
            obtain ⟨W6, hW6⟩ : ∃ W6, wr.alloc (.cells #[.int .i64 a0, .int .i64 b1, .int .i64 b2, .int .i64 a3, .int .i64 a4, .int .i64 a5] 37) = W6 := ⟨_, rfl⟩
            rw [hW6] at B6 BX ⊢
            obtain ⟨bx, hbx⟩ : ∃ bx, wr.heap.size = bx := ⟨_, rfl⟩
            rw [hbx] at BX ⊢
            have z0 : W6.drew.cell? ⟨bx, 0, none⟩ = some (.int .i64 a0) := blk_cell BX.out 0
            have z1 : W6.drew.cell? ⟨bx, 1, none⟩ = some (.int .i64 b1) := blk_cell BX.out 1
            have z2 : W6.drew.cell? ⟨bx, 2, none⟩ = some (.int .i64 b2) := blk_cell BX.out 2
            have z5 : W6.drew.cell? ⟨bx, 5, none⟩ = some (.int .i64 a5) := blk_cell BX.out 5
            have B7 : Hid (Below V.heap.size V W6.drew) := Lib.hid B6.out.drew
            clear hW6 hbx x0 x1 x2 x3 x4 x5
            refine wp_region_still_tail 12 (by kernel_rfl) (by kernel_rfl) ?_
            simp only [List.take_succ_cons, List.take_zero, List.drop_succ_cons, List.drop_zero]
            change wpStill _ _ (World.drew W6) (fun a' => wpList _ _ _ _ a' (World.drew W6)) _ _
            generalize W6.drew = wa at *
            have BTW : Hid (∀ x y z : Int, Calls Try.prog 21 #[.int .i64 x, .int .i64 y, .int .i64 z] wa fun e w'' => e = .returned (.int .i64 (btw x y z)) ∧ w'' = wa) := Lib.hid (fun x y z => (Between_c x y z wa).mono fun e w' h => ⟨h.1, h.2.symm⟩)
            have E1 := Lib.hid (IntWalk.i64_in (btw a0 b1 b2 + a5) ⟨by omega, by omega⟩)
            have E2 := Lib.hid (IntWalk.i64_in (gl + sd + (btw a0 b1 b2 + a5)) ⟨by omega, by omega⟩)
            still_step
            still_step
            still_step
            still_step
            still_step
            still_step
            still_step
            still_call (BTW.out _ _ _)
            still_step
            still_step
            still_step
            still_step
            refine wpStill_nil ?_
            clear z0 z1 z2 z5 BTW
            go_wp2_with fail
            exact ⟨⟨j + 1, by omega, by go_num, by rw [SS.out]; have := SD.out; have h1 := E1.out; have h2 := E2.out; first | (rw [h1, h2]; congr 1; omega) | (congr 1; omega), B7.out⟩, by simp [RowKit.intOf]; omega⟩
          · obtain rfl : j = nn := by omega
            obtain ⟨lg, hlg⟩ : ∃ lg, gl + (sm (at_ + j) L - sm at_ L) = lg := ⟨_, rfl⟩
            rw [hlg] at HG ⊢
            clear hlg
            by_cases hn2 : 1 < j
            · have n2 : decide ((1 : Int) < (j : Int)) = true := decide_eq_true (by omega)
              try (have n3 : decide (cut room < lg) = false := decide_eq_false (by have := HG.out (by first | rfl | trivial) hn2; omega))
              clear HG
              go_wp2_with (go_at_call 22; refine (Cut_c _ _).mono ?_; rintro e w' ⟨rfl, rfl⟩)
              exact ⟨⟨p + 1, by omega, by go_num, by rw [TS.out]; go_num, hBi.out⟩, by simp [RowKit.intOf]; omega⟩
            · have n2 : decide ((1 : Int) < (j : Int)) = false := decide_eq_false (by omega)
              clear HG
              go_wp2_with (go_at_call 22; refine (Cut_c _ _).mono ?_; rintro e w' ⟨rfl, rfl⟩)
              exact ⟨⟨p + 1, by omega, by go_num, by rw [TS.out]; go_num, hBi.out⟩, by simp [RowKit.intOf]; omega⟩
      · obtain rfl : p = q := by omega
        have B9 := Lib.hid (B4.out.trans (hB.out.mono B4.out.size))
        clear hB
        go_wp2_with fail
        go_ret
        exact ⟨rfl, B9.out⟩

theorem own : ownKnob Try.prog.godebug = none := by kernel_rfl
theorem laidOut : laidOutB Try.prog = true := by kernel_rfl
set_option maxRecDepth 100000 in
theorem lifted (os : Os) (started : os.Started) (H : Type) (enc : TypeId × Value → H) :
    ReturnsInHanded {} Try.checked os 6 .any (Rows.flexRowsAllSpec.pre6 enc Try.prog Try.f6 Rows.flexRowsAllRow.domain false) (Rows.flexRowsAllSpec.post enc Try.prog Try.f6 false true false false) := by
  refine returnsInHanded_of_change_sized (C := Try.checked) own started (by kernel_rfl) Try.func6
    (ChangeSpec.witness6 (enc := enc) (C := Try.checked) false ⟨#[], #[.int .i64 0, .int .i64 0, .slice none 0 0, .bool false], []⟩ 8 (by kernel_rfl) (by kernel_rfl) (by kernel_rfl) (by kernel_rfl)) ?_
  intro W base args ds gs before hval0 hW hcnd hsz0 _
  have hsz : (DataW.weightsEach Try.prog (Try.f6.params.toList ++ Rows.flexRowsAllSpec.plain.varTypes Try.prog) (ds ++ gs)).all (· ≤ reachBytes) = true := hsz0
  have hval : ∀ (j : Nat) t v, Try.f6.params[j]? = some t → args[j]? = some v → Value.okWide Try.prog W .any base t v := hval0
  have hW' := hW
  obtain ⟨p, q, hA0, hV, rfl, hfz, hnd⟩ := hW
  have hA : DataW.TrodAll enc Try.prog W 0 (fun _ => true) true Try.f6.params.toList args.toList ds p := hA0
  rw [Try.params6] at hA hval hsz
  obtain ⟨v0, vs0, d0, ds0, p0, q0, hargs, rfl, rfl, h0, r0⟩ := trodAll_cons hA
  obtain ⟨v1, vs1, d1, ds1, p1, q1, rfl, rfl, rfl, h1, r1⟩ := trodAll_cons r0
  obtain ⟨v2, vs2, d2, ds2, p2, q2, rfl, rfl, rfl, h2, r2⟩ := trodAll_cons r1
  obtain ⟨v3, vs3, d3, ds3, p3, q3, rfl, rfl, rfl, h3, r3⟩ := trodAll_cons r2
  obtain ⟨rfl, rfl, rfl⟩ := trodAll_nil r3
  obtain rfl : args = #[v0, v1, v2, v3] := by cases args; simp_all
  obtain ⟨rfl, rfl⟩ := trodVars_none hV
  obtain ⟨a0, rfl, rfl, rfl, w0⟩ := open_int Try.underlying3 (hval 0 3 v0 rfl rfl) h0
  obtain ⟨a1, rfl, rfl, rfl, w1⟩ := open_int Try.underlying3 (hval 1 3 v1 rfl rfl) h1
  obtain ⟨a2, len2, cap2, rfl⟩ := okWide_slice Try.underlying31 (hval 2 31 v2 rfl rfl)
  have k2 := h2
  have lt2 : ∀ x ∈ p2, x.block < W.heap.size := by obtain ⟨m, hm⟩ := k2; exact DataW.trod_lt m _ _ _ hm
  obtain ⟨z2, e2, c2, w2⟩ : ∃ zs, len2 = zs.length ∧ len2 ≤ cap2 ∧ Kd.C k37 W a2 len2 zs := by
    obtain ⟨fuel, hf⟩ := h2
    obtain ⟨A, c, xs, hcs, h1, h2⟩ := slice_of Try.underlying31 op_T37 hf
    simp [Value.cells] at hcs
    obtain ⟨rfl, rfl, rfl⟩ := hcs
    exact ⟨xs, rfl, h1, h2⟩
  obtain ⟨a3, rfl, rfl, rfl⟩ := open_bool Try.underlying4 (hval 3 4 v3 rfl rfl) h3
  clear hA0 hval0 hsz0 hsz
  refine (walk a0 a1 a2 len2 cap2 z2 a3 W w0 w1 e2 c2 w2).mono fun e W' ⟨he, bel⟩ => ?_
  subst he
  exact ⟨_, rfl, _, _, _, [], _, [], hW', trodAll_mk1 (shut_bool Try.underlying4 _), (trodAll_cons_mk (shut_int Try.underlying3 w0) (trodAll_cons_mk (shut_int Try.underlying3 w1) (trodAll_cons_mk (Below.trod laidOut (by kernel_rfl) (of_decide_eq_true (by kernel_rfl)) k2 bel lt2) (trodAll_cons_mk (shut_bool Try.underlying4 _) trodAll_mk0)))), rfl, bel.frame _, fun h => by cases h⟩
theorem over : Rows.flexRowsAllRow.holds Try.pinned (OpenSpec.ofChange Rows.flexRowsAllSpec) :=
  OpenClaim.holds_of_wide 6 Try.f6 rfl rfl rfl rfl rfl rfl rfl ⟨rfl, rfl, rfl, rfl, rfl⟩ rfl rfl rfl rfl rfl (by kernel_rfl) Try.func6 (by kernel_rfl)
    (of_decide_eq_true (by kernel_rfl)) (by unfold Func.isWrapper; first | (rw [if_pos (by decide +kernel)]; kernel_rfl) | (rw [if_neg (by decide +kernel)]; exact ⟨rfl, rfl⟩))
    (fun os started H enc _ => lifted os started H enc)
theorem proved : Rows.FlexRowsAllSaid := over
#print axioms proved
end Go.Proofs.Ytfkgpkkjiolfpaa.FlexRowsAll
