/- Package table: widen, over a part of a row of the call's own. -/
import Derived.Test.YtfkgpkkjiolfpaaTabWidP
import Derived.Test.YtfkgpkkjiolfpaaTabSwap
namespace Go.Proofs.Ytfkgpkkjiolfpaa.Tab
open Go.RowKit Go.Lib Go.Proofs.Ytfkgpkkjiolfpaa.Spd Go.Proofs.Ytfkgpkkjiolfpaa.Pl Go.Proofs.Ytfkgpkkjiolfpaa.Fx Go.Proofs.Ytfkgpkkjiolfpaa.Sh Go.Proofs.Ytfkgpkkjiolfpaa.Sm Go.Proofs.Ytfkgpkkjiolfpaa.Rgn Go.Proofs.Ytfkgpkkjiolfpaa.Blk Go.Proofs.YtfkgpkkjiolfpaaW.PrintWords Go.Proofs.YtfkgpkkjiolfpaaW.PrintLast Go.Proofs.YtfkgpkkjiolfpaaW.PrintMore
set_option linter.unusedVariables false
set_option linter.unusedSimpArgs false
attribute [local go_sem] mx2 mn2 mx_two mn_two mx_three mn_three

/-- A part of a row of the call's own is read. -/
theorem seg_reads {W : World} {base g n cp : Nat} {xs : List Int} (h : W.ownsRow base 3 1 (.slice (some ⟨g, 0, none⟩) n cp) n (nums .i64 xs)) (a k : Nat) (hak : a + k ≤ n) (hn : n ≤ 1000000) : ReadsInt W .i64 (some ⟨g, a, none⟩) k (seg xs a k) := by
  have hl : xs.length = n := by have := h.1; simp [nums] at this; exact this
  refine ⟨seg_len _ _ _ (by omega), by omega, fun _ => ⟨_, rfl, fun j hj => ?_⟩⟩
  obtain ⟨p, -⟩ := own_at h ((a + j : Nat) : Int) (by omega) (by omega)
  rw [Int.toNat_natCast] at p
  rw [seg_get _ _ _ _ hj]
  have e : rd xs ((a + j : Nat) : Int) = xs.getD (a + j) 0 := by simp only [rd, Int.toNat_natCast]
  rw [e] at p
  simp only [Addr.add_mid]
  exact p
def WidPost (xs : List Int) (a k : Nat) (tt : Int) (base g n cp : Nat) (w : World) (e : Ending) (w' : World) : Prop := ∃ ys, e = .returned (.tuple #[]) ∧ Wider xs ys a k tt ∧ w'.ownsRow base 3 1 (.slice (some ⟨g, 0, none⟩) n cp) n (nums .i64 ys) ∧ w.grownBy w' (some g)
set_option maxRecDepth 1000000 in
set_option maxHeartbeats 4000000 in
theorem widen_c (base g n cp a k c : Nat) (xs bs : List Int) (tt : Int) (Ab : Option Addr) (cb : Nat) (w : World) (hO : w.ownsRow base 3 1 (.slice (some ⟨g, 0, none⟩) n cp) n (nums .i64 xs)) (hx : Good xs) (hB : ReadsInt w .i64 Ab k bs) (hb : Good bs)
    (hk : 1 ≤ k) (hk2 : k ≤ 100) (hak : a + k ≤ n) (hn : n ≤ 1000000) (ht0 : 0 ≤ tt) (ht : tt ≤ 16777216) :
    Calls Try.prog 59 #[.slice (some ⟨g, a, none⟩) k c, .int .i64 tt, .slice Ab k cb] w (WidPost xs a k tt base g n cp w) := by
  have hl : xs.length = n := by have := hO.1; simp [nums] at this; exact this
  have HO := Lib.hid hO
  have HX := Lib.hid hx
  have HB := Lib.hid hB
  have HBG := Lib.hid hb
  have hbl : bs.length = k := hB.1
  have HBL := Lib.hid hbl
  have hs0 := sum_le 16777216 (by omega) (seg xs a k) k (by rw [seg_len _ _ _ (by omega)]; exact Nat.le_refl _) (good_seg hx a k)
  have hb0 := sum_le 16777216 (by omega) bs k (by omega) hb
  have hm : (16777216 : Int) * (k : Int) ≤ 1677721600 := by omega
  have S1 := Lib.hid (tsum_c w (some ⟨g, a, none⟩) k c (seg xs a k) (seg_reads hO a k hak hn) (fun q => by have := hs0 q; omega))
  have S2 := Lib.hid (tsum_c w Ab k cb bs hB (fun q => by have := hb0 q; omega))
  have hs1 := hs0 k
  have hb1 := hb0 k
  rw [List.take_of_length_le (by rw [seg_len _ _ _ (by omega)]; exact Nat.le_refl _)] at hs1
  rw [List.take_of_length_le (by omega)] at hb1
  obtain ⟨ss, hss⟩ : ∃ s, (seg xs a k).sum = s := ⟨_, rfl⟩
  obtain ⟨bb, hbb⟩ : ∃ s, bs.sum = s := ⟨_, rfl⟩
  rw [hss] at S1 hs1
  rw [hbb] at S2 hb1
  have HSS := Lib.hid hss
  have HBB := Lib.hid hbb
  have hgl := own_lt hO g rfl
  clear hO hx hB hb hs0 hb0 hss hbb hbl
  by_cases hle : tt ≤ ss
  · have n1 : decide (tt - ss ≤ 0) = true := decide_eq_true (by omega)
    go_enter Try.func59, Try.ntmps59
    go_wp2_with fail
    refine S1.out.mono ?_
    rintro e w' ⟨rfl, rfl⟩
    go_wp2_with fail
    go_end0
    exact ⟨xs, rfl, wider_none HX.out (by rw [HSS.out]; exact hle), HO.out, World.grownBy.refl _ _⟩
  · have n1 : decide (tt - ss ≤ 0) = false := decide_eq_false (by omega)
    obtain ⟨hW, hout⟩ := wider_add (a := a) HX.out HBG.out HBL.out hk hk2 (by omega) ht (by rw [HSS.out]; omega)
    rw [HSS.out] at hW hout
    have HW := Lib.hid hW
    clear hW
    obtain ⟨cs, hcs⟩ : ∃ cs, byL bs k = cs := ⟨_, rfl⟩
    rw [hcs] at HW hout
    have hcr : (bb = 0 → cs = List.replicate k 1) ∧ (bb ≠ 0 → cs = bs) := by
      rw [← hcs]
      unfold byL
      rw [HBB.out]
      exact ⟨fun h => if_pos h, fun h => if_neg h⟩
    have hol : (share (tt - ss) cs).length = k := by
      rw [share_len]
      by_cases hz : bb = 0
      · rw [hcr.1 hz]; simp
      · rw [hcr.2 hz]; exact HBL.out
    have HOL := Lib.hid hol
    have HOUT := Lib.hid hout
    clear hcs hol hout
    by_cases hz : bb = 0
    case' pos =>
      have n2 : (bb == 0) = true := by simp [hz]
      have hcs := hcr.1 hz
      have HCS := Lib.hid hcs
      clear hcr hz hcs
      go_enter Try.func59, Try.ntmps59
      go_wp2_with (first
        | ((with_reducible refine S1.out.mono ?_); rintro e w' ⟨rfl, rfl⟩)
        | ((with_reducible refine S2.out.mono ?_); rintro e w' ⟨rfl, rfl⟩))
      have hal := below_alloc (Below.refl w.heap.size w) (.cells #[.int .i64 1] 3)
      refine (Repeat_c w.heap.size k _ (by simp) (by omega)).mono ?_
      rintro e w2 ⟨v2, rfl, hO3, hB3⟩
      obtain ⟨A, c2, rfl, hR⟩ := own_reads hO3
      rw [← HCS.out] at hR
      have hB4 := below_then hal hal.size hB3
      have O3 := Lib.hid (pw_own_below HO.out hB4)
      have G4 := Lib.hid (grown_of_below hB4 (some g))
      have HR := Lib.hid hR
      have hgl2 : g < w2.heap.size := Nat.lt_of_lt_of_le hgl hB4.size
      clear hal hO3 hB3 hB4 hR
      go_wp2_with fail
    case' neg =>
      have n2 : (bb == 0) = false := by simp [hz]
      have hcs := hcr.2 hz
      have HR : Hid (ReadsInt w .i64 Ab k cs) := Lib.hid (by rw [hcs]; exact HB.out)
      clear hcr hz hcs
      have O3 := HO
      have G4 : Hid (w.grownBy w (some g)) := Lib.hid (World.grownBy.refl _ _)
      have hgl2 := hgl
      go_enter Try.func59, Try.ntmps59
      go_wp2_with (first
        | ((with_reducible refine S1.out.mono ?_); rintro e w' ⟨rfl, rfl⟩)
        | ((with_reducible refine S2.out.mono ?_); rintro e w' ⟨rfl, rfl⟩))
    all_goals
      refine (Share_c (tt - ss) _ _ k _ cs HR.out (by omega)).mono ?_
      rintro e w3 ⟨v3, rfl, hO4, hB5⟩
      obtain ⟨A3, c3, rfl, -⟩ := own_reads hO4
      have O4 := Lib.hid hO4
      have O5 := Lib.hid (pw_own_below O3.out hB5)
      have G5 := Lib.hid (grown_below G4.out hB5)
      generalize share (tt - ss) cs = out at *
      rw [← addP_zero xs a out] at O5
      clear hO4 hB5 O3 G4 HR S1 S2 HBL HBB HSS
      go_wp2_with fail
      go_loopw [26] (fun i wv => ∃ j : Nat, j ≤ k ∧ i = .int .i64 j ∧ Hid (wv.ownsRow base 3 1 (.slice (some ⟨g, 0, none⟩) n cp) n (nums .i64 (addP xs a out j))) ∧ Hid (∃ B, g < B ∧ wv.ownsRow B 3 1 (.slice A3 k c3) k (nums .i64 out)) ∧ Hid (w.grownBy wv (some g))) (fun i _ => k - (RowKit.intOf i).toNat)
      case atStart => exact ⟨0, Nat.zero_le _, rfl, O5, ⟨_, hgl2, O4.out⟩, G5⟩
      case round =>
        obtain ⟨j, hj, rfl, hP, hQ, hG⟩ := hrel
        by_cases hlt : j < k
        · obtain ⟨B, hB, hQ2⟩ := hQ.out
          obtain ⟨ad, ea, hx⟩ := (own_reads' hQ2).at_ (j : Int) (by omega) (by omega)
          subst ea
          rw [Int.toNat_natCast, show rd out (j : Int) = out.getD j 0 by simp [rd]] at hx
          obtain ⟨p1, f1⟩ := own_at hP.out ((a + j : Nat) : Int) (by omega) (by omega)
          have r1 : rd (addP xs a out j) ((a + j : Nat) : Int) = xs.getD (a + j) 0 := by
            rw [show rd (addP xs a out j) ((a + j : Nat) : Int) = (addP xs a out j).getD (a + j) 0 by simp only [rd, Int.toNat_natCast], addP_get _ _ _ _ _ (by omega), if_neg (by omega)]
          rw [r1, Int.toNat_natCast] at p1
          rw [Int.toNat_natCast] at f1
          have hw1 := (own_store hP.out ((a + j : Nat) : Int) (xs.getD (a + j) 0 + out.getD j 0)).1
          have hg1 := (own_store hP.out ((a + j : Nat) : Int) (xs.getD (a + j) 0 + out.getD j 0)).2
          rw [Int.toNat_natCast, addP_set xs a out j (by omega)] at hw1
          rw [Int.toNat_natCast] at hg1
          have hw2 := own_apart hQ2 hB (a + j) (.int .i64 (xs.getD (a + j) 0 + out.getD j 0))
          have hbx := HX.out (a + j)
          have hbo := HOUT.out j hlt
          generalize xs.getD (a + j) 0 = x at *
          generalize out.getD j 0 = y at *
          have W1 := Lib.hid hw1
          have W2 := Lib.hid (⟨B, hB, hw2⟩ : ∃ B, g < B ∧ (World.setCell _ ⟨g, a + j, none⟩ (.int .i64 (x + y))).ownsRow B 3 1 (.slice (some ad) k c3) k (nums .i64 out))
          have W3 := Lib.hid (hG.out.trans hg1)
          clear hw1 hw2 hg1 r1 hP hQ hQ2 hG
          go_wp2_with fail
          go_roundw
          case rel => exact ⟨j + 1, by omega, by go_num, W1, W2, W3⟩
          case measure => simp [RowKit.intOf]; omega
        · obtain rfl : j = k := by omega
          go_wp2_with fail
          go_end0
          exact ⟨_, rfl, HW.out, hP.out, hG.out⟩
end Go.Proofs.Ytfkgpkkjiolfpaa.Tab
