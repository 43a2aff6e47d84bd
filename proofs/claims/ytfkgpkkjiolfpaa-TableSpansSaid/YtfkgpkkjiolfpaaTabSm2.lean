/- slices.symMergeCmpFunc at cells, where the second part is one cell. -/
import Derived.Test.YtfkgpkkjiolfpaaTabSm1
namespace Go.Proofs.Ytfkgpkkjiolfpaa.Tab
open Go.RowKit Go.Lib Go.Proofs.Ytfkgpkkjiolfpaa.Pl Go.Proofs.Ytfkgpkkjiolfpaa.Fx Go.Proofs.Ytfkgpkkjiolfpaa.Rgn Go.Proofs.Ytfkgpkkjiolfpaa.Blk Go.Proofs.YtfkgpkkjiolfpaaW.PrintWords Go.Proofs.YtfkgpkkjiolfpaaW.PrintLast Go.Proofs.YtfkgpkkjiolfpaaW.PrintMore
set_option linter.unusedVariables false
set_option linter.unusedSimpArgs false
attribute [local go_sem] mx2 mn2 mx_two mn_two mx_three mn_three

set_option maxRecDepth 1000000 in
set_option maxHeartbeats 8000000 in
theorem sm2_c (g n cp : Nat) (a m : Nat) (xs : List Ce) (Br : Nat) (ok : Nat → Prop) (w0 w : World) (hR : Sorted xs g n cp Br ok w0 w) (hs : ∀ x, x ∈ xs → SpanB x) (hn : xs.length = n) (hn2 : n ≤ 1000000) (hab : a + 1 < m) (hb : m + 1 ≤ n) :
    Calls Try.prog 95 #[.slice (some ⟨g, 0, none⟩) n cp, .int .i64 a, .int .i64 m, .int .i64 ((m + 1 : Nat) : Int), .func (.func 58) #[] #[]] w (SortPost xs g n cp Br ok w0) := by
  have HR := Lib.hid hR
  have HS := Lib.hid hs
  obtain ⟨b, hm⟩ : ∃ b, b = m + 1 := ⟨_, rfl⟩
  rw [← hm]
  have n0 : (((m : Int) - (a : Int)) == 1) = false := by simp; omega
  have n00 : (((b : Int) - (m : Int)) == 1) = true := by simp; omega
  have hmb : a < m ∧ m < b ∧ b ≤ n := by omega
  clear hm
  clear hR hs
  go_enter Try.func95, Try.ntmps95
  go_wp2_with fail
  go_loopw [14, 15] (fun iv jv wr => ∃ (i j : Nat), iv = .int .i64 i ∧ jv = .int .i64 j ∧ a ≤ i ∧ i ≤ j ∧ j ≤ m ∧ Hid (Sorted xs g n cp Br ok w0 wr)) (fun iv jv _ => (RowKit.intOf jv).toNat - (RowKit.intOf iv).toNat)
  case atStart => exact ⟨a, m, rfl, rfl, Nat.le_refl _, by omega, Nat.le_refl _, HR⟩
  case round =>
    obtain ⟨i, j, rfl, rfl, hi, hij, hj, hR⟩ := hrel
    by_cases hlt : i < j
    · obtain ⟨h, hh⟩ : ∃ h, h = (i + j) / 2 := ⟨_, rfl⟩
      have hh2 := half i j hlt
      rw [← hh] at hh2
      have HH : Hid (((i : Int) + (j : Int)) / 2 = (h : Int)) := Lib.hid (by omega)
      clear hh
      have hh3 : h < n := by omega
      have ha3 : m < n := by omega
      obtain ⟨ys, hP, hRR, hG⟩ := hR.out
      have hyl : ys.length = n := by have := hP.length_eq; omega
      have hx1 : SpanB (ys.getD m z108) := HS.out _ (hP.mem_iff.1 (getD_mem hyl (by omega)))
      have hx2 : SpanB (ys.getD h z108) := HS.out _ (hP.mem_iff.1 (getD_mem hyl (by omega)))
      obtain ⟨p0, p1, p2, p3⟩ := place hRR m (by omega)
      obtain ⟨q0, q1, q2, q3⟩ := place hRR h (by omega)
      generalize ys.getD m z108 = x at *
      generalize ys.getD h z108 = y at *
      have CMP := Lib.hid (fun W => cmp_c x y W hx1 hx2)
      have hd1 : -50 ≤ x.f3 - y.f3 ∧ x.f3 - y.f3 ≤ 50 := by have h1 := hx1; have h2 := hx2; unfold SpanB at h1 h2; omega
      have HP := Lib.hid hP
      have HG := Lib.hid hG
      have HRR := Lib.hid hRR
      clear hx1 hx2 hP hG hRR hR
      go_wp2_with fail
      rw [HH.out]
      refine wp_region_still_tail 9 (by kernel_rfl) (by kernel_rfl) ?_
      simp only [List.take_succ_cons, List.take_zero, List.drop_succ_cons, List.drop_zero]
      change wpStill _ _ wr.drew (fun a' => wpList _ _ _ _ a' wr.drew) _ _
      iterate 9 still_step
      refine wpStill_nil ?_
      go_wp2_with fail
      refine (CMP.out _).mono ?_
      rintro e w1 ⟨rfl, hB1⟩
      have H1 : Hid (Sorted xs g n cp Br ok w0 w1) := Lib.hid ⟨ys, HP.out, Kd.R_below (Kd.R_drewN HRR.out 1) hB1, grown_below (grown_below HG.out (Below.refl _ wr).drew) hB1⟩
      clear hB1 HRR HG p0 p1 p2 p3 q0 q1 q2 q3
      by_cases hc : x.f3 - y.f3 < 0
      · have n2 : decide (x.f3 - y.f3 < 0) = true := decide_eq_true hc
        go_wp2_with fail
        go_roundw
        case rel => exact ⟨i, h, rfl, by go_num, by omega, by omega, by omega, H1.out⟩
        case measure => simp [RowKit.intOf]; omega
      · have n2 : decide (x.f3 - y.f3 < 0) = false := decide_eq_false hc
        go_wp2_with fail
        go_roundw
        case rel => exact ⟨h + 1, j, by go_num, rfl, by omega, by omega, by omega, H1.out⟩
        case measure => simp [RowKit.intOf]; omega
    · have n1 : decide (i < j) = false := decide_eq_false hlt
      go_wp2_with fail
      clear hlt n1
      go_loopw [17] (fun kv wr => ∃ (k : Nat), kv = .int .i64 k ∧ i ≤ k ∧ k ≤ m ∧ Hid (Sorted xs g n cp Br ok w0 wr)) (fun kv _ => (RowKit.intOf kv).toNat)
      case atStart => exact ⟨m, rfl, by omega, Nat.le_refl _, hR⟩
      case round =>
        obtain ⟨k0, rfl, hk1, hk2, hR2⟩ := hrel
        by_cases hlt : i < k0
        · obtain ⟨k, rfl⟩ : ∃ k, k0 = k + 1 := ⟨k0 - 1, by omega⟩
          obtain ⟨ys, hP, hRR, hG⟩ := hR2.out
          have hi1 : k < n := by omega
          have hj1 : 0 ≤ (k : Int) + 1 ∧ (k : Int) + 1 < (n : Int) := ⟨by omega, by omega⟩
          obtain ⟨x, hgx⟩ : ∃ x, ys.getD (k + 1) z108 = x := ⟨_, rfl⟩
          obtain ⟨y, hgy⟩ : ∃ y, ys.getD k z108 = y := ⟨_, rfl⟩
          obtain ⟨p0, p1, p2, p3⟩ := place hRR (k + 1) (by omega)
          obtain ⟨q0, q1, q2, q3⟩ := place hRR k hi1
          rw [hgx] at p0 p1 p2 p3
          rw [hgy] at q0 q1 q2 q3
          have hf := place_frozen hRR (by omega)
          obtain ⟨w5, hw5, hf5, ⟨z, r0, r1, r2, r3⟩, zs, hz1, hz2, hz3⟩ := swap_go hRR (k + 1) k (by omega) hi1 x y hgx hgy
          have HW5 := Lib.hid hw5
          have FIN : Hid (Sorted xs g n cp Br ok w0 (w5.setCells g (k * 4) (ceV x)).drew) := Lib.hid ⟨zs, hz1.trans hP, hz2, hG.trans hz3⟩
          clear hw5 hz1 hz2 hz3 hP hRR hG hgx hgy hR2 hR
          obtain ⟨w1, hw1⟩ : ∃ w1, w1 = wr := ⟨_, rfl⟩
          subst hw1
          have n1 : decide ((i : Int) < (k : Int) + 1) = true := decide_eq_true (by omega)
          go_wp2_with fail
          refine wp_region_held_drew (S := fun _ => True) (by kernel_rfl) trivial (fun hHeld => ?_)
          refine wpAnyH_take (i := 0) (v := .slice (some ⟨g, 0, none⟩) n cp) rfl (by kernel_rfl) (by kernel_rfl) (by kernel_rfl) (fun _ _ _ h => h) (y_move (by rfl) rfl rfl) hHeld ?_
          try simp only [Act.put, List.getElem_toArray, List.getElem_cons_succ, List.getElem_cons_zero, List.setIfInBounds_toArray, List.set_cons_zero, List.set_cons_succ]
          refine wpAnyH_take (i := 1) (v := .int .i64 ((k : Int) + 1)) rfl (by kernel_rfl) (by kernel_rfl) (by kernel_rfl) (fun _ _ _ h => h) (y_move (by rfl) rfl rfl) hHeld ?_
          try simp only [Act.put, List.getElem_toArray, List.getElem_cons_succ, List.getElem_cons_zero, List.setIfInBounds_toArray, List.set_cons_zero, List.set_cons_succ]
          refine wpAnyH_take (i := 2) (v := .slice (some ⟨g, 0, none⟩) n cp) rfl (by kernel_rfl) (by kernel_rfl) (by kernel_rfl) (fun _ _ _ h => h) (y_move (by rfl) rfl rfl) hHeld ?_
          try simp only [Act.put, List.getElem_toArray, List.getElem_cons_succ, List.getElem_cons_zero, List.setIfInBounds_toArray, List.set_cons_zero, List.set_cons_succ]
          refine wpAnyH_take (i := 3) (v := .int .i64 ((k : Int) + 1)) rfl (by kernel_rfl) (by kernel_rfl) (by kernel_rfl) (fun _ _ _ h => h) (y_move (by rfl) rfl rfl) hHeld ?_
          try simp only [Act.put, List.getElem_toArray, List.getElem_cons_succ, List.getElem_cons_zero, List.setIfInBounds_toArray, List.set_cons_zero, List.set_cons_succ]
          refine wpAnyH_take (i := 4) (v := .int .i64 (k : Int)) rfl (by kernel_rfl) (by kernel_rfl) (by kernel_rfl) (fun _ _ _ h => h) (y_sub (by rfl) rfl rfl rfl (by omega) (by omega) (by omega)) hHeld ?_
          try simp only [Act.put, List.getElem_toArray, List.getElem_cons_succ, List.getElem_cons_zero, List.setIfInBounds_toArray, List.set_cons_zero, List.set_cons_succ]
          refine wpAnyH_take (i := 5) (v := .slice (some ⟨g, 0, none⟩) n cp) rfl (by kernel_rfl) (by kernel_rfl) (by kernel_rfl) (fun _ _ _ h => h) (y_move (by rfl) rfl rfl) hHeld ?_
          try simp only [Act.put, List.getElem_toArray, List.getElem_cons_succ, List.getElem_cons_zero, List.setIfInBounds_toArray, List.set_cons_zero, List.set_cons_succ]
          refine wpAnyH_take (i := 6) (v := .int .i64 ((k : Int) + 1)) rfl (by kernel_rfl) (by kernel_rfl) (by kernel_rfl) (fun _ _ _ h => h) (y_move (by rfl) rfl rfl) hHeld ?_
          try simp only [Act.put, List.getElem_toArray, List.getElem_cons_succ, List.getElem_cons_zero, List.setIfInBounds_toArray, List.set_cons_zero, List.set_cons_succ]
          refine wpAnyH_take (i := 7) (v := .int .i64 (k : Int)) rfl (by kernel_rfl) (by kernel_rfl) (by kernel_rfl) (fun _ _ _ h => h) (y_sub (by rfl) rfl rfl rfl (by omega) (by omega) (by omega)) hHeld ?_
          try simp only [Act.put, List.getElem_toArray, List.getElem_cons_succ, List.getElem_cons_zero, List.setIfInBounds_toArray, List.set_cons_zero, List.set_cons_succ]
          refine wpAnyH_take (i := 8) (v := .pointer (some ⟨g, k * 4, none⟩)) rfl (by kernel_rfl) (by kernel_rfl) (by kernel_rfl) (fun _ _ _ h => h) (y_run (by rfl) (fun w _ => by unfold execOp; go_simp)) hHeld ?_
          try simp only [Act.put, List.getElem_toArray, List.getElem_cons_succ, List.getElem_cons_zero, List.setIfInBounds_toArray, List.set_cons_zero, List.set_cons_succ]
          refine wpAnyH_take (i := 10) (v := .slice (some ⟨g, 0, none⟩) n cp) rfl (by kernel_rfl) (by kernel_rfl) (by kernel_rfl) (fun _ _ _ h => h) (y_move (by rfl) rfl rfl) hHeld ?_
          try simp only [Act.put, List.getElem_toArray, List.getElem_cons_succ, List.getElem_cons_zero, List.setIfInBounds_toArray, List.set_cons_zero, List.set_cons_succ]
          refine wpAnyH_take (i := 11) (v := .int .i64 ((k : Int) + 1)) rfl (by kernel_rfl) (by kernel_rfl) (by kernel_rfl) (fun _ _ _ h => h) (y_move (by rfl) rfl rfl) hHeld ?_
          try simp only [Act.put, List.getElem_toArray, List.getElem_cons_succ, List.getElem_cons_zero, List.setIfInBounds_toArray, List.set_cons_zero, List.set_cons_succ]
          refine wpAnyH_take (i := 12) (v := .pointer (some ⟨g, (k + 1) * 4, none⟩)) rfl (by kernel_rfl) (by kernel_rfl) (by kernel_rfl) (fun _ _ _ h => h) (y_run (by rfl) (fun w _ => by unfold execOp; go_simp)) hHeld ?_
          try simp only [Act.put, List.getElem_toArray, List.getElem_cons_succ, List.getElem_cons_zero, List.setIfInBounds_toArray, List.set_cons_zero, List.set_cons_succ]
          refine wpAnyH_ready (rs := [9, 13]) (by kernel_rfl) (by simp) ?_
          refine AllReadyH.cons rfl (fun K hK => ?_) (AllReadyH.cons rfl (fun K hK => ?_) AllReadyH.nil)
          · skip
            try simp only [Act.put, List.getElem_toArray, List.getElem_cons_succ, List.getElem_cons_zero, List.setIfInBounds_toArray, List.set_cons_zero, List.set_cons_succ]
            rw [if_pos (by rfl)]
            go_simp
            refine hK.out _ _ hHeld (fun hHeld => ?_)
            clear hK K
            try simp only [Act.put, List.getElem_toArray, List.getElem_cons_succ, List.getElem_cons_zero, List.setIfInBounds_toArray, List.set_cons_zero, List.set_cons_succ]
            refine wpAnyH_ready (rs := [13]) (by kernel_rfl) (by simp) ?_
            refine AllReadyH.cons rfl (fun K hK => ?_) AllReadyH.nil
            try simp only [Act.put, List.getElem_toArray, List.getElem_cons_succ, List.getElem_cons_zero, List.setIfInBounds_toArray, List.set_cons_zero, List.set_cons_succ]
            rw [if_pos (by rfl)]
            go_simp
            refine hK.out _ _ hHeld (fun hHeld => ?_)
            clear hK K
            try simp only [Act.put, List.getElem_toArray, List.getElem_cons_succ, List.getElem_cons_zero, List.setIfInBounds_toArray, List.set_cons_zero, List.set_cons_succ]
            refine wpAnyH_take (i := 14) (v := .pointer (some ⟨g, (k + 1) * 4, none⟩)) rfl (by kernel_rfl) (by kernel_rfl) (by kernel_rfl) (fun _ _ _ h => h) (y_run (by rfl) (fun w _ => by unfold execOp; go_simp)) hHeld ?_
            try simp only [Act.put, List.getElem_toArray, List.getElem_cons_succ, List.getElem_cons_zero, List.setIfInBounds_toArray, List.set_cons_zero, List.set_cons_succ]
            refine wpAnyH_ready (rs := [15]) (by kernel_rfl) (by simp) ?_
            refine AllReadyH.cons rfl (fun K hK => ?_) AllReadyH.nil
            try simp only [Act.put, List.getElem_toArray, List.getElem_cons_succ, List.getElem_cons_zero, List.setIfInBounds_toArray, List.set_cons_zero, List.set_cons_succ]
            rw [if_pos (by rfl)]
            go_simp
            show K _ ((w1.setCells g ((k + 1) * 4) (ceV y)).drew)
            rw [HW5.out]
            refine hK.out _ _ hHeld (fun hHeld => ?_)
            clear hK K
            try simp only [Act.put, List.getElem_toArray, List.getElem_cons_succ, List.getElem_cons_zero, List.setIfInBounds_toArray, List.set_cons_zero, List.set_cons_succ]
            refine wpAnyH_take (i := 16) (v := .pointer (some ⟨g, k * 4, none⟩)) rfl (by kernel_rfl) (by kernel_rfl) (by kernel_rfl) (fun _ _ _ h => h) (y_run (by rfl) (fun w _ => by unfold execOp; go_simp)) hHeld ?_
            try simp only [Act.put, List.getElem_toArray, List.getElem_cons_succ, List.getElem_cons_zero, List.setIfInBounds_toArray, List.set_cons_zero, List.set_cons_succ]
            refine wpAnyH_ready (rs := [17]) (by kernel_rfl) (by simp) ?_
            refine AllReadyH.cons rfl (fun K hK => ?_) AllReadyH.nil
            try simp only [Act.put, List.getElem_toArray, List.getElem_cons_succ, List.getElem_cons_zero, List.setIfInBounds_toArray, List.set_cons_zero, List.set_cons_succ]
            rw [if_pos (by rfl)]
            go_simp
            show K _ ((w5.setCells g (k * 4) (ceV x)).drew)
            refine hK.out _ _ hHeld (fun hHeld => ?_)
            clear hK K
            try simp only [Act.put, List.getElem_toArray, List.getElem_cons_succ, List.getElem_cons_zero, List.setIfInBounds_toArray, List.set_cons_zero, List.set_cons_succ]
            refine wpAnyH_done (by kernel_rfl) ?_ _
            clear hHeld
            go_wp2_with fail
            go_roundw
            case rel => exact ⟨k, by go_num, by omega, by omega, FIN.out⟩
            case measure => simp [RowKit.intOf]
          · skip
            try simp only [Act.put, List.getElem_toArray, List.getElem_cons_succ, List.getElem_cons_zero, List.setIfInBounds_toArray, List.set_cons_zero, List.set_cons_succ]
            rw [if_pos (by rfl)]
            go_simp
            refine hK.out _ _ hHeld (fun hHeld => ?_)
            clear hK K
            try simp only [Act.put, List.getElem_toArray, List.getElem_cons_succ, List.getElem_cons_zero, List.setIfInBounds_toArray, List.set_cons_zero, List.set_cons_succ]
            refine wpAnyH_ready (rs := [9]) (by kernel_rfl) (by simp) ?_
            refine AllReadyH.cons rfl (fun K hK => ?_) AllReadyH.nil
            try simp only [Act.put, List.getElem_toArray, List.getElem_cons_succ, List.getElem_cons_zero, List.setIfInBounds_toArray, List.set_cons_zero, List.set_cons_succ]
            rw [if_pos (by rfl)]
            go_simp
            refine hK.out _ _ hHeld (fun hHeld => ?_)
            clear hK K
            try simp only [Act.put, List.getElem_toArray, List.getElem_cons_succ, List.getElem_cons_zero, List.setIfInBounds_toArray, List.set_cons_zero, List.set_cons_succ]
            refine wpAnyH_take (i := 14) (v := .pointer (some ⟨g, (k + 1) * 4, none⟩)) rfl (by kernel_rfl) (by kernel_rfl) (by kernel_rfl) (fun _ _ _ h => h) (y_run (by rfl) (fun w _ => by unfold execOp; go_simp)) hHeld ?_
            try simp only [Act.put, List.getElem_toArray, List.getElem_cons_succ, List.getElem_cons_zero, List.setIfInBounds_toArray, List.set_cons_zero, List.set_cons_succ]
            refine wpAnyH_ready (rs := [15]) (by kernel_rfl) (by simp) ?_
            refine AllReadyH.cons rfl (fun K hK => ?_) AllReadyH.nil
            try simp only [Act.put, List.getElem_toArray, List.getElem_cons_succ, List.getElem_cons_zero, List.setIfInBounds_toArray, List.set_cons_zero, List.set_cons_succ]
            rw [if_pos (by rfl)]
            go_simp
            show K _ ((w1.setCells g ((k + 1) * 4) (ceV y)).drew)
            rw [HW5.out]
            refine hK.out _ _ hHeld (fun hHeld => ?_)
            clear hK K
            try simp only [Act.put, List.getElem_toArray, List.getElem_cons_succ, List.getElem_cons_zero, List.setIfInBounds_toArray, List.set_cons_zero, List.set_cons_succ]
            refine wpAnyH_take (i := 16) (v := .pointer (some ⟨g, k * 4, none⟩)) rfl (by kernel_rfl) (by kernel_rfl) (by kernel_rfl) (fun _ _ _ h => h) (y_run (by rfl) (fun w _ => by unfold execOp; go_simp)) hHeld ?_
            try simp only [Act.put, List.getElem_toArray, List.getElem_cons_succ, List.getElem_cons_zero, List.setIfInBounds_toArray, List.set_cons_zero, List.set_cons_succ]
            refine wpAnyH_ready (rs := [17]) (by kernel_rfl) (by simp) ?_
            refine AllReadyH.cons rfl (fun K hK => ?_) AllReadyH.nil
            try simp only [Act.put, List.getElem_toArray, List.getElem_cons_succ, List.getElem_cons_zero, List.setIfInBounds_toArray, List.set_cons_zero, List.set_cons_succ]
            rw [if_pos (by rfl)]
            go_simp
            show K _ ((w5.setCells g (k * 4) (ceV x)).drew)
            refine hK.out _ _ hHeld (fun hHeld => ?_)
            clear hK K
            try simp only [Act.put, List.getElem_toArray, List.getElem_cons_succ, List.getElem_cons_zero, List.setIfInBounds_toArray, List.set_cons_zero, List.set_cons_succ]
            refine wpAnyH_done (by kernel_rfl) ?_ _
            clear hHeld
            go_wp2_with fail
            go_roundw
            case rel => exact ⟨k, by go_num, by omega, by omega, FIN.out⟩
            case measure => simp [RowKit.intOf]
        · have n1 : decide (i < k0) = false := decide_eq_false (by omega)
          go_wp2_with fail
          go_end0
          exact ⟨rfl, hR2.out⟩
end Go.Proofs.Ytfkgpkkjiolfpaa.Tab
