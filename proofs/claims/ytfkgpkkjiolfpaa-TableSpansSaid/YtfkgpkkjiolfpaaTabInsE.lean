/- slices.insertionSortCmpFunc, stableCmpFunc, SortStableFunc at cells of span 1: what is in order stays as it is. -/
import Derived.Test.YtfkgpkkjiolfpaaTabCmp
namespace Go.Proofs.Ytfkgpkkjiolfpaa.Tab
open Go.RowKit Go.Lib Go.Proofs.Ytfkgpkkjiolfpaa.Pl Go.Proofs.Ytfkgpkkjiolfpaa.Fx Go.Proofs.Ytfkgpkkjiolfpaa.Rgn Go.Proofs.Ytfkgpkkjiolfpaa.Blk Go.Proofs.Ytfkgpkkjiolfpaa.Tab Go.Proofs.YtfkgpkkjiolfpaaW.PrintWords Go.Proofs.YtfkgpkkjiolfpaaW.PrintLast Go.Proofs.YtfkgpkkjiolfpaaW.PrintMore
set_option linter.unusedVariables false
set_option linter.unusedSimpArgs false
attribute [local go_sem] mx2 mn2 mx_two mn_two mx_three mn_three

def SameCells (xs : List Ce) (B Br : Nat) (ok : Nat → Prop) (w0 : World) (v : Value) (e : Ending) (w' : World) : Prop := e = .returned (.tuple #[]) ∧ Kd.R k108 108 w' Br ok v xs ∧ Below B w0 w'
set_option maxRecDepth 1000000 in
set_option maxHeartbeats 4000000 in
theorem insE_c (g n cp : Nat) (a b : Nat) (xs : List Ce) (B Br : Nat) (ok : Nat → Prop) (w0 w : World) (hR : Kd.R k108 108 w Br ok (.slice (some ⟨g, 0, none⟩) n cp) xs) (hB : Below B w0 w) (hBB : B ≤ w0.heap.size) (hs : ∀ x, x ∈ xs → x.f3 = 1) (hn : xs.length = n) (hn2 : n ≤ 1000000) (hab : a ≤ b) (hb : b ≤ n) :
    Calls Try.prog 94 #[.slice (some ⟨g, 0, none⟩) n cp, .int .i64 a, .int .i64 b, .func (.func 58) #[] #[]] w (SameCells xs B Br ok w0 (.slice (some ⟨g, 0, none⟩) n cp)) := by
  have HR := Lib.hid hR
  have HB := Lib.hid hB
  have HS := Lib.hid hs
  clear hR hB hs
  go_enter Try.func94, Try.ntmps94
  go_wp2_with fail
  go_loopw [8] (fun i wr => ∃ (k : Nat), i = .int .i64 k ∧ a + 1 ≤ k ∧ k ≤ a + b + 1 ∧ Hid (Kd.R k108 108 wr Br ok (.slice (some ⟨g, 0, none⟩) n cp) xs) ∧ Hid (Below B w0 wr)) (fun i _ => a + b + 2 - (RowKit.intOf i).toNat)
  case atStart => exact ⟨a + 1, by go_num, Nat.le_refl _, by omega, HR, HB⟩
  case round =>
    obtain ⟨k, rfl, hk1, hk2, hR, hB⟩ := hrel
    by_cases hlt : k < b
    · go_wp2_with fail
      obtain ⟨W1, hW1⟩ : ∃ W : World, W = wr := ⟨_, rfl⟩
      subst hW1
      go_loopw [9] (fun jv wr => jv = .int .i64 k ∧ Hid (Kd.R k108 108 wr Br ok (.slice (some ⟨g, 0, none⟩) n cp) xs) ∧ Hid (Below B w0 wr)) (fun jv _ => (RowKit.intOf jv).toNat)
      case atStart => exact ⟨rfl, hR, hB⟩
      case round =>
        obtain ⟨rfl, hR2, hB2⟩ := hrel
        obtain ⟨-, hcp, hCC⟩ := Kd.R_reads' hR2.out
        rw [hn] at hCC
        obtain ⟨ad, ea, p0, p1, p2, p3⟩ := at_T108 hCC (k : Int) (by omega) (by omega)
        injection ea with ea
        subst ea
        obtain ⟨ad, ea, q0, q1, q2, q3⟩ := at_T108 hCC ((k : Int) - 1) (by omega) (by omega)
        injection ea with ea
        subst ea
        obtain ⟨m1, rfl⟩ : ∃ m1, k = m1 + 1 := ⟨k - 1, by omega⟩
        rw [show (((m1 + 1 : Nat) : Int) - 1) = (m1 : Int) by omega] at q0 q1 q2 q3
        rw [Int.toNat_natCast] at p0 p1 p2 p3 q0 q1 q2 q3
        have rp : rd_T108 xs ((m1 + 1 : Nat) : Int) = xs.getD (m1 + 1) z108 := by simp [rd_T108]
        have rq : rd_T108 xs (m1 : Int) = xs.getD m1 z108 := by simp [rd_T108]
        rw [rp] at p0 p1 p2 p3
        rw [rq] at q0 q1 q2 q3
        simp only [Addr.add_mid, Nat.zero_add] at p0 p1 p2 p3 q0 q1 q2 q3
        have hx1 : (xs.getD (m1 + 1) z108).f3 = 1 := HS.out _ (by rw [List.getD_eq_getElem?_getD, List.getElem?_eq_getElem (by omega)]; exact List.getElem_mem _)
        have hx2 : (xs.getD m1 z108).f3 = 1 := HS.out _ (by rw [List.getD_eq_getElem?_getD, List.getElem?_eq_getElem (by omega)]; exact List.getElem_mem _)
        generalize hgx : xs.getD (m1 + 1) z108 = x at *
        generalize hgy : xs.getD m1 z108 = y at *
        have hcmp : ∀ W, Calls Try.prog 58 #[.agg (ceV x).toArray, .agg (ceV y).toArray] W fun e w' => e = .returned (.int .i64 0) ∧ Below W.heap.size W w' := fun W => by
          refine (cmp_c x y W ⟨by omega, by omega⟩ ⟨by omega, by omega⟩).mono ?_
          rintro e w' ⟨rfl, h⟩
          exact ⟨by rw [hx1, hx2]; rfl, h⟩
        have CMP := Lib.hid hcmp
        have n1 : decide ((a : Int) < (m1 : Int) + 1) = true := decide_eq_true (by omega)
        have i1 : 0 ≤ (m1 : Int) + 1 ∧ (m1 : Int) + 1 < (n : Int) := ⟨by omega, by omega⟩
        have i2 : m1 < n := by omega
        have wm : IntKind.i64.wrap (m1 : Int) = (m1 : Int) := IntWalk.i64_in _ ⟨by omega, by omega⟩
        clear hcmp hx1 hx2 hgx hgy rp rq
        go_wp2_with fail
        refine wp_region_still_tail 14 (by kernel_rfl) (by kernel_rfl) ?_
        simp only [List.take_succ_cons, List.take_zero, List.drop_succ_cons, List.drop_zero]
        change wpStill _ _ wr.drew (fun a' => wpList _ _ _ _ a' wr.drew) _ _
        iterate 12 still_step
        iterate 2 still_step
        refine wpStill_nil ?_
        go_wp2_with fail
        refine (CMP.out _).mono ?_
        rintro e w1 ⟨rfl, hB1⟩
        have R1 := Lib.hid (Kd.R_below (Kd.R_drewN hR2.out 1) hB1)
        have B1 := Lib.hid (below_then (pw_below_drewN hB2.out 1) (Nat.le_trans hBB (pw_below_drewN hB2.out 1).size) hB1)
        clear hB1 hR2 hB2 p0 p1 p2 p3 q0 q1 q2 q3 hCC
        go_wp2_with fail
        go_roundw
        case rel => exact ⟨m1 + 1 + 1, by go_num, by omega, by omega, R1.out, B1.out⟩
        case measure => simp [RowKit.intOf]; omega
    · have n1 : decide (k < b) = false := decide_eq_false hlt
      go_wp2_with fail
      go_end0
      exact ⟨rfl, hR.out, hB.out⟩

set_option maxHeartbeats 2000000 in
theorem stableE_c (g n cp : Nat) (xs : List Ce) (B Br : Nat) (ok : Nat → Prop) (w0 w : World) (hR : Kd.R k108 108 w Br ok (.slice (some ⟨g, 0, none⟩) n cp) xs) (hB : Below B w0 w) (hBB : B ≤ w0.heap.size) (hs : ∀ x, x ∈ xs → x.f3 = 1) (hn : xs.length = n) (hn2 : n < 20) :
    Calls Try.prog 83 #[.slice (some ⟨g, 0, none⟩) n cp, .int .i64 n, .func (.func 58) #[] #[]] w (SameCells xs B Br ok w0 (.slice (some ⟨g, 0, none⟩) n cp)) := by
  have INS := Lib.hid (insE_c g n cp 0 n xs B Br ok w0 w hR hB hBB hs hn (by omega) (by omega) (by omega))
  rw [show ((0 : Nat) : Int) = 0 by rfl] at INS
  clear hR hB hs hn
  have n1 : decide ((20 : Int) ≤ (n : Int)) = false := decide_eq_false (by omega)
  have n2 : decide (20 ≤ n) = false := decide_eq_false (by omega)
  have n3 : decide ((20 : Int) < (n : Int)) = false := decide_eq_false (by omega)
  have n4 : decide (20 < n) = false := decide_eq_false (by omega)
  go_enter Try.func83, Try.ntmps83
  go_wp2_with fail
  go_loopw [7, 8] (fun av bv wr => av = .int .i64 0 ∧ bv = .int .i64 20 ∧ Hid (wr = w)) (fun _ _ _ => 0)
  case atStart => exact ⟨rfl, rfl, rfl⟩
  case round =>
    obtain ⟨rfl, rfl, hw⟩ := hrel
    have hw2 := hw.out
    subst hw2
    go_wp2_with fail
    refine INS.out.mono ?_
    rintro e w1 ⟨rfl, hR1, hB1⟩
    have R1 := Lib.hid hR1
    have B1 := Lib.hid hB1
    clear hR1 hB1 INS hw
    go_wp2_with fail
    go_loopw [6] (fun sv wr => sv = .int .i64 20 ∧ Hid (Kd.R k108 108 wr Br ok (.slice (some ⟨g, 0, none⟩) n cp) xs) ∧ Hid (Below B w0 wr)) (fun _ _ => 0)
    case atStart => exact ⟨rfl, R1, B1⟩
    case round =>
      obtain ⟨rfl, hR2, hB2⟩ := hrel
      go_wp2_with fail
      go_end0
      exact ⟨rfl, hR2.out, hB2.out⟩
theorem sortE_c (g n cp : Nat) (xs : List Ce) (B Br : Nat) (ok : Nat → Prop) (w0 w : World) (hR : Kd.R k108 108 w Br ok (.slice (some ⟨g, 0, none⟩) n cp) xs) (hB : Below B w0 w) (hBB : B ≤ w0.heap.size) (hs : ∀ x, x ∈ xs → x.f3 = 1) (hn : xs.length = n) (hn2 : n < 20) :
    Calls Try.prog 57 #[.slice (some ⟨g, 0, none⟩) n cp, .func (.func 58) #[] #[]] w (SameCells xs B Br ok w0 (.slice (some ⟨g, 0, none⟩) n cp)) := by
  have ST := Lib.hid (stableE_c g n cp xs B Br ok w0 w hR hB hBB hs hn hn2)
  clear hR hB hs
  go_enter Try.func57, Try.ntmps57
  go_wp2_with fail
  refine ST.out.mono ?_
  rintro e w1 ⟨rfl, hR1, hB1⟩
  have R1 := Lib.hid hR1
  have B1 := Lib.hid hB1
  clear hR1 hB1
  go_wp2_with fail
  go_end0
  exact ⟨rfl, R1.out, B1.out⟩
end Go.Proofs.Ytfkgpkkjiolfpaa.Tab
