/- slices.symMergeCmpFunc at cells, where both parts have several cells; and whole. -/
import Derived.Test.YtfkgpkkjiolfpaaTabSm2
namespace Go.Proofs.Ytfkgpkkjiolfpaa.Tab
open Go.RowKit Go.Lib Go.Proofs.Ytfkgpkkjiolfpaa.Pl Go.Proofs.Ytfkgpkkjiolfpaa.Fx Go.Proofs.Ytfkgpkkjiolfpaa.Rgn Go.Proofs.Ytfkgpkkjiolfpaa.Blk Go.Proofs.YtfkgpkkjiolfpaaW.PrintWords Go.Proofs.YtfkgpkkjiolfpaaW.PrintLast Go.Proofs.YtfkgpkkjiolfpaaW.PrintMore
set_option linter.unusedVariables false
set_option linter.unusedSimpArgs false
attribute [local go_sem] mx2 mn2 mx_two mn_two mx_three mn_three

theorem mids (a m b n : Nat) (h1 : a + 1 < m) (h2 : m + 1 < b) (hb : b ≤ n) : ∃ mid lo hi : Nat, ((a : Int) + (b : Int)) / 2 = (mid : Int) ∧ a < mid ∧ mid < b ∧ lo ≤ hi ∧ a ≤ lo ∧ hi ≤ m ∧ hi ≤ mid ∧ mid + m ≤ b + lo ∧ mid + m ≤ n + lo ∧
    ((decide (((a : Int) + (b : Int)) / 2 < (m : Int)) = true ∧ (mid : Int) + (m : Int) - (b : Int) = (lo : Int) ∧ (mid : Int) = (hi : Int)) ∨ (decide (((a : Int) + (b : Int)) / 2 < (m : Int)) = false ∧ (a : Int) = (lo : Int) ∧ (m : Int) = (hi : Int))) := by
  by_cases h : (a + b) / 2 < m
  · exact ⟨(a + b) / 2, (a + b) / 2 + m - b, (a + b) / 2, by omega, by omega, by omega, by omega, by omega, by omega, by omega, by omega, by omega, .inl ⟨decide_eq_true (by omega), by omega, rfl⟩⟩
  · exact ⟨(a + b) / 2, a, m, by omega, by omega, by omega, by omega, by omega, by omega, by omega, by omega, by omega, .inr ⟨decide_eq_false (by omega), rfl, rfl⟩⟩
theorem three (A C : Prop) [Decidable A] [Decidable C] : (decide A = true ∧ decide C = true ∧ A ∧ C) ∨ (decide A = true ∧ decide C = false) ∨ decide A = false := by
  by_cases h : A
  · by_cases k : C
    · exact .inl ⟨decide_eq_true h, decide_eq_true k, h, k⟩
    · exact .inr (.inl ⟨decide_eq_true h, decide_eq_false k⟩)
  · exact .inr (.inr (decide_eq_false h))
set_option maxRecDepth 1000000 in
set_option maxHeartbeats 16000000 in
theorem sm3_c (g n cp : Nat) (a m b : Nat) (xs : List Ce) (Br : Nat) (ok : Nat → Prop) (w0 w : World) (hR : Sorted xs g n cp Br ok w0 w) (hs : ∀ x, x ∈ xs → SpanB x) (hn : xs.length = n) (hn2 : n ≤ 1000000) (ham : a + 1 < m) (hmb : m + 1 < b) (hb : b ≤ n)
    (ih : ∀ a' m' b' W, Sorted xs g n cp Br ok w0 W → a' < m' → m' < b' → b' ≤ n → b' + a < b + a' → Calls Try.prog 95 #[.slice (some ⟨g, 0, none⟩) n cp, .int .i64 (a' : Int), .int .i64 (m' : Int), .int .i64 (b' : Int), .func (.func 58) #[] #[]] W (SortPost xs g n cp Br ok w0)) :
    Calls Try.prog 95 #[.slice (some ⟨g, 0, none⟩) n cp, .int .i64 a, .int .i64 m, .int .i64 b, .func (.func 58) #[] #[]] w (SortPost xs g n cp Br ok w0) := by
  have HR := Lib.hid hR
  have HS := Lib.hid hs
  have IH := Lib.hid ih
  have n0 : (((m : Int) - (a : Int)) == 1) = false := by simp; omega
  have n00 : (((b : Int) - (m : Int)) == 1) = false := by simp; omega
  obtain ⟨mid, lo, hi, hmid, d1, d2, d3, d4, d5, d6, d7, d8, hcase⟩ := mids a m b n ham hmb hb
  have HMID := Lib.hid hmid
  clear hR hs ih hmid
  obtain ⟨pp, hpp⟩ : ∃ pp, pp = mid + m - 1 := ⟨_, rfl⟩
  obtain ⟨nn, hnn⟩ : ∃ nn, nn = mid + m := ⟨_, rfl⟩
  have HPP : Hid ((mid : Int) + (m : Int) - 1 = (pp : Int)) := Lib.hid (by omega)
  have HNN : Hid ((mid : Int) + (m : Int) = (nn : Int)) := Lib.hid (by omega)
  have hpb : pp + 1 ≤ mid + m ∧ mid + m ≤ pp + 1 ∧ nn ≤ mid + m ∧ mid + m ≤ nn := by omega
  clear hpp hnn
  rcases hcase with ⟨t0, hlo, hhi⟩ | ⟨t0, hlo, hhi⟩
  case' inl => rw [HNN.out] at hlo
  all_goals
    have HLO := Lib.hid hlo
    have HHI := Lib.hid hhi
    clear hlo hhi
    go_enter Try.func95, Try.ntmps95
    go_wp2_with fail
    rw [HMID.out]
    rw [HPP.out, HNN.out]
    clear t0
  all_goals
    go_loopw [20, 21] (fun sv rv wr => ∃ (s r : Nat), sv = .int .i64 s ∧ rv = .int .i64 r ∧ lo ≤ s ∧ s ≤ r ∧ r ≤ hi ∧ Hid (Sorted xs g n cp Br ok w0 wr)) (fun sv rv _ => (RowKit.intOf rv).toNat - (RowKit.intOf sv).toNat)
    case atStart => exact ⟨lo, hi, congrArg _ HLO.out, congrArg _ HHI.out, Nat.le_refl _, d3, Nat.le_refl _, HR⟩
    case round =>
      obtain ⟨s, r, rfl, rfl, hs1, hs2, hs3, hR⟩ := hrel
      by_cases hlt : s < r
      · obtain ⟨c, hc⟩ : ∃ c, c = (s + r) / 2 := ⟨_, rfl⟩
        obtain ⟨q, hq⟩ : ∃ q, q = pp - c := ⟨_, rfl⟩
        have hc2 := half s r hlt
        rw [← hc] at hc2
        have HC : Hid (((s : Int) + (r : Int)) / 2 = (c : Int)) := Lib.hid (by omega)
        have HQ : Hid ((pp : Int) - (c : Int) = (q : Int)) := Lib.hid (by omega)
        have hq3 : q < n := by omega
        have WM : Hid (IntKind.i64.wrap (q : Int) = (q : Int)) := Lib.hid (IntWalk.i64_in _ ⟨by omega, by omega⟩)
        have hc3 : c < n := by omega
        clear hc hq
        obtain ⟨ys, hP, hRR, hG⟩ := hR.out
        have hyl : ys.length = n := by have := hP.length_eq; omega
        have hx1 : SpanB (ys.getD q z108) := HS.out _ (hP.mem_iff.1 (getD_mem hyl (by omega)))
        have hx2 : SpanB (ys.getD c z108) := HS.out _ (hP.mem_iff.1 (getD_mem hyl (by omega)))
        obtain ⟨p0, p1, p2, p3⟩ := place hRR q (by omega)
        obtain ⟨q0, q1, q2, q3⟩ := place hRR c (by omega)
        generalize ys.getD q z108 = x at *
        generalize ys.getD c z108 = y at *
        have CMP := Lib.hid (fun W => cmp_c x y W hx1 hx2)
        have hd1 : -50 ≤ x.f3 - y.f3 ∧ x.f3 - y.f3 ≤ 50 := by have h1 := hx1; have h2 := hx2; unfold SpanB at h1 h2; omega
        have HP := Lib.hid hP
        have HG := Lib.hid hG
        have HRR := Lib.hid hRR
        clear hx1 hx2 hP hG hRR hR
        go_wp2_with fail
        rw [HC.out]
        refine wp_region_still_tail 11 (by kernel_rfl) (by kernel_rfl) ?_
        simp only [List.take_succ_cons, List.take_zero, List.drop_succ_cons, List.drop_zero]
        change wpStill _ _ wr.drew (fun a' => wpList _ _ _ _ a' wr.drew) _ _
        iterate 5 still_step
        rw [HQ.out, WM.out]
        iterate 6 still_step
        refine wpStill_nil ?_
        go_wp2_with fail
        refine (CMP.out _).mono ?_
        rintro e w1 ⟨rfl, hB1⟩
        have H1 : Hid (Sorted xs g n cp Br ok w0 w1) := Lib.hid ⟨ys, HP.out, Kd.R_below (Kd.R_drewN HRR.out 1) hB1, grown_below (grown_below HG.out (Below.refl _ wr).drew) hB1⟩
        clear hB1 HRR HG p0 p1 p2 p3 q0 q1 q2 q3
        by_cases hc : x.f3 - y.f3 < 0
        · have n2 : decide (x.f3 - y.f3 < 0) = true := decide_eq_true hc
          go_wp2_with fail
          go_roundw
          case rel => exact ⟨s, c, rfl, by go_num, by omega, by omega, by omega, H1.out⟩
          case measure => simp [RowKit.intOf]; omega
        · have n2 : decide (x.f3 - y.f3 < 0) = false := decide_eq_false hc
          go_wp2_with fail
          go_roundw
          case rel => exact ⟨c + 1, r, by go_num, rfl, by omega, by omega, by omega, H1.out⟩
          case measure => simp [RowKit.intOf]; omega
      · have n1 : decide (s < r) = false := decide_eq_false hlt
        obtain ⟨e, he⟩ : ∃ e, e = nn - s := ⟨_, rfl⟩
        have HE : Hid ((nn : Int) - (s : Int) = (e : Int)) := Lib.hid (by omega)
        have hen : e ≤ b := by omega
        have ROT := Lib.hid fun (k1 : s < m) (k2 : (m : Int) < (nn : Int) - (s : Int)) W (h : Hid (Sorted xs g n cp Br ok w0 W)) => rot_c g n cp s m e xs Br ok w0 W h.out hn hn2 k1 (by omega) (by omega)
        have IH1 := Lib.hid fun (k1 : a < s) (k2 : s < mid) W (h : Hid (Sorted xs g n cp Br ok w0 W)) => IH.out a s mid W h.out k1 k2 (by omega) (by omega)
        have IH2 := Lib.hid fun (k1 : (mid : Int) < (nn : Int) - (s : Int)) (k2 : (nn : Int) - (s : Int) < (b : Int)) W (h : Hid (Sorted xs g n cp Br ok w0 W)) => IH.out mid e b W h.out (by omega) (by omega) (by omega) (by omega)
        rw [← HE.out] at ROT IH2
        have A1 := three (s < m) ((m : Int) < (nn : Int) - (s : Int))
        have A2 := three (a < s) (s < mid)
        have A3 := three ((mid : Int) < (nn : Int) - (s : Int)) ((nn : Int) - (s : Int) < (b : Int))
        have H0 := hR
        clear hR he hlt
        rcases A1 with ⟨t1, t2, k1, k2⟩ | ⟨t1, t2⟩ | t1
        all_goals
          rcases A2 with ⟨t3, t4, k3, k4⟩ | ⟨t3, t4⟩ | t3
        all_goals
          rcases A3 with ⟨t5, t6, k5, k6⟩ | ⟨t5, t6⟩ | t5
        all_goals
          go_wp2_with (first
            | (go_at_call 100; refine (ROT.out (by assumption) (by assumption) _ (by assumption)).mono ?_; rintro e w' ⟨rfl, hh⟩; have H1 := Lib.hid hh; clear hh H0)
            | (go_at_call 95; (with_reducible refine (IH1.out (by assumption) (by assumption) _ (by assumption)).mono ?_); rintro e w' ⟨rfl, hh⟩; have H1 := Lib.hid hh; clear hh)
            | (go_at_call 95; (with_reducible refine (IH2.out (by assumption) (by assumption) _ (by assumption)).mono ?_); rintro e w' ⟨rfl, hh⟩; have H1 := Lib.hid hh; clear hh))
        all_goals
          go_end0
          refine ⟨rfl, ?_⟩
          apply Hid.out
          assumption
theorem sm_c (g n cp : Nat) (xs : List Ce) (Br : Nat) (ok : Nat → Prop) (w0 : World) (hs : ∀ x, x ∈ xs → SpanB x) (hn : xs.length = n) (hn2 : n ≤ 1000000) (d : Nat) :
    ∀ a m b W, Sorted xs g n cp Br ok w0 W → a < m → m < b → b ≤ n → b ≤ a + d → Calls Try.prog 95 #[.slice (some ⟨g, 0, none⟩) n cp, .int .i64 (a : Int), .int .i64 (m : Int), .int .i64 (b : Int), .func (.func 58) #[] #[]] W (SortPost xs g n cp Br ok w0) := by
  induction d with
  | zero => intro a m b W _ h1 h2 _ h3; omega
  | succ d ih =>
    intro a m b W hR h1 h2 h3 h4
    by_cases e1 : m = a + 1
    · subst e1
      exact sm1_c g n cp a b xs Br ok w0 W hR hs hn hn2 h2 h3
    · by_cases e2 : b = m + 1
      · subst e2
        exact sm2_c g n cp a m xs Br ok w0 W hR hs hn hn2 (by omega) h3
      · exact sm3_c g n cp a m b xs Br ok w0 W hR hs hn hn2 (by omega) (by omega) h3 (fun a' m' b' W' hR' k1 k2 k3 k4 => ih a' m' b' W' hR' k1 k2 k3 (by omega))
end Go.Proofs.Ytfkgpkkjiolfpaa.Tab
