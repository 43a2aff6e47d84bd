/- For the laws on raster: alike rows, what is left over, the closed fact. -/
import Derived.Test.YtfkgpkkjiolfpaaRasDraw
namespace Go.Proofs.Ytfkgpkkjiolfpaa.Ras
open Go.RowKit Go.Lib Go.Proofs.Ytfkgpkkjiolfpaa.Blk Go.Proofs.Ytfkgpkkjiolfpaa.Rgn Go.Proofs.Ytfkgpkkjiolfpaa.Pl Go.Proofs.Ytfkgpkkjiolfpaa.Fx Go.Proofs.Ytfkgpkkjiolfpaa.Fnt Go.Proofs.YtfkgpkkjiolfpaaW.PrintWords Go.Proofs.YtfkgpkkjiolfpaaW.PrintLast Go.Proofs.YtfkgpkkjiolfpaaW.PrintMore
set_option linter.unusedVariables false
set_option linter.unusedSimpArgs false
attribute [local go_sem] mx2 mn2 mx_two mn_two mx_three mn_three

set_option maxRecDepth 100000 in
set_option maxHeartbeats 2000000 in
theorem eq_c (b1 b2 g1 g2 n c1 c2 : Nat) (xs : List Int) (w : World) (h1 : w.ownsRow b1 3 1 (.slice (some ⟨g1, 0, none⟩) n c1) n (nums .i64 xs)) (h2 : w.ownsRow b2 3 1 (.slice (some ⟨g2, 0, none⟩) n c2) n (nums .i64 xs)) (hn : n ≤ 1000000) :
    Calls Try.prog 33 #[.slice (some ⟨g1, 0, none⟩) n c1, .slice (some ⟨g2, 0, none⟩) n c2] w fun e w' => e = .returned (.bool true) ∧ w = w' := by
  have H1 := Lib.hid h1
  have H2 := Lib.hid h2
  clear h1 h2
  go_enter Try.func33, Try.ntmps33
  go_wp2_with fail
  go_loopw [14] (fun i wr => ∃ k : Nat, k ≤ n ∧ i = .int .i64 k ∧ w = wr) (fun i _ => n - (RowKit.intOf i).toNat)
  case atStart => exact ⟨0, Nat.zero_le _, rfl, by first | rfl | trivial⟩
  case round =>
    obtain ⟨k, hk, rfl, rfl⟩ := hrel
    by_cases hlt : k < n
    · obtain ⟨x1, _⟩ := own_at H1.out (k : Int) (by omega) (by omega)
      obtain ⟨x2, _⟩ := own_at H2.out (k : Int) (by omega) (by omega)
      rw [Int.toNat_natCast] at x1 x2
      generalize rd xs (k : Int) = x at *
      go_wp2_with fail
      refine ⟨⟨k + 1, by omega, ?_⟩, by simp [RowKit.intOf]; omega⟩
      first
        | rfl
        | (refine ⟨by go_num, ?_⟩; first | rfl | trivial)
        | (rw [show ((k : Int) + 1) = ((k + 1 : Nat) : Int) from by omega])
    · obtain rfl : k = n := by omega
      go_wp2_with fail
      go_ret
      first
        | exact ⟨rfl, rfl⟩
        | exact ⟨rfl, trivial⟩

theorem own_form {W : World} {base n : Nat} {e : TypeId} {s : Nat} {v : Value} {xs : List Value} (h : W.ownsRow base e s v n xs) (hn : 0 < n) : ∃ g cap, v = .slice (some ⟨g, 0, none⟩) n cap ∧ base ≤ g ∧ g < W.heap.size := by
  rcases h.2 with ⟨_, h0⟩ | ⟨g, cap, cur, hv, hb, hh, _⟩
  · omega
  · exact ⟨g, cap, hv, hb, blk_lt hh⟩
theorem Rest_c (n m : Int) (w : World) (hm : 0 < m) (h2 : m ≤ 1000000000000) : Calls Try.prog 28 #[.int .i64 n, .int .i64 m] w fun e w' => e = .returned (.int .i64 (n % m)) ∧ w = w' := by
  have hz : ¬ m = 0 := by omega
  have b1 : -m < Int.tmod n m ∧ Int.tmod n m < m := by
    have := Int.tmod_lt_of_pos n hm
    have := Int.lt_tmod_of_pos n hm
    omega
  have hem : n % m = if Int.tmod n m < 0 then Int.tmod n m + m else Int.tmod n m := by
    by_cases h0 : 0 ≤ n
    · have e1 := Int.tmod_eq_emod_of_nonneg (b := m) h0
      have e2 := Int.emod_nonneg n hz
      rw [e1, if_neg (by omega)]
    · have e1 := Int.tmod_eq_emod (a := n) (b := m)
      have e2 := Int.emod_nonneg n hz
      have e3 := Int.emod_lt_of_pos n hm
      by_cases hd : m ∣ n
      · rw [if_pos (.inr hd)] at e1
        rw [if_neg (by omega)]
        omega
      · rw [if_neg (by rintro (h1 | h1); exact h0 h1; exact hd h1)] at e1
        rw [if_pos (by omega)]
        omega
  by_cases h : Int.tmod n m < 0
  · rw [if_pos h] at hem
    have HE := Lib.hid hem
    have n1 : decide (Int.tmod n m < 0) = true := decide_eq_true h
    clear hem h
    go_enter Try.func28, Try.ntmps28
    go_wp2_with fail
    go_ret
    exact ⟨by rw [HE.out]; rfl, rfl⟩
  · rw [if_neg h] at hem
    have HE := Lib.hid hem
    have n1 : decide (Int.tmod n m < 0) = false := decide_eq_false h
    clear hem h
    go_enter Try.func28, Try.ntmps28
    go_wp2_with fail
    go_ret
    exact ⟨by rw [HE.out]; rfl, rfl⟩
theorem reps_cm (w : World) (base : Nat) (ok : Nat → Prop) (ps : List Cm) : Reps (k65.M w base ok) k65.sz ps (ps.flatMap cmV) := by
  induction ps with
  | nil => exact Reps.none _ _
  | cons p ps ih =>
    rw [List.flatMap_cons]
    exact Reps.front (k65_mkM w base ok p) rfl ih rfl
theorem lit_cm (W : World) (base : Nat) (ps : List Cm) (hb : base ≤ W.heap.size) (hm : ps.length ≤ 1000000) : Kd.R k65 65 (W.alloc (.cells (ps.flatMap cmV).toArray 65)) base (fun _ => True) (.slice (some ⟨W.heap.size, 0, none⟩) ps.length ps.length) ps :=
  ⟨fun _ _ => trivial, OwnRow.lit W base (reps_cm _ base _ ps) hb (by omega)⟩
def fillC : Cm := ⟨1, 0, 0, 0, 64, 64, 255, 0, ⟨#[]⟩⟩
theorem drawn_flat : flatP [fillC] = .ok [⟨fillC, allR, 1000⟩] := by
  unfold flatP
  rw [flatGo, if_pos (by decide), flatGo]
  rfl
theorem drawn_fact : drawP [⟨fillC, allR, 1000⟩] 2 1 = [255, 4294967295] := by decide +kernel
set_option maxRecDepth 100000 in
set_option maxHeartbeats 2000000 in
theorem drawn_c (w : World) : Calls Try.prog 29 #[] w fun e w' => e = .returned (.bool true) ∧ Below w.heap.size w w' := by
  obtain ⟨A1, c1, e1, _, hC⟩ := Kd.R_reads (lit_cm w w.heap.size [fillC] (Nat.le_refl _) (by decide))
  injection e1 with e1 e2 e3
  subst e1 e3
  have D := Lib.hid (Draw_c _ 1 1 [fillC] 2 1 _ hC (by decide) (by decide) (by decide) (by decide))
  have HB := Lib.hid (below_alloc (Below.refl w.heap.size w) (.cells (([fillC] : List Cm).flatMap cmV).toArray 65))
  clear hC e2
  go_enter Try.func29, Try.ntmps29
  go_wp2_with fail
  refine D.out.mono ?_
  rintro e w1 (⟨k, h1, _⟩ | ⟨out, v, h1, rfl, hO, hB1⟩)
  · rw [drawn_flat] at h1; cases h1
  · rw [drawn_flat] at h1
    injection h1 with h1
    subst h1
    rw [drawn_fact] at hO
    have HB1 := Lib.hid (below_then HB.out HB.out.size hB1)
    obtain ⟨g, cap, rfl, _, _⟩ := own_form hO (by decide)
    have hal := below_alloc (Below.refl w1.heap.size w1) (.cells #[.int .i64 255, .int .i64 4294967295] 3)
    have EQ := Lib.hid (eq_c _ w1.heap.size g w1.heap.size 2 cap 2 [255, 4294967295] (w1.alloc (.cells #[.int .i64 255, .int .i64 4294967295] 3)) (pw_own_below hO hal) ⟨rfl, .inr ⟨w1.heap.size, 2, #[.int .i64 255, .int .i64 4294967295], rfl, Nat.le_refl _, blk_new w1 _, by decide, by decide, rfl, rfl⟩⟩ (by decide))
    have HB2 := Lib.hid (below_then HB1.out HB1.out.size hal)
    clear hO hB1 hal D HB
    go_wp2_with fail
    refine EQ.out.mono ?_
    rintro e w2 ⟨rfl, rfl⟩
    go_wp2_with fail
    go_ret
    exact ⟨rfl, HB2.out⟩
end Go.Proofs.Ytfkgpkkjiolfpaa.Ras
