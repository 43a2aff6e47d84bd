/- fix.Share: what is shared out by weights. -/
import Derived.Test.YtmkgapdadandmaaFix
import Derived.Test.YtmkgapdadandmaaWWords
import Derived.Test.YtmkgapdadandmaaWMore
namespace Go.Proofs.Ytmkgapdadandmaa.Sh
open Go.RowKit Go.Proofs.Ytmkgapdadandmaa.Pl Go.Proofs.Ytmkgapdadandmaa.Fx Go.Proofs.YtmkgapdadandmaaW.PrintWords Go.Proofs.YtmkgapdadandmaaW.PrintMore
set_option linter.unusedVariables false
set_option linter.unusedSimpArgs false
attribute [local go_sem] mx2 mn2 mx_two mn_two mx_three mn_three

/-- The weight at a place; the sum of those ahead of a place; what is told up to a place; the parts. -/
def wt (xs : List Int) (k : Nat) : Int := if 1000 ≤ k then 0 else max 0 (cut (xs.getD k 0))
def ws (xs : List Int) : Nat → Int
  | 0 => 0
  | k + 1 => ws xs k + wt xs k
def upto (n : Int) (xs : List Int) (k : Nat) : Int := cut n * ws xs k / ws xs xs.length
def share (n : Int) (xs : List Int) : List Int := if ws xs xs.length = 0 then List.replicate xs.length 0 else (List.range xs.length).map fun k => upto n xs (k + 1) - upto n xs k

theorem wt_bd (xs : List Int) (k : Nat) : 0 ≤ wt xs k ∧ wt xs k ≤ 16777216 := by
  unfold wt
  have := cut_bd (xs.getD k 0)
  split <;> omega
theorem ws_bd (xs : List Int) (k : Nat) : 0 ≤ ws xs k ∧ ws xs k ≤ 16777216000 ∧ ws xs k ≤ 16777216 * k := by
  have key : ∀ k : Nat, 0 ≤ ws xs k ∧ ws xs k ≤ 16777216 * (min k 1000 : Nat) := by
    intro k
    induction k with
    | zero => simp [ws]
    | succ k ih =>
      have h1 := wt_bd xs k
      by_cases h : 1000 ≤ k
      · have h0 : wt xs k = 0 := by unfold wt; rw [if_pos h]
        rw [ws, h0]
        omega
      · rw [ws]
        omega
  have := key k
  omega
theorem ws_mono (xs : List Int) {i j : Nat} (h : i ≤ j) : ws xs i ≤ ws xs j := by
  induction j with
  | zero => have : i = 0 := by omega
            rw [this]; exact Int.le_refl _
  | succ j ih =>
    by_cases hi : i = j + 1
    · rw [hi]; exact Int.le_refl _
    · have := ih (by omega)
      have := wt_bd xs j
      rw [ws]
      omega

set_option maxHeartbeats 400000 in
theorem weight_c (W : World) (p : Addr) (A : Option Addr) (n c k : Nat) (xs : List Int) (hp : W.cell? p = some (.slice A n c)) (hr : ReadsInt W .i64 A n xs) (hk : k < n) :
    Calls Try.prog 67 #[.int .i64 (k : Int), .pointer (some p)] W fun e w' => e = .returned (.int .i64 (wt xs k)) ∧ W = w' := by
  obtain ⟨hl, hn, hc⟩ := hr
  by_cases h : 1000 ≤ k
  · have e1 : wt xs k = 0 := by unfold wt; rw [if_pos h]
    have E1 := Lib.hid e1
    have h' : decide ((1000 : Int) ≤ (k : Int)) = true := by simp; omega
    clear e1 hc hl h
    go_enter Try.func67, Try.ntmps67
    go_wp2
    go_ret
    exact ⟨by rw [E1.out]; rfl, rfl⟩
  · obtain ⟨ad, rfl, hcell⟩ := hc (by omega)
    have hx := hcell k hk
    have e1 : wt xs k = max 0 (cut (xs.getD k 0)) := by unfold wt; rw [if_neg h]
    have E1 := Lib.hid e1
    have h' : decide ((1000 : Int) ≤ (k : Int)) = false := by simp; omega
    clear e1 hl hcell hc h
    generalize xs.getD k 0 = x at *
    go_enter Try.func67, Try.ntmps67
    go_wp2_with (go_at_call 17; refine (Cut_c _ _).mono ?_; rintro e w' ⟨rfl, rfl⟩)
    go_ret
    exact ⟨by rw [E1.out]; rfl, rfl⟩

theorem share1_c (n s a : Int) (w : World) (h1 : -16777216 ≤ n) (h2 : n ≤ 16777216) (h3 : 0 ≤ s) (h4 : s ≤ 16777216000) (h5 : 0 < a) :
    Calls Try.prog 68 #[.int .i64 n, .int .i64 s, .int .i64 a] w fun e w' => e = .returned (.int .i64 (n * s / a)) ∧ w = w' := by
  have hm := mul_bd h1 h2 (show -16777216000 ≤ s by omega) h4
  have hw : wrap64 (n * s) = n * s := wrap_id (by omega) (by omega)
  have l1 : -9000000000000000000 ≤ n * s := by omega
  have l2 : n * s ≤ 9000000000000000000 := by omega
  clear hm
  go_enter Try.func68, Try.ntmps68
  go_wp2_with (go_at_call 59; refine (floor_c _ _ _ h5 l1 l2).mono ?_; rintro e w' ⟨rfl, rfl⟩)
  go_ret
  exact ⟨rfl, rfl⟩

/-- The parts up to a place, none behind it. -/
def some_ (n : Int) (xs : List Int) (k : Nat) : List Int := (List.range xs.length).map fun j => if j < k then upto n xs (j + 1) - upto n xs j else 0
theorem some_zero (n : Int) (xs : List Int) : some_ n xs 0 = List.replicate xs.length 0 := by
  unfold some_
  apply List.ext_getElem
  · simp
  · intro i h1 h2; simp
theorem some_all (n : Int) (xs : List Int) : some_ n xs xs.length = (List.range xs.length).map fun k => upto n xs (k + 1) - upto n xs k := by
  unfold some_
  apply List.map_congr_left
  intro j hj
  rw [if_pos (List.mem_range.1 hj)]
theorem some_set (n : Int) (xs : List Int) (k : Nat) (hk : k < xs.length) : (some_ n xs k).set k (upto n xs (k + 1) - upto n xs k) = some_ n xs (k + 1) := by
  unfold some_
  apply List.ext_getElem
  · simp
  · intro i h1 h2
    simp only [List.getElem_set, List.getElem_map, List.getElem_range]
    by_cases h : k = i
    · subst h; simp
    · rw [if_neg h]
      by_cases h3 : i < k
      · rw [if_pos h3, if_pos (by omega)]
      · rw [if_neg h3, if_neg (by omega)]
theorem some_len (n : Int) (xs : List Int) (k : Nat) : (some_ n xs k).length = xs.length := by simp [some_]
theorem upto_bd (n : Int) (xs : List Int) (k : Nat) (hk : k ≤ xs.length) (ha : 0 < ws xs xs.length) : -16777216 ≤ upto n xs k ∧ upto n xs k ≤ 16777216 := by
  have hb := cut_bd n
  have h1 := ws_bd xs k
  have h2 := ws_mono xs hk
  unfold upto
  constructor
  · rw [Int.le_ediv_iff_mul_le ha]
    have e1 : -16777216 * ws xs xs.length ≤ -16777216 * ws xs k := Int.mul_le_mul_of_nonpos_left (by omega) h2
    have e2 : -16777216 * ws xs k ≤ cut n * ws xs k := Int.mul_le_mul_of_nonneg_right hb.1 h1.1
    omega
  · have e1 : 16777216 * ws xs k ≤ 16777216 * ws xs xs.length := Int.mul_le_mul_of_nonneg_left h2 (by omega)
    have e2 : cut n * ws xs k ≤ 16777216 * ws xs k := Int.mul_le_mul_of_nonneg_right hb.2 h1.1
    have e3 : cut n * ws xs k ≤ 16777216 * ws xs xs.length := by omega
    have e4 := ediv_mono ha e3
    rw [Int.mul_ediv_cancel _ (by omega)] at e4
    exact e4

theorem info : (Try.prog.info? 3).map (fun i => (i.zero, i.size, i.bytes)) = some (some (.int .i64 0), 1, 8) := by kernel_rfl

set_option maxHeartbeats 1000000 in
theorem Share_c (n : Int) (w : World) (A : Option Addr) (m c : Nat) (xs : List Int) (hr : ReadsInt w .i64 A m xs) (hm : m * 8 ≤ 140737488351232) :
    Calls Try.prog 58 #[.int .i64 n, .slice A m c] w fun e w' => ∃ v, e = .returned v ∧ w'.ownsRow w.heap.size 3 1 v m (nums .i64 (share n xs)) ∧ Below w.heap.size w w' := by
  have hl : xs.length = m := hr.1
  have HR := Lib.hid hr
  have HL := Lib.hid hl
  have hmk := print_make (P := Try.prog) 100 3 .i64 8 Try.underlying100 info (by decide) m (by omega)
  have hcb := cut_bd n
  clear hr hl
  go_enter Try.func58, Try.ntmps58
  go_wp2_with (go_at_call 17; refine (Cut_c _ _).mono ?_; rintro e w' ⟨rfl, rfl⟩)
  have h1 : ((w.alloc (.cells #[.slice A m c] 100)).alloc (.cells (madeCells #[.int .i64 0] m) 3)).cell? ⟨w.heap.size, 0, none⟩ = some (.slice A m c) := by
    rw [Below.cell (below_alloc (Below.refl (w.alloc (.cells #[.slice A m c] 100)).heap.size _) _) (by simp)]
    simp
  have h2 : Below w.heap.size w ((w.alloc (.cells #[.slice A m c] 100)).alloc (.cells (madeCells #[.int .i64 0] m) 3)) := below_alloc (below_alloc (Below.refl _ _) _) _
  have h3 := own_made (w.alloc (.cells #[.slice A m c] 100)) (w.heap.size + 1) 3 .i64 m (by simp) (by omega)
  have h4 : w.heap.size + 2 ≤ ((w.alloc (.cells #[.slice A m c] 100)).alloc (.cells (madeCells #[.int .i64 0] m) 3)).heap.size := by simp
  rw [World.size_alloc] at h3
  generalize (w.alloc (.cells #[.slice A m c] 100)).alloc (.cells (madeCells #[.int .i64 0] m) 3) = W at *
  have H1 := Lib.hid h1
  have H2 := Lib.hid h2
  have H3 := Lib.hid h3
  have H4 := Lib.hid h4
  clear h1 h2 h3 h4 hmk
  go_loopw [7, 21] (fun a i wr => ∃ k : Nat, k ≤ m ∧ i = .int .i64 k ∧ a = .int .i64 (ws xs k) ∧ Hid (wr = W)) (fun _ i _ => m - (intOf i).toNat)
  case atStart => exact ⟨0, Nat.zero_le _, rfl, rfl, rfl⟩
  case round =>
    obtain ⟨k, hk, rfl, rfl, hwr⟩ := hrel
    obtain rfl := hwr.out
    clear hwr
    have hbd := ws_bd xs k
    by_cases hlt : k < m
    · have hsn : ws xs (k + 1) = ws xs k + wt xs k := rfl
      have HS := Lib.hid hsn
      have hw1 := wt_bd xs k
      clear hsn
      go_wp2_with (go_at_call 67; refine (weight_c _ _ _ _ _ k xs H1.out (ReadsInt.below HR.out H2.out) hlt).mono ?_; rintro e w' ⟨rfl, rfl⟩)
      go_roundw
      case rel => exact ⟨k + 1, by omega, by go_num, by rw [HS.out], by first | exact rfl | exact trivial⟩
      case measure => simp [intOf]; omega
    · obtain rfl : k = m := by omega
      by_cases hz : ws xs k = 0
      · have hsh : share n xs = List.replicate k 0 := by unfold share; rw [HL.out, if_pos hz]
        have HSH := Lib.hid hsh
        have hz' : (ws xs k == 0) = true := by simp [hz]
        clear hsh hz
        go_wp2
        go_ret
        exact ⟨_, rfl, by rw [HSH.out]; exact own_weaken H3.out (by omega), H2.out⟩
      · have hz' : (ws xs k == 0) = false := by simp [hz]
        have hpos : 0 < ws xs xs.length := by rw [HL.out]; omega
        have h1 := H1.out
        clear hz
        go_wp2
        clear h1
        obtain ⟨W, rfl⟩ : ∃ W : World, W = wr := ⟨_, rfl⟩
        have hup0 : upto n xs 0 = 0 := by unfold upto; simp [ws]
        go_loopw [9, 10, 35] (fun a t i wz => ∃ j : Nat, j ≤ k ∧ i = .int .i64 j ∧ a = .int .i64 (ws xs j) ∧ t = .int .i64 (upto n xs j) ∧
            Hid (wz.ownsRow (w.heap.size + 1) 3 1 (.slice (some ⟨w.heap.size + 1, 0, none⟩) k k) k (nums .i64 (some_ n xs j))) ∧ Hid (Below (w.heap.size + 1) W wz)) (fun _ _ i _ => k - (intOf i).toNat)
        case atStart => exact ⟨0, Nat.zero_le _, rfl, rfl, by rw [hup0], by rw [some_zero, HL.out]; exact H3.out, Below.refl _ _⟩
        case round =>
          obtain ⟨j, hj, rfl, rfl, rfl, hO, hB⟩ := hrel
          have hbd2 := ws_bd xs j
          have hbd3 := ws_bd xs (j + 1)
          by_cases hlt2 : j < k
          · have hu1 := upto_bd n xs j (by rw [HL.out]; omega) hpos
            have hu2 := upto_bd n xs (j + 1) (by rw [HL.out]; omega) hpos
            have hsn : ws xs (j + 1) = ws xs j + wt xs j := rfl
            have HS := Lib.hid hsn
            have hw1 := wt_bd xs j
            have hup : upto n xs (j + 1) = cut n * (ws xs j + wt xs j) / ws xs k := by unfold upto; rw [HL.out]; rfl
            have HU := Lib.hid hup
            have hcl : wr.cell? ⟨w.heap.size, 0, none⟩ = some (.slice A k c) := (hB.out.cell (by simp)).trans H1.out
            have BW := Lib.hid (H2.out.trans (hB.out.mono (by omega)) : Below w.heap.size w wr)
            obtain ⟨hc1, hf1⟩ := own_at hO.out (j : Int) (by omega) (by omega)
            rw [Int.toNat_natCast] at hc1 hf1
            have H2z := hB.out.size
            have hst := (own_store hO.out (j : Int) (upto n xs (j + 1) - upto n xs j)).1
            rw [Int.toNat_natCast, some_set n xs j (by rw [HL.out]; omega)] at hst
            have HST := Lib.hid hst
            have hbs : Below (w.heap.size + 1) W (wr.setCell ⟨w.heap.size + 1, j, none⟩ (.int .i64 (upto n xs (j + 1) - upto n xs j))) := hB.out.setCell (by simp) _
            have HBS := Lib.hid hbs
            have hpos' : 0 < ws xs k := by rw [← HL.out]; exact hpos
            clear hsn hup hst hbs
            go_wp2_with (first
              | (go_at_call 67; refine (weight_c _ _ _ _ _ j xs hcl (ReadsInt.below HR.out BW.out) hlt2).mono ?_; rintro e w' ⟨rfl, rfl⟩)
              | (go_at_call 68; refine (share1_c _ _ _ _ hcb.1 hcb.2 (by omega) (by rw [← HS.out]; exact hbd3.2.1) hpos').mono ?_; rintro e w' ⟨rfl, rfl⟩; rw [← HU.out]))
            go_roundw
            case rel => exact ⟨j + 1, by omega, by go_num, by rw [HS.out], rfl, HST, HBS⟩
            case measure => simp [intOf]; omega
          · obtain rfl : j = k := by omega
            have hsh : share n xs = some_ n xs j := by unfold share; rw [if_neg (by omega), ← some_all, HL.out]
            have HSH := Lib.hid hsh
            clear hsh
            go_wp2
            go_ret
            exact ⟨_, rfl, by rw [HSH.out]; exact own_weaken hO.out (by omega), H2.out.trans (hB.out.mono (by omega))⟩

end Go.Proofs.Ytmkgapdadandmaa.Sh
