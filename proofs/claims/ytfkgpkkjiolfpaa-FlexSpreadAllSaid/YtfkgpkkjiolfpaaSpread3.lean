/- flex.Spread where something is free: between, around. -/
import Derived.Test.YtfkgpkkjiolfpaaSpread2
namespace Go.Proofs.Ytfkgpkkjiolfpaa.Spd
open Go.RowKit Go.Lib Go.Proofs.Ytfkgpkkjiolfpaa.Rgn Go.Proofs.Ytfkgpkkjiolfpaa.Flx Go.Proofs.Ytfkgpkkjiolfpaa.Pl Go.Proofs.Ytfkgpkkjiolfpaa.Fx Go.Proofs.Ytfkgpkkjiolfpaa.Sh Go.Proofs.Ytfkgpkkjiolfpaa.Sm Go.Proofs.YtfkgpkkjiolfpaaW.PrintWords Go.Proofs.YtfkgpkkjiolfpaaW.PrintLast Go.Proofs.YtfkgpkkjiolfpaaW.PrintMore
set_option linter.unusedVariables false
set_option linter.unusedSimpArgs false
attribute [local go_sem] mx2 mn2 mx_two mn_two mx_three mn_three

theorem splice_tail (n : Nat) (xs : List Int) (hn : 0 < n) (hx : xs.length = n - 1) : splice (nums .i64 (List.replicate n 0)) 1 (nums .i64 xs) = nums .i64 (0 :: xs) := by
  obtain ⟨m, rfl⟩ : ∃ m, n = m + 1 := ⟨n - 1, by omega⟩
  have e : xs.length = m := by omega
  simp [splice, nums, List.replicate_succ, e]
  omega
set_option maxRecDepth 100000 in
set_option maxHeartbeats 1000000 in
theorem Spread_pB (mode free : Int) (n : Nat) (w : World) (hn : n ≤ 500) (hf : ¬ cut free ≤ 0) (h0 : n ≠ 0) (h4 : mode = 4) :
    Calls Try.prog 23 #[.int .i64 mode, .int .i64 free, .int .i64 (n : Int)] w (SprPost mode free n w) := by
  have hsp : spreadP mode free n = 0 :: share (cut free) (List.replicate (n - 1) 1) := by unfold spreadP; simp only [modeP_p hf]; subst h4; simp [h0]
  have SP := Lib.hid hsp
  have n1 : decide ((n : Int) < 0) = false := decide_eq_false (by omega)
  have n2 : decide ((500 : Int) < (n : Int)) = false := decide_eq_false (by omega)
  have hmk := print_make (P := Try.prog) 33 3 .i64 8 Try.underlying33 info (by decide) n (by omega)
  have N0 := Lib.hid (show 0 < n by omega)
  have z0 : ((n : Int) == 0) = false := by simp; omega
  subst h4
  have nf : decide (cut free ≤ 0) = false := decide_eq_false hf
  clear hsp hf h0
  go_enter Try.func23, Try.ntmps23
  go_wp2_with fail
  refine (Cut_c free _).mono ?_
  rintro e W1 ⟨rfl, hw⟩
  have hS := spw_mk w free n hn
  rw [hw] at hS
  have c0 := hS.c0
  have f0 := hS.f0
  have s0 := hS.s
  have S2 := Lib.hid (spw_set hS (cut free))
  have hWd : (W1.setCell ⟨w.heap.size, 0, none⟩ (.int .i64 (cut free))).heap.size = w.heap.size + 2 := (spw_set hS (cut free)).s
  clear hS hw hmk
  have K2 := Lib.hid S2.out.k
  have B2 := Lib.hid S2.out.b
  have C2 := Lib.hid S2.out.c0
  go_wp2_with fail
  generalize W1.setCell ⟨w.heap.size, 0, none⟩ (.int .i64 (cut free)) = W2 at *
  have s1 : (1 : Int) ≤ (n : Int) := by have := N0.out; omega
  obtain ⟨ap, hap, hsl⟩ : ∃ ap : Option Addr, (0 < n - 1 → ap = some ⟨w.heap.size + 1, 1, none⟩) ∧ ap = (if n = 1 then some ⟨w.heap.size + 1, 0, none⟩ else some ⟨w.heap.size + 1, 1, none⟩) := ⟨_, fun h => if_neg (by omega), rfl⟩
  have AP := Lib.hid hap
  refine wp_region_held_drew (S := fun _ => True) (by kernel_rfl) trivial (fun hHeld => ?_)
  clear hap
  refine wpAnyH_take (i := 0) (v := .slice (some ⟨w.heap.size + 1, 0, none⟩) n n) rfl (by kernel_rfl) (by kernel_rfl) (by kernel_rfl) (fun _ _ _ h => h) (y_move (by rfl) rfl rfl) hHeld ?_
  try simp only [Act.put, List.getElem_toArray, List.getElem_cons_succ, List.getElem_cons_zero, List.setIfInBounds_toArray, List.set_cons_zero, List.set_cons_succ]
  refine wpAnyH_take (i := 1) (v := .slice ap (n - 1) (n - 1)) rfl (by kernel_rfl) (by kernel_rfl) (by kernel_rfl) (fun _ _ _ h => h) (y_run (by rfl) (fun w _ => by unfold execOp; rw [hsl]; clear hsl; go_simp)) hHeld ?_
  try simp only [Act.put, List.getElem_toArray, List.getElem_cons_succ, List.getElem_cons_zero, List.setIfInBounds_toArray, List.set_cons_zero, List.set_cons_succ]
  clear hsl
  refine wpAnyH_take (i := 2) (v := .func (.func 52) #[] #[.pointer (some ⟨w.heap.size, 0, none⟩)]) rfl (by kernel_rfl) (by kernel_rfl) (by kernel_rfl) (fun _ _ _ h => h) (y_move (by rfl) rfl rfl) hHeld ?_
  try simp only [Act.put, List.getElem_toArray, List.getElem_cons_succ, List.getElem_cons_zero, List.setIfInBounds_toArray, List.set_cons_zero, List.set_cons_succ]
  refine wpAnyH_take (i := 3) (v := .int .i64 (n : Int)) rfl (by kernel_rfl) (by kernel_rfl) (by kernel_rfl) (fun _ _ _ h => h) (y_move (by rfl) rfl rfl) hHeld ?_
  try simp only [Act.put, List.getElem_toArray, List.getElem_cons_succ, List.getElem_cons_zero, List.setIfInBounds_toArray, List.set_cons_zero, List.set_cons_succ]
  refine wpAnyH_take (i := 4) (v := .int .i64 ((n - 1 : Nat) : Int)) rfl (by kernel_rfl) (by kernel_rfl) (by kernel_rfl) (fun _ _ _ h => h) (y_sub (by rfl) rfl rfl rfl (by omega) (by omega) (by omega)) hHeld ?_
  try simp only [Act.put, List.getElem_toArray, List.getElem_cons_succ, List.getElem_cons_zero, List.setIfInBounds_toArray, List.set_cons_zero, List.set_cons_succ]
  refine wpAnyH_ready (rs := [5]) (by kernel_rfl) (by simp) ?_
  refine AllReadyH.cons rfl (fun K hK => ?_) AllReadyH.nil
  try simp only [Act.put, List.getElem_toArray, List.getElem_cons_succ, List.getElem_cons_zero, List.setIfInBounds_toArray, List.set_cons_zero, List.set_cons_succ]
  go_simp
  refine (ones_c ⟨w.heap.size, 0, none⟩ (cut free) (n - 1) W2.drew C2.out (by omega)).mono ?_
  rintro e w1 ⟨v, rfl, hO, hB⟩
  obtain ⟨A, c, rfl, hrd⟩ := own_reads hO
  have hpl : w.heap.size < W2.drew.heap.size := by show w.heap.size < W2.heap.size; omega
  have K3 := Lib.hid (blk_below (w := W2.drew) K2.out hB)
  have B3 := Lib.hid (below_then B2.out.drew (Nat.le_of_lt hpl) hB)
  have hxl : (share (cut free) (List.replicate (n - 1) 1)).length = n - 1 := by rw [share_len, List.length_replicate]
  have RD := Lib.hid hrd
  clear hO hB hpl hrd
  refine hK.out _ _ trivial (fun hHeld => ?_)
  clear hK K
  try simp only [Act.put, List.getElem_toArray, List.getElem_cons_succ, List.getElem_cons_zero, List.setIfInBounds_toArray, List.set_cons_zero, List.set_cons_succ]
  generalize share (cut free) (List.replicate (n - 1) 1) = xs at *
  refine wpAnyH_ready (rs := [6]) (by kernel_rfl) (by simp) ?_
  refine AllReadyH.cons rfl (fun K hK => ?_) AllReadyH.nil
  try simp only [Act.put, List.getElem_toArray, List.getElem_cons_succ, List.getElem_cons_zero, List.setIfInBounds_toArray, List.set_cons_zero, List.set_cons_succ]
  have hsrc : 0 < (nums .i64 xs).length → ap = some ⟨w.heap.size + 1, 1, none⟩ ∧ ∃ ad, A = some ad ∧ ∀ (j : Nat) (v : Value), (nums .i64 xs)[j]? = some v → w1.cell? (ad.add j) = some v := fun h => by
    have hl0 : (nums .i64 xs).length = n - 1 := by simp [nums, hxl]
    rw [hl0] at h
    obtain ⟨_, _, hc⟩ := RD.out
    obtain ⟨ad, e1, hc2⟩ := hc h
    refine ⟨AP.out h, ad, e1, fun j v hj => ?_⟩
    have hj2 := (List.getElem?_eq_some_iff.1 hj).1
    rw [hl0] at hj2
    have := hc2 j hj2
    rw [this, ← hj]
    simp [nums, List.getD_eq_getElem?_getD, hxl, hj2]
  have hlen : (nums .i64 xs).length = Nat.min (n - 1) (n - 1) := by rw [show Nat.min (n - 1) (n - 1) = n - 1 from Nat.min_self _]; simp [nums, hxl]
  have hfit : 1 + (nums .i64 xs).length ≤ (nums .i64 (List.replicate n 0)).length := by have := N0.out; simp [nums, hxl]; omega
  refine step_copy_splice (o := { dst := some 54, op := .call { callee := .builtin .copy, args := #[.tmp 49, .tmp 53], argTypes := #[33, 33] }, type := 3, pos := "flex.go:185", after := #[{ on := 1, ground := .data }, { on := 5, ground := .data }, { on := 5, ground := .chain }], guard := none }) (w0 := w) rfl (.tmp 49) (.tmp 53) 33 33 rfl 3 Try.underlying33 (by kernel_rfl) ap A (n - 1) (n - 1) (n - 1) c ?_ ?_ (w.heap.size + 1) 1 (nums .i64 (List.replicate n 0)) 3 K3.out (nums .i64 xs) hlen hsrc hfit (by intro v hv; simp [nums] at hv; obtain ⟨x, _, rfl⟩ := hv; rfl) w.heap.size B3.out (by omega) ?_
  · rfl
  · rfl
  intro w2 hw2 hb2
  rw [splice_tail n xs N0.out hxl] at hw2
  have hO2 := own_of_blk (base := w.heap.size) (n := n) hw2.out (by have := N0.out; simp [hxl]; omega) (by omega) (by omega)
  have POST : Hid (SprPost 4 free n w (.returned (.slice (some ⟨w.heap.size + 1, 0, none⟩) n n)) w2) := Lib.hid ⟨_, rfl, by rw [SP.out]; exact hO2, hb2⟩
  clear hO2 hb2 hw2 hsrc hlen hfit
  refine hK.out _ _ trivial (fun hHeld => ?_)
  clear hK K
  try simp only [Act.put, List.getElem_toArray, List.getElem_cons_succ, List.getElem_cons_zero, List.setIfInBounds_toArray, List.set_cons_zero, List.set_cons_succ]
  refine wpAnyH_done (by kernel_rfl) ?_ _
  clear hHeld
  go_wp2_with fail
  go_ret
  exact POST.out
theorem share_part_bd (fr : Int) (ws_ : List Int) (k : Nat) : -33554432 ≤ (share fr ws_).getD k 0 ∧ (share fr ws_).getD k 0 ≤ 33554432 := by
  unfold share
  split
  · simp [List.getD_eq_getElem?_getD, List.getElem?_replicate]
    split <;> simp
  · rename_i hz
    have hp : 0 < ws ws_ ws_.length := by have := (ws_bd ws_ ws_.length).1; omega
    by_cases hk : k < ws_.length
    · have h1 := upto_bd fr ws_ k (by omega) hp
      have h2 := upto_bd fr ws_ (k + 1) (by omega) hp
      simp [List.getD_eq_getElem?_getD, hk]
      omega
    · rw [List.getD_eq_getElem?_getD, List.getElem?_eq_none (by simp; omega)]
      simp
theorem around_bd (ps : List Int) (n : Nat) (hp : ∀ k, -33554432 ≤ ps.getD k 0 ∧ ps.getD k 0 ≤ 33554432) : ∀ (i j : Nat), -33554432 * (i : Int) ≤ (aroundP ps n i).getD j 0 ∧ (aroundP ps n i).getD j 0 ≤ 33554432 * (i : Int) := by
  intro i
  induction i with
  | zero => intro j; rw [aroundP, zero_get]; simp
  | succ i ih =>
    intro j
    have h1 := ih j
    have h2 := ih ((i + 1) / 2)
    have h3 := hp i
    rw [aroundP]
    unfold addAt
    by_cases e : (i + 1) / 2 = j
    · by_cases hl : j < (aroundP ps n i).length
      · rw [List.getD_eq_getElem?_getD, List.getElem?_set, if_pos e, if_pos (by omega)]
        simp only [Option.getD_some]
        omega
      · rw [List.getD_eq_getElem?_getD, List.getElem?_set, if_pos e, if_neg (by omega)]
        simp
        omega
    · rw [List.getD_eq_getElem?_getD, List.getElem?_set, if_neg e, ← List.getD_eq_getElem?_getD]
      omega
set_option maxRecDepth 100000 in
set_option maxHeartbeats 1000000 in
theorem Spread_pA (mode free : Int) (n : Nat) (w : World) (hn : n ≤ 500) (hf : ¬ cut free ≤ 0) (h0 : n ≠ 0) (h5 : mode = 5) :
    Calls Try.prog 23 #[.int .i64 mode, .int .i64 free, .int .i64 (n : Int)] w (SprPost mode free n w) := by
  have hsp : spreadP mode free n = aroundP (share (cut free) (List.replicate (2 * n) 1)) n (2 * n - 1) := by unfold spreadP; simp only [modeP_p hf]; subst h5; simp [h0]
  have SP := Lib.hid hsp
  have n1 : decide ((n : Int) < 0) = false := decide_eq_false (by omega)
  have n2 : decide ((500 : Int) < (n : Int)) = false := decide_eq_false (by omega)
  have hmk := print_make (P := Try.prog) 33 3 .i64 8 Try.underlying33 info (by decide) n (by omega)
  have N0 := Lib.hid (show 0 < n by omega)
  have z0 : ((n : Int) == 0) = false := by simp; omega
  subst h5
  have nf : decide (cut free ≤ 0) = false := decide_eq_false hf
  clear hsp hf h0
  go_enter Try.func23, Try.ntmps23
  go_wp2_with fail
  refine (Cut_c free _).mono ?_
  rintro e W1 ⟨rfl, hw⟩
  have hS := spw_mk w free n hn
  rw [hw] at hS
  have c0 := hS.c0
  have f0 := hS.f0
  have s0 := hS.s
  have S2 := Lib.hid (spw_set hS (cut free))
  have hWd : (W1.setCell ⟨w.heap.size, 0, none⟩ (.int .i64 (cut free))).heap.size = w.heap.size + 2 := (spw_set hS (cut free)).s
  clear hS hw hmk
  have O2 := Lib.hid S2.out.o
  have B2 := Lib.hid S2.out.b
  have C2 := Lib.hid S2.out.c0
  go_wp2_with fail
  generalize W1.setCell ⟨w.heap.size, 0, none⟩ (.int .i64 (cut free)) = W2 at *
  clear c0 f0 s0 S2
  rw [show (2 * (n : Int)) = ((2 * n : Nat) : Int) by omega]
  refine (ones_c ⟨w.heap.size, 0, none⟩ (cut free) (2 * n) W2 C2.out (by omega)).mono ?_
  rintro e w1 ⟨v, rfl, hO, hB⟩
  have hn0 := N0.out
  obtain ⟨g, cp, rfl, hg, hgl⟩ := own_form hO (by omega)
  have hcp := own_cap hO
  have hxl : (share (cut free) (List.replicate (2 * n) 1)).length = 2 * n := by rw [share_len, List.length_replicate]
  have hpb := share_part_bd (cut free) (List.replicate (2 * n) 1)
  generalize share (cut free) (List.replicate (2 * n) 1) = ps at *
  have XL := Lib.hid hxl
  have AB := Lib.hid (around_bd ps n hpb)
  have PB := Lib.hid hpb
  have OP := Lib.hid hO
  have OW := Lib.hid (pw_own_below O2.out hB)
  have BW := Lib.hid (below_then B2.out (by omega) hB)
  have hw1 := hB.size
  rw [hWd] at hg
  clear hO hB hxl hpb
  go_wp2_with fail
  have hz : aroundP ps n 0 = List.replicate n 0 := rfl
  have HZ := Lib.hid hz
  clear hz hn0
  go_loopw [67] (fun i wr => ∃ k : Nat, k ≤ 2 * n - 1 ∧ i = .int .i64 k ∧ Hid (wr.ownsRow (w.heap.size + 1) 3 1 (.slice (some ⟨w.heap.size + 1, 0, none⟩) n n) n (nums .i64 (aroundP ps n k))) ∧ Hid (wr.ownsRow W2.heap.size 3 1 (.slice (some ⟨g, 0, none⟩) (2 * n) cp) (2 * n) (nums .i64 ps)) ∧ Hid (Below w.heap.size w wr)) (fun i _ => 2 * n - (RowKit.intOf i).toNat)
  case atStart => exact ⟨0, by omega, rfl, by rw [HZ.out]; exact OW.out, OP.out, BW.out⟩
  case round =>
    obtain ⟨k, hk, rfl, hO, hP, hB⟩ := hrel
    by_cases hlt : k < 2 * n - 1
    · have e1 : (((k : Int) + 1) / 2).toNat = (k + 1) / 2 := by omega
      obtain ⟨y1, y2⟩ := own_at hP.out (k : Int) (by omega) (by omega)
      rw [Int.toNat_natCast] at y1 y2
      obtain ⟨x1, x2⟩ := own_at hO.out (((k : Int) + 1) / 2) (by omega) (by omega)
      rw [e1] at x1 x2
      have hr1 : rd ps (k : Int) = ps.getD k 0 := by simp [rd]
      have hr2 : rd (aroundP ps n k) (((k : Int) + 1) / 2) = (aroundP ps n k).getD ((k + 1) / 2) 0 := by unfold rd; rw [e1]
      rw [hr1] at y1
      rw [hr2] at x1
      have q1 := PB.out k
      have q2 := AB.out k ((k + 1) / 2)
      have hst := (own_store hO.out (((k : Int) + 1) / 2) ((aroundP ps n k).getD ((k + 1) / 2) 0 + ps.getD k 0)).1
      rw [e1] at hst
      have hse : (aroundP ps n k).set ((k + 1) / 2) ((aroundP ps n k).getD ((k + 1) / 2) 0 + ps.getD k 0) = aroundP ps n (k + 1) := rfl
      rw [hse] at hst
      have ST := Lib.hid hst
      have SP2 := Lib.hid (own_setCell hP.out (p := ⟨w.heap.size + 1, (k + 1) / 2, none⟩) (by simp [Value.ownBlock]; omega) (.int .i64 ((aroundP ps n k).getD ((k + 1) / 2) 0 + ps.getD k 0)))
      have SB := Lib.hid (hB.out.setCell (p := ⟨w.heap.size + 1, (k + 1) / 2, none⟩) (by show w.heap.size ≤ w.heap.size + 1; omega) (.int .i64 ((aroundP ps n k).getD ((k + 1) / 2) 0 + ps.getD k 0)))
      generalize (aroundP ps n k).getD ((k + 1) / 2) 0 = a0 at *
      generalize ps.getD k 0 = b0 at *
      clear hst hse hr1 hr2 e1
      go_wp2_with fail
      go_roundw
      case rel => exact ⟨k + 1, by omega, by go_num, ST.out, SP2.out, SB.out⟩
      case measure => simp [RowKit.intOf]; omega
    · obtain rfl : k = 2 * n - 1 := by omega
      have POST : Hid (SprPost 5 free n w (.returned (.slice (some ⟨w.heap.size + 1, 0, none⟩) n n)) wr) := Lib.hid ⟨_, rfl, by rw [SP.out]; exact own_weaken hO.out (by omega), hB.out⟩
      go_wp2_with fail
      go_ret
      exact POST.out

theorem Spread_c (mode free : Int) (n : Nat) (w : World) (hn : n ≤ 500) :
    Calls Try.prog 23 #[.int .i64 mode, .int .i64 free, .int .i64 (n : Int)] w (SprPost mode free n w) := by
  by_cases hf : cut free ≤ 0
  · by_cases h4 : mode = 4
    · by_cases h0 : n = 0
      · exact Spread_z40 mode free n w hn hf h4 h0
      · exact Spread_z4O mode free n w hn hf h4 h0
    · by_cases h5 : mode = 5
      · by_cases h0 : n = 0
        · exact Spread_z50 mode free n w hn hf h5 h0
        · exact Spread_z5C mode free n w hn hf h5 h0
      · by_cases h0 : n = 0
        · exact Spread_zz0 mode free n w hn hf h4 h5 h0
        · by_cases h1 : mode = 1
          · exact Spread_zzE mode free n w hn hf h4 h5 h0 h1
          · by_cases h2 : mode = 2
            · exact Spread_zzC mode free n w hn hf h4 h5 h0 h2
            · exact Spread_zzO mode free n w hn hf h4 h5 h0 h1 h2
  · by_cases h0 : n = 0
    · exact Spread_p0 mode free n w hn hf h0
    · by_cases h1 : mode = 1
      · exact Spread_pE mode free n w hn hf h0 h1
      · by_cases h2 : mode = 2
        · exact Spread_pC mode free n w hn hf h0 h2
        · by_cases h4 : mode = 4
          · exact Spread_pB mode free n w hn hf h0 h4
          · by_cases h5 : mode = 5
            · exact Spread_pA mode free n w hn hf h0 h5
            · exact Spread_pO mode free n w hn hf h0 h1 h2 h4 h5
end Go.Proofs.Ytfkgpkkjiolfpaa.Spd
