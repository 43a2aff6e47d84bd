/- slices.Repeat of one number. For every count up to 1000. -/
import Derived.Test.YtfkgpkkjiolfpaaShare
import Derived.Test.YtfkgpkkjiolfpaaShelf
import Derived.Test.YtfkgpkkjiolfpaaTabEq
import Derived.Laws.CopyOwn
import Derived.StillTailTactics
namespace Go.Proofs.Ytfkgpkkjiolfpaa.Spd
open Go.RowKit Go.Lib Go.Proofs.Ytfkgpkkjiolfpaa.Rgn Go.Proofs.Ytfkgpkkjiolfpaa.Tab Go.Proofs.Ytfkgpkkjiolfpaa.Pl Go.Proofs.Ytfkgpkkjiolfpaa.Fx Go.Proofs.Ytfkgpkkjiolfpaa.Sh Go.Proofs.YtfkgpkkjiolfpaaW.PrintWords Go.Proofs.YtfkgpkkjiolfpaaW.PrintLast Go.Proofs.YtfkgpkkjiolfpaaW.PrintMore
set_option linter.unusedVariables false
set_option linter.unusedSimpArgs false
attribute [local go_sem] mx2 mn2 mx_two mn_two mx_three mn_three

/-- A row of n: the first k of it are one. -/
def onesV (n k : Nat) : List Value := nums .i64 (List.replicate k 1 ++ List.replicate (n - k) 0)
theorem onesV_len (n k : Nat) (h : k ≤ n) : (onesV n k).length = n := by
  simp [onesV, nums]; omega
theorem made_ones (n : Nat) : madeCells #[Value.int .i64 0] n = (onesV n 0).toArray := by
  apply Array.toList_inj.1
  apply List.ext_getElem
  · simp [onesV, nums, madeCells]
  · intro i h1 h2
    simp [onesV, nums, madeCells, Nat.mod_one]
theorem splice_ones (n k c : Nat) (h : k + c ≤ n) : splice (onesV n k) k (nums .i64 (List.replicate c 1)) = onesV n (k + c) := by
  have e : n - k - c = n - (k + c) := by omega
  simp [splice, onesV, nums, List.take_append, List.drop_append, List.drop_eq_nil_of_le, ← List.append_assoc, List.replicate_append_replicate, e]

set_option maxRecDepth 100000 in
set_option maxHeartbeats 1000000 in
theorem Repeat_c (g n : Nat) (w : World) (hx : w.cell? ⟨g, 0, none⟩ = some (.int .i64 1)) (hn : n ≤ 1000) :
    Calls Try.prog 54 #[.slice (some ⟨g, 0, none⟩) 1 1, .int .i64 (n : Int)] w fun e w' => ∃ v, e = .returned v ∧ w'.ownsRow w.heap.size 3 1 v n (nums .i64 (List.replicate n 1)) ∧ Below w.heap.size w w' := by
  have hmul := Try.bits_Mul 1 n (by decide) (by omega) w
  rw [show 1 * n / 18446744073709551616 = 0 by omega, show 1 * n % 18446744073709551616 = n by omega] at hmul
  have MUL := Lib.hid hmul
  have n0 : decide ((n : Int) < 0) = false := decide_eq_false (by omega)
  have OM := Lib.hid (own_made w w.heap.size 3 .i64 n (Nat.le_refl _) (by omega))
  have hmk := print_make (P := Try.prog) 33 3 .i64 8 Try.underlying33 info (by decide) n (by omega)
  clear hmul
  go_enter Try.func54, Try.ntmps54
  go_wp2_with fail
  refine MUL.out.mono ?_
  rintro e w1 ⟨rfl, rfl⟩
  have hin : (n : Int) ≤ 9223372036854775807 := by omega
  have n2 : decide ((9223372036854775807 : Int) < (n : Int)) = false := decide_eq_false (by omega)
  have hgl : g < w1.heap.size := World.block_lt_of_cell? w1 _ hx
  have hblk : (w1.alloc (.cells (madeCells #[.int .i64 0] n) 3)).heap[w1.heap.size]? = some (.cells (onesV n 0).toArray 3 (0, 0)) := by rw [← made_ones]; exact blk_new w1 _
  have hx1 : (w1.alloc (.cells (madeCells #[.int .i64 0] n) 3)).cell? ⟨g, 0, none⟩ = some (.int .i64 1) := by rw [World.cell?_alloc_lt _ _ _ hgl]; exact hx
  have HBK := Lib.hid hblk
  have hsrc : ∀ (j : Nat) (v : Value), (nums .i64 (List.replicate (min 1 n) 1))[j]? = some v → (w1.alloc (.cells (madeCells #[.int .i64 0] n) 3)).cell? ((⟨g, 0, none⟩ : Addr).add j) = some v := fun j v hj => by
    have h1 : j = 0 := by
      have h2 := (List.getElem?_eq_some_iff.1 hj).1
      simp [nums] at h2
      omega
    subst h1
    simp [nums, List.getElem?_replicate] at hj
    rw [← hj.2]
    exact hx1
  have HSRC := Lib.hid hsrc
  clear hblk hx1 hsrc
  go_wp2_with ((with_reducible refine gate_builtin (b := .copy) (xs := #[.tmp 31, .tmp 32]) (ts := #[33, 33]) rfl ?_); go_loud (refine wpList_copy_splice (w0 := w1) rfl (.tmp 31) (.tmp 32) 33 33 rfl 3 Try.underlying33 (by kernel_rfl) (some ⟨w1.heap.size, 0, none⟩) (some ⟨g, 0, none⟩) n n 1 1 rfl rfl w1.heap.size 0 (onesV n 0) 3 HBK.out (nums .i64 (List.replicate (min 1 n) 1)) (by simp [nums]) (fun _ => ⟨rfl, _, rfl, HSRC.out⟩) (by rw [onesV_len n 0 (Nat.zero_le _)]; simp [nums]; omega) (by intro v hv; simp [nums] at hv; rw [hv.2]; rfl) w1.heap.size (below_alloc (Below.refl _ _) _) (Nat.le_refl _) ?_); intro w2 hw2 hb2; have W2 := Lib.hid hw2.out; have B2 := Lib.hid hb2; clear hw2 hb2)
  rw [splice_ones n 0 (min 1 n) (by omega), Nat.zero_add] at W2
  try simp only [goInt]
  obtain ⟨k0, hk0⟩ : ∃ k0, min 1 n = k0 := ⟨_, rfl⟩
  go_loopw [8] (fun i wr => ∃ k : Nat, k ≤ n ∧ (k < n → 1 ≤ k) ∧ i = .int .i64 k ∧ Hid (wr.heap[w1.heap.size]? = some (.cells (onesV n k).toArray 3 (0, 0))) ∧ Hid (Below w1.heap.size w1 wr)) (fun i _ => n - (RowKit.intOf i).toNat)
  case atStart => exact ⟨min 1 n, by omega, fun _ => by omega, by first | rfl | simp [onesV, nums], W2.out, B2.out⟩
  case round =>
    obtain ⟨k, hk, hk1, rfl, hW, hB⟩ := hrel
    by_cases hlt : k < n
    · have s1 : (0 : Int) ≤ (k : Int) ∧ (k : Int) ≤ (n : Int) := by omega
      go_wp2_with fail
      obtain ⟨gb, hgb⟩ : ∃ gb, w1.heap.size = gb := ⟨_, rfl⟩
      rw [hgb] at hW ⊢
      refine wp_region_held_drew (S := fun _ => True) (by kernel_rfl) trivial (fun hHeld => ?_)
      refine wpAnyH_take (i := 0) (v := .int .i64 (k : Int)) rfl (by kernel_rfl) (by kernel_rfl) (by kernel_rfl) (fun _ _ _ h => h) (y_move (by rfl) rfl rfl) hHeld ?_
      try simp only [Act.put, List.getElem_toArray, List.getElem_cons_succ, List.getElem_cons_zero, List.setIfInBounds_toArray, List.set_cons_zero, List.set_cons_succ]
      refine wpAnyH_take (i := 1) (v := .slice (some ⟨gb, 0, none⟩) n n) rfl (by kernel_rfl) (by kernel_rfl) (by kernel_rfl) (fun _ _ _ h => h) (y_move (by rfl) rfl rfl) hHeld ?_
      try simp only [Act.put, List.getElem_toArray, List.getElem_cons_succ, List.getElem_cons_zero, List.setIfInBounds_toArray, List.set_cons_zero, List.set_cons_succ]
      refine wpAnyH_take (i := 2) (v := .int .i64 (k : Int)) rfl (by kernel_rfl) (by kernel_rfl) (by kernel_rfl) (fun _ _ _ h => h) (y_move (by rfl) rfl rfl) hHeld ?_
      try simp only [Act.put, List.getElem_toArray, List.getElem_cons_succ, List.getElem_cons_zero, List.setIfInBounds_toArray, List.set_cons_zero, List.set_cons_succ]
      refine wpAnyH_take (i := 3) (v := .slice (some ⟨gb, k, none⟩) (n - k) (n - k)) rfl (by kernel_rfl) (by kernel_rfl) (by kernel_rfl) (fun _ _ _ h => h) (y_run (by rfl) (fun w _ => by unfold execOp; go_simp; try omega)) hHeld ?_
      try simp only [Act.put, List.getElem_toArray, List.getElem_cons_succ, List.getElem_cons_zero, List.setIfInBounds_toArray, List.set_cons_zero, List.set_cons_succ]
      refine wpAnyH_take (i := 4) (v := .slice (some ⟨gb, 0, none⟩) n n) rfl (by kernel_rfl) (by kernel_rfl) (by kernel_rfl) (fun _ _ _ h => h) (y_move (by rfl) rfl rfl) hHeld ?_
      try simp only [Act.put, List.getElem_toArray, List.getElem_cons_succ, List.getElem_cons_zero, List.setIfInBounds_toArray, List.set_cons_zero, List.set_cons_succ]
      refine wpAnyH_take (i := 5) (v := .int .i64 (k : Int)) rfl (by kernel_rfl) (by kernel_rfl) (by kernel_rfl) (fun _ _ _ h => h) (y_move (by rfl) rfl rfl) hHeld ?_
      try simp only [Act.put, List.getElem_toArray, List.getElem_cons_succ, List.getElem_cons_zero, List.setIfInBounds_toArray, List.set_cons_zero, List.set_cons_succ]
      refine wpAnyH_take (i := 6) (v := .slice (some ⟨gb, 0, none⟩) k n) rfl (by kernel_rfl) (by kernel_rfl) (by kernel_rfl) (fun _ _ _ h => h) (y_run (by rfl) (fun w _ => by unfold execOp; go_simp; try omega)) hHeld ?_
      try simp only [Act.put, List.getElem_toArray, List.getElem_cons_succ, List.getElem_cons_zero, List.setIfInBounds_toArray, List.set_cons_zero, List.set_cons_succ]
      refine wpAnyH_ready (rs := [7]) (by kernel_rfl) (by simp) ?_
      refine AllReadyH.cons rfl (fun K hK => ?_) AllReadyH.nil
      try simp only [Act.put, List.getElem_toArray, List.getElem_cons_succ, List.getElem_cons_zero, List.setIfInBounds_toArray, List.set_cons_zero, List.set_cons_succ]
      obtain ⟨cc, hcc⟩ : ∃ cc, min k (n - k) = cc := ⟨_, rfl⟩
      have hsrc : ∀ (j : Nat) (v : Value), (nums .i64 (List.replicate cc 1))[j]? = some v → wr.drew.cell? ((⟨gb, 0, none⟩ : Addr).add j) = some v := fun j v hj => by
        have h2 := (List.getElem?_eq_some_iff.1 hj).1
        simp [nums] at h2
        simp [nums, List.getElem?_replicate] at hj
        rw [← hj.2, Addr.add_mid, Nat.zero_add]
        show wr.cell? ⟨gb, j, none⟩ = _
        rw [blk_cell hW.out j]
        have hjk : j < k := by omega
        simp [onesV, nums, List.getElem?_append_left, hjk]
      have hWd : wr.drew.heap[gb]? = some (.cells (onesV n k).toArray 3 (0, 0)) := hW.out
      refine step_copy_splice (o := { dst := some 45, op := .call { callee := .builtin .copy, args := #[.tmp 41, .tmp 44], argTypes := #[33, 33] }, type := 3, pos := "slices.go:528", after := #[{ on := 3, ground := .data }, { on := 6, ground := .data }], guard := none }) (w0 := w1) rfl (.tmp 41) (.tmp 44) 33 33 rfl 3 Try.underlying33 (by kernel_rfl) (some ⟨gb, k, none⟩) (some ⟨gb, 0, none⟩) (n - k) (n - k) k n ?_ ?_ gb k (onesV n k) 3 hWd (nums .i64 (List.replicate cc 1)) (by simp [nums]; exact hcc.symm) (fun _ => ⟨rfl, _, rfl, hsrc⟩) (by rw [onesV_len n k hk]; simp [nums]; omega) (by intro v hv; simp [nums] at hv; rw [hv.2]; rfl) gb (by rw [← hgb]; exact hB.out.drew) (Nat.le_refl _) ?_
      · rfl
      · rfl
      intro w2 hw2 hb2
      rw [splice_ones n k cc (by omega)] at hw2
      have hle : (nums .i64 (List.replicate cc 1)).length = cc := by simp [nums]
      have W2 := Lib.hid hw2.out
      have B3 := Lib.hid hb2
      clear hw2 hb2 hsrc hWd
      refine hK.out _ _ trivial (fun hHeld => ?_)
      clear hK K
      rw [hle]
      try simp only [Act.put, List.getElem_toArray, List.getElem_cons_succ, List.getElem_cons_zero, List.setIfInBounds_toArray, List.set_cons_zero, List.set_cons_succ]
      refine wpAnyH_take (i := 8) (v := .int .i64 ((k : Int) + cc)) rfl (by kernel_rfl) (by kernel_rfl) (by kernel_rfl) (fun _ _ _ h => h) (y_add (by rfl) rfl rfl rfl rfl (by omega) (by omega)) hHeld ?_
      try simp only [Act.put, List.getElem_toArray, List.getElem_cons_succ, List.getElem_cons_zero, List.setIfInBounds_toArray, List.set_cons_zero, List.set_cons_succ]
      refine wpAnyH_take (i := 9) (v := .int .i64 ((k : Int) + cc)) rfl (by kernel_rfl) (by kernel_rfl) (by kernel_rfl) (fun _ _ _ h => h) (y_assign (by rfl) rfl rfl) hHeld ?_
      try simp only [Act.put, List.getElem_toArray, List.getElem_cons_succ, List.getElem_cons_zero, List.setIfInBounds_toArray, List.set_cons_zero, List.set_cons_succ]
      refine wpAnyH_done (by kernel_rfl) ?_ _
      clear hHeld
      subst hgb
      go_roundw
      case rel => (repeat apply Exists.intro); exact ⟨⟨k + cc, by omega, fun _ => by omega, by go_num, W2.out, B3.out⟩, rfl⟩
      case measure => simp [RowKit.intOf]; omega
    · obtain rfl : k = n := by omega
      have hO : wr.ownsRow w1.heap.size 3 1 (.slice (some ⟨w1.heap.size, 0, none⟩) k k) k (nums .i64 (List.replicate k 1)) := by
        refine ⟨by simp [nums], .inr ⟨w1.heap.size, k, _, rfl, Nat.le_refl _, hW.out, Nat.le_refl _, by simp only [maxLen]; omega, by simp [onesV, nums], ?_⟩⟩
        simp [onesV, nums]
      have O := Lib.hid hO
      clear hO
      go_wp2_with fail
      go_ret
      exact ⟨_, rfl, O.out, hB.out⟩
end Go.Proofs.Ytfkgpkkjiolfpaa.Spd
