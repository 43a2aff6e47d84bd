/- flex.Spread itself: every mode, every free room, up to 500 items. (Printed by wip/tools/gen_spread.py.) -/
import Derived.Test.YtfkgpkkjiolfpaaSpread
namespace Go.Proofs.Ytfkgpkkjiolfpaa.Spd
open Go.RowKit Go.Lib Go.Proofs.Ytfkgpkkjiolfpaa.Rgn Go.Proofs.Ytfkgpkkjiolfpaa.Flx Go.Proofs.Ytfkgpkkjiolfpaa.Pl Go.Proofs.Ytfkgpkkjiolfpaa.Fx Go.Proofs.Ytfkgpkkjiolfpaa.Sh Go.Proofs.YtfkgpkkjiolfpaaW.PrintWords Go.Proofs.YtfkgpkkjiolfpaaW.PrintLast Go.Proofs.YtfkgpkkjiolfpaaW.PrintMore
set_option linter.unusedVariables false
set_option linter.unusedSimpArgs false
attribute [local go_sem] mx2 mn2 mx_two mn_two mx_three mn_three

def SprPost (mode free : Int) (n : Nat) (w : World) (e : Ending) (w' : World) : Prop := ∃ v, e = .returned v ∧ w'.ownsRow w.heap.size 3 1 v n (nums .i64 (spreadP mode free n)) ∧ Below w.heap.size w w'
theorem modeP_z4 {mode free : Int} (hf : cut free ≤ 0) (hm : mode = 4) : modeP (cut free) mode = 0 := by unfold modeP; rw [if_pos hf, if_pos hm]
theorem modeP_z5 {mode free : Int} (hf : cut free ≤ 0) (hm : mode = 5) : modeP (cut free) mode = 2 := by subst hm; unfold modeP; rw [if_pos hf]; rfl
theorem modeP_zz {mode free : Int} (hf : cut free ≤ 0) (h4 : mode ≠ 4) (h5 : mode ≠ 5) : modeP (cut free) mode = mode := by unfold modeP; rw [if_pos hf, if_neg h4, if_neg h5]
theorem modeP_p {mode free : Int} (hf : ¬ cut free ≤ 0) : modeP (cut free) mode = mode := by unfold modeP; rw [if_neg hf]
theorem rep_ones (n : Nat) : onesV n 0 = nums .i64 (List.replicate n 0) := by simp [onesV]
theorem own_of_blk {W : World} {base g n : Nat} {xs : List Int} (h : W.heap[g]? = some (.cells (nums .i64 xs).toArray 3 (0, 0))) (hl : xs.length = n) (hb : base ≤ g) (hn : n ≤ 1000000) : W.ownsRow base 3 1 (.slice (some ⟨g, 0, none⟩) n n) n (nums .i64 xs) := by
  refine ⟨by simp [nums, hl], .inr ⟨g, n, _, rfl, hb, h, Nat.le_refl _, by simp only [maxLen]; omega, by simp [nums, hl], ?_⟩⟩
  simp only [nums]
  exact List.take_of_length_le (by simp [hl])
/-- The worlds of the walk: what lies at the store of the free room. -/
structure Spw (w W1 : World) (free : Int) (n : Nat) : Prop where
  c0 : W1.cell? ⟨w.heap.size, 0, none⟩ = some (.int .i64 free)
  f0 : W1.frozen? ⟨w.heap.size, 0, none⟩ = false
  o : W1.ownsRow (w.heap.size + 1) 3 1 (.slice (some ⟨w.heap.size + 1, 0, none⟩) n n) n (nums .i64 (List.replicate n 0))
  b : Below w.heap.size w W1
  s : W1.heap.size = w.heap.size + 2
  k : W1.heap[w.heap.size + 1]? = some (.cells (nums .i64 (List.replicate n 0)).toArray 3 (0, 0))
theorem spw_mk (w : World) (free : Int) (n : Nat) (hn : n ≤ 500) : Spw w ((w.alloc (.cells #[.int .i64 free] 3)).alloc (.cells (madeCells #[.int .i64 0] n) 3)) free n := by
  have hb0 := blk_alloc (blk_new w (.cells #[.int .i64 free] 3)) (.cells (madeCells #[.int .i64 0] n) 3)
  have ho := own_made (w.alloc (.cells #[.int .i64 free] 3)) (w.heap.size + 1) 3 .i64 n (by simp) (by omega)
  rw [World.size_alloc] at ho
  exact ⟨blk_cell hb0 0, blk_frozen hb0 0, ho, below_alloc (below_alloc (Below.refl _ _) _) _, by simp, by rw [← rep_ones, ← made_ones]; have := blk_new (w.alloc (.cells #[.int .i64 free] 3)) (.cells (madeCells #[.int .i64 0] n) 3); rwa [World.size_alloc] at this⟩
theorem spw_set {w W1 : World} {free : Int} {n : Nat} (h : Spw w W1 free n) (fr : Int) : Spw w (W1.setCell ⟨w.heap.size, 0, none⟩ (.int .i64 fr)) fr n := by
  refine ⟨?_, ?_, own_setCell h.o (by simp [Value.ownBlock]) _, h.b.setCell (p := ⟨w.heap.size, 0, none⟩) (Nat.le_refl _) _, ?_, ?_⟩
  · exact World.cell?_setCell_same' _ _ _ (by rw [h.c0]; rfl)
  · simpa using h.f0
  · simpa using h.s
  · rw [Below.heap_setCell _ _ _ _ (by show w.heap.size + 1 ≠ w.heap.size; omega)]; exact h.k
theorem spw_put {w W1 : World} {fr : Int} {n : Nat} (h : Spw w W1 fr n) (x : Int) (hn : 0 < n) : W1.cell? ⟨w.heap.size + 1, 0, none⟩ = some (.int .i64 0) ∧ W1.frozen? ⟨w.heap.size + 1, 0, none⟩ = false ∧
    (W1.setCell ⟨w.heap.size + 1, 0, none⟩ (.int .i64 x)).ownsRow w.heap.size 3 1 (.slice (some ⟨w.heap.size + 1, 0, none⟩) n n) n (nums .i64 ((List.replicate n 0).set 0 x)) ∧ Below w.heap.size w (W1.setCell ⟨w.heap.size + 1, 0, none⟩ (.int .i64 x)) := by
  obtain ⟨z1, z2⟩ := own_at h.o 0 (by omega) (by omega)
  have hr : rd (List.replicate n (0 : Int)) 0 = 0 := by simp [rd, List.getElem?_replicate, hn]
  rw [hr] at z1
  exact ⟨z1, z2, own_weaken (own_store h.o 0 x).1 (by omega), h.b.setCell (p := ⟨w.heap.size + 1, 0, none⟩) (by show w.heap.size ≤ w.heap.size + 1; omega) _⟩

set_option maxRecDepth 100000 in
set_option maxHeartbeats 1000000 in
theorem Spread_z40 (mode free : Int) (n : Nat) (w : World) (hn : n ≤ 500) (hf : cut free ≤ 0) (hm : mode = 4) (h0 : n = 0) :
    Calls Try.prog 23 #[.int .i64 mode, .int .i64 free, .int .i64 (n : Int)] w (SprPost mode free n w) := by
  have hsp : spreadP mode free n = List.replicate n 0 := by unfold spreadP; simp [h0]
  have SP := Lib.hid hsp
  have n1 : decide ((n : Int) < 0) = false := decide_eq_false (by omega)
  have n2 : decide ((500 : Int) < (n : Int)) = false := decide_eq_false (by omega)
  have hmk := print_make (P := Try.prog) 33 3 .i64 8 Try.underlying33 info (by decide) n (by omega)
  subst hm
  have z0 : ((n : Int) == 0) = true := by simp [h0]
  have nf : decide (cut free ≤ 0) = true := decide_eq_true hf
  clear hsp hf h0
  go_enter Try.func23, Try.ntmps23
  go_wp2_with fail
  refine (Cut_c free _).mono ?_
  rintro e W1 ⟨rfl, hw⟩
  have hS := spw_mk w free n hn
  rw [hw] at hS
  have c0 := hS.c0
  have f0 := hS.f0
  have s0 := hS.s
  have S2 := Lib.hid (spw_set hS (cut free))
  have hWd : (W1.setCell ⟨w.heap.size, 0, none⟩ (.int .i64 (cut free))).heap.size = w.heap.size + 2 := (spw_set hS (cut free)).s
  clear hS hw hmk
  have POST : Hid (SprPost 4 free n w (.returned (.slice (some ⟨w.heap.size + 1, 0, none⟩) n n)) (W1.setCell ⟨w.heap.size, 0, none⟩ (.int .i64 (cut free)))) := Lib.hid ⟨_, rfl, by rw [SP.out]; exact own_weaken S2.out.o (by omega), S2.out.b⟩
  clear S2
  go_wp2_with fail
  go_ret
  exact POST.out
set_option maxRecDepth 100000 in
set_option maxHeartbeats 1000000 in
theorem Spread_z4O (mode free : Int) (n : Nat) (w : World) (hn : n ≤ 500) (hf : cut free ≤ 0) (hm : mode = 4) (h0 : n ≠ 0) :
    Calls Try.prog 23 #[.int .i64 mode, .int .i64 free, .int .i64 (n : Int)] w (SprPost mode free n w) := by
  have hsp : spreadP mode free n = List.replicate n 0 := by unfold spreadP; simp only [modeP_z4 hf hm]; rw [if_neg h0, if_neg (by decide), if_neg (by decide), if_neg (by decide), if_neg (by decide)]
  have SP := Lib.hid hsp
  have n1 : decide ((n : Int) < 0) = false := decide_eq_false (by omega)
  have n2 : decide ((500 : Int) < (n : Int)) = false := decide_eq_false (by omega)
  have hmk := print_make (P := Try.prog) 33 3 .i64 8 Try.underlying33 info (by decide) n (by omega)
  subst hm
  have N0 := Lib.hid (show 0 < n by omega)
  have z0 : ((n : Int) == 0) = false := by simp; omega
  have nf : decide (cut free ≤ 0) = true := decide_eq_true hf
  clear hsp hf h0
  go_enter Try.func23, Try.ntmps23
  go_wp2_with fail
  refine (Cut_c free _).mono ?_
  rintro e W1 ⟨rfl, hw⟩
  have hS := spw_mk w free n hn
  rw [hw] at hS
  have c0 := hS.c0
  have f0 := hS.f0
  have s0 := hS.s
  have S2 := Lib.hid (spw_set hS (cut free))
  have hWd : (W1.setCell ⟨w.heap.size, 0, none⟩ (.int .i64 (cut free))).heap.size = w.heap.size + 2 := (spw_set hS (cut free)).s
  clear hS hw hmk
  have POST : Hid (SprPost 4 free n w (.returned (.slice (some ⟨w.heap.size + 1, 0, none⟩) n n)) (W1.setCell ⟨w.heap.size, 0, none⟩ (.int .i64 (cut free)))) := Lib.hid ⟨_, rfl, by rw [SP.out]; exact own_weaken S2.out.o (by omega), S2.out.b⟩
  clear S2
  go_wp2_with fail
  go_ret
  exact POST.out
set_option maxRecDepth 100000 in
set_option maxHeartbeats 1000000 in
theorem Spread_z50 (mode free : Int) (n : Nat) (w : World) (hn : n ≤ 500) (hf : cut free ≤ 0) (hm : mode = 5) (h0 : n = 0) :
    Calls Try.prog 23 #[.int .i64 mode, .int .i64 free, .int .i64 (n : Int)] w (SprPost mode free n w) := by
  have hsp : spreadP mode free n = List.replicate n 0 := by unfold spreadP; simp [h0]
  have SP := Lib.hid hsp
  have n1 : decide ((n : Int) < 0) = false := decide_eq_false (by omega)
  have n2 : decide ((500 : Int) < (n : Int)) = false := decide_eq_false (by omega)
  have hmk := print_make (P := Try.prog) 33 3 .i64 8 Try.underlying33 info (by decide) n (by omega)
  subst hm
  have z0 : ((n : Int) == 0) = true := by simp [h0]
  have nf : decide (cut free ≤ 0) = true := decide_eq_true hf
  clear hsp hf h0
  go_enter Try.func23, Try.ntmps23
  go_wp2_with fail
  refine (Cut_c free _).mono ?_
  rintro e W1 ⟨rfl, hw⟩
  have hS := spw_mk w free n hn
  rw [hw] at hS
  have c0 := hS.c0
  have f0 := hS.f0
  have s0 := hS.s
  have S2 := Lib.hid (spw_set hS (cut free))
  have hWd : (W1.setCell ⟨w.heap.size, 0, none⟩ (.int .i64 (cut free))).heap.size = w.heap.size + 2 := (spw_set hS (cut free)).s
  clear hS hw hmk
  have POST : Hid (SprPost 5 free n w (.returned (.slice (some ⟨w.heap.size + 1, 0, none⟩) n n)) (W1.setCell ⟨w.heap.size, 0, none⟩ (.int .i64 (cut free)))) := Lib.hid ⟨_, rfl, by rw [SP.out]; exact own_weaken S2.out.o (by omega), S2.out.b⟩
  clear S2
  go_wp2_with fail
  go_ret
  exact POST.out
set_option maxRecDepth 100000 in
set_option maxHeartbeats 1000000 in
theorem Spread_z5C (mode free : Int) (n : Nat) (w : World) (hn : n ≤ 500) (hf : cut free ≤ 0) (hm : mode = 5) (h0 : n ≠ 0) :
    Calls Try.prog 23 #[.int .i64 mode, .int .i64 free, .int .i64 (n : Int)] w (SprPost mode free n w) := by
  have hsp : spreadP mode free n = (List.replicate n 0).set 0 (prt (cut free) 1 2) := by unfold spreadP; simp only [modeP_z5 hf hm]; simp [h0]
  have SP := Lib.hid hsp
  have n1 : decide ((n : Int) < 0) = false := decide_eq_false (by omega)
  have n2 : decide ((500 : Int) < (n : Int)) = false := decide_eq_false (by omega)
  have hmk := print_make (P := Try.prog) 33 3 .i64 8 Try.underlying33 info (by decide) n (by omega)
  subst hm
  have N0 := Lib.hid (show 0 < n by omega)
  have z0 : ((n : Int) == 0) = false := by simp; omega
  have nf : decide (cut free ≤ 0) = true := decide_eq_true hf
  clear hsp hf h0
  go_enter Try.func23, Try.ntmps23
  go_wp2_with fail
  refine (Cut_c free _).mono ?_
  rintro e W1 ⟨rfl, hw⟩
  have hS := spw_mk w free n hn
  rw [hw] at hS
  have c0 := hS.c0
  have f0 := hS.f0
  have s0 := hS.s
  have S2 := Lib.hid (spw_set hS (cut free))
  have hWd : (W1.setCell ⟨w.heap.size, 0, none⟩ (.int .i64 (cut free))).heap.size = w.heap.size + 2 := (spw_set hS (cut free)).s
  clear hS hw hmk
  obtain ⟨c1, f1, oo, bb⟩ := spw_put S2.out (prt (cut free) 1 2) N0.out
  rw [World.cell?_setCell_far _ _ _ _ (by show w.heap.size ≠ w.heap.size + 1; omega)] at c1
  rw [World.frozen?_setCell] at f1
  have POST : Hid (SprPost 5 free n w (.returned (.slice (some ⟨w.heap.size + 1, 0, none⟩) n n)) ((W1.setCell ⟨w.heap.size, 0, none⟩ (.int .i64 (cut free))).setCell ⟨w.heap.size + 1, 0, none⟩ (.int .i64 (prt (cut free) 1 2)))) := Lib.hid ⟨_, rfl, by rw [SP.out]; exact oo, bb⟩
  clear oo bb S2
  go_wp2_with (go_at_call 55; refine (Part_c (cut free) 1 2 _ (by omega)).mono ?_; rintro e w' ⟨rfl, rfl⟩)
  go_ret
  exact POST.out
set_option maxRecDepth 100000 in
set_option maxHeartbeats 1000000 in
theorem Spread_zz0 (mode free : Int) (n : Nat) (w : World) (hn : n ≤ 500) (hf : cut free ≤ 0) (hm4 : mode ≠ 4) (hm5 : mode ≠ 5) (h0 : n = 0) :
    Calls Try.prog 23 #[.int .i64 mode, .int .i64 free, .int .i64 (n : Int)] w (SprPost mode free n w) := by
  have hsp : spreadP mode free n = List.replicate n 0 := by unfold spreadP; simp [h0]
  have SP := Lib.hid hsp
  have n1 : decide ((n : Int) < 0) = false := decide_eq_false (by omega)
  have n2 : decide ((500 : Int) < (n : Int)) = false := decide_eq_false (by omega)
  have hmk := print_make (P := Try.prog) 33 3 .i64 8 Try.underlying33 info (by decide) n (by omega)
  have z0 : ((n : Int) == 0) = true := by simp [h0]
  have nf : decide (cut free ≤ 0) = true := decide_eq_true hf
  have m4 : (mode == 4) = false := by simp; omega
  have m5 : (mode == 5) = false := by simp; omega
  clear hsp hf hm4 hm5 h0
  go_enter Try.func23, Try.ntmps23
  go_wp2_with fail
  refine (Cut_c free _).mono ?_
  rintro e W1 ⟨rfl, hw⟩
  have hS := spw_mk w free n hn
  rw [hw] at hS
  have c0 := hS.c0
  have f0 := hS.f0
  have s0 := hS.s
  have S2 := Lib.hid (spw_set hS (cut free))
  have hWd : (W1.setCell ⟨w.heap.size, 0, none⟩ (.int .i64 (cut free))).heap.size = w.heap.size + 2 := (spw_set hS (cut free)).s
  clear hS hw hmk
  have POST : Hid (SprPost mode free n w (.returned (.slice (some ⟨w.heap.size + 1, 0, none⟩) n n)) (W1.setCell ⟨w.heap.size, 0, none⟩ (.int .i64 (cut free)))) := Lib.hid ⟨_, rfl, by rw [SP.out]; exact own_weaken S2.out.o (by omega), S2.out.b⟩
  clear S2
  go_wp2_with fail
  go_ret
  exact POST.out
set_option maxRecDepth 100000 in
set_option maxHeartbeats 1000000 in
theorem Spread_zzO (mode free : Int) (n : Nat) (w : World) (hn : n ≤ 500) (hf : cut free ≤ 0) (hm4 : mode ≠ 4) (hm5 : mode ≠ 5) (h0 : n ≠ 0) (e1 : mode ≠ 1) (e2 : mode ≠ 2) :
    Calls Try.prog 23 #[.int .i64 mode, .int .i64 free, .int .i64 (n : Int)] w (SprPost mode free n w) := by
  have hsp : spreadP mode free n = List.replicate n 0 := by unfold spreadP; simp only [modeP_zz hf hm4 hm5]; rw [if_neg h0, if_neg e1, if_neg e2, if_neg hm4, if_neg hm5]
  have SP := Lib.hid hsp
  have n1 : decide ((n : Int) < 0) = false := decide_eq_false (by omega)
  have n2 : decide ((500 : Int) < (n : Int)) = false := decide_eq_false (by omega)
  have hmk := print_make (P := Try.prog) 33 3 .i64 8 Try.underlying33 info (by decide) n (by omega)
  have N0 := Lib.hid (show 0 < n by omega)
  have z0 : ((n : Int) == 0) = false := by simp; omega
  have m1 : (mode == 1) = false := by simp; omega
  have m2 : (mode == 2) = false := by simp; omega
  have nf : decide (cut free ≤ 0) = true := decide_eq_true hf
  have m4 : (mode == 4) = false := by simp; omega
  have m5 : (mode == 5) = false := by simp; omega
  clear hsp hf hm4 hm5 h0 e1 e2
  go_enter Try.func23, Try.ntmps23
  go_wp2_with fail
  refine (Cut_c free _).mono ?_
  rintro e W1 ⟨rfl, hw⟩
  have hS := spw_mk w free n hn
  rw [hw] at hS
  have c0 := hS.c0
  have f0 := hS.f0
  have s0 := hS.s
  have S2 := Lib.hid (spw_set hS (cut free))
  have hWd : (W1.setCell ⟨w.heap.size, 0, none⟩ (.int .i64 (cut free))).heap.size = w.heap.size + 2 := (spw_set hS (cut free)).s
  clear hS hw hmk
  have POST : Hid (SprPost mode free n w (.returned (.slice (some ⟨w.heap.size + 1, 0, none⟩) n n)) (W1.setCell ⟨w.heap.size, 0, none⟩ (.int .i64 (cut free)))) := Lib.hid ⟨_, rfl, by rw [SP.out]; exact own_weaken S2.out.o (by omega), S2.out.b⟩
  clear S2
  go_wp2_with fail
  go_ret
  exact POST.out
set_option maxRecDepth 100000 in
set_option maxHeartbeats 1000000 in
theorem Spread_zzE (mode free : Int) (n : Nat) (w : World) (hn : n ≤ 500) (hf : cut free ≤ 0) (hm4 : mode ≠ 4) (hm5 : mode ≠ 5) (h0 : n ≠ 0) (h1 : mode = 1) :
    Calls Try.prog 23 #[.int .i64 mode, .int .i64 free, .int .i64 (n : Int)] w (SprPost mode free n w) := by
  have hsp : spreadP mode free n = (List.replicate n 0).set 0 (cut free) := by unfold spreadP; simp only [modeP_zz hf hm4 hm5]; rw [if_neg h0, if_pos h1]
  have SP := Lib.hid hsp
  have n1 : decide ((n : Int) < 0) = false := decide_eq_false (by omega)
  have n2 : decide ((500 : Int) < (n : Int)) = false := decide_eq_false (by omega)
  have hmk := print_make (P := Try.prog) 33 3 .i64 8 Try.underlying33 info (by decide) n (by omega)
  have N0 := Lib.hid (show 0 < n by omega)
  have z0 : ((n : Int) == 0) = false := by simp; omega
  have m1 : (mode == 1) = true := by simp; omega
  have nf : decide (cut free ≤ 0) = true := decide_eq_true hf
  have m4 : (mode == 4) = false := by simp; omega
  have m5 : (mode == 5) = false := by simp; omega
  clear hsp hf hm4 hm5 h0 h1
  go_enter Try.func23, Try.ntmps23
  go_wp2_with fail
  refine (Cut_c free _).mono ?_
  rintro e W1 ⟨rfl, hw⟩
  have hS := spw_mk w free n hn
  rw [hw] at hS
  have c0 := hS.c0
  have f0 := hS.f0
  have s0 := hS.s
  have S2 := Lib.hid (spw_set hS (cut free))
  have hWd : (W1.setCell ⟨w.heap.size, 0, none⟩ (.int .i64 (cut free))).heap.size = w.heap.size + 2 := (spw_set hS (cut free)).s
  clear hS hw hmk
  obtain ⟨c1, f1, oo, bb⟩ := spw_put S2.out (cut free) N0.out
  rw [World.cell?_setCell_far _ _ _ _ (by show w.heap.size ≠ w.heap.size + 1; omega)] at c1
  rw [World.frozen?_setCell] at f1
  have POST : Hid (SprPost mode free n w (.returned (.slice (some ⟨w.heap.size + 1, 0, none⟩) n n)) ((W1.setCell ⟨w.heap.size, 0, none⟩ (.int .i64 (cut free))).setCell ⟨w.heap.size + 1, 0, none⟩ (.int .i64 (cut free)))) := Lib.hid ⟨_, rfl, by rw [SP.out]; exact oo, bb⟩
  clear oo bb S2
  go_wp2_with fail
  go_ret
  exact POST.out
set_option maxRecDepth 100000 in
set_option maxHeartbeats 1000000 in
theorem Spread_zzC (mode free : Int) (n : Nat) (w : World) (hn : n ≤ 500) (hf : cut free ≤ 0) (hm4 : mode ≠ 4) (hm5 : mode ≠ 5) (h0 : n ≠ 0) (h1 : mode = 2) :
    Calls Try.prog 23 #[.int .i64 mode, .int .i64 free, .int .i64 (n : Int)] w (SprPost mode free n w) := by
  have hsp : spreadP mode free n = (List.replicate n 0).set 0 (prt (cut free) 1 2) := by unfold spreadP; simp only [modeP_zz hf hm4 hm5]; rw [if_neg h0, if_neg (by omega), if_pos h1]
  have SP := Lib.hid hsp
  have n1 : decide ((n : Int) < 0) = false := decide_eq_false (by omega)
  have n2 : decide ((500 : Int) < (n : Int)) = false := decide_eq_false (by omega)
  have hmk := print_make (P := Try.prog) 33 3 .i64 8 Try.underlying33 info (by decide) n (by omega)
  have N0 := Lib.hid (show 0 < n by omega)
  have z0 : ((n : Int) == 0) = false := by simp; omega
  have m1 : (mode == 1) = false := by simp; omega
  have m2 : (mode == 2) = true := by simp; omega
  have nf : decide (cut free ≤ 0) = true := decide_eq_true hf
  have m4 : (mode == 4) = false := by simp; omega
  have m5 : (mode == 5) = false := by simp; omega
  clear hsp hf hm4 hm5 h0 h1
  go_enter Try.func23, Try.ntmps23
  go_wp2_with fail
  refine (Cut_c free _).mono ?_
  rintro e W1 ⟨rfl, hw⟩
  have hS := spw_mk w free n hn
  rw [hw] at hS
  have c0 := hS.c0
  have f0 := hS.f0
  have s0 := hS.s
  have S2 := Lib.hid (spw_set hS (cut free))
  have hWd : (W1.setCell ⟨w.heap.size, 0, none⟩ (.int .i64 (cut free))).heap.size = w.heap.size + 2 := (spw_set hS (cut free)).s
  clear hS hw hmk
  obtain ⟨c1, f1, oo, bb⟩ := spw_put S2.out (prt (cut free) 1 2) N0.out
  rw [World.cell?_setCell_far _ _ _ _ (by show w.heap.size ≠ w.heap.size + 1; omega)] at c1
  rw [World.frozen?_setCell] at f1
  have POST : Hid (SprPost mode free n w (.returned (.slice (some ⟨w.heap.size + 1, 0, none⟩) n n)) ((W1.setCell ⟨w.heap.size, 0, none⟩ (.int .i64 (cut free))).setCell ⟨w.heap.size + 1, 0, none⟩ (.int .i64 (prt (cut free) 1 2)))) := Lib.hid ⟨_, rfl, by rw [SP.out]; exact oo, bb⟩
  clear oo bb S2
  go_wp2_with (go_at_call 55; refine (Part_c (cut free) 1 2 _ (by omega)).mono ?_; rintro e w' ⟨rfl, rfl⟩)
  go_ret
  exact POST.out
set_option maxRecDepth 100000 in
set_option maxHeartbeats 1000000 in
theorem Spread_p0 (mode free : Int) (n : Nat) (w : World) (hn : n ≤ 500) (hf : ¬ cut free ≤ 0) (h0 : n = 0) :
    Calls Try.prog 23 #[.int .i64 mode, .int .i64 free, .int .i64 (n : Int)] w (SprPost mode free n w) := by
  have hsp : spreadP mode free n = List.replicate n 0 := by unfold spreadP; simp [h0]
  have SP := Lib.hid hsp
  have n1 : decide ((n : Int) < 0) = false := decide_eq_false (by omega)
  have n2 : decide ((500 : Int) < (n : Int)) = false := decide_eq_false (by omega)
  have hmk := print_make (P := Try.prog) 33 3 .i64 8 Try.underlying33 info (by decide) n (by omega)
  have z0 : ((n : Int) == 0) = true := by simp [h0]
  have nf : decide (cut free ≤ 0) = false := decide_eq_false hf
  clear hsp hf h0
  go_enter Try.func23, Try.ntmps23
  go_wp2_with fail
  refine (Cut_c free _).mono ?_
  rintro e W1 ⟨rfl, hw⟩
  have hS := spw_mk w free n hn
  rw [hw] at hS
  have c0 := hS.c0
  have f0 := hS.f0
  have s0 := hS.s
  have S2 := Lib.hid (spw_set hS (cut free))
  have hWd : (W1.setCell ⟨w.heap.size, 0, none⟩ (.int .i64 (cut free))).heap.size = w.heap.size + 2 := (spw_set hS (cut free)).s
  clear hS hw hmk
  have POST : Hid (SprPost mode free n w (.returned (.slice (some ⟨w.heap.size + 1, 0, none⟩) n n)) (W1.setCell ⟨w.heap.size, 0, none⟩ (.int .i64 (cut free)))) := Lib.hid ⟨_, rfl, by rw [SP.out]; exact own_weaken S2.out.o (by omega), S2.out.b⟩
  clear S2
  go_wp2_with fail
  go_ret
  exact POST.out
set_option maxRecDepth 100000 in
set_option maxHeartbeats 1000000 in
theorem Spread_pO (mode free : Int) (n : Nat) (w : World) (hn : n ≤ 500) (hf : ¬ cut free ≤ 0) (h0 : n ≠ 0) (e1 : mode ≠ 1) (e2 : mode ≠ 2) (e4 : mode ≠ 4) (e5 : mode ≠ 5) :
    Calls Try.prog 23 #[.int .i64 mode, .int .i64 free, .int .i64 (n : Int)] w (SprPost mode free n w) := by
  have hsp : spreadP mode free n = List.replicate n 0 := by unfold spreadP; simp only [modeP_p hf]; rw [if_neg h0, if_neg e1, if_neg e2, if_neg e4, if_neg e5]
  have SP := Lib.hid hsp
  have n1 : decide ((n : Int) < 0) = false := decide_eq_false (by omega)
  have n2 : decide ((500 : Int) < (n : Int)) = false := decide_eq_false (by omega)
  have hmk := print_make (P := Try.prog) 33 3 .i64 8 Try.underlying33 info (by decide) n (by omega)
  have N0 := Lib.hid (show 0 < n by omega)
  have z0 : ((n : Int) == 0) = false := by simp; omega
  have m1 : (mode == 1) = false := by simp; omega
  have m2 : (mode == 2) = false := by simp; omega
  have m4 : (mode == 4) = false := by simp; omega
  have m5 : (mode == 5) = false := by simp; omega
  have nf : decide (cut free ≤ 0) = false := decide_eq_false hf
  clear hsp hf h0 e1 e2 e4 e5
  go_enter Try.func23, Try.ntmps23
  go_wp2_with fail
  refine (Cut_c free _).mono ?_
  rintro e W1 ⟨rfl, hw⟩
  have hS := spw_mk w free n hn
  rw [hw] at hS
  have c0 := hS.c0
  have f0 := hS.f0
  have s0 := hS.s
  have S2 := Lib.hid (spw_set hS (cut free))
  have hWd : (W1.setCell ⟨w.heap.size, 0, none⟩ (.int .i64 (cut free))).heap.size = w.heap.size + 2 := (spw_set hS (cut free)).s
  clear hS hw hmk
  have POST : Hid (SprPost mode free n w (.returned (.slice (some ⟨w.heap.size + 1, 0, none⟩) n n)) (W1.setCell ⟨w.heap.size, 0, none⟩ (.int .i64 (cut free)))) := Lib.hid ⟨_, rfl, by rw [SP.out]; exact own_weaken S2.out.o (by omega), S2.out.b⟩
  clear S2
  go_wp2_with fail
  go_ret
  exact POST.out
set_option maxRecDepth 100000 in
set_option maxHeartbeats 1000000 in
theorem Spread_pE (mode free : Int) (n : Nat) (w : World) (hn : n ≤ 500) (hf : ¬ cut free ≤ 0) (h0 : n ≠ 0) (h1 : mode = 1) :
    Calls Try.prog 23 #[.int .i64 mode, .int .i64 free, .int .i64 (n : Int)] w (SprPost mode free n w) := by
  have hsp : spreadP mode free n = (List.replicate n 0).set 0 (cut free) := by unfold spreadP; simp only [modeP_p hf]; rw [if_neg h0, if_pos h1]
  have SP := Lib.hid hsp
  have n1 : decide ((n : Int) < 0) = false := decide_eq_false (by omega)
  have n2 : decide ((500 : Int) < (n : Int)) = false := decide_eq_false (by omega)
  have hmk := print_make (P := Try.prog) 33 3 .i64 8 Try.underlying33 info (by decide) n (by omega)
  have N0 := Lib.hid (show 0 < n by omega)
  have z0 : ((n : Int) == 0) = false := by simp; omega
  have m1 : (mode == 1) = true := by simp; omega
  have m4 : (mode == 4) = false := by simp; omega
  have m5 : (mode == 5) = false := by simp; omega
  have nf : decide (cut free ≤ 0) = false := decide_eq_false hf
  clear hsp hf h0 h1
  go_enter Try.func23, Try.ntmps23
  go_wp2_with fail
  refine (Cut_c free _).mono ?_
  rintro e W1 ⟨rfl, hw⟩
  have hS := spw_mk w free n hn
  rw [hw] at hS
  have c0 := hS.c0
  have f0 := hS.f0
  have s0 := hS.s
  have S2 := Lib.hid (spw_set hS (cut free))
  have hWd : (W1.setCell ⟨w.heap.size, 0, none⟩ (.int .i64 (cut free))).heap.size = w.heap.size + 2 := (spw_set hS (cut free)).s
  clear hS hw hmk
  obtain ⟨c1, f1, oo, bb⟩ := spw_put S2.out (cut free) N0.out
  rw [World.cell?_setCell_far _ _ _ _ (by show w.heap.size ≠ w.heap.size + 1; omega)] at c1
  rw [World.frozen?_setCell] at f1
  have POST : Hid (SprPost mode free n w (.returned (.slice (some ⟨w.heap.size + 1, 0, none⟩) n n)) ((W1.setCell ⟨w.heap.size, 0, none⟩ (.int .i64 (cut free))).setCell ⟨w.heap.size + 1, 0, none⟩ (.int .i64 (cut free)))) := Lib.hid ⟨_, rfl, by rw [SP.out]; exact oo, bb⟩
  clear oo bb S2
  go_wp2_with fail
  go_ret
  exact POST.out
set_option maxRecDepth 100000 in
set_option maxHeartbeats 1000000 in
theorem Spread_pC (mode free : Int) (n : Nat) (w : World) (hn : n ≤ 500) (hf : ¬ cut free ≤ 0) (h0 : n ≠ 0) (h1 : mode = 2) :
    Calls Try.prog 23 #[.int .i64 mode, .int .i64 free, .int .i64 (n : Int)] w (SprPost mode free n w) := by
  have hsp : spreadP mode free n = (List.replicate n 0).set 0 (prt (cut free) 1 2) := by unfold spreadP; simp only [modeP_p hf]; rw [if_neg h0, if_neg (by omega), if_pos h1]
  have SP := Lib.hid hsp
  have n1 : decide ((n : Int) < 0) = false := decide_eq_false (by omega)
  have n2 : decide ((500 : Int) < (n : Int)) = false := decide_eq_false (by omega)
  have hmk := print_make (P := Try.prog) 33 3 .i64 8 Try.underlying33 info (by decide) n (by omega)
  have N0 := Lib.hid (show 0 < n by omega)
  have z0 : ((n : Int) == 0) = false := by simp; omega
  have m1 : (mode == 1) = false := by simp; omega
  have m2 : (mode == 2) = true := by simp; omega
  have m4 : (mode == 4) = false := by simp; omega
  have m5 : (mode == 5) = false := by simp; omega
  have nf : decide (cut free ≤ 0) = false := decide_eq_false hf
  clear hsp hf h0 h1
  go_enter Try.func23, Try.ntmps23
  go_wp2_with fail
  refine (Cut_c free _).mono ?_
  rintro e W1 ⟨rfl, hw⟩
  have hS := spw_mk w free n hn
  rw [hw] at hS
  have c0 := hS.c0
  have f0 := hS.f0
  have s0 := hS.s
  have S2 := Lib.hid (spw_set hS (cut free))
  have hWd : (W1.setCell ⟨w.heap.size, 0, none⟩ (.int .i64 (cut free))).heap.size = w.heap.size + 2 := (spw_set hS (cut free)).s
  clear hS hw hmk
  obtain ⟨c1, f1, oo, bb⟩ := spw_put S2.out (prt (cut free) 1 2) N0.out
  rw [World.cell?_setCell_far _ _ _ _ (by show w.heap.size ≠ w.heap.size + 1; omega)] at c1
  rw [World.frozen?_setCell] at f1
  have POST : Hid (SprPost mode free n w (.returned (.slice (some ⟨w.heap.size + 1, 0, none⟩) n n)) ((W1.setCell ⟨w.heap.size, 0, none⟩ (.int .i64 (cut free))).setCell ⟨w.heap.size + 1, 0, none⟩ (.int .i64 (prt (cut free) 1 2)))) := Lib.hid ⟨_, rfl, by rw [SP.out]; exact oo, bb⟩
  clear oo bb S2
  go_wp2_with (go_at_call 55; refine (Part_c (cut free) 1 2 _ (by omega)).mono ?_; rintro e w' ⟨rfl, rfl⟩)
  go_ret
  exact POST.out
end Go.Proofs.Ytfkgpkkjiolfpaa.Spd
