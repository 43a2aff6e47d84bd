/- Package table: Columns, whole. -/
import Derived.Test.YtfkgpkkjiolfpaaTabSort0
import Derived.Test.YtfkgpkkjiolfpaaTabCols
namespace Go.Proofs.Ytfkgpkkjiolfpaa.Tab
open Go.RowKit Go.Lib Go.Proofs.Ytfkgpkkjiolfpaa.Pl Go.Proofs.Ytfkgpkkjiolfpaa.Fx Go.Proofs.Ytfkgpkkjiolfpaa.Sh Go.Proofs.Ytfkgpkkjiolfpaa.Rgn Go.Proofs.Ytfkgpkkjiolfpaa.Blk Go.Proofs.YtfkgpkkjiolfpaaW.PrintWords Go.Proofs.YtfkgpkkjiolfpaaW.PrintLast Go.Proofs.YtfkgpkkjiolfpaaW.PrintMore
set_option linter.unusedVariables false
set_option linter.unusedSimpArgs false
attribute [local go_sem] mx2 mn2 mx_two mn_two mx_three mn_three

theorem below_grown {B g : Nat} {w w4 w5 : World} (hB : Below B w w4) (hg : w4.grownBy w5 (some g)) (h1 : B ≤ g) (h2 : B ≤ w4.heap.size) : Below B w w5 :=
  hB.trans ⟨hg.os, hg.tape, hg.output, hg.size, fun k hk => hg.block k (by omega) (fun e => by injection e with e; omega)⟩
theorem sortAny_c (A1 : Option Addr) (N cp g B : Nat) (cs : List Ce) (W : World) (hR : Kd.R k108 108 W B (fun _ => True) (.slice A1 N cp) cs) (hg : 0 < N → A1 = some ⟨g, 0, none⟩ ∧ B ≤ g) (hs : ∀ x, x ∈ cs → SpanB x) (hN : N ≤ 1000000) (hB : B ≤ W.heap.size) :
    Calls Try.prog 57 #[.slice A1 N cp, .func (.func 58) #[] #[]] W fun e w' => e = .returned (.tuple #[]) ∧ ∃ ys : List Ce, ys.Perm cs ∧ RowAt w' A1 N ys g ∧ W.grownBy w' (some g) ∧ Below B W w' := by
  obtain ⟨hl, -, hC⟩ := Kd.R_reads' hR
  rw [← hl] at hC
  by_cases h0 : N = 0
  · subst h0
    refine (sort0_c A1 cp W).mono ?_
    rintro e w' ⟨rfl, rfl⟩
    exact ⟨rfl, cs, List.Perm.refl _, ⟨hC, fun h => absurd h (by omega)⟩, World.grownBy.refl _ _, Below.refl _ _⟩
  · obtain ⟨rfl, hBg⟩ := hg (by omega)
    refine (sort_c g N cp cs B (fun _ => True) W W ⟨cs, List.Perm.refl _, hR, World.grownBy.refl _ _⟩ hs hl.symm hN).mono ?_
    rintro e w' ⟨rfl, ys, hP, hR2, hG⟩
    obtain ⟨hl2, -, hC2⟩ := Kd.R_reads' hR2
    rw [← hl2] at hC2
    exact ⟨rfl, ys, hP, ⟨hC2, fun _ => rfl⟩, hG, below_grown (Below.refl _ _) hG hBg hB⟩
theorem clone_c {W : World} {base g n cp : Nat} {xs : List Int} (h : W.ownsRow base 3 1 (.slice (some ⟨g, 0, none⟩) n cp) n (nums .i64 xs)) (a k c : Nat) (hak : a + k ≤ n) (hn : n ≤ 1000000) :
    Calls Try.prog 60 #[.slice (some ⟨g, a, none⟩) k c] W fun e w' => ∃ A c', e = .returned (.slice A k c') ∧ ReadsInt w' .i64 A k (seg xs a k) ∧ Below W.heap.size W w' := by
  have hl : xs.length = n := by have := h.1; simp [nums] at this; exact this
  refine (Try.slices_Clone_int g a k c (xs.drop a) W (by rw [List.length_drop]; omega) (by omega) (fun j hj => ?_)).mono ?_
  · rw [List.length_drop] at hj
    obtain ⟨p, -⟩ := own_at h ((a + j : Nat) : Int) (by omega) (by omega)
    have e : rd xs ((a + j : Nat) : Int) = (xs.drop a).getD j 0 := by simp only [rd, Int.toNat_natCast]; simp [List.getD_eq_getElem?_getD]
    rw [Int.toNat_natCast, e] at p
    exact p
  · rintro e w' ⟨v', rfl, hO, -, hB⟩
    obtain ⟨A, c', rfl, hR⟩ := own_reads (k := .i64) (xs := seg xs a k) hO
    exact ⟨A, c', rfl, hR, hB⟩
def ColsG (cs : List Ce) (n : Nat) (w : World) (e : Ending) (w' : World) : Prop := ∃ v1 v2 ls ms, e = .returned (.tuple #[v1, v2]) ∧ w'.ownsRow w.heap.size 3 1 v1 n (nums .i64 ls) ∧ w'.ownsRow w.heap.size 3 1 v2 n (nums .i64 ms) ∧ ColsFacts cs n ls ms ∧ Below w.heap.size w w'

set_option maxRecDepth 1000000 in
set_option maxHeartbeats 8000000 in
theorem Cols_c (A : Option Addr) (r c : Nat) (rows : List (List LC)) (w : World) (hC : Kd.C kRow w A r rows) (hr : r ≤ 1000) (cs : List Ce) (hcs : cellsP rows = cs) (n : Nat) (hn2 : n ≤ 100) (hN : cs.length ≤ 1000) (hok : ∀ c, c ∈ cs → CellOK n c) (hm : manyP rows 0 = (n : Int)) :
    Calls Try.prog 24 #[.slice A r c] w (ColsG cs n w) := by
  have CC := Lib.hid (cells_c A r c rows w hC hr)
  have OKK := Lib.hid hok
  have hmk := print_make (P := Try.prog) 33 3 .i64 8 Try.underlying33 info (by decide) n (by omega)
  clear hC hok
  go_enter Try.func24, Try.ntmps24
  go_wp2_with fail
  refine CC.out.mono ?_
  rintro e w1 ⟨v1, rfl, hR1, hB1⟩
  rw [hcs] at hR1
  rw [hm]
  obtain ⟨N, hNl⟩ : ∃ N, cs.length = N := ⟨_, rfl⟩
  rw [hNl] at hN
  obtain ⟨A1, g, cp, rfl, hg, hgw⟩ : ∃ (A1 : Option Addr) (g cp : Nat), v1 = .slice A1 N cp ∧ (0 < N → A1 = some ⟨g, 0, none⟩ ∧ w.heap.size ≤ g) ∧ (g < w1.heap.size ∨ g = w1.heap.size + 2) := by
    by_cases h0 : 0 < N
    · obtain ⟨g, cp, hv, hg1, hg2, -⟩ := Kd.R_form hR1 (by omega)
      exact ⟨_, g, cp, by rw [hv, hNl], fun _ => ⟨rfl, hg1⟩, .inl hg2⟩
    · obtain ⟨A1, cp, hv⟩ := Kd.R_slice hR1
      exact ⟨A1, w1.heap.size + 2, cp, by rw [hv, hNl], fun h => absurd h h0, .inr rfl⟩
  have R1 := Lib.hid hR1
  have B1 := Lib.hid hB1
  have HG := Lib.hid hg
  have HNL := Lib.hid hNl
  clear hR1 hB1 hcs hm CC hg hNl
  go_wp2_with fail
  go_region
  obtain ⟨W, eW, hBW, h0, h1⟩ := two_made w1 n (by omega)
  rw [eW]
  obtain ⟨gl, hgl⟩ : ∃ g, w1.heap.size = g := ⟨_, rfl⟩
  obtain ⟨gm, hgm⟩ : ∃ g, w1.heap.size + 1 = g := ⟨_, rfl⟩
  have hOL := h0 gl hgl.symm
  have hOM := h1 gm hgm.symm
  have hne : gl ≠ gm := by omega
  have hbl : w1.heap.size ≤ gl := by omega
  have hbm : w1.heap.size ≤ gm := by omega
  have hnl : g ≠ gl := by omega
  have hnm : g ≠ gm := by omega
  rw [hgm, hgl]
  clear h0 h1 eW hgl hgm hmk
  rotate_left
  obtain ⟨W, eW, hBW, h0, h1⟩ := two_made w1 n (by omega)
  rw [eW]
  obtain ⟨gl, hgl⟩ : ∃ g, w1.heap.size + 1 = g := ⟨_, rfl⟩
  obtain ⟨gm, hgm⟩ : ∃ g, w1.heap.size = g := ⟨_, rfl⟩
  have hOL := h1 gl hgl.symm
  have hOM := h0 gm hgm.symm
  have hne : gl ≠ gm := by omega
  have hbl : w1.heap.size ≤ gl := by omega
  have hbm : w1.heap.size ≤ gm := by omega
  have hnl : g ≠ gl := by omega
  have hnm : g ≠ gm := by omega
  rw [hgl, hgm]
  clear h0 h1 eW hgl hgm hmk
  all_goals (
    have hz1 := B1.out.size
    have OL0 := own_less hOL hz1
    have OM0 := own_less hOM hz1
    have hll : w.heap.size ≤ gl := by omega
    have hlm : w.heap.size ≤ gm := by omega
    have R2 := Lib.hid (Kd.R_below R1.out hBW)
    have BW := Lib.hid (below_then B1.out hz1 hBW)
    have SORT := Lib.hid (sortAny_c A1 N cp g w.heap.size cs W R2.out HG.out (fun x hx => by have h := OKK.out x hx; unfold CellOK at h; exact ⟨by omega, by omega⟩) (by omega) BW.out.size)
    clear hOL hOM hBW R1 B1 hz1 hbl hbm hgw R2
    have OL1 := Lib.hid OL0
    have OM1 := Lib.hid OM0
    clear OL0 OM0
    go_wp2_with fail
    refine SORT.out.mono ?_
    rintro e w3 ⟨rfl, ys, hP, hRA, hG3, hB3⟩
    have OL := Lib.hid (Go.Proofs.YtfkgpkkjiolfpaaW.PrintWords.own_other OL1.out hG3 (.inr (by simp only [Value.ownBlock]; intro e; injection e with e; omega)))
    have OM := Lib.hid (Go.Proofs.YtfkgpkkjiolfpaaW.PrintWords.own_other OM1.out hG3 (.inr (by simp only [Value.ownBlock]; intro e; injection e with e; omega)))
    have R3 := Lib.hid hRA
    have B3 := Lib.hid (BW.out.trans hB3)
    have hyl : ys.length = N := by have h1 := hP.length_eq; have h2 := HNL.out; omega
    have HP := Lib.hid hP
    have OKY : Hid (∀ i, i < ys.length → CellOK n (ys.getD i z108)) := Lib.hid fun i hi => OKK.out _ (hP.mem_iff.1 (getD_mem rfl hi))
    have DZ := Lib.hid (done_zero ys n)
    clear hRA hP hG3 hB3 OL1 OM1 BW SORT
    go_wp2_with fail
    go_loopw [25] (fun i wr => ∃ (k : Nat) (ls ms : List Int), k ≤ N ∧ i = .int .i64 k ∧ Hid (wr.ownsRow w.heap.size 3 1 (.slice (some ⟨gl, 0, none⟩) n n) n (nums .i64 ls)) ∧ Hid (wr.ownsRow w.heap.size 3 1 (.slice (some ⟨gm, 0, none⟩) n n) n (nums .i64 ms)) ∧ Hid (DoneTo ys n k ls ms) ∧ Hid (RowAt wr A1 N ys g) ∧ Hid (Below w.heap.size w wr)) (fun i _ => N - (RowKit.intOf i).toNat)
    case atStart => exact ⟨0, _, _, Nat.zero_le _, rfl, OL, OM, DZ, R3, B3⟩
    case round =>
      obtain ⟨k, ls, ms, hk, rfl, hO1, hO2, hD, hRA, hB⟩ := hrel
      by_cases hlt : k < N
      · obtain rfl := hRA.out.2 (by omega)
        have hcok := OKY.out k (by omega)
        obtain ⟨q1, q2, q3, q4, q5, q6, q7, q8⟩ := hcok
        obtain ⟨ad, ea, x0, x1, x2, x3⟩ := at_T108 hRA.out.1 (k : Int) (by omega) (by omega)
        injection ea with ea
        subst ea
        have hrd : rd_T108 ys (k : Int) = ys.getD k z108 := by simp [rd_T108]
        rw [hrd, Int.toNat_natCast] at x0 x1 x2 x3
        have DS := Lib.hid fun ls' ms' => done_step (ls' := ls') (ms' := ms') hD.out OKY.out (show k < ys.length by omega)
        obtain ⟨cc, hcc⟩ : ∃ c, ys.getD k z108 = c := ⟨_, rfl⟩
        rw [hcc] at q1 q2 q3 q4 q5 q6 q7 q8 x0 x1 x2 x3 DS
        clear hrd hcc
        obtain ⟨a0, a1, cp2, cs3⟩ := cc
        obtain ⟨p, rfl⟩ : ∃ p : Nat, cp2 = (p : Int) := ⟨cp2.toNat, by simp only at q1; omega⟩
        simp only at q1 q2 q3 q4 q5 q6 q7 q8 x0 x1 x2 x3
        simp only [Addr.add_mid, Nat.zero_add] at x0 x1 x2 x3
        have HLL : ls.length = n := hD.out.1
        have HML : ms.length = n := hD.out.2.1
        have GLS := Lib.hid hD.out.2.2.1
        have GMS := Lib.hid hD.out.2.2.2.1
        by_cases hs : cs3 = 1
        · subst hs
          have hps : p < n := by omega
          have hb9 : (wr.alloc (.cells #[.int .i64 a0, .int .i64 a1, .int .i64 (p : Int), .int .i64 1] 108)).heap[wr.heap.size]? = some (.cells #[.int .i64 a0, .int .i64 a1, .int .i64 (p : Int), .int .i64 1] 108 (0, 0)) := blk_new wr _
          have O1 := pw_own_below hO1.out (below_alloc (Below.refl _ _) (.cells #[.int .i64 a0, .int .i64 a1, .int .i64 (p : Int), .int .i64 1] 108))
          have O2 := pw_own_below hO2.out (below_alloc (Below.refl _ _) (.cells #[.int .i64 a0, .int .i64 a1, .int .i64 (p : Int), .int .i64 1] 108))
          have hgsz : g < wr.heap.size := World.block_lt_of_cell? wr _ x0
          have R4 : RowAt (wr.alloc (.cells #[.int .i64 a0, .int .i64 a1, .int .i64 (p : Int), .int .i64 1] 108)) (some ⟨g, 0, none⟩) N ys g := rowAt_keep hRA.out (Below.heap_alloc wr _ g hgsz)
          have B4 := below_alloc hB.out (.cells #[.int .i64 a0, .int .i64 a1, .int .i64 (p : Int), .int .i64 1] 108)
          have hgl := own_lt hO1.out gl rfl
          have hgm := own_lt hO2.out gm rfl
          have O1h := Lib.hid O1
          have O2h := Lib.hid O2
          have R4h := Lib.hid R4
          have B4h := Lib.hid B4
          have HB0 := Lib.hid hb9
          clear hO1 hO2 hRA hB OL OM R3 B3 hD DZ O1 O2 R4 B4 hb9
          go_upto_region 9 with fail
          obtain ⟨b, hb⟩ : ∃ b, wr.heap.size = b := ⟨_, rfl⟩
          rw [hb] at HB0 hgl hgm hgsz ⊢
          generalize wr.alloc (.cells #[.int .i64 a0, .int .i64 a1, .int .i64 (p : Int), .int .i64 1] 108) = w2 at *
          clear x0 x1 x2 x3 hb
          obtain ⟨u1, u2, u3, u4⟩ := one_up ls p a0 (by omega) GLS.out q6
          obtain ⟨t1, t2, t3, t4⟩ := one_up ms p a1 (by omega) GMS.out q8
          obtain ⟨p1, f1⟩ := own_at O1h.out (p : Int) (by omega) (by omega)
          obtain ⟨p2, f2⟩ := own_at O2h.out (p : Int) (by omega) (by omega)
          rw [show rd ls (p : Int) = ls.getD p 0 by simp [rd], Int.toNat_natCast] at p1
          rw [show rd ms (p : Int) = ms.getD p 0 by simp [rd], Int.toNat_natCast] at p2
          rw [Int.toNat_natCast] at f1 f2
          have gx := GLS.out p
          have gy := GMS.out p
          have hw1 := (own_store (pw_own_below O1h.out (Below.refl _ _).drew) (p : Int) (max (ls.getD p 0) a0)).1
          rw [Int.toNat_natCast] at hw1
          have hw2 := own_other (pw_own_below O2h.out (Below.refl _ _).drew) (Ne.symm hne) p (.int .i64 (max (ls.getD p 0) a0))
          obtain ⟨p5, f5⟩ := own_at hw2 (p : Int) (by omega) (by omega)
          rw [show rd ms (p : Int) = ms.getD p 0 by simp [rd], Int.toNat_natCast] at p5
          rw [Int.toNat_natCast] at f5
          have hw3 := (own_store hw2 (p : Int) (max (ms.getD p 0) a1)).1
          rw [Int.toNat_natCast] at hw3
          have hw4 := own_other hw1 hne p (.int .i64 (max (ms.getD p 0) a1))
          have hw5 := rowAt_keep (w' := (w2.drew.setCell ⟨gl, p, none⟩ (.int .i64 (max (ls.getD p 0) a0))).setCell ⟨gm, p, none⟩ (.int .i64 (max (ms.getD p 0) a1))) R4h.out
            ((Below.heap_setCell _ ⟨gm, p, none⟩ _ g hnm).trans (Below.heap_setCell _ ⟨gl, p, none⟩ _ g hnl))
          have hw6 := (B4h.out.drew.setCell (p := ⟨gl, p, none⟩) hll (.int .i64 (max (ls.getD p 0) a0))).setCell (p := ⟨gm, p, none⟩) hlm (.int .i64 (max (ms.getD p 0) a1))
          have hd := DS.out (ls.set p (max (ls.getD p 0) a0)) (ms.set p (max (ms.getD p 0) a1)) (by omega) (by omega) u2 t2 u3 t3 ⟨by simpa using u4, by simpa using t4⟩
          have FIN := Lib.hid (And.intro (Lib.hid hw4) (And.intro (Lib.hid hw3) (And.intro (Lib.hid hd) (And.intro (Lib.hid hw5) (Lib.hid hw6)))))
          have Z5 := Lib.hid (And.intro p5 f5)
          have HB9 := Lib.hid (blk_drew HB0.out)
          have HGL := Lib.hid hgl
          have HGM := Lib.hid hgm
          clear hw1 hw2 hw3 hw4 hw5 hw6 p5 f5 O1h O2h R4h B4h hgl hgm hd u1 u2 u3 u4 t1 t2 t3 t4 DS HB0
          generalize hlx : ls.getD p 0 = x at *
          generalize hmy : ms.getD p 0 = y at *
          clear hlx hmy
          refine wp_region_held_drew (S := fun W => W.heap[b]? = some (.cells #[.int .i64 a0, .int .i64 a1, .int .i64 (p : Int), .int .i64 1] 108 (0, 0))) (by kernel_rfl) HB9.out (fun hHeld => ?_)
          refine wpAnyH_take (i := 0) (v := .slice (some ⟨gl, 0, none⟩) n n) rfl (by kernel_rfl) (by kernel_rfl) (by kernel_rfl) (fun _ _ _ h => h) (y_move (by rfl) rfl rfl) hHeld ?_
          try simp only [Act.put, List.getElem_toArray, List.getElem_cons_succ, List.getElem_cons_zero, List.setIfInBounds_toArray, List.set_cons_zero, List.set_cons_succ]
          refine wpAnyH_take (i := 1) (v := .pointer (some ⟨b, 2, none⟩)) rfl (by kernel_rfl) (by kernel_rfl) (by kernel_rfl) (fun _ _ _ h => h) (y_run (by rfl) (fun w _ => by unfold execOp; go_simp)) hHeld ?_
          try simp only [Act.put, List.getElem_toArray, List.getElem_cons_succ, List.getElem_cons_zero, List.setIfInBounds_toArray, List.set_cons_zero, List.set_cons_succ]
          refine wpAnyH_take (i := 2) (v := .int .i64 (p : Int)) rfl (by kernel_rfl) (by kernel_rfl) (by kernel_rfl) (fun _ _ _ h => h) (y_load (by rfl) rfl rfl (fun _ h => blk_cell h 2)) hHeld ?_
          try simp only [Act.put, List.getElem_toArray, List.getElem_cons_succ, List.getElem_cons_zero, List.setIfInBounds_toArray, List.set_cons_zero, List.set_cons_succ]
          refine wpAnyH_take (i := 3) (v := .slice (some ⟨gm, 0, none⟩) n n) rfl (by kernel_rfl) (by kernel_rfl) (by kernel_rfl) (fun _ _ _ h => h) (y_move (by rfl) rfl rfl) hHeld ?_
          try simp only [Act.put, List.getElem_toArray, List.getElem_cons_succ, List.getElem_cons_zero, List.setIfInBounds_toArray, List.set_cons_zero, List.set_cons_succ]
          refine wpAnyH_take (i := 4) (v := .pointer (some ⟨b, 2, none⟩)) rfl (by kernel_rfl) (by kernel_rfl) (by kernel_rfl) (fun _ _ _ h => h) (y_run (by rfl) (fun w _ => by unfold execOp; go_simp)) hHeld ?_
          try simp only [Act.put, List.getElem_toArray, List.getElem_cons_succ, List.getElem_cons_zero, List.setIfInBounds_toArray, List.set_cons_zero, List.set_cons_succ]
          refine wpAnyH_take (i := 5) (v := .int .i64 (p : Int)) rfl (by kernel_rfl) (by kernel_rfl) (by kernel_rfl) (fun _ _ _ h => h) (y_load (by rfl) rfl rfl (fun _ h => blk_cell h 2)) hHeld ?_
          try simp only [Act.put, List.getElem_toArray, List.getElem_cons_succ, List.getElem_cons_zero, List.setIfInBounds_toArray, List.set_cons_zero, List.set_cons_succ]
          refine wpAnyH_take (i := 6) (v := .slice (some ⟨gl, 0, none⟩) n n) rfl (by kernel_rfl) (by kernel_rfl) (by kernel_rfl) (fun _ _ _ h => h) (y_move (by rfl) rfl rfl) hHeld ?_
          try simp only [Act.put, List.getElem_toArray, List.getElem_cons_succ, List.getElem_cons_zero, List.setIfInBounds_toArray, List.set_cons_zero, List.set_cons_succ]
          refine wpAnyH_take (i := 7) (v := .pointer (some ⟨b, 2, none⟩)) rfl (by kernel_rfl) (by kernel_rfl) (by kernel_rfl) (fun _ _ _ h => h) (y_run (by rfl) (fun w _ => by unfold execOp; go_simp)) hHeld ?_
          try simp only [Act.put, List.getElem_toArray, List.getElem_cons_succ, List.getElem_cons_zero, List.setIfInBounds_toArray, List.set_cons_zero, List.set_cons_succ]
          refine wpAnyH_take (i := 8) (v := .int .i64 (p : Int)) rfl (by kernel_rfl) (by kernel_rfl) (by kernel_rfl) (fun _ _ _ h => h) (y_load (by rfl) rfl rfl (fun _ h => blk_cell h 2)) hHeld ?_
          try simp only [Act.put, List.getElem_toArray, List.getElem_cons_succ, List.getElem_cons_zero, List.setIfInBounds_toArray, List.set_cons_zero, List.set_cons_succ]
          refine wpAnyH_take (i := 9) (v := .pointer (some ⟨gl, p, none⟩)) rfl (by kernel_rfl) (by kernel_rfl) (by kernel_rfl) (fun _ _ _ h => h) (y_run (by rfl) (fun w _ => by unfold execOp; go_simp)) hHeld ?_
          try simp only [Act.put, List.getElem_toArray, List.getElem_cons_succ, List.getElem_cons_zero, List.setIfInBounds_toArray, List.set_cons_zero, List.set_cons_succ]
          refine wpAnyH_take (i := 11) (v := .pointer (some ⟨b, 0, none⟩)) rfl (by kernel_rfl) (by kernel_rfl) (by kernel_rfl) (fun _ _ _ h => h) (y_run (by rfl) (fun w _ => by unfold execOp; go_simp)) hHeld ?_
          try simp only [Act.put, List.getElem_toArray, List.getElem_cons_succ, List.getElem_cons_zero, List.setIfInBounds_toArray, List.set_cons_zero, List.set_cons_succ]
          refine wpAnyH_take (i := 12) (v := .int .i64 a0) rfl (by kernel_rfl) (by kernel_rfl) (by kernel_rfl) (fun _ _ _ h => h) (y_load (by rfl) rfl rfl (fun _ h => blk_cell h 0)) hHeld ?_
          try simp only [Act.put, List.getElem_toArray, List.getElem_cons_succ, List.getElem_cons_zero, List.setIfInBounds_toArray, List.set_cons_zero, List.set_cons_succ]
          refine wpAnyH_take (i := 14) (v := .slice (some ⟨gm, 0, none⟩) n n) rfl (by kernel_rfl) (by kernel_rfl) (by kernel_rfl) (fun _ _ _ h => h) (y_move (by rfl) rfl rfl) hHeld ?_
          try simp only [Act.put, List.getElem_toArray, List.getElem_cons_succ, List.getElem_cons_zero, List.setIfInBounds_toArray, List.set_cons_zero, List.set_cons_succ]
          refine wpAnyH_take (i := 15) (v := .pointer (some ⟨b, 2, none⟩)) rfl (by kernel_rfl) (by kernel_rfl) (by kernel_rfl) (fun _ _ _ h => h) (y_run (by rfl) (fun w _ => by unfold execOp; go_simp)) hHeld ?_
          try simp only [Act.put, List.getElem_toArray, List.getElem_cons_succ, List.getElem_cons_zero, List.setIfInBounds_toArray, List.set_cons_zero, List.set_cons_succ]
          refine wpAnyH_take (i := 16) (v := .int .i64 (p : Int)) rfl (by kernel_rfl) (by kernel_rfl) (by kernel_rfl) (fun _ _ _ h => h) (y_load (by rfl) rfl rfl (fun _ h => blk_cell h 2)) hHeld ?_
          try simp only [Act.put, List.getElem_toArray, List.getElem_cons_succ, List.getElem_cons_zero, List.setIfInBounds_toArray, List.set_cons_zero, List.set_cons_succ]
          refine wpAnyH_take (i := 17) (v := .pointer (some ⟨gm, p, none⟩)) rfl (by kernel_rfl) (by kernel_rfl) (by kernel_rfl) (fun _ _ _ h => h) (y_run (by rfl) (fun w _ => by unfold execOp; go_simp)) hHeld ?_
          try simp only [Act.put, List.getElem_toArray, List.getElem_cons_succ, List.getElem_cons_zero, List.setIfInBounds_toArray, List.set_cons_zero, List.set_cons_succ]
          refine wpAnyH_take (i := 19) (v := .pointer (some ⟨b, 1, none⟩)) rfl (by kernel_rfl) (by kernel_rfl) (by kernel_rfl) (fun _ _ _ h => h) (y_run (by rfl) (fun w _ => by unfold execOp; go_simp)) hHeld ?_
          try simp only [Act.put, List.getElem_toArray, List.getElem_cons_succ, List.getElem_cons_zero, List.setIfInBounds_toArray, List.set_cons_zero, List.set_cons_succ]
          refine wpAnyH_take (i := 20) (v := .int .i64 a1) rfl (by kernel_rfl) (by kernel_rfl) (by kernel_rfl) (fun _ _ _ h => h) (y_load (by rfl) rfl rfl (fun _ h => blk_cell h 1)) hHeld ?_
          try simp only [Act.put, List.getElem_toArray, List.getElem_cons_succ, List.getElem_cons_zero, List.setIfInBounds_toArray, List.set_cons_zero, List.set_cons_succ]
          refine wpAnyH_ready (rs := [10, 18]) (by kernel_rfl) (by simp) ?_
          refine AllReadyH.cons rfl (fun K hK => ?_) (AllReadyH.cons rfl (fun K hK => ?_) AllReadyH.nil)
          · skip
            try simp only [Act.put, List.getElem_toArray, List.getElem_cons_succ, List.getElem_cons_zero, List.setIfInBounds_toArray, List.set_cons_zero, List.set_cons_succ]
            rw [if_pos (by rfl)]
            go_simp
            refine hK.out _ _ hHeld (fun hHeld => ?_)
            clear hK K
            try simp only [Act.put, List.getElem_toArray, List.getElem_cons_succ, List.getElem_cons_zero, List.setIfInBounds_toArray, List.set_cons_zero, List.set_cons_succ]
            refine wpAnyH_take (i := 13) (v := .int .i64 (max x a0)) rfl (by kernel_rfl) (by kernel_rfl) (by kernel_rfl) (fun _ _ _ h => h) (y_run (by rfl) (fun w _ => by unfold execOp; go_simp)) hHeld ?_
            try simp only [Act.put, List.getElem_toArray, List.getElem_cons_succ, List.getElem_cons_zero, List.setIfInBounds_toArray, List.set_cons_zero, List.set_cons_succ]
            refine wpAnyH_ready (rs := [18]) (by kernel_rfl) (by simp) ?_
            refine AllReadyH.cons rfl (fun K hK => ?_) AllReadyH.nil
            try simp only [Act.put, List.getElem_toArray, List.getElem_cons_succ, List.getElem_cons_zero, List.setIfInBounds_toArray, List.set_cons_zero, List.set_cons_succ]
            rw [if_pos (by rfl)]
            go_simp
            refine hK.out _ _ hHeld (fun hHeld => ?_)
            clear hK K
            try simp only [Act.put, List.getElem_toArray, List.getElem_cons_succ, List.getElem_cons_zero, List.setIfInBounds_toArray, List.set_cons_zero, List.set_cons_succ]
            refine wpAnyH_take (i := 21) (v := .int .i64 (max y a1)) rfl (by kernel_rfl) (by kernel_rfl) (by kernel_rfl) (fun _ _ _ h => h) (y_run (by rfl) (fun w _ => by unfold execOp; go_simp)) hHeld ?_
            try simp only [Act.put, List.getElem_toArray, List.getElem_cons_succ, List.getElem_cons_zero, List.setIfInBounds_toArray, List.set_cons_zero, List.set_cons_succ]
            refine wpAnyH_take (i := 22) (v := .pointer (some ⟨gl, p, none⟩)) rfl (by kernel_rfl) (by kernel_rfl) (by kernel_rfl) (fun _ _ _ h => h) (y_run (by rfl) (fun w _ => by unfold execOp; go_simp)) hHeld ?_
            try simp only [Act.put, List.getElem_toArray, List.getElem_cons_succ, List.getElem_cons_zero, List.setIfInBounds_toArray, List.set_cons_zero, List.set_cons_succ]
            refine wpAnyH_ready (rs := [23]) (by kernel_rfl) (by simp) ?_
            refine AllReadyH.cons rfl (fun K hK => ?_) AllReadyH.nil
            try simp only [Act.put, List.getElem_toArray, List.getElem_cons_succ, List.getElem_cons_zero, List.setIfInBounds_toArray, List.set_cons_zero, List.set_cons_succ]
            rw [if_pos (by rfl)]
            go_simp
            refine hK.out _ _ (blk_far HB9.out (p := ⟨gl, p, none⟩) (Nat.ne_of_gt HGL.out) _) (fun hHeld => ?_)
            clear hK K
            try simp only [Act.put, List.getElem_toArray, List.getElem_cons_succ, List.getElem_cons_zero, List.setIfInBounds_toArray, List.set_cons_zero, List.set_cons_succ]
            refine wpAnyH_take (i := 24) (v := .pointer (some ⟨gm, p, none⟩)) rfl (by kernel_rfl) (by kernel_rfl) (by kernel_rfl) (fun _ _ _ h => h) (y_run (by rfl) (fun w _ => by unfold execOp; go_simp)) hHeld ?_
            try simp only [Act.put, List.getElem_toArray, List.getElem_cons_succ, List.getElem_cons_zero, List.setIfInBounds_toArray, List.set_cons_zero, List.set_cons_succ]
            obtain ⟨p5, f5⟩ := Z5.out
            refine wpAnyH_ready (rs := [25]) (by kernel_rfl) (by simp) ?_
            refine AllReadyH.cons rfl (fun K hK => ?_) AllReadyH.nil
            try simp only [Act.put, List.getElem_toArray, List.getElem_cons_succ, List.getElem_cons_zero, List.setIfInBounds_toArray, List.set_cons_zero, List.set_cons_succ]
            rw [if_pos (by rfl)]
            go_simp
            refine hK.out _ _ (blk_far (blk_far HB9.out (p := ⟨gl, p, none⟩) (Nat.ne_of_gt HGL.out) _) (p := ⟨gm, p, none⟩) (Nat.ne_of_gt HGM.out) _) (fun hHeld => ?_)
            clear hK K
            try simp only [Act.put, List.getElem_toArray, List.getElem_cons_succ, List.getElem_cons_zero, List.setIfInBounds_toArray, List.set_cons_zero, List.set_cons_succ]
            refine wpAnyH_done (by kernel_rfl) ?_ _
            clear hHeld
            go_wp2_with fail
            go_roundw
            case rel => exact ⟨k + 1, _, _, by omega, by go_num, FIN.out⟩
            case measure => simp [RowKit.intOf]; omega
          · skip
            try simp only [Act.put, List.getElem_toArray, List.getElem_cons_succ, List.getElem_cons_zero, List.setIfInBounds_toArray, List.set_cons_zero, List.set_cons_succ]
            rw [if_pos (by rfl)]
            go_simp
            refine hK.out _ _ hHeld (fun hHeld => ?_)
            clear hK K
            try simp only [Act.put, List.getElem_toArray, List.getElem_cons_succ, List.getElem_cons_zero, List.setIfInBounds_toArray, List.set_cons_zero, List.set_cons_succ]
            refine wpAnyH_take (i := 21) (v := .int .i64 (max y a1)) rfl (by kernel_rfl) (by kernel_rfl) (by kernel_rfl) (fun _ _ _ h => h) (y_run (by rfl) (fun w _ => by unfold execOp; go_simp)) hHeld ?_
            try simp only [Act.put, List.getElem_toArray, List.getElem_cons_succ, List.getElem_cons_zero, List.setIfInBounds_toArray, List.set_cons_zero, List.set_cons_succ]
            refine wpAnyH_ready (rs := [10]) (by kernel_rfl) (by simp) ?_
            refine AllReadyH.cons rfl (fun K hK => ?_) AllReadyH.nil
            try simp only [Act.put, List.getElem_toArray, List.getElem_cons_succ, List.getElem_cons_zero, List.setIfInBounds_toArray, List.set_cons_zero, List.set_cons_succ]
            rw [if_pos (by rfl)]
            go_simp
            refine hK.out _ _ hHeld (fun hHeld => ?_)
            clear hK K
            try simp only [Act.put, List.getElem_toArray, List.getElem_cons_succ, List.getElem_cons_zero, List.setIfInBounds_toArray, List.set_cons_zero, List.set_cons_succ]
            refine wpAnyH_take (i := 13) (v := .int .i64 (max x a0)) rfl (by kernel_rfl) (by kernel_rfl) (by kernel_rfl) (fun _ _ _ h => h) (y_run (by rfl) (fun w _ => by unfold execOp; go_simp)) hHeld ?_
            try simp only [Act.put, List.getElem_toArray, List.getElem_cons_succ, List.getElem_cons_zero, List.setIfInBounds_toArray, List.set_cons_zero, List.set_cons_succ]
            refine wpAnyH_take (i := 22) (v := .pointer (some ⟨gl, p, none⟩)) rfl (by kernel_rfl) (by kernel_rfl) (by kernel_rfl) (fun _ _ _ h => h) (y_run (by rfl) (fun w _ => by unfold execOp; go_simp)) hHeld ?_
            try simp only [Act.put, List.getElem_toArray, List.getElem_cons_succ, List.getElem_cons_zero, List.setIfInBounds_toArray, List.set_cons_zero, List.set_cons_succ]
            refine wpAnyH_ready (rs := [23]) (by kernel_rfl) (by simp) ?_
            refine AllReadyH.cons rfl (fun K hK => ?_) AllReadyH.nil
            try simp only [Act.put, List.getElem_toArray, List.getElem_cons_succ, List.getElem_cons_zero, List.setIfInBounds_toArray, List.set_cons_zero, List.set_cons_succ]
            rw [if_pos (by rfl)]
            go_simp
            refine hK.out _ _ (blk_far HB9.out (p := ⟨gl, p, none⟩) (Nat.ne_of_gt HGL.out) _) (fun hHeld => ?_)
            clear hK K
            try simp only [Act.put, List.getElem_toArray, List.getElem_cons_succ, List.getElem_cons_zero, List.setIfInBounds_toArray, List.set_cons_zero, List.set_cons_succ]
            refine wpAnyH_take (i := 24) (v := .pointer (some ⟨gm, p, none⟩)) rfl (by kernel_rfl) (by kernel_rfl) (by kernel_rfl) (fun _ _ _ h => h) (y_run (by rfl) (fun w _ => by unfold execOp; go_simp)) hHeld ?_
            try simp only [Act.put, List.getElem_toArray, List.getElem_cons_succ, List.getElem_cons_zero, List.setIfInBounds_toArray, List.set_cons_zero, List.set_cons_succ]
            obtain ⟨p5, f5⟩ := Z5.out
            refine wpAnyH_ready (rs := [25]) (by kernel_rfl) (by simp) ?_
            refine AllReadyH.cons rfl (fun K hK => ?_) AllReadyH.nil
            try simp only [Act.put, List.getElem_toArray, List.getElem_cons_succ, List.getElem_cons_zero, List.setIfInBounds_toArray, List.set_cons_zero, List.set_cons_succ]
            rw [if_pos (by rfl)]
            go_simp
            refine hK.out _ _ (blk_far (blk_far HB9.out (p := ⟨gl, p, none⟩) (Nat.ne_of_gt HGL.out) _) (p := ⟨gm, p, none⟩) (Nat.ne_of_gt HGM.out) _) (fun hHeld => ?_)
            clear hK K
            try simp only [Act.put, List.getElem_toArray, List.getElem_cons_succ, List.getElem_cons_zero, List.setIfInBounds_toArray, List.set_cons_zero, List.set_cons_succ]
            refine wpAnyH_done (by kernel_rfl) ?_ _
            clear hHeld
            go_wp2_with fail
            go_roundw
            case rel => exact ⟨k + 1, _, _, by omega, by go_num, FIN.out⟩
            case measure => simp [RowKit.intOf]; omega
        · obtain ⟨s, rfl⟩ : ∃ s : Nat, cs3 = (s : Int) := ⟨cs3.toNat, by omega⟩
          have n1 : ((s : Int) == 1) = false := by simp; omega
          have hps : p + s ≤ n := by omega
          have hs1 : 1 ≤ s := by omega
          have hs50 : s ≤ 50 := by omega
          have hb9 : (wr.alloc (.cells #[.int .i64 a0, .int .i64 a1, .int .i64 (p : Int), .int .i64 (s : Int)] 108)).heap[wr.heap.size]? = some (.cells #[.int .i64 a0, .int .i64 a1, .int .i64 (p : Int), .int .i64 (s : Int)] 108 (0, 0)) := blk_new wr _
          have O1 := pw_own_below hO1.out (below_alloc (Below.refl _ _) (.cells #[.int .i64 a0, .int .i64 a1, .int .i64 (p : Int), .int .i64 (s : Int)] 108))
          have O2 := pw_own_below hO2.out (below_alloc (Below.refl _ _) (.cells #[.int .i64 a0, .int .i64 a1, .int .i64 (p : Int), .int .i64 (s : Int)] 108))
          have hgsz : g < wr.heap.size := World.block_lt_of_cell? wr _ x0
          have R4 : RowAt (wr.alloc (.cells #[.int .i64 a0, .int .i64 a1, .int .i64 (p : Int), .int .i64 (s : Int)] 108)) (some ⟨g, 0, none⟩) N ys g := rowAt_keep hRA.out (Below.heap_alloc wr _ g hgsz)
          have B4 := below_alloc hB.out (.cells #[.int .i64 a0, .int .i64 a1, .int .i64 (p : Int), .int .i64 (s : Int)] 108)
          have hgl := own_lt hO1.out gl rfl
          have hgm := own_lt hO2.out gm rfl
          have O1h := Lib.hid O1
          have O2h := Lib.hid O2
          have R4h := Lib.hid R4
          have B4h := Lib.hid B4
          have HB0 := Lib.hid hb9
          clear hO1 hO2 hRA hB OL OM R3 B3 hD DZ O1 O2 R4 B4 hb9
          go_upto_region 10 with fail
          obtain ⟨b, hb⟩ : ∃ b, wr.heap.size = b := ⟨_, rfl⟩
          rw [hb] at HB0 hgl hgm hgsz ⊢
          generalize wr.alloc (.cells #[.int .i64 a0, .int .i64 a1, .int .i64 (p : Int), .int .i64 (s : Int)] 108) = w2 at *
          clear x0 x1 x2 x3 hb
          obtain ⟨e, he⟩ : ∃ e, e = p + s := ⟨_, rfl⟩
          have HE : Hid ((p : Int) + (s : Int) = (e : Int)) := Lib.hid (by omega)
          have hpe : p ≤ e := by omega
          have hen : e ≤ n := by omega
          have hes : 1 ≤ e - p ∧ e - p ≤ 50 := by omega
          have HSE : Hid (e - p = s) := Lib.hid (by omega)
          rw [HE.out]
          have HGB := Lib.hid (And.intro hgl (And.intro hgm hgsz))
          have hbs := blk_lt HB0.out
          have HB9 := Lib.hid (blk_drew HB0.out)
          have O1d := Lib.hid (pw_own_below O1h.out (Below.refl _ _).drew)
          have O2d := Lib.hid (pw_own_below O2h.out (Below.refl _ _).drew)
          have R4d := Lib.hid (rowAt_keep (w' := w2.drew) R4h.out rfl)
          have B4d := Lib.hid B4h.out.drew
          have hbs2 : b < w2.drew.heap.size := hbs
          clear he hgl hgm hgsz HB0 O1h O2h R4h B4h hbs
          refine wp_region_held_drew (S := fun W => W.heap[b]? = some (.cells #[.int .i64 a0, .int .i64 a1, .int .i64 (p : Int), .int .i64 (s : Int)] 108 (0, 0))) (by kernel_rfl) HB9.out (fun hHeld => ?_)
          refine wpAnyH_take (i := 0) (v := .slice (some ⟨gl, 0, none⟩) n n) rfl (by kernel_rfl) (by kernel_rfl) (by kernel_rfl) (fun _ _ _ h => h) (y_move (by rfl) rfl rfl) hHeld ?_
          try simp only [Act.put, List.getElem_toArray, List.getElem_cons_succ, List.getElem_cons_zero, List.setIfInBounds_toArray, List.set_cons_zero, List.set_cons_succ]
          refine wpAnyH_take (i := 1) (v := .pointer (some ⟨b, 2, none⟩)) rfl (by kernel_rfl) (by kernel_rfl) (by kernel_rfl) (fun _ _ _ h => h) (y_run (by rfl) (fun w _ => by unfold execOp; go_simp)) hHeld ?_
          try simp only [Act.put, List.getElem_toArray, List.getElem_cons_succ, List.getElem_cons_zero, List.setIfInBounds_toArray, List.set_cons_zero, List.set_cons_succ]
          refine wpAnyH_take (i := 2) (v := .int .i64 (p : Int)) rfl (by kernel_rfl) (by kernel_rfl) (by kernel_rfl) (fun _ _ _ h => h) (y_load (by rfl) rfl rfl (fun _ h => blk_cell h 2)) hHeld ?_
          try simp only [Act.put, List.getElem_toArray, List.getElem_cons_succ, List.getElem_cons_zero, List.setIfInBounds_toArray, List.set_cons_zero, List.set_cons_succ]
          refine wpAnyH_take (i := 3) (v := .int .i64 (e : Int)) rfl (by kernel_rfl) (by kernel_rfl) (by kernel_rfl) (fun _ _ _ h => h) (y_move (by rfl) rfl rfl) hHeld ?_
          try simp only [Act.put, List.getElem_toArray, List.getElem_cons_succ, List.getElem_cons_zero, List.setIfInBounds_toArray, List.set_cons_zero, List.set_cons_succ]
          refine wpAnyH_take (i := 4) (v := .slice (some ⟨gl, p, none⟩) (e - p) (n - p)) rfl (by kernel_rfl) (by kernel_rfl) (by kernel_rfl) (fun _ _ _ h => h) (y_run (by rfl) (fun w _ => by unfold execOp; go_simp; omega)) hHeld ?_
          try simp only [Act.put, List.getElem_toArray, List.getElem_cons_succ, List.getElem_cons_zero, List.setIfInBounds_toArray, List.set_cons_zero, List.set_cons_succ]
          refine wpAnyH_take (i := 5) (v := .pointer (some ⟨b, 0, none⟩)) rfl (by kernel_rfl) (by kernel_rfl) (by kernel_rfl) (fun _ _ _ h => h) (y_run (by rfl) (fun w _ => by unfold execOp; go_simp)) hHeld ?_
          try simp only [Act.put, List.getElem_toArray, List.getElem_cons_succ, List.getElem_cons_zero, List.setIfInBounds_toArray, List.set_cons_zero, List.set_cons_succ]
          refine wpAnyH_take (i := 6) (v := .int .i64 a0) rfl (by kernel_rfl) (by kernel_rfl) (by kernel_rfl) (fun _ _ _ h => h) (y_load (by rfl) rfl rfl (fun _ h => blk_cell h 0)) hHeld ?_
          try simp only [Act.put, List.getElem_toArray, List.getElem_cons_succ, List.getElem_cons_zero, List.setIfInBounds_toArray, List.set_cons_zero, List.set_cons_succ]
          refine wpAnyH_take (i := 7) (v := .slice (some ⟨gm, 0, none⟩) n n) rfl (by kernel_rfl) (by kernel_rfl) (by kernel_rfl) (fun _ _ _ h => h) (y_move (by rfl) rfl rfl) hHeld ?_
          try simp only [Act.put, List.getElem_toArray, List.getElem_cons_succ, List.getElem_cons_zero, List.setIfInBounds_toArray, List.set_cons_zero, List.set_cons_succ]
          refine wpAnyH_take (i := 8) (v := .pointer (some ⟨b, 2, none⟩)) rfl (by kernel_rfl) (by kernel_rfl) (by kernel_rfl) (fun _ _ _ h => h) (y_run (by rfl) (fun w _ => by unfold execOp; go_simp)) hHeld ?_
          try simp only [Act.put, List.getElem_toArray, List.getElem_cons_succ, List.getElem_cons_zero, List.setIfInBounds_toArray, List.set_cons_zero, List.set_cons_succ]
          refine wpAnyH_take (i := 9) (v := .int .i64 (p : Int)) rfl (by kernel_rfl) (by kernel_rfl) (by kernel_rfl) (fun _ _ _ h => h) (y_load (by rfl) rfl rfl (fun _ h => blk_cell h 2)) hHeld ?_
          try simp only [Act.put, List.getElem_toArray, List.getElem_cons_succ, List.getElem_cons_zero, List.setIfInBounds_toArray, List.set_cons_zero, List.set_cons_succ]
          refine wpAnyH_take (i := 10) (v := .int .i64 (e : Int)) rfl (by kernel_rfl) (by kernel_rfl) (by kernel_rfl) (fun _ _ _ h => h) (y_move (by rfl) rfl rfl) hHeld ?_
          try simp only [Act.put, List.getElem_toArray, List.getElem_cons_succ, List.getElem_cons_zero, List.setIfInBounds_toArray, List.set_cons_zero, List.set_cons_succ]
          refine wpAnyH_take (i := 11) (v := .slice (some ⟨gm, p, none⟩) (e - p) (n - p)) rfl (by kernel_rfl) (by kernel_rfl) (by kernel_rfl) (fun _ _ _ h => h) (y_run (by rfl) (fun w _ => by unfold execOp; go_simp; omega)) hHeld ?_
          try simp only [Act.put, List.getElem_toArray, List.getElem_cons_succ, List.getElem_cons_zero, List.setIfInBounds_toArray, List.set_cons_zero, List.set_cons_succ]
          refine wpAnyH_ready (rs := [12]) (by kernel_rfl) (by simp) ?_
          refine AllReadyH.cons rfl (fun K hK => ?_) AllReadyH.nil
          try simp only [Act.put, List.getElem_toArray, List.getElem_cons_succ, List.getElem_cons_zero, List.setIfInBounds_toArray, List.set_cons_zero, List.set_cons_succ]
          rw [if_pos (by rfl)]
          go_simp
          generalize w2.drew = w3 at *
          refine (clone_c O2d.out p (e - p) (n - p) (by omega) (by omega)).mono ?_
          rintro e' w4 ⟨Ab, cb, rfl, hRb, hB4⟩
          have hb4 := blk_below HB9.out hB4
          have O14 := Lib.hid (pw_own_below O1d.out hB4)
          have O24 := Lib.hid (pw_own_below O2d.out hB4)
          have R44 := Lib.hid (rowAt_keep R4d.out (hB4.block g (by have := HGB.out; omega)))
          have B44 := Lib.hid (below_then B4d.out B4d.out.size hB4)
          have HRB := Lib.hid hRb
          have hbs4 : b < w4.heap.size := blk_lt hb4
          have HB4 := Lib.hid hb4
          clear hRb hB4 hHeld O1d O2d R4d B4d hbs2
          refine hK.out _ _ HB4.out (fun hHeld => ?_)
          clear hK K
          try simp only [Act.put, List.getElem_toArray, List.getElem_cons_succ, List.getElem_cons_zero, List.setIfInBounds_toArray, List.set_cons_zero, List.set_cons_succ]
          refine wpAnyH_ready (rs := [13]) (by kernel_rfl) (by simp) ?_
          refine AllReadyH.cons rfl (fun K hK => ?_) AllReadyH.nil
          try simp only [Act.put, List.getElem_toArray, List.getElem_cons_succ, List.getElem_cons_zero, List.setIfInBounds_toArray, List.set_cons_zero, List.set_cons_succ]
          rw [if_pos (by rfl)]
          go_simp
          refine (widen_c w.heap.size gl n n p (e - p) (n - p) ls (seg ms p (e - p)) a0 Ab cb w4 O14.out GLS.out HRB.out (good_seg GMS.out p (e - p)) (by omega) (by omega) (by omega) (by omega) q5 q6).mono ?_
          rintro e' w5 ⟨ls', rfl, hW1, hO5, hG5⟩
          have hb5 := (hG5.block b hbs4 (by have := HGB.out; intro e; injection e with e; omega)).trans HB4.out
          have O15 := Lib.hid (pw_own_below hO5 (Below.refl _ _).drew)
          have O25 := Lib.hid (pw_own_below (Go.Proofs.YtfkgpkkjiolfpaaW.PrintWords.own_other O24.out hG5 (.inr (by simp only [Value.ownBlock]; intro e; injection e with e; omega))) (Below.refl _ _).drew)
          have R45 := Lib.hid (rowAt_keep (w' := w5.drew) R44.out (hG5.block g (by have := HGB.out; omega) (by intro e; injection e with e; omega)))
          have B45 := Lib.hid (below_grown B44.out hG5 hll B44.out.size).drew
          have HB5 := Lib.hid hb5
          have HW1 := Lib.hid hW1
          have hbs5 : b < w5.drew.heap.size := blk_lt hb5
          clear hW1 hO5 hG5 hb4 O14 O24 R44 B44 HRB hHeld
          refine hK.out _ _ HB5.out (fun hHeld => ?_)
          clear hK K
          try simp only [Act.put, List.getElem_toArray, List.getElem_cons_succ, List.getElem_cons_zero, List.setIfInBounds_toArray, List.set_cons_zero, List.set_cons_succ]
          refine wpAnyH_done (by kernel_rfl) ?_ _
          clear hHeld
          go_wp2_with fail
          clear hb5
          refine wp_region_held_drew (S := fun W => W.heap[b]? = some (.cells #[.int .i64 a0, .int .i64 a1, .int .i64 (p : Int), .int .i64 (s : Int)] 108 (0, 0))) (by kernel_rfl) (blk_drew HB5.out) (fun hHeld => ?_)
          refine wpAnyH_take (i := 0) (v := .slice (some ⟨gm, 0, none⟩) n n) rfl (by kernel_rfl) (by kernel_rfl) (by kernel_rfl) (fun _ _ _ h => h) (y_move (by rfl) rfl rfl) hHeld ?_
          try simp only [Act.put, List.getElem_toArray, List.getElem_cons_succ, List.getElem_cons_zero, List.setIfInBounds_toArray, List.set_cons_zero, List.set_cons_succ]
          refine wpAnyH_take (i := 1) (v := .pointer (some ⟨b, 2, none⟩)) rfl (by kernel_rfl) (by kernel_rfl) (by kernel_rfl) (fun _ _ _ h => h) (y_run (by rfl) (fun w _ => by unfold execOp; go_simp)) hHeld ?_
          try simp only [Act.put, List.getElem_toArray, List.getElem_cons_succ, List.getElem_cons_zero, List.setIfInBounds_toArray, List.set_cons_zero, List.set_cons_succ]
          refine wpAnyH_take (i := 2) (v := .int .i64 (p : Int)) rfl (by kernel_rfl) (by kernel_rfl) (by kernel_rfl) (fun _ _ _ h => h) (y_load (by rfl) rfl rfl (fun _ h => blk_cell h 2)) hHeld ?_
          try simp only [Act.put, List.getElem_toArray, List.getElem_cons_succ, List.getElem_cons_zero, List.setIfInBounds_toArray, List.set_cons_zero, List.set_cons_succ]
          refine wpAnyH_take (i := 3) (v := .int .i64 (e : Int)) rfl (by kernel_rfl) (by kernel_rfl) (by kernel_rfl) (fun _ _ _ h => h) (y_move (by rfl) rfl rfl) hHeld ?_
          try simp only [Act.put, List.getElem_toArray, List.getElem_cons_succ, List.getElem_cons_zero, List.setIfInBounds_toArray, List.set_cons_zero, List.set_cons_succ]
          refine wpAnyH_take (i := 4) (v := .slice (some ⟨gm, p, none⟩) (e - p) (n - p)) rfl (by kernel_rfl) (by kernel_rfl) (by kernel_rfl) (fun _ _ _ h => h) (y_run (by rfl) (fun w _ => by unfold execOp; go_simp; omega)) hHeld ?_
          try simp only [Act.put, List.getElem_toArray, List.getElem_cons_succ, List.getElem_cons_zero, List.setIfInBounds_toArray, List.set_cons_zero, List.set_cons_succ]
          refine wpAnyH_take (i := 5) (v := .pointer (some ⟨b, 1, none⟩)) rfl (by kernel_rfl) (by kernel_rfl) (by kernel_rfl) (fun _ _ _ h => h) (y_run (by rfl) (fun w _ => by unfold execOp; go_simp)) hHeld ?_
          try simp only [Act.put, List.getElem_toArray, List.getElem_cons_succ, List.getElem_cons_zero, List.setIfInBounds_toArray, List.set_cons_zero, List.set_cons_succ]
          refine wpAnyH_take (i := 6) (v := .int .i64 a1) rfl (by kernel_rfl) (by kernel_rfl) (by kernel_rfl) (fun _ _ _ h => h) (y_load (by rfl) rfl rfl (fun _ h => blk_cell h 1)) hHeld ?_
          try simp only [Act.put, List.getElem_toArray, List.getElem_cons_succ, List.getElem_cons_zero, List.setIfInBounds_toArray, List.set_cons_zero, List.set_cons_succ]
          refine wpAnyH_take (i := 7) (v := .slice (some ⟨gm, 0, none⟩) n n) rfl (by kernel_rfl) (by kernel_rfl) (by kernel_rfl) (fun _ _ _ h => h) (y_move (by rfl) rfl rfl) hHeld ?_
          try simp only [Act.put, List.getElem_toArray, List.getElem_cons_succ, List.getElem_cons_zero, List.setIfInBounds_toArray, List.set_cons_zero, List.set_cons_succ]
          refine wpAnyH_take (i := 8) (v := .pointer (some ⟨b, 2, none⟩)) rfl (by kernel_rfl) (by kernel_rfl) (by kernel_rfl) (fun _ _ _ h => h) (y_run (by rfl) (fun w _ => by unfold execOp; go_simp)) hHeld ?_
          try simp only [Act.put, List.getElem_toArray, List.getElem_cons_succ, List.getElem_cons_zero, List.setIfInBounds_toArray, List.set_cons_zero, List.set_cons_succ]
          refine wpAnyH_take (i := 9) (v := .int .i64 (p : Int)) rfl (by kernel_rfl) (by kernel_rfl) (by kernel_rfl) (fun _ _ _ h => h) (y_load (by rfl) rfl rfl (fun _ h => blk_cell h 2)) hHeld ?_
          try simp only [Act.put, List.getElem_toArray, List.getElem_cons_succ, List.getElem_cons_zero, List.setIfInBounds_toArray, List.set_cons_zero, List.set_cons_succ]
          refine wpAnyH_take (i := 10) (v := .int .i64 (e : Int)) rfl (by kernel_rfl) (by kernel_rfl) (by kernel_rfl) (fun _ _ _ h => h) (y_move (by rfl) rfl rfl) hHeld ?_
          try simp only [Act.put, List.getElem_toArray, List.getElem_cons_succ, List.getElem_cons_zero, List.setIfInBounds_toArray, List.set_cons_zero, List.set_cons_succ]
          refine wpAnyH_take (i := 11) (v := .slice (some ⟨gm, p, none⟩) (e - p) (n - p)) rfl (by kernel_rfl) (by kernel_rfl) (by kernel_rfl) (fun _ _ _ h => h) (y_run (by rfl) (fun w _ => by unfold execOp; go_simp; omega)) hHeld ?_
          try simp only [Act.put, List.getElem_toArray, List.getElem_cons_succ, List.getElem_cons_zero, List.setIfInBounds_toArray, List.set_cons_zero, List.set_cons_succ]
          refine wpAnyH_ready (rs := [12]) (by kernel_rfl) (by simp) ?_
          refine AllReadyH.cons rfl (fun K hK => ?_) AllReadyH.nil
          try simp only [Act.put, List.getElem_toArray, List.getElem_cons_succ, List.getElem_cons_zero, List.setIfInBounds_toArray, List.set_cons_zero, List.set_cons_succ]
          rw [if_pos (by rfl)]
          go_simp
          have HB5d := Lib.hid (blk_drew HB5.out)
          generalize w5.drew = w6 at *
          refine (clone_c O25.out p (e - p) (n - p) (by omega) (by omega)).mono ?_
          rintro e' w7 ⟨Ac, cc, rfl, hRb, hB4⟩
          have hb7 := blk_below HB5d.out hB4
          have O17 := Lib.hid (pw_own_below O15.out hB4)
          have O27 := Lib.hid (pw_own_below O25.out hB4)
          have R47 := Lib.hid (rowAt_keep R45.out (hB4.block g (by have := HGB.out; omega)))
          have B47 := Lib.hid (below_then B45.out B45.out.size hB4)
          have HRB := Lib.hid hRb
          have hbs7 : b < w7.heap.size := blk_lt hb7
          have HB7 := Lib.hid hb7
          clear hRb hB4 hHeld O15 O25 R45 B45 hb7
          refine hK.out _ _ HB7.out (fun hHeld => ?_)
          clear hK K
          try simp only [Act.put, List.getElem_toArray, List.getElem_cons_succ, List.getElem_cons_zero, List.setIfInBounds_toArray, List.set_cons_zero, List.set_cons_succ]
          refine wpAnyH_ready (rs := [13]) (by kernel_rfl) (by simp) ?_
          refine AllReadyH.cons rfl (fun K hK => ?_) AllReadyH.nil
          try simp only [Act.put, List.getElem_toArray, List.getElem_cons_succ, List.getElem_cons_zero, List.setIfInBounds_toArray, List.set_cons_zero, List.set_cons_succ]
          rw [if_pos (by rfl)]
          go_simp
          refine (widen_c w.heap.size gm n n p (e - p) (n - p) ms (seg ms p (e - p)) a1 Ac cc w7 O27.out GMS.out HRB.out (good_seg GMS.out p (e - p)) (by omega) (by omega) (by omega) (by omega) q7 q8).mono ?_
          rintro e' w8 ⟨ms', rfl, hW2, hO8, hG8⟩
          have hb8 := (hG8.block b hbs7 (by have := HGB.out; intro e; injection e with e; omega)).trans HB7.out
          obtain ⟨u1, u2, u3, u4⟩ := HW1.out
          obtain ⟨t1, t2, t3, t4⟩ := hW2
          rw [HSE.out] at u4 t4
          have hd := DS.out ls' ms' (by omega) (by omega) u2 t2 u3 t3 ⟨by simpa using u4, by simpa using t4⟩
          have FIN := Lib.hid (And.intro (Lib.hid (Go.Proofs.YtfkgpkkjiolfpaaW.PrintWords.own_other O17.out hG8 (.inr (by simp only [Value.ownBlock]; intro e; injection e with e; omega)))) (And.intro (Lib.hid hO8) (And.intro (Lib.hid hd) (And.intro (Lib.hid (rowAt_keep R47.out (hG8.block g (by have := HGB.out; omega) (by intro e; injection e with e; omega)))) (Lib.hid (below_grown B47.out hG8 hlm B47.out.size))))))
          clear u1 u2 u3 u4 t1 t2 t3 t4 hd hO8 hG8 HW1 O17 O27 R47 B47 HRB hHeld
          refine hK.out _ _ hb8 (fun hHeld => ?_)
          clear hK K
          try simp only [Act.put, List.getElem_toArray, List.getElem_cons_succ, List.getElem_cons_zero, List.setIfInBounds_toArray, List.set_cons_zero, List.set_cons_succ]
          refine wpAnyH_done (by kernel_rfl) ?_ _
          clear hHeld
          go_wp2_with fail
          go_roundw
          case rel => exact ⟨k + 1, ls', ms', by omega, by go_num, FIN.out⟩
          case measure => simp [RowKit.intOf]; omega
      · obtain rfl : k = N := by omega
        have HLL : ls.length = n := hD.out.1
        have HML : ms.length = n := hD.out.2.1
        have HF := Lib.hid (cols_end HP.out OKK.out (by rw [hyl]; exact hD.out))
        have O1 := hO1
        have O2 : Hid (wr.ownsRow w.heap.size 3 1 (.slice (some ⟨gm, 0, none⟩) n n) n (nums .i64 (zipK max ms ls 0))) := by rw [zip_zero]; exact hO2
        clear hD
        clear hO1 hO2 OL OM R3 B3 hRA
        go_wp2_with fail
        go_loopw [92] (fun i wv => ∃ j : Nat, j ≤ n ∧ i = .int .i64 j ∧ Hid (wv.ownsRow w.heap.size 3 1 (.slice (some ⟨gm, 0, none⟩) n n) n (nums .i64 (zipK max ms ls j))) ∧ Hid (wv.ownsRow w.heap.size 3 1 (.slice (some ⟨gl, 0, none⟩) n n) n (nums .i64 ls)) ∧ Hid (Below w.heap.size w wv)) (fun i _ => n - (RowKit.intOf i).toNat)
        case atStart => exact ⟨0, Nat.zero_le _, rfl, O2, O1, hB⟩
        case round =>
          obtain ⟨j, hj, rfl, hP, hQ, hB6⟩ := hrel
          by_cases hlt2 : j < n
          · obtain ⟨p1, f1⟩ := own_at hP.out (j : Int) (by omega) (by omega)
            obtain ⟨p2, -⟩ := own_at hQ.out (j : Int) (by omega) (by omega)
            have r1 : rd (zipK max ms ls j) (j : Int) = ms.getD j 0 := by
              rw [show rd (zipK max ms ls j) (j : Int) = (zipK max ms ls j).getD j 0 by simp [rd], zip_get _ _ _ _ _ (by omega), if_neg (by omega)]
            have r2 : rd ls (j : Int) = ls.getD j 0 := by simp [rd]
            rw [r1, Int.toNat_natCast] at p1
            rw [Int.toNat_natCast] at f1
            rw [r2, Int.toNat_natCast] at p2
            have hw1 := (own_store (pw_own_below hP.out (Below.refl _ _).drew) (j : Int) (max (ms.getD j 0) (ls.getD j 0))).1
            rw [Int.toNat_natCast, zip_set max ms ls j (by omega)] at hw1
            have hw2 := own_other (pw_own_below hQ.out (Below.refl _ _).drew) hne j (.int .i64 (max (ms.getD j 0) (ls.getD j 0)))
            have hw3 := hB6.out.drew.setCell (p := ⟨gm, j, none⟩) hlm (.int .i64 (max (ms.getD j 0) (ls.getD j 0)))
            generalize ms.getD j 0 = x at *
            generalize ls.getD j 0 = y at *
            have W1 := Lib.hid hw1
            have W2 := Lib.hid hw2
            have W3 := Lib.hid hw3
            clear hw1 hw2 hw3 r1 r2 hP hQ hB6
            go_wp2_with fail
            refine wp_region_still_tail 11 (by kernel_rfl) (by kernel_rfl) ?_
            simp only [List.take_succ_cons, List.take_zero, List.drop_succ_cons, List.drop_zero]
            change wpStill _ _ (World.drew wr) (fun a' => wpList _ _ _ _ a' (World.drew wr)) _ _
            iterate 11 still_step
            refine wpStill_nil ?_
            go_wp2_with fail
            go_roundw
            case rel => exact ⟨j + 1, by omega, by go_num, W1, W2, W3⟩
            case measure => simp [RowKit.intOf]; omega
          · obtain rfl : j = n := by omega
            go_wp2_with fail
            go_ret2
            exact ⟨_, _, ls, zipK max ms ls j, rfl, hQ.out, hP.out, HF.out, hB6.out⟩)
end Go.Proofs.Ytfkgpkkjiolfpaa.Tab
