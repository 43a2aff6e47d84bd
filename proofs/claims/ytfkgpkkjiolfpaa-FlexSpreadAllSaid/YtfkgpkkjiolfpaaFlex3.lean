/- Flexible rows: the items, cut. For every input. -/
import Derived.Test.YtfkgpkkjiolfpaaFlex2
import Derived.StillTailTactics
import Derived.OwnWalk
namespace Go.Proofs.Ytfkgpkkjiolfpaa.Flx
open Go.RowKit Go.Lib Go.Proofs.Ytfkgpkkjiolfpaa.Rgn Go.Proofs.Ytfkgpkkjiolfpaa.Pl Go.Proofs.Ytfkgpkkjiolfpaa.Fx Go.Proofs.Ytfkgpkkjiolfpaa.Sh Go.Proofs.YtfkgpkkjiolfpaaW.PrintWords Go.Proofs.YtfkgpkkjiolfpaaW.PrintLast Go.Proofs.YtfkgpkkjiolfpaaW.PrintMore
set_option linter.unusedVariables false
set_option linter.unusedSimpArgs false
attribute [local go_sem] mx2 mn2 mx_two mn_two mx_three mn_three

theorem infoI : (Try.prog.info? 95).map (fun i => (i.zero, i.size, i.bytes)) = some (some (.agg (itV z95).toArray), k95.sz, 72) := by kernel_rfl
/-- The items made so far. -/
def someI (l : List LF) (k : Nat) : List It := (List.range l.length).map fun j => if j < k then mkIt (l.getD j z37) else z95
theorem someI_len (l : List LF) (k : Nat) : (someI l k).length = l.length := by simp [someI]
theorem someI_zero (l : List LF) : someI l 0 = List.replicate l.length z95 := by
  unfold someI
  rw [show (fun j => if j < 0 then mkIt (l.getD j z37) else z95) = fun _ => z95 from by funext j; simp]
  rw [List.map_const']; simp
theorem someI_all (l : List LF) : someI l l.length = l.map mkIt := by
  apply List.ext_getElem
  · simp [someI]
  · intro i h1 h2
    have hi : i < l.length := by simpa [someI] using h1
    simp [someI, hi, List.getD_eq_getElem?_getD]
theorem someI_set (l : List LF) (k : Nat) (hk : k < l.length) : (someI l k).set k (mkIt (l.getD k z37)) = someI l (k + 1) := by
  apply List.ext_getElem
  · simp [someI]
  · intro i h1 h2
    have hi : i < l.length := by simpa [someI] using h2
    rw [List.getElem_set]
    by_cases hik : k = i
    · subst hik
      simp [someI]
    · rw [if_neg hik]
      simp only [someI, List.getElem_map, List.getElem_range]
      by_cases h3 : i < k
      · rw [if_pos h3, if_pos (by omega)]
      · rw [if_neg h3, if_neg (by omega)]
theorem thereB {w : World} {b n : Nat} {cs : Array Value} {t : TypeId} (h : w.heap[b]? = some (.cells cs t (0, 0))) (hn : cs.size = n) : w.there b 0 n := fun j hj => by
  rw [Nat.zero_add]
  exact ⟨by rw [blk_cell h j, Array.getElem?_eq_getElem (by omega)]; rfl, blk_frozen h j⟩
theorem setCellsFar (b i : Nat) (hi : i ≠ b) : ∀ (vs : List Value) (o : Nat) (W : World), (W.setCells b o vs).heap[i]? = W.heap[i]?
  | [], _, _ => rfl
  | v :: vs, o, W => by
    rw [World.setCells, setCellsFar b i hi vs (o + 1) _]
    exact Below.heap_setCell W ⟨b, o, none⟩ v i hi
theorem setCellsBlk (b : Nat) (t : TypeId) : ∀ (vs pre old : List Value) (W : World), W.heap[b]? = some (.cells (pre ++ old).toArray t (0, 0)) → old.length = vs.length → (W.setCells b pre.length vs).heap[b]? = some (.cells (pre ++ vs).toArray t (0, 0))
  | [], pre, old, W, h, hl => by
    have : old = [] := List.eq_nil_of_length_eq_zero hl
    subst this
    exact h
  | v :: vs, pre, old, W, h, hl => by
    cases old with
    | nil => simp at hl
    | cons x old =>
      rw [World.setCells]
      have h1 := blk_set h pre.length v
      have e : ((pre ++ x :: old).toArray).setIfInBounds pre.length v = ((pre ++ [v]) ++ old).toArray := by
        rw [List.setIfInBounds_toArray, List.set_append_right (h := by omega)]
        simp
      rw [e] at h1
      have h2 := setCellsBlk b t vs (pre ++ [v]) old _ h1 (by simpa using hl)
      rw [List.length_append, List.length_singleton] at h2
      rw [h2]
      simp
theorem setCellsBelow {B : Nat} {w : World} (b : Nat) (hb : B ≤ b) : ∀ (vs : List Value) (o : Nat) (W : World), Below B w W → Below B w (W.setCells b o vs)
  | [], _, _, h => h
  | v :: vs, o, W, h => by
    rw [World.setCells]
    exact setCellsBelow b hb vs (o + 1) _ (h.setCell (p := ⟨b, o, none⟩) hb v)
/-- A block put anew, whole; a row of another type is as it was. -/
theorem put_block {α : Type} {d : Kd α} {e base B : Nat} {ok : Nat → Prop} {v : Value} {xs : List α} {w0 W : World} {b t : Nat} {old : List Value} (vs : List Value) (hb : W.heap[b]? = some (.cells old.toArray t (0, 0))) (hl : old.length = vs.length)
    (hR : d.R e W base ok v xs) (ht : ∀ q, q ∈ e :: d.E → q ≠ t) (hB : Below B w0 W) (hbb : B ≤ b) :
    ∃ W1, W.setCells b 0 vs = W1 ∧ W1.heap[b]? = some (.cells vs.toArray t (0, 0)) ∧ d.R e W1 base ok v xs ∧ Below B w0 W1 :=
  ⟨_, rfl, setCellsBlk b t vs [] old W (by rw [List.nil_append]; exact hb) hl, Kd.R_mono (Kd.R_step (Kd.R_types hR hb ht) (fun k hk _ => setCellsFar b k hk.2 _ _ _)) (fun _ hk => hk.1), setCellsBelow b hbb _ _ _ hB⟩
def ItemsPost (l : List LF) (w : World) (e : Ending) (w' : World) : Prop := ∃ v, e = .returned v ∧ Kd.R k95 95 w' w.heap.size (fun _ => True) v (l.map mkIt) ∧ Below w.heap.size w w'

set_option maxRecDepth 100000 in
set_option maxHeartbeats 2000000 in
theorem items_c (A : Option Addr) (n c : Nat) (l : List LF) (w : World) (hC : Kd.C k37 w A n l) (hn : n ≤ 1000) :
    Calls Try.prog 44 #[.slice A n c] w (ItemsPost l w) := by
  have hln : l.length = n := hC.1
  have LN := Lib.hid hln
  have HC := Lib.hid hC
  have HN := Lib.hid hn
  clear hC hln
  have hz0 : k95.M w w.heap.size (fun _ => False) z95 (itV z95) := k95_mkM _ _ _ z95
  have HZ := Lib.hid hz0
  clear hz0
  go_enter Try.func44, Try.ntmps44
  go_wp2_with ((with_reducible refine gate_dst (N := 9) rfl ?_); go_loud (refine Kd.R_make k95 (w0 := w) w.heap.size 95 rfl rfl 89 (.tmp 8) (.tmp 8) rfl (n : Int) rfl rfl Try.underlying89 _ 72 infoI rfl (by decide) (by decide) z95 (ok := fun _ => True) (okp := fun _ => False) HZ.out (fun _ h => h.elim) trivial (by omega) (by rw [Int.toNat_natCast]; omega) (Below.refl _ _) (Nat.le_refl _) ?_); intro v1 w1 hO hB hG hat)
  rw [Int.toNat_natCast, ← LN.out, ← someI_zero] at hO
  have hform : ∃ g cap, v1 = .slice (some ⟨g, 0, none⟩) n cap := by
    obtain ⟨_, inner, hown, _⟩ := hO
    rcases hown.2 with ⟨hv, _⟩ | ⟨g, cap, cur, hv, _⟩
    · obtain ⟨b, hb, _⟩ := hat
      rw [hv] at hb
      cases hb
    · rw [someI_len, LN.out] at hv
      exact ⟨g, cap, hv⟩
  obtain ⟨g, cap, rfl⟩ := hform
  have HO := Lib.hid hO
  have HB := Lib.hid hB
  clear hO hB hG hat HZ
  go_loopw [12] (fun i wr => ∃ k : Nat, k ≤ n ∧ i = .int .i64 k ∧ Hid (Kd.R k95 95 wr w.heap.size (fun _ => True) (.slice (some ⟨g, 0, none⟩) n cap) (someI l k)) ∧ Hid (Below w.heap.size w wr)) (fun i _ => n - (RowKit.intOf i).toNat)
  case atStart => exact ⟨0, Nat.zero_le _, rfl, HO.out, HB.out⟩
  case round =>
    obtain ⟨k, hk, rfl, hR, hBw⟩ := hrel
    by_cases hlt : k < n
    · obtain ⟨ad, ea, x0, x1, x2, x3, x4, x5⟩ := at_T37 (Kd.C_below HC.out hBw.out) (k : Int) (by omega) (by omega)
      subst ea
      rw [Int.toNat_natCast] at x0 x1 x2 x3 x4 x5
      have hkl : k < l.length := by rw [LN.out]; exact hlt
      have hset := someI_set l k hkl
      have HSET := Lib.hid hset
      have hrd : rd_T37 l (k : Int) = l.getD k z37 := by simp [rd_T37]
      rw [hrd] at x0 x1 x2 x3 x4 x5
      clear hset hrd hkl
      generalize l.getD k z37 = x at *
      obtain ⟨a0, a1, a2, a3, a4, a5⟩ := x
      simp only at x0 x1 x2 x3 x4 x5
      obtain ⟨b, hb⟩ : ∃ b, wr.heap.size = b := ⟨_, rfl⟩
      have hlb : b < (wr.alloc (.cells #[.int .i64 a0, .int .i64 a1, .int .i64 a2, .int .i64 a3, .int .i64 a4, .int .i64 a5] 37)).heap.size := by rw [← hb]; simp
      have HLB := Lib.hid hlb
      have HBB := Lib.hid hb
      clear hlb hb
      go_wp2_with fail
      rw [HBB.out]
      have hk0 : (wr.alloc (.cells #[.int .i64 a0, .int .i64 a1, .int .i64 a2, .int .i64 a3, .int .i64 a4, .int .i64 a5] 37)).drew.heap[b]? = some (.cells #[.int .i64 a0, .int .i64 a1, .int .i64 a2, .int .i64 a3, .int .i64 a4, .int .i64 a5] 37 (0, 0)) := by
        rw [← HBB.out]; exact blk_drew (blk_new wr _)
      have hR1 := Kd.R_below hR.out ((below_alloc (Below.refl _ wr) (.cells #[.int .i64 a0, .int .i64 a1, .int .i64 a2, .int .i64 a3, .int .i64 a4, .int .i64 a5] 37)).drew)
      have hB1 := (below_alloc hBw.out (.cells #[.int .i64 a0, .int .i64 a1, .int .i64 a2, .int .i64 a3, .int .i64 a4, .int .i64 a5] 37)).drew
      clear x0 x1 x2 x3 x4 x5
      refine wp_region_still_tail 22 (by kernel_rfl) (by kernel_rfl) ?_
      simp only [List.take_succ_cons, List.take_zero, List.drop_succ_cons, List.drop_zero]
      change wpStill _ _ (World.drew (wr.alloc (.cells #[.int .i64 a0, .int .i64 a1, .int .i64 a2, .int .i64 a3, .int .i64 a4, .int .i64 a5] 37))) (fun a' => wpList _ _ _ _ a' (World.drew (wr.alloc (.cells #[.int .i64 a0, .int .i64 a1, .int .i64 a2, .int .i64 a3, .int .i64 a4, .int .i64 a5] 37)))) _ _
      generalize (wr.alloc (.cells #[.int .i64 a0, .int .i64 a1, .int .i64 a2, .int .i64 a3, .int .i64 a4, .int .i64 a5] 37)).drew = w2 at *
      have y0 : w2.cell? ⟨b, 0, none⟩ = some (.int .i64 a0) := blk_cell hk0 0
      have y1 : w2.cell? ⟨b, 1, none⟩ = some (.int .i64 a1) := blk_cell hk0 1
      have y2 : w2.cell? ⟨b, 2, none⟩ = some (.int .i64 a2) := blk_cell hk0 2
      have y3 : w2.cell? ⟨b, 3, none⟩ = some (.int .i64 a3) := blk_cell hk0 3
      have y4 : w2.cell? ⟨b, 4, none⟩ = some (.int .i64 a4) := blk_cell hk0 4
      have y5 : w2.cell? ⟨b, 5, none⟩ = some (.int .i64 a5) := blk_cell hk0 5
      have CUT : Hid (∀ n : Int, Calls Try.prog 22 #[.int .i64 n] w2 fun e w'' => e = .returned (.int .i64 (cut n)) ∧ w'' = w2) := Lib.hid (fun n => (Cut_c n w2).mono fun e w' h => ⟨h.1, h.2.symm⟩)
      have BND : Hid (∀ n : Int, Calls Try.prog 74 #[.int .i64 n] w2 fun e w'' => e = .returned (.int .i64 (bnd n)) ∧ w'' = w2) := Lib.hid (fun n => (bound_c n w2).mono fun e w' h => ⟨h.1, h.2.symm⟩)
      have HK0 := Lib.hid hk0
      have HR1 := Lib.hid hR1
      have HB1 := Lib.hid hB1
      clear hk0 hR1 hB1
      still_step
      still_step
      still_call (CUT.out _)
      still_step
      still_step
      still_call (CUT.out _)
      still_step
      still_step
      still_step
      still_call (CUT.out _)
      still_step
      still_step
      still_step
      still_call (BND.out _)
      still_step
      still_step
      still_step
      still_call (BND.out _)
      still_step
      still_step
      still_call (CUT.out _)
      still_step
      refine wpStill_nil ?_
      clear y0 y1 y2 y3 y4 y5 CUT BND
      obtain ⟨w3, e3, hk3, hR3, hB3⟩ := put_block [.int .i64 (cut a0), .int .i64 (max 0 (cut a1)), .int .i64 (cut a2), .int .i64 (bnd a3), .int .i64 (bnd a4), .int .i64 (cut a5)] HK0.out rfl HR1.out (by decide) HB1.out (by rw [← HBB.out]; exact hBw.out.size)
      refine wpList_store_mid (P := Try.prog) rfl 37 (.tmp 5) (.tmp 38) rfl b 0 #[.int .i64 (cut a0), .int .i64 (max 0 (cut a1)), .int .i64 (cut a2), .int .i64 (bnd a3), .int .i64 (bnd a4), .int .i64 (cut a5)] rfl rfl (thereB HK0.out rfl) (by kernel_rfl) (all_oneCell_toArray (cs := [.int .i64 (cut a0), .int .i64 (max 0 (cut a1)), .int .i64 (cut a2), .int .i64 (bnd a3), .int .i64 (bnd a4), .int .i64 (cut a5)]) (fun v hv => by
        simp only [List.mem_cons, List.not_mem_nil, or_false] at hv
        rcases hv with rfl | rfl | rfl | rfl | rfl | rfl <;> rfl)) ?_
      rw [List.toList_toArray, e3]
      have HK3 := Lib.hid hk3
      have HR3 := Lib.hid hR3
      have HB3 := Lib.hid hB3
      have hmk : mkIt ⟨a0, a1, a2, a3, a4, a5⟩ = ⟨⟨cut a0, max 0 (cut a1), cut a2, bnd a3, bnd a4, cut a5⟩, btw (cut a0) (max 0 (cut a1)) (cut a2), false, 0⟩ := rfl
      rw [hmk] at HSET
      clear hk3 hR3 hB3 e3 HK0 HR1 HB1 hmk
      generalize cut a0 = b0 at *
      generalize max 0 (cut a1) = b1 at *
      generalize cut a2 = b2 at *
      generalize bnd a3 = b3 at *
      generalize bnd a4 = b4 at *
      generalize cut a5 = b5 at *
      go_wp2_with fail
      have hk4 := blk_drew HK3.out
      have hR4 : Kd.R k95 95 w3.drew w.heap.size (fun _ => True) (.slice (some ⟨g, 0, none⟩) n cap) (someI l k) := Kd.R_below HR3.out (Below.refl _ _).drew
      have hB4 := HB3.out.drew
      refine wp_region_still_tail 12 (by kernel_rfl) (by kernel_rfl) ?_
      simp only [List.take_succ_cons, List.take_zero, List.drop_succ_cons, List.drop_zero]
      change wpStill _ _ (World.drew w3) (fun a' => wpList _ _ _ _ a' (World.drew w3)) _ _
      generalize w3.drew = w4 at *
      have y0 : w4.cell? ⟨b, 0, none⟩ = some (.int .i64 b0) := blk_cell hk4 0
      have y1 : w4.cell? ⟨b, 1, none⟩ = some (.int .i64 b1) := blk_cell hk4 1
      have y2 : w4.cell? ⟨b, 2, none⟩ = some (.int .i64 b2) := blk_cell hk4 2
      have y3 : w4.cell? ⟨b, 3, none⟩ = some (.int .i64 b3) := blk_cell hk4 3
      have y4 : w4.cell? ⟨b, 4, none⟩ = some (.int .i64 b4) := blk_cell hk4 4
      have y5 : w4.cell? ⟨b, 5, none⟩ = some (.int .i64 b5) := blk_cell hk4 5
      have BTW : Hid (∀ x y z : Int, Calls Try.prog 21 #[.int .i64 x, .int .i64 y, .int .i64 z] w4 fun e w'' => e = .returned (.int .i64 (btw x y z)) ∧ w'' = w4) := Lib.hid (fun x y z => (Between_c x y z w4).mono fun e w' h => ⟨h.1, h.2.symm⟩)
      have HR4 := Lib.hid hR4
      have HB4 := Lib.hid hB4
      clear hk4 hR4 hB4 HR3 HB3 HK3
      still_step
      still_step
      still_step
      still_step
      still_step
      still_step
      still_step
      still_step
      still_step
      still_call (BTW.out _ _ _)
      still_step
      still_step
      refine wpStill_nil ?_
      clear y0 y1 y2 y3 y4 y5 BTW
      obtain ⟨hnn, hnc, hCC⟩ := Kd.R_reads' HR4.out
      obtain ⟨ad2, cc, e2, hcl, _, hcc⟩ := ReadsRow.get_ hCC z95 (k : Int) (by omega) (by omega)
      injection e2 with e2
      subst e2
      have HCC := Lib.hid (fun j u (hj : cc[j]? = some u) => hcc j u hj)
      clear hcc hCC
      refine Kd.R_store k95 (w0 := w) w.heap.size rfl rfl 95 (.tmp 50) (.tmp 49) rfl 95 (g := g) (n := n) (cap := cap) (o' := k * 9) (k : Int) 0 (someI l k) ⟨⟨b0, b1, b2, b3, b4, b5⟩, btw b0 b1 b2, false, 0⟩ (.agg (itV ⟨⟨b0, b1, b2, b3, b4, b5⟩, btw b0 b1 b2, false, 0⟩).toArray) (itV ⟨⟨b0, b1, b2, b3, b4, b5⟩, btw b0 b1 b2, false, 0⟩) cc (fun _ => True) (fun _ => False) ?_ ?_ rfl rfl (by kernel_rfl) (itV_one _) HR4.out (by omega) (by omega) hcl ?_ (by show 0 + 9 ≤ 9; omega) ?_ (fun _ h => h.elim) HB4.out ?_
      · first
          | rfl
          | exact congrArg (fun a => Value.pointer (some a)) ((Addr.add_mid g 0 (k * 9)).trans (by rw [Nat.zero_add]))
      · rfl
      · intro j u hj
        have := HCC.out j u hj
        rw [Addr.add_mid, Nat.zero_add] at this
        exact this
      · have e9 : cc.take 0 ++ itV ⟨⟨b0, b1, b2, b3, b4, b5⟩, btw b0 b1 b2, false, 0⟩ ++ cc.drop (0 + (itV ⟨⟨b0, b1, b2, b3, b4, b5⟩, btw b0 b1 b2, false, 0⟩).length) = itV ⟨⟨b0, b1, b2, b3, b4, b5⟩, btw b0 b1 b2, false, 0⟩ := by
          rw [List.take_zero, List.nil_append, List.drop_of_length_le (by rw [hcl]; show 9 ≤ 0 + 9; omega), List.append_nil]
        rw [e9]
        exact k95_mkM _ _ _ _
      intro w5 hR5 hB5 _
      rw [Int.toNat_natCast, HSET.out] at hR5
      have HR5 := Lib.hid hR5
      have HB5 := Lib.hid hB5
      clear hR5 hB5 HCC
      go_wp2_with fail
      exact ⟨⟨k + 1, by omega, by go_num, HR5.out, HB5.out⟩, by simp [RowKit.intOf]; omega⟩
    · obtain rfl : k = n := by omega
      rw [← LN.out, someI_all] at hR
      rw [LN.out] at hR
      have POST : Hid (ItemsPost l w (.returned (.slice (some ⟨g, 0, none⟩) k cap)) wr) := Lib.hid ⟨_, rfl, hR.out, hBw.out⟩
      clear hR hBw
      go_wp2_with fail
      go_ret
      exact POST.out
end Go.Proofs.Ytfkgpkkjiolfpaa.Flx
