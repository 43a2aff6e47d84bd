/- A list within a clip, drawn; is a place in a rectangle. -/
import Derived.Test.YtfkgpkkjiolfpaaRasGroup
namespace Go.Proofs.Ytfkgpkkjiolfpaa.Ras
open Go.RowKit Go.Lib Go.Proofs.Ytfkgpkkjiolfpaa.Blk Go.Proofs.Ytfkgpkkjiolfpaa.Rgn Go.Proofs.Ytfkgpkkjiolfpaa.Pl Go.Proofs.Ytfkgpkkjiolfpaa.Fx Go.Proofs.Ytfkgpkkjiolfpaa.Fnt Go.Proofs.YtfkgpkkjiolfpaaW.PrintWords Go.Proofs.YtfkgpkkjiolfpaaW.PrintLast Go.Proofs.YtfkgpkkjiolfpaaW.PrintMore
set_option linter.unusedVariables false
set_option linter.unusedSimpArgs false
attribute [local go_sem] mx2 mn2 mx_two mn_two mx_three mn_three

set_option maxRecDepth 100000 in
set_option maxHeartbeats 2000000 in
theorem clip_c (p : Addr) (r : LR) (A : Option Addr) (n c : Nat) (l : List Cm) (w : World) (hp : w.cell? p = some (.slice A n c)) (hC : Kd.C k65 w A n l) (hn : n ≤ 20) (ht : ∀ x, x ∈ l → x.f8.size ≤ 10) :
    Calls Try.prog 32 #[.agg (lrV r).toArray, .pointer (some p)] w (DrawPost (([clipC r] ++ l) ++ [endC]) 8 8 w) := by
  obtain ⟨L, hL⟩ : ∃ L, L = ([clipC r] ++ l) ++ [endC] := ⟨_, rfl⟩
  rw [← hL]
  have hln : l.length = n := hC.1
  have hpl : p.block < w.heap.size := World.block_lt_of_cell? w p hp
  have hb0 := below_alloc (Below.refl w.heap.size w) (.cells #[.int .i64 r.f0, .int .i64 r.f1, .int .i64 r.f2, .int .i64 r.f3] 59)
  have hp0 : (w.alloc (.cells #[.int .i64 r.f0, .int .i64 r.f1, .int .i64 r.f2, .int .i64 r.f3] 59)).cell? p = some (.slice A n c) := by rw [World.cell?_alloc_lt _ _ _ hpl]; exact hp
  have hk0 := blk_new w (.cells #[.int .i64 r.f0, .int .i64 r.f1, .int .i64 r.f2, .int .i64 r.f3] 59)
  have hC0 := Kd.C_below hC hb0
  have hs0 : (w.alloc (.cells #[.int .i64 r.f0, .int .i64 r.f1, .int .i64 r.f2, .int .i64 r.f3] 59)).heap.size = w.heap.size + 1 := by simp
  obtain ⟨W0, hW0⟩ : ∃ W0, w.alloc (.cells #[.int .i64 r.f0, .int .i64 r.f1, .int .i64 r.f2, .int .i64 r.f3] 59) = W0 := ⟨_, rfl⟩
  rw [hW0] at hb0 hp0 hk0 hC0 hs0
  have hpl0 : p.block < W0.heap.size := by omega
  have HB0 := Lib.hid hb0
  have HS0 := Lib.hid hs0
  have hal := below_alloc (Below.refl W0.heap.size W0) (.cells (([clipC r] : List Cm).flatMap cmV).toArray 65)
  have HO := Lib.hid (lit_cm W0 w.heap.size [clipC r] (by omega) (by simp))
  have HC := Lib.hid (Kd.C_below hC0 hal)
  have HB := Lib.hid (below_then HB0.out HB0.out.size hal)
  have HT := Lib.hid ht
  have LN := Lib.hid hln
  have HL := Lib.hid hL
  have y0 : W0.cell? ⟨w.heap.size, 0, none⟩ = some (.int .i64 r.f0) := blk_cell hk0 0
  have y1 : W0.cell? ⟨w.heap.size, 1, none⟩ = some (.int .i64 r.f1) := blk_cell hk0 1
  have y2 : W0.cell? ⟨w.heap.size, 2, none⟩ = some (.int .i64 r.f2) := blk_cell hk0 2
  have y3 : W0.cell? ⟨w.heap.size, 3, none⟩ = some (.int .i64 r.f3) := blk_cell hk0 3
  clear hC hal ht hln hL hb0 hk0 hC0 hs0 hp hpl
  unfold lrV
  go_enter Try.func32, Try.ntmps32
  go_wp2_with (first
    | (at_builtin; go_loud (refine Kd.R_append_rows k65 (Rr := k65.K (W0.alloc (.cells (([clipC r] : List Cm).flatMap cmV).toArray 65))) (w0 := w) (W := W0.alloc (.cells (([clipC r] : List Cm).flatMap cmV).toArray 65)) w.heap.size rfl (.tmp 15) (.tmp 16) 28 65 _ 80 rfl Try.underlying28 infoC rfl (by decide) (by decide) (.slice (some ⟨W0.heap.size, 0, none⟩) 1 1) [clipC r] l A n c (fun _ => True) (fun _ => False) rfl rfl HO.out HC.out (k_M _ _ _) (fun _ h => h.elim) (fun _ _ => trivial) HB.out HB.out.size (by simp; omega) ?_); intro v1 w1 hO1 hB1 hG1 hat1; have O1 := Lib.hid hO1; have B1 := Lib.hid hB1; clear hO1 hB1 hG1 hat1)
    | (at_builtin; go_loud (refine Kd.R_append k65 (w0 := w) w.heap.size rfl (.tmp 18) (.tmp 20) 28 65 _ 80 rfl Try.underlying28 infoC rfl (by decide) (by decide) _ ([clipC r] ++ l) endC (cmV endC) (fun _ => True) (fun _ => False) rfl rfl (k65_mkM _ _ _ endC) (fun _ h => h.elim) (fun _ _ => trivial) O1.out B1.out B1.out.size (by rw [List.length_append, LN.out]; simp; omega) ?_); intro v2 w2 hO2 hB2 hG2 hat2; rw [← HL.out] at hO2; have O2 := Lib.hid hO2; have B2 := Lib.hid hB2; clear hO2 hB2 hG2 hat2 O1 B1))
  have hLl : L.length ≤ 22 := by rw [HL.out]; simp only [List.length_append, List.length_singleton, LN.out]; omega
  have hLt : ∀ x, x ∈ L → x.f8.size ≤ 1000 := fun x hx => by
    rw [HL.out] at hx
    rcases List.mem_append.1 hx with hx | hx
    · rcases List.mem_append.1 hx with hx | hx
      · rw [List.mem_singleton] at hx; subst hx; exact Nat.zero_le _
      · have := HT.out x hx; omega
    · rw [List.mem_singleton] at hx; subst hx; exact Nat.zero_le _
  obtain ⟨A2, c2, rfl, _, hC2⟩ := Kd.R_reads O2.out
  have D := Lib.hid (Draw_c A2 L.length c2 L 8 8 w2 hC2 (by omega) hLt (by decide) (by decide))
  clear hLl hLt hC2
  refine D.out.mono ?_
  rintro e w3 (⟨k, h1, h0, rfl, h2⟩ | ⟨out, v, h1, rfl, h2, h3⟩)
  · have POST : Hid (DrawPost L 8 8 w (.returned (.tuple #[.slice none 0 0, .int .i64 k])) w3) := Lib.hid (.inl ⟨k, h1, h0, rfl, below_then B2.out B2.out.size h2⟩)
    clear h1 h2 h0
    go_wp2_with fail
    go_ret2
    exact POST.out
  · have POST : Hid (DrawPost L 8 8 w (.returned (.tuple #[v, .int .i64 0])) w3) := Lib.hid (.inr ⟨out, v, h1, rfl, own_weaken h2 B2.out.size, below_then B2.out B2.out.size h3⟩)
    clear h1 h2 h3
    go_wp2_with fail
    go_ret2
    exact POST.out
def inB (r : LR) (x y : Int) : Bool := decide (r.f0 ≤ x) && (decide (r.f1 ≤ y) && (decide (x < r.f0 + r.f2) && decide (y < r.f1 + r.f3)))
theorem in_within (r : LR) (x y : Int) : inB r x y = withinB r x y := by
  rw [Bool.eq_iff_iff, within_iff]
  unfold inB
  simp only [Bool.and_eq_true, decide_eq_true_eq]
  omega
set_option maxHeartbeats 1000000 in
theorem In_c (r : LR) (x y : Int) (w : World) (h0 : -1000000000000 ≤ r.f0 ∧ r.f0 ≤ 1000000000000) (h1 : -1000000000000 ≤ r.f1 ∧ r.f1 ≤ 1000000000000) (h2 : -1000000000000 ≤ r.f2 ∧ r.f2 ≤ 1000000000000) (h3 : -1000000000000 ≤ r.f3 ∧ r.f3 ≤ 1000000000000) :
    Calls Try.prog 34 #[.agg (lrV r).toArray, .int .i64 x, .int .i64 y] w fun e w' => e = .returned (.bool (withinB r x y)) ∧ Below w.heap.size w w' := by
  rw [← in_within]
  obtain ⟨a, b, c, d⟩ := r
  simp only at h0 h1 h2 h3
  have hb : inB ⟨a, b, c, d⟩ x y = (decide (a ≤ x) && (decide (b ≤ y) && (decide (x < a + c) && decide (y < b + d)))) := rfl
  rw [hb]
  clear hb
  by_cases c1 : a ≤ x
  · have n1 : decide (a ≤ x) = true := decide_eq_true c1
    by_cases c2 : b ≤ y
    · have n2 : decide (b ≤ y) = true := decide_eq_true c2
      by_cases c3 : x < a + c
      · have n3 : decide (x < a + c) = true := decide_eq_true c3
        by_cases c4 : y < b + d
        · have n4 : decide (y < b + d) = true := decide_eq_true c4
          rw [n1, n2, n3, n4]
          clear c1 c2 c3 c4
          unfold lrV
          go_enter Try.func34, Try.ntmps34
          go_wp2
          go_ret
          exact ⟨rfl, below_alloc (Below.refl _ _) _⟩
        · have n4 : decide (y < b + d) = false := decide_eq_false c4
          rw [n1, n2, n3, n4]
          clear c1 c2 c3 c4
          unfold lrV
          go_enter Try.func34, Try.ntmps34
          go_wp2
          go_ret
          exact ⟨rfl, below_alloc (Below.refl _ _) _⟩
      · have n3 : decide (x < a + c) = false := decide_eq_false c3
        rw [n1, n2, n3]
        clear c1 c2 c3
        unfold lrV
        go_enter Try.func34, Try.ntmps34
        go_wp2
        go_ret
        exact ⟨rfl, below_alloc (Below.refl _ _) _⟩
    · have n2 : decide (b ≤ y) = false := decide_eq_false c2
      rw [n1, n2]
      clear c1 c2
      unfold lrV
      go_enter Try.func34, Try.ntmps34
      go_wp2
      go_ret
      exact ⟨rfl, below_alloc (Below.refl _ _) _⟩
  · have n1 : decide (a ≤ x) = false := decide_eq_false c1
    rw [n1]
    clear c1
    unfold lrV
    go_enter Try.func34, Try.ntmps34
    go_wp2
    go_ret
    exact ⟨rfl, below_alloc (Below.refl _ _) _⟩
/-- A pixel's place. -/
theorem pix_in (r : LR) (x y : Int) (hx : 0 ≤ x ∧ x ≤ 100000) (hy : 0 ≤ y ∧ y ≤ 100000) (h : CutR r) : withinB (meetR allR (rectR (clipC r))) x y = withinB r x y := by
  rw [within_meet]
  have e : rectR (clipC r) = r := by
    obtain ⟨a, b, c, d⟩ := r
    obtain ⟨h0, h1, h2, h3⟩ := h
    simp only at h0 h1 h2 h3
    show (⟨cut a, cut b, cut c, cut d⟩ : LR) = ⟨a, b, c, d⟩
    rw [cut_id h0.1 h0.2, cut_id h1.1 h1.2, cut_id h2.1 h2.2, cut_id h3.1 h3.2]
  rw [e]
  have h2 : withinB allR x y = true := by
    rw [within_iff]
    show (-16777216 : Int) ≤ x ∧ x - (-16777216) < 33554432 ∧ (-16777216 : Int) ≤ y ∧ y - (-16777216) < 33554432
    omega
  rw [h2]
  rfl
theorem drawP_get (o : List LD) (W H k : Nat) (hk : k < W * H) : (drawP o W H).getD k 0 = pixelP o ((k % W * 64 + 32 : Nat) : Int) ((k / W * 64 + 32 : Nat) : Int) 4294967295 := by
  unfold drawP
  simp [List.getD_eq_getElem?_getD, hk]
theorem clip_pix (r : LR) (o o2 : List LD) (hk : KinL (meetR allR (rectR (clipC r))) o o2) (h : CutR r) (k : Nat) (h64 : k < 64) :
    (drawP o2 8 8).getD k 0 = if withinB r ((k % 8 * 64 + 32 : Nat) : Int) ((k / 8 * 64 + 32 : Nat) : Int) = true then (drawP o 8 8).getD k 0 else 4294967295 := by
  rw [drawP_get _ _ _ _ (by omega), drawP_get _ _ _ _ (by omega), pixel_in _ _ hk, pix_in r _ _ (by omega) (by omega) h]
def bigR : LR := ⟨-1048576, -1048576, 2097152, 2097152⟩
theorem clip_big (o o2 : List LD) (hk : KinL (meetR allR (rectR (clipC bigR))) o o2) : drawP o2 8 8 = drawP o 8 8 := by
  unfold drawP
  apply List.map_congr_left
  intro i hi
  have hi2 := List.mem_range.1 hi
  rw [pixel_in _ _ hk, pix_in bigR _ _ (by omega) (by omega) ⟨by decide, by decide, by decide, by decide⟩, if_pos]
  rw [within_iff]
  show (-1048576 : Int) ≤ _ ∧ _ - (-1048576) < (2097152 : Int) ∧ (-1048576 : Int) ≤ _ ∧ _ - (-1048576) < (2097152 : Int)
  omega
theorem i16_bd (x : Int) : -32768 ≤ IntKind.i16.wrap x ∧ IntKind.i16.wrap x ≤ 32767 := by
  simp only [IntKind.wrap, IntKind.signed, IntKind.bits]
  simp
  omega
theorem u16_bd (x : Int) : 0 ≤ IntKind.u16.wrap x ∧ IntKind.u16.wrap x ≤ 65535 := by
  simp only [IntKind.wrap, IntKind.signed, IntKind.bits]
  simp
  omega
/-- Four cells of a block put anew. -/
theorem four_set {W : World} {g t : Nat} {a0 a1 a2 a3 : Value} (e0 e1 e2 e3 : Value) (h : W.heap[g]? = some (.cells #[a0, a1, a2, a3] t (0, 0))) :
    ∃ W1, (((W.setCell ⟨g, 0, none⟩ e0).setCell ⟨g, 1, none⟩ e1).setCell ⟨g, 2, none⟩ e2).setCell ⟨g, 3, none⟩ e3 = W1 ∧ W1.heap[g]? = some (.cells #[e0, e1, e2, e3] t (0, 0)) ∧ (∀ i, i ≠ g → W1.heap[i]? = W.heap[i]?) ∧ W1.heap.size = W.heap.size ∧
      (∀ B w0, Below B w0 W → B ≤ g → Below B w0 W1) ∧ (∀ base n e s v xs, W.ownsRow base e s v n xs → some g ≠ v.ownBlock → W1.ownsRow base e s v n xs) := by
  have h4 := blk_set (blk_set (blk_set (blk_set h 0 e0) 1 e1) 2 e2) 3 e3
  simp only [List.setIfInBounds_toArray, List.set_cons_zero, List.set_cons_succ] at h4
  refine ⟨_, rfl, h4, fun i hi => ?_, by simp [World.setCell], fun B w0 hB hg => ?_, fun base n e s v xs ho hne => ?_⟩
  · rw [Below.heap_setCell _ _ _ _ hi, Below.heap_setCell _ _ _ _ hi, Below.heap_setCell _ _ _ _ hi, Below.heap_setCell _ _ _ _ hi]
  · exact (((hB.setCell (p := ⟨g, 0, none⟩) hg _).setCell (p := ⟨g, 1, none⟩) hg _).setCell (p := ⟨g, 2, none⟩) hg _).setCell (p := ⟨g, 3, none⟩) hg _
  · exact own_setCell (own_setCell (own_setCell (own_setCell ho (p := ⟨g, 0, none⟩) hne _) (p := ⟨g, 1, none⟩) hne _) (p := ⟨g, 2, none⟩) hne _) (p := ⟨g, 3, none⟩) hne _
end Go.Proofs.Ytfkgpkkjiolfpaa.Ras
