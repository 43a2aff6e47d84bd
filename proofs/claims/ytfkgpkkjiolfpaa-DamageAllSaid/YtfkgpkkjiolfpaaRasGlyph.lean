/- Package raster: is there a dot of a text's glyph at a place? -/
import Derived.Test.YtfkgpkkjiolfpaaRasDots
import Derived.Test.YtfkgpkkjiolfpaaRasRect
import Derived.Test.YtfkgpkkjiolfpaaRasMeet
import Derived.Test.YtfkgpkkjiolfpaaRasOver
import Derived.Lib.OthersKept
import Derived.Laws.RangeAny
import Derived.Deep.QuietTactic
import Derived.BigQuiet
import Derived.Deep.RegionHeld3
namespace Go.Proofs.Ytfkgpkkjiolfpaa.Ras
open Go.RowKit Go.Lib Go.Proofs.Ytfkgpkkjiolfpaa.Blk Go.Proofs.Ytfkgpkkjiolfpaa.Rgn Go.Proofs.Ytfkgpkkjiolfpaa.Pl Go.Proofs.Ytfkgpkkjiolfpaa.Fx Go.Proofs.Ytfkgpkkjiolfpaa.Fnt Go.Proofs.YtfkgpkkjiolfpaaW.PrintWords Go.Proofs.YtfkgpkkjiolfpaaW.PrintLast Go.Proofs.YtfkgpkkjiolfpaaW.PrintMore
set_option linter.unusedVariables false
set_option linter.unusedSimpArgs false
attribute [local go_sem] mx2 mn2 mx_two mn_two mx_three mn_three

theorem dec_pos (s : ByteArray) (pos : Nat) (h : pos < s.size) : 1 ≤ (Utf8.decode s pos).2 := by
  by_cases ha : (s[pos]'h).toNat < 128
  · rw [decode_ascii s pos h ha]
    exact Nat.le_refl _
  · exact (decode_high s pos h (by omega)).2
theorem runesFrom_s (s : ByteArray) (f p : Nat) (h : p < s.size) : runesFrom s (f + 1) p = ((Utf8.decode s p).1 : Int) :: runesFrom s f (p + (Utf8.decode s p).2) := by rw [runesFrom, if_pos h]
theorem runesFrom_end (s : ByteArray) (f p : Nat) (h : ¬ p < s.size) : runesFrom s f p = [] := by
  cases f with
  | zero => rfl
  | succ f => rw [runesFrom, if_neg h]
theorem adv_bd (r n : Int) : 0 ≤ adv r n ∧ adv r n ≤ 16777216 := by
  unfold adv prt
  have h1 := sz_bd n
  have h2 := fou_bd r
  rw [cut_id (n := sz n) (by omega) (by omega), cut_id (n := fou r) (by omega) (by omega), cut_id (n := 4) (by omega) (by omega), if_neg (by omega)]
  have h3 : 0 ≤ sz n * fou r := Int.mul_nonneg h1.1 h2.1
  have h4 : sz n * fou r / 4 ≥ 0 := by omega
  have := cut_bd (sz n * fou r / 4)
  have : 0 ≤ cut (sz n * fou r / 4) := cut_nonneg.2 h4
  omega
theorem asc_bd (n : Int) : 0 ≤ asc n ∧ asc n ≤ 16777216 := by
  unfold asc prt
  have h1 := sz_bd n
  rw [cut_id (n := sz n) (by omega) (by omega), cut_id (n := 3) (by omega) (by omega), cut_id (n := 4) (by omega) (by omega), if_neg (by omega)]
  have := cut_bd (sz n * 3 / 4)
  have : 0 ≤ cut (sz n * 3 / 4) := cut_nonneg.2 (by omega)
  omega
theorem idx_bd (n d : Int) (h0 : 0 ≤ n) (h1 : n < d) (hd : d ≤ 16777216) : 0 ≤ prt n 8 d ∧ prt n 8 d ≤ 7 := by
  unfold prt
  rw [cut_id (n := n) (by omega) (by omega), cut_id (n := 8) (by omega) (by omega), cut_id (n := d) (by omega) (by omega), if_neg (by omega)]
  have h2 : 0 ≤ n * 8 / d := Int.ediv_nonneg (by omega) (by omega)
  have h3 : n * 8 / d < 8 := Int.ediv_lt_of_lt_mul (by omega) (by omega)
  rw [cut_id (by omega) (by omega)]
  omega
theorem idx8 (ds : List Int) (k : Nat) (dv : Int) (w : World) (hl : ds.length = 8) (hk : k ≤ 7) (hd : (nums .i64 ds)[k]? = some (.int .i64 dv)) :
    (Instr.index 155 (.agg (nums .i64 ds).toArray) (.int .i64 (k : Int))).run Try.prog w = .ok (.int .i64 dv) w := by
  match ds, hl with
  | [d0, d1, d2, d3, d4, d5, d6, d7], _ =>
    simp only [nums, List.map_cons, List.map_nil] at hd ⊢
    obtain rfl | rfl | rfl | rfl | rfl | rfl | rfl | rfl : k = 0 ∨ k = 1 ∨ k = 2 ∨ k = 3 ∨ k = 4 ∨ k = 5 ∨ k = 6 ∨ k = 7 := by omega
    all_goals
      simp only [List.getElem?_cons_zero, List.getElem?_cons_succ, Option.some.injEq, Value.int.injEq, true_and] at hd
      subst hd
      simp [Instr.index, asIntOf, run_underlying Try.underlying155, go_sem]
def GlyPost (c : Cm) (x y : Int) (w : World) (e : Ending) (w' : World) : Prop := e = .returned (.bool (glyphB c x y)) ∧ Below w.heap.size w w'
set_option maxRecDepth 100000 in
set_option maxHeartbeats 2000000 in
theorem glyph_c (c : Cm) (x y : Int) (w : World) (hs : c.f8.size ≤ 1000) (hx : 0 ≤ x ∧ x ≤ 100000) (hy : 0 ≤ y ∧ y ≤ 100000) :
    Calls Try.prog 97 #[.agg (cmV c).toArray, .int .i64 x, .int .i64 y] w (GlyPost c x y w) := by
  obtain ⟨a0, a1, a2, a3, a4, a5, a6, a7, s⟩ := c
  simp only at hs
  have hG : glyphB ⟨a0, a1, a2, a3, a4, a5, a6, a7, s⟩ x y = glyGo (sz a7) (cut a5) (cut a3 - asc (sz a7)) x y (runesFrom s s.size 0) (cut a2) := rfl
  have CUT : Hid (∀ (n : Int) (W : World), Calls Try.prog 22 #[.int .i64 n] W fun e w'' => e = .returned (.int .i64 (cut n)) ∧ w'' = W) := Lib.hid (fun n W => (Cut_c n W).mono fun e w' h => ⟨h.1, h.2.symm⟩)
  have ASC : Hid (∀ (n : Int) (W : World), Calls Try.prog 40 #[.int .i64 n] W fun e w'' => e = .returned (.int .i64 (asc n)) ∧ w'' = W) := Lib.hid (fun n W => (Ascent_c n W).mono fun e w' h => ⟨h.1, h.2.symm⟩)
  unfold GlyPost
  rw [hG]
  generalize hGG : glyGo (sz a7) (cut a5) (cut a3 - asc (sz a7)) x y (runesFrom s s.size 0) (cut a2) = G at *
  have GG := Lib.hid hGG
  clear hG hGG
  have hk := blk_new w (.cells #[.int .i64 a0, .int .i64 a1, .int .i64 a2, .int .i64 a3, .int .i64 a4, .int .i64 a5, .int .i64 a6, .int .i64 a7, .string s] 65)
  have hB := below_alloc (Below.refl w.heap.size w) (.cells #[.int .i64 a0, .int .i64 a1, .int .i64 a2, .int .i64 a3, .int .i64 a4, .int .i64 a5, .int .i64 a6, .int .i64 a7, .string s] 65)
  have hsz : (w.alloc (.cells #[.int .i64 a0, .int .i64 a1, .int .i64 a2, .int .i64 a3, .int .i64 a4, .int .i64 a5, .int .i64 a6, .int .i64 a7, .string s] 65)).heap.size = w.heap.size + 1 := by simp
  have K := Lib.hid hk
  have B := Lib.hid hB
  have SZ := Lib.hid hsz
  have z2 := blk_cell hk 2
  have z3 := blk_cell hk 3
  have z7 := blk_cell hk 7
  have z8 := blk_cell hk 8
  clear hk hB hsz
  unfold cmV
  have b3 := cut_bd a3
  have basc := asc_bd (sz a7)
  go_enter Try.func97, Try.ntmps97
  go_wp2_with fail
  generalize w.alloc (.cells #[.int .i64 a0, .int .i64 a1, .int .i64 a2, .int .i64 a3, .int .i64 a4, .int .i64 a5, .int .i64 a6, .int .i64 a7, .string s] 65) = W at *
  refine (CUT.out a7 W).mono ?_
  rintro e w' ⟨rfl, rfl⟩
  go_wp2_with fail
  rw [show max 0 (cut a7) = sz a7 from rfl]
  go_quiet ((first | (go_at_call 22; exact Calls.quiet_of_same (CUT.out _ _)) | (go_at_call 40; exact Calls.quiet_of_same (ASC.out _ _))))
  have hk2 : (w'.drewN nq).heap[w.heap.size]? = some (.cells #[.int .i64 a0, .int .i64 a1, .int .i64 a2, .int .i64 a3, .int .i64 a4, .int .i64 a5, .int .i64 a6, .int .i64 a7, .string s] 65 (0, 0)) := K.out
  have hB2 := pw_below_drewN B.out nq
  have hsz2 : (w'.drewN nq).heap.size = w.heap.size + 1 := SZ.out
  clear K B SZ z2 z3 z7
  generalize w'.drewN nq = W1 at *
  have z8 : W1.cell? ⟨w.heap.size, 8, none⟩ = some (.string s) := blk_cell hk2 8
  have K := Lib.hid hk2
  have B := Lib.hid hB2
  have SZ := Lib.hid hsz2
  have b2 := cut_bd a2
  clear hk2 hB2 hsz2
  have bt : -33554432 ≤ cut a3 - asc (sz a7) ∧ cut a3 - asc (sz a7) ≤ 16777216 := by omega
  have bs := sz_bd a7
  generalize cut a3 - asc (sz a7) = top at *
  generalize sz a7 = size at *
  generalize cut a2 = lf0 at *
  go_wp2_with fail
  rw [SZ.out]
  have I0 : Hid ((W1.iter s 0).heap[w.heap.size + 1]? = some (.stringIter s 0)) := Lib.hid (by rw [← SZ.out]; exact World.iter_heap W1 s 0)
  have K0 : Hid ((W1.iter s 0).heap[w.heap.size]? = some (.cells #[.int .i64 a0, .int .i64 a1, .int .i64 a2, .int .i64 a3, .int .i64 a4, .int .i64 a5, .int .i64 a6, .int .i64 a7, .string s] 65 (0, 0))) := Lib.hid (blk_alloc K.out _)
  have B0 : Hid (Below w.heap.size w (W1.iter s 0)) := Lib.hid (below_alloc B.out _)
  clear z8 b3 basc K B
  go_loopw [8] (fun left wr => ∃ (pos fuel : Nat) (lf : Int), left = .int .i64 lf ∧ Hid (glyGo size (cut a5) top x y (runesFrom s fuel pos) lf = G) ∧ fuel ≤ s.size ∧ s.size ≤ pos + fuel ∧ (-16777216 - 33554432 * ((s.size : Int) - (fuel : Int)) ≤ lf ∧ lf ≤ 16777216 + 33554432 * ((s.size : Int) - (fuel : Int))) ∧ Hid (wr.heap[w.heap.size + 1]? = some (.stringIter s pos)) ∧ Hid (wr.heap[w.heap.size]? = some (.cells #[.int .i64 a0, .int .i64 a1, .int .i64 a2, .int .i64 a3, .int .i64 a4, .int .i64 a5, .int .i64 a6, .int .i64 a7, .string s] 65 (0, 0))) ∧ Hid (Below w.heap.size w wr)) (fun _ wr => s.size - wr.iterPos (w.heap.size + 1))
  case atStart => exact ⟨0, s.size, lf0, rfl, GG.out, Nat.le_refl _, by omega, by omega, I0.out, K0.out, B0.out⟩
  case round =>
    obtain ⟨pos, fuel, lf, rfl, hG, hp0, hpf, hlf, hit, hK, hB⟩ := hrel
    have hIP : wr.iterPos (w.heap.size + 1) = pos := by unfold World.iterPos; rw [hit.out]
    have HIP := Lib.hid hIP
    clear hIP
    have hszw : w.heap.size + 1 < wr.heap.size := blk_lt hit.out
    by_cases hp : pos < s.size
    · have hnx : ∀ ty, (Instr.next (.pointer (some ⟨w.heap.size + 1, 0, none⟩)) true ty).run Try.prog wr = _ := fun ty => Lib.run_next_any_at wr (w.heap.size + 1) s pos ty hit.out hp
      have hwd : pos < pos + (Utf8.decode s pos).2 := by have := dec_pos s pos hp; omega
      have hd1 := decode_le s pos
      have hit2 := Lib.iterAt_heap wr (w.heap.size + 1) s pos (pos + (Utf8.decode s pos).2) hit.out
      have hK2 : (wr.iterAt (w.heap.size + 1) s (pos + (Utf8.decode s pos).2)).heap[w.heap.size]? = _ := (Lib.iterAt_other wr (w.heap.size + 1) w.heap.size s (pos + (Utf8.decode s pos).2) (by omega)).trans hK.out
      have hB2 := Lib.below_iterAt hB.out (k := w.heap.size + 1) (by omega) s (pos + (Utf8.decode s pos).2)
      have hsz2 : w.heap.size + 1 < (wr.iterAt (w.heap.size + 1) s (pos + (Utf8.decode s pos).2)).heap.size := by rw [Lib.iterAt_size]; exact hszw
      obtain ⟨f, rfl⟩ : ∃ f, fuel = f + 1 := ⟨fuel - 1, by omega⟩
      have hrs := runesFrom_s s f pos hp
      have RS := Lib.hid hrs
      have I2 := Lib.hid hit2
      have K2 := Lib.hid hK2
      have B2 := Lib.hid hB2
      clear hrs hit2 hK2 hB2 hit hK hB hszw
      generalize wr.iterAt (w.heap.size + 1) s (pos + (Utf8.decode s pos).2) = W2 at *
      generalize (Utf8.decode s pos).1 = r at *
      generalize pos + (Utf8.decode s pos).2 = pos2 at *
      go_wp2_with fail
      refine (Advance_c (r : Int) size W2).mono ?_
      rintro e W3 ⟨rfl, h3⟩
      have I3 : Hid (W3.heap[w.heap.size + 1]? = some (.stringIter s pos2)) := Lib.hid (by rw [h3.block _ (by omega)]; exact I2.out)
      have K3 := Lib.hid (blk_below K2.out h3)
      have B3 := Lib.hid (below_then B2.out (by omega) h3)
      have hsz3 : w.heap.size + 1 < W3.heap.size := by have := h3.size; omega
      have hwb := adv_bd (r : Int) size
      clear I2 K2 B2 h3 hsz2
      go_wp2_with fail
      have hcv : (withinB ⟨lf, top, adv r size, size⟩ x y && dotB r size lf top (adv r size) x y) = true → G = true := fun h => by have := hG.out; rw [RS.out, glyGo, h] at this; simpa using this.symm
      have hcn : (withinB ⟨lf, top, adv r size, size⟩ x y && dotB r size lf top (adv r size) x y) = false → glyGo size (cut a5) top x y (runesFrom s f pos2) (lf + (adv r size + cut a5)) = G := fun h => by have := hG.out; rw [RS.out, glyGo, h] at this; simpa using this
      by_cases hin : withinB ⟨lf, top, adv r size, size⟩ x y = true
      · have hw4 : lf ≤ x ∧ x - lf < adv r size ∧ top ≤ y ∧ y - top < size := by simpa [withinB] using hin
        obtain ⟨q1, q2⟩ := idx_bd (y - top) size (by omega) hw4.2.2.2 (by omega)
        obtain ⟨q3, q4⟩ := idx_bd (x - lf) (adv r size) (by omega) hw4.2.1 (by omega)
        have WIN := Lib.hid (fun W => within_c ⟨lf, top, adv r size, size⟩ x y W (by omega) (by omega) (by simp only; omega) (by simp only; omega))
        rw [hin] at WIN hcv hcn
        unfold dotB at hcv hcn
        have PY := Lib.hid (fun W => Part_c (y - top) 8 size W (by omega))
        have PX := Lib.hid (fun W => Part_c (x - lf) 8 (adv r size) W (by omega))
        have DOT := Lib.hid (fun W => Dots_c (r : Int) W (by omega) (by omega))
        unfold DotsPost at DOT
        have hdl : (dotsP (r : Int)).length = 8 := by unfold dotsP; split <;> simp
        generalize dotsP (r : Int) = ds at *
        obtain ⟨k1, hk1⟩ : ∃ k1 : Nat, prt (y - top) 8 size = (k1 : Int) := ⟨(prt (y - top) 8 size).toNat, by omega⟩
        obtain ⟨k2, hk2⟩ : ∃ k2 : Nat, prt (x - lf) 8 (adv r size) = (k2 : Int) := ⟨(prt (x - lf) 8 (adv r size)).toNat, by omega⟩
        rw [hk1] at PY q1 q2 hcv hcn
        rw [hk2] at PX q3 q4 hcv hcn
        rw [Int.toNat_natCast] at hcv hcn
        rw [show (7 - (k2 : Int)).toNat = 7 - k2 by omega] at hcv hcn
        have hdv : (nums .i64 ds)[k1]? = some (.int .i64 (ds.getD k1 0)) := by simp [nums, hdl, show k1 < 8 by omega]
        generalize ds.getD k1 0 = dv at *
        have HCV := Lib.hid hcv
        have HCN := Lib.hid hcn
        have HDV := Lib.hid hdv
        have HL := Lib.hid hdl
        clear hcv hcn hin hk1 hk2 hdv hdl hG RS
        generalize adv (r : Int) size = wide at *
        refine wp_region_held_drew (S := fun W => Below W3.heap.size W3 W) (by kernel_rfl) (Below.refl _ _).drew (fun hHeld => ?_)
        refine wpAnyH_take (i := 0) (v := .int .i64 lf) rfl (by kernel_rfl) (by kernel_rfl) (by kernel_rfl) (fun _ _ _ h => h) (y_move (by rfl) rfl rfl) hHeld ?_
        try simp only [Act.put, List.getElem_toArray, List.getElem_cons_succ, List.getElem_cons_zero, List.setIfInBounds_toArray, List.set_cons_zero, List.set_cons_succ]
        refine wpAnyH_take (i := 1) (v := .int .i64 top) rfl (by kernel_rfl) (by kernel_rfl) (by kernel_rfl) (fun _ _ _ h => h) (y_move (by rfl) rfl rfl) hHeld ?_
        try simp only [Act.put, List.getElem_toArray, List.getElem_cons_succ, List.getElem_cons_zero, List.setIfInBounds_toArray, List.set_cons_zero, List.set_cons_succ]
        refine wpAnyH_take (i := 2) (v := .int .i64 wide) rfl (by kernel_rfl) (by kernel_rfl) (by kernel_rfl) (fun _ _ _ h => h) (y_move (by rfl) rfl rfl) hHeld ?_
        try simp only [Act.put, List.getElem_toArray, List.getElem_cons_succ, List.getElem_cons_zero, List.setIfInBounds_toArray, List.set_cons_zero, List.set_cons_succ]
        refine wpAnyH_take (i := 3) (v := .int .i64 size) rfl (by kernel_rfl) (by kernel_rfl) (by kernel_rfl) (fun _ _ _ h => h) (y_move (by rfl) rfl rfl) hHeld ?_
        try simp only [Act.put, List.getElem_toArray, List.getElem_cons_succ, List.getElem_cons_zero, List.setIfInBounds_toArray, List.set_cons_zero, List.set_cons_succ]
        refine wpAnyH_take (i := 4) (v := .agg #[.int .i64 lf, .int .i64 top, .int .i64 wide, .int .i64 size]) rfl (by kernel_rfl) (by kernel_rfl) (by kernel_rfl) (fun _ _ _ h => h) (y_run (by rfl) (fun w _ => by unfold execOp; go_simp)) hHeld ?_
        try simp only [Act.put, List.getElem_toArray, List.getElem_cons_succ, List.getElem_cons_zero, List.setIfInBounds_toArray, List.set_cons_zero, List.set_cons_succ]
        refine wpAnyH_take (i := 5) (v := .int .i64 x) rfl (by kernel_rfl) (by kernel_rfl) (by kernel_rfl) (fun _ _ _ h => h) (y_move (by rfl) rfl rfl) hHeld ?_
        try simp only [Act.put, List.getElem_toArray, List.getElem_cons_succ, List.getElem_cons_zero, List.setIfInBounds_toArray, List.set_cons_zero, List.set_cons_succ]
        refine wpAnyH_take (i := 6) (v := .int .i64 y) rfl (by kernel_rfl) (by kernel_rfl) (by kernel_rfl) (fun _ _ _ h => h) (y_move (by rfl) rfl rfl) hHeld ?_
        try simp only [Act.put, List.getElem_toArray, List.getElem_cons_succ, List.getElem_cons_zero, List.setIfInBounds_toArray, List.set_cons_zero, List.set_cons_succ]
        refine wpAnyH_ready (rs := [7]) (by kernel_rfl) (by simp) ?_
        refine AllReadyH.cons rfl (fun K hK => ?_) AllReadyH.nil
        try simp only [Act.put, List.getElem_toArray, List.getElem_cons_succ, List.getElem_cons_zero, List.setIfInBounds_toArray, List.set_cons_zero, List.set_cons_succ]
        try rw [if_pos (by rfl)]
        go_simp
        refine (WIN.out _).mono ?_
        rintro e w4 ⟨rfl, hz⟩
        refine hK.out _ _ (below_then hHeld (Below.size hHeld) hz) (fun hHeld => ?_)
        clear hK K
        try simp only [Act.put, List.getElem_toArray, List.getElem_cons_succ, List.getElem_cons_zero, List.setIfInBounds_toArray, List.set_cons_zero, List.set_cons_succ]
        clear hz
        refine wpAnyH_take (i := 8) (v := .bool true) rfl (by kernel_rfl) (by kernel_rfl) (by kernel_rfl) (fun _ _ _ h => h) (y_move (by rfl) rfl rfl) hHeld ?_
        try simp only [Act.put, List.getElem_toArray, List.getElem_cons_succ, List.getElem_cons_zero, List.setIfInBounds_toArray, List.set_cons_zero, List.set_cons_succ]
        refine wpAnyH_take (i := 9) (v := .int .i32 (r : Int)) rfl (by kernel_rfl) (by kernel_rfl) (by kernel_rfl) (fun _ _ _ h => h) (y_move (by rfl) rfl rfl) hHeld ?_
        try simp only [Act.put, List.getElem_toArray, List.getElem_cons_succ, List.getElem_cons_zero, List.setIfInBounds_toArray, List.set_cons_zero, List.set_cons_succ]
        refine wpAnyH_take (i := 11) (v := .int .i64 y) rfl (by kernel_rfl) (by kernel_rfl) (by kernel_rfl) (fun _ _ _ h => h) (y_move (by rfl) rfl rfl) hHeld ?_
        try simp only [Act.put, List.getElem_toArray, List.getElem_cons_succ, List.getElem_cons_zero, List.setIfInBounds_toArray, List.set_cons_zero, List.set_cons_succ]
        refine wpAnyH_take (i := 12) (v := .int .i64 top) rfl (by kernel_rfl) (by kernel_rfl) (by kernel_rfl) (fun _ _ _ h => h) (y_move (by rfl) rfl rfl) hHeld ?_
        try simp only [Act.put, List.getElem_toArray, List.getElem_cons_succ, List.getElem_cons_zero, List.setIfInBounds_toArray, List.set_cons_zero, List.set_cons_succ]
        refine wpAnyH_take (i := 13) (v := .int .i64 (y - top)) rfl (by kernel_rfl) (by kernel_rfl) (by kernel_rfl) (fun _ _ _ h => h) (y_sub (by rfl) rfl rfl rfl rfl (by omega) (by omega)) hHeld ?_
        try simp only [Act.put, List.getElem_toArray, List.getElem_cons_succ, List.getElem_cons_zero, List.setIfInBounds_toArray, List.set_cons_zero, List.set_cons_succ]
        refine wpAnyH_take (i := 14) (v := .int .i64 size) rfl (by kernel_rfl) (by kernel_rfl) (by kernel_rfl) (fun _ _ _ h => h) (y_move (by rfl) rfl rfl) hHeld ?_
        try simp only [Act.put, List.getElem_toArray, List.getElem_cons_succ, List.getElem_cons_zero, List.setIfInBounds_toArray, List.set_cons_zero, List.set_cons_succ]
        refine wpAnyH_take (i := 17) (v := .int .i64 x) rfl (by kernel_rfl) (by kernel_rfl) (by kernel_rfl) (fun _ _ _ h => h) (y_move (by rfl) rfl rfl) hHeld ?_
        try simp only [Act.put, List.getElem_toArray, List.getElem_cons_succ, List.getElem_cons_zero, List.setIfInBounds_toArray, List.set_cons_zero, List.set_cons_succ]
        refine wpAnyH_take (i := 18) (v := .int .i64 lf) rfl (by kernel_rfl) (by kernel_rfl) (by kernel_rfl) (fun _ _ _ h => h) (y_move (by rfl) rfl rfl) hHeld ?_
        try simp only [Act.put, List.getElem_toArray, List.getElem_cons_succ, List.getElem_cons_zero, List.setIfInBounds_toArray, List.set_cons_zero, List.set_cons_succ]
        refine wpAnyH_take (i := 19) (v := .int .i64 (x - lf)) rfl (by kernel_rfl) (by kernel_rfl) (by kernel_rfl) (fun _ _ _ h => h) (y_sub (by rfl) rfl rfl rfl rfl (by omega) (by omega)) hHeld ?_
        try simp only [Act.put, List.getElem_toArray, List.getElem_cons_succ, List.getElem_cons_zero, List.setIfInBounds_toArray, List.set_cons_zero, List.set_cons_succ]
        refine wpAnyH_take (i := 20) (v := .int .i64 wide) rfl (by kernel_rfl) (by kernel_rfl) (by kernel_rfl) (fun _ _ _ h => h) (y_move (by rfl) rfl rfl) hHeld ?_
        try simp only [Act.put, List.getElem_toArray, List.getElem_cons_succ, List.getElem_cons_zero, List.setIfInBounds_toArray, List.set_cons_zero, List.set_cons_succ]
        refine wpAnyH_ready (rs := [10]) (by kernel_rfl) (by simp) ?_
        refine AllReadyH.cons rfl (fun K hK => ?_) AllReadyH.nil
        try simp only [Act.put, List.getElem_toArray, List.getElem_cons_succ, List.getElem_cons_zero, List.setIfInBounds_toArray, List.set_cons_zero, List.set_cons_succ]
        try rw [if_pos (by rfl)]
        go_simp
        refine (DOT.out _).mono ?_
        rintro e w5 ⟨rfl, hz⟩
        refine hK.out _ _ (below_then hHeld (Below.size hHeld) hz) (fun hHeld => ?_)
        clear hK K
        try simp only [Act.put, List.getElem_toArray, List.getElem_cons_succ, List.getElem_cons_zero, List.setIfInBounds_toArray, List.set_cons_zero, List.set_cons_succ]
        clear hz
        refine wpAnyH_ready (rs := [15]) (by kernel_rfl) (by simp) ?_
        refine AllReadyH.cons rfl (fun K hK => ?_) AllReadyH.nil
        try simp only [Act.put, List.getElem_toArray, List.getElem_cons_succ, List.getElem_cons_zero, List.setIfInBounds_toArray, List.set_cons_zero, List.set_cons_succ]
        try rw [if_pos (by rfl)]
        go_simp
        refine (PY.out _).mono ?_
        rintro e w' ⟨rfl, rfl⟩
        refine hK.out _ _ hHeld (fun hHeld => ?_)
        clear hK K
        try simp only [Act.put, List.getElem_toArray, List.getElem_cons_succ, List.getElem_cons_zero, List.setIfInBounds_toArray, List.set_cons_zero, List.set_cons_succ]
        refine wpAnyH_take (i := 16) (v := .int .i64 dv) rfl (by kernel_rfl) (by kernel_rfl) (by kernel_rfl) (fun _ _ _ h => h) (y_run (by rfl) (fun w _ => by have h1 := idx8 ds k1 dv w HL.out (by omega) HDV.out; unfold execOp; go_simp)) hHeld ?_
        try simp only [Act.put, List.getElem_toArray, List.getElem_cons_succ, List.getElem_cons_zero, List.setIfInBounds_toArray, List.set_cons_zero, List.set_cons_succ]
        refine wpAnyH_ready (rs := [21]) (by kernel_rfl) (by simp) ?_
        refine AllReadyH.cons rfl (fun K hK => ?_) AllReadyH.nil
        try simp only [Act.put, List.getElem_toArray, List.getElem_cons_succ, List.getElem_cons_zero, List.setIfInBounds_toArray, List.set_cons_zero, List.set_cons_succ]
        try rw [if_pos (by rfl)]
        go_simp
        refine (PX.out _).mono ?_
        rintro e w' ⟨rfl, rfl⟩
        refine hK.out _ _ hHeld (fun hHeld => ?_)
        clear hK K
        try simp only [Act.put, List.getElem_toArray, List.getElem_cons_succ, List.getElem_cons_zero, List.setIfInBounds_toArray, List.set_cons_zero, List.set_cons_succ]
        refine wpAnyH_take (i := 22) (v := .int .i64 ((7 - k2 : Nat) : Int)) rfl (by kernel_rfl) (by kernel_rfl) (by kernel_rfl) (fun _ _ _ h => h) (y_sub (by rfl) rfl rfl rfl (by omega) (by omega) (by omega)) hHeld ?_
        try simp only [Act.put, List.getElem_toArray, List.getElem_cons_succ, List.getElem_cons_zero, List.setIfInBounds_toArray, List.set_cons_zero, List.set_cons_succ]
        refine wpAnyH_take (i := 23) (v := .int .i64 (dv / 2 ^ (7 - k2))) rfl (by kernel_rfl) (by kernel_rfl) (by kernel_rfl) (fun _ _ _ h => h) (y_run (by rfl) (fun w _ => by unfold execOp; go_simp)) hHeld ?_
        try simp only [Act.put, List.getElem_toArray, List.getElem_cons_succ, List.getElem_cons_zero, List.setIfInBounds_toArray, List.set_cons_zero, List.set_cons_succ]
        refine wpAnyH_take (i := 24) (v := .int .i64 (Go.bits .and .i64 (dv / 2 ^ (7 - k2)) 1)) rfl (by kernel_rfl) (by kernel_rfl) (by kernel_rfl) (fun _ _ _ h => h) (y_run (by rfl) (fun w _ => by unfold execOp; go_simp)) hHeld ?_
        try simp only [Act.put, List.getElem_toArray, List.getElem_cons_succ, List.getElem_cons_zero, List.setIfInBounds_toArray, List.set_cons_zero, List.set_cons_succ]
        refine wpAnyH_take (i := 25) (v := .bool (Go.bits .and .i64 (dv / 2 ^ (7 - k2)) 1 == 1)) rfl (by kernel_rfl) (by kernel_rfl) (by kernel_rfl) (fun _ _ _ h => h) (y_run (by rfl) (fun w _ => by unfold execOp; go_simp)) hHeld ?_
        try simp only [Act.put, List.getElem_toArray, List.getElem_cons_succ, List.getElem_cons_zero, List.setIfInBounds_toArray, List.set_cons_zero, List.set_cons_succ]
        refine wpAnyH_take (i := 26) (v := .bool (Go.bits .and .i64 (dv / 2 ^ (7 - k2)) 1 == 1)) rfl (by kernel_rfl) (by kernel_rfl) (by kernel_rfl) (fun _ _ _ h => h) (y_run (by rfl) (fun w _ => by unfold execOp; go_simp)) hHeld ?_
        try simp only [Act.put, List.getElem_toArray, List.getElem_cons_succ, List.getElem_cons_zero, List.setIfInBounds_toArray, List.set_cons_zero, List.set_cons_succ]
        have I4 : Hid (w5.heap[w.heap.size + 1]? = some (.stringIter s pos2)) := Lib.hid (by rw [hHeld.block _ (by omega)]; exact I3.out)
        have k4 := blk_below K3.out hHeld
        have B4 := Lib.hid (below_then B3.out (by omega) hHeld)
        have z5 : w5.cell? ⟨w.heap.size, 5, none⟩ = some (.int .i64 a5) := blk_cell k4 5
        have K4 := Lib.hid k4
        have b5 := cut_bd a5
        refine wpAnyH_done (by kernel_rfl) ?_ _
        clear hHeld
        clear k4 I3 K3 B3 WIN hnx DOT PX PY q1 q2 q3 q4 HDV HL
        generalize (Go.bits .and .i64 (dv / 2 ^ (7 - k2)) 1 == 1) = tb at *
        cases tb with
        | true =>
          have HG1 : Hid (G = true) := Lib.hid (HCV.out rfl)
          clear HCV HCN
          go_wp2_with fail
          go_ret
          exact ⟨by rw [HG1.out]; rfl, B4.out⟩
        | false =>
          have HG2 := Lib.hid (HCN.out rfl)
          clear HCV HCN
          go_wp2_with (go_at_call 22; refine (Cut_c _ _).mono ?_; rintro e w' ⟨rfl, rfl⟩)
          go_roundw
          case rel => exact ⟨pos2, f, lf + (wide + cut a5), rfl, HG2.out, by omega, by omega, by omega, I4.out, K4.out, B4.out⟩
          case measure =>
            have e4 : w5.iterPos (w.heap.size + 1) = pos2 := by unfold World.iterPos; rw [I4.out]
            rw [e4, HIP.out]
            omega
      · have hin2 : withinB ⟨lf, top, adv r size, size⟩ x y = false := by simpa using hin
        have HCN := Lib.hid (hcn (by rw [hin2]; rfl))
        have WIN := Lib.hid (fun W => within_c ⟨lf, top, adv r size, size⟩ x y W (by omega) (by omega) (by simp only; omega) (by simp only; omega))
        rw [hin2] at WIN
        clear hcv hcn hin hin2 hG RS
        generalize adv (r : Int) size = wide at *
        refine wp_region_held_drew (S := fun W => Below W3.heap.size W3 W) (by kernel_rfl) (Below.refl _ _).drew (fun hHeld => ?_)
        refine wpAnyH_take (i := 0) (v := .int .i64 lf) rfl (by kernel_rfl) (by kernel_rfl) (by kernel_rfl) (fun _ _ _ h => h) (y_move (by rfl) rfl rfl) hHeld ?_
        try simp only [Act.put, List.getElem_toArray, List.getElem_cons_succ, List.getElem_cons_zero, List.setIfInBounds_toArray, List.set_cons_zero, List.set_cons_succ]
        refine wpAnyH_take (i := 1) (v := .int .i64 top) rfl (by kernel_rfl) (by kernel_rfl) (by kernel_rfl) (fun _ _ _ h => h) (y_move (by rfl) rfl rfl) hHeld ?_
        try simp only [Act.put, List.getElem_toArray, List.getElem_cons_succ, List.getElem_cons_zero, List.setIfInBounds_toArray, List.set_cons_zero, List.set_cons_succ]
        refine wpAnyH_take (i := 2) (v := .int .i64 wide) rfl (by kernel_rfl) (by kernel_rfl) (by kernel_rfl) (fun _ _ _ h => h) (y_move (by rfl) rfl rfl) hHeld ?_
        try simp only [Act.put, List.getElem_toArray, List.getElem_cons_succ, List.getElem_cons_zero, List.setIfInBounds_toArray, List.set_cons_zero, List.set_cons_succ]
        refine wpAnyH_take (i := 3) (v := .int .i64 size) rfl (by kernel_rfl) (by kernel_rfl) (by kernel_rfl) (fun _ _ _ h => h) (y_move (by rfl) rfl rfl) hHeld ?_
        try simp only [Act.put, List.getElem_toArray, List.getElem_cons_succ, List.getElem_cons_zero, List.setIfInBounds_toArray, List.set_cons_zero, List.set_cons_succ]
        refine wpAnyH_take (i := 4) (v := .agg #[.int .i64 lf, .int .i64 top, .int .i64 wide, .int .i64 size]) rfl (by kernel_rfl) (by kernel_rfl) (by kernel_rfl) (fun _ _ _ h => h) (y_run (by rfl) (fun w _ => by unfold execOp; go_simp)) hHeld ?_
        try simp only [Act.put, List.getElem_toArray, List.getElem_cons_succ, List.getElem_cons_zero, List.setIfInBounds_toArray, List.set_cons_zero, List.set_cons_succ]
        refine wpAnyH_take (i := 5) (v := .int .i64 x) rfl (by kernel_rfl) (by kernel_rfl) (by kernel_rfl) (fun _ _ _ h => h) (y_move (by rfl) rfl rfl) hHeld ?_
        try simp only [Act.put, List.getElem_toArray, List.getElem_cons_succ, List.getElem_cons_zero, List.setIfInBounds_toArray, List.set_cons_zero, List.set_cons_succ]
        refine wpAnyH_take (i := 6) (v := .int .i64 y) rfl (by kernel_rfl) (by kernel_rfl) (by kernel_rfl) (fun _ _ _ h => h) (y_move (by rfl) rfl rfl) hHeld ?_
        try simp only [Act.put, List.getElem_toArray, List.getElem_cons_succ, List.getElem_cons_zero, List.setIfInBounds_toArray, List.set_cons_zero, List.set_cons_succ]
        refine wpAnyH_ready (rs := [7]) (by kernel_rfl) (by simp) ?_
        refine AllReadyH.cons rfl (fun K hK => ?_) AllReadyH.nil
        try simp only [Act.put, List.getElem_toArray, List.getElem_cons_succ, List.getElem_cons_zero, List.setIfInBounds_toArray, List.set_cons_zero, List.set_cons_succ]
        try rw [if_pos (by rfl)]
        go_simp
        refine (WIN.out _).mono ?_
        rintro e w4 ⟨rfl, hz⟩
        refine hK.out _ _ (below_then hHeld (Below.size hHeld) hz) (fun hHeld => ?_)
        clear hK K
        try simp only [Act.put, List.getElem_toArray, List.getElem_cons_succ, List.getElem_cons_zero, List.setIfInBounds_toArray, List.set_cons_zero, List.set_cons_succ]
        clear hz
        refine wpAnyH_take (i := 8) (v := .bool false) rfl (by kernel_rfl) (by kernel_rfl) (by kernel_rfl) (fun _ _ _ h => h) (y_move (by rfl) rfl rfl) hHeld ?_
        try simp only [Act.put, List.getElem_toArray, List.getElem_cons_succ, List.getElem_cons_zero, List.setIfInBounds_toArray, List.set_cons_zero, List.set_cons_succ]
        refine wpAnyH_take (i := 9) (v := undef) rfl (by kernel_rfl) (by kernel_rfl) (by kernel_rfl) (fun _ _ _ h => h) (.inr ⟨by rfl, rfl⟩) hHeld ?_
        try simp only [Act.put, List.getElem_toArray, List.getElem_cons_succ, List.getElem_cons_zero, List.setIfInBounds_toArray, List.set_cons_zero, List.set_cons_succ]
        refine wpAnyH_take (i := 10) (v := undef) rfl (by kernel_rfl) (by kernel_rfl) (by kernel_rfl) (fun _ _ _ h => h) (.inr ⟨by rfl, rfl⟩) hHeld ?_
        try simp only [Act.put, List.getElem_toArray, List.getElem_cons_succ, List.getElem_cons_zero, List.setIfInBounds_toArray, List.set_cons_zero, List.set_cons_succ]
        refine wpAnyH_take (i := 11) (v := undef) rfl (by kernel_rfl) (by kernel_rfl) (by kernel_rfl) (fun _ _ _ h => h) (.inr ⟨by rfl, rfl⟩) hHeld ?_
        try simp only [Act.put, List.getElem_toArray, List.getElem_cons_succ, List.getElem_cons_zero, List.setIfInBounds_toArray, List.set_cons_zero, List.set_cons_succ]
        refine wpAnyH_take (i := 12) (v := undef) rfl (by kernel_rfl) (by kernel_rfl) (by kernel_rfl) (fun _ _ _ h => h) (.inr ⟨by rfl, rfl⟩) hHeld ?_
        try simp only [Act.put, List.getElem_toArray, List.getElem_cons_succ, List.getElem_cons_zero, List.setIfInBounds_toArray, List.set_cons_zero, List.set_cons_succ]
        refine wpAnyH_take (i := 13) (v := undef) rfl (by kernel_rfl) (by kernel_rfl) (by kernel_rfl) (fun _ _ _ h => h) (.inr ⟨by rfl, rfl⟩) hHeld ?_
        try simp only [Act.put, List.getElem_toArray, List.getElem_cons_succ, List.getElem_cons_zero, List.setIfInBounds_toArray, List.set_cons_zero, List.set_cons_succ]
        refine wpAnyH_take (i := 14) (v := undef) rfl (by kernel_rfl) (by kernel_rfl) (by kernel_rfl) (fun _ _ _ h => h) (.inr ⟨by rfl, rfl⟩) hHeld ?_
        try simp only [Act.put, List.getElem_toArray, List.getElem_cons_succ, List.getElem_cons_zero, List.setIfInBounds_toArray, List.set_cons_zero, List.set_cons_succ]
        refine wpAnyH_take (i := 15) (v := undef) rfl (by kernel_rfl) (by kernel_rfl) (by kernel_rfl) (fun _ _ _ h => h) (.inr ⟨by rfl, rfl⟩) hHeld ?_
        try simp only [Act.put, List.getElem_toArray, List.getElem_cons_succ, List.getElem_cons_zero, List.setIfInBounds_toArray, List.set_cons_zero, List.set_cons_succ]
        refine wpAnyH_take (i := 16) (v := undef) rfl (by kernel_rfl) (by kernel_rfl) (by kernel_rfl) (fun _ _ _ h => h) (.inr ⟨by rfl, rfl⟩) hHeld ?_
        try simp only [Act.put, List.getElem_toArray, List.getElem_cons_succ, List.getElem_cons_zero, List.setIfInBounds_toArray, List.set_cons_zero, List.set_cons_succ]
        refine wpAnyH_take (i := 17) (v := undef) rfl (by kernel_rfl) (by kernel_rfl) (by kernel_rfl) (fun _ _ _ h => h) (.inr ⟨by rfl, rfl⟩) hHeld ?_
        try simp only [Act.put, List.getElem_toArray, List.getElem_cons_succ, List.getElem_cons_zero, List.setIfInBounds_toArray, List.set_cons_zero, List.set_cons_succ]
        refine wpAnyH_take (i := 18) (v := undef) rfl (by kernel_rfl) (by kernel_rfl) (by kernel_rfl) (fun _ _ _ h => h) (.inr ⟨by rfl, rfl⟩) hHeld ?_
        try simp only [Act.put, List.getElem_toArray, List.getElem_cons_succ, List.getElem_cons_zero, List.setIfInBounds_toArray, List.set_cons_zero, List.set_cons_succ]
        refine wpAnyH_take (i := 19) (v := undef) rfl (by kernel_rfl) (by kernel_rfl) (by kernel_rfl) (fun _ _ _ h => h) (.inr ⟨by rfl, rfl⟩) hHeld ?_
        try simp only [Act.put, List.getElem_toArray, List.getElem_cons_succ, List.getElem_cons_zero, List.setIfInBounds_toArray, List.set_cons_zero, List.set_cons_succ]
        refine wpAnyH_take (i := 20) (v := undef) rfl (by kernel_rfl) (by kernel_rfl) (by kernel_rfl) (fun _ _ _ h => h) (.inr ⟨by rfl, rfl⟩) hHeld ?_
        try simp only [Act.put, List.getElem_toArray, List.getElem_cons_succ, List.getElem_cons_zero, List.setIfInBounds_toArray, List.set_cons_zero, List.set_cons_succ]
        refine wpAnyH_take (i := 21) (v := undef) rfl (by kernel_rfl) (by kernel_rfl) (by kernel_rfl) (fun _ _ _ h => h) (.inr ⟨by rfl, rfl⟩) hHeld ?_
        try simp only [Act.put, List.getElem_toArray, List.getElem_cons_succ, List.getElem_cons_zero, List.setIfInBounds_toArray, List.set_cons_zero, List.set_cons_succ]
        refine wpAnyH_take (i := 22) (v := undef) rfl (by kernel_rfl) (by kernel_rfl) (by kernel_rfl) (fun _ _ _ h => h) (.inr ⟨by rfl, rfl⟩) hHeld ?_
        try simp only [Act.put, List.getElem_toArray, List.getElem_cons_succ, List.getElem_cons_zero, List.setIfInBounds_toArray, List.set_cons_zero, List.set_cons_succ]
        refine wpAnyH_take (i := 23) (v := undef) rfl (by kernel_rfl) (by kernel_rfl) (by kernel_rfl) (fun _ _ _ h => h) (.inr ⟨by rfl, rfl⟩) hHeld ?_
        try simp only [Act.put, List.getElem_toArray, List.getElem_cons_succ, List.getElem_cons_zero, List.setIfInBounds_toArray, List.set_cons_zero, List.set_cons_succ]
        refine wpAnyH_take (i := 24) (v := undef) rfl (by kernel_rfl) (by kernel_rfl) (by kernel_rfl) (fun _ _ _ h => h) (.inr ⟨by rfl, rfl⟩) hHeld ?_
        try simp only [Act.put, List.getElem_toArray, List.getElem_cons_succ, List.getElem_cons_zero, List.setIfInBounds_toArray, List.set_cons_zero, List.set_cons_succ]
        refine wpAnyH_take (i := 25) (v := undef) rfl (by kernel_rfl) (by kernel_rfl) (by kernel_rfl) (fun _ _ _ h => h) (.inr ⟨by rfl, rfl⟩) hHeld ?_
        try simp only [Act.put, List.getElem_toArray, List.getElem_cons_succ, List.getElem_cons_zero, List.setIfInBounds_toArray, List.set_cons_zero, List.set_cons_succ]
        refine wpAnyH_take (i := 26) (v := .bool false) rfl (by kernel_rfl) (by kernel_rfl) (by kernel_rfl) (fun _ _ _ h => h) (y_run (by rfl) (fun w _ => by unfold execOp; go_simp)) hHeld ?_
        try simp only [Act.put, List.getElem_toArray, List.getElem_cons_succ, List.getElem_cons_zero, List.setIfInBounds_toArray, List.set_cons_zero, List.set_cons_succ]
        have I4 : Hid (w4.heap[w.heap.size + 1]? = some (.stringIter s pos2)) := Lib.hid (by rw [hHeld.block _ (by omega)]; exact I3.out)
        have k4 := blk_below K3.out hHeld
        have B4 := Lib.hid (below_then B3.out (by omega) hHeld)
        have z5 : w4.cell? ⟨w.heap.size, 5, none⟩ = some (.int .i64 a5) := blk_cell k4 5
        have K4 := Lib.hid k4
        have b5 := cut_bd a5
        refine wpAnyH_done (by kernel_rfl) ?_ _
        clear hHeld
        clear k4 I3 K3 B3 WIN hnx
        go_wp2_with (go_at_call 22; refine (Cut_c _ _).mono ?_; rintro e w' ⟨rfl, rfl⟩)
        go_roundw
        case rel => exact ⟨pos2, f, lf + (wide + cut a5), rfl, HCN.out, by omega, by omega, by omega, I4.out, K4.out, B4.out⟩
        case measure =>
          have e4 : w4.iterPos (w.heap.size + 1) = pos2 := by unfold World.iterPos; rw [I4.out]
          rw [e4, HIP.out]
          omega
    · have hnx : ∀ ty, (Instr.next (.pointer (some ⟨w.heap.size + 1, 0, none⟩)) true ty).run Try.prog wr = _ := fun ty => Lib.run_next_end_at wr (w.heap.size + 1) s pos ty hit.out hp
      have hg : G = false := by have := hG.out; rw [runesFrom_end s fuel pos hp] at this; exact this.symm
      have HGF := Lib.hid hg
      clear hg hG GG
      go_wp2_with fail
      go_ret
      exact ⟨by rw [HGF.out]; rfl, hB.out⟩
end Go.Proofs.Ytfkgpkkjiolfpaa.Ras
