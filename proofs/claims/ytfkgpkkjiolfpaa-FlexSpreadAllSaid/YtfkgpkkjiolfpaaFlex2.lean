/- Flexible rows: what is free. For every input. -/
import Derived.Test.YtfkgpkkjiolfpaaFlex1
import Derived.Test.YtfkgpkkjiolfpaaRegion
namespace Go.Proofs.Ytfkgpkkjiolfpaa.Flx
open Go.RowKit Go.Proofs.Ytfkgpkkjiolfpaa.Rgn Go.Proofs.Ytfkgpkkjiolfpaa.Pl Go.Proofs.Ytfkgpkkjiolfpaa.Fx Go.Proofs.Ytfkgpkkjiolfpaa.Sh Go.Proofs.YtfkgpkkjiolfpaaW.PrintWords Go.Proofs.YtfkgpkkjiolfpaaW.PrintLast Go.Proofs.YtfkgpkkjiolfpaaW.PrintMore
set_option linter.unusedVariables false
set_option linter.unusedSimpArgs false
attribute [local go_sem] mx2 mn2 mx_two mn_two mx_three mn_three

theorem take_snocI (l : List It) (k : Nat) (hk : k < l.length) : l.take (k + 1) = l.take k ++ [rd_T95 l (k : Int)] := by
  have e : rd_T95 l (k : Int) = l[k] := by simp [rd_T95, List.getD_eq_getElem?_getD, hk]
  rw [e, List.take_succ_eq_append_getElem hk]
theorem rd_memI (l : List It) (k : Nat) (hk : k < l.length) : rd_T95 l (k : Int) ∈ l := by
  have e : rd_T95 l (k : Int) = l[k] := by simp [rd_T95, List.getD_eq_getElem?_getD, hk]
  rw [e]; exact List.getElem_mem hk
theorem free_snoc (room : Int) (of : It → Int) (l : List It) (x : It) : freeP room of (l ++ [x]) = freeP room of l - (of x + x.f0.f5) := by simp [freeP]
/-- An item's numbers are small. -/
def Small (of : It → Int) (x : It) : Prop := -33554432 ≤ of x ∧ of x ≤ 33554432 ∧ -16777216 ≤ x.f0.f5 ∧ x.f0.f5 ≤ 16777216
theorem free_bd (room : Int) (of : It → Int) (l : List It) (h : ∀ x, x ∈ l → Small of x) : ∀ k, k ≤ l.length → room - 50331648 * k ≤ freeP room of (l.take k) ∧ freeP room of (l.take k) ≤ room + 50331648 * k := by
  intro k
  induction k with
  | zero => intro _; simp [freeP]
  | succ k ih =>
    intro hk
    have := ih (by omega)
    rw [take_snocI l k (by omega), free_snoc]
    have hs := h _ (rd_memI l k (by omega))
    unfold Small at hs
    omega
theorem rangeB {w : World} {b : Nat} {cs : List Value} {t : TypeId} (h : w.heap[b]? = some (.cells cs.toArray t (0, 0))) : w.rangeAt b 0 cs := by
  intro j v hj
  rw [Nat.zero_add, blk_cell h j]
  simpa using hj
theorem rangeBelow {w w' : World} {b o n : Nat} {cs : List Value} (h : w.rangeAt b o cs) (hb : Below n w w') (hn : b < n) : w'.rangeAt b o cs :=
  fun j v hv => (hb.cell (p := ⟨b, o + j, none⟩) hn).trans (h j v hv)
theorem itV_one (x : It) : ∀ v ∈ itV x, v.oneCell' = true := by
  intro v hv
  unfold itV at hv
  simp only [List.mem_cons, List.not_mem_nil, or_false] at hv
  rcases hv with rfl | rfl | rfl | rfl | rfl | rfl | rfl | rfl | rfl <;> rfl
theorem fld_I0 (b : Nat) (w : World) : (Instr.fieldAt 95 (.pointer (some ⟨b, 0, none⟩)) 0).run Try.prog w = .ok (.pointer (some ⟨b, 0, none⟩)) w := by go_simp
theorem fld_L5 (b : Nat) (w : World) : (Instr.fieldAt 37 (.pointer (some ⟨b, 0, none⟩)) 5).run Try.prog w = .ok (.pointer (some ⟨b, 5, none⟩)) w := by go_simp

set_option maxRecDepth 100000 in
set_option maxHeartbeats 1000000 in
theorem free_c (F : FuncId) (hF : F = 46 ∨ F = 75) (of : It → Int) (hof : IsOf F of) (base g : Nat) (room : Int) (grows : Bool) (l : List It) (w : World) (h : IsR w base g room grows l)
    (hs : ∀ x, x ∈ l → Small of x) (hl : l.length ≤ 1000) (hr0 : -1000000000000 ≤ room) (hr1 : room ≤ 1000000000000) :
    Calls Try.prog 45 #[.pointer (some ⟨g, 0, none⟩), .func (.func F) #[] #[]] w fun e w' => e = .returned (.int .i64 (freeP room of l)) ∧ Below w.heap.size w w' := by
  obtain ⟨A, c, h0, h1, h2, h3, h4, h5⟩ := h.reads
  have H3 := Lib.hid h3
  have HS := Lib.hid hs
  have HO := Lib.hid hof
  have hbd := free_bd room of l hs
  have HBD := Lib.hid hbd
  obtain ⟨m, hm⟩ : ∃ m, l.length = m := ⟨_, rfl⟩
  have HM := Lib.hid hm
  rw [hm] at h1 h5 hl
  clear h h2 h3 hs hof hbd hm
  rcases hF with rfl | rfl
  · go_enter Try.func45, Try.ntmps45
    go_wp2_with fail
    go_loopw [5, 17] (fun n i wr => ∃ k : Nat, k ≤ m ∧ i = .int .i64 k ∧ n = .int .i64 (freeP room of (l.take k)) ∧ Hid (Below w.heap.size w wr)) (fun _ i _ => m - (RowKit.intOf i).toNat)
    case atStart => exact ⟨0, Nat.zero_le _, rfl, rfl, Below.refl _ _⟩
    case round =>
      obtain ⟨k, hk, rfl, rfl, hB⟩ := hrel
      by_cases hlt : k < m
      · have hkl : k < l.length := by rw [HM.out]; exact hlt
        obtain ⟨ad, ea, x0, x1, x2, x3, x4, x5, x6, x7, x8⟩ := at_T95 (Kd.C_below H3.out hB.out) (k : Int) (by omega) (by rw [HM.out]; omega)
        subst ea
        rw [Int.toNat_natCast] at x0 x1 x2 x3 x4 x5 x6 x7 x8
        have hsn := free_snoc room of (l.take k) (rd_T95 l (k : Int))
        rw [← take_snocI l k hkl] at hsn
        have hsm := HS.out _ (rd_memI l k hkl)
        have hb := HBD.out k (by omega)
        generalize rd_T95 l (k : Int) = x at *
        obtain ⟨⟨a0, a1, a2, a3, a4, a5⟩, a6, a7, a8⟩ := x
        simp only at x0 x1 x2 x3 x4 x5 x6 x7 x8
        generalize freeP room of (l.take k) = fr at *
        have HSN := Lib.hid hsn
        clear hsn hkl
        obtain ⟨b, hbw⟩ : ∃ b, wr.heap.size = b := ⟨_, rfl⟩
        have hR : (wr.alloc (.cells (itV (⟨⟨a0, a1, a2, a3, a4, a5⟩, a6, a7, a8⟩ : It)).toArray 95)).rangeAt b 0 (itV (⟨⟨a0, a1, a2, a3, a4, a5⟩, a6, a7, a8⟩ : It)) := by
          rw [← hbw]; exact rangeB (blk_new wr _)
        have hB1 : Below w.heap.size w (wr.alloc (.cells (itV (⟨⟨a0, a1, a2, a3, a4, a5⟩, a6, a7, a8⟩ : It)).toArray 95)) := below_alloc hB.out _
        have hlb : b < (wr.alloc (.cells (itV (⟨⟨a0, a1, a2, a3, a4, a5⟩, a6, a7, a8⟩ : It)).toArray 95)).heap.size := by rw [← hbw]; simp
        go_wp2_with fail
        have HR := Lib.hid hR
        have HB1 := Lib.hid hB1
        have HLB := Lib.hid hlb
        clear hR hB1 hlb x0 x1 x2 x3 x4 x5 x6 x7 x8 hbw
        have hOX := HO.out (⟨⟨a0, a1, a2, a3, a4, a5⟩, a6, a7, a8⟩ : It)
        obtain ⟨s0, s1, s2, s3⟩ := hsm
        obtain ⟨o, ho⟩ : ∃ o, of (⟨⟨a0, a1, a2, a3, a4, a5⟩, a6, a7, a8⟩ : It) = o := ⟨_, rfl⟩
        rw [ho] at hOX HSN s0 s1
        have HOX := Lib.hid hOX
        clear hOX ho
        simp only at s2 s3
        have e1 : -9223372036854775808 ≤ o + a5 ∧ o + a5 ≤ 9223372036854775807 := by omega
        have e2 : -9223372036854775808 ≤ fr - (o + a5) ∧ fr - (o + a5) ≤ 9223372036854775807 := by omega
        refine wp_region_held_drew (S := fun w' => w'.rangeAt b 0 (itV (⟨⟨a0, a1, a2, a3, a4, a5⟩, a6, a7, a8⟩ : It))) (by kernel_rfl) HR.out (fun hHeld => ?_)
        refine wpAnyH_take (i := 0) (v := .int .i64 fr) rfl (by kernel_rfl) (by kernel_rfl) (by kernel_rfl) (fun _ _ _ h => h) (y_move (by rfl) rfl rfl) hHeld ?_
        try simp only [Act.put, List.getElem_toArray, List.getElem_cons_succ, List.getElem_cons_zero, List.setIfInBounds_toArray, List.set_cons_zero, List.set_cons_succ]
        refine wpAnyH_take (i := 1) (v := .func (.func 46) #[] #[]) rfl (by kernel_rfl) (by kernel_rfl) (by kernel_rfl) (fun _ _ _ h => h) (y_move (by rfl) rfl rfl) hHeld ?_
        try simp only [Act.put, List.getElem_toArray, List.getElem_cons_succ, List.getElem_cons_zero, List.setIfInBounds_toArray, List.set_cons_zero, List.set_cons_succ]
        refine wpAnyH_take (i := 2) (v := .agg (itV (⟨⟨a0, a1, a2, a3, a4, a5⟩, a6, a7, a8⟩ : It)).toArray) rfl (by kernel_rfl) (by kernel_rfl) (by kernel_rfl) (fun _ _ _ h => h) (yieldsIf_load_mid (by rfl) 95 (.tmp 7) rfl b 0 rfl (itV (⟨⟨a0, a1, a2, a3, a4, a5⟩, a6, a7, a8⟩ : It)) _ (fun w h => h) Try.underlying95 rfl (by kernel_rfl)) hHeld ?_
        try simp only [Act.put, List.getElem_toArray, List.getElem_cons_succ, List.getElem_cons_zero, List.setIfInBounds_toArray, List.set_cons_zero, List.set_cons_succ]
        refine wpAnyH_take (i := 4) (v := .pointer (some ⟨b, 0, none⟩)) rfl (by kernel_rfl) (by kernel_rfl) (by kernel_rfl) (fun _ _ _ h => h) (y_field (by rfl) rfl rfl (fld_I0 _)) hHeld ?_
        try simp only [Act.put, List.getElem_toArray, List.getElem_cons_succ, List.getElem_cons_zero, List.setIfInBounds_toArray, List.set_cons_zero, List.set_cons_succ]
        refine wpAnyH_take (i := 5) (v := .pointer (some ⟨b, 5, none⟩)) rfl (by kernel_rfl) (by kernel_rfl) (by kernel_rfl) (fun _ _ _ h => h) (y_field (by rfl) rfl rfl (fld_L5 _)) hHeld ?_
        try simp only [Act.put, List.getElem_toArray, List.getElem_cons_succ, List.getElem_cons_zero, List.setIfInBounds_toArray, List.set_cons_zero, List.set_cons_succ]
        refine wpAnyH_take (i := 6) (v := .int .i64 a5) rfl (by kernel_rfl) (by kernel_rfl) (by kernel_rfl) (fun _ _ _ h => h) (y_load (by rfl) rfl rfl (fun w h => h 5 _ rfl)) hHeld ?_
        try simp only [Act.put, List.getElem_toArray, List.getElem_cons_succ, List.getElem_cons_zero, List.setIfInBounds_toArray, List.set_cons_zero, List.set_cons_succ]
        refine wpAnyH_ready (rs := [3]) (by kernel_rfl) (by simp) ?_
        refine AllReadyH.cons rfl (fun K hK => ?_) AllReadyH.nil
        try simp only [Act.put, List.getElem_toArray, List.getElem_cons_succ, List.getElem_cons_zero, List.setIfInBounds_toArray, List.set_cons_zero, List.set_cons_succ]
        rw [if_pos (by rfl)]
        go_simp
        refine (HOX.out _).mono ?_
        rintro e w' ⟨rfl, hK1⟩
        refine hK.out _ _ (rangeBelow hHeld hK1 HLB.out) (fun hHeld => ?_)
        clear hK K
        try simp only [Act.put, List.getElem_toArray, List.getElem_cons_succ, List.getElem_cons_zero, List.setIfInBounds_toArray, List.set_cons_zero, List.set_cons_succ]
        refine wpAnyH_take (i := 7) (v := .int .i64 (o + a5)) rfl (by kernel_rfl) (by kernel_rfl) (by kernel_rfl) (fun _ _ _ h => h) (y_add (by rfl) rfl rfl rfl rfl e1.1 e1.2) hHeld ?_
        try simp only [Act.put, List.getElem_toArray, List.getElem_cons_succ, List.getElem_cons_zero, List.setIfInBounds_toArray, List.set_cons_zero, List.set_cons_succ]
        refine wpAnyH_take (i := 8) (v := .int .i64 (fr - (o + a5))) rfl (by kernel_rfl) (by kernel_rfl) (by kernel_rfl) (fun _ _ _ h => h) (y_sub (by rfl) rfl rfl rfl rfl e2.1 e2.2) hHeld ?_
        try simp only [Act.put, List.getElem_toArray, List.getElem_cons_succ, List.getElem_cons_zero, List.setIfInBounds_toArray, List.set_cons_zero, List.set_cons_succ]
        refine wpAnyH_take (i := 9) (v := .int .i64 (fr - (o + a5))) rfl (by kernel_rfl) (by kernel_rfl) (by kernel_rfl) (fun _ _ _ h => h) (y_assign (by rfl) rfl rfl) hHeld ?_
        try simp only [Act.put, List.getElem_toArray, List.getElem_cons_succ, List.getElem_cons_zero, List.setIfInBounds_toArray, List.set_cons_zero, List.set_cons_succ]
        refine wpAnyH_done (by kernel_rfl) ?_ _
        clear hHeld
        have HB2 := Lib.hid (below_then HB1.out.drew HB1.out.drew.size hK1)
        clear hK1 e1 e2
        go_wp2_with fail
        exact ⟨⟨k + 1, by omega, by go_num, by rw [HSN.out], HB2.out⟩, by simp [RowKit.intOf]; omega⟩
      · obtain rfl : k = m := by omega
        have hkn : l.take k = l := List.take_of_length_le (by rw [HM.out]; exact Nat.le_refl _)
        rw [hkn]
        clear hkn
        go_wp2_with fail
        go_ret
        exact ⟨rfl, hB.out⟩
  · go_enter Try.func45, Try.ntmps45
    go_wp2_with fail
    go_loopw [5, 17] (fun n i wr => ∃ k : Nat, k ≤ m ∧ i = .int .i64 k ∧ n = .int .i64 (freeP room of (l.take k)) ∧ Hid (Below w.heap.size w wr)) (fun _ i _ => m - (RowKit.intOf i).toNat)
    case atStart => exact ⟨0, Nat.zero_le _, rfl, rfl, Below.refl _ _⟩
    case round =>
      obtain ⟨k, hk, rfl, rfl, hB⟩ := hrel
      by_cases hlt : k < m
      · have hkl : k < l.length := by rw [HM.out]; exact hlt
        obtain ⟨ad, ea, x0, x1, x2, x3, x4, x5, x6, x7, x8⟩ := at_T95 (Kd.C_below H3.out hB.out) (k : Int) (by omega) (by rw [HM.out]; omega)
        subst ea
        rw [Int.toNat_natCast] at x0 x1 x2 x3 x4 x5 x6 x7 x8
        have hsn := free_snoc room of (l.take k) (rd_T95 l (k : Int))
        rw [← take_snocI l k hkl] at hsn
        have hsm := HS.out _ (rd_memI l k hkl)
        have hb := HBD.out k (by omega)
        generalize rd_T95 l (k : Int) = x at *
        obtain ⟨⟨a0, a1, a2, a3, a4, a5⟩, a6, a7, a8⟩ := x
        simp only at x0 x1 x2 x3 x4 x5 x6 x7 x8
        generalize freeP room of (l.take k) = fr at *
        have HSN := Lib.hid hsn
        clear hsn hkl
        obtain ⟨b, hbw⟩ : ∃ b, wr.heap.size = b := ⟨_, rfl⟩
        have hR : (wr.alloc (.cells (itV (⟨⟨a0, a1, a2, a3, a4, a5⟩, a6, a7, a8⟩ : It)).toArray 95)).rangeAt b 0 (itV (⟨⟨a0, a1, a2, a3, a4, a5⟩, a6, a7, a8⟩ : It)) := by
          rw [← hbw]; exact rangeB (blk_new wr _)
        have hB1 : Below w.heap.size w (wr.alloc (.cells (itV (⟨⟨a0, a1, a2, a3, a4, a5⟩, a6, a7, a8⟩ : It)).toArray 95)) := below_alloc hB.out _
        have hlb : b < (wr.alloc (.cells (itV (⟨⟨a0, a1, a2, a3, a4, a5⟩, a6, a7, a8⟩ : It)).toArray 95)).heap.size := by rw [← hbw]; simp
        go_wp2_with fail
        have HR := Lib.hid hR
        have HB1 := Lib.hid hB1
        have HLB := Lib.hid hlb
        clear hR hB1 hlb x0 x1 x2 x3 x4 x5 x6 x7 x8 hbw
        have hOX := HO.out (⟨⟨a0, a1, a2, a3, a4, a5⟩, a6, a7, a8⟩ : It)
        obtain ⟨s0, s1, s2, s3⟩ := hsm
        obtain ⟨o, ho⟩ : ∃ o, of (⟨⟨a0, a1, a2, a3, a4, a5⟩, a6, a7, a8⟩ : It) = o := ⟨_, rfl⟩
        rw [ho] at hOX HSN s0 s1
        have HOX := Lib.hid hOX
        clear hOX ho
        simp only at s2 s3
        have e1 : -9223372036854775808 ≤ o + a5 ∧ o + a5 ≤ 9223372036854775807 := by omega
        have e2 : -9223372036854775808 ≤ fr - (o + a5) ∧ fr - (o + a5) ≤ 9223372036854775807 := by omega
        refine wp_region_held_drew (S := fun w' => w'.rangeAt b 0 (itV (⟨⟨a0, a1, a2, a3, a4, a5⟩, a6, a7, a8⟩ : It))) (by kernel_rfl) HR.out (fun hHeld => ?_)
        refine wpAnyH_take (i := 0) (v := .int .i64 fr) rfl (by kernel_rfl) (by kernel_rfl) (by kernel_rfl) (fun _ _ _ h => h) (y_move (by rfl) rfl rfl) hHeld ?_
        try simp only [Act.put, List.getElem_toArray, List.getElem_cons_succ, List.getElem_cons_zero, List.setIfInBounds_toArray, List.set_cons_zero, List.set_cons_succ]
        refine wpAnyH_take (i := 1) (v := .func (.func 75) #[] #[]) rfl (by kernel_rfl) (by kernel_rfl) (by kernel_rfl) (fun _ _ _ h => h) (y_move (by rfl) rfl rfl) hHeld ?_
        try simp only [Act.put, List.getElem_toArray, List.getElem_cons_succ, List.getElem_cons_zero, List.setIfInBounds_toArray, List.set_cons_zero, List.set_cons_succ]
        refine wpAnyH_take (i := 2) (v := .agg (itV (⟨⟨a0, a1, a2, a3, a4, a5⟩, a6, a7, a8⟩ : It)).toArray) rfl (by kernel_rfl) (by kernel_rfl) (by kernel_rfl) (fun _ _ _ h => h) (yieldsIf_load_mid (by rfl) 95 (.tmp 7) rfl b 0 rfl (itV (⟨⟨a0, a1, a2, a3, a4, a5⟩, a6, a7, a8⟩ : It)) _ (fun w h => h) Try.underlying95 rfl (by kernel_rfl)) hHeld ?_
        try simp only [Act.put, List.getElem_toArray, List.getElem_cons_succ, List.getElem_cons_zero, List.setIfInBounds_toArray, List.set_cons_zero, List.set_cons_succ]
        refine wpAnyH_take (i := 4) (v := .pointer (some ⟨b, 0, none⟩)) rfl (by kernel_rfl) (by kernel_rfl) (by kernel_rfl) (fun _ _ _ h => h) (y_field (by rfl) rfl rfl (fld_I0 _)) hHeld ?_
        try simp only [Act.put, List.getElem_toArray, List.getElem_cons_succ, List.getElem_cons_zero, List.setIfInBounds_toArray, List.set_cons_zero, List.set_cons_succ]
        refine wpAnyH_take (i := 5) (v := .pointer (some ⟨b, 5, none⟩)) rfl (by kernel_rfl) (by kernel_rfl) (by kernel_rfl) (fun _ _ _ h => h) (y_field (by rfl) rfl rfl (fld_L5 _)) hHeld ?_
        try simp only [Act.put, List.getElem_toArray, List.getElem_cons_succ, List.getElem_cons_zero, List.setIfInBounds_toArray, List.set_cons_zero, List.set_cons_succ]
        refine wpAnyH_take (i := 6) (v := .int .i64 a5) rfl (by kernel_rfl) (by kernel_rfl) (by kernel_rfl) (fun _ _ _ h => h) (y_load (by rfl) rfl rfl (fun w h => h 5 _ rfl)) hHeld ?_
        try simp only [Act.put, List.getElem_toArray, List.getElem_cons_succ, List.getElem_cons_zero, List.setIfInBounds_toArray, List.set_cons_zero, List.set_cons_succ]
        refine wpAnyH_ready (rs := [3]) (by kernel_rfl) (by simp) ?_
        refine AllReadyH.cons rfl (fun K hK => ?_) AllReadyH.nil
        try simp only [Act.put, List.getElem_toArray, List.getElem_cons_succ, List.getElem_cons_zero, List.setIfInBounds_toArray, List.set_cons_zero, List.set_cons_succ]
        rw [if_pos (by rfl)]
        go_simp
        refine (HOX.out _).mono ?_
        rintro e w' ⟨rfl, hK1⟩
        refine hK.out _ _ (rangeBelow hHeld hK1 HLB.out) (fun hHeld => ?_)
        clear hK K
        try simp only [Act.put, List.getElem_toArray, List.getElem_cons_succ, List.getElem_cons_zero, List.setIfInBounds_toArray, List.set_cons_zero, List.set_cons_succ]
        refine wpAnyH_take (i := 7) (v := .int .i64 (o + a5)) rfl (by kernel_rfl) (by kernel_rfl) (by kernel_rfl) (fun _ _ _ h => h) (y_add (by rfl) rfl rfl rfl rfl e1.1 e1.2) hHeld ?_
        try simp only [Act.put, List.getElem_toArray, List.getElem_cons_succ, List.getElem_cons_zero, List.setIfInBounds_toArray, List.set_cons_zero, List.set_cons_succ]
        refine wpAnyH_take (i := 8) (v := .int .i64 (fr - (o + a5))) rfl (by kernel_rfl) (by kernel_rfl) (by kernel_rfl) (fun _ _ _ h => h) (y_sub (by rfl) rfl rfl rfl rfl e2.1 e2.2) hHeld ?_
        try simp only [Act.put, List.getElem_toArray, List.getElem_cons_succ, List.getElem_cons_zero, List.setIfInBounds_toArray, List.set_cons_zero, List.set_cons_succ]
        refine wpAnyH_take (i := 9) (v := .int .i64 (fr - (o + a5))) rfl (by kernel_rfl) (by kernel_rfl) (by kernel_rfl) (fun _ _ _ h => h) (y_assign (by rfl) rfl rfl) hHeld ?_
        try simp only [Act.put, List.getElem_toArray, List.getElem_cons_succ, List.getElem_cons_zero, List.setIfInBounds_toArray, List.set_cons_zero, List.set_cons_succ]
        refine wpAnyH_done (by kernel_rfl) ?_ _
        clear hHeld
        have HB2 := Lib.hid (below_then HB1.out.drew HB1.out.drew.size hK1)
        clear hK1 e1 e2
        go_wp2_with fail
        exact ⟨⟨k + 1, by omega, by go_num, by rw [HSN.out], HB2.out⟩, by simp [RowKit.intOf]; omega⟩
      · obtain rfl : k = m := by omega
        have hkn : l.take k = l := List.take_of_length_le (by rw [HM.out]; exact Nat.le_refl _)
        rw [hkn]
        clear hkn
        go_wp2_with fail
        go_ret
        exact ⟨rfl, hB.out⟩
end Go.Proofs.Ytfkgpkkjiolfpaa.Flx
