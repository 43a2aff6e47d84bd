/- Widths of blocks: Wide. For every input. -/
import Derived.Test.YtomejeclfbpilaaWidths3
namespace Go.Proofs.Ytomejeclfbpilaa.Wid
open Go.RowKit Go.Proofs.Ytomejeclfbpilaa.Pl Go.Proofs.Ytomejeclfbpilaa.Fx Go.Proofs.Ytomejeclfbpilaa.Sty Go.Proofs.YtomejeclfbpilaaW.PrintWords Go.Proofs.YtomejeclfbpilaaW.PrintLast Go.Proofs.YtomejeclfbpilaaW.PrintMore
set_option linter.unusedVariables false
set_option linter.unusedSimpArgs false
attribute [local go_sem] mx2 mn2 mx_two mn_two mx_three mn_three

theorem boundB_bd (s : List Int) (room rim n : Int) (h0 : 0 ≤ rim) : 0 ≤ boundB s room rim n ∧ boundB s room rim n ≤ max n 16777216 := by
  unfold boundB
  have h7 := ofB_bd s room rim 7 h0
  have h9 := ofB_bd s room rim 9 h0
  split <;> split <;> omega
theorem toldB_bd (s : List Int) (room rim n : Int) (h0 : 0 ≤ rim) : 0 ≤ toldB s room rim n ∧ toldB s room rim n ≤ max n 16777216 := by
  unfold toldB
  have h5 := ofB_bd s room rim 5 h0
  have a := boundB_bd s room rim (ofB s room rim 5).1 h0
  have b := boundB_bd s room rim n h0
  split <;> omega
theorem prt_bd (n u d : Int) : -16777216 ≤ prt n u d ∧ prt n u d ≤ 16777216 := by
  unfold prt
  split
  · omega
  · exact cut_bd _
theorem rimP_bd (s : List Int) (room : Int) : 0 ≤ rimP s room ∧ rimP s room ≤ 67108864 := by
  unfold rimP
  have h1 := edgeP_bd s 22 room
  have h2 := edgeP_bd s 20 room
  have h3 := edgeP_bd s 18 room
  have h4 := edgeP_bd s 16 room
  omega
/-- The content's width; what is left. -/
def widthP (s : List Int) (room : Int) : Int := toldB s room (rimP s room) (room - edgeP s 14 room - edgeP s 12 room - rimP s room)
def restP (s : List Int) (room : Int) : Int := room - widthP s room - rimP s room - edgeP s 14 room - edgeP s 12 room
def sidesP (s : List Int) (room : Int) : Int × Int :=
  if s.getD 28 0 = 6 then
    (if s.getD 24 0 = 6 then (if 0 < restP s room then (prt (restP s room) 1 2, restP s room - prt (restP s room) 1 2) else (edgeP s 14 room, edgeP s 12 room + restP s room))
      else (restP s room, edgeP s 12 room))
  else (edgeP s 14 room, edgeP s 12 room + restP s room)
theorem boxed2 (s : List Int) (room rim : Int) (hs : s.length = 118) (w1 : World) :
    ∃ W2, ((w1.alloc (.cells Try.zeroCells84 84)).alloc (.cells z4 58)).setCells w1.heap.size 0 (bd s room rim) = W2 ∧ Below w1.heap.size w1 W2 ∧ BoxB s room rim w1.heap.size W2 ∧ W2.heap[w1.heap.size + 1]? = some (.cells z4 58 (0, 0)) ∧
      ((w1.alloc (.cells Try.zeroCells84 84)).alloc (.cells z4 58)).there w1.heap.size 0 (bd s room rim).toArray.size := by
  have hz : Try.zeroCells84.size = 124 := by kernel_rfl
  have hbl : (bd s room rim).length = 124 := by rw [bd_len, hs]
  have k0 : ((w1.alloc (.cells Try.zeroCells84 84)).alloc (.cells z4 58)).heap[w1.heap.size]? = some (.cells Try.zeroCells84 84 (0, 0)) := blk_alloc (blk_new w1 _) _
  have k1 : ((w1.alloc (.cells Try.zeroCells84 84)).alloc (.cells z4 58)).heap[w1.heap.size + 1]? = some (.cells z4 58 (0, 0)) := by
    have := blk_new (w1.alloc (.cells Try.zeroCells84 84)) (.cells z4 58)
    rwa [World.size_alloc] at this
  have k2 := setCells_block w1.heap.size 84 (bd s room rim) [] Try.zeroCells84.toList _ (by rw [List.nil_append, Array.toArray_toList]; exact k0) (by rw [Array.length_toList, hbl]; exact hz)
  refine ⟨_, rfl, setCells_below _ (Nat.le_refl _) _ _ _ (below_alloc (below_alloc (Below.refl _ _) _) _), BoxB.of_row hs (range_blk k2), ?_, fun j hj => ?_⟩
  · rw [setCells_far _ _ (by omega)]
    exact k1
  · rw [List.size_toArray, hbl] at hj
    rw [Nat.zero_add]
    exact ⟨by rw [blk_cell k0 j, Array.getElem?_eq_getElem (by omega)]; rfl, blk_frozen k0 j⟩

set_option maxRecDepth 100000 in
set_option maxHeartbeats 1000000 in
theorem Wide_c (s : List Int) (room0 : Int) (w : World) (hs : s.length = 118) :
    Calls Try.prog 30 #[.agg (sv s).toArray, .int .i64 room0] w fun e w' => e = .returned (.tuple #[.int .i64 (cut (sidesP s (cut room0)).1), .int .i64 (cut (widthP s (cut room0))), .int .i64 (cut (sidesP s (cut room0)).2)]) ∧ Below w.heap.size w w' := by
  have HS := Lib.hid hs
  have IZ := Lib.hid (size27 hs)
  have hcb := cut_bd room0
  have hb0 : Below w.heap.size w (w.alloc (.cells (sv s).toArray 54)) := below_alloc (Below.refl _ _) _
  have HB0 := Lib.hid hb0
  have R0 := Lib.hid (range_new w (sv s) 54)
  obtain ⟨q, hq⟩ : ∃ q : Int × Int × Int, q = (cut (sidesP s (cut room0)).1, cut (widthP s (cut room0)), cut (sidesP s (cut room0)).2) := ⟨_, rfl⟩
  have E1 : cut (sidesP s (cut room0)).1 = q.1 := by rw [hq]
  have E2 : cut (widthP s (cut room0)) = q.2.1 := by rw [hq]
  have E3 : cut (sidesP s (cut room0)).2 = q.2.2 := by rw [hq]
  rw [E1, E2, E3]
  have HQ := Lib.hid hq
  clear hq E1 E2 E3 hb0 hs
  go_enter Try.func30, Try.ntmps30
  go_wp2_with (first
    | (go_at_call 17; refine (Cut_c _ _).mono ?_; rintro e w' ⟨rfl, rfl⟩)
    | ((with_reducible refine gate_dst (N := 15) rfl ?_); refine wpList_load_mid rfl 54 (.tmp 2) rfl w.heap.size 0 rfl (sv s) _ R0.out Try.underlying54 rfl IZ.out ?_))
  generalize hroom : cut room0 = room at *
  refine (across_c s room _ HS.out).mono ?_
  rintro e w1 ⟨rfl, h1⟩
  have B1 := Lib.hid (below_then HB0.out HB0.out.size h1)
  have R1 := Lib.hid (range_below R0.out h1 (by simp))
  obtain ⟨W2, eW2, hB2, hBx, hM, hT⟩ := boxed2 s room (rimP s room) HS.out w1
  unfold edV
  rw [show (11 : Int) + 1 = 12 from rfl, show (11 : Int) + 2 = 13 from rfl, show (11 : Int) + 3 = 14 from rfl]
  simp only [id]
  have hsz1 : w.heap.size < w1.heap.size := Nat.lt_of_lt_of_le (by simp) h1.size
  obtain ⟨g, hg⟩ : ∃ g, w1.heap.size = g := ⟨_, rfl⟩
  rw [hg] at hB2 hBx hM hT eW2 hsz1
  have hsz2 : g + 1 < W2.heap.size := blk_lt hM
  obtain ⟨W3, eW3⟩ : ∃ W3, (((W2.setCell ⟨g + 1, 0, none⟩ (.int .i64 (edgeP s 11 room))).setCell ⟨g + 1, 1, none⟩ (.int .i64 (edgeP s 12 room))).setCell ⟨g + 1, 2, none⟩ (.int .i64 (edgeP s 13 room))).setCell ⟨g + 1, 3, none⟩ (.int .i64 (edgeP s 14 room)) = W3 := ⟨_, rfl⟩
  have hM3 : W3.heap[g + 1]? = some (.cells #[.int .i64 (edgeP s 11 room), .int .i64 (edgeP s 12 room), .int .i64 (edgeP s 13 room), .int .i64 (edgeP s 14 room)] 58 (0, 0)) := by
    rw [← eW3]; exact put4_same hM _ _ _ _
  have hB3 : Below (g + 1) W2 W3 := by
    rw [← eW3]; exact put4_below (Below.refl _ _) (Nat.le_refl _) _ _ _ _
  have hBx3 := hBx.below hB3 (by omega)
  have hB23 : Below w.heap.size w W3 := (B1.out.trans (hB2.mono (by omega))).trans (hB3.mono (by omega))
  have hR3 := range_below (range_below R1.out hB2 hsz1) hB3 (by omega)
  obtain ⟨v0, d0⟩ : ∃ v, W2.cell? ⟨g + 1, 0, none⟩ = some v := ⟨_, blk_cell hM 0⟩
  obtain ⟨v1, d1⟩ : ∃ v, W2.cell? ⟨g + 1, 1, none⟩ = some v := ⟨_, blk_cell hM 1⟩
  obtain ⟨v2, d2⟩ : ∃ v, W2.cell? ⟨g + 1, 2, none⟩ = some v := ⟨_, blk_cell hM 2⟩
  obtain ⟨v3, d3⟩ : ∃ v, W2.cell? ⟨g + 1, 3, none⟩ = some v := ⟨_, blk_cell hM 3⟩
  have f0 := blk_frozen hM 0
  have f1 := blk_frozen hM 1
  have f2 := blk_frozen hM 2
  have f3 := blk_frozen hM 3
  have l1 := blk_cell hM3 1
  have l3 := blk_cell hM3 3
  have lr := hBx3.rim_
  have g2 : (Try.prog.info? 84).map (·.size) = some (bd s room (rimP s room)).toArray.size := by rw [List.size_toArray]; exact size84 room _ HS.out
  have g3 := all_oneCell_toArray (bd_one s room (rimP s room))
  have IZ84 := Lib.hid (size84 room (rimP s room) HS.out)
  have EW2 := Lib.hid eW2
  have EW3 := Lib.hid eW3
  have HT := Lib.hid hT
  have G2 := Lib.hid g2
  have G3 := Lib.hid g3
  have BX3 := Lib.hid hBx3
  have HB3 := Lib.hid hB23
  have R3 := Lib.hid hR3
  have HG := Lib.hid hg
  have HSZ := Lib.hid hsz1
  have M3 := Lib.hid hM3
  have l1' : W3.cell? ⟨g + 1, 1, none⟩ = some (.int .i64 (edgeP s 12 room)) := l1
  have l3' : W3.cell? ⟨g + 1, 3, none⟩ = some (.int .i64 (edgeP s 14 room)) := l3
  have y12 := edgeP_bd s 12 room
  have y14 := edgeP_bd s 14 room
  have yr := rimP_bd s room
  have hwd : widthP s room = toldB s room (rimP s room) (room - edgeP s 14 room - edgeP s 12 room - rimP s room) := rfl
  have hrs : restP s room = room - widthP s room - rimP s room - edgeP s 14 room - edgeP s 12 room := rfl
  have hsd : sidesP s room = if s.getD 28 0 = 6 then (if s.getD 24 0 = 6 then (if 0 < restP s room then (prt (restP s room) 1 2, restP s room - prt (restP s room) 1 2) else (edgeP s 14 room, edgeP s 12 room + restP s room)) else (restP s room, edgeP s 12 room)) else (edgeP s 14 room, edgeP s 12 room + restP s room) := rfl
  have ht := toldB_bd s room (rimP s room) (room - edgeP s 14 room - edgeP s 12 room - rimP s room) yr.1
  rw [← hwd] at ht
  have HTC := Lib.hid (fun ww => told_c s room (rimP s room) (room - edgeP s 14 room - edgeP s 12 room - rimP s room) ww HS.out yr.1 (by omega))
  rw [← hwd] at HTC
  clear eW2 eW3 hB2 hBx hM hT hB3 hBx3 hB23 hR3 hM3 l1 l3 g2 g3 h1 hg hwd hsz1 R0 R1 B1 HB0
  generalize rimP s room = rim at *
  generalize edgeP s 12 room = mr at *
  generalize edgeP s 14 room = ml at *
  generalize edgeP s 11 room = m0 at *
  generalize edgeP s 13 room = m2 at *
  generalize widthP s room = wd at *
  generalize restP s room = rest at *
  generalize sidesP s room = sd at *
  have HRS := Lib.hid hrs
  have HSD := Lib.hid hsd
  clear hrs hsd hroom
  go_wp2_with (first
    | ((with_reducible refine wpList_store_mid (P := Try.prog) rfl 84 (.tmp 7) (.tmp 18) rfl _ 0 (bd s room rim).toArray rfl rfl ?_ ?_ ?_ ?_); (rw [HG.out]; exact HT.out); exact G2.out; exact G3.out; (rw [List.toList_toArray, HG.out, EW2.out]))
    | ((with_reducible refine gate_dst (N := 20) rfl ?_); rw [EW3.out]; refine wpList_load_mid rfl 84 (.tmp 7) rfl g 0 rfl (bd s room rim) _ BX3.out.row Try.underlying84 rfl IZ84.out ?_))
  refine (HTC.out _).mono ?_
  rintro e w4 ⟨rfl, h4⟩
  have hsz3 : g + 1 < W3.heap.size := blk_lt M3.out
  have x1 := (h4.cell (p := ⟨g + 1, 1, none⟩) hsz3).trans l1'
  have x3 := (h4.cell (p := ⟨g + 1, 3, none⟩) hsz3).trans l3'
  have xr := (h4.cell (p := ⟨g, 119, none⟩) (by show g < _; omega)).trans lr
  have hs := HS.out
  have hw3 : w.heap.size < W3.heap.size := by have := HSZ.out; omega
  have R4 := range_below R3.out h4 hw3
  have k28 := range_get R4 28 (by omega)
  have k24 := range_get R4 24 (by omega)
  have B4 := Lib.hid (HB3.out.trans (h4.mono (Nat.le_of_lt hw3)))
  have BQ : Hid (∀ n m, Below w.heap.size w ((w4.drewN n).drewN m)) := Lib.hid fun n m => pw_below_drewN (pw_below_drewN B4.out n) m
  have BQ' : Hid (∀ n, Below w.heap.size w (w4.drewN n)) := Lib.hid fun n => pw_below_drewN B4.out n
  clear h4 R4 hs d0 d1 d2 d3 f0 f1 f2 f3 l1' l3' lr hsz3 hw3 M3 HTC EW2 EW3 HT BX3 R3 HSZ G2 G3 IZ84 HG hsz2
  generalize s.getD 28 0 = s28 at *
  generalize s.getD 24 0 = s24 at *
  have n0 : (0 : Int) ≤ 2 := by omega
  have N0 := Lib.hid n0
  have fin : ∀ (a b : Int), sd = (a, b) → q = (cut a, cut wd, cut b) := fun a b h => by rw [HQ.out, h]
  have FIN := Lib.hid fin
  clear fin n0
  have hp := prt_bd (room - wd - rim - ml - mr) 1 2
  by_cases h28 : s28 = 6
  · by_cases h24 : s24 = 6
    · by_cases hr : 0 < rest
      · have e : sd = (prt rest 1 2, rest - prt rest 1 2) := by rw [HSD.out, if_pos h28, if_pos h24, if_pos hr]
        have Q := Lib.hid (FIN.out _ _ e)
        have b1 : (s28 == 6) = true := by simpa using h28
        have b2 : (s24 == 6) = true := by simpa using h24
        rw [HRS.out] at hr
        have b3 : decide (mr < room - wd - rim - ml) = true := decide_eq_true (by omega)
        clear h28 h24 hr e HSD
        go_wp2_with fail
        go_quiet (fail)
        go_wp2_with fail
        go_quiet (fail)
        go_wp2_with (first
          | (go_at_call 16; refine (Part_c _ _ _ _ N0.out).mono ?_; rintro e w' ⟨rfl, rfl⟩)
          | (go_at_call 17; refine (Cut_c _ _).mono ?_; rintro e w' ⟨rfl, rfl⟩))
        go_ret3
        exact ⟨by rw [Q.out, HRS.out]; rfl, by first | exact BQ'.out _ | exact BQ.out _ _⟩
      · have e : sd = (ml, mr + rest) := by rw [HSD.out, if_pos h28, if_pos h24, if_neg hr]
        have Q := Lib.hid (FIN.out _ _ e)
        have b1 : (s28 == 6) = true := by simpa using h28
        have b2 : (s24 == 6) = true := by simpa using h24
        rw [HRS.out] at hr
        have b3 : decide (mr < room - wd - rim - ml) = false := decide_eq_false (by omega)
        clear h28 h24 hr e HSD
        go_wp2_with fail
        go_quiet (fail)
        go_wp2_with fail
        go_quiet (fail)
        go_wp2_with (first
          | (go_at_call 16; refine (Part_c _ _ _ _ N0.out).mono ?_; rintro e w' ⟨rfl, rfl⟩)
          | (go_at_call 17; refine (Cut_c _ _).mono ?_; rintro e w' ⟨rfl, rfl⟩))
        go_ret3
        exact ⟨by rw [Q.out, HRS.out]; rfl, by first | exact BQ'.out _ | exact BQ.out _ _⟩
    · have e : sd = (rest, mr) := by rw [HSD.out, if_pos h28, if_neg h24]
      have Q := Lib.hid (FIN.out _ _ e)
      have b1 : (s28 == 6) = true := by simpa using h28
      have b2 : (s24 == 6) = false := by simpa using h24
      clear h28 h24 e HSD
      go_wp2_with fail
      go_quiet (fail)
      go_wp2_with fail
      go_quiet (fail)
      go_wp2_with (first
        | (go_at_call 16; refine (Part_c _ _ _ _ N0.out).mono ?_; rintro e w' ⟨rfl, rfl⟩)
        | (go_at_call 17; refine (Cut_c _ _).mono ?_; rintro e w' ⟨rfl, rfl⟩))
      go_ret3
      exact ⟨by rw [Q.out, HRS.out]; rfl, by first | exact BQ'.out _ | exact BQ.out _ _⟩
  · have e : sd = (ml, mr + rest) := by rw [HSD.out, if_neg h28]
    have Q := Lib.hid (FIN.out _ _ e)
    have b1 : (s28 == 6) = false := by simpa using h28
    clear h28 e HSD
    go_wp2_with fail
    go_quiet (fail)
    go_wp2_with fail
    go_quiet (fail)
    go_wp2_with (first
      | (go_at_call 16; refine (Part_c _ _ _ _ N0.out).mono ?_; rintro e w' ⟨rfl, rfl⟩)
      | (go_at_call 17; refine (Cut_c _ _).mono ?_; rintro e w' ⟨rfl, rfl⟩))
    go_ret3
    exact ⟨by rw [Q.out, HRS.out]; rfl, by first | exact BQ'.out _ | exact BQ.out _ _⟩
end Go.Proofs.Ytomejeclfbpilaa.Wid
