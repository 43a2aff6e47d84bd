/- Widths of blocks: a length within its bounds; told, or else. For every input. -/
import Derived.Test.YtomejeclfbpilaaWidths
namespace Go.Proofs.Ytomejeclfbpilaa.Wid
open Go.RowKit Go.Proofs.Ytomejeclfbpilaa.Pl Go.Proofs.Ytomejeclfbpilaa.Fx Go.Proofs.Ytomejeclfbpilaa.Sty Go.Proofs.YtomejeclfbpilaaW.PrintWords Go.Proofs.YtomejeclfbpilaaW.PrintLast Go.Proofs.YtomejeclfbpilaaW.PrintMore
set_option linter.unusedVariables false
set_option linter.unusedSimpArgs false
attribute [local go_sem] mx2 mn2 mx_two mn_two mx_three mn_three

/-- A number within the bounds. -/
def boundB (s : List Int) (room rim n : Int) : Int :=
  max 0 (if (ofB s room rim 7).2 = true then max (if (ofB s room rim 9).2 = true then min n (ofB s room rim 9).1 else n) (ofB s room rim 7).1 else (if (ofB s room rim 9).2 = true then min n (ofB s room rim 9).1 else n))
def toldB (s : List Int) (room rim other : Int) : Int := if (ofB s room rim 5).2 = true then boundB s room rim (ofB s room rim 5).1 else boundB s room rim other
theorem size84 {s : List Int} (room rim : Int) (hs : s.length = 118) : (Try.prog.info? 84).map (·.size) = some (bd s room rim).length := by
  rw [bd_len, hs]; kernel_rfl
/-- What is read of a box of bounds. -/
structure BoxB (s : List Int) (room rim : Int) (b : Nat) (W : World) : Prop where
  row : W.rangeAt b 0 (bd s room rim)
  size : W.cell? ⟨b, 121, none⟩ = some (.int .i64 5)
  least : W.cell? ⟨b, 122, none⟩ = some (.int .i64 7)
  most : W.cell? ⟨b, 123, none⟩ = some (.int .i64 9)
  rim_ : W.cell? ⟨b, 119, none⟩ = some (.int .i64 rim)
  lt : b < W.heap.size
theorem BoxB.of_row {s : List Int} {room rim : Int} {b : Nat} {W : World} (hs : s.length = 118) (h : W.rangeAt b 0 (bd s room rim)) : BoxB s room rim b W := by
  have hm : ∀ i v, ([.int .i64 room, .int .i64 rim, .bool true, .int .i64 5, .int .i64 7, .int .i64 9] : List Value)[i]? = some v → W.cell? ⟨b, 118 + i, none⟩ = some v := fun i v hv => by
    have := h (s.length + i) v (by rw [bd_more]; exact hv)
    rwa [Nat.zero_add, hs] at this
  exact ⟨h, hm 3 _ rfl, hm 4 _ rfl, hm 5 _ rfl, hm 1 _ rfl, World.block_lt_of_cell? W _ (hm 3 _ rfl)⟩
theorem BoxB.below {s : List Int} {room rim : Int} {b B : Nat} {W W1 : World} (h : BoxB s room rim b W) (hB : Below B W W1) (hb : b < B) : BoxB s room rim b W1 :=
  ⟨range_below h.row hB hb, (hB.cell (p := ⟨b, 121, none⟩) hb).trans h.size, (hB.cell (p := ⟨b, 122, none⟩) hb).trans h.least, (hB.cell (p := ⟨b, 123, none⟩) hb).trans h.most, (hB.cell (p := ⟨b, 119, none⟩) hb).trans h.rim_, Nat.lt_of_lt_of_le h.lt hB.size⟩

set_option maxRecDepth 100000 in
set_option maxHeartbeats 1000000 in
theorem bound_c (s : List Int) (room rim n : Int) (w : World) (hs : s.length = 118) (hr0 : 0 ≤ rim) (hr1 : rim ≤ 134217728) :
    Calls Try.prog 64 #[.agg (bd s room rim).toArray, .int .i64 n] w fun e w' => e = .returned (.int .i64 (boundB s room rim n)) ∧ Below w.heap.size w w' := by
  obtain ⟨q, hq⟩ : ∃ q, q = boundB s room rim n := ⟨_, rfl⟩
  rw [← hq]
  have hqq : q = max 0 (if (ofB s room rim 7).2 = true then max (if (ofB s room rim 9).2 = true then min n (ofB s room rim 9).1 else n) (ofB s room rim 7).1 else (if (ofB s room rim 9).2 = true then min n (ofB s room rim 9).1 else n)) := hq
  have HC9 := Lib.hid (fun ww => of_c s room rim 9 ww hs hr0 hr1 (by omega) (by omega))
  have HC7 := Lib.hid (fun ww => of_c s room rim 7 ww hs hr0 hr1 (by omega) (by omega))
  clear hq
  generalize ofB s room rim 9 = r9 at *
  generalize ofB s room rim 7 = r7 at *
  obtain ⟨a9, i9⟩ := r9
  obtain ⟨a7, i7⟩ := r7
  have IZ := Lib.hid (size84 room rim hs)
  have HS := Lib.hid hs
  simp only at hqq
  clear hs
  have HQ := Lib.hid hqq
  clear hqq
  go_enter Try.func64, Try.ntmps64
  have hbx : BoxB s room rim w.heap.size (w.alloc (.cells (bd s room rim).toArray 84)) := BoxB.of_row HS.out (range_new _ _ _)
  have h121 := hbx.size
  have h122 := hbx.least
  have h123 := hbx.most
  have HBX := Lib.hid hbx
  have HB := Lib.hid (below_alloc (Below.refl w.heap.size w) (.cells (bd s room rim).toArray 84))
  clear hbx
  go_wp2_with (first
    | ((with_reducible refine gate_dst (N := 10) rfl ?_); refine wpList_load_mid rfl 84 (.tmp 2) rfl w.heap.size 0 rfl (bd s room rim) _ HBX.out.row Try.underlying84 rfl IZ.out ?_))
  refine (HC9.out _).mono ?_
  rintro e w1 ⟨rfl, h1⟩
  have hb1 := HBX.out.below h1 HBX.out.lt
  have BX1 := Lib.hid hb1
  have k121 := hb1.size
  have k122 := hb1.least
  have HB1 := Lib.hid (below_then HB.out HB.out.size h1)
  clear hb1 h1 h121 h122 h123 HBX HB
  cases i9
  all_goals
    cases i7
  all_goals
    have E := HQ.out
    simp only [reduceIte, Bool.false_eq_true] at E
    have HE := Lib.hid E
    clear E
    go_wp2_with (first
      | ((with_reducible refine gate_dst (N := 21) rfl ?_); refine wpList_load_mid rfl 84 (.tmp 2) rfl w.heap.size 0 rfl (bd s room rim) _ BX1.out.row Try.underlying84 rfl IZ.out ?_))
    refine (HC7.out _).mono ?_
    rintro e w2 ⟨rfl, h2⟩
    have HB2 := Lib.hid (below_then HB1.out HB1.out.size h2)
    clear h2
    go_wp2_with fail
    go_ret
    exact ⟨by rw [HE.out]; rfl, HB2.out⟩

set_option maxRecDepth 100000 in
set_option maxHeartbeats 1000000 in
theorem told_c (s : List Int) (room rim n : Int) (w : World) (hs : s.length = 118) (hr0 : 0 ≤ rim) (hr1 : rim ≤ 134217728) :
    Calls Try.prog 49 #[.agg (bd s room rim).toArray, .int .i64 n] w fun e w' => e = .returned (.int .i64 (toldB s room rim n)) ∧ Below w.heap.size w w' := by
  obtain ⟨q, hq⟩ : ∃ q, q = toldB s room rim n := ⟨_, rfl⟩
  rw [← hq]
  have hqq : q = if (ofB s room rim 5).2 = true then boundB s room rim (ofB s room rim 5).1 else boundB s room rim n := hq
  have HC5 := Lib.hid (fun ww => of_c s room rim 5 ww hs hr0 hr1 (by omega) (by omega))
  have HCB := Lib.hid (fun m ww => bound_c s room rim m ww hs hr0 hr1)
  clear hq
  generalize ofB s room rim 5 = r5 at *
  obtain ⟨a5, i5⟩ := r5
  have IZ := Lib.hid (size84 room rim hs)
  have HS := Lib.hid hs
  simp only at hqq
  clear hs
  have HQ := Lib.hid hqq
  clear hqq
  go_enter Try.func49, Try.ntmps49
  have hbx : BoxB s room rim w.heap.size (w.alloc (.cells (bd s room rim).toArray 84)) := BoxB.of_row HS.out (range_new _ _ _)
  have h121 := hbx.size
  have HBX := Lib.hid hbx
  have HB := Lib.hid (below_alloc (Below.refl w.heap.size w) (.cells (bd s room rim).toArray 84))
  clear hbx
  go_wp2_with (first
    | ((with_reducible refine gate_dst (N := 8) rfl ?_); refine wpList_load_mid rfl 84 (.tmp 2) rfl w.heap.size 0 rfl (bd s room rim) _ HBX.out.row Try.underlying84 rfl IZ.out ?_))
  refine (HC5.out _).mono ?_
  rintro e w1 ⟨rfl, h1⟩
  have BX1 := Lib.hid (HBX.out.below h1 HBX.out.lt)
  have HB1 := Lib.hid (below_then HB.out HB.out.size h1)
  clear h1 h121 HBX HB
  cases i5
  all_goals
    have E := HQ.out
    simp only [reduceIte, Bool.false_eq_true] at E
    have HE := Lib.hid E
    clear E
    go_wp2_with (first
      | ((with_reducible refine gate_dst (N := 18) rfl ?_); refine wpList_load_mid rfl 84 (.tmp 2) rfl w.heap.size 0 rfl (bd s room rim) _ BX1.out.row Try.underlying84 rfl IZ.out ?_)
      | ((with_reducible refine gate_dst (N := 15) rfl ?_); refine wpList_load_mid rfl 84 (.tmp 2) rfl w.heap.size 0 rfl (bd s room rim) _ BX1.out.row Try.underlying84 rfl IZ.out ?_))
    refine (HCB.out _ _).mono ?_
    rintro e w2 ⟨rfl, h2⟩
    have HB2 := Lib.hid (below_then HB1.out HB1.out.size h2)
    clear h2
    go_wp2_with fail
    go_ret
    exact ⟨by rw [HE.out]; rfl, HB2.out⟩
end Go.Proofs.Ytomejeclfbpilaa.Wid
