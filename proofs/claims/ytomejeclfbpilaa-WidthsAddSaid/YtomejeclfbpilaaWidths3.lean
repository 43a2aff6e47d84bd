/- Widths of blocks: across. For every input. -/
import Derived.Test.YtomejeclfbpilaaWidths2
import Derived.Laws.Tables
namespace Go.Proofs.Ytomejeclfbpilaa.Wid
open Go.RowKit Go.Proofs.Ytomejeclfbpilaa.Pl Go.Proofs.Ytomejeclfbpilaa.Fx Go.Proofs.Ytomejeclfbpilaa.Sty Go.Proofs.YtomejeclfbpilaaW.PrintWords Go.Proofs.YtomejeclfbpilaaW.PrintLast Go.Proofs.YtomejeclfbpilaaW.PrintMore
set_option linter.unusedVariables false
set_option linter.unusedSimpArgs false
attribute [local go_sem] mx2 mn2 mx_two mn_two mx_three mn_three

/-- The rim: borders and paddings at the sides. -/
def rimP (s : List Int) (room : Int) : Int := max 0 (edgeP s 22 room) + max 0 (edgeP s 20 room) + max 0 (edgeP s 18 room) + max 0 (edgeP s 16 room)
theorem edgeP_bd (s : List Int) (p room : Int) : -16777216 ≤ edgeP s p room ∧ edgeP s p room ≤ 16777216 := ofP_bd _ _ _

theorem setCells_below {B : Nat} {w : World} (b : Nat) (hb : B ≤ b) : ∀ (vs : List Value) (o : Nat) (W : World), Below B w W → Below B w (W.setCells b o vs)
  | [], _, _, h => h
  | v :: vs, o, W, h => by
    rw [World.setCells]
    exact setCells_below b hb vs (o + 1) _ (h.setCell (p := ⟨b, o, none⟩) hb v)
theorem setCells_far (b i : Nat) (hi : i ≠ b) : ∀ (vs : List Value) (o : Nat) (W : World), (W.setCells b o vs).heap[i]? = W.heap[i]?
  | [], _, _ => rfl
  | v :: vs, o, W => by
    rw [World.setCells, setCells_far b i hi vs (o + 1) _]
    exact Below.heap_setCell W ⟨b, o, none⟩ v i hi
theorem setCells_block (b : Nat) (t : TypeId) : ∀ (vs pre old : List Value) (W : World), W.heap[b]? = some (.cells (pre ++ old).toArray t (0, 0)) → old.length = vs.length → (W.setCells b pre.length vs).heap[b]? = some (.cells (pre ++ vs).toArray t (0, 0))
  | [], pre, old, W, h, hl => by
    have : old = [] := List.eq_nil_of_length_eq_zero hl
    subst this
    exact h
  | v :: vs, pre, old, W, h, hl => by
    cases old with
    | nil => simp at hl
    | cons x old =>
      rw [World.setCells]
      have h1 := blk_set h pre.length v
      have e : ((pre ++ x :: old).toArray).setIfInBounds pre.length v = ((pre ++ [v]) ++ old).toArray := by
        rw [List.setIfInBounds_toArray, List.set_append_right (h := by omega)]
        simp
      rw [e] at h1
      have h2 := setCells_block b t vs (pre ++ [v]) old _ h1 (by simpa using hl)
      rw [List.length_append, List.length_singleton] at h2
      rw [h2]
      simp
theorem blk_three (w : World) (o0 o1 o2 : Obj) : ∃ W, ((w.alloc o0).alloc o1).alloc o2 = W ∧ Below w.heap.size w W ∧ W.heap.size = w.heap.size + 3 ∧ W.heap[w.heap.size]? = some o0 ∧ W.heap[w.heap.size + 1]? = some o1 ∧ W.heap[w.heap.size + 1 + 1]? = some o2 := by
  refine ⟨_, rfl, below_alloc (below_alloc (below_alloc (Below.refl _ _) _) _) _, by simp, blk_alloc (blk_alloc (blk_new w o0) _) _, ?_, ?_⟩
  · have := blk_new (w.alloc o0) o1
    rw [World.size_alloc] at this
    exact blk_alloc this _
  · have := blk_new ((w.alloc o0).alloc o1) o2
    rwa [World.size_alloc, World.size_alloc] at this
abbrev z4 : Array Value := #[.int .i64 0, .int .i64 0, .int .i64 0, .int .i64 0]

theorem built84f (f : Nat → Int) (room rim : Int) : Try.prog.built 84 [(0, .agg (sv ((List.range 118).map f)).toArray), (1, .int .i64 room), (2, .int .i64 rim), (3, .bool true), (4, .int .i64 5), (5, .int .i64 7), (6, .int .i64 9)] = some (bd ((List.range 118).map f) room rim).toArray := by
  kernel_rfl
theorem yields_build {P : Program} {ops : Array Oper} {S : World → Prop} {o : Oper} {a : Act} (hw : Region.wanted o (yielded ops a.tmps) = true) (t : TypeId) (ps : List (Nat × Operand)) (ho : o.op = .build t ps.toArray)
    (vs : List (Nat × Value)) (hv : ps.map (fun p => (p.1, a.eval p.2)) = vs) (cells : Array Value) (hb : P.built t vs = some cells) : YieldsIf P ops S o (.agg cells) a :=
  .inl ⟨hw, fun w _ => by
    subst hv
    have h := run_build (P := P) w t (ps.map (fun p => (p.1, a.eval p.2))).toArray cells hb
    unfold execOp
    simp only [ho, List.map_toArray, Sem.run_bind, Sem.run_pure, h, Result.andThen_ok]⟩
theorem list_range (s : List Int) (n : Nat) (hs : s.length = n) : (List.range n).map (fun i => s.getD i 0) = s := by
  apply List.ext_getElem
  · simp [hs]
  · intro i h1 h2
    simp [List.getD_eq_getElem?_getD, h2]
theorem built84 (s : List Int) (room rim : Int) (hs : s.length = 118) : Try.prog.built 84 [(0, .agg (sv s).toArray), (1, .int .i64 room), (2, .int .i64 rim), (3, .bool true), (4, .int .i64 5), (5, .int .i64 7), (6, .int .i64 9)] = some (bd s room rim).toArray := by
  have h := built84f (fun i => s.getD i 0) room rim
  rwa [list_range s 118 hs] at h

set_option maxRecDepth 100000 in
set_option maxHeartbeats 1000000 in
theorem across_c (s : List Int) (room : Int) (w : World) (hs : s.length = 118) :
    Calls Try.prog 48 #[.agg (sv s).toArray, .int .i64 room] w fun e w' => e = .returned (.tuple #[.agg (bd s room (rimP s room)).toArray, edV id s 11 room]) ∧ Below w.heap.size w w' := by
  have HS := Lib.hid hs
  have IZ := Lib.hid (size27 hs)
  obtain ⟨W, eW, hB, hsz, b0, b1, b2⟩ := blk_three w (.cells (sv s).toArray 54) (.cells Try.zeroCells84 84) (.cells z4 58)
  have EW := Lib.hid eW
  have HB := Lib.hid hB
  have B0 := Lib.hid (range_blk b0)
  have B1 := Lib.hid b1
  have B2 := Lib.hid b2
  have SZ := Lib.hid hsz
  clear eW hB hsz b0 b1 b2 hs
  go_enter Try.func48, Try.ntmps48
  go_wp2_with (first
    | ((with_reducible refine gate_dst (N := 11) rfl ?_); rw [EW.out]; refine wpList_load_mid rfl 54 (.tmp 2) rfl w.heap.size 0 rfl (sv s) _ B0.out Try.underlying54 rfl IZ.out ?_))
  have hlt : w.heap.size < W.heap.size := by have := SZ.out; omega
  obtain ⟨b, hb⟩ : ∃ b, w.heap.size = b := ⟨_, rfl⟩
  rw [hb] at HB B0 B1 B2 SZ hlt ⊢
  have HBB := Lib.hid hb
  have HLT := Lib.hid hlt
  clear hb EW hlt
  refine (Frame_c s room W HS.out).mono ?_
  rintro e w1 ⟨rfl, h1⟩
  have X1 := Lib.hid h1
  clear h1
  unfold edV
  have y22 := edgeP_bd s 22 room
  have y20 := edgeP_bd s 20 room
  have y18 := edgeP_bd s 18 room
  have y16 := edgeP_bd s 16 room
  have hrim : rimP s room = max 0 (edgeP s 22 room) + max 0 (edgeP s 20 room) + max 0 (edgeP s 18 room) + max 0 (edgeP s 16 room) := rfl
  have HRIM := Lib.hid hrim
  clear hrim
  go_wp2_with fail
  rw [← HRIM.out]
  obtain ⟨rim, hrr⟩ : ∃ rim, rimP s room = rim := ⟨_, rfl⟩
  rw [hrr] at HRIM ⊢
  have HRR := Lib.hid hrr
  clear hrr
  clear y22 y20 y18 y16
  obtain ⟨W5, eW5, hB5, hs5, k0, k1, k2⟩ := blk_three w1 (.cells #[.int .i64 (edgeP s 11 room), .int .i64 (edgeP s 12 room), .int .i64 (edgeP s 13 room), .int .i64 (edgeP s 14 room)] 58) (.cells #[.int .i64 (max 0 (edgeP s 19 room)), .int .i64 (max 0 (edgeP s 20 room)), .int .i64 (max 0 (edgeP s 21 room)), .int .i64 (max 0 (edgeP s 22 room))] 58) (.cells #[.int .i64 (max 0 (edgeP s 15 room)), .int .i64 (max 0 (edgeP s 16 room)), .int .i64 (max 0 (edgeP s 17 room)), .int .i64 (max 0 (edgeP s 18 room))] 58)
  rw [eW5]
  have EE : ∃ e0 e1 e2 e3 : Int, edgeP s 11 room = e0 ∧ edgeP s 12 room = e1 ∧ edgeP s 13 room = e2 ∧ edgeP s 14 room = e3 := ⟨_, _, _, _, rfl, rfl, rfl, rfl⟩
  obtain ⟨e0, e1, e2, e3, q0, q1, q2, q3⟩ := EE
  rw [q0, q1, q2, q3] at k0 eW5 ⊢
  have R5 := range_below B0.out (below_then X1.out X1.out.size hB5) HLT.out
  have Z5 := blk_below (blk_below B1.out X1.out) hB5
  have Y5 := blk_below (blk_below B2.out X1.out) hB5
  have BF := Lib.hid (HB.out.trans ((below_then X1.out X1.out.size hB5).mono (Nat.le_of_lt HLT.out)))
  have hz : Try.zeroCells84.size = 124 := by kernel_rfl
  have T5 : W5.there (b + 1) 0 124 := fun j hj => by
    rw [Nat.zero_add]
    exact ⟨by rw [blk_cell Z5 j, Array.getElem?_eq_getElem (by omega)]; rfl, blk_frozen Z5 j⟩
  have U5 : W5.there (b + 1 + 1) 0 4 := fun j hj => by
    rw [Nat.zero_add]
    exact ⟨by rw [blk_cell Y5 j, Array.getElem?_eq_getElem hj]; rfl, blk_frozen Y5 j⟩
  have G5 := range_blk (cs := [.int .i64 e0, .int .i64 e1, .int .i64 e2, .int .i64 e3]) k0
  obtain ⟨g, hg⟩ : ∃ g, w1.heap.size = g := ⟨_, rfl⟩
  have hgb : b + 1 + 1 < g := by have := X1.out.size; have := SZ.out; omega
  rw [hg] at G5 k0 ⊢
  clear eW5 hs5 k1 k2 hB5 hg
  refine wp_region_held_drew (S := fun w' => w'.rangeAt b 0 (sv s) ∧ w'.there (b + 1) 0 124 ∧ w'.there (b + 1 + 1) 0 4 ∧ w'.rangeAt g 0 [.int .i64 e0, .int .i64 e1, .int .i64 e2, .int .i64 e3]) (by kernel_rfl) ⟨by simpa using R5, by simpa using T5, by simpa using U5, by simpa using G5⟩ (fun hHeld => ?_)
  have R5' := hHeld
  refine wpAnyH_take (i := 1) (v := .int .i64 room) rfl (by kernel_rfl) (by kernel_rfl) (by kernel_rfl) (fun _ _ _ h => h) (.inl ⟨by rfl, fun w _ => by rfl⟩) hHeld ?_
  simp only [Act.put, List.getElem_toArray, List.getElem_cons_succ, List.getElem_cons_zero, List.setIfInBounds_toArray, List.set_cons_zero, List.set_cons_succ]
  refine wpAnyH_take (i := 2) (v := .int .i64 rim) rfl (by kernel_rfl) (by kernel_rfl) (by kernel_rfl) (fun _ _ _ h => h) (.inl ⟨by rfl, fun w _ => by rfl⟩) hHeld ?_
  simp only [Act.put, List.getElem_toArray, List.getElem_cons_succ, List.getElem_cons_zero, List.setIfInBounds_toArray, List.set_cons_zero, List.set_cons_succ]
  refine wpAnyH_take (i := 0) (v := _) rfl (by kernel_rfl) (by kernel_rfl) (by kernel_rfl) (fun _ _ _ h => h) (yieldsIf_load_mid (by rfl) 54 (.tmp 2) rfl b 0 rfl (sv s) _ (fun w h => h.1) Try.underlying54 rfl IZ.out) hHeld ?_
  simp only [Act.put, List.getElem_toArray, List.getElem_cons_succ, List.getElem_cons_zero, List.setIfInBounds_toArray, List.set_cons_zero, List.set_cons_succ]
  refine wpAnyH_take (i := 3) (v := _) rfl (by kernel_rfl) (by kernel_rfl) (by kernel_rfl) (fun _ _ _ h => h) (yields_build (by rfl) 84 _ rfl [(0, .agg (sv s).toArray), (1, .int .i64 room), (2, .int .i64 rim), (3, .bool true), (4, .int .i64 5), (5, .int .i64 7), (6, .int .i64 9)] rfl _ (built84 s room rim HS.out)) hHeld ?_
  simp only [Act.put, List.getElem_toArray, List.getElem_cons_succ, List.getElem_cons_zero, List.setIfInBounds_toArray, List.set_cons_zero, List.set_cons_succ]
  have ES : ([.int .i64 e0, .int .i64 e1, .int .i64 e2, .int .i64 e3] : List Value).length = 4 := rfl
  have hbl : (bd s room rim).length = 124 := by rw [bd_len, HS.out]
  have keep1 : ∀ V : World, (V.rangeAt b 0 (sv s) ∧ V.there (b + 1) 0 124 ∧ V.there (b + 1 + 1) 0 4 ∧ V.rangeAt g 0 [.int .i64 e0, .int .i64 e1, .int .i64 e2, .int .i64 e3]) → ∀ (c : Nat) (vs : List Value), c = b + 1 ∨ c = b + 1 + 1 → ((V.setCells c 0 vs).rangeAt b 0 (sv s) ∧ (V.setCells c 0 vs).there (b + 1) 0 124 ∧ (V.setCells c 0 vs).there (b + 1 + 1) 0 4 ∧ (V.setCells c 0 vs).rangeAt g 0 [.int .i64 e0, .int .i64 e1, .int .i64 e2, .int .i64 e3]) := fun V h c vs hc =>
    ⟨World.rangeAt_setCells_apart h.1 c 0 vs (.inl (by omega)), World.there_setCells h.2.1 c 0 vs, World.there_setCells h.2.2.1 c 0 vs, World.rangeAt_setCells_apart h.2.2.2 c 0 vs (.inl (by omega))⟩
  have KEEP := Lib.hid keep1
  clear keep1
  have g1 : ∀ V : World, V.there (b + 1) 0 124 → V.there (b + 1) 0 (bd s room rim).toArray.size := fun V h => by rw [List.size_toArray, hbl]; exact h
  have g2 : (Try.prog.info? 84).map (·.size) = some (bd s room rim).toArray.size := by rw [List.size_toArray]; exact size84 room rim HS.out
  have g3 := all_oneCell_toArray (bd_one s room rim)
  have g4 : (#[.int .i64 e0, .int .i64 e1, .int .i64 e2, .int .i64 e3] : Array Value).all (fun x => x.oneCell') = true := all_oneCell_toArray (cs := [.int .i64 e0, .int .i64 e1, .int .i64 e2, .int .i64 e3]) (fun v hv => by
    simp only [List.mem_cons, List.not_mem_nil, or_false] at hv
    rcases hv with rfl | rfl | rfl | rfl <;> rfl)
  have fa : ((W5.drew.setCells (b + 1) 0 (bd s room rim)).setCells (b + 1 + 1) 0 [.int .i64 e0, .int .i64 e1, .int .i64 e2, .int .i64 e3]).heap[b + 1]? = some (.cells (bd s room rim).toArray 84 (0, 0)) := by
    have h1 : (W5.drew.setCells (b + 1) 0 (bd s room rim)).heap[b + 1]? = some (.cells (bd s room rim).toArray 84 (0, 0)) :=
      setCells_block (b + 1) 84 (bd s room rim) [] Try.zeroCells84.toList W5.drew (by rw [List.nil_append, Array.toArray_toList]; exact Z5) (by rw [Array.length_toList, hbl]; exact hz)
    rw [setCells_far _ _ (by omega)]
    exact h1
  have fb : ((W5.drew.setCells (b + 1) 0 (bd s room rim)).setCells (b + 1 + 1) 0 [.int .i64 e0, .int .i64 e1, .int .i64 e2, .int .i64 e3]).heap[b + 1 + 1]? = some (.cells #[.int .i64 e0, .int .i64 e1, .int .i64 e2, .int .i64 e3] 58 (0, 0)) :=
    setCells_block (b + 1 + 1) 58 [.int .i64 e0, .int .i64 e1, .int .i64 e2, .int .i64 e3] [] [.int .i64 0, .int .i64 0, .int .i64 0, .int .i64 0] _ (by
      rw [setCells_far _ _ (by omega)]
      exact Y5) rfl
  have fc : Below b w ((W5.drew.setCells (b + 1) 0 (bd s room rim)).setCells (b + 1 + 1) 0 [.int .i64 e0, .int .i64 e1, .int .i64 e2, .int .i64 e3]) :=
    setCells_below _ (by omega) _ _ _ (setCells_below _ (by omega) _ _ _ BF.out.drew)
  have FA := Lib.hid fa
  have FB := Lib.hid fb
  have FC := Lib.hid fc
  have hv : edV id s 11 room = .agg #[.int .i64 e0, .int .i64 e1, .int .i64 e2, .int .i64 e3] := by
    unfold edV
    rw [show (11 : Int) + 1 = 12 from rfl, show (11 : Int) + 2 = 13 from rfl, show (11 : Int) + 3 = 14 from rfl, q0, q1, q2, q3]
    rfl
  have HV := Lib.hid hv
  clear fa fb fc hv q0 q1 q2 q3
  refine wpAnyH_ready (rs := [4, 5]) (by kernel_rfl) (by simp) ?_
  refine AllReadyH.cons (o := { dst := some 32, op := .load 58 (.tmp 6), type := 58, pos := "widths.go:52", after := #[{ on := 5, ground := .gcOnly .lateStores }], guard := none }) rfl (fun K hK => ?_) (AllReadyH.cons (o := { dst := none, op := .store 84 (.tmp 4) (.tmp 31), type := 0, pos := "widths.go:52", after := #[{ on := 3, ground := .data }, { on := 0, ground := .phase }, { on := 1, ground := .phase }, { on := 2, ground := .phase }, { on := 3, ground := .phase }, { on := 4, ground := .textOnly .lateStores }], guard := none }) rfl (fun K hK => ?_) AllReadyH.nil)
  · rw [if_pos (by rfl)]
    refine wp_load_mid 58 (.tmp 6) rfl g 0 rfl _ _ hHeld.2.2.2 Try.underlying58 rfl (by kernel_rfl) ?_
    refine hK.out _ _ hHeld (fun hHeld => ?_)
    clear hK K
    simp only [Act.put, List.getElem_toArray, List.getElem_cons_succ, List.getElem_cons_zero, List.setIfInBounds_toArray, List.set_cons_zero, List.set_cons_succ]
    refine wpAnyH_ready (rs := [5]) (by kernel_rfl) (by simp) ?_
    refine AllReadyH.cons (o := { dst := none, op := .store 84 (.tmp 4) (.tmp 31), type := 0, pos := "widths.go:52", after := #[{ on := 3, ground := .data }, { on := 0, ground := .phase }, { on := 1, ground := .phase }, { on := 2, ground := .phase }, { on := 3, ground := .phase }, { on := 4, ground := .textOnly .lateStores }], guard := none }) rfl (fun K hK => ?_) AllReadyH.nil
    rw [if_pos (by rfl)]
    refine wp_store_mid 84 (.tmp 4) (.tmp 31) rfl (b + 1) 0 (bd s room rim).toArray rfl rfl (g1 _ hHeld.2.1) g2 g3 ?_
    rw [List.toList_toArray]
    refine hK.out _ _ (KEEP.out _ hHeld (b + 1) _ (.inl rfl)) (fun hHeld => ?_)
    clear hK K
    simp only [Act.put, List.getElem_toArray, List.getElem_cons_succ, List.getElem_cons_zero, List.setIfInBounds_toArray, List.set_cons_zero, List.set_cons_succ]
    refine wpAnyH_ready (rs := [6]) (by kernel_rfl) (by simp) ?_
    refine AllReadyH.cons rfl (fun K hK => ?_) AllReadyH.nil
    simp only [Act.put, List.getElem_toArray, List.getElem_cons_succ, List.getElem_cons_zero, List.setIfInBounds_toArray, List.set_cons_zero, List.set_cons_succ]
    rw [if_pos (by rfl)]
    refine wp_store_mid 58 (.tmp 5) (.tmp 32) rfl (b + 1 + 1) 0 #[.int .i64 e0, .int .i64 e1, .int .i64 e2, .int .i64 e3] rfl rfl hHeld.2.2.1 (by kernel_rfl) g4 ?_
    refine hK.out _ _ (KEEP.out _ hHeld (b + 1 + 1) _ (.inr rfl)) (fun hHeld => ?_)
    clear hK K
    simp only [Act.put, List.getElem_toArray, List.getElem_cons_succ, List.getElem_cons_zero, List.setIfInBounds_toArray, List.set_cons_zero, List.set_cons_succ]
    refine wpAnyH_done (by kernel_rfl) ?_ _
    go_wp2_with fail
    refine bodyPost_ret (results_list (rs := [.cell 4 84, .cell 5 58]) rfl (by simp)
      (.cell (b + 1) 84 _ (0, 0) _ rfl FA.out Try.underlying84 rfl g2
        (.cell (b + 1 + 1) 58 _ (0, 0) _ rfl FB.out Try.underlying58 rfl (by kernel_rfl) .nil))) rfl ?_
    refine ⟨by rw [HV.out, HRR.out], ?_⟩
    rw [HBB.out]
    exact FC.out
  · rw [if_pos (by rfl)]
    refine wp_store_mid 84 (.tmp 4) (.tmp 31) rfl (b + 1) 0 (bd s room rim).toArray rfl rfl (g1 _ hHeld.2.1) g2 g3 ?_
    rw [List.toList_toArray]
    refine hK.out _ _ (KEEP.out _ hHeld (b + 1) _ (.inl rfl)) (fun hHeld => ?_)
    clear hK K
    simp only [Act.put, List.getElem_toArray, List.getElem_cons_succ, List.getElem_cons_zero, List.setIfInBounds_toArray, List.set_cons_zero, List.set_cons_succ]
    refine wpAnyH_take (i := 4) (v := _) rfl (by kernel_rfl) (by kernel_rfl) (by kernel_rfl) (fun _ _ _ h => h) (yieldsIf_load_mid (by rfl) 58 (.tmp 6) rfl g 0 rfl _ _ (fun w h => h.2.2.2) Try.underlying58 rfl (by kernel_rfl)) hHeld ?_
    simp only [Act.put, List.getElem_toArray, List.getElem_cons_succ, List.getElem_cons_zero, List.setIfInBounds_toArray, List.set_cons_zero, List.set_cons_succ]
    refine wpAnyH_ready (rs := [6]) (by kernel_rfl) (by simp) ?_
    refine AllReadyH.cons rfl (fun K hK => ?_) AllReadyH.nil
    simp only [Act.put, List.getElem_toArray, List.getElem_cons_succ, List.getElem_cons_zero, List.setIfInBounds_toArray, List.set_cons_zero, List.set_cons_succ]
    rw [if_pos (by rfl)]
    refine wp_store_mid 58 (.tmp 5) (.tmp 32) rfl (b + 1 + 1) 0 #[.int .i64 e0, .int .i64 e1, .int .i64 e2, .int .i64 e3] rfl rfl hHeld.2.2.1 (by kernel_rfl) g4 ?_
    refine hK.out _ _ (KEEP.out _ hHeld (b + 1 + 1) _ (.inr rfl)) (fun hHeld => ?_)
    clear hK K
    simp only [Act.put, List.getElem_toArray, List.getElem_cons_succ, List.getElem_cons_zero, List.setIfInBounds_toArray, List.set_cons_zero, List.set_cons_succ]
    refine wpAnyH_done (by kernel_rfl) ?_ _
    go_wp2_with fail
    refine bodyPost_ret (results_list (rs := [.cell 4 84, .cell 5 58]) rfl (by simp)
      (.cell (b + 1) 84 _ (0, 0) _ rfl FA.out Try.underlying84 rfl g2
        (.cell (b + 1 + 1) 58 _ (0, 0) _ rfl FB.out Try.underlying58 rfl (by kernel_rfl) .nil))) rfl ?_
    refine ⟨by rw [HV.out, HRR.out], ?_⟩
    rw [HBB.out]
    exact FC.out
end Go.Proofs.Ytomejeclfbpilaa.Wid
