/- Styles: the value of a length, edges of four properties, the frame. For every input. -/
import Derived.Test.YtfkgpkkjiolfpaaFix
import Derived.Test.YtfkgpkkjiolfpaaWMore
import Derived.Deep.MidRow
import Derived.Deep.QuietTactic
import Derived.BigQuiet
import Derived.Below
namespace Go.Proofs.Ytfkgpkkjiolfpaa.Sty
open Go.RowKit Go.Proofs.Ytfkgpkkjiolfpaa.Pl Go.Proofs.Ytfkgpkkjiolfpaa.Fx Go.Proofs.YtfkgpkkjiolfpaaW.PrintWords Go.Proofs.YtfkgpkkjiolfpaaW.PrintLast Go.Proofs.YtfkgpkkjiolfpaaW.PrintMore
set_option linter.unusedVariables false
set_option linter.unusedSimpArgs false
attribute [local go_sem] mx2 mn2 mx_two mn_two mx_three mn_three

/-- What a value is, by its kind. -/
def ofP (kind n base : Int) : Int × Bool := if kind = 2 then (cut n, true) else if kind = 3 then (prt base n 10000, true) else (0, false)
theorem Of_c (kind n base : Int) (w : World) : Calls Try.prog 38 #[.agg #[.int .i64 kind, .int .i64 n], .int .i64 base] w fun e w' => e = .returned (.tuple #[.int .i64 (ofP kind n base).1, .bool (ofP kind n base).2]) ∧ Below w.heap.size w w' := by
  have d0 : (0 : Int) ≤ 10000 := by omega
  have D0 := Lib.hid d0
  have BA : Hid (∀ o, Below w.heap.size w (w.alloc o)) := Lib.hid fun o => below_alloc (Below.refl _ _) o
  clear d0
  by_cases h2 : kind = 2
  · subst h2
    go_enter Try.func38, Try.ntmps38
    go_wp2_with (go_at_call 22; refine (Cut_c _ _).mono ?_; rintro e w' ⟨rfl, rfl⟩)
    go_ret2
    exact ⟨rfl, BA.out _⟩
  · by_cases h3 : kind = 3
    · subst h3
      go_enter Try.func38, Try.ntmps38
      go_wp2_with (go_at_call 55; refine (Part_c _ _ _ _ D0.out).mono ?_; rintro e w' ⟨rfl, rfl⟩)
      go_ret2
      exact ⟨rfl, BA.out _⟩
    · have e1 : ofP kind n base = (0, false) := by unfold ofP; rw [if_neg h2, if_neg h3]
      rw [e1]
      have n2 : (kind == 2) = false := by simpa using h2
      have n3 : (kind == 3) = false := by simpa using h3
      clear e1
      go_enter Try.func38, Try.ntmps38
      go_wp2_with fail
      go_ret2
      exact ⟨rfl, BA.out _⟩

/-- A style as a value: its cells. -/
def sv (s : List Int) : List Value := s.map (.int .i64)
theorem sv_len (s : List Int) : (sv s).length = s.length := by simp [sv]
theorem sv_get (s : List Int) (i : Nat) (h : i < s.length) : (sv s)[i]? = some (.int .i64 (s.getD i 0)) := by
  simp [sv, List.getD_eq_getElem?_getD, h]
theorem range_new (w : World) (cs : List Value) (t : TypeId) : (w.alloc (.cells cs.toArray t)).rangeAt w.heap.size 0 cs := by
  intro j v h
  simp [h]
theorem range_below {w w' : World} {b o n : Nat} {cs : List Value} (h : w.rangeAt b o cs) (hb : Below n w w') (hn : b < n) : w'.rangeAt b o cs :=
  fun j v hv => (hb.cell (p := ⟨b, o + j, none⟩) hn).trans (h j v hv)
theorem range_get {w : World} {b : Nat} {s : List Int} (h : w.rangeAt b 0 (sv s)) (i : Nat) (hi : i < s.length) : w.cell? ⟨b, i, none⟩ = some (.int .i64 (s.getD i 0)) := by
  have := h i _ (sv_get s i hi)
  rwa [Nat.zero_add] at this

theorem idx4_0 (a b c d : Int) (w : World) : (Instr.index 125 (.agg #[.int .i64 a, .int .i64 b, .int .i64 c, .int .i64 d]) (.int .i64 0)).run Try.prog w = .ok (.int .i64 a) w := by
  simp [Instr.index, asIntOf, run_underlying Try.underlying125, go_sem, Try.isAgg3, Try.sizeOf3]
theorem idx4_1 (a b c d : Int) (w : World) : (Instr.index 125 (.agg #[.int .i64 a, .int .i64 b, .int .i64 c, .int .i64 d]) (.int .i64 1)).run Try.prog w = .ok (.int .i64 b) w := by
  simp [Instr.index, asIntOf, run_underlying Try.underlying125, go_sem, Try.isAgg3, Try.sizeOf3]
theorem idx4_2 (a b c d : Int) (w : World) : (Instr.index 125 (.agg #[.int .i64 a, .int .i64 b, .int .i64 c, .int .i64 d]) (.int .i64 2)).run Try.prog w = .ok (.int .i64 c) w := by
  simp [Instr.index, asIntOf, run_underlying Try.underlying125, go_sem, Try.isAgg3, Try.sizeOf3]
theorem idx4_3 (a b c d : Int) (w : World) : (Instr.index 125 (.agg #[.int .i64 a, .int .i64 b, .int .i64 c, .int .i64 d]) (.int .i64 3)).run Try.prog w = .ok (.int .i64 d) w := by
  simp [Instr.index, asIntOf, run_underlying Try.underlying125, go_sem, Try.isAgg3, Try.sizeOf3]
attribute [local go_sem] idx4_0 idx4_1 idx4_2 idx4_3

/-- The edge at a property. -/
def edgeP (s : List Int) (p room : Int) : Int := (ofP (s.getD (p.toNat * 2) 0) (s.getD (p.toNat * 2 + 1) 0) room).1

set_option maxRecDepth 100000 in
set_option maxHeartbeats 1000000 in
theorem Edges_c (s : List Int) (p0 p1 p2 p3 room : Int) (w : World) (hs : s.length = 118) (h0 : 0 ≤ p0 ∧ p0 < 59) (h1 : 0 ≤ p1 ∧ p1 < 59) (h2 : 0 ≤ p2 ∧ p2 < 59) (h3 : 0 ≤ p3 ∧ p3 < 59) :
    Calls Try.prog 72 #[.agg (sv s).toArray, .agg #[.int .i64 p0, .int .i64 p1, .int .i64 p2, .int .i64 p3], .int .i64 room] w fun e w' => e = .returned (.agg #[.int .i64 (edgeP s p0 room), .int .i64 (edgeP s p1 room), .int .i64 (edgeP s p2 room), .int .i64 (edgeP s p3 room)]) ∧ Below w.heap.size w w' := by
  have HS := Lib.hid hs
  go_enter Try.func72, Try.ntmps72
  go_wp2_with fail
  have r0 : ((((w.alloc (.cells (sv s).toArray 27)).alloc (.cells #[.int .i64 p0, .int .i64 p1, .int .i64 p2, .int .i64 p3] 125)).alloc (.cells #[.int .i64 0, .int .i64 0, .int .i64 0, .int .i64 0] 84)).alloc (.cells #[.int .i64 0, .int .i64 0, .int .i64 0, .int .i64 0] 125)).rangeAt w.heap.size 0 (sv s) :=
    World.rangeAt_alloc (World.rangeAt_alloc (World.rangeAt_alloc (range_new _ _ _) _) _) _
  have r1 : ((((w.alloc (.cells (sv s).toArray 27)).alloc (.cells #[.int .i64 p0, .int .i64 p1, .int .i64 p2, .int .i64 p3] 125)).alloc (.cells #[.int .i64 0, .int .i64 0, .int .i64 0, .int .i64 0] 84)).alloc (.cells #[.int .i64 0, .int .i64 0, .int .i64 0, .int .i64 0] 125)).heap[w.heap.size + 1 + 1]? = some (.cells #[.int .i64 0, .int .i64 0, .int .i64 0, .int .i64 0] 84 (0, 0)) := by
    refine blk_alloc ?_ _
    have := blk_new ((w.alloc (.cells (sv s).toArray 27)).alloc (.cells #[.int .i64 p0, .int .i64 p1, .int .i64 p2, .int .i64 p3] 125)) (.cells #[.int .i64 0, .int .i64 0, .int .i64 0, .int .i64 0] 84)
    rwa [World.size_alloc, World.size_alloc] at this
  have r2 : ((((w.alloc (.cells (sv s).toArray 27)).alloc (.cells #[.int .i64 p0, .int .i64 p1, .int .i64 p2, .int .i64 p3] 125)).alloc (.cells #[.int .i64 0, .int .i64 0, .int .i64 0, .int .i64 0] 84)).alloc (.cells #[.int .i64 0, .int .i64 0, .int .i64 0, .int .i64 0] 125)).heap[w.heap.size + 1 + 1 + 1]? = some (.cells #[.int .i64 0, .int .i64 0, .int .i64 0, .int .i64 0] 125 (0, 0)) := by
    have := blk_new (((w.alloc (.cells (sv s).toArray 27)).alloc (.cells #[.int .i64 p0, .int .i64 p1, .int .i64 p2, .int .i64 p3] 125)).alloc (.cells #[.int .i64 0, .int .i64 0, .int .i64 0, .int .i64 0] 84)) (.cells #[.int .i64 0, .int .i64 0, .int .i64 0, .int .i64 0] 125)
    rwa [World.size_alloc, World.size_alloc, World.size_alloc] at this
  have r3 : Below w.heap.size w ((((w.alloc (.cells (sv s).toArray 27)).alloc (.cells #[.int .i64 p0, .int .i64 p1, .int .i64 p2, .int .i64 p3] 125)).alloc (.cells #[.int .i64 0, .int .i64 0, .int .i64 0, .int .i64 0] 84)).alloc (.cells #[.int .i64 0, .int .i64 0, .int .i64 0, .int .i64 0] 125)) :=
    below_alloc (below_alloc (below_alloc (below_alloc (Below.refl _ _) _) _) _) _
  generalize ((((w.alloc (.cells (sv s).toArray 27)).alloc (.cells #[.int .i64 p0, .int .i64 p1, .int .i64 p2, .int .i64 p3] 125)).alloc (.cells #[.int .i64 0, .int .i64 0, .int .i64 0, .int .i64 0] 84)).alloc (.cells #[.int .i64 0, .int .i64 0, .int .i64 0, .int .i64 0] 125)) = W at *
  have R0 := Lib.hid r0
  have R1 := Lib.hid r1
  have R2 := Lib.hid r2
  have R3 := Lib.hid r3
  clear r0 r1 r2 r3 hs
  obtain ⟨b, hb⟩ : ∃ b, b = w.heap.size := ⟨_, rfl⟩
  rw [← hb] at R0 R1 R2 R3 ⊢
  have HB := Lib.hid hb
  clear hb
  go_loopw [11] (fun i wr => ∃ k : Nat, k ≤ 4 ∧ i = .int .i64 k ∧ Hid (wr.heap[b + 1 + 1 + 1]? = some (.cells #[.int .i64 (if 0 < k then edgeP s p0 room else 0), .int .i64 (if 1 < k then edgeP s p1 room else 0), .int .i64 (if 2 < k then edgeP s p2 room else 0), .int .i64 (if 3 < k then edgeP s p3 room else 0)] 125 (0, 0))) ∧ Hid (Below (b + 1 + 1 + 1) W wr)) (fun i _ => 4 - (intOf i).toNat)
  case atStart => exact ⟨0, Nat.zero_le _, rfl, R2.out, Below.refl _ _⟩
  case round =>
    obtain ⟨k, hk, rfl, hH, hB⟩ := hrel
    have hs := HS.out
    have y0 : ∀ i : Nat, i < 118 → wr.cell? ⟨b, i, none⟩ = some (.int .i64 (s.getD i 0)) := fun i hi => range_get (range_below R0.out hB.out (by omega)) i (by omega)
    have hsz : b + 1 + 1 + 1 < wr.heap.size := blk_lt hH.out
    have z0 := y0 (p0.toNat * 2) (by omega)
    have z0' := y0 (p0.toNat * 2 + 1) (by omega)
    have g0 : (ofP (s.getD (p0.toNat * 2) 0) (s.getD (p0.toNat * 2 + 1) 0) room).1 = edgeP s p0 room := rfl
    have z1 := y0 (p1.toNat * 2) (by omega)
    have z1' := y0 (p1.toNat * 2 + 1) (by omega)
    have g1 : (ofP (s.getD (p1.toNat * 2) 0) (s.getD (p1.toNat * 2 + 1) 0) room).1 = edgeP s p1 room := rfl
    have z2 := y0 (p2.toNat * 2) (by omega)
    have z2' := y0 (p2.toNat * 2 + 1) (by omega)
    have g2 : (ofP (s.getD (p2.toNat * 2) 0) (s.getD (p2.toNat * 2 + 1) 0) room).1 = edgeP s p2 room := rfl
    have z3 := y0 (p3.toNat * 2) (by omega)
    have z3' := y0 (p3.toNat * 2 + 1) (by omega)
    have g3 : (ofP (s.getD (p3.toNat * 2) 0) (s.getD (p3.toNat * 2 + 1) 0) room).1 = edgeP s p3 room := rfl
    clear y0 hs
    generalize s.getD (p0.toNat * 2) 0 = q0 at *
    generalize s.getD (p0.toNat * 2 + 1) 0 = q0' at *
    generalize hE0 : edgeP s p0 room = e0 at *
    have E0 := Lib.hid hE0
    clear hE0
    generalize s.getD (p1.toNat * 2) 0 = q1 at *
    generalize s.getD (p1.toNat * 2 + 1) 0 = q1' at *
    generalize hE1 : edgeP s p1 room = e1 at *
    have E1 := Lib.hid hE1
    clear hE1
    generalize s.getD (p2.toNat * 2) 0 = q2 at *
    generalize s.getD (p2.toNat * 2 + 1) 0 = q2' at *
    generalize hE2 : edgeP s p2 room = e2 at *
    have E2 := Lib.hid hE2
    clear hE2
    generalize s.getD (p3.toNat * 2) 0 = q3 at *
    generalize s.getD (p3.toNat * 2 + 1) 0 = q3' at *
    generalize hE3 : edgeP s p3 room = e3 at *
    have E3 := Lib.hid hE3
    clear hE3
    have G0 := Lib.hid g0
    have G1 := Lib.hid g1
    have G2 := Lib.hid g2
    have G3 := Lib.hid g3
    clear g0 g1 g2 g3
    obtain rfl | rfl | rfl | rfl | rfl : k = 0 ∨ k = 1 ∨ k = 2 ∨ k = 3 ∨ k = 4 := by omega
    · go_wp2_with (first
        | (go_at_call 38; refine (Of_c _ _ _ _).mono ?_; rintro e w' ⟨rfl, hO⟩; have hh := blk_below hH.out hO; obtain ⟨v, hv⟩ : ∃ v, w'.cell? ⟨b + 1 + 1 + 1, 0, none⟩ = some v := ⟨_, blk_cell hh 0⟩; have hf := blk_frozen hh 0; have HH := Lib.hid hh; have HO := Lib.hid hO; have g := G0.out; clear hh hO))
      exact ⟨⟨1, by omega, by go_num, Lib.hid (by have := blk_set HH.out 0 (Value.int .i64 e0); simpa using this), (hB.out.trans (HO.out.mono (by omega))).setCell (Nat.le_refl _) _⟩, by simp [intOf]⟩
    · go_wp2_with (first
        | (go_at_call 38; refine (Of_c _ _ _ _).mono ?_; rintro e w' ⟨rfl, hO⟩; have hh := blk_below hH.out hO; obtain ⟨v, hv⟩ : ∃ v, w'.cell? ⟨b + 1 + 1 + 1, 1, none⟩ = some v := ⟨_, blk_cell hh 1⟩; have hf := blk_frozen hh 1; have HH := Lib.hid hh; have HO := Lib.hid hO; have g := G1.out; clear hh hO))
      exact ⟨⟨2, by omega, by go_num, Lib.hid (by have := blk_set HH.out 1 (Value.int .i64 e1); simpa using this), (hB.out.trans (HO.out.mono (by omega))).setCell (Nat.le_refl _) _⟩, by simp [intOf]⟩
    · go_wp2_with (first
        | (go_at_call 38; refine (Of_c _ _ _ _).mono ?_; rintro e w' ⟨rfl, hO⟩; have hh := blk_below hH.out hO; obtain ⟨v, hv⟩ : ∃ v, w'.cell? ⟨b + 1 + 1 + 1, 2, none⟩ = some v := ⟨_, blk_cell hh 2⟩; have hf := blk_frozen hh 2; have HH := Lib.hid hh; have HO := Lib.hid hO; have g := G2.out; clear hh hO))
      exact ⟨⟨3, by omega, by go_num, Lib.hid (by have := blk_set HH.out 2 (Value.int .i64 e2); simpa using this), (hB.out.trans (HO.out.mono (by omega))).setCell (Nat.le_refl _) _⟩, by simp [intOf]⟩
    · go_wp2_with (first
        | (go_at_call 38; refine (Of_c _ _ _ _).mono ?_; rintro e w' ⟨rfl, hO⟩; have hh := blk_below hH.out hO; obtain ⟨v, hv⟩ : ∃ v, w'.cell? ⟨b + 1 + 1 + 1, 3, none⟩ = some v := ⟨_, blk_cell hh 3⟩; have hf := blk_frozen hh 3; have HH := Lib.hid hh; have HO := Lib.hid hO; have g := G3.out; clear hh hO))
      exact ⟨⟨4, by omega, by go_num, Lib.hid (by have := blk_set HH.out 3 (Value.int .i64 e3); simpa using this), (hB.out.trans (HO.out.mono (by omega))).setCell (Nat.le_refl _) _⟩, by simp [intOf]⟩
    · have c0 : wr.cell? ⟨b + 1 + 1 + 1, 0, none⟩ = some (.int .i64 e0) := blk_cell hH.out 0
      have c1 : wr.cell? ⟨b + 1 + 1 + 1, 1, none⟩ = some (.int .i64 e1) := blk_cell hH.out 1
      have c2 : wr.cell? ⟨b + 1 + 1 + 1, 2, none⟩ = some (.int .i64 e2) := blk_cell hH.out 2
      have c3 : wr.cell? ⟨b + 1 + 1 + 1, 3, none⟩ = some (.int .i64 e3) := blk_cell hH.out 3
      have hz := (hB.out.block (b + 1 + 1) (by omega)).trans R1.out
      have HZ := Lib.hid hz
      have f0 := blk_frozen hz 0
      have f1 := blk_frozen hz 1
      have f2 := blk_frozen hz 2
      have f3 := blk_frozen hz 3
      obtain ⟨v0, d0⟩ : ∃ v, wr.cell? ⟨b + 1 + 1, 0, none⟩ = some v := ⟨_, blk_cell hz 0⟩
      obtain ⟨v1, d1⟩ : ∃ v, wr.cell? ⟨b + 1 + 1, 1, none⟩ = some v := ⟨_, blk_cell hz 1⟩
      obtain ⟨v2, d2⟩ : ∃ v, wr.cell? ⟨b + 1 + 1, 2, none⟩ = some v := ⟨_, blk_cell hz 2⟩
      obtain ⟨v3, d3⟩ : ∃ v, wr.cell? ⟨b + 1 + 1, 3, none⟩ = some v := ⟨_, blk_cell hz 3⟩
      clear hz
      go_wp2_with fail
      refine bodyPost_ret (results_cell_row rfl _ _ (b + 1 + 1) 84 #[.int .i64 e0, .int .i64 e1, .int .i64 e2, .int .i64 e3] (0, 0) _ rfl (blk_set (blk_set (blk_set (blk_set HZ.out 0 _) 1 _) 2 _) 3 _) Try.underlying84 rfl (by kernel_rfl)) rfl ?_
      refine ⟨by rw [E0.out, E1.out, E2.out, E3.out], ?_⟩
      rw [← HB.out]
      exact ((((R3.out.trans (hB.out.mono (by omega))).setCell (p := ⟨b + 1 + 1, 0, none⟩) (by show b ≤ b + 1 + 1; omega) _).setCell (p := ⟨b + 1 + 1, 1, none⟩) (by show b ≤ b + 1 + 1; omega) _).setCell (p := ⟨b + 1 + 1, 2, none⟩) (by show b ≤ b + 1 + 1; omega) _).setCell (p := ⟨b + 1 + 1, 3, none⟩) (by show b ≤ b + 1 + 1; omega) _
theorem above_c (a b c d : Int) (w : World) : Calls Try.prog 73 #[.agg #[.int .i64 a, .int .i64 b, .int .i64 c, .int .i64 d]] w fun e w' => e = .returned (.agg #[.int .i64 (max 0 a), .int .i64 (max 0 b), .int .i64 (max 0 c), .int .i64 (max 0 d)]) ∧ Below w.heap.size w w' := by
  go_enter Try.func73, Try.ntmps73
  go_wp2_with fail
  have hz : ((w.alloc (.cells #[.int .i64 a, .int .i64 b, .int .i64 c, .int .i64 d] 84)).alloc (.cells #[.int .i64 (max 0 a), .int .i64 (max 0 b), .int .i64 (max 0 c), .int .i64 (max 0 d)] 84)).heap[w.heap.size + 1]? = some (.cells #[.int .i64 (max 0 a), .int .i64 (max 0 b), .int .i64 (max 0 c), .int .i64 (max 0 d)] 84 (0, 0)) := by
    have := blk_new (w.alloc (.cells #[.int .i64 a, .int .i64 b, .int .i64 c, .int .i64 d] 84)) (.cells #[.int .i64 (max 0 a), .int .i64 (max 0 b), .int .i64 (max 0 c), .int .i64 (max 0 d)] 84)
    rwa [World.size_alloc] at this
  refine bodyPost_ret (results_cell_row rfl _ _ (w.heap.size + 1) 84 _ (0, 0) _ rfl hz Try.underlying84 rfl (by kernel_rfl)) rfl ?_
  exact ⟨rfl, below_alloc (below_alloc (Below.refl _ _) _) _⟩

theorem size27 {s : List Int} (hs : s.length = 118) : (Try.prog.info? 27).map (·.size) = some (sv s).length := by
  rw [sv_len, hs]; kernel_rfl
/-- The closure that Frame makes. -/
theorem four_c (s : List Int) (p room : Int) (b1 b2 : Nat) (w : World) (hs : s.length = 118) (hp : 0 ≤ p ∧ p < 50) (h1 : w.rangeAt b1 0 (sv s)) (h2 : w.cell? ⟨b2, 0, none⟩ = some (.int .i64 room)) :
    Calls Try.prog 71 #[.int .i64 p, .pointer (some ⟨b1, 0, none⟩), .pointer (some ⟨b2, 0, none⟩)] w fun e w' => e = .returned (.agg #[.int .i64 (edgeP s p room), .int .i64 (edgeP s (p + 1) room), .int .i64 (edgeP s (p + 2) room), .int .i64 (edgeP s (p + 3) room)]) ∧ Below w.heap.size w w' := by
  have HS := Lib.hid hs
  have H1 := Lib.hid h1
  have hb2 := World.block_lt_of_cell? w _ h2
  obtain ⟨p1, p2⟩ := hp
  have IZ := Lib.hid (size27 hs)
  clear h1 hs
  go_enter Try.func71, Try.ntmps71
  go_wp2_with (first
    | ((with_reducible refine gate_dst (N := 5) rfl ?_); refine wpList_load_mid rfl 27 (.tmp 1) rfl b1 0 rfl (sv s) _ (World.rangeAt_alloc H1.out _) Try.underlying27 rfl IZ.out ?_))
  refine (Edges_c s p (p + 1) (p + 2) (p + 3) room _ HS.out (by omega) (by omega) (by omega) (by omega)).mono ?_
  rintro e w1 ⟨rfl, hE⟩
  have hz := blk_below (blk_new w (.cells #[.int .i64 0, .int .i64 0, .int .i64 0, .int .i64 0] 84)) hE
  have HZ := Lib.hid hz
  have HB := Lib.hid (below_then (below_alloc (Below.refl w.heap.size w) (.cells #[.int .i64 0, .int .i64 0, .int .i64 0, .int .i64 0] 84)) (by simp) hE)
  have f0 := blk_frozen hz 0
  have f1 := blk_frozen hz 1
  have f2 := blk_frozen hz 2
  have f3 := blk_frozen hz 3
  obtain ⟨v0, d0⟩ : ∃ v, w1.cell? ⟨w.heap.size, 0, none⟩ = some v := ⟨_, blk_cell hz 0⟩
  obtain ⟨v1, d1⟩ : ∃ v, w1.cell? ⟨w.heap.size, 1, none⟩ = some v := ⟨_, blk_cell hz 1⟩
  obtain ⟨v2, d2⟩ : ∃ v, w1.cell? ⟨w.heap.size, 2, none⟩ = some v := ⟨_, blk_cell hz 2⟩
  obtain ⟨v3, d3⟩ : ∃ v, w1.cell? ⟨w.heap.size, 3, none⟩ = some v := ⟨_, blk_cell hz 3⟩
  clear hz hE
  go_wp2_with fail
  refine bodyPost_ret (results_cell_row rfl _ _ w.heap.size 84 #[.int .i64 (edgeP s p room), .int .i64 (edgeP s (p + 1) room), .int .i64 (edgeP s (p + 2) room), .int .i64 (edgeP s (p + 3) room)] (0, 0) _ rfl (blk_set (blk_set (blk_set (blk_set HZ.out 0 _) 1 _) 2 _) 3 _) Try.underlying84 rfl (by kernel_rfl)) rfl ?_
  exact ⟨rfl, (((HB.out.setCell (p := ⟨w.heap.size, 0, none⟩) (Nat.le_refl _) _).setCell (p := ⟨w.heap.size, 1, none⟩) (Nat.le_refl _) _).setCell (p := ⟨w.heap.size, 2, none⟩) (Nat.le_refl _) _).setCell (p := ⟨w.heap.size, 3, none⟩) (Nat.le_refl _) _⟩

/-- Four edges as a value. -/
def edV (f : Int → Int) (s : List Int) (p room : Int) : Value := .agg #[.int .i64 (f (edgeP s p room)), .int .i64 (f (edgeP s (p + 1) room)), .int .i64 (f (edgeP s (p + 2) room)), .int .i64 (f (edgeP s (p + 3) room))]

theorem blk_five (w : World) (o0 o1 o2 o3 o4 : Obj) : ∃ W, ((((w.alloc o0).alloc o1).alloc o2).alloc o3).alloc o4 = W ∧ Below w.heap.size w W ∧ W.heap.size = w.heap.size + 5 ∧ W.heap[w.heap.size]? = some o0 ∧ W.heap[w.heap.size + 1]? = some o1 ∧ W.heap[w.heap.size + 1 + 1]? = some o2 ∧ W.heap[w.heap.size + 1 + 1 + 1]? = some o3 ∧ W.heap[w.heap.size + 1 + 1 + 1 + 1]? = some o4 := by
  refine ⟨_, rfl, below_alloc (below_alloc (below_alloc (below_alloc (below_alloc (Below.refl _ _) _) _) _) _) _, by simp, ?_, ?_, ?_, ?_, ?_⟩
  · exact blk_alloc (blk_alloc (blk_alloc (blk_alloc (blk_new w o0) _) _) _) _
  · have := blk_new (w.alloc o0) o1
    rw [World.size_alloc] at this
    exact blk_alloc (blk_alloc (blk_alloc this _) _) _
  · have := blk_new ((w.alloc o0).alloc o1) o2
    rw [World.size_alloc, World.size_alloc] at this
    exact blk_alloc (blk_alloc this _) _
  · have := blk_new (((w.alloc o0).alloc o1).alloc o2) o3
    rw [World.size_alloc, World.size_alloc, World.size_alloc] at this
    exact blk_alloc this _
  · have := blk_new ((((w.alloc o0).alloc o1).alloc o2).alloc o3) o4
    rw [World.size_alloc, World.size_alloc, World.size_alloc, World.size_alloc] at this
    exact this
theorem range_blk {w : World} {b : Nat} {cs : List Value} {t : TypeId} (h : w.heap[b]? = some (.cells cs.toArray t (0, 0))) : w.rangeAt b 0 cs := by
  intro j v hj
  rw [Nat.zero_add, blk_cell h j]
  simpa using hj

/-- Four cells of a block put. -/
abbrev put4 (W : World) (g : Nat) (a b c d : Value) : World := (((W.setCell ⟨g, 0, none⟩ a).setCell ⟨g, 1, none⟩ b).setCell ⟨g, 2, none⟩ c).setCell ⟨g, 3, none⟩ d
theorem put4_same {W : World} {g : Nat} {t : TypeId} {x0 x1 x2 x3 : Value} (h : W.heap[g]? = some (.cells #[x0, x1, x2, x3] t (0, 0))) (a b c d : Value) : (put4 W g a b c d).heap[g]? = some (.cells #[a, b, c, d] t (0, 0)) :=
  blk_set (blk_set (blk_set (blk_set h 0 _) 1 _) 2 _) 3 _
theorem put4_far {W : World} {g k : Nat} {t : TypeId} {cs : Array Value} (h : W.heap[k]? = some (.cells cs t (0, 0))) (hk : k ≠ g) (a b c d : Value) : (put4 W g a b c d).heap[k]? = some (.cells cs t (0, 0)) :=
  blk_far (blk_far (blk_far (blk_far h (p := ⟨g, 0, none⟩) hk _) (p := ⟨g, 1, none⟩) hk _) (p := ⟨g, 2, none⟩) hk _) (p := ⟨g, 3, none⟩) hk _
theorem put4_below {B : Nat} {w W : World} (h : Below B w W) {g : Nat} (hg : B ≤ g) (a b c d : Value) : Below B w (put4 W g a b c d) :=
  (((h.setCell (p := ⟨g, 0, none⟩) hg _).setCell (p := ⟨g, 1, none⟩) hg _).setCell (p := ⟨g, 2, none⟩) hg _).setCell (p := ⟨g, 3, none⟩) hg _

set_option maxRecDepth 100000 in
set_option maxHeartbeats 1000000 in
theorem Frame_c (s : List Int) (room : Int) (w : World) (hs : s.length = 118) :
    Calls Try.prog 42 #[.agg (sv s).toArray, .int .i64 room] w fun e w' => e = .returned (.tuple #[edV id s 11 room, edV (max 0) s 19 room, edV (max 0) s 15 room]) ∧ Below w.heap.size w w' := by
  have HS := Lib.hid hs
  obtain ⟨W, eW, hB, hsz, b0, b1, b2, b3, b4⟩ := blk_five w (.cells (sv s).toArray 27) (.cells #[.int .i64 room] 3) (.cells #[.int .i64 0, .int .i64 0, .int .i64 0, .int .i64 0] 84) (.cells #[.int .i64 0, .int .i64 0, .int .i64 0, .int .i64 0] 84) (.cells #[.int .i64 0, .int .i64 0, .int .i64 0, .int .i64 0] 84)
  have EW := Lib.hid eW
  have HB := Lib.hid hB
  have B0 := Lib.hid (range_blk b0)
  have B1 := Lib.hid b1
  have B2 := Lib.hid b2
  have B3 := Lib.hid b3
  have B4 := Lib.hid b4
  have C1 : Hid (W.cell? ⟨w.heap.size + 1, 0, none⟩ = some (.int .i64 room)) := Lib.hid (blk_cell b1 0)
  have SZ := Lib.hid hsz
  clear eW hB hsz b0 b1 b2 b3 b4 hs
  go_enter Try.func42, Try.ntmps42
  go_wp2_with fail
  rw [EW.out]
  have hb : w.heap.size < W.heap.size := by have := SZ.out; omega
  have hb1 : w.heap.size + 1 < W.heap.size := by have := SZ.out; omega
  have HB0 := Lib.hid hb
  have HB1 := Lib.hid hb1
  clear hb hb1 EW
  generalize hbb : w.heap.size = b at *
  have HBB := Lib.hid hbb
  clear hbb
  refine (four_c s 11 room b (b + 1) W HS.out (by omega) B0.out C1.out).mono ?_
  rintro e w1 ⟨rfl, h1⟩
  have X1 := Lib.hid h1
  clear h1
  go_wp2_with fail
  refine (four_c s 19 room b (b + 1) w1 HS.out (by omega) (range_below B0.out X1.out HB0.out) ((X1.out.cell HB1.out).trans C1.out)).mono ?_
  rintro e w2 ⟨rfl, h2⟩
  have X2 := Lib.hid (below_then X1.out X1.out.size h2)
  clear h2
  go_wp2_with fail
  refine (above_c _ _ _ _ w2).mono ?_
  rintro e w3 ⟨rfl, h3⟩
  have X3 := Lib.hid (below_then X2.out X2.out.size h3)
  clear h3
  go_wp2_with fail
  refine (four_c s 15 room b (b + 1) w3 HS.out (by omega) (range_below B0.out X3.out HB0.out) ((X3.out.cell HB1.out).trans C1.out)).mono ?_
  rintro e w4 ⟨rfl, h4⟩
  have X4 := Lib.hid (below_then X3.out X3.out.size h4)
  clear h4
  go_wp2_with fail
  refine (above_c _ _ _ _ w4).mono ?_
  rintro e w5 ⟨rfl, h5⟩
  have X5 := Lib.hid (below_then X4.out X4.out.size h5)
  clear h5
  have z2 := blk_below B2.out X5.out
  have z3 := blk_below B3.out X5.out
  have z4 := blk_below B4.out X5.out
  have Z2 := Lib.hid z2
  have Z3 := Lib.hid z3
  have Z4 := Lib.hid z4
  have f20 := blk_frozen z2 0
  obtain ⟨v20, d20⟩ : ∃ v, w5.cell? ⟨b + 1 + 1, 0, none⟩ = some v := ⟨_, blk_cell z2 0⟩
  have f21 := blk_frozen z2 1
  obtain ⟨v21, d21⟩ : ∃ v, w5.cell? ⟨b + 1 + 1, 1, none⟩ = some v := ⟨_, blk_cell z2 1⟩
  have f22 := blk_frozen z2 2
  obtain ⟨v22, d22⟩ : ∃ v, w5.cell? ⟨b + 1 + 1, 2, none⟩ = some v := ⟨_, blk_cell z2 2⟩
  have f23 := blk_frozen z2 3
  obtain ⟨v23, d23⟩ : ∃ v, w5.cell? ⟨b + 1 + 1, 3, none⟩ = some v := ⟨_, blk_cell z2 3⟩
  have f30 := blk_frozen z3 0
  obtain ⟨v30, d30⟩ : ∃ v, w5.cell? ⟨b + 1 + 1 + 1, 0, none⟩ = some v := ⟨_, blk_cell z3 0⟩
  have f31 := blk_frozen z3 1
  obtain ⟨v31, d31⟩ : ∃ v, w5.cell? ⟨b + 1 + 1 + 1, 1, none⟩ = some v := ⟨_, blk_cell z3 1⟩
  have f32 := blk_frozen z3 2
  obtain ⟨v32, d32⟩ : ∃ v, w5.cell? ⟨b + 1 + 1 + 1, 2, none⟩ = some v := ⟨_, blk_cell z3 2⟩
  have f33 := blk_frozen z3 3
  obtain ⟨v33, d33⟩ : ∃ v, w5.cell? ⟨b + 1 + 1 + 1, 3, none⟩ = some v := ⟨_, blk_cell z3 3⟩
  have f40 := blk_frozen z4 0
  obtain ⟨v40, d40⟩ : ∃ v, w5.cell? ⟨b + 1 + 1 + 1 + 1, 0, none⟩ = some v := ⟨_, blk_cell z4 0⟩
  have f41 := blk_frozen z4 1
  obtain ⟨v41, d41⟩ : ∃ v, w5.cell? ⟨b + 1 + 1 + 1 + 1, 1, none⟩ = some v := ⟨_, blk_cell z4 1⟩
  have f42 := blk_frozen z4 2
  obtain ⟨v42, d42⟩ : ∃ v, w5.cell? ⟨b + 1 + 1 + 1 + 1, 2, none⟩ = some v := ⟨_, blk_cell z4 2⟩
  have f43 := blk_frozen z4 3
  obtain ⟨v43, d43⟩ : ∃ v, w5.cell? ⟨b + 1 + 1 + 1 + 1, 3, none⟩ = some v := ⟨_, blk_cell z4 3⟩
  clear z2 z3 z4
  go_wp2_with fail
  refine bodyPost_ret (results_list (rs := [.cell 4 84, .cell 5 84, .cell 6 84]) rfl (by simp)
    (.cell (b + 1 + 1) 84 _ (0, 0) _ rfl (put4_far (put4_far (put4_same Z2.out _ _ _ _) (by omega) _ _ _ _) (by omega) _ _ _ _) Try.underlying84 rfl (by kernel_rfl)
      (.cell (b + 1 + 1 + 1) 84 _ (0, 0) _ rfl (put4_far (put4_same (put4_far Z3.out (by omega) _ _ _ _) _ _ _ _) (by omega) _ _ _ _) Try.underlying84 rfl (by kernel_rfl)
        (.cell (b + 1 + 1 + 1 + 1) 84 _ (0, 0) _ rfl (put4_same (put4_far (put4_far Z4.out (by omega) _ _ _ _) (by omega) _ _ _ _) _ _ _ _) Try.underlying84 rfl (by kernel_rfl) .nil)))) rfl ?_
  refine ⟨rfl, ?_⟩
  rw [HBB.out]
  exact put4_below (put4_below (put4_below (HB.out.trans (X5.out.mono (by have := SZ.out; omega))) (by omega) _ _ _ _) (by omega) _ _ _ _) (by omega) _ _ _ _
end Go.Proofs.Ytfkgpkkjiolfpaa.Sty
