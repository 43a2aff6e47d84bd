/- Widths of blocks: what a bound is, what a block's width and margins are. For every input. -/
import Derived.Test.YtomejeclfbpilaaStyle
import Derived.Deep.RegionWith
namespace Go.Proofs.Ytomejeclfbpilaa.Wid
open Go.RowKit Go.Proofs.Ytomejeclfbpilaa.Pl Go.Proofs.Ytomejeclfbpilaa.Fx Go.Proofs.Ytomejeclfbpilaa.Sty Go.Proofs.YtomejeclfbpilaaW.PrintWords Go.Proofs.YtomejeclfbpilaaW.PrintLast Go.Proofs.YtomejeclfbpilaaW.PrintMore
set_option linter.unusedVariables false
set_option linter.unusedSimpArgs false
attribute [local go_sem] mx2 mn2 mx_two mn_two mx_three mn_three

/-- The bounds of a length, as cells. -/
def bd (s : List Int) (room rim : Int) : List Value := sv s ++ [.int .i64 room, .int .i64 rim, .bool true, .int .i64 5, .int .i64 7, .int .i64 9]
theorem bd_len (s : List Int) (room rim : Int) : (bd s room rim).length = s.length + 6 := by simp [bd, sv_len]
theorem bd_get (s : List Int) (room rim : Int) (i : Nat) (h : i < s.length) : (bd s room rim)[i]? = some (.int .i64 (s.getD i 0)) := by
  unfold bd
  rw [List.getElem?_append_left (by rw [sv_len]; exact h)]
  exact sv_get s i h
theorem bd_more (s : List Int) (room rim : Int) (i : Nat) : (bd s room rim)[s.length + i]? = ([.int .i64 room, .int .i64 rim, .bool true, .int .i64 5, .int .i64 7, .int .i64 9] : List Value)[i]? := by
  unfold bd
  rw [List.getElem?_append_right (by rw [sv_len]; omega), sv_len]
  congr 1
  omega
theorem bd_one (s : List Int) (room rim : Int) : ∀ v ∈ bd s room rim, v.oneCell' = true := by
  intro v hv
  unfold bd sv at hv
  simp only [List.mem_append, List.mem_map, List.mem_cons, List.not_mem_nil, or_false] at hv
  rcases hv with ⟨x, _, rfl⟩ | rfl | rfl | rfl | rfl | rfl | rfl <;> rfl

/-- A property's length, of its content. -/
def ofB (s : List Int) (room rim p : Int) : Int × Bool :=
  if s.getD (p.toNat * 2) 0 = 2 ∨ s.getD (p.toNat * 2) 0 = 3 then (max 0 ((ofP (s.getD (p.toNat * 2) 0) (s.getD (p.toNat * 2 + 1) 0) room).1 - (if s.getD 9 0 = 1 then rim else 0)), true) else (0, false)
theorem ofP_bd (k n b : Int) : -16777216 ≤ (ofP k n b).1 ∧ (ofP k n b).1 ≤ 16777216 := by
  unfold ofP
  split
  · exact cut_bd n
  · split
    · simp only
      unfold prt
      split
      · omega
      · exact cut_bd _
    · show (-16777216 : Int) ≤ 0 ∧ (0 : Int) ≤ 16777216
      omega
theorem ofB_bd (s : List Int) (room rim p : Int) (h0 : 0 ≤ rim) : 0 ≤ (ofB s room rim p).1 ∧ (ofB s room rim p).1 ≤ 16777216 := by
  unfold ofB
  have := ofP_bd (s.getD (p.toNat * 2) 0) (s.getD (p.toNat * 2 + 1) 0) room
  split
  · simp only
    split <;> omega
  · show (0 : Int) ≤ 0 ∧ (0 : Int) ≤ 16777216
    omega

theorem ofP_other {k : Int} (n b : Int) (h2 : ¬ k = 2) (h3 : ¬ k = 3) : ofP k n b = (0, false) := by unfold ofP; rw [if_neg h2, if_neg h3]
theorem ofP_yes {k : Int} (n b : Int) (h : k = 2 ∨ k = 3) : (ofP k n b).2 = true := by
  unfold ofP
  rcases h with rfl | rfl
  · rfl
  · rfl
set_option maxRecDepth 100000 in
set_option maxHeartbeats 1000000 in
theorem of_c (s : List Int) (room rim p : Int) (w : World) (hs : s.length = 118) (hr0 : 0 ≤ rim) (hr1 : rim ≤ 134217728) (hp0 : 0 ≤ p) (hp1 : p < 59) :
    Calls Try.prog 63 #[.agg (bd s room rim).toArray, .int .i64 p] w fun e w' => e = .returned (.tuple #[.int .i64 (ofB s room rim p).1, .bool (ofB s room rim p).2]) ∧ Below w.heap.size w w' := by
  obtain ⟨q, hq⟩ : ∃ q, q = ofB s room rim p := ⟨_, rfl⟩
  rw [← hq]
  have HQ := Lib.hid hq
  clear hq
  go_enter Try.func63, Try.ntmps63
  go_wp2_with fail
  have r0 : (w.alloc (.cells (bd s room rim).toArray 84)).rangeAt w.heap.size 0 (bd s room rim) := range_new _ _ _
  have hg : ∀ i, i < 118 → (w.alloc (.cells (bd s room rim).toArray 84)).cell? ⟨w.heap.size, i, none⟩ = some (.int .i64 (s.getD i 0)) := fun i hi => by
    have := r0 i _ (bd_get s room rim i (by omega))
    rwa [Nat.zero_add] at this
  have hm : ∀ i v, ([.int .i64 room, .int .i64 rim, .bool true, .int .i64 5, .int .i64 7, .int .i64 9] : List Value)[i]? = some v → (w.alloc (.cells (bd s room rim).toArray 84)).cell? ⟨w.heap.size, 118 + i, none⟩ = some v := fun i v hv => by
    have := r0 (s.length + i) v (by rw [bd_more]; exact hv)
    rwa [Nat.zero_add, hs] at this
  have hlt : w.heap.size < (w.alloc (.cells (bd s room rim).toArray 84)).heap.size := by simp
  have hB : Below w.heap.size w (w.alloc (.cells (bd s room rim).toArray 84)) := below_alloc (Below.refl _ _) _
  generalize w.alloc (.cells (bd s room rim).toArray 84) = W at *
  have c0 : W.cell? ⟨w.heap.size, p.toNat * 2, none⟩ = some (.int .i64 (s.getD (p.toNat * 2) 0)) := hg (p.toNat * 2) (by omega)
  have c1 : W.cell? ⟨w.heap.size, p.toNat * 2 + 1, none⟩ = some (.int .i64 (s.getD (p.toNat * 2 + 1) 0)) := hg (p.toNat * 2 + 1) (by omega)
  have c9 : W.cell? ⟨w.heap.size, 9, none⟩ = some (.int .i64 (s.getD 9 0)) := hg 9 (by omega)
  have d0 : W.cell? ⟨w.heap.size, 118, none⟩ = some (.int .i64 room) := hm 0 _ rfl
  have d1 : W.cell? ⟨w.heap.size, 119, none⟩ = some (.int .i64 rim) := hm 1 _ rfl
  have d2 : W.cell? ⟨w.heap.size, 120, none⟩ = some (.bool true) := hm 2 _ rfl
  clear r0 hg hm
  have hx := ofP_bd (s.getD (p.toNat * 2) 0) (s.getD (p.toNat * 2 + 1) 0) room
  have hE : q = if s.getD (p.toNat * 2) 0 = 2 ∨ s.getD (p.toNat * 2) 0 = 3 then (max 0 ((ofP (s.getD (p.toNat * 2) 0) (s.getD (p.toNat * 2 + 1) 0) room).1 - (if s.getD 9 0 = 1 then rim else 0)), true) else (0, false) := HQ.out
  have HC0 : ∀ ww, Calls Try.prog 65 #[.agg #[.int .i64 (s.getD (p.toNat * 2) 0), .int .i64 (s.getD (p.toNat * 2 + 1) 0)], .int .i64 room] ww fun e w' => e = .returned (.tuple #[.int .i64 (ofP (s.getD (p.toNat * 2) 0) (s.getD (p.toNat * 2 + 1) 0) room).1, .bool (ofP (s.getD (p.toNat * 2) 0) (s.getD (p.toNat * 2 + 1) 0) room).2]) ∧ Below ww.heap.size ww w' := fun ww => Of_c _ _ _ ww
  have HB := Lib.hid hB
  obtain ⟨b, hb⟩ : ∃ b, w.heap.size = b := ⟨_, rfl⟩
  rw [hb] at HB c0 c1 c9 d0 d1 d2 hlt ⊢
  have HBB := Lib.hid hb
  clear hB hb HQ
  by_cases hk : s.getD (p.toNat * 2) 0 = 2 ∨ s.getD (p.toNat * 2) 0 = 3
  · have hy := ofP_yes (s.getD (p.toNat * 2 + 1) 0) room hk
    rw [if_pos hk] at hE
    rw [hy] at HC0
    generalize (ofP (s.getD (p.toNat * 2) 0) (s.getD (p.toNat * 2 + 1) 0) room).1 = x at *
    generalize s.getD (p.toNat * 2 + 1) 0 = n at *
    generalize s.getD (p.toNat * 2) 0 = k at *
    generalize s.getD 9 0 = bx at *
    have HC := Lib.hid HC0
    clear HC0 hy
    have keep0 : ∀ w', Below W.drew.heap.size W.drew w' → w'.cell? ⟨b, p.toNat * 2, none⟩ = some (.int .i64 k) ∧ w'.cell? ⟨b, 9, none⟩ = some (.int .i64 bx) ∧ w'.cell? ⟨b, 119, none⟩ = some (.int .i64 rim) ∧ w'.cell? ⟨b, 120, none⟩ = some (.bool true) ∧ Below b w w' := fun w' h =>
      ⟨(h.cell (p := ⟨b, p.toNat * 2, none⟩) hlt).trans c0, (h.cell (p := ⟨b, 9, none⟩) hlt).trans c9, (h.cell (p := ⟨b, 119, none⟩) hlt).trans d1, (h.cell (p := ⟨b, 120, none⟩) hlt).trans d2, HB.out.drew.trans (h.mono (Nat.le_of_lt hlt))⟩
    have KEEP := Lib.hid keep0
    clear keep0
    by_cases hbx : bx = 1
    · rw [if_pos hbx] at hE
      have HE := Lib.hid hE
      have q1 : (bx == 1) = true := by simpa using hbx
      clear hE hbx
      clear hk
      go_region_with (go_at_call 65; refine (HC.out _).mono ?_; rintro e w' ⟨rfl, hO⟩)
      all_goals
        obtain ⟨e0, e9, e1, e2, eB⟩ := KEEP.out _ hO
        have EB := Lib.hid eB
        clear hO eB c0 c1 c9 d0 d1 d2
        go_wp2_with fail
        all_goals go_ret2
        all_goals exact ⟨by rw [HE.out]; rfl, by rw [HBB.out]; exact EB.out⟩
    · rw [if_neg hbx] at hE
      have HE := Lib.hid hE
      have q1 : (bx == 1) = false := by simpa using hbx
      clear hE hbx hk
      go_region_with (go_at_call 65; refine (HC.out _).mono ?_; rintro e w' ⟨rfl, hO⟩)
      all_goals
        obtain ⟨e0, e9, e1, e2, eB⟩ := KEEP.out _ hO
        have EB := Lib.hid eB
        clear hO eB c0 c1 c9 d0 d1 d2
        go_wp2_with fail
        all_goals go_ret2
        all_goals exact ⟨by rw [HE.out, Int.sub_zero]; rfl, by rw [HBB.out]; exact EB.out⟩
  · rw [if_neg hk] at hE
    have hy := ofP_other (s.getD (p.toNat * 2 + 1) 0) room (fun h => hk (.inl h)) (fun h => hk (.inr h))
    rw [hy] at HC0
    have HE := Lib.hid hE
    have HC := Lib.hid HC0
    clear HC0 hE hy hx hk
    generalize s.getD (p.toNat * 2 + 1) 0 = n at *
    generalize s.getD (p.toNat * 2) 0 = k at *
    have keep0 : ∀ w', Below W.drew.heap.size W.drew w' → Below b w w' := fun w' h => HB.out.drew.trans (h.mono (Nat.le_of_lt hlt))
    have KEEP := Lib.hid keep0
    clear keep0
    go_region_with (go_at_call 65; refine (HC.out _).mono ?_; rintro e w' ⟨rfl, hO⟩)
    all_goals
      have EB := Lib.hid (KEEP.out _ hO)
      clear hO c0 c1 c9 d0 d1 d2
      go_wp2_with fail
      all_goals go_ret2
      all_goals exact ⟨by rw [HE.out]; rfl, by rw [HBB.out]; exact EB.out⟩
end Go.Proofs.Ytomejeclfbpilaa.Wid
