/- Flexible rows: which items are in which row: plain, and the walk. For every input. -/
import Derived.Test.YtfkgpkkjiolfpaaFlexFilled2
namespace Go.Proofs.Ytfkgpkkjiolfpaa.Flx
open Go.RowKit Go.Lib Go.Proofs.Ytfkgpkkjiolfpaa.Rgn Go.Proofs.Ytfkgpkkjiolfpaa.Pl Go.Proofs.Ytfkgpkkjiolfpaa.Fx Go.Proofs.Ytfkgpkkjiolfpaa.Sh Go.Proofs.Ytfkgpkkjiolfpaa.Sm Go.Proofs.YtfkgpkkjiolfpaaW.PrintWords Go.Proofs.YtfkgpkkjiolfpaaW.PrintLast Go.Proofs.YtfkgpkkjiolfpaaW.PrintMore
set_option linter.unusedVariables false
set_option linter.unusedSimpArgs false
attribute [local go_sem] mx2 mn2 mx_two mn_two mx_three mn_three

/-- How many, as Ints. -/
def ci (o : List Nat) : List Int := o.map Int.ofNat
theorem ci_len (o : List Nat) : (ci o).length = o.length := by simp [ci]
theorem ci_app (a b : List Nat) : ci (a ++ b) = ci a ++ ci b := by simp [ci]
/-- The rows of the first items: all but the last, the last, and how long it is. -/
def rowsAt (r g : Int) (wr : Bool) (L : Nat → Int) : Nat → List Nat × Nat × Int
  | 0 => ([], 0, 0)
  | 1 => ([], 1, L 0)
  | k + 2 =>
    let p := rowsAt r g wr L (k + 1)
    if wr = true ∧ r < p.2.2 + g + L (k + 1) then (p.1 ++ [p.2.1], 1, L (k + 1)) else (p.1, p.2.1 + 1, p.2.2 + g + L (k + 1))
def rowsO (r g : Int) (wr : Bool) (L : Nat → Int) (k : Nat) : List Nat := if k = 0 then [] else (rowsAt r g wr L k).1 ++ [(rowsAt r g wr L k).2.1]
theorem rowsAt_s (r g : Int) (wr : Bool) (L : Nat → Int) (k : Nat) (h : 0 < k) : rowsAt r g wr L (k + 1) = if wr = true ∧ r < (rowsAt r g wr L k).2.2 + g + L k then ((rowsAt r g wr L k).1 ++ [(rowsAt r g wr L k).2.1], 1, L k) else ((rowsAt r g wr L k).1, (rowsAt r g wr L k).2.1 + 1, (rowsAt r g wr L k).2.2 + g + L k) := by
  cases k with
  | zero => omega
  | succ k => rfl
/-- A row of several is no longer than the room. -/
def Good (r g : Int) (wr : Bool) (L : Nat → Int) (f : List Nat) : Prop := ∀ p, p < f.length → 1 ≤ f.getD p 0 ∧ (wr = true → 1 < f.getD p 0 → g * ((f.getD p 0 : Int) - 1) + (sm ((f.take p).sum + f.getD p 0) L - sm (f.take p).sum L) ≤ r)
theorem good_snoc {r g : Int} {wr : Bool} {L : Nat → Int} {f : List Nat} (h : Good r g wr L f) {c : Nat} (hc : 1 ≤ c) (h2 : wr = true → 1 < c → g * ((c : Int) - 1) + (sm (f.sum + c) L - sm f.sum L) ≤ r) : Good r g wr L (f ++ [c]) := by
  intro p hp
  rw [List.length_append, List.length_singleton] at hp
  by_cases e : p = f.length
  · subst e
    have e1 : (f ++ [c]).getD f.length 0 = c := by simp [List.getD_eq_getElem?_getD]
    have e2 : (f ++ [c]).take f.length = f := by simp
    rw [e1, e2]
    exact ⟨hc, h2⟩
  · have hp2 : p < f.length := by omega
    have e1 : (f ++ [c]).getD p 0 = f.getD p 0 := by simp [List.getD_eq_getElem?_getD, List.getElem?_append_left hp2]
    have e2 : (f ++ [c]).take p = f.take p := by rw [List.take_append_of_le_length (by omega)]
    rw [e1, e2]
    exact h p hp2
theorem rows_inv (r g : Int) (wr : Bool) (L : Nat → Int) : ∀ k, 0 < k → 1 ≤ (rowsAt r g wr L k).2.1 ∧ (rowsAt r g wr L k).1.sum + (rowsAt r g wr L k).2.1 = k ∧ (wr = false → (rowsAt r g wr L k).1 = []) ∧
    (rowsAt r g wr L k).2.2 = g * (((rowsAt r g wr L k).2.1 : Int) - 1) + (sm k L - sm (rowsAt r g wr L k).1.sum L) ∧ Good r g wr L (rowsAt r g wr L k).1 ∧ (wr = true → 1 < (rowsAt r g wr L k).2.1 → (rowsAt r g wr L k).2.2 ≤ r) := by
  intro k
  induction k with
  | zero => intro h; omega
  | succ k ih =>
    intro _
    by_cases h0 : k = 0
    · subst h0
      refine ⟨Nat.le_refl _, rfl, fun _ => rfl, ?_, fun p hp => by simp [rowsAt] at hp, fun _ h => ?_⟩
      · simp [rowsAt, sm]
      · simp [rowsAt] at h
    · obtain ⟨i1, i2, i3, i4, i5, i6⟩ := ih (by omega)
      rw [rowsAt_s r g wr L k (by omega)]
      generalize rowsAt r g wr L k = p at *
      obtain ⟨f, c, s⟩ := p
      simp only at i1 i2 i3 i4 i5 i6 ⊢
      by_cases hc : wr = true ∧ r < s + g + L k
      · rw [if_pos hc]
        simp only
        refine ⟨Nat.le_refl _, by simp; omega, fun h => by rw [hc.1] at h; exact absurd h (by decide), ?_, good_snoc i5 i1 (fun h1 h2 => ?_), fun _ h => by omega⟩
        · have e : (f ++ [c]).sum = k := by simp; omega
          rw [e, sm_succ]
          simp
          omega
        · rw [i2]
          have := i6 h1 h2
          omega
      · rw [if_neg hc]
        simp only
        refine ⟨by omega, by omega, i3, ?_, i5, fun h1 _ => ?_⟩
        · rw [sm_succ]
          have e : g * ((((c + 1 : Nat) : Int)) - 1) = g * ((c : Int) - 1) + g := by
            rw [show (((c + 1 : Nat) : Int)) - 1 = ((c : Int) - 1) + 1 by omega, Int.mul_add, Int.mul_one]
          rw [e]
          omega
        · have : ¬ r < s + g + L k := fun h => hc ⟨h1, h⟩
          omega
theorem rows_good (r g : Int) (wr : Bool) (L : Nat → Int) (k : Nat) : Good r g wr L (rowsO r g wr L k) ∧ (rowsO r g wr L k).sum = k ∧ (wr = false → (rowsO r g wr L k).length ≤ 1) := by
  unfold rowsO
  by_cases h0 : k = 0
  · rw [if_pos h0]
    exact ⟨fun p hp => by simp at hp, by simp [h0], fun _ => by simp⟩
  · rw [if_neg h0]
    obtain ⟨i1, i2, i3, i4, i5, i6⟩ := rows_inv r g wr L k (by omega)
    refine ⟨good_snoc i5 i1 (fun h1 h2 => ?_), by simp; omega, fun h => by rw [i3 h]; simp⟩
    rw [i2]
    have := i6 h1 h2
    omega
theorem rows_sbd (r g : Int) (wr : Bool) (L : Nat → Int) (hg0 : 0 ≤ g) (hg1 : g ≤ 16777216) (hL : ∀ k, -33554432 ≤ L k ∧ L k ≤ 33554432) : ∀ k : Nat, -50331648 * (k : Int) ≤ (rowsAt r g wr L k).2.2 ∧ (rowsAt r g wr L k).2.2 ≤ 50331648 * (k : Int) := by
  intro k
  induction k with
  | zero => simp [rowsAt]
  | succ k ih =>
    by_cases h0 : k = 0
    · subst h0
      have := hL 0
      simp only [rowsAt]
      omega
    · rw [rowsAt_s r g wr L k (by omega)]
      have := hL k
      split
      · simp only; omega
      · simp only; omega
theorem rows_len (r g : Int) (wr : Bool) (L : Nat → Int) : ∀ k, 0 < k → (rowsAt r g wr L k).1.length + 1 ≤ k := by
  intro k
  induction k with
  | zero => intro h; omega
  | succ k ih =>
    intro _
    by_cases h0 : k = 0
    · subst h0
      simp [rowsAt]
    · have := ih (by omega)
      rw [rowsAt_s r g wr L k (by omega)]
      split
      · simp; omega
      · simp only; omega
theorem rowsO_len (r g : Int) (wr : Bool) (L : Nat → Int) (k : Nat) : (rowsO r g wr L k).length ≤ k := by
  unfold rowsO
  by_cases h0 : k = 0
  · rw [if_pos h0]; simp
  · rw [if_neg h0]
    have := rows_len r g wr L k (by omega)
    simp; omega
/-- A new row; or one more in the last. -/
theorem rows_new (r g : Int) (wr : Bool) (L : Nat → Int) (k : Nat) (h : k = 0 ∨ (wr = true ∧ r < (rowsAt r g wr L k).2.2 + g + L k)) : rowsO r g wr L (k + 1) = rowsO r g wr L k ++ [1] ∧ (rowsAt r g wr L (k + 1)).2.2 = L k := by
  by_cases h0 : k = 0
  · subst h0; exact ⟨rfl, rfl⟩
  · have hc : wr = true ∧ r < (rowsAt r g wr L k).2.2 + g + L k := by
      rcases h with h | h
      · exact absurd h h0
      · exact h
    unfold rowsO
    rw [if_neg (by omega), if_neg h0, rowsAt_s r g wr L k (by omega), if_pos hc]
    exact ⟨rfl, rfl⟩
theorem rows_more (r g : Int) (wr : Bool) (L : Nat → Int) (k : Nat) (h0 : 0 < k) (h : ¬ (wr = true ∧ r < (rowsAt r g wr L k).2.2 + g + L k)) : ∃ f c, rowsO r g wr L k = f ++ [c] ∧ rowsO r g wr L (k + 1) = f ++ [c + 1] ∧ c ≤ k ∧ (rowsAt r g wr L (k + 1)).2.2 = (rowsAt r g wr L k).2.2 + g + L k := by
  have hc := (rows_inv r g wr L k h0).2.1
  unfold rowsO
  rw [if_neg (by omega), if_neg (by omega), rowsAt_s r g wr L k h0, if_neg h]
  exact ⟨_, _, rfl, rfl, by omega, rfl⟩
theorem own_form {W : World} {base n : Nat} {e : TypeId} {s : Nat} {v : Value} {xs : List Value} (h : W.ownsRow base e s v n xs) (hn : 0 < n) : ∃ g cap, v = .slice (some ⟨g, 0, none⟩) n cap ∧ base ≤ g ∧ g < W.heap.size := by
  rcases h.2 with ⟨_, h0⟩ | ⟨g, cap, cur, hv, hb, hh, _⟩
  · omega
  · exact ⟨g, cap, hv, hb, blk_lt hh⟩
theorem set_last (xs : List Int) (c d : Int) : (xs ++ [c]).set xs.length d = xs ++ [d] := by simp

theorem rows_app {V w w1 : World} {o v1 : Value} {xs ys : List Int} {m : Nat} {a0 a1 a2 a3 a4 a5 a6 a8 : Int} {a7 : Bool} (hL : ∀ q, o.ownBlock = some q → q < w.heap.size) (hcl : xs.length = m) (hc2 : ys = xs ++ [1])
    (hO1 : w1.ownsRow V.heap.size 3 1 v1 (xs ++ [0]).length (nums .i64 (xs ++ [0]))) (hB1 : Below V.heap.size V w1) (hG1 : (w.alloc (.cells (itV ⟨⟨a0, a1, a2, a3, a4, a5⟩, a6, a7, a8⟩).toArray 95)).grownBy w1 o.ownBlock) :
    ∃ g1 c1, v1 = .slice (some ⟨g1, 0, none⟩) (m + 1) c1 ∧ w1.cell? ⟨w.heap.size, 5, none⟩ = some (.int .i64 a5) ∧ w1.cell? ⟨w.heap.size, 6, none⟩ = some (.int .i64 a6) ∧ w1.cell? ⟨g1, m, none⟩ = some (.int .i64 0) ∧ w1.frozen? ⟨g1, m, none⟩ = false ∧
      (w1.setCell ⟨g1, m, none⟩ (.int .i64 1)).ownsRow V.heap.size 3 1 (.slice (some ⟨g1, 0, none⟩) (m + 1) c1) (m + 1) (nums .i64 ys) ∧ Below V.heap.size V (w1.setCell ⟨g1, m, none⟩ (.int .i64 1)) := by
  have hlen : (xs ++ [(0 : Int)]).length = m + 1 := by simp [hcl]
  rw [hlen] at hO1
  obtain ⟨g1, c1, rfl, hg1b, hg1l⟩ := own_form hO1 (by omega)
  have hbx := blk_grown (blk_new w (.cells (itV ⟨⟨a0, a1, a2, a3, a4, a5⟩, a6, a7, a8⟩).toArray 95)) hG1 (fun e => by have := hL _ e.symm; omega)
  obtain ⟨z1, z2⟩ := own_at hO1 (m : Int) (by omega) (by omega)
  rw [Int.toNat_natCast] at z1 z2
  have hr0 : rd (xs ++ [0]) (m : Int) = 0 := by
    subst hcl
    simp [rd, List.getD_eq_getElem?_getD]
  rw [hr0] at z1
  obtain ⟨hst, hgr⟩ := own_store hO1 (m : Int) 1
  have hse : (xs ++ [(0 : Int)]).set m 1 = ys := by
    subst hcl
    rw [set_last, hc2]
  rw [Int.toNat_natCast, hse] at hst
  exact ⟨g1, c1, rfl, blk_cell hbx 5, blk_cell hbx 6, z1, z2, hst, hB1.setCell (p := ⟨g1, m, none⟩) hg1b (.int .i64 1)⟩
/-- How long an item is, with its edges. -/
def lenI (l : List It) (k : Nat) : Int := (gI l k).f1 + (gI l k).f0.f5
def RowsPost (o : List Nat) (w : World) (e : Ending) (w' : World) : Prop := ∃ v, e = .returned v ∧ w'.ownsRow w.heap.size 3 1 v o.length (nums .i64 (ci o)) ∧ Below w.heap.size w w'
set_option maxRecDepth 100000 in
set_option maxHeartbeats 4000000 in
theorem Rows_c (room gap : Int) (A : Option Addr) (n c : Nat) (l : List LF) (wr0 : Bool) (w : World) (hC : Kd.C k37 w A n l) (hn : n ≤ 1000) :
    Calls Try.prog 19 #[.int .i64 room, .int .i64 gap, .slice A n c, .bool wr0] w (RowsPost (rowsO (cut room) (max 0 (cut gap)) wr0 (lenI (l.map mkIt)) n) w) := by
  have hln : l.length = n := hC.1
  have LN := Lib.hid hln
  have ITS := Lib.hid (items_c A n c l w hC hn)
  have hT0 : ∀ x, x ∈ l.map mkIt → TameI x := fun x hx => by
    obtain ⟨y, _, rfl⟩ := List.mem_map.1 hx
    exact tame_mk y
  have hml : (l.map mkIt).length = n := by rw [List.length_map]; exact hln
  obtain ⟨its, hits⟩ : ∃ its, l.map mkIt = its := ⟨_, rfl⟩
  rw [hits] at hT0 hml ⊢
  have HI := Lib.hid hits
  have HT0 := Lib.hid hT0
  have HML := Lib.hid hml
  clear hits hT0 hml
  have hbr := cut_bd room
  have hbg : 0 ≤ max 0 (cut gap) ∧ max 0 (cut gap) ≤ 16777216 := by have := cut_bd gap; omega
  clear hC hln
  go_enter Try.func19, Try.ntmps19
  go_wp2_with (go_at_call 22; refine (Cut_c _ _).mono ?_; rintro e w' ⟨rfl, rfl⟩)
  generalize max 0 (cut gap) = g at *
  generalize cut room = r at *
  refine ITS.out.mono ?_
  rintro e w1 ⟨vi, rfl, hR1, hB1⟩
  rw [HI.out] at hR1
  obtain ⟨Ai, cp, rfl, hci, hCi⟩ := Kd.R_reads hR1
  have hT0 := HT0.out
  have hml := HML.out
  rw [hml] at hCi ⊢
  have hL : ∀ k, -33554432 ≤ lenI its k ∧ lenI its k ≤ 33554432 := fun k => by
    unfold lenI
    by_cases hk : k < its.length
    · have h1 := hT0 _ (getD_mem its k hk)
      obtain ⟨_, h5, _, h2, _⟩ := h1
      have h5' : -16777216 ≤ (gI its k).f0.f5 ∧ (gI its k).f0.f5 ≤ 16777216 := h5
      have h2' : -16777216 ≤ (gI its k).f1 ∧ (gI its k).f1 ≤ 16777216 := h2
      omega
    · have e : gI its k = z95 := by simp [gI, List.getD_eq_getElem?_getD, List.getElem?_eq_none (Nat.le_of_not_lt hk)]
      rw [e]
      decide
  have SB := Lib.hid (rows_sbd r g wr0 (lenI its) hbg.1 hbg.2 hL)
  have HL := Lib.hid hL
  have T0 := Lib.hid hT0
  have CI := Lib.hid hCi
  have ML := Lib.hid hml
  have B1 := Lib.hid hB1
  obtain ⟨V, rfl⟩ : ∃ V : World, V = w1 := ⟨_, rfl⟩
  clear hR1 hB1 hCi hT0 hml hL hci ITS HI HT0 HML
  go_wp2_with fail
  go_loopw [9, 10, 22] (fun o s i wr => ∃ k : Nat, k ≤ n ∧ i = .int .i64 k ∧ s = .int .i64 (rowsAt r g wr0 (lenI its) k).2.2 ∧ Hid (wr.ownsRow V.heap.size 3 1 o (rowsO r g wr0 (lenI its) k).length (nums .i64 (ci (rowsO r g wr0 (lenI its) k)))) ∧ Hid (Below V.heap.size V wr)) (fun _ _ i _ => n - (RowKit.intOf i).toNat)
  case atStart => exact ⟨0, Nat.zero_le _, rfl, rfl, own_nil _ _ _ _, Below.refl _ _⟩
  case round =>
    obtain ⟨k, hk, rfl, rfl, hO, hB⟩ := hrel
    by_cases hlt : k < n
    · have hkl : k < its.length := by rw [ML.out]; exact hlt
      obtain ⟨ad, ea, x0, x1, x2, x3, x4, x5, x6, x7, x8⟩ := at_T95 (Kd.C_below CI.out hB.out) (k : Int) (by omega) (by omega)
      subst ea
      rw [Int.toNat_natCast] at x0 x1 x2 x3 x4 x5 x6 x7 x8
      have hrd : rd_T95 its (k : Int) = gI its k := by simp [rd_T95]
      have htx := T0.out _ (rd_memI its k hkl)
      rw [hrd] at htx x0 x1 x2 x3 x4 x5 x6 x7 x8
      have hLk : lenI its k = (gI its k).f1 + (gI its k).f0.f5 := rfl
      have hs := SB.out k
      have hbl := HL.out k
      generalize gI its k = x at *
      obtain ⟨⟨a0, a1, a2, a3, a4, a5⟩, a6, a7, a8⟩ := x
      obtain ⟨_, h5, _, h6, _⟩ := htx
      simp only at x0 x1 x2 x3 x4 x5 x6 x7 x8 hLk h5 h6
      have hal := below_alloc (Below.refl wr.heap.size wr) (.cells (itV ⟨⟨a0, a1, a2, a3, a4, a5⟩, a6, a7, a8⟩).toArray 95)
      have BA := Lib.hid (below_then hB.out hB.out.size hal)
      have OA := Lib.hid (pw_own_below hO.out hal)
      have OL := Lib.hid (fun q hq => own_lt hO.out q hq)
      have BX := Lib.hid (blk_new wr (.cells (itV ⟨⟨a0, a1, a2, a3, a4, a5⟩, a6, a7, a8⟩).toArray 95))
      by_cases hk0 : k = 0
      · have q0 : ((k : Int) == 0) = true := by subst hk0; rfl
        have HC : k = 0 ∨ (wr0 = true ∧ r < (rowsAt r g wr0 (lenI its) k).2.2 + g + lenI its k) := .inl hk0
        obtain ⟨ho2, hs2⟩ := rows_new r g wr0 (lenI its) k HC
        rw [hLk] at hs2
        have hro := rowsO_len r g wr0 (lenI its) k
        obtain ⟨m, hm⟩ : ∃ m, (rowsO r g wr0 (lenI its) k).length = m := ⟨_, rfl⟩
        rw [hm] at OA hro
        have hcl : (ci (rowsO r g wr0 (lenI its) k)).length = m := by rw [ci_len]; exact hm
        have hc2 : ci (rowsO r g wr0 (lenI its) (k + 1)) = ci (rowsO r g wr0 (lenI its) k) ++ [1] := by rw [ho2, ci_app]; rfl
        have hl2 : (rowsO r g wr0 (lenI its) (k + 1)).length = m + 1 := by rw [ho2, List.length_append, hm]; rfl
        generalize ci (rowsO r g wr0 (lenI its) k) = xs at *
        generalize (rowsAt r g wr0 (lenI its) k).2.2 = s0 at *
        have CL := Lib.hid hcl
        have C2 := Lib.hid hc2
        have L2 := Lib.hid hl2
        have S2 := Lib.hid hs2
        clear hcl hc2 hl2 hs2 ho2 hm hrd hal hLk hO hB HC hk0
        go_wp2_with (at_builtin; go_loud (refine print_append_num (w0 := V) V.heap.size rfl (.tmp 47) (.tmp 48) 33 3 .i64 8 rfl Try.underlying33 info (by decide) _ xs 0 rfl (by show Value.slice (some ⟨wr.heap.size + 1, 0, none⟩) 1 1 = _; rw [World.size_alloc]) (by rw [CL.out]; exact OA.out) BA.out BA.out.size (by rw [CL.out]; omega) ?_; intro v1 w1 hO1 hB1 hG1 hat1; obtain ⟨g1, c1, rfl, y5, y6, z1, z2, hst, hbs⟩ := rows_app OL.out CL.out C2.out hO1 hB1 hG1; have OS := Lib.hid hst; have BS := Lib.hid hbs; clear hO1 hB1 hG1 hat1 hst hbs))
        exact ⟨⟨k + 1, by omega, by go_num, by rw [S2.out], by rw [L2.out]; exact OS.out, BS.out⟩, by simp [RowKit.intOf]; omega⟩
      · have q0 : ((k : Int) == 0) = false := by simp; omega
        cases wr0 with
        | false =>
          have HC : ¬ (false = true ∧ r < (rowsAt r g false (lenI its) k).2.2 + g + lenI its k) := fun h => absurd h.1 (by decide)
          obtain ⟨f, cc, ho1, ho2, hck, hs2⟩ := rows_more r g false (lenI its) k (by omega) HC
          rw [hLk] at hs2
          have hro := rowsO_len r g false (lenI its) k
          obtain ⟨m, hm⟩ : ∃ m, f.length = m := ⟨_, rfl⟩
          have hl1 : (rowsO r g false (lenI its) k).length = m + 1 := by rw [ho1, List.length_append, hm]; rfl
          have hl2 : (rowsO r g false (lenI its) (k + 1)).length = m + 1 := by rw [ho2, List.length_append, hm]; rfl
          have hc1 : ci (rowsO r g false (lenI its) k) = ci f ++ [(cc : Int)] := by rw [ho1, ci_app]; rfl
          have hc2 : ci (rowsO r g false (lenI its) (k + 1)) = ci f ++ [(cc : Int) + 1] := by rw [ho2, ci_app]; rfl
          have hcl : (ci f).length = m := by rw [ci_len]; exact hm
          have hoa := OA.out
          have hob := hO.out
          rw [hl1, hc1] at hoa hob
          obtain ⟨g1, c1, rfl, hg1b, hg1l⟩ := own_form hoa (by omega)
          rw [hl1] at hro
          generalize ci f = xs at *
          generalize (rowsAt r g false (lenI its) k).2.2 = s0 at *
          obtain ⟨z1', z2'⟩ := own_at hoa (m : Int) (by omega) (by omega)
          rw [Int.toNat_natCast] at z1' z2'
          have hr0 : rd (xs ++ [(cc : Int)]) (m : Int) = cc := by simp [rd, List.getD_eq_getElem?_getD, ← hcl]
          rw [hr0] at z1'
          have z1 : (wr.alloc (.cells #[.int .i64 a0, .int .i64 a1, .int .i64 a2, .int .i64 a3, .int .i64 a4, .int .i64 a5, .int .i64 a6, .bool a7, .int .i64 a8] 95)).cell? ⟨g1, m, none⟩ = some (.int .i64 (cc : Int)) := z1'
          have z2 : (wr.alloc (.cells #[.int .i64 a0, .int .i64 a1, .int .i64 a2, .int .i64 a3, .int .i64 a4, .int .i64 a5, .int .i64 a6, .bool a7, .int .i64 a8] 95)).frozen? ⟨g1, m, none⟩ = false := z2'
          clear z1' z2'
          obtain ⟨hst, hgr⟩ := own_store hoa (m : Int) ((cc : Int) + 1)
          rw [Int.toNat_natCast, show (xs ++ [(cc : Int)]).set m ((cc : Int) + 1) = xs ++ [(cc : Int) + 1] from by rw [← hcl, set_last], ← hc2] at hst
          have OS := Lib.hid hst
          have BS := Lib.hid (BA.out.setCell (p := ⟨g1, m, none⟩) hg1b (.int .i64 ((cc : Int) + 1)))
          have L2 := Lib.hid hl2
          have S2 := Lib.hid hs2
          clear hcl hc1 hc2 hl1 hl2 hs2 ho1 ho2 hm hrd hal hLk hO hB hoa hob hst hgr hr0 OA OL HC hk0
          go_wp2_with fail
          exact ⟨⟨k + 1, by omega, by go_num, by rw [S2.out]; first | rfl | (congr 1; omega), by rw [L2.out]; exact OS.out, BS.out⟩, by simp [RowKit.intOf]; omega⟩
        | true =>
          by_cases hc : r < (rowsAt r g true (lenI its) k).2.2 + g + a6 + a5
          · have HC : k = 0 ∨ (true = true ∧ r < (rowsAt r g true (lenI its) k).2.2 + g + lenI its k) := .inr ⟨rfl, by rw [hLk]; omega⟩
            have q1 := decide_eq_true hc
            clear hc
            obtain ⟨ho2, hs2⟩ := rows_new r g true (lenI its) k HC
            rw [hLk] at hs2
            have hro := rowsO_len r g true (lenI its) k
            obtain ⟨m, hm⟩ : ∃ m, (rowsO r g true (lenI its) k).length = m := ⟨_, rfl⟩
            rw [hm] at OA hro
            have hcl : (ci (rowsO r g true (lenI its) k)).length = m := by rw [ci_len]; exact hm
            have hc2 : ci (rowsO r g true (lenI its) (k + 1)) = ci (rowsO r g true (lenI its) k) ++ [1] := by rw [ho2, ci_app]; rfl
            have hl2 : (rowsO r g true (lenI its) (k + 1)).length = m + 1 := by rw [ho2, List.length_append, hm]; rfl
            generalize ci (rowsO r g true (lenI its) k) = xs at *
            generalize (rowsAt r g true (lenI its) k).2.2 = s0 at *
            have CL := Lib.hid hcl
            have C2 := Lib.hid hc2
            have L2 := Lib.hid hl2
            have S2 := Lib.hid hs2
            clear hcl hc2 hl2 hs2 ho2 hm hrd hal hLk hO hB HC hk0
            go_wp2_with (at_builtin; go_loud (refine print_append_num (w0 := V) V.heap.size rfl (.tmp 47) (.tmp 48) 33 3 .i64 8 rfl Try.underlying33 info (by decide) _ xs 0 rfl (by show Value.slice (some ⟨wr.heap.size + 1, 0, none⟩) 1 1 = _; rw [World.size_alloc]) (by rw [CL.out]; exact OA.out) BA.out BA.out.size (by rw [CL.out]; omega) ?_; intro v1 w1 hO1 hB1 hG1 hat1; obtain ⟨g1, c1, rfl, y5, y6, z1, z2, hst, hbs⟩ := rows_app OL.out CL.out C2.out hO1 hB1 hG1; have OS := Lib.hid hst; have BS := Lib.hid hbs; clear hO1 hB1 hG1 hat1 hst hbs))
            exact ⟨⟨k + 1, by omega, by go_num, by rw [S2.out], by rw [L2.out]; exact OS.out, BS.out⟩, by simp [RowKit.intOf]; omega⟩
          · have HC : ¬ (true = true ∧ r < (rowsAt r g true (lenI its) k).2.2 + g + lenI its k) := fun h => by rw [hLk] at h; omega
            have q1 := decide_eq_false hc
            clear hc
            obtain ⟨f, cc, ho1, ho2, hck, hs2⟩ := rows_more r g true (lenI its) k (by omega) HC
            rw [hLk] at hs2
            have hro := rowsO_len r g true (lenI its) k
            obtain ⟨m, hm⟩ : ∃ m, f.length = m := ⟨_, rfl⟩
            have hl1 : (rowsO r g true (lenI its) k).length = m + 1 := by rw [ho1, List.length_append, hm]; rfl
            have hl2 : (rowsO r g true (lenI its) (k + 1)).length = m + 1 := by rw [ho2, List.length_append, hm]; rfl
            have hc1 : ci (rowsO r g true (lenI its) k) = ci f ++ [(cc : Int)] := by rw [ho1, ci_app]; rfl
            have hc2 : ci (rowsO r g true (lenI its) (k + 1)) = ci f ++ [(cc : Int) + 1] := by rw [ho2, ci_app]; rfl
            have hcl : (ci f).length = m := by rw [ci_len]; exact hm
            have hoa := OA.out
            have hob := hO.out
            rw [hl1, hc1] at hoa hob
            obtain ⟨g1, c1, rfl, hg1b, hg1l⟩ := own_form hoa (by omega)
            rw [hl1] at hro
            generalize ci f = xs at *
            generalize (rowsAt r g true (lenI its) k).2.2 = s0 at *
            obtain ⟨z1', z2'⟩ := own_at hoa (m : Int) (by omega) (by omega)
            rw [Int.toNat_natCast] at z1' z2'
            have hr0 : rd (xs ++ [(cc : Int)]) (m : Int) = cc := by simp [rd, List.getD_eq_getElem?_getD, ← hcl]
            rw [hr0] at z1'
            have z1 : (wr.alloc (.cells #[.int .i64 a0, .int .i64 a1, .int .i64 a2, .int .i64 a3, .int .i64 a4, .int .i64 a5, .int .i64 a6, .bool a7, .int .i64 a8] 95)).cell? ⟨g1, m, none⟩ = some (.int .i64 (cc : Int)) := z1'
            have z2 : (wr.alloc (.cells #[.int .i64 a0, .int .i64 a1, .int .i64 a2, .int .i64 a3, .int .i64 a4, .int .i64 a5, .int .i64 a6, .bool a7, .int .i64 a8] 95)).frozen? ⟨g1, m, none⟩ = false := z2'
            clear z1' z2'
            obtain ⟨hst, hgr⟩ := own_store hoa (m : Int) ((cc : Int) + 1)
            rw [Int.toNat_natCast, show (xs ++ [(cc : Int)]).set m ((cc : Int) + 1) = xs ++ [(cc : Int) + 1] from by rw [← hcl, set_last], ← hc2] at hst
            have OS := Lib.hid hst
            have BS := Lib.hid (BA.out.setCell (p := ⟨g1, m, none⟩) hg1b (.int .i64 ((cc : Int) + 1)))
            have L2 := Lib.hid hl2
            have S2 := Lib.hid hs2
            clear hcl hc1 hc2 hl1 hl2 hs2 ho1 ho2 hm hrd hal hLk hO hB hoa hob hst hgr hr0 OA OL HC hk0
            go_wp2_with fail
            exact ⟨⟨k + 1, by omega, by go_num, by rw [S2.out]; first | rfl | (congr 1; omega), by rw [L2.out]; exact OS.out, BS.out⟩, by simp [RowKit.intOf]; omega⟩
    · obtain rfl : k = n := by omega
      have B9 := Lib.hid (B1.out.trans (hB.out.mono B1.out.size))
      have O9 := hO.out
      have O10 : Hid (wr.ownsRow w.heap.size 3 1 u9 (rowsO r g wr0 (lenI its) k).length (nums .i64 (ci (rowsO r g wr0 (lenI its) k)))) := Lib.hid ⟨O9.1, O9.2.imp id (fun ⟨g, cap, cur, hv, hb, q⟩ => ⟨g, cap, cur, hv, Nat.le_trans B1.out.size hb, q⟩)⟩
      have POST : Hid (RowsPost (rowsO r g wr0 (lenI its) k) w (.returned u9) wr) := Lib.hid ⟨_, rfl, O10.out, B9.out⟩
      clear hO hB O9
      go_wp2_with fail
      go_ret
      exact POST.out
end Go.Proofs.Ytfkgpkkjiolfpaa.Flx
