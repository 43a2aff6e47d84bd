/- Parts of items: how they lie in memory; how wide a group of them is. -/
import Derived.Test.YtmkgapdadandmaaTame
namespace Go.Proofs.Ytmkgapdadandmaa.Lin
open Go.RowKit Go.Lib Go.Proofs.Ytmkgapdadandmaa.Pl Go.Proofs.Ytmkgapdadandmaa.Fx Go.Proofs.YtmkgapdadandmaaW.PrintWords Go.Proofs.YtmkgapdadandmaaW.PrintLast Go.Proofs.YtmkgapdadandmaaW.PrintMore
set_option linter.unusedVariables false
set_option linter.unusedSimpArgs false
attribute [local go_sem] mx2 mn2 mx_two mn_two mx_three mn_three

/-- A part: of which item, its text, how wide, the item's last? -/
structure Pt where
  at_ : Nat
  text : ByteArray
  w : Int
  last : Bool
def zPt : Pt := ⟨0, ⟨#[]⟩, 0, false⟩
/-- Its cells; the items lie at ad. -/
def ptV (ad : Addr) (p : Pt) : List Value := [.pointer (some (ad.add (p.at_ * 11))), .int .i64 (p.at_ : Int), .string p.text, .int .i64 p.w, .bool p.last]
def kPt (ad : Addr) : Kd Pt where
  sz := 5
  E := []
  K := fun _ x cs => cs = ptV ad x
  M := fun _ _ _ x cs => cs = ptV ad x
  K_len := fun h => by rw [h]; rfl
  K_one := fun h u hu => by
    rw [h] at hu
    simp only [ptV, List.mem_cons, List.mem_nil_iff, or_false] at hu
    rcases hu with rfl | rfl | rfl | rfl | rfl <;> rfl
  K_below := fun _ h => h
  K_of_M := fun h => h
  M_mono := fun _ h => h
  M_bound := fun h => h
  M_move := fun _ h => h
  M_lower := fun _ h => h
theorem partAt {w : World} {ad : Addr} {A : Option Addr} {n : Nat} {ps : List Pt} (h : Kd.C (kPt ad) w A n ps) (i : Nat) (hi : i < n) :
    ∃ g : Addr, A = some g ∧ w.cell? (g.add (i * 5)) = some (.pointer (some (ad.add ((ps.getD i zPt).at_ * 11)))) ∧ w.cell? ⟨(g.add (i * 5)).block, (g.add (i * 5)).off + 1, none⟩ = some (.int .i64 ((ps.getD i zPt).at_ : Int)) ∧ w.cell? ⟨(g.add (i * 5)).block, (g.add (i * 5)).off + 2, none⟩ = some (.string (ps.getD i zPt).text) ∧
      w.cell? ⟨(g.add (i * 5)).block, (g.add (i * 5)).off + 3, none⟩ = some (.int .i64 (ps.getD i zPt).w) ∧ w.cell? ⟨(g.add (i * 5)).block, (g.add (i * 5)).off + 4, none⟩ = some (.bool (ps.getD i zPt).last) := by
  obtain ⟨g, c, e, _, hK, hc0⟩ := Kd.C_get h zPt (i : Int) (by omega) (by omega)
  rw [Int.toNat_natCast] at hK hc0
  have hK2 : c = ptV ad (ps.getD i zPt) := hK
  subst hK2
  have hc : ∀ j u, (ptV ad (ps.getD i zPt))[j]? = some u → w.cell? (g.add (i * 5 + j)) = some u := hc0
  exact ⟨g, e, hc 0 _ rfl, by rw [← add_field _ _ 1 (by omega)]; exact hc 1 _ rfl, by rw [← add_field _ _ 2 (by omega)]; exact hc 2 _ rfl, by rw [← add_field _ _ 3 (by omega)]; exact hc 3 _ rfl, by rw [← add_field _ _ 4 (by omega)]; exact hc 4 _ rfl⟩
/-- How wide parts are together. -/
def wAll (ps : List Pt) : Int := (ps.map fun p => p.w).sum
theorem w_succ (ps : List Pt) (k : Nat) (h : k < ps.length) : wAll (ps.take (k + 1)) = wAll (ps.take k) + (ps.getD k zPt).w := by
  unfold wAll
  rw [List.take_succ_eq_append_getElem h, List.map_append, List.sum_append]
  simp [List.getD_eq_getElem?_getD, h]
def MildP (p : Pt) : Prop := 0 ≤ p.w ∧ p.w ≤ 16777216
theorem w_bd (ps : List Pt) (h : ∀ p, p ∈ ps → MildP p) (k : Nat) : k ≤ ps.length → 0 ≤ wAll (ps.take k) ∧ wAll (ps.take k) ≤ 16777216 * (k : Int) := by
  induction k with
  | zero => intro _; simp [wAll]
  | succ k ih =>
    intro hk
    have h1 := ih (by omega)
    have h2 := h (ps.getD k zPt) (by rw [List.getD_eq_getElem?_getD, List.getElem?_eq_getElem (by omega)]; exact List.getElem_mem _)
    unfold MildP at h2
    rw [w_succ ps k (by omega)]
    omega
set_option maxRecDepth 100000 in
set_option maxHeartbeats 1000000 in
theorem width_c (ad : Addr) (A : Option Addr) (n c : Nat) (ps : List Pt) (w : World) (hC : Kd.C (kPt ad) w A n ps) (hn : n ≤ 100000) (hm : ∀ p, p ∈ ps → MildP p) :
    Calls Try.prog 28 #[.slice A n c] w fun e w' => e = .returned (.int .i64 (wAll ps)) ∧ Below w.heap.size w w' := by
  have hln : ps.length = n := hC.1
  have HC := Lib.hid hC
  have HM := Lib.hid hm
  have LN := Lib.hid hln
  clear hC hm hln
  go_enter Try.func28, Try.ntmps28
  go_wp2_with fail
  go_loopw [2, 7] (fun sv iv wr => ∃ k : Nat, k ≤ n ∧ iv = .int .i64 k ∧ sv = .int .i64 (wAll (ps.take k)) ∧ Hid (Below w.heap.size w wr)) (fun _ iv _ => n - (RowKit.intOf iv).toNat)
  case atStart => exact ⟨0, Nat.zero_le _, rfl, by simp [wAll], Below.refl _ _⟩
  case round =>
    obtain ⟨k, hk, rfl, hs, hB⟩ := hrel
    by_cases hlt : k < n
    · obtain ⟨g, eg, x0, x1, x2, x3, x4⟩ := partAt (Kd.C_below HC.out hB.out) k hlt
      subst eg
      have hws := w_succ ps k (by rw [LN.out]; exact hlt)
      have hb1 := w_bd ps HM.out k (by rw [LN.out]; omega)
      have hb2 := HM.out (ps.getD k zPt) (by rw [List.getD_eq_getElem?_getD, List.getElem?_eq_getElem (by rw [LN.out]; exact hlt)]; exact List.getElem_mem _)
      unfold MildP at hb2
      generalize ps.getD k zPt = x at *
      obtain ⟨y0, y1, y2, y3⟩ := x
      simp only at x0 x1 x2 x3 x4 hws hb2
      generalize wAll (ps.take k) = s at *
      subst hs
      have WS := Lib.hid hws
      have BA : Hid (∀ o, Below w.heap.size w (wr.alloc o)) := Lib.hid fun o => below_alloc hB.out o
      clear hws hB
      go_wp2_with fail
      go_roundw
      case rel => exact ⟨k + 1, by omega, by go_num, by rw [WS.out], BA.out _⟩
      case measure => simp [RowKit.intOf]; omega
    · obtain rfl : k = n := by omega
      have ht : ps.take k = ps := List.take_of_length_le (by rw [LN.out]; exact Nat.le_refl _)
      rw [ht] at hs
      subst hs
      go_wp2_with fail
      go_ret
      exact ⟨rfl, hB.out⟩
end Go.Proofs.Ytmkgapdadandmaa.Lin
