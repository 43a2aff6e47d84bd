/- Package sizes: Lines, over whatever groups there are. -/
import Derived.Test.YtmkgapdadandmaaSizP
import Derived.Test.YtmkgapdadandmaaFix
import Derived.Test.YtmkgapdadandmaaWWords
import Derived.Test.YtmkgapdadandmaaWLast
import Derived.Test.YtmkgapdadandmaaWMore
namespace Go.Proofs.Ytmkgapdadandmaa.Siz
open Go.RowKit Go.Lib Go.Proofs.Ytmkgapdadandmaa.Pl Go.Proofs.Ytmkgapdadandmaa.Fx Go.Proofs.YtmkgapdadandmaaW.PrintWords Go.Proofs.YtmkgapdadandmaaW.PrintLast Go.Proofs.YtmkgapdadandmaaW.PrintMore
set_option linter.unusedVariables false
set_option linter.unusedSimpArgs false
attribute [local go_sem] mx2 mn2 mx_two mn_two mx_three mn_three
/-! #### struct type 49 -/
structure S49 where
  f0 : Int
  f1 : Int
  f2 : Bool
def z49 : S49 := ⟨(0 : Int), (0 : Int), false⟩
def k49 : Kd S49 := Kd.iso (Kd.pair (Kd.int .i64) (Kd.pair (Kd.int .i64) Kd.bool)) (fun x : S49 => (x.f0, x.f1, x.f2))
theorem k49_open {w : World} {x : S49} {cs : List Value} (h : k49.K w x cs) : cs = [.int .i64 x.f0, .int .i64 x.f1, .bool x.f2] := by
  obtain ⟨_, _, rfl, rfl, ⟨_, _, rfl, rfl, rfl⟩⟩ := h
  exact rfl
theorem k49_openM {w : World} {base : Nat} {ok : Nat → Prop} {x : S49} {cs : List Value} (h : k49.M w base ok x cs) : cs = [.int .i64 x.f0, .int .i64 x.f1, .bool x.f2] := by
  obtain ⟨_, _, rfl, rfl, ⟨_, _, rfl, rfl, rfl⟩⟩ := h
  exact rfl
theorem k49_mk (w : World) (x : S49)  : k49.K w x [.int .i64 x.f0, .int .i64 x.f1, .bool x.f2] := ⟨[.int .i64 x.f0], [.int .i64 x.f1, .bool x.f2], rfl, rfl, ⟨[.int .i64 x.f1], [.bool x.f2], rfl, rfl, rfl⟩⟩
theorem k49_mkM (w : World) (base : Nat) (ok : Nat → Prop) (x : S49)  : k49.M w base ok x [.int .i64 x.f0, .int .i64 x.f1, .bool x.f2] := ⟨[.int .i64 x.f0], [.int .i64 x.f1, .bool x.f2], rfl, rfl, ⟨[.int .i64 x.f1], [.bool x.f2], rfl, rfl, rfl⟩⟩
def rd_T49 (xs : List S49) (i : Int) : S49 := xs.getD i.toNat z49
theorem at_T49 {w : World} {A : Option Addr} {n : Nat} {xs : List S49} (h : Kd.C k49 w A n xs) (i : Int) (h0 : 0 ≤ i) (h1 : i < n) : ∃ ad , A = some ad ∧ w.cell? (ad.add (i.toNat * 3)) = some (.int .i64 (rd_T49 xs i).f0) ∧ w.cell? ⟨(ad.add (i.toNat * 3)).block, (ad.add (i.toNat * 3)).off + 1, none⟩ = some (.int .i64 (rd_T49 xs i).f1) ∧ w.cell? ⟨(ad.add (i.toNat * 3)).block, (ad.add (i.toNat * 3)).off + 2, none⟩ = some (.bool (rd_T49 xs i).f2) := by
  obtain ⟨ad, c, e, _, hK, hc0⟩ := Kd.C_get h z49 i h0 h1
  have hc : ∀ j u, c[j]? = some u → w.cell? (ad.add (i.toNat * 3 + j)) = some u := hc0
  obtain rfl := k49_open hK
  exact ⟨ad, e, hc 0 _ rfl, by rw [← add_field _ _ 1 (by omega)]; exact hc 1 _ rfl, by rw [← add_field _ _ 2 (by omega)]; exact hc 2 _ rfl⟩

def toG (s : S49) : Gp := ⟨s.f0, s.f1, s.f2⟩
def stAt (gs : List S49) (k : Nat) : Sz := goS ⟨0, 0, 0, 0⟩ ((gs.take k).map toG)
theorem st_zero (gs : List S49) : stAt gs 0 = ⟨0, 0, 0, 0⟩ := by simp [stAt, goS]
theorem st_succ (gs : List S49) (k : Nat) (h : k < gs.length) : stAt gs (k + 1) = stepS (stAt gs k) (toG (gs.getD k z49)) := by
  unfold stAt goS
  rw [List.take_succ_eq_append_getElem h, List.map_append, List.foldl_append]
  simp [List.getD_eq_getElem?_getD, h]
theorem st_ok (gs : List S49) (h : ∀ g, g ∈ gs → MildG (toG g)) (k : Nat) : OkS (stAt gs k) := go_ok _ _ zero_ok (fun g hg => by
  obtain ⟨s, hs, rfl⟩ := List.mem_map.1 hg
  exact h s (List.mem_of_mem_take hs))
theorem st_bd (gs : List S49) (h : ∀ g, g ∈ gs → MildG (toG g)) (k : Nat) : k ≤ gs.length → (stAt gs k).sum ≤ 10000000000000 * (k : Int) ∧ (stAt gs k).most ≤ 10000000000000 * (k : Int) ∧ (stAt gs k).least ≤ 10000000000000 * (k : Int) := by
  induction k with
  | zero => intro _; rw [st_zero]; simp
  | succ k ih =>
    intro hk
    have hb := ih (by omega)
    rw [st_succ gs k (by omega)]
    have hg := h (gs.getD k z49) (by rw [List.getD_eq_getElem?_getD, List.getElem?_eq_getElem (by omega)]; exact List.getElem_mem _)
    have := step_bd (10000000000000 * (k : Int)) (st_ok gs h k) hb hg
    omega
def GroupsPost (Q : List S49 → Prop) (w : World) (e : Ending) (w' : World) : Prop := ∃ v gs, e = .returned v ∧ Kd.R k49 49 w' w.heap.size (fun _ => True) v gs ∧ Below w.heap.size w w' ∧ gs.length ≤ 100000 ∧ (∀ g, g ∈ gs → MildG (toG g)) ∧ Q gs
def LinesPost (Q : List S49 → Prop) (w : World) (e : Ending) (w' : World) : Prop := ∃ gs, Q gs ∧ (∀ g, g ∈ gs → MildG (toG g)) ∧ e = .returned (.tuple #[.int .i64 (cut (stAt gs gs.length).least), .int .i64 (cut (max (stAt gs gs.length).most (stAt gs gs.length).fin))]) ∧ Below w.heap.size w w'
set_option maxRecDepth 100000 in
set_option maxHeartbeats 2000000 in
theorem Lines_c (A : Option Addr) (n c : Nat) (w : World) (Q : List S49 → Prop) (hG : Calls Try.prog 16 #[.slice A n c] w (GroupsPost Q w)) :
    Calls Try.prog 7 #[.slice A n c] w (LinesPost Q w) := by
  have HG := Lib.hid hG
  clear hG
  go_enter Try.func7, Try.ntmps7
  go_wp2_with fail
  refine HG.out.mono ?_
  rintro e w1 ⟨v, gs, rfl, hR, hB, hgl, hM, hQ⟩
  obtain ⟨Ag, cg, rfl, -, hC⟩ := Kd.R_reads hR
  have C1 := Lib.hid hC
  have B1 := Lib.hid hB
  have HM := Lib.hid hM
  have HQ := Lib.hid hQ
  obtain ⟨N, hN⟩ : ∃ N, gs.length = N := ⟨_, rfl⟩
  rw [hN] at C1 hgl ⊢
  have HN := Lib.hid hN
  clear hR hC hB hM hQ HG hN
  go_wp2_with fail
  go_loopw [4, 5, 6, 7, 13] (fun lv mv sv ev iv wr => ∃ k : Nat, k ≤ N ∧ iv = .int .i64 k ∧ lv = .int .i64 (stAt gs k).least ∧ mv = .int .i64 (stAt gs k).most ∧ sv = .int .i64 (stAt gs k).sum ∧ ev = .int .i64 (stAt gs k).fin ∧ Hid (Below w.heap.size w wr) ∧ Hid (Below w1.heap.size w1 wr)) (fun _ _ _ _ iv _ => N - (RowKit.intOf iv).toNat)
  case atStart => exact ⟨0, Nat.zero_le _, rfl, by rw [st_zero], by rw [st_zero], by rw [st_zero], by rw [st_zero], B1, Below.refl _ _⟩
  case round =>
    obtain ⟨k, hk, rfl, h1, h2, h3, h4, hBw, hB2⟩ := hrel
    have hok := st_ok gs HM.out k
    have hbd := st_bd gs HM.out k (by have := HN.out; omega)
    by_cases hlt : k < N
    · obtain ⟨ad, ea, x0, x1, x2⟩ := at_T49 (Kd.C_below C1.out hB2.out) (k : Int) (by omega) (by omega)
      subst ea
      have hrd : rd_T49 gs (k : Int) = gs.getD k z49 := by simp [rd_T49]
      rw [Int.toNat_natCast, hrd] at x0 x1 x2
      have hss := st_succ gs k (by have := HN.out; omega)
      have hg := HM.out (gs.getD k z49) (by rw [List.getD_eq_getElem?_getD, List.getElem?_eq_getElem (by have := HN.out; omega)]; exact List.getElem_mem _)
      generalize gs.getD k z49 = x at *
      obtain ⟨f0, f1, f2⟩ := x
      unfold MildG toG at hg
      unfold OkS at hok
      unfold toG stepS at hss
      simp only at x0 x1 x2 hg hss
      generalize (stAt gs k) = s at *
      obtain ⟨sl, sm, sa, sf⟩ := s
      simp only at h1 h2 h3 h4 hok hbd hss
      subst h1 h2 h3 h4
      have SS := Lib.hid hss
      have BA : Hid (∀ o, Below w.heap.size w (wr.alloc o)) := Lib.hid fun o => below_alloc hBw.out o
      have BB : Hid (∀ o, Below w1.heap.size w1 (wr.alloc o)) := Lib.hid fun o => below_alloc hB2.out o
      clear hss hBw hB2 hrd
      cases f2 with
      | true =>
        rw [if_pos rfl] at SS
        go_wp2_with fail
        go_roundw
        case rel => exact ⟨k + 1, by omega, by go_num, by rw [SS.out], by rw [SS.out], by rw [SS.out], by rw [SS.out], BA.out _, BB.out _⟩
        case measure => simp [RowKit.intOf]; omega
      | false =>
        rw [if_neg (by decide)] at SS
        go_wp2_with fail
        go_roundw
        case rel => exact ⟨k + 1, by omega, by go_num, by rw [SS.out], by rw [SS.out], by rw [SS.out], by rw [SS.out], BA.out _, BB.out _⟩
        case measure => simp [RowKit.intOf]; omega
    · obtain rfl : k = N := by omega
      subst h1 h2 h3 h4
      go_wp2_with (go_at_call 17; refine (Cut_c _ _).mono ?_; rintro e w' ⟨rfl, rfl⟩)
      go_ret2
      exact ⟨gs, HQ.out, HM.out, by rw [HN.out]; rfl, hBw.out⟩
end Go.Proofs.Ytmkgapdadandmaa.Siz
