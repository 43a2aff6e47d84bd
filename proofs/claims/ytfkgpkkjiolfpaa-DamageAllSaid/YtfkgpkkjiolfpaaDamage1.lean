/- Package damage: is a place within one of some rectangles; rectangles, cut. -/
import Derived.Test.YtfkgpkkjiolfpaaRasLaw0
import Derived.Deep.RegionHeld3
namespace Go.Proofs.Ytfkgpkkjiolfpaa.Ras
open Go.RowKit Go.Lib Go.Proofs.Ytfkgpkkjiolfpaa.Blk Go.Proofs.Ytfkgpkkjiolfpaa.Rgn Go.Proofs.Ytfkgpkkjiolfpaa.Pl Go.Proofs.Ytfkgpkkjiolfpaa.Fx Go.Proofs.Ytfkgpkkjiolfpaa.Fnt Go.Proofs.YtfkgpkkjiolfpaaW.PrintWords Go.Proofs.YtfkgpkkjiolfpaaW.PrintLast Go.Proofs.YtfkgpkkjiolfpaaW.PrintMore
set_option linter.unusedVariables false
set_option linter.unusedSimpArgs false
attribute [local go_sem] mx2 mn2 mx_two mn_two mx_three mn_three

/-- Is a place within one of some? -/
def withinL (l : List LR) (x y : Int) : Bool := l.any fun r => withinB r x y
def cutR (r : LR) : LR := ⟨cut r.f0, cut r.f1, cut r.f2, cut r.f3⟩
theorem cutR_cut (r : LR) : CutR (cutR r) := ⟨cut_bd _, cut_bd _, cut_bd _, cut_bd _⟩
set_option maxHeartbeats 2000000 in
theorem dwin_c (r : LR) (x y : Int) (px py : Addr) (w : World) (hpx : w.cell? px = some (.int .i64 x)) (hpy : w.cell? py = some (.int .i64 y)) (hx : -1000000000000 ≤ x ∧ x ≤ 1000000000000) (hy : -1000000000000 ≤ y ∧ y ≤ 1000000000000) (hr : CutR r) :
    Calls Try.prog 89 #[.agg (lrV r).toArray, .pointer (some px), .pointer (some py)] w fun e w' => e = .returned (.bool (withinB r x y)) ∧ Below w.heap.size w w' := by
  have lx := World.block_lt_of_cell? w _ hpx
  have ly := World.block_lt_of_cell? w _ hpy
  obtain ⟨a, b, c, d⟩ := r
  obtain ⟨h0, h1, h2, h3⟩ := hr
  simp only at h0 h1 h2 h3
  have hb : withinB ⟨a, b, c, d⟩ x y = (decide (a ≤ x) && (decide (x - a < c) && (decide (b ≤ y) && decide (y - b < d)))) := rfl
  rw [hb]
  clear hb
  by_cases c1 : a ≤ x
  · have n1 : decide (a ≤ x) = true := decide_eq_true c1
    by_cases c2 : x - a < c
    · have n2 : decide (x - a < c) = true := decide_eq_true c2
      by_cases c3 : b ≤ y
      · have n3 : decide (b ≤ y) = true := decide_eq_true c3
        by_cases c4 : y - b < d
        · have n4 : decide (y - b < d) = true := decide_eq_true c4
          rw [n1, n2, n3, n4]
          clear c1 c2 c3 c4
          unfold lrV
          go_enter Try.func89, Try.ntmps89
          go_wp2
          go_ret
          exact ⟨rfl, below_alloc (Below.refl _ _) _⟩
        · have n4 : decide (y - b < d) = false := decide_eq_false c4
          rw [n1, n2, n3, n4]
          clear c1 c2 c3 c4
          unfold lrV
          go_enter Try.func89, Try.ntmps89
          go_wp2
          go_ret
          exact ⟨rfl, below_alloc (Below.refl _ _) _⟩
      · have n3 : decide (b ≤ y) = false := decide_eq_false c3
        rw [n1, n2, n3]
        clear c1 c2 c3
        unfold lrV
        go_enter Try.func89, Try.ntmps89
        go_wp2
        go_ret
        exact ⟨rfl, below_alloc (Below.refl _ _) _⟩
    · have n2 : decide (x - a < c) = false := decide_eq_false c2
      rw [n1, n2]
      clear c1 c2
      unfold lrV
      go_enter Try.func89, Try.ntmps89
      go_wp2
      go_ret
      exact ⟨rfl, below_alloc (Below.refl _ _) _⟩
  · have n1 : decide (a ≤ x) = false := decide_eq_false c1
    rw [n1]
    clear c1
    unfold lrV
    go_enter Try.func89, Try.ntmps89
    go_wp2
    go_ret
    exact ⟨rfl, below_alloc (Below.refl _ _) _⟩
theorem rdLR (l : List LR) (k : Nat) (hk : k < l.length) : rd_T59 l (k : Int) = l[k] := by simp [rd_T59, List.getD_eq_getElem?_getD, hk]
def IdxPost (l : List LR) (x y : Int) (w : World) (e : Ending) (w' : World) : Prop := ∃ r : Int, e = .returned (.int .i64 r) ∧ (0 ≤ r ↔ withinL l x y = true) ∧ Below w.heap.size w w'
set_option maxRecDepth 100000 in
set_option maxHeartbeats 2000000 in
theorem dindex_c (A : Option Addr) (n c : Nat) (l : List LR) (x y : Int) (px py : Addr) (w : World) (hC : Kd.C k59 w A n l) (hn : n ≤ 1000) (hr : ∀ r, r ∈ l → CutR r) (hpx : w.cell? px = some (.int .i64 x)) (hpy : w.cell? py = some (.int .i64 y)) (hx : -1000000000000 ≤ x ∧ x ≤ 1000000000000) (hy : -1000000000000 ≤ y ∧ y ≤ 1000000000000) :
    Calls Try.prog 98 #[.slice A n c, .func (.func 89) #[] #[.pointer (some px), .pointer (some py)]] w (IdxPost l x y w) := by
  have hln : l.length = n := hC.1
  have LN := Lib.hid hln
  have HC := Lib.hid hC
  have lx := World.block_lt_of_cell? w _ hpx
  have ly := World.block_lt_of_cell? w _ hpy
  have DW := Lib.hid (fun (r : LR) (W : World) (h : Below w.heap.size w W) (hc : CutR r) => dwin_c r x y px py W (by rw [h.cell (p := px) lx]; exact hpx) (by rw [h.cell (p := py) ly]; exact hpy) hx hy hc)
  have HR := Lib.hid hr
  unfold lrV at DW
  clear hC hln hpx hpy lx ly hr hx hy
  go_enter Try.func98, Try.ntmps98
  go_wp2_with fail
  go_loopw [8] (fun i wr => ∃ k : Nat, k ≤ n ∧ i = .int .i64 k ∧ Hid (withinL (l.take k) x y = false) ∧ Hid (Below w.heap.size w wr)) (fun i _ => n - (RowKit.intOf i).toNat)
  case atStart => exact ⟨0, Nat.zero_le _, rfl, rfl, Below.refl _ _⟩
  case round =>
    obtain ⟨k, hk, rfl, hU, hB⟩ := hrel
    by_cases hlt : k < n
    · have hkl : k < l.length := by rw [LN.out]; exact hlt
      obtain ⟨ad, ea, x0, x1, x2, x3⟩ := at_T59 (Kd.C_below HC.out hB.out) (k : Int) (by omega) (by omega)
      subst ea
      rw [Int.toNat_natCast, rdLR l k hkl] at x0 x1 x2 x3
      have hwn : withinL (l.take (k + 1)) x y = withinB l[k] x y := by
        unfold withinL at hU ⊢
        rw [List.take_succ_eq_append_getElem hkl, List.any_append, hU.out]
        simp
      have hcut := HR.out l[k] (List.getElem_mem _)
      have hal : withinB l[k] x y = true → withinL l x y = true := fun h => by
        unfold withinL
        exact List.any_eq_true.2 ⟨l[k], List.getElem_mem _, h⟩
      have WC := Lib.hid (DW.out l[k] wr hB.out hcut)
      generalize l[k] = r at *
      obtain ⟨a, b, c1, d⟩ := r
      simp only at x0 x1 x2 x3 WC
      generalize withinB ⟨a, b, c1, d⟩ x y = b1 at *
      have WN := Lib.hid hwn
      have AL := Lib.hid hal
      clear hwn hal hkl hU hcut
      go_wp2_with fail
      refine WC.out.mono ?_
      rintro e w1 ⟨rfl, h1⟩
      have HB1 := Lib.hid (below_then hB.out hB.out.size h1)
      clear h1 x0 x1 x2 x3 WC
      cases b1 with
      | false =>
        go_wp2_with fail
        exact ⟨⟨k + 1, by omega, by go_num, WN.out, HB1.out⟩, by simp [RowKit.intOf]; omega⟩
      | true =>
        have POST : Hid (IdxPost l x y w (.returned (.int .i64 (k : Int))) w1) := Lib.hid ⟨_, rfl, ⟨fun _ => AL.out rfl, fun _ => by omega⟩, HB1.out⟩
        go_wp2_with fail
        go_ret
        exact POST.out
    · obtain rfl : k = n := by omega
      have hkn : l.take k = l := List.take_of_length_le (by rw [LN.out]; exact Nat.le_refl _)
      rw [hkn] at hU
      have POST : Hid (IdxPost l x y w (.returned (.int .i64 (-1))) wr) := Lib.hid ⟨_, rfl, ⟨fun h => by omega, fun h => by rw [hU.out] at h; cases h⟩, hB.out⟩
      clear hkn
      go_wp2_with fail
      go_ret
      exact POST.out
set_option maxRecDepth 100000 in
theorem dcont_c (A : Option Addr) (n c : Nat) (l : List LR) (x y : Int) (px py : Addr) (w : World) (hC : Kd.C k59 w A n l) (hn : n ≤ 1000) (hr : ∀ r, r ∈ l → CutR r) (hpx : w.cell? px = some (.int .i64 x)) (hpy : w.cell? py = some (.int .i64 y)) (hx : -1000000000000 ≤ x ∧ x ≤ 1000000000000) (hy : -1000000000000 ≤ y ∧ y ≤ 1000000000000) :
    Calls Try.prog 88 #[.slice A n c, .func (.func 89) #[] #[.pointer (some px), .pointer (some py)]] w fun e w' => e = .returned (.bool (withinL l x y)) ∧ Below w.heap.size w w' := by
  have HC := Lib.hid (dindex_c A n c l x y px py w hC hn hr hpx hpy hx hy)
  generalize hb : withinL l x y = b
  have HB := Lib.hid hb
  clear hC hr hpx hpy hb
  go_enter Try.func88, Try.ntmps88
  go_wp2_with fail
  refine HC.out.mono ?_
  rintro e w1 ⟨r, rfl, h1, h2⟩
  have H2 := Lib.hid h2
  have e2 : b = decide (0 ≤ r) := by
    rw [← HB.out]
    by_cases h : 0 ≤ r
    · rw [h1.1 h, decide_eq_true h]
    · rw [decide_eq_false h]
      cases hw : withinL l x y with
      | false => rfl
      | true => exact absurd (h1.2 hw) h
  have E2 := Lib.hid e2
  clear h1 h2 e2
  go_wp2_with fail
  go_ret
  exact ⟨by rw [E2.out]; rfl, H2.out⟩
set_option maxRecDepth 100000 in
theorem dwithin_c (A : Option Addr) (n c : Nat) (l : List LR) (x y : Int) (w : World) (hC : Kd.C k59 w A n l) (hn : n ≤ 1000) (hr : ∀ r, r ∈ l → CutR r) (hx : -1000000000000 ≤ x ∧ x ≤ 1000000000000) (hy : -1000000000000 ≤ y ∧ y ≤ 1000000000000) :
    Calls Try.prog 66 #[.slice A n c, .int .i64 x, .int .i64 y] w fun e w' => e = .returned (.bool (withinL l x y)) ∧ Below w.heap.size w w' := by
  obtain ⟨W, eW, hB, hsz, k0, k1⟩ := blk_two w (.cells #[.int .i64 x] 3) (.cells #[.int .i64 y] 3)
  have HC := Lib.hid (dcont_c A n c l x y ⟨w.heap.size, 0, none⟩ ⟨w.heap.size + 1, 0, none⟩ W (Kd.C_below hC hB) hn hr (blk_cell k0 0) (blk_cell k1 0) hx hy)
  have EW := Lib.hid eW
  have HB := Lib.hid hB
  clear hC hr eW hB hsz k0 k1
  go_enter Try.func66, Try.ntmps66
  go_wp2_with fail
  rw [EW.out]
  refine HC.out.mono ?_
  rintro e w1 ⟨rfl, h1⟩
  have H1 := Lib.hid (below_then HB.out HB.out.size h1)
  clear h1
  go_wp2_with fail
  go_ret
  exact ⟨rfl, H1.out⟩
end Go.Proofs.Ytfkgpkkjiolfpaa.Ras
