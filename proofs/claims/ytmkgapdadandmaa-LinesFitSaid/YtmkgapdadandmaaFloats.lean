/- Package floats: a room's state in memory, and what its methods come to. -/
import Derived.Test.YtmkgapdadandmaaFix
import Derived.Test.YtmkgapdadandmaaWWords
import Derived.Test.YtmkgapdadandmaaWMore
import Derived.Test.YtmkgapdadandmaaWLast
namespace Go.Proofs.Ytmkgapdadandmaa.Fl
open Go.RowKit Go.Proofs.Ytmkgapdadandmaa.Pl Go.Proofs.Ytmkgapdadandmaa.Fx Go.Proofs.YtmkgapdadandmaaW.PrintWords Go.Proofs.YtmkgapdadandmaaW.PrintLast Go.Proofs.YtmkgapdadandmaaW.PrintMore
set_option linter.unusedVariables false
set_option linter.unusedSimpArgs false
attribute [local go_sem] mx2 mn2 mx_two mn_two mx_three mn_three

/-! #### struct type 97 -/
structure S97 where
  f0 : Int
  f1 : Int
  f2 : Int
  f3 : Int
def z97 : S97 := ⟨(0 : Int), (0 : Int), (0 : Int), (0 : Int)⟩
def k97 : Kd S97 := Kd.iso (Kd.pair (Kd.int .i64) (Kd.pair (Kd.int .i64) (Kd.pair (Kd.int .i64) (Kd.int .i64)))) (fun x : S97 => (x.f0, x.f1, x.f2, x.f3))
theorem k97_open {w : World} {x : S97} {cs : List Value} (h : k97.K w x cs) : cs = [.int .i64 x.f0, .int .i64 x.f1, .int .i64 x.f2, .int .i64 x.f3] := by
  obtain ⟨_, _, rfl, rfl, ⟨_, _, rfl, rfl, ⟨_, _, rfl, rfl, rfl⟩⟩⟩ := h
  exact rfl
theorem k97_openM {w : World} {base : Nat} {ok : Nat → Prop} {x : S97} {cs : List Value} (h : k97.M w base ok x cs) : cs = [.int .i64 x.f0, .int .i64 x.f1, .int .i64 x.f2, .int .i64 x.f3] := by
  obtain ⟨_, _, rfl, rfl, ⟨_, _, rfl, rfl, ⟨_, _, rfl, rfl, rfl⟩⟩⟩ := h
  exact rfl
theorem k97_mk (w : World) (x : S97)  : k97.K w x [.int .i64 x.f0, .int .i64 x.f1, .int .i64 x.f2, .int .i64 x.f3] := ⟨[.int .i64 x.f0], [.int .i64 x.f1, .int .i64 x.f2, .int .i64 x.f3], rfl, rfl, ⟨[.int .i64 x.f1], [.int .i64 x.f2, .int .i64 x.f3], rfl, rfl, ⟨[.int .i64 x.f2], [.int .i64 x.f3], rfl, rfl, rfl⟩⟩⟩
theorem k97_mkM (w : World) (base : Nat) (ok : Nat → Prop) (x : S97)  : k97.M w base ok x [.int .i64 x.f0, .int .i64 x.f1, .int .i64 x.f2, .int .i64 x.f3] := ⟨[.int .i64 x.f0], [.int .i64 x.f1, .int .i64 x.f2, .int .i64 x.f3], rfl, rfl, ⟨[.int .i64 x.f1], [.int .i64 x.f2, .int .i64 x.f3], rfl, rfl, ⟨[.int .i64 x.f2], [.int .i64 x.f3], rfl, rfl, rfl⟩⟩⟩
def rd_T97 (xs : List S97) (i : Int) : S97 := xs.getD i.toNat z97
theorem at_T97 {w : World} {A : Option Addr} {n : Nat} {xs : List S97} (h : Kd.C k97 w A n xs) (i : Int) (h0 : 0 ≤ i) (h1 : i < n) : ∃ ad , A = some ad ∧ w.cell? (ad.add (i.toNat * 4)) = some (.int .i64 (rd_T97 xs i).f0) ∧ w.cell? ⟨(ad.add (i.toNat * 4)).block, (ad.add (i.toNat * 4)).off + 1, none⟩ = some (.int .i64 (rd_T97 xs i).f1) ∧ w.cell? ⟨(ad.add (i.toNat * 4)).block, (ad.add (i.toNat * 4)).off + 2, none⟩ = some (.int .i64 (rd_T97 xs i).f2) ∧ w.cell? ⟨(ad.add (i.toNat * 4)).block, (ad.add (i.toNat * 4)).off + 3, none⟩ = some (.int .i64 (rd_T97 xs i).f3) := by
  obtain ⟨ad, c, e, _, hK, hc0⟩ := Kd.C_get h z97 i h0 h1
  have hc : ∀ j u, c[j]? = some u → w.cell? (ad.add (i.toNat * 4 + j)) = some u := hc0
  obtain rfl := k97_open hK
  exact ⟨ad, e, hc 0 _ rfl, by rw [← add_field _ _ 1 (by omega)]; exact hc 1 _ rfl, by rw [← add_field _ _ 2 (by omega)]; exact hc 2 _ rfl, by rw [← add_field _ _ 3 (by omega)]; exact hc 3 _ rfl⟩

/-! #### struct type 106 -/
structure S106 where
  f0 : S97
  f1 : Int
def z106 : S106 := ⟨z97, (0 : Int)⟩
def k106 : Kd S106 := Kd.iso (Kd.pair k97 (Kd.int .i64)) (fun x : S106 => (x.f0, x.f1))
theorem k106_open {w : World} {x : S106} {cs : List Value} (h : k106.K w x cs) : cs = [.int .i64 x.f0.f0, .int .i64 x.f0.f1, .int .i64 x.f0.f2, .int .i64 x.f0.f3, .int .i64 x.f1] := by
  obtain ⟨_, _, rfl, s0, rfl⟩ := h
  obtain rfl := k97_open s0
  exact rfl
theorem k106_openM {w : World} {base : Nat} {ok : Nat → Prop} {x : S106} {cs : List Value} (h : k106.M w base ok x cs) : cs = [.int .i64 x.f0.f0, .int .i64 x.f0.f1, .int .i64 x.f0.f2, .int .i64 x.f0.f3, .int .i64 x.f1] := by
  obtain ⟨_, _, rfl, s0, rfl⟩ := h
  obtain rfl := k97_openM s0
  exact rfl
theorem k106_mk (w : World) (x : S106)  : k106.K w x [.int .i64 x.f0.f0, .int .i64 x.f0.f1, .int .i64 x.f0.f2, .int .i64 x.f0.f3, .int .i64 x.f1] := ⟨[.int .i64 x.f0.f0, .int .i64 x.f0.f1, .int .i64 x.f0.f2, .int .i64 x.f0.f3], [.int .i64 x.f1], rfl, (k97_mk w x.f0 ), rfl⟩
theorem k106_mkM (w : World) (base : Nat) (ok : Nat → Prop) (x : S106)  : k106.M w base ok x [.int .i64 x.f0.f0, .int .i64 x.f0.f1, .int .i64 x.f0.f2, .int .i64 x.f0.f3, .int .i64 x.f1] := ⟨[.int .i64 x.f0.f0, .int .i64 x.f0.f1, .int .i64 x.f0.f2, .int .i64 x.f0.f3], [.int .i64 x.f1], rfl, (k97_mkM w base ok x.f0 ), rfl⟩
def rd_T106 (xs : List S106) (i : Int) : S106 := xs.getD i.toNat z106
theorem at_T106 {w : World} {A : Option Addr} {n : Nat} {xs : List S106} (h : Kd.C k106 w A n xs) (i : Int) (h0 : 0 ≤ i) (h1 : i < n) : ∃ ad , A = some ad ∧ w.cell? (ad.add (i.toNat * 5)) = some (.int .i64 (rd_T106 xs i).f0.f0) ∧ w.cell? ⟨(ad.add (i.toNat * 5)).block, (ad.add (i.toNat * 5)).off + 1, none⟩ = some (.int .i64 (rd_T106 xs i).f0.f1) ∧ w.cell? ⟨(ad.add (i.toNat * 5)).block, (ad.add (i.toNat * 5)).off + 2, none⟩ = some (.int .i64 (rd_T106 xs i).f0.f2) ∧ w.cell? ⟨(ad.add (i.toNat * 5)).block, (ad.add (i.toNat * 5)).off + 3, none⟩ = some (.int .i64 (rd_T106 xs i).f0.f3) ∧ w.cell? ⟨(ad.add (i.toNat * 5)).block, (ad.add (i.toNat * 5)).off + 4, none⟩ = some (.int .i64 (rd_T106 xs i).f1) := by
  obtain ⟨ad, c, e, _, hK, hc0⟩ := Kd.C_get h z106 i h0 h1
  have hc : ∀ j u, c[j]? = some u → w.cell? (ad.add (i.toNat * 5 + j)) = some u := hc0
  obtain rfl := k106_open hK
  exact ⟨ad, e, hc 0 _ rfl, by rw [← add_field _ _ 1 (by omega)]; exact hc 1 _ rfl, by rw [← add_field _ _ 2 (by omega)]; exact hc 2 _ rfl, by rw [← add_field _ _ 3 (by omega)]; exact hc 3 _ rfl, by rw [← add_field _ _ 4 (by omega)]; exact hc 4 _ rfl⟩


/-- A room at block g: its width, what floats in it; the row of these is the room's own, behind g. -/
def IsF (w : World) (g : Nat) (width : Int) (l : List S106) : Prop :=
  ∃ v, w.heap[g]? = some (.cells #[.int .i64 width, v] 67 (0, 0)) ∧ Kd.R k106 106 w (g + 1) (fun _ => True) v l
theorem IsF.below {w w1 : World} {g : Nat} {width : Int} {l : List S106} (h : IsF w g width l) (hb : Below w.heap.size w w1) : IsF w1 g width l := by
  obtain ⟨v, h1, h2⟩ := h
  have hg : g < w.heap.size := (Array.getElem?_eq_some_iff.1 h1).1
  exact ⟨v, (hb.block g hg).trans h1, Kd.R_below h2 hb⟩
/-- What is read of a room. -/
theorem IsF.reads {w : World} {g : Nat} {width : Int} {l : List S106} (h : IsF w g width l) :
    ∃ A c, w.cell? ⟨g, 0, none⟩ = some (.int .i64 width) ∧ w.cell? ⟨g, 1, none⟩ = some (.slice A l.length c) ∧ Kd.C k106 w A l.length l ∧ w.frozen? ⟨g, 1, none⟩ = false ∧ g < w.heap.size ∧ l.length ≤ c := by
  obtain ⟨v, h1, h2⟩ := h
  have hg : g < w.heap.size := (Array.getElem?_eq_some_iff.1 h1).1
  obtain ⟨A, c, rfl, hl, hr⟩ := Kd.R_reads h2
  exact ⟨A, c, by simp [World.cell?, h1], by simp [World.cell?, h1], hr, by simp [World.frozen?, h1], hg, hl⟩

theorem New_c (n : Int) (w : World) : Calls Try.prog 12 #[.int .i64 n] w fun e w' => e = .returned (.pointer (some ⟨w.heap.size, 0, none⟩)) ∧ IsF w' w.heap.size (max 0 (cut n)) [] ∧ Below w.heap.size w w' := by
  go_enter Try.func12, Try.ntmps12
  go_wp2_with (go_at_call 17; refine (Cut_c _ _).mono ?_; rintro e w' ⟨rfl, rfl⟩)
  go_ret
  exact ⟨rfl, ⟨_, heap_alloc_new _ _, Kd.R_nil _ _ _ _ _⟩, below_alloc (Below.refl _ _) _⟩

theorem Width_c (g : Nat) (width : Int) (l : List S106) (w : World) (h : IsF w g width l) : Calls Try.prog 54 #[.pointer (some ⟨g, 0, none⟩)] w fun e w' => e = .returned (.int .i64 width) ∧ w = w' := by
  obtain ⟨A, c, h1, h2, h3, h4, h5, h6⟩ := h.reads
  go_enter Try.func54, Try.ntmps54
  go_wp2
  go_ret
  exact ⟨rfl, rfl⟩

abbrev F := S106
/-- Is a rectangle met by a stretch? -/
def metB (f : F) (y h : Int) : Bool := decide (0 < f.f0.f3) && (decide (f.f0.f1 < y + max 1 h) && decide (y < f.f0.f1 + f.f0.f3))
/-- Numbers that are no greater than that their sums are told rightly. -/
def fits (x : Int) : Prop := -1000000000000 ≤ x ∧ x ≤ 1000000000000
def okF (f : F) : Prop := fits f.f0.f0 ∧ fits f.f0.f1 ∧ fits f.f0.f2 ∧ fits f.f0.f3
def stepE (y h : Int) (p : Int × Int × Bool) (f : F) : Int × Int × Bool :=
  if metB f y h = true then (if f.f1 = 1 then (max p.1 (f.f0.f0 + f.f0.f2), p.2.1, true) else (p.1, min p.2.1 f.f0.f0, true)) else p
def edges (width : Int) (l : List F) (y h : Int) : Int × Int × Bool := l.foldl (stepE y h) (0, width, false)
theorem edges_snoc (width : Int) (l : List F) (y h : Int) (f : F) : edges width (l ++ [f]) y h = stepE y h (edges width l y h) f := by simp [edges]

set_option maxHeartbeats 400000 in
theorem met_c (f : F) (y h : Int) (w : World) (hf : okF f) (hy : fits y) (hh : fits h) :
    Calls Try.prog 70 #[.agg #[.int .i64 f.f0.f0, .int .i64 f.f0.f1, .int .i64 f.f0.f2, .int .i64 f.f0.f3, .int .i64 f.f1], .int .i64 y, .int .i64 h] w fun e w' => e = .returned (.bool (metB f y h)) ∧ Below w.heap.size w w' := by
  obtain ⟨⟨x0, y0, w0, h0⟩, s0⟩ := f
  obtain ⟨⟨p1, p2⟩, ⟨p3, p4⟩, ⟨p5, p6⟩, ⟨p7, p8⟩⟩ := hf
  obtain ⟨p9, p10⟩ := hy
  obtain ⟨p11, p12⟩ := hh
  simp only at p1 p2 p3 p4 p5 p6 p7 p8
  unfold metB
  simp only
  have m1 : 1 ≤ max 1 h := by omega
  have m2 : max 1 h ≤ 1000000000000 := by omega
  by_cases c1 : 0 < h0
  · have d1 : decide (0 < h0) = true := decide_eq_true c1
    by_cases c2 : y0 < y + max 1 h
    · have d2 : decide (y0 < y + max 1 h) = true := decide_eq_true c2
      have e : (decide (0 < h0) && (decide (y0 < y + max 1 h) && decide (y < y0 + h0))) = decide (y < y0 + h0) := by simp [d1, d2]
      rw [e]
      clear e p11 p12
      go_enter Try.func70, Try.ntmps70
      go_wp2
      go_ret
      exact ⟨rfl, below_alloc (Below.refl _ _) _⟩
    · have d2 : decide (y0 < y + max 1 h) = false := decide_eq_false c2
      have e : (decide (0 < h0) && (decide (y0 < y + max 1 h) && decide (y < y0 + h0))) = false := by simp [d1, d2]
      rw [e]
      clear e p11 p12
      go_enter Try.func70, Try.ntmps70
      go_wp2
      go_ret
      exact ⟨rfl, below_alloc (Below.refl _ _) _⟩
  · have d1 : decide (0 < h0) = false := decide_eq_false c1
    have e : (decide (0 < h0) && (decide (y0 < y + max 1 h) && decide (y < y0 + h0))) = false := by simp [d1]
    rw [e]
    clear e p11 p12
    go_enter Try.func70, Try.ntmps70
    go_wp2
    go_ret
    exact ⟨rfl, below_alloc (Below.refl _ _) _⟩

theorem take_snocF (l : List F) (k : Nat) (h : k < l.length) : l.take (k + 1) = l.take k ++ [rd_T106 l (k : Int)] := by
  rw [List.take_succ_eq_append_getElem h]; simp [rd_T106, List.getD_eq_getElem?_getD, h]
theorem rd_mem (l : List F) (k : Nat) (h : k < l.length) : rd_T106 l (k : Int) ∈ l := by
  simp [rd_T106, List.getD_eq_getElem?_getD, h]

set_option maxHeartbeats 1000000 in
theorem edges_c (g : Nat) (width : Int) (l : List F) (y h : Int) (w : World) (hI : IsF w g width l) (hok : ∀ f, f ∈ l → okF f) (hy : fits y) (hh : fits h) (hlen : (l.length : Int) ≤ 1000000) :
    Calls Try.prog 63 #[.pointer (some ⟨g, 0, none⟩), .int .i64 y, .int .i64 h] w fun e w' => e = .returned (.tuple #[.int .i64 (edges width l y h).1, .int .i64 (edges width l y h).2.1, .bool (edges width l y h).2.2]) ∧ Below w.heap.size w w' := by
  obtain ⟨A, c, h1, h2, h3, h4, h5, h6⟩ := hI.reads
  have HK := Lib.hid hok
  have H3 := Lib.hid h3
  clear hok h3 h4 hI
  go_enter Try.func63, Try.ntmps63
  go_wp2
  go_loopw [6, 7, 8, 20] (fun a b m i wr => ∃ k : Nat, k ≤ l.length ∧ i = .int .i64 k ∧ a = .int .i64 (edges width (l.take k) y h).1 ∧ b = .int .i64 (edges width (l.take k) y h).2.1 ∧ m = .bool (edges width (l.take k) y h).2.2 ∧ Hid (Below w.heap.size w wr)) (fun _ _ _ i _ => l.length - (intOf i).toNat)
  case atStart => exact ⟨0, Nat.zero_le _, rfl, rfl, rfl, rfl, Below.refl _ _⟩
  case round =>
    obtain ⟨k, hk, rfl, rfl, rfl, rfl, hB⟩ := hrel
    by_cases hlt : k < l.length
    · obtain ⟨ad, ea, x0, x1, x2, x3, x4⟩ := at_T106 (Kd.C_below H3.out hB.out) (k : Int) (by omega) (by omega)
      subst ea
      have hf := HK.out _ (rd_mem l k hlt)
      have hsn := edges_snoc width (l.take k) y h (rd_T106 l (k : Int))
      rw [← take_snocF l k hlt] at hsn
      rw [Int.toNat_natCast] at x0 x1 x2 x3 x4
      generalize rd_T106 l (k : Int) = f at *
      generalize edges width (l.take k) y h = p at *
      obtain ⟨p1, p2, p3⟩ := p
      have HF := Lib.hid hf
      have SN := Lib.hid hsn
      clear hf hsn
      go_wp2_with fail
      refine (met_c f y h _ HF.out hy hh).mono ?_
      rintro e wM ⟨rfl, hM⟩
      have q0 : wM.cell? ⟨wr.heap.size, 0, none⟩ = some (.int .i64 f.f0.f0) := (hM.cell (by simp)).trans (by simp)
      have q2 : wM.cell? ⟨wr.heap.size, 2, none⟩ = some (.int .i64 f.f0.f2) := (hM.cell (by simp)).trans (by simp)
      have q4 : wM.cell? ⟨wr.heap.size, 4, none⟩ = some (.int .i64 f.f1) := (hM.cell (by simp)).trans (by simp)
      have BM := Lib.hid (hB.out.trans ((below_then (below_alloc (Below.refl _ _) _) (by simp) hM).mono hB.out.size) : Below w.heap.size w wM)
      obtain ⟨⟨f1, f2⟩, -, ⟨f3, f4⟩, -⟩ := HF.out
      clear hM x0 x1 x2 x3 x4
      cases hm : metB f y h with
      | false =>
        have e1 : stepE y h (p1, p2, p3) f = (p1, p2, p3) := by unfold stepE; rw [hm]; rfl
        have E1 := Lib.hid e1
        clear e1 hm
        go_wp2
        go_roundw
        case rel => exact ⟨k + 1, by omega, by go_num, by rw [SN.out, E1.out], by rw [SN.out, E1.out], by rw [SN.out, E1.out], BM⟩
        case measure => simp [intOf]; omega
      | true =>
        by_cases hs : f.f1 = 1
        · have e1 : stepE y h (p1, p2, p3) f = (max p1 (f.f0.f0 + f.f0.f2), p2, true) := by unfold stepE; rw [hm, if_pos rfl, if_pos hs]
          have E1 := Lib.hid e1
          have hs' : (f.f1 == 1) = true := by simp [hs]
          clear e1 hm hs
          go_wp2
          go_roundw
          case rel => exact ⟨k + 1, by omega, by go_num, by rw [SN.out, E1.out], by rw [SN.out, E1.out], by rw [SN.out, E1.out], BM⟩
          case measure => simp [intOf]; omega
        · have e1 : stepE y h (p1, p2, p3) f = (p1, min p2 f.f0.f0, true) := by unfold stepE; rw [hm, if_pos rfl, if_neg hs]
          have E1 := Lib.hid e1
          have hs' : (f.f1 == 1) = false := by simp [hs]
          clear e1 hm hs
          go_wp2
          go_roundw
          case rel => exact ⟨k + 1, by omega, by go_num, by rw [SN.out, E1.out], by rw [SN.out, E1.out], by rw [SN.out, E1.out], BM⟩
          case measure => simp [intOf]; omega
    · have hkn : l.take k = l := List.take_of_length_le (by omega)
      rw [hkn]
      clear hkn
      go_wp2
      go_ret3
      exact ⟨rfl, hB.out⟩
end Go.Proofs.Ytmkgapdadandmaa.Fl
