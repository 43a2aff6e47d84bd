/- Package paint: fills, the closure of Frag, Frag itself. -/
import Derived.Test.YtfkgpkkjiolfpaaStyle
import Derived.OwnWalk
import Derived.WalkKit
import Derived.Deep.RegionHeld3
import Derived.Deep.AppendLies
namespace Go.Proofs.Ytfkgpkkjiolfpaa.Pnt
open Go.RowKit Go.Proofs.Ytfkgpkkjiolfpaa.Pl Go.Proofs.Ytfkgpkkjiolfpaa.Fx Go.Proofs.Ytfkgpkkjiolfpaa.Sty Go.Proofs.YtfkgpkkjiolfpaaW.PrintWords Go.Proofs.YtfkgpkkjiolfpaaW.PrintLast Go.Proofs.YtfkgpkkjiolfpaaW.PrintMore
set_option linter.unusedVariables false
set_option linter.unusedSimpArgs false
attribute [local go_sem] mx2 mn2 mx_two mn_two mx_three mn_three
/-! #### struct type 65 -/
structure S65 where
  f0 : Int
  f1 : Int
  f2 : Int
  f3 : Int
  f4 : Int
  f5 : Int
  f6 : Int
  f7 : Int
  f8 : ByteArray
def z65 : S65 := ⟨(0 : Int), (0 : Int), (0 : Int), (0 : Int), (0 : Int), (0 : Int), (0 : Int), (0 : Int), (⟨#[]⟩ : ByteArray)⟩
def k65 : Kd S65 := Kd.iso (Kd.pair (Kd.int .i64) (Kd.pair (Kd.int .i64) (Kd.pair (Kd.int .i64) (Kd.pair (Kd.int .i64) (Kd.pair (Kd.int .i64) (Kd.pair (Kd.int .i64) (Kd.pair (Kd.int .i64) (Kd.pair (Kd.int .i64) Kd.string)))))))) (fun x : S65 => (x.f0, x.f1, x.f2, x.f3, x.f4, x.f5, x.f6, x.f7, x.f8))
theorem k65_open {w : World} {x : S65} {cs : List Value} (h : k65.K w x cs) : cs = [.int .i64 x.f0, .int .i64 x.f1, .int .i64 x.f2, .int .i64 x.f3, .int .i64 x.f4, .int .i64 x.f5, .int .i64 x.f6, .int .i64 x.f7, .string x.f8] := by
  obtain ⟨_, _, rfl, rfl, ⟨_, _, rfl, rfl, ⟨_, _, rfl, rfl, ⟨_, _, rfl, rfl, ⟨_, _, rfl, rfl, ⟨_, _, rfl, rfl, ⟨_, _, rfl, rfl, ⟨_, _, rfl, rfl, rfl⟩⟩⟩⟩⟩⟩⟩⟩ := h
  exact rfl
theorem k65_openM {w : World} {base : Nat} {ok : Nat → Prop} {x : S65} {cs : List Value} (h : k65.M w base ok x cs) : cs = [.int .i64 x.f0, .int .i64 x.f1, .int .i64 x.f2, .int .i64 x.f3, .int .i64 x.f4, .int .i64 x.f5, .int .i64 x.f6, .int .i64 x.f7, .string x.f8] := by
  obtain ⟨_, _, rfl, rfl, ⟨_, _, rfl, rfl, ⟨_, _, rfl, rfl, ⟨_, _, rfl, rfl, ⟨_, _, rfl, rfl, ⟨_, _, rfl, rfl, ⟨_, _, rfl, rfl, ⟨_, _, rfl, rfl, rfl⟩⟩⟩⟩⟩⟩⟩⟩ := h
  exact rfl
theorem k65_mk (w : World) (x : S65)  : k65.K w x [.int .i64 x.f0, .int .i64 x.f1, .int .i64 x.f2, .int .i64 x.f3, .int .i64 x.f4, .int .i64 x.f5, .int .i64 x.f6, .int .i64 x.f7, .string x.f8] := ⟨[.int .i64 x.f0], [.int .i64 x.f1, .int .i64 x.f2, .int .i64 x.f3, .int .i64 x.f4, .int .i64 x.f5, .int .i64 x.f6, .int .i64 x.f7, .string x.f8], rfl, rfl, ⟨[.int .i64 x.f1], [.int .i64 x.f2, .int .i64 x.f3, .int .i64 x.f4, .int .i64 x.f5, .int .i64 x.f6, .int .i64 x.f7, .string x.f8], rfl, rfl, ⟨[.int .i64 x.f2], [.int .i64 x.f3, .int .i64 x.f4, .int .i64 x.f5, .int .i64 x.f6, .int .i64 x.f7, .string x.f8], rfl, rfl, ⟨[.int .i64 x.f3], [.int .i64 x.f4, .int .i64 x.f5, .int .i64 x.f6, .int .i64 x.f7, .string x.f8], rfl, rfl, ⟨[.int .i64 x.f4], [.int .i64 x.f5, .int .i64 x.f6, .int .i64 x.f7, .string x.f8], rfl, rfl, ⟨[.int .i64 x.f5], [.int .i64 x.f6, .int .i64 x.f7, .string x.f8], rfl, rfl, ⟨[.int .i64 x.f6], [.int .i64 x.f7, .string x.f8], rfl, rfl, ⟨[.int .i64 x.f7], [.string x.f8], rfl, rfl, rfl⟩⟩⟩⟩⟩⟩⟩⟩
theorem k65_mkM (w : World) (base : Nat) (ok : Nat → Prop) (x : S65)  : k65.M w base ok x [.int .i64 x.f0, .int .i64 x.f1, .int .i64 x.f2, .int .i64 x.f3, .int .i64 x.f4, .int .i64 x.f5, .int .i64 x.f6, .int .i64 x.f7, .string x.f8] := ⟨[.int .i64 x.f0], [.int .i64 x.f1, .int .i64 x.f2, .int .i64 x.f3, .int .i64 x.f4, .int .i64 x.f5, .int .i64 x.f6, .int .i64 x.f7, .string x.f8], rfl, rfl, ⟨[.int .i64 x.f1], [.int .i64 x.f2, .int .i64 x.f3, .int .i64 x.f4, .int .i64 x.f5, .int .i64 x.f6, .int .i64 x.f7, .string x.f8], rfl, rfl, ⟨[.int .i64 x.f2], [.int .i64 x.f3, .int .i64 x.f4, .int .i64 x.f5, .int .i64 x.f6, .int .i64 x.f7, .string x.f8], rfl, rfl, ⟨[.int .i64 x.f3], [.int .i64 x.f4, .int .i64 x.f5, .int .i64 x.f6, .int .i64 x.f7, .string x.f8], rfl, rfl, ⟨[.int .i64 x.f4], [.int .i64 x.f5, .int .i64 x.f6, .int .i64 x.f7, .string x.f8], rfl, rfl, ⟨[.int .i64 x.f5], [.int .i64 x.f6, .int .i64 x.f7, .string x.f8], rfl, rfl, ⟨[.int .i64 x.f6], [.int .i64 x.f7, .string x.f8], rfl, rfl, ⟨[.int .i64 x.f7], [.string x.f8], rfl, rfl, rfl⟩⟩⟩⟩⟩⟩⟩⟩
def rd_T65 (xs : List S65) (i : Int) : S65 := xs.getD i.toNat z65
theorem at_T65 {w : World} {A : Option Addr} {n : Nat} {xs : List S65} (h : Kd.C k65 w A n xs) (i : Int) (h0 : 0 ≤ i) (h1 : i < n) : ∃ ad , A = some ad ∧ w.cell? (ad.add (i.toNat * 9)) = some (.int .i64 (rd_T65 xs i).f0) ∧ w.cell? ⟨(ad.add (i.toNat * 9)).block, (ad.add (i.toNat * 9)).off + 1, none⟩ = some (.int .i64 (rd_T65 xs i).f1) ∧ w.cell? ⟨(ad.add (i.toNat * 9)).block, (ad.add (i.toNat * 9)).off + 2, none⟩ = some (.int .i64 (rd_T65 xs i).f2) ∧ w.cell? ⟨(ad.add (i.toNat * 9)).block, (ad.add (i.toNat * 9)).off + 3, none⟩ = some (.int .i64 (rd_T65 xs i).f3) ∧ w.cell? ⟨(ad.add (i.toNat * 9)).block, (ad.add (i.toNat * 9)).off + 4, none⟩ = some (.int .i64 (rd_T65 xs i).f4) ∧ w.cell? ⟨(ad.add (i.toNat * 9)).block, (ad.add (i.toNat * 9)).off + 5, none⟩ = some (.int .i64 (rd_T65 xs i).f5) ∧ w.cell? ⟨(ad.add (i.toNat * 9)).block, (ad.add (i.toNat * 9)).off + 6, none⟩ = some (.int .i64 (rd_T65 xs i).f6) ∧ w.cell? ⟨(ad.add (i.toNat * 9)).block, (ad.add (i.toNat * 9)).off + 7, none⟩ = some (.int .i64 (rd_T65 xs i).f7) ∧ w.cell? ⟨(ad.add (i.toNat * 9)).block, (ad.add (i.toNat * 9)).off + 8, none⟩ = some (.string (rd_T65 xs i).f8) := by
  obtain ⟨ad, c, e, _, hK, hc0⟩ := Kd.C_get h z65 i h0 h1
  have hc : ∀ j u, c[j]? = some u → w.cell? (ad.add (i.toNat * 9 + j)) = some u := hc0
  obtain rfl := k65_open hK
  exact ⟨ad, e, hc 0 _ rfl, by rw [← add_field _ _ 1 (by omega)]; exact hc 1 _ rfl, by rw [← add_field _ _ 2 (by omega)]; exact hc 2 _ rfl, by rw [← add_field _ _ 3 (by omega)]; exact hc 3 _ rfl, by rw [← add_field _ _ 4 (by omega)]; exact hc 4 _ rfl, by rw [← add_field _ _ 5 (by omega)]; exact hc 5 _ rfl, by rw [← add_field _ _ 6 (by omega)]; exact hc 6 _ rfl, by rw [← add_field _ _ 7 (by omega)]; exact hc 7 _ rfl, by rw [← add_field _ _ 8 (by omega)]; exact hc 8 _ rfl⟩

abbrev Cm := S65
theorem infoC : (Try.prog.info? 65).map (fun i => (i.zero, i.size, i.bytes)) = some (some (.agg #[.int .i64 0, .int .i64 0, .int .i64 0, .int .i64 0, .int .i64 0, .int .i64 0, .int .i64 0, .int .i64 0, .string ⟨#[]⟩]), k65.sz, 80) := by kernel_rfl
/-- A command as cells. -/
def cmV (c : Cm) : List Value := [.int .i64 c.f0, .int .i64 c.f1, .int .i64 c.f2, .int .i64 c.f3, .int .i64 c.f4, .int .i64 c.f5, .int .i64 c.f6, .int .i64 c.f7, .string c.f8]
/-- Is it seen? -/
def seenB (c : Cm) : Bool := decide (0 < c.f4) && (decide (0 < c.f5) && !decide (Go.bits .and .i64 c.f6 255 = 0))

theorem fill_c (s : List Int) (x y wd h p n : Int) (b1 b2 : Nat) (w : World) (hs : s.length = 118) (hp : 0 ≤ p ∧ p < 59) (h1 : w.cell? ⟨b1, 1, none⟩ = some (.int .i64 n)) (h2 : w.rangeAt b2 0 (sv s)) :
    Calls Try.prog 41 #[.int .i64 x, .int .i64 y, .int .i64 wd, .int .i64 h, .int .i64 p, .pointer (some ⟨b1, 0, none⟩), .pointer (some ⟨b2, 0, none⟩)] w fun e w' => e = .returned (.agg (cmV ⟨1, n, x, y, wd, h, s.getD (p.toNat * 2 + 1) 0, 0, ⟨#[]⟩⟩).toArray) ∧ Below w.heap.size w w' := by
  have HS := Lib.hid hs
  have z := range_get h2 (p.toNat * 2 + 1) (by omega)
  have hb1 := World.block_lt_of_cell? w _ h1
  have hb2 := World.block_lt_of_cell? w _ z
  obtain ⟨p1, p2⟩ := hp
  generalize s.getD (p.toNat * 2 + 1) 0 = col at *
  clear h2 hs
  go_enter Try.func41, Try.ntmps41
  go_wp2_with fail
  go_region
  go_wp2
  refine bodyPost_ret (results_cell_row rfl _ _ w.heap.size 65 _ (0, 0) _ rfl (blk_drew (blk_new w _)) Try.underlying65 rfl (by kernel_rfl)) rfl ?_
  exact ⟨rfl, (below_alloc (Below.refl _ _) _).drew⟩

theorem filter_snoc (l : List Cm) (k : Nat) (hk : k < l.length) (b : Bool) (hb : seenB (rd_T65 l (k : Int)) = b) : (l.take (k + 1)).filter seenB = (l.take k).filter seenB ++ (if b = true then [rd_T65 l (k : Int)] else []) := by
  have e : rd_T65 l (k : Int) = l[k] := by simp [rd_T65, List.getD_eq_getElem?_getD, hk]
  rw [e] at hb ⊢
  rw [List.take_succ_eq_append_getElem hk, List.filter_append]
  subst hb
  congr 1
  cases h : seenB l[k] <;> simp [h]

set_option maxHeartbeats 1000000 in
theorem fills_c (A : Option Addr) (n c : Nat) (l : List Cm) (w : World) (hn : n = l.length) (hc : Kd.C k65 w A n l) (hl : (l.length : Int) ≤ 1000000) :
    Calls Try.prog 43 #[.slice A n c] w fun e w' => ∃ v, e = .returned v ∧ Kd.R k65 65 w' w.heap.size (fun _ => True) v (l.filter seenB) ∧ Below w.heap.size w w' := by
  subst hn
  have H3 := Lib.hid hc
  clear hc
  go_enter Try.func43, Try.ntmps43
  go_wp2
  go_loopw [3, 8] (fun v i wr => ∃ k : Nat, k ≤ l.length ∧ i = .int .i64 k ∧ Hid (Kd.R k65 65 wr w.heap.size (fun _ => True) v ((l.take k).filter seenB)) ∧ Hid (Below w.heap.size w wr)) (fun _ i _ => l.length - (intOf i).toNat)
  case atStart => exact ⟨0, Nat.zero_le _, rfl, Kd.R_nil _ _ _ _ _, Below.refl _ _⟩
  case round =>
    obtain ⟨k, hk, rfl, hR, hB⟩ := hrel
    by_cases hlt : k < l.length
    · obtain ⟨ad, ea, x0, x1, x2, x3, x4, x5, x6, x7, x8⟩ := at_T65 (Kd.C_below H3.out hB.out) (k : Int) (by omega) (by omega)
      subst ea
      have hsn := filter_snoc l k hlt _ rfl
      have hlk : ((l.take k).filter seenB).length ≤ k := Nat.le_trans (List.length_filter_le _ _) (List.length_take_le _ _)
      rw [Int.toNat_natCast] at x0 x1 x2 x3 x4 x5 x6 x7 x8
      generalize rd_T65 l (k : Int) = f at *
      generalize (l.take k).filter seenB = us at *
      have BA : Hid (∀ o n, Below w.heap.size w ((wr.alloc o).drewN n)) := Lib.hid fun o n => pw_below_drewN (below_alloc hB.out o) n
      have RA : Hid (∀ o n, Kd.R k65 65 ((wr.alloc o).drewN n) w.heap.size (fun _ => True) u3 us) := Lib.hid fun o n => Kd.R_below hR.out (pw_below_drewN (below_alloc (Below.refl _ _) o) n)
      by_cases c1 : 0 < f.f4
      · by_cases c2 : 0 < f.f5
        · by_cases c3 : Go.bits .and .i64 f.f6 255 = 0
          · have hs0 : seenB f = false := by unfold seenB; rw [decide_eq_true c3]; simp
            rw [hs0, if_neg (by decide), List.append_nil] at hsn
            have SN := Lib.hid hsn
            have n1 : decide (0 < f.f4) = true := decide_eq_true c1
            have n2 : decide (0 < f.f5) = true := decide_eq_true c2
            have n3 : (Go.bits .and .i64 f.f6 255 == 0) = true := by simpa using c3
            clear hsn hs0 c1 c2 c3
            go_wp2
            exact ⟨⟨k + 1, by omega, by go_num, by rw [SN.out]; exact RA.out _ 0, BA.out _ 0⟩, by simp [intOf]; omega⟩
          · have hs1 : seenB f = true := by unfold seenB; rw [decide_eq_true c1, decide_eq_true c2, decide_eq_false c3]; rfl
            rw [hs1, if_pos rfl] at hsn
            have SN := Lib.hid hsn
            have n1 : decide (0 < f.f4) = true := decide_eq_true c1
            have n2 : decide (0 < f.f5) = true := decide_eq_true c2
            have n3 : (Go.bits .and .i64 f.f6 255 == 0) = false := by simpa using c3
            clear hsn hs1 c1 c2 c3
            go_wp2_with (at_builtin; go_loud (refine Kd.R_append k65 (w0 := w) w.heap.size rfl (.tmp 26) (.tmp 28) 28 65 _ 80 rfl Try.underlying28 infoC rfl (by decide) (by decide) _ us f [.int .i64 f.f0, .int .i64 f.f1, .int .i64 f.f2, .int .i64 f.f3, .int .i64 f.f4, .int .i64 f.f5, .int .i64 f.f6, .int .i64 f.f7, .string f.f8] (fun _ => True) (fun _ => False) rfl (by show Value.slice (some ⟨wr.heap.size + 1, 0, none⟩) 1 1 = _; rw [World.size_alloc]) (k65_mkM _ _ _ f) (fun _ h => h.elim) (fun _ _ => trivial) (RA.out _ 0) (BA.out _ 0) (by have := hB.out.size; simp; omega) (by omega) ?_); intro v1 w1 hO1 hB1 hG1 hat1; have O1 := Lib.hid hO1; have B1 := Lib.hid hB1; clear hO1 hB1 hG1 hat1)
            exact ⟨⟨k + 1, by omega, by go_num, by rw [SN.out]; exact O1, B1⟩, by simp [intOf]; omega⟩
        · have hs0 : seenB f = false := by unfold seenB; rw [decide_eq_false c2]; simp
          rw [hs0, if_neg (by decide), List.append_nil] at hsn
          have SN := Lib.hid hsn
          have n1 : decide (0 < f.f4) = true := decide_eq_true c1
          have n2 : decide (0 < f.f5) = false := decide_eq_false c2
          clear hsn hs0 c1 c2
          go_wp2
          exact ⟨⟨k + 1, by omega, by go_num, by rw [SN.out]; exact RA.out _ 0, BA.out _ 0⟩, by simp [intOf]; omega⟩
      · have hs0 : seenB f = false := by unfold seenB; rw [decide_eq_false c1]; rfl
        rw [hs0, if_neg (by decide), List.append_nil] at hsn
        have SN := Lib.hid hsn
        have n1 : decide (0 < f.f4) = false := decide_eq_false c1
        clear hsn hs0 c1
        go_wp2
        exact ⟨⟨k + 1, by omega, by go_num, by rw [SN.out]; exact RA.out _ 0, BA.out _ 0⟩, by simp [intOf]; omega⟩
    · have hkn : l.take k = l := List.take_of_length_le (by omega)
      rw [hkn] at hR
      clear hkn
      go_wp2
      go_ret
      exact ⟨_, rfl, hR.out, hB.out⟩
end Go.Proofs.Ytfkgpkkjiolfpaa.Pnt
