/- The breaker of lines: is a part solid, is it told; has a group one that is. | The breaker of lines: its state; clean: without blanks that stand first. | The breaker of lines: metrics of a line; a copy of it. | The breaker of lines: a copy of a line. | The breaker of lines: what is told of a line, plain. -/
import Derived.Test.YtmkgapdadandmaaGroups2
import Derived.Deep.CutBlock
import Derived.Test.YtmkgapdadandmaaPcB
import Derived.WalkSpells
import Derived.Test.YtmkgapdadandmaaShare
import Derived.Test.YtmkgapdadandmaaShareBd
namespace Go.Proofs.Ytmkgapdadandmaa.Lin
open Go.RowKit Go.Lib Go.Proofs.Ytmkgapdadandmaa.Pl Go.Proofs.Ytmkgapdadandmaa.Fx Go.Proofs.Ytmkgapdadandmaa.Fnt Go.Proofs.Ytmkgapdadandmaa.Rgn Go.Proofs.YtmkgapdadandmaaW.PrintWords Go.Proofs.YtmkgapdadandmaaW.PrintLast Go.Proofs.YtmkgapdadandmaaW.PrintMore
set_option linter.unusedVariables false
set_option linter.unusedSimpArgs false
attribute [local go_sem] mx2 mn2 mx_two mn_two mx_three mn_three

def solidP (l : List LI) (p : Pt) : Bool := (itm l p).f0 == 1 || (itm l p).f0 == 4
def toldP (l : List LI) (p : Pt) : Bool := (itm l p).f0 == 1 || (itm l p).f0 == 4 || (itm l p).f0 == 6 || (((itm l p).f0 == 2 || (itm l p).f0 == 3) && p.w != 0)
set_option maxRecDepth 100000 in
theorem solid_c (ad : Addr) (n : Nat) (l : List LI) (p : Pt) (w : World) (hC : Kd.C k27 w (some ad) n l) (hp : p.at_ < n) :
    Calls Try.prog 52 #[.agg (ptV ad p).toArray] w fun e w' => e = .returned (.bool (solidP l p)) ∧ Below w.heap.size w w' := by
  have x0 := fun o => (itmAt (Kd.C_below hC (below_alloc (Below.refl _ _) o)) rfl p hp).1
  have BA : Hid (∀ o, Below w.heap.size w (w.alloc o)) := Lib.hid fun o => below_alloc (Below.refl _ _) o
  unfold solidP
  generalize (itm l p).f0 = f0 at *
  clear hC
  unfold ptV
  go_enter Try.func52, Try.ntmps52
  go_wp2_with fail
  all_goals go_ret
  all_goals exact ⟨by simp [*], BA.out _⟩
set_option maxRecDepth 100000 in
theorem isTold_c (ad : Addr) (n : Nat) (l : List LI) (p : Pt) (w : World) (hC : Kd.C k27 w (some ad) n l) (hp : p.at_ < n) :
    Calls Try.prog 39 #[.agg (ptV ad p).toArray] w fun e w' => e = .returned (.bool (toldP l p)) ∧ Below w.heap.size w w' := by
  have x0 := fun o => (itmAt (Kd.C_below hC (below_alloc (Below.refl _ _) o)) rfl p hp).1
  have BA : Hid (∀ o, Below w.heap.size w (w.alloc o)) := Lib.hid fun o => below_alloc (Below.refl _ _) o
  unfold toldP
  generalize (itm l p).f0 = f0 at *
  obtain ⟨at_, tx, pw, la⟩ := p
  simp only at x0 hp
  clear hC
  unfold ptV
  go_enter Try.func39, Try.ntmps39
  go_wp2_with fail
  all_goals go_ret
  all_goals exact ⟨by simp_all, BA.out _⟩

set_option maxRecDepth 100000 in
set_option maxHeartbeats 2000000 in
theorem idx_solid_c (ad : Addr) (A : Option Addr) (n c nl : Nat) (l : List LI) (ps : List Pt) (w : World) (hP : Kd.C (kPt ad) w A n ps) (hL : Kd.C k27 w (some ad) nl l) (hok : OKP nl ps) :
    Calls Try.prog 55 #[.slice A n c, .func (.func 52) #[] #[]] w fun e w' => ∃ r : Int, e = .returned (.int .i64 r) ∧ decide (0 ≤ r) = ps.any (solidP l) ∧ Below w.heap.size w w' := by
  have hln : ps.length = n := hP.1
  have hnm : n ≤ 9223372036854775807 := hP.2.1
  have HP := Lib.hid hP
  have HL := Lib.hid hL
  have OK := Lib.hid hok
  have LN := Lib.hid hln
  clear hP hL hok hln
  go_enter Try.func55, Try.ntmps55
  go_wp2_with fail
  go_loopw [8] (fun iv wr => ∃ k : Nat, k ≤ n ∧ iv = .int .i64 k ∧ Hid (∀ j, j < k → solidP l (ps.getD j zPt) = false) ∧ Hid (Below w.heap.size w wr)) (fun iv _ => n - (RowKit.intOf iv).toNat)
  case atStart => exact ⟨0, Nat.zero_le _, rfl, fun j hj => absurd hj (Nat.not_lt_zero j), Below.refl _ _⟩
  case round =>
    obtain ⟨k, hk, rfl, hN, hB⟩ := hrel
    by_cases hlt : k < n
    · obtain ⟨g, eg, x0, x1, x2, x3, x4⟩ := partAt (Kd.C_below HP.out hB.out) k hlt
      subst eg
      obtain ⟨hxa, hxt⟩ := okp_get OK.out (i := k) (by rw [LN.out]; exact hlt)
      have SOL := Lib.hid (solid_c ad nl l (ps.getD k zPt) wr (Kd.C_below HL.out hB.out) hxa)
      have hst : ∀ b, solidP l (ps.getD k zPt) = b → (b = true → ps.any (solidP l) = true) ∧ (b = false → ∀ j, j < k + 1 → solidP l (ps.getD j zPt) = false) := by
        intro b hb
        refine ⟨fun e => ?_, fun e j hj => ?_⟩
        · subst e
          have hkl : k < ps.length := by rw [LN.out]; exact hlt
          refine List.any_eq_true.2 ⟨ps.getD k zPt, by rw [List.getD_eq_getElem?_getD, List.getElem?_eq_getElem hkl]; exact List.getElem_mem _, hb⟩
        · by_cases hjk : j = k
          · subst hjk; rw [hb, e]
          · exact hN.out j (by omega)
      have ST := Lib.hid hst
      clear hst hN
      generalize hb : solidP l (ps.getD k zPt) = b at *
      have S2 := Lib.hid (ST.out b rfl)
      clear hb ST hxa hxt
      generalize ps.getD k zPt = p at *
      obtain ⟨pa, pt, pw, pl⟩ := p
      simp only [ptV] at x0 x1 x2 x3 x4 SOL
      go_wp2_with (go_at_call 52; refine SOL.out.mono ?_; rintro e w1 ⟨rfl, hB1⟩; have B1 := Lib.hid (below_then hB.out hB.out.size hB1); clear hB1)
      · go_ret
        exact ⟨_, rfl, by rw [S2.out.1 (by assumption)]; simp, B1.out⟩
      · go_roundw
        case rel => exact ⟨k + 1, by omega, by go_num, S2.out.2 (by simp_all), B1.out⟩
        case measure => simp [RowKit.intOf]; omega
    · obtain rfl : k = n := by omega
      have hz : ps.any (solidP l) = false := by
        rw [List.any_eq_false]
        intro p hp
        obtain ⟨j, hj, rfl⟩ := List.getElem_of_mem hp
        have := hN.out j (by rw [← LN.out]; exact hj)
        rw [List.getD_eq_getElem?_getD, List.getElem?_eq_getElem hj] at this
        simpa using this
      have HZ := Lib.hid hz
      clear hz hN
      go_wp2_with fail
      go_ret
      exact ⟨_, rfl, by rw [HZ.out]; rfl, hB.out⟩
set_option maxRecDepth 100000 in
theorem has_solid_c (ad : Addr) (A : Option Addr) (n c nl : Nat) (l : List LI) (ps : List Pt) (w : World) (hP : Kd.C (kPt ad) w A n ps) (hL : Kd.C k27 w (some ad) nl l) (hok : OKP nl ps) :
    Calls Try.prog 38 #[.slice A n c, .func (.func 52) #[] #[]] w fun e w' => e = .returned (.bool (ps.any (solidP l))) ∧ Below w.heap.size w w' := by
  have IX := Lib.hid (idx_solid_c ad A n c nl l ps w hP hL hok)
  clear hP hL hok
  generalize ps.any (solidP l) = b at *
  go_enter Try.func38, Try.ntmps38
  go_wp2_with (go_at_call 55; refine IX.out.mono ?_; rintro e w1 ⟨r, rfl, hr, hB1⟩; have B1 := Lib.hid hB1; have HR := Lib.hid hr; clear hB1 hr)
  all_goals go_ret
  all_goals exact ⟨by rw [← HR.out]; rfl, B1.out⟩

set_option maxRecDepth 100000 in
set_option maxHeartbeats 2000000 in
theorem idx_told_c (ad : Addr) (A : Option Addr) (n c nl : Nat) (l : List LI) (ps : List Pt) (w : World) (hP : Kd.C (kPt ad) w A n ps) (hL : Kd.C k27 w (some ad) nl l) (hok : OKP nl ps) :
    Calls Try.prog 55 #[.slice A n c, .func (.func 39) #[] #[]] w fun e w' => ∃ r : Int, e = .returned (.int .i64 r) ∧ decide (0 ≤ r) = ps.any (toldP l) ∧ Below w.heap.size w w' := by
  have hln : ps.length = n := hP.1
  have hnm : n ≤ 9223372036854775807 := hP.2.1
  have HP := Lib.hid hP
  have HL := Lib.hid hL
  have OK := Lib.hid hok
  have LN := Lib.hid hln
  clear hP hL hok hln
  go_enter Try.func55, Try.ntmps55
  go_wp2_with fail
  go_loopw [8] (fun iv wr => ∃ k : Nat, k ≤ n ∧ iv = .int .i64 k ∧ Hid (∀ j, j < k → toldP l (ps.getD j zPt) = false) ∧ Hid (Below w.heap.size w wr)) (fun iv _ => n - (RowKit.intOf iv).toNat)
  case atStart => exact ⟨0, Nat.zero_le _, rfl, fun j hj => absurd hj (Nat.not_lt_zero j), Below.refl _ _⟩
  case round =>
    obtain ⟨k, hk, rfl, hN, hB⟩ := hrel
    by_cases hlt : k < n
    · obtain ⟨g, eg, x0, x1, x2, x3, x4⟩ := partAt (Kd.C_below HP.out hB.out) k hlt
      subst eg
      obtain ⟨hxa, hxt⟩ := okp_get OK.out (i := k) (by rw [LN.out]; exact hlt)
      have SOL := Lib.hid (isTold_c ad nl l (ps.getD k zPt) wr (Kd.C_below HL.out hB.out) hxa)
      have hst : ∀ b, toldP l (ps.getD k zPt) = b → (b = true → ps.any (toldP l) = true) ∧ (b = false → ∀ j, j < k + 1 → toldP l (ps.getD j zPt) = false) := by
        intro b hb
        refine ⟨fun e => ?_, fun e j hj => ?_⟩
        · subst e
          have hkl : k < ps.length := by rw [LN.out]; exact hlt
          refine List.any_eq_true.2 ⟨ps.getD k zPt, by rw [List.getD_eq_getElem?_getD, List.getElem?_eq_getElem hkl]; exact List.getElem_mem _, hb⟩
        · by_cases hjk : j = k
          · subst hjk; rw [hb, e]
          · exact hN.out j (by omega)
      have ST := Lib.hid hst
      clear hst hN
      generalize hb : toldP l (ps.getD k zPt) = b at *
      have S2 := Lib.hid (ST.out b rfl)
      clear hb ST hxa hxt
      generalize ps.getD k zPt = p at *
      obtain ⟨pa, pt, pw, pl⟩ := p
      simp only [ptV] at x0 x1 x2 x3 x4 SOL
      go_wp2_with (go_at_call 39; refine SOL.out.mono ?_; rintro e w1 ⟨rfl, hB1⟩; have B1 := Lib.hid (below_then hB.out hB.out.size hB1); clear hB1)
      · go_ret
        exact ⟨_, rfl, by rw [S2.out.1 (by assumption)]; simp, B1.out⟩
      · go_roundw
        case rel => exact ⟨k + 1, by omega, by go_num, S2.out.2 (by simp_all), B1.out⟩
        case measure => simp [RowKit.intOf]; omega
    · obtain rfl : k = n := by omega
      have hz : ps.any (toldP l) = false := by
        rw [List.any_eq_false]
        intro p hp
        obtain ⟨j, hj, rfl⟩ := List.getElem_of_mem hp
        have := hN.out j (by rw [← LN.out]; exact hj)
        rw [List.getD_eq_getElem?_getD, List.getElem?_eq_getElem hj] at this
        simpa using this
      have HZ := Lib.hid hz
      clear hz hN
      go_wp2_with fail
      go_ret
      exact ⟨_, rfl, by rw [HZ.out]; rfl, hB.out⟩
set_option maxRecDepth 100000 in
theorem has_told_c (ad : Addr) (A : Option Addr) (n c nl : Nat) (l : List LI) (ps : List Pt) (w : World) (hP : Kd.C (kPt ad) w A n ps) (hL : Kd.C k27 w (some ad) nl l) (hok : OKP nl ps) :
    Calls Try.prog 38 #[.slice A n c, .func (.func 39) #[] #[]] w fun e w' => e = .returned (.bool (ps.any (toldP l))) ∧ Below w.heap.size w w' := by
  have IX := Lib.hid (idx_told_c ad A n c nl l ps w hP hL hok)
  clear hP hL hok
  generalize ps.any (toldP l) = b at *
  go_enter Try.func38, Try.ntmps38
  go_wp2_with (go_at_call 55; refine IX.out.mono ?_; rintro e w1 ⟨r, rfl, hr, hB1⟩; have B1 := Lib.hid hB1; have HR := Lib.hid hr; clear hB1 hr)
  all_goals go_ret
  all_goals exact ⟨by rw [← HR.out]; rfl, B1.out⟩

set_option maxRecDepth 100000 in
theorem full_c (ad : Addr) (A : Option Addr) (n c nl : Nat) (l : List LI) (ps : List Pt) (w : World) (hP : Kd.C (kPt ad) w A n ps) (hL : Kd.C k27 w (some ad) nl l) (hok : OKP nl ps) :
    Calls Try.prog 36 #[.slice A n c] w fun e w' => e = .returned (.bool (ps.any (solidP l))) ∧ Below w.heap.size w w' := by
  have IX := Lib.hid (has_solid_c ad A n c nl l ps w hP hL hok)
  clear hP hL hok
  go_enter Try.func36, Try.ntmps36
  go_wp2_with fail
  refine IX.out.mono ?_
  rintro e w1 ⟨rfl, hB1⟩
  go_wp2_with fail
  go_ret
  exact ⟨rfl, hB1⟩
end Go.Proofs.Ytmkgapdadandmaa.Lin
namespace Go.Proofs.Ytmkgapdadandmaa.Lin
open Go.RowKit Go.Lib Go.Proofs.Ytmkgapdadandmaa.Pl Go.Proofs.Ytmkgapdadandmaa.Fx Go.Proofs.Ytmkgapdadandmaa.Fnt Go.Proofs.Ytmkgapdadandmaa.Rgn Go.Proofs.YtmkgapdadandmaaW.PrintWords Go.Proofs.YtmkgapdadandmaaW.PrintLast Go.Proofs.YtmkgapdadandmaaW.PrintMore
set_option linter.unusedVariables false
set_option linter.unusedSimpArgs false
attribute [local go_sem] mx2 mn2 mx_two mn_two mx_three mn_three

/-! #### struct type 41 -/
structure S41 where
  f0 : Int
  f1 : Int
  f2 : Int
  f3 : ByteArray
def z41 : S41 := ⟨(0 : Int), (0 : Int), (0 : Int), (⟨#[]⟩ : ByteArray)⟩
def k41 : Kd S41 := Kd.iso (Kd.pair (Kd.int .i64) (Kd.pair (Kd.int .i64) (Kd.pair (Kd.int .i64) Kd.string))) (fun x : S41 => (x.f0, x.f1, x.f2, x.f3))
theorem k41_open {w : World} {x : S41} {cs : List Value} (h : k41.K w x cs) : cs = [.int .i64 x.f0, .int .i64 x.f1, .int .i64 x.f2, .string x.f3] := by
  obtain ⟨_, _, rfl, rfl, ⟨_, _, rfl, rfl, ⟨_, _, rfl, rfl, rfl⟩⟩⟩ := h
  exact rfl
theorem k41_openM {w : World} {base : Nat} {ok : Nat → Prop} {x : S41} {cs : List Value} (h : k41.M w base ok x cs) : cs = [.int .i64 x.f0, .int .i64 x.f1, .int .i64 x.f2, .string x.f3] := by
  obtain ⟨_, _, rfl, rfl, ⟨_, _, rfl, rfl, ⟨_, _, rfl, rfl, rfl⟩⟩⟩ := h
  exact rfl
theorem k41_mk (w : World) (x : S41)  : k41.K w x [.int .i64 x.f0, .int .i64 x.f1, .int .i64 x.f2, .string x.f3] := ⟨[.int .i64 x.f0], [.int .i64 x.f1, .int .i64 x.f2, .string x.f3], rfl, rfl, ⟨[.int .i64 x.f1], [.int .i64 x.f2, .string x.f3], rfl, rfl, ⟨[.int .i64 x.f2], [.string x.f3], rfl, rfl, rfl⟩⟩⟩
theorem k41_mkM (w : World) (base : Nat) (ok : Nat → Prop) (x : S41)  : k41.M w base ok x [.int .i64 x.f0, .int .i64 x.f1, .int .i64 x.f2, .string x.f3] := ⟨[.int .i64 x.f0], [.int .i64 x.f1, .int .i64 x.f2, .string x.f3], rfl, rfl, ⟨[.int .i64 x.f1], [.int .i64 x.f2, .string x.f3], rfl, rfl, ⟨[.int .i64 x.f2], [.string x.f3], rfl, rfl, rfl⟩⟩⟩
def rd_T41 (xs : List S41) (i : Int) : S41 := xs.getD i.toNat z41
theorem at_T41 {w : World} {A : Option Addr} {n : Nat} {xs : List S41} (h : Kd.C k41 w A n xs) (i : Int) (h0 : 0 ≤ i) (h1 : i < n) : ∃ ad , A = some ad ∧ w.cell? (ad.add (i.toNat * 4)) = some (.int .i64 (rd_T41 xs i).f0) ∧ w.cell? ⟨(ad.add (i.toNat * 4)).block, (ad.add (i.toNat * 4)).off + 1, none⟩ = some (.int .i64 (rd_T41 xs i).f1) ∧ w.cell? ⟨(ad.add (i.toNat * 4)).block, (ad.add (i.toNat * 4)).off + 2, none⟩ = some (.int .i64 (rd_T41 xs i).f2) ∧ w.cell? ⟨(ad.add (i.toNat * 4)).block, (ad.add (i.toNat * 4)).off + 3, none⟩ = some (.string (rd_T41 xs i).f3) := by
  obtain ⟨ad, c, e, _, hK, hc0⟩ := Kd.C_get h z41 i h0 h1
  have hc : ∀ j u, c[j]? = some u → w.cell? (ad.add (i.toNat * 4 + j)) = some u := hc0
  obtain rfl := k41_open hK
  exact ⟨ad, e, hc 0 _ rfl, by rw [← add_field _ _ 1 (by omega)]; exact hc 1 _ rfl, by rw [← add_field _ _ 2 (by omega)]; exact hc 2 _ rfl, by rw [← add_field _ _ 3 (by omega)]; exact hc 3 _ rfl⟩

def rd_L4 (xs : List (List S41)) (i : Int) : (List S41) := xs.getD i.toNat ([] : List S41)
theorem at_L4 {w : World} {A : Option Addr} {n : Nat} {xs : List (List S41)} (h : Kd.C (Kd.slice 41 k41) w A n xs) (i : Int) (h0 : 0 ≤ i) (h1 : i < n) : ∃ ad A0 c0, A = some ad ∧ w.cell? (ad.add i.toNat) = some (.slice A0 (rd_L4 xs i).length c0) ∧ (rd_L4 xs i).length ≤ c0 ∧ k41.C w A0 (rd_L4 xs i).length (rd_L4 xs i) := by
  obtain ⟨ad, c, e, _, hK, hc0⟩ := Kd.C_get h ([] : List S41) i h0 h1
  have hc : ∀ j u, c[j]? = some u → w.cell? (ad.add (i.toNat * 1 + j)) = some u := hc0
  obtain ⟨A0, c0, rfl, l0, g0⟩ := hK
  exact ⟨ad, A0, c0, e, by have hq := hc 0 _ rfl; rwa [Nat.mul_one, Nat.add_zero] at hq, l0, g0⟩

/-! #### struct type 39 -/
structure S39 where
  f0 : Int
  f1 : Int
  f2 : Int
  f3 : Int
  f4 : Int
  f5 : (List S41)
  f6 : Bool
def z39 : S39 := ⟨(0 : Int), (0 : Int), (0 : Int), (0 : Int), (0 : Int), ([] : List S41), false⟩
def k39 : Kd S39 := Kd.iso (Kd.pair (Kd.int .i64) (Kd.pair (Kd.int .i64) (Kd.pair (Kd.int .i64) (Kd.pair (Kd.int .i64) (Kd.pair (Kd.int .i64) (Kd.pair (Kd.slice 41 k41) Kd.bool)))))) (fun x : S39 => (x.f0, x.f1, x.f2, x.f3, x.f4, x.f5, x.f6))
theorem k39_open {w : World} {x : S39} {cs : List Value} (h : k39.K w x cs) : ∃ A5 c5, cs = [.int .i64 x.f0, .int .i64 x.f1, .int .i64 x.f2, .int .i64 x.f3, .int .i64 x.f4, .slice A5 x.f5.length c5, .bool x.f6] ∧ x.f5.length ≤ c5 ∧ k41.C w A5 x.f5.length x.f5 := by
  obtain ⟨_, _, rfl, rfl, ⟨_, _, rfl, rfl, ⟨_, _, rfl, rfl, ⟨_, _, rfl, rfl, ⟨_, _, rfl, rfl, ⟨_, _, rfl, ⟨A5, c5, rfl, l5, g5⟩, rfl⟩⟩⟩⟩⟩⟩ := h
  exact ⟨A5, c5, rfl, l5, g5⟩
theorem k39_openM {w : World} {base : Nat} {ok : Nat → Prop} {x : S39} {cs : List Value} (h : k39.M w base ok x cs) : ∃ v5, cs = [.int .i64 x.f0, .int .i64 x.f1, .int .i64 x.f2, .int .i64 x.f3, .int .i64 x.f4, v5, .bool x.f6] ∧ k41.R 41 w base ok v5 x.f5 := by
  obtain ⟨_, _, rfl, rfl, ⟨_, _, rfl, rfl, ⟨_, _, rfl, rfl, ⟨_, _, rfl, rfl, ⟨_, _, rfl, rfl, ⟨_, _, rfl, ⟨v5, rfl, g5⟩, rfl⟩⟩⟩⟩⟩⟩ := h
  exact ⟨v5, rfl, g5⟩
theorem k39_mk (w : World) (x : S39) {A5 : Option Addr} {c5 : Nat} (l5 : x.f5.length ≤ c5) (g5 : k41.C w A5 x.f5.length x.f5) : k39.K w x [.int .i64 x.f0, .int .i64 x.f1, .int .i64 x.f2, .int .i64 x.f3, .int .i64 x.f4, .slice A5 x.f5.length c5, .bool x.f6] := ⟨[.int .i64 x.f0], [.int .i64 x.f1, .int .i64 x.f2, .int .i64 x.f3, .int .i64 x.f4, .slice A5 x.f5.length c5, .bool x.f6], rfl, rfl, ⟨[.int .i64 x.f1], [.int .i64 x.f2, .int .i64 x.f3, .int .i64 x.f4, .slice A5 x.f5.length c5, .bool x.f6], rfl, rfl, ⟨[.int .i64 x.f2], [.int .i64 x.f3, .int .i64 x.f4, .slice A5 x.f5.length c5, .bool x.f6], rfl, rfl, ⟨[.int .i64 x.f3], [.int .i64 x.f4, .slice A5 x.f5.length c5, .bool x.f6], rfl, rfl, ⟨[.int .i64 x.f4], [.slice A5 x.f5.length c5, .bool x.f6], rfl, rfl, ⟨[.slice A5 x.f5.length c5], [.bool x.f6], rfl, ⟨A5, c5, rfl, l5, g5⟩, rfl⟩⟩⟩⟩⟩⟩
theorem k39_mkM (w : World) (base : Nat) (ok : Nat → Prop) (x : S39) {v5 : Value} (g5 : k41.R 41 w base ok v5 x.f5) : k39.M w base ok x [.int .i64 x.f0, .int .i64 x.f1, .int .i64 x.f2, .int .i64 x.f3, .int .i64 x.f4, v5, .bool x.f6] := ⟨[.int .i64 x.f0], [.int .i64 x.f1, .int .i64 x.f2, .int .i64 x.f3, .int .i64 x.f4, v5, .bool x.f6], rfl, rfl, ⟨[.int .i64 x.f1], [.int .i64 x.f2, .int .i64 x.f3, .int .i64 x.f4, v5, .bool x.f6], rfl, rfl, ⟨[.int .i64 x.f2], [.int .i64 x.f3, .int .i64 x.f4, v5, .bool x.f6], rfl, rfl, ⟨[.int .i64 x.f3], [.int .i64 x.f4, v5, .bool x.f6], rfl, rfl, ⟨[.int .i64 x.f4], [v5, .bool x.f6], rfl, rfl, ⟨[v5], [.bool x.f6], rfl, ⟨v5, rfl, g5⟩, rfl⟩⟩⟩⟩⟩⟩
def rd_T39 (xs : List S39) (i : Int) : S39 := xs.getD i.toNat z39
theorem at_T39 {w : World} {A : Option Addr} {n : Nat} {xs : List S39} (h : Kd.C k39 w A n xs) (i : Int) (h0 : 0 ≤ i) (h1 : i < n) : ∃ ad A5 c5, A = some ad ∧ w.cell? (ad.add (i.toNat * 7)) = some (.int .i64 (rd_T39 xs i).f0) ∧ w.cell? ⟨(ad.add (i.toNat * 7)).block, (ad.add (i.toNat * 7)).off + 1, none⟩ = some (.int .i64 (rd_T39 xs i).f1) ∧ w.cell? ⟨(ad.add (i.toNat * 7)).block, (ad.add (i.toNat * 7)).off + 2, none⟩ = some (.int .i64 (rd_T39 xs i).f2) ∧ w.cell? ⟨(ad.add (i.toNat * 7)).block, (ad.add (i.toNat * 7)).off + 3, none⟩ = some (.int .i64 (rd_T39 xs i).f3) ∧ w.cell? ⟨(ad.add (i.toNat * 7)).block, (ad.add (i.toNat * 7)).off + 4, none⟩ = some (.int .i64 (rd_T39 xs i).f4) ∧ w.cell? ⟨(ad.add (i.toNat * 7)).block, (ad.add (i.toNat * 7)).off + 5, none⟩ = some (.slice A5 (rd_T39 xs i).f5.length c5) ∧ w.cell? ⟨(ad.add (i.toNat * 7)).block, (ad.add (i.toNat * 7)).off + 6, none⟩ = some (.bool (rd_T39 xs i).f6) ∧ (rd_T39 xs i).f5.length ≤ c5 ∧ k41.C w A5 (rd_T39 xs i).f5.length (rd_T39 xs i).f5 := by
  obtain ⟨ad, c, e, _, hK, hc0⟩ := Kd.C_get h z39 i h0 h1
  have hc : ∀ j u, c[j]? = some u → w.cell? (ad.add (i.toNat * 7 + j)) = some u := hc0
  obtain ⟨A5, c5, rfl, l5, g5⟩ := k39_open hK
  exact ⟨ad, A5, c5, e, hc 0 _ rfl, by rw [← add_field _ _ 1 (by omega)]; exact hc 1 _ rfl, by rw [← add_field _ _ 2 (by omega)]; exact hc 2 _ rfl, by rw [← add_field _ _ 3 (by omega)]; exact hc 3 _ rfl, by rw [← add_field _ _ 4 (by omega)]; exact hc 4 _ rfl, by rw [← add_field _ _ 5 (by omega)]; exact hc 5 _ rfl, by rw [← add_field _ _ 6 (by omega)]; exact hc 6 _ rfl, l5, g5⟩

abbrev LP := S41
abbrev LL := S39
/-- What does not change while lines are broken. -/
structure Bc where
  fp : Nat
  size : Int
  height : Int
  align : Int
/-- What does. -/
structure Bk where
  y : Int
  indent : Int
  left : Int
  right : Int
  line : List Pt
  full : Bool
  out : List LL
def bkV (c : Bc) (s : Bk) (lv ov : Value) : List Value := [.pointer (some ⟨c.fp, 0, none⟩), .int .i64 s.y, .int .i64 c.size, .int .i64 c.height, .int .i64 c.align, .int .i64 s.indent, .int .i64 s.left, .int .i64 s.right, lv, .bool s.full, .slice none 0 0, ov]
/-- Blanks that stand first are left out. -/
def cleanP (l : List LI) : Bool → List Pt → List Pt
  | _, [] => []
  | b, p :: r => if !b && collP l p && p.text.toList == [32] then cleanP l b r else p :: cleanP l (b || solidP l p) r
/-- .. as a step forward. -/
def clS (l : List LI) (s : Bool × List Pt) (p : Pt) : Bool × List Pt := if !s.1 && collP l p && p.text.toList == [32] then s else (s.1 || solidP l p, s.2 ++ [p])
theorem clean_cons (l : List LI) (b : Bool) (p : Pt) (r : List Pt) : cleanP l b (p :: r) = if !b && collP l p && p.text.toList == [32] then cleanP l b r else p :: cleanP l (b || solidP l p) r := by rw [cleanP]
theorem clean_fold (l : List LI) : ∀ (r : List Pt) (s : Bool × List Pt), (r.foldl (clS l) s).2 = s.2 ++ cleanP l s.1 r := by
  intro r
  induction r with
  | nil => intro s; simp [cleanP]
  | cons p r ih =>
    intro s
    rw [List.foldl_cons, ih, clean_cons]
    unfold clS
    split
    · rfl
    · simp [List.append_assoc]
theorem clean_snoc (l : List LI) (b : Bool) (ps : List Pt) (k : Nat) (hk : k < ps.length) : (ps.take (k + 1)).foldl (clS l) (b, []) = clS l ((ps.take k).foldl (clS l) (b, [])) (ps.getD k zPt) := by
  rw [List.take_succ_eq_append_getElem hk, List.foldl_append, List.getD_eq_getElem?_getD, List.getElem?_eq_getElem hk]; rfl
theorem clean_len (l : List LI) : ∀ (ps : List Pt) (s : Bool × List Pt), (ps.foldl (clS l) s).2.length ≤ s.2.length + ps.length := by
  intro ps
  induction ps with
  | nil => intro s; simp
  | cons p r ih =>
    intro s
    rw [List.foldl_cons, List.length_cons]
    have := ih (clS l s p)
    have h2 : (clS l s p).2.length ≤ s.2.length + 1 := by
      unfold clS
      split
      · omega
      · simp
    omega

set_option maxRecDepth 100000 in
set_option maxHeartbeats 4000000 in
theorem clean_c (ad : Addr) (A : Option Addr) (n c nl bb : Nat) (l : List LI) (ps : List Pt) (K : Bc) (s : Bk) (lv ov : Value) (w : World) (hP : Kd.C (kPt ad) w A n ps) (hL : Kd.C k27 w (some ad) nl l) (hok : OKP nl ps) (hn : n ≤ 100000)
    (hb : w.heap[bb]? = some (.cells (bkV K s lv ov).toArray 59 (0, 0))) :
    Calls Try.prog 35 #[.pointer (some ⟨bb, 0, none⟩), .slice A n c] w fun e w' => ∃ v, e = .returned v ∧ Kd.R (kPt ad) 72 w' w.heap.size (fun _ => True) v (cleanP l s.full ps) ∧ Below w.heap.size w w' := by
  have hln : ps.length = n := hP.1
  have hnm : n ≤ 9223372036854775807 := hP.2.1
  have c9 := blk_cell hb 9
  simp only [bkV, List.getElem?_toArray, List.getElem?_cons_zero, List.getElem?_cons_succ] at c9
  have hcf := clean_fold l ps (s.full, [])
  rw [List.nil_append] at hcf
  have HCF := Lib.hid hcf
  generalize s.full = fu at *
  have HP := Lib.hid hP
  have HL := Lib.hid hL
  have OK := Lib.hid hok
  have LN := Lib.hid hln
  clear hP hL hok hln hb hcf
  go_enter Try.func35, Try.ntmps35
  go_wp2_with fail
  go_loopw [5, 6, 15] (fun fv ov iv wr => ∃ k : Nat, k ≤ n ∧ iv = .int .i64 k ∧ fv = .bool ((ps.take k).foldl (clS l) (fu, [])).1 ∧ Hid (Kd.R (kPt ad) 72 wr w.heap.size (fun _ => True) ov ((ps.take k).foldl (clS l) (fu, [])).2) ∧ Hid (Below w.heap.size w wr)) (fun _ _ iv _ => n - (RowKit.intOf iv).toNat)
  case atStart => exact ⟨0, Nat.zero_le _, rfl, rfl, Kd.R_nil _ _ _ _ _, Below.refl _ _⟩
  case round =>
    obtain ⟨k, hk, rfl, hf, hR, hB⟩ := hrel
    by_cases hlt : k < n
    · have hkl : k < ps.length := by rw [LN.out]; exact hlt
      obtain ⟨g, eg, x0, x1, x2, x3, x4⟩ := partAt (Kd.C_below HP.out hB.out) k hlt
      subst eg
      obtain ⟨hxa, hxt⟩ := okp_get OK.out hkl
      have hsn := clean_snoc l fu ps k hkl
      have hlen := clean_len l (ps.take k) (fu, [])
      simp only [List.length_nil, List.length_take] at hlen
      obtain ⟨W0, rfl⟩ : ∃ W : World, W = wr := ⟨_, rfl⟩
      have COL := Lib.hid fun W (h : Below W0.heap.size W0 W) => collapses_c ad nl l (ps.getD k zPt) W (Kd.C_below HL.out (below_then hB.out hB.out.size h)) hxa
      have SOL := Lib.hid fun W (h : Below W0.heap.size W0 W) => solid_c ad nl l (ps.getD k zPt) W (Kd.C_below HL.out (below_then hB.out hB.out.size h)) hxa
      generalize (ps.take k).foldl (clS l) (fu, []) = st at *
      generalize ps.getD k zPt = p at *
      obtain ⟨fb, O⟩ := st
      simp only at hf hR hlen
      subst hf
      have hsn2 : ∀ cb tb sb, collP l p = cb → (p.text.toList == [32]) = tb → solidP l p = sb → (ps.take (k + 1)).foldl (clS l) (fu, []) = if !fb && cb && tb then (fb, O) else (fb || sb, O ++ [p]) := by
        intro cb tb sb h1 h2 h3
        rw [hsn]
        unfold clS
        simp only [h1, h2, h3]
      have HSN := Lib.hid hsn2
      have OL := Lib.hid hlen
      clear hsn hsn2 hlen hxa hxt
      generalize hcb : collP l p = cb at *
      generalize hsb : solidP l p = sb at *
      generalize htb : (p.text.toList == [32]) = tb at *
      have H2 := Lib.hid (HSN.out cb tb sb rfl rfl rfl)
      obtain ⟨pa, pt, pw, pl⟩ := p
      simp only at htb
      have HP2 : Hid (ptV ad ⟨pa, pt, pw, pl⟩ = [.pointer (some (ad.add (pa * 11))), .int .i64 (pa : Int), .string pt, .int .i64 pw, .bool pl]) := Lib.hid rfl
      simp only [ptV] at x0 x1 x2 x3 x4 COL SOL
      have htb2 : (pt.toList == [32]) = tb := htb
      have BA : Hid (∀ o, Below W0.heap.size W0 (W0.alloc o)) := Lib.hid fun o => below_alloc (Below.refl _ _) o
      clear hcb hsb HSN hkl htb
      have BOX : Hid (∀ w', Below (W0.heap.size + 1) (W0.alloc (.cells #[.pointer (some (ad.add (pa * 11))), .int .i64 (pa : Int), .string pt, .int .i64 pw, .bool pl] 72)) w' → _) := Lib.hid fun w' h => box5 W0 _ _ _ _ _ _ w' h
      go_upto_region 6 with fail
      go_cut [15, 29] from 15 to 39 (fun s15 s29 wx => s15 = .int .i64 k ∧ s29 = .bool (!fb && cb && tb) ∧ Hid (Below (W0.heap.size + 1) (W0.alloc (.cells #[.pointer (some (ad.add (pa * 11))), .int .i64 (pa : Int), .string pt, .int .i64 pw, .bool pl] 72)) wx))
      case first =>
        cases fb with
        | true =>
          go_wp2_with fail
          go_meet
          case rel => exact ⟨rfl, rfl, Below.refl _ _⟩
        | false =>
          cases cb
          all_goals cases tb
          all_goals
            go_wp2_with (go_at_call 51; refine (COL.out _ (BA.out _)).mono ?_; rintro e w1 ⟨rfl, hB1⟩; rw [World.size_alloc] at hB1; obtain ⟨y0, y1, y2, y3, y4⟩ := BOX.out _ hB1; have B1 := Lib.hid hB1; clear hB1)
            go_meet
            case rel => exact ⟨rfl, rfl, B1.out⟩
      case rest =>
        obtain ⟨rfl, rfl, hBx⟩ := hcut
        obtain ⟨y0, y1, y2, y3, y4⟩ := BOX.out _ hBx.out
        have hBW : Below W0.heap.size W0 wc := (BA.out _).trans (hBx.out.mono (Nat.le_succ _))
        have R2 := Lib.hid (Kd.R_below hR.out hBW)
        have B2 := Lib.hid (below_then hB.out hB.out.size hBW)
        have SOL2 := Lib.hid (SOL.out wc hBW)
        clear x0 x1 x2 x3 x4 htb2 COL SOL BA BOX hBx hBW hR hB
        by_cases hd : (!fb && cb && tb) = true
        · have e := H2.out
          rw [if_pos hd] at e
          have E := Lib.hid e
          rw [hd]
          clear e H2 hd
          go_wp2_with fail
          go_roundw
          case rel => exact ⟨k + 1, by omega, by go_num, by rw [E.out], by rw [E.out]; exact R2.out, B2.out⟩
          case measure => simp [RowKit.intOf]; omega
        · have e := H2.out
          rw [if_neg hd] at e
          have E := Lib.hid e
          have hd2 : (!fb && cb && tb) = false := by simpa using hd
          rw [hd2]
          clear e H2 hd hd2
          have O2 : Hid (∀ w', Below wc.heap.size wc w' → Kd.R (kPt ad) 72 w' w.heap.size (fun _ => True) u6 O) := Lib.hid fun w' h => Kd.R_below R2.out h
          have B3 : Hid (∀ w', Below wc.heap.size wc w' → Below w.heap.size w w') := Lib.hid fun w' h => below_then B2.out B2.out.size h
          have Y : Hid (∀ w', Below wc.heap.size wc w' → w'.cell? ⟨W0.heap.size, 0, none⟩ = some (.pointer (some (ad.add (pa * 11)))) ∧ w'.cell? ⟨W0.heap.size, 1, none⟩ = some (.int .i64 (pa : Int)) ∧ w'.cell? ⟨W0.heap.size, 2, none⟩ = some (.string pt) ∧ w'.cell? ⟨W0.heap.size, 3, none⟩ = some (.int .i64 pw) ∧ w'.cell? ⟨W0.heap.size, 4, none⟩ = some (.bool pl)) := Lib.hid fun w' h => ⟨pw_cell_below h y0, pw_cell_below h y1, pw_cell_below h y2, pw_cell_below h y3, pw_cell_below h y4⟩
          clear R2 B2
          go_upto_region 7 with fail
          obtain ⟨W1, rfl⟩ : ∃ W : World, W = wc := ⟨_, rfl⟩
          go_cut [5, 15] from 15 to 39 (fun s5 s15 wx => s5 = .bool (fb || sb) ∧ s15 = .int .i64 k ∧ Hid (Below W1.heap.size W1 wx))
          case first =>
            cases fb with
            | true =>
              go_wp2_with fail
              go_meet
              case rel => exact ⟨rfl, rfl, Below.refl _ _⟩
            | false =>
              go_wp2_with (go_at_call 52; refine SOL2.out.mono ?_; rintro e w1 ⟨rfl, hB1⟩; have B1 := Lib.hid hB1; clear hB1)
              all_goals go_meet
              all_goals exact ⟨by simp, rfl, B1.out⟩
          case rest =>
            obtain ⟨rfl, rfl, hBx⟩ := hcut
            obtain ⟨z0, z1, z2, z3, z4⟩ := Y.out _ hBx.out
            have R3 := Lib.hid (O2.out _ hBx.out)
            have BW3 := Lib.hid (B3.out _ hBx.out)
            clear y0 y1 y2 y3 y4 O2 B3 Y SOL2 hBx
            go_wp2_with (at_builtin; go_loud (refine Kd.R_append (kPt ad) (w0 := w) w.heap.size rfl (.tmp 35) (.tmp 37) 57 72 _ 48 rfl Try.underlying57 infoP rfl (by show 0 < 5; omega) (by decide) _ O ⟨pa, pt, pw, pl⟩ (ptV ad ⟨pa, pt, pw, pl⟩) (fun _ => True) (fun _ => False) rfl (by show Value.slice (some ⟨wc.heap.size, 0, none⟩) 1 1 = _; rfl) (pt_M _ _ _ _ _) (fun _ h => h.elim) (fun _ _ => trivial) R3.out BW3.out BW3.out.size (by have := OL.out; omega) ?_); intro v1 w1 hO1 hB1 hG1 hat1; have O1 := Lib.hid hO1; have B1 := Lib.hid hB1; clear hO1 hB1 hG1 hat1)
            go_roundw
            case rel => exact ⟨k + 1, by omega, by go_num, by rw [E.out], by rw [E.out]; exact O1.out, B1.out⟩
            case measure => simp [RowKit.intOf]; omega
    · obtain rfl : k = n := by omega
      have ht : ps.take k = ps := List.take_of_length_le (by rw [LN.out]; exact Nat.le_refl _)
      rw [ht, HCF.out] at hR
      clear hf
      go_wp2_with fail
      go_ret
      exact ⟨_, rfl, hR.out, hB.out⟩
end Go.Proofs.Ytmkgapdadandmaa.Lin
namespace Go.Proofs.Ytmkgapdadandmaa.Lin
open Go.RowKit Go.Lib Go.Proofs.Ytmkgapdadandmaa.Pl Go.Proofs.Ytmkgapdadandmaa.Fx Go.Proofs.Ytmkgapdadandmaa.Fnt Go.Proofs.Ytmkgapdadandmaa.Rgn Go.Proofs.YtmkgapdadandmaaW.PrintWords Go.Proofs.YtmkgapdadandmaaW.PrintLast Go.Proofs.YtmkgapdadandmaaW.PrintMore
set_option linter.unusedVariables false
set_option linter.unusedSimpArgs false
attribute [local go_sem] mx2 mn2 mx_two mn_two mx_three mn_three

theorem asc_bd (n : Int) : 0 ≤ asc n ∧ asc n ≤ 16777216 := by
  unfold asc prt
  have h1 := sz_bd n
  rw [cut_id (n := sz n) (by omega) (by omega), cut_id (n := 3) (by omega) (by omega), cut_id (n := 4) (by omega) (by omega), if_neg (by omega)]
  have := cut_bd (sz n * 3 / 4)
  have : 0 ≤ cut (sz n * 3 / 4) := cut_nonneg.2 (by omega)
  omega
/-- Above the base line. -/
def abv (size height : Int) : Int := asc size + prt (height - size) 1 2
theorem abv_bd (size height : Int) : -16777216 ≤ abv size height ∧ abv size height ≤ 33554432 := by
  unfold abv
  have := asc_bd size
  have := prt_bd (height - size) 1 2
  omega
theorem Above_c (size height : Int) (w : World) (h1 : -16777216 ≤ size ∧ size ≤ 16777216) (h2 : -16777216 ≤ height ∧ height ≤ 16777216) : Calls Try.prog 66 #[.int .i64 size, .int .i64 height] w fun e w' => e = .returned (.int .i64 (abv size height)) ∧ w = w' := by
  have ha := asc_bd size
  have hp := prt_bd (height - size) 1 2
  have HV : Hid (abv size height = asc size + prt (height - size) 1 2) := Lib.hid rfl
  have ASC := Lib.hid (Ascent_c size w)
  have PRT := Lib.hid (Part_c (height - size) 1 2 w (by omega))
  generalize abv size height = v at *
  generalize asc size = a at *
  generalize prt (height - size) 1 2 = b at *
  go_enter Try.func66, Try.ntmps66
  go_wp2_with (first
    | (go_at_call 73; refine ASC.out.mono ?_; rintro e w' ⟨rfl, rfl⟩)
    | (go_at_call 41; refine PRT.out.mono ?_; rintro e w' ⟨rfl, rfl⟩))
  go_ret
  exact ⟨by rw [HV.out]; rfl, rfl⟩
/-- Items of bounded numbers. -/
def BndI (x : LI) : Prop := (-16777216 ≤ x.f3 ∧ x.f3 ≤ 16777216) ∧ (-16777216 ≤ x.f5 ∧ x.f5 ≤ 16777216) ∧ (-16777216 ≤ x.f7 ∧ x.f7 ≤ 16777216) ∧ (-16777216 ≤ x.f9 ∧ x.f9 ≤ 16777216)
def stepM (l : List LI) (s : Int × Int) (p : Pt) : Int × Int :=
  if (itm l p).f0 = 1 then (max s.1 (abv (itm l p).f3 (itm l p).f5 + (itm l p).f7), max s.2 ((itm l p).f5 - abv (itm l p).f3 (itm l p).f5 - (itm l p).f7))
  else if (itm l p).f0 = 4 then (max s.1 ((itm l p).f9 + (itm l p).f7), max s.2 (-(itm l p).f7))
  else s
def meF (K : Bc) (l : List LI) (ps : List Pt) : Int × Int := ps.foldl (stepM l) (abv K.size K.height, K.height - abv K.size K.height)
/-- The base, and how high. -/
def metP (K : Bc) (l : List LI) (ps : List Pt) : Int × Int := ((meF K l ps).1, max 0 ((meF K l ps).1 + (meF K l ps).2))
def InM (s : Int × Int) : Prop := -67108864 ≤ s.1 ∧ s.1 ≤ 67108864 ∧ -67108864 ≤ s.2 ∧ s.2 ≤ 67108864
theorem stepM_in {l : List LI} {s : Int × Int} {p : Pt} (h : InM s) (hb : BndI (itm l p)) : InM (stepM l s p) := by
  unfold InM at *
  unfold BndI at hb
  have := abv_bd (itm l p).f3 (itm l p).f5
  unfold stepM
  split
  · simp only; omega
  · split
    · simp only; omega
    · exact h
theorem me_snoc (K : Bc) (l : List LI) (ps : List Pt) (k : Nat) (hk : k < ps.length) : meF K l (ps.take (k + 1)) = stepM l (meF K l (ps.take k)) (ps.getD k zPt) := by
  unfold meF
  rw [List.take_succ_eq_append_getElem hk, List.foldl_append, List.getD_eq_getElem?_getD, List.getElem?_eq_getElem hk]; rfl
theorem itm_bnd {l : List LI} (hl : ∀ x, x ∈ l → BndI x) {nl : Nat} (hn : l.length = nl) {p : Pt} (hp : p.at_ < nl) : BndI (itm l p) := hl _ (itm_mem (by omega))
theorem me_in {K : Bc} {l : List LI} (hl : ∀ x, x ∈ l → BndI x) (h1 : -16777216 ≤ K.size ∧ K.size ≤ 16777216) (h2 : 0 ≤ K.height ∧ K.height ≤ 16777216) {ps : List Pt} (hp : ∀ p, p ∈ ps → p.at_ < l.length) : InM (meF K l ps) := by
  have key : ∀ (ps : List Pt) (s : Int × Int), (∀ p, p ∈ ps → p.at_ < l.length) → InM s → InM (ps.foldl (stepM l) s) := by
    intro ps
    induction ps with
    | nil => intro s _ h; exact h
    | cons p r ih =>
      intro s hr h
      exact ih _ (fun q hq => hr q (List.mem_cons_of_mem _ hq)) (stepM_in h (hl _ (itm_mem (hr p (List.mem_cons_self ..)))))
  have := abv_bd K.size K.height
  exact key ps _ hp (by unfold InM; simp only; omega)
/-- Where the item of a part is read. -/
theorem itmAt9 {w : World} {ad : Addr} {n : Nat} {l : List LI} (h : Kd.C k27 w (some ad) n l) (p : Pt) (hp : p.at_ < n) :
    w.cell? (ad.add (p.at_ * 11)) = some (.int .i64 (itm l p).f0) ∧ w.cell? ⟨(ad.add (p.at_ * 11)).block, (ad.add (p.at_ * 11)).off + 3, none⟩ = some (.int .i64 (itm l p).f3) ∧ w.cell? ⟨(ad.add (p.at_ * 11)).block, (ad.add (p.at_ * 11)).off + 5, none⟩ = some (.int .i64 (itm l p).f5) ∧
      w.cell? ⟨(ad.add (p.at_ * 11)).block, (ad.add (p.at_ * 11)).off + 7, none⟩ = some (.int .i64 (itm l p).f7) ∧ w.cell? ⟨(ad.add (p.at_ * 11)).block, (ad.add (p.at_ * 11)).off + 9, none⟩ = some (.int .i64 (itm l p).f9) := by
  obtain ⟨ad', ea, x0, x1, x2, x3, x4, x5, x6, x7, x8, x9, x10⟩ := at_T27 h (p.at_ : Int) (by omega) (by omega)
  obtain rfl := Option.some.inj ea
  rw [Int.toNat_natCast] at x0 x3 x5 x7 x9
  exact ⟨x0, x3, x5, x7, x9⟩
def OKc (K : Bc) : Prop := (-16777216 ≤ K.size ∧ K.size ≤ 16777216) ∧ 0 ≤ K.height ∧ K.height ≤ 16777216
set_option maxRecDepth 100000 in
set_option maxHeartbeats 4000000 in
theorem metrics_c (ad : Addr) (A : Option Addr) (n c nl bb : Nat) (l : List LI) (K : Bc) (s : Bk) (ov : Value) (w : World) (hP : Kd.C (kPt ad) w A n s.line) (hL : Kd.C k27 w (some ad) nl l) (hok : OKP nl s.line) (hK : OKc K) (hl : ∀ x, x ∈ l → BndI x)
    (hb : w.heap[bb]? = some (.cells (bkV K s (.slice A n c) ov).toArray 59 (0, 0))) :
    Calls Try.prog 57 #[.pointer (some ⟨bb, 0, none⟩)] w fun e w' => e = .returned (.tuple #[.int .i64 (metP K l s.line).1, .int .i64 (metP K l s.line).2]) ∧ Below w.heap.size w w' := by
  obtain ⟨⟨hK1, hK2⟩, hK3, hK4⟩ := hK
  have hln : s.line.length = n := hP.1
  have hnm : n ≤ 9223372036854775807 := hP.2.1
  have hll : l.length = nl := hL.1
  have c2 := blk_cell hb 2
  have c3 := blk_cell hb 3
  have c8 := blk_cell hb 8
  simp only [bkV, List.getElem?_toArray, List.getElem?_cons_zero, List.getElem?_cons_succ] at c2 c3 c8
  have hMI : ∀ k, InM (meF K l (s.line.take k)) := fun k => me_in hl ⟨hK1, hK2⟩ ⟨hK3, hK4⟩ (fun p hp => by have := (hok p (List.mem_of_mem_take hp)).1; omega)
  have hM0 : meF K l (s.line.take 0) = (abv K.size K.height, K.height - abv K.size K.height) := rfl
  have hsn := me_snoc K l s.line
  have hmet : metP K l s.line = ((meF K l (s.line.take n)).1, max 0 ((meF K l (s.line.take n)).1 + (meF K l (s.line.take n)).2)) := by
    have ht : s.line.take n = s.line := List.take_of_length_le (by omega)
    rw [ht]; rfl
  rw [hmet]
  have HP := Lib.hid hP
  have HL := Lib.hid hL
  have OK := Lib.hid hok
  have LN := Lib.hid hln
  have MI := Lib.hid hMI
  have SN := Lib.hid hsn
  have M0 := Lib.hid hM0
  have BL := Lib.hid hl
  have LL' := Lib.hid hll
  have ABV := Lib.hid fun W => Above_c K.size K.height W ⟨hK1, hK2⟩ ⟨by omega, hK4⟩
  have hab := abv_bd K.size K.height
  clear hP hL hok hln hb hMI hM0 hsn hmet hl hll
  obtain ⟨cfp, csz, ch, cal⟩ := K
  simp only at c2 c3 ABV hab hK1 hK2 hK3 hK4 M0
  generalize hav : abv csz ch = av at *
  clear hav
  generalize s.line = ln at *
  go_enter Try.func57, Try.ntmps57
  go_wp2_with fail
  go_quiet (first | (go_at_call 66; exact Calls.quiet_of_same ((ABV.out _).mono fun e w' h => ⟨h.1, h.2.symm⟩)))
  have B0 := Lib.hid (pw_below_drewN (Below.refl w.heap.size w) nq)
  have c3' := pw_cell_below B0.out c3
  have c8' := pw_cell_below B0.out c8
  obtain ⟨W0, hW0⟩ : ∃ W0, w.drewN nq = W0 := ⟨_, rfl⟩
  rw [hW0] at B0 c3' c8' ⊢
  clear c2 c3 c8 hW0 ABV
  go_wp2_with fail
  go_loopw [2, 4, 28] (fun bv lv iv wr => ∃ k : Nat, k ≤ n ∧ iv = .int .i64 k ∧ bv = .int .i64 (meF ⟨cfp, csz, ch, cal⟩ l (ln.take k)).1 ∧ lv = .int .i64 (meF ⟨cfp, csz, ch, cal⟩ l (ln.take k)).2 ∧ Hid (Below w.heap.size w wr)) (fun _ _ iv _ => n - (RowKit.intOf iv).toNat)
  case atStart => exact ⟨0, Nat.zero_le _, rfl, by rw [M0.out], by rw [M0.out], B0⟩
  case round =>
    obtain ⟨k, hk, rfl, hb, hlw, hB⟩ := hrel
    have hin := MI.out k
    by_cases hlt : k < n
    · have hkl : k < ln.length := by rw [LN.out]; exact hlt
      obtain ⟨g, eg, x0, x1, x2, x3, x4⟩ := partAt (Kd.C_below HP.out hB.out) k hlt
      subst eg
      obtain ⟨hxa, hxt⟩ := okp_get OK.out hkl
      have hst := SN.out k hkl
      have hbi := itm_bnd BL.out LL'.out hxa
      have IT := Lib.hid fun W (h : Below w.heap.size w W) => itmAt9 (Kd.C_below HL.out h) (ln.getD k zPt) hxa
      generalize ln.getD k zPt = p at *
      generalize meF ⟨cfp, csz, ch, cal⟩ l (ln.take k) = st at *
      obtain ⟨sb, sl⟩ := st
      unfold InM at hin
      simp only at hb hlw hin
      subst hb hlw
      unfold stepM at hst
      simp only at hst
      have hab2 := abv_bd (itm l p).f3 (itm l p).f5
      have AB2 : Hid (∀ W, Calls Try.prog 66 #[.int .i64 (itm l p).f3, .int .i64 (itm l p).f5] W fun e w' => e = .returned (.int .i64 (abv (itm l p).f3 (itm l p).f5)) ∧ w' = W) := Lib.hid fun W => (Above_c _ _ W hbi.1 hbi.2.1).mono fun e w' h => ⟨h.1, h.2.symm⟩
      obtain ⟨hb3, hb5, hb7, hb9⟩ := hbi
      generalize abv (itm l p).f3 (itm l p).f5 = a2 at *
      generalize (itm l p).f0 = f0 at *
      generalize (itm l p).f3 = f3 at *
      generalize (itm l p).f5 = f5 at *
      generalize (itm l p).f7 = f7 at *
      generalize (itm l p).f9 = f9 at *
      obtain ⟨pa, pt, pw, pl⟩ := p
      simp only at x0 x1 x2 x3 x4 IT
      obtain ⟨q, hq⟩ : ∃ q, ad.add (pa * 11) = q := ⟨_, rfl⟩
      rw [hq] at x0 IT
      have s0 := fun o => (IT.out _ (below_alloc hB.out o)).1
      have HST := Lib.hid hst
      have bxf := fun (o : Obj) => blk_new wr o
      have BX := Lib.hid bxf
      have BA := Lib.hid fun o => below_alloc hB.out o
      clear hq hst bxf hxa hxt hkl hB
      by_cases h1 : f0 = 1
      · have z1 : (f0 == 1) = true := by simp [h1]
        have e := HST.out
        rw [if_pos h1] at e
        have E := Lib.hid e
        clear e HST h1
        go_wp2_with fail
        have hbx := BX.out (.cells #[.pointer (some q), .int .i64 (pa : Int), .string pt, .int .i64 pw, .bool pl] 72)
        have hba := BA.out (.cells #[.pointer (some q), .int .i64 (pa : Int), .string pt, .int .i64 pw, .bool pl] 72)
        obtain ⟨W6, hW6⟩ : ∃ W6, wr.alloc (.cells #[.pointer (some q), .int .i64 (pa : Int), .string pt, .int .i64 pw, .bool pl] 72) = W6 := ⟨_, rfl⟩
        rw [hW6] at hbx hba ⊢
        have y0 := blk_cell hbx 0
        simp only [List.getElem?_toArray, List.getElem?_cons_zero] at y0
        obtain ⟨t0, t3, t5, t7, t9⟩ := IT.out _ hba
        have Y0 := Lib.hid y0
        have BA6 := Lib.hid hba
        clear hW6 hbx hba s0 x0 x1 x2 x3 x4
        go_quiet (first | (go_at_call 66; exact Calls.quiet_of_same (AB2.out _)))
        have B7 := Lib.hid (pw_below_drewN (Below.refl W6.heap.size W6) nq)
        obtain ⟨W7, hW7⟩ : ∃ W7, W6.drewN nq = W7 := ⟨_, rfl⟩
        rw [hW7] at B7 ⊢
        clear hW7 t0 t3 t5 t7 t9 y0
        have BA7 := Lib.hid (below_then BA6.out BA6.out.size B7.out)
        obtain ⟨t0, t3, t5, t7, t9⟩ := IT.out _ BA7.out
        have y0 := pw_cell_below B7.out Y0.out
        go_wp2_with fail
        go_quiet (fail)
        have B8 := Lib.hid (pw_below_drewN BA7.out nq)
        obtain ⟨W8, hW8⟩ : ∃ W8, W7.drewN nq = W8 := ⟨_, rfl⟩
        rw [hW8] at B8 ⊢
        clear hW8 t0 t3 t5 t7 t9 y0
        go_wp2_with fail
        go_roundw
        case rel => exact ⟨k + 1, by omega, by go_num, by rw [E.out], by rw [E.out], B8.out⟩
        case measure => simp [RowKit.intOf]; omega
      · have z1 : (f0 == 1) = false := by simp [h1]
        by_cases h4 : f0 = 4
        · have z4 : (f0 == 4) = true := by simp [h4]
          have e := HST.out
          rw [if_neg h1, if_pos h4] at e
          have E := Lib.hid e
          clear e HST h1 h4
          go_wp2_with fail
          have hbx := BX.out (.cells #[.pointer (some q), .int .i64 (pa : Int), .string pt, .int .i64 pw, .bool pl] 72)
          have hba := BA.out (.cells #[.pointer (some q), .int .i64 (pa : Int), .string pt, .int .i64 pw, .bool pl] 72)
          obtain ⟨W6, hW6⟩ : ∃ W6, wr.alloc (.cells #[.pointer (some q), .int .i64 (pa : Int), .string pt, .int .i64 pw, .bool pl] 72) = W6 := ⟨_, rfl⟩
          rw [hW6] at hbx hba ⊢
          have y0 := blk_cell hbx 0
          simp only [List.getElem?_toArray, List.getElem?_cons_zero] at y0
          obtain ⟨t0, t3, t5, t7, t9⟩ := IT.out _ hba
          have BA6 := Lib.hid hba
          clear hW6 hbx hba s0 x0 x1 x2 x3 x4
          go_quiet (fail)
          have B8 := Lib.hid (pw_below_drewN BA6.out nq)
          obtain ⟨W8, hW8⟩ : ∃ W8, W6.drewN nq = W8 := ⟨_, rfl⟩
          rw [hW8] at B8 ⊢
          clear hW8 t0 t3 t5 t7 t9 y0
          go_wp2_with fail
          go_roundw
          case rel => exact ⟨k + 1, by omega, by go_num, by rw [E.out], by rw [E.out], B8.out⟩
          case measure => simp [RowKit.intOf]; omega
        · have z4 : (f0 == 4) = false := by simp [h4]
          have e := HST.out
          rw [if_neg h1, if_neg h4] at e
          have E := Lib.hid e
          clear e HST h1 h4
          go_wp2_with fail
          go_roundw
          case rel => exact ⟨k + 1, by omega, by go_num, by rw [E.out], by rw [E.out], BA.out _⟩
          case measure => simp [RowKit.intOf]; omega
    · obtain rfl : k = n := by omega
      obtain ⟨st, hE⟩ : ∃ st, meF ⟨cfp, csz, ch, cal⟩ l (ln.take k) = st := ⟨_, rfl⟩
      rw [hE] at hin hb hlw
      have HE := Lib.hid hE
      clear hE
      obtain ⟨sb, sl⟩ := st
      unfold InM at hin
      simp only at hb hlw hin
      subst hb hlw
      go_wp2_with fail
      go_ret2
      exact ⟨by rw [HE.out]; rfl, hB.out⟩
end Go.Proofs.Ytmkgapdadandmaa.Lin
namespace Go.Proofs.Ytmkgapdadandmaa.Lin
open Go.RowKit Go.Lib Go.Proofs.Ytmkgapdadandmaa.Pl Go.Proofs.Ytmkgapdadandmaa.Fx Go.Proofs.Ytmkgapdadandmaa.Fnt Go.Proofs.Ytmkgapdadandmaa.Rgn Go.Proofs.YtmkgapdadandmaaW.PrintWords Go.Proofs.YtmkgapdadandmaaW.PrintLast Go.Proofs.YtmkgapdadandmaaW.PrintMore
set_option linter.unusedVariables false
set_option linter.unusedSimpArgs false
attribute [local go_sem] mx2 mn2 mx_two mn_two mx_three mn_three

theorem kPt_M (ad : Addr) (W : World) (base : Nat) (ok : Nat → Prop) : ∀ (x : Pt) (cs : List Value), (kPt ad).K W x cs → (kPt ad).M W base ok x cs := fun _ _ h => h
set_option maxRecDepth 100000 in
set_option maxHeartbeats 2000000 in
theorem clone_c (ad g : Addr) (n c : Nat) (ps : List Pt) (w : World) (hP : Kd.C (kPt ad) w (some g) n ps) (hn : n ≤ 100000) :
    Calls Try.prog 56 #[.slice (some g) n c] w fun e w' => ∃ v, e = .returned v ∧ Kd.R (kPt ad) 72 w' w.heap.size (fun _ => True) v ps ∧ Below w.heap.size w w' := by
  have hP2 := Kd.C_below hP (below_alloc (Below.refl _ _) (.cells #[] 72))
  have HP := Lib.hid hP2
  have B0 := Lib.hid (below_alloc (Below.refl w.heap.size w) (.cells #[] 72))
  have HO : Hid (Kd.R (kPt ad) 72 (w.alloc (.cells #[] 72)) w.heap.size (fun _ => True) (.slice (some ⟨w.heap.size, 0, none⟩) 0 0) []) :=
    Lib.hid ⟨fun _ _ => trivial, OwnRow.lit w w.heap.size (Reps.none _ _) (Nat.le_refl _) (by simp)⟩
  have q57 : (binOp .eql 57 (.slice (some g) n c) (.slice none 0 0)).run Try.prog w = .ok (.bool false) w := run_eql_nil_slice w _ _ (some g) n c 0 0 Try.underlying57
  clear hP hP2
  go_enter Try.func56, Try.ntmps56
  go_wp2_with (at_builtin; go_loud (refine Kd.R_append_rows (kPt ad) (Rr := (kPt ad).K (w.alloc (.cells #[] 72))) (w0 := w) (W := w.alloc (.cells #[] 72)) w.heap.size rfl (.tmp 5) (.tmp 6) 57 72 _ 48 rfl Try.underlying57 infoP rfl (by show 0 < 5; omega) (by decide) (.slice (some ⟨w.heap.size, 0, none⟩) 0 0) [] ps (some g) n c (fun _ => True) (fun _ => False) rfl rfl HO.out HP.out (kPt_M _ _ _ _) (fun _ h => h.elim) (fun _ _ => trivial) B0.out B0.out.size (by simp; omega) ?_); intro v1 w1 hO1 hB1 hG1 hat1; have O1 := Lib.hid hO1; have B1 := Lib.hid hB1; clear hO1 hB1 hG1 hat1)
  go_ret
  exact ⟨_, rfl, by simpa using O1.out, B1.out⟩
end Go.Proofs.Ytmkgapdadandmaa.Lin
namespace Go.Proofs.Ytmkgapdadandmaa.Lin
open Go.RowKit Go.Lib Go.Proofs.Ytmkgapdadandmaa.Pl Go.Proofs.Ytmkgapdadandmaa.Fx Go.Proofs.Ytmkgapdadandmaa.Fnt Go.Proofs.Ytmkgapdadandmaa.Rgn Go.Proofs.YtmkgapdadandmaaW.PrintWords Go.Proofs.YtmkgapdadandmaaW.PrintLast Go.Proofs.YtmkgapdadandmaaW.PrintMore
set_option linter.unusedVariables false
set_option linter.unusedSimpArgs false

/-- The last part that is solid, of the first k; -1 if none is. -/
def lastI (l : List LI) (ps : List Pt) : Nat → Int
  | 0 => -1
  | k + 1 => if solidP l (ps.getD k zPt) = true then (k : Int) else lastI l ps k
theorem lastI_bd (l : List LI) (ps : List Pt) : ∀ k, -1 ≤ lastI l ps k ∧ lastI l ps k < (k : Int) := by
  intro k
  induction k with
  | zero => exact ⟨Int.le_refl _, by show (-1 : Int) < 0; omega⟩
  | succ k ih => unfold lastI; split <;> omega
def endI (l : List LI) (ps : List Pt) : Int := lastI l ps ps.length
/-- A part without its last blank. -/
def trimAt (l : List LI) (p : Pt) : Pt := ⟨p.at_, p.text.extract 0 (p.text.size - 1), p.w - tailP l p, p.last⟩
def endPt (l : List LI) (ps : List Pt) : Pt := ps.getD (endI l ps).toNat zPt
def trimP (l : List LI) (ps : List Pt) : List Pt := if 0 ≤ endI l ps ∧ tailP l (endPt l ps) ≠ 0 then ps.set (endI l ps).toNat (trimAt l (endPt l ps)) else ps
theorem trim_len (l : List LI) (ps : List Pt) : (trimP l ps).length = ps.length := by unfold trimP; split <;> simp
def freeP (l : List LI) (s : Bk) : Int := max 0 (s.right - s.left - wAll (trimP l s.line))
/-- Where blanks may widen. -/
def gap1 (l : List LI) (ps : List Pt) (e : Int) (k : Nat) : Int := if (k : Int) < max 0 e ∧ endsP l (ps.getD k zPt) = true then 1 else 0
def gap01 (l : List LI) (ps : List Pt) (e : Int) : List Int := (List.range ps.length).map (gap1 l ps e)
def gapsP (K : Bc) (l : List LI) (s : Bk) (last : Bool) : List Int :=
  if K.align = 3 ∧ last = false then Go.Proofs.Ytmkgapdadandmaa.Sh.share (freeP l s) (gap01 l (trimP l s.line) (endI l s.line)) else List.replicate s.line.length 0
def offP (K : Bc) (l : List LI) (s : Bk) : Int := if K.align = 1 then freeP l s else if K.align = 2 then prt (freeP l s) 1 2 else 0
/-- A step along the line. -/
def pcS (l : List LI) (ps : List Pt) (gs : List Int) (a : Int × List LP) (k : Nat) : Int × List LP :=
  (a.1 + ((ps.getD k zPt).w + gs.getD k 0), if (itm l (ps.getD k zPt)).f0 = 5 then a.2 else a.2 ++ [⟨((ps.getD k zPt).at_ : Int), cut a.1, cut (ps.getD k zPt).w, (ps.getD k zPt).text⟩])
def pcsP (l : List LI) (ps : List Pt) (gs : List Int) : Nat → Int × List LP
  | 0 => (0, [])
  | k + 1 => pcS l ps gs (pcsP l ps gs k) k
def lineP (K : Bc) (l : List LI) (s : Bk) (last : Bool) : LL :=
  ⟨cut (s.left + offP K l s), cut s.y, cut (pcsP l (trimP l s.line) (gapsP K l s last) s.line.length).1, cut (metP K l s.line).2, cut (metP K l s.line).1, (pcsP l (trimP l s.line) (gapsP K l s last) s.line.length).2, last⟩
def tellS (K : Bc) (l : List LI) (s : Bk) (last : Bool) : Bk := { s with y := wrap64 (s.y + (metP K l s.line).2), out := s.out ++ [lineP K l s last] }
/-- The breaker as it lies in memory: its block, its line, what it has told. -/
def IsB (ad : Addr) (bb : Nat) (K : Bc) (W0 : World) (s : Bk) (w : World) : Prop :=
  ∃ lv ov, w.heap[bb]? = some (.cells (bkV K s lv ov).toArray 59 (0, 0)) ∧ Kd.R (kPt ad) 72 w W0.heap.size (fun _ => True) lv s.line ∧ Kd.R k39 39 w W0.heap.size (fun _ => True) ov s.out ∧ W0.grownBy w (some bb)
theorem grown_then {w0 w w1 : World} {row : Option Nat} (h : w0.grownBy w row) (k : Below w0.heap.size w w1) : w0.grownBy w1 row :=
  ⟨k.os.trans h.os, k.tape.trans h.tape, k.output.trans h.output, Nat.le_trans h.size k.size, fun i hi hne => (k.block i hi).trans (h.block i hi hne)⟩
theorem grown_below {w0 w w1 : World} {row : Option Nat} (h : w0.grownBy w row) (k : Below w.heap.size w w1) : w0.grownBy w1 row := grown_then h (k.mono h.size)
theorem gaps_len (K : Bc) (l : List LI) (s : Bk) (last : Bool) : (gapsP K l s last).length = s.line.length := by
  unfold gapsP
  split
  · rw [Go.Proofs.Ytmkgapdadandmaa.Sm.share_len]; unfold gap01; rw [List.length_map, List.length_range, trim_len]
  · rw [List.length_replicate]
theorem gap_bd (K : Bc) (l : List LI) (s : Bk) (last : Bool) (k : Nat) : -33554432 ≤ (gapsP K l s last).getD k 0 ∧ (gapsP K l s last).getD k 0 ≤ 33554432 := by
  by_cases hk : k < (gapsP K l s last).length
  · unfold gapsP at hk ⊢
    split
    · rename_i h
      rw [if_pos h] at hk
      have h1 := Go.Proofs.Ytmkgapdadandmaa.Sm.share_take_bd (freeP l s) (gap01 l (trimP l s.line) (endI l s.line)) (k + 1)
      have h2 := Go.Proofs.Ytmkgapdadandmaa.Sm.share_take_bd (freeP l s) (gap01 l (trimP l s.line) (endI l s.line)) k
      rw [Go.Proofs.Ytmkgapdadandmaa.Sm.take_sum _ k hk] at h1
      omega
    · rename_i h
      rw [if_neg h, List.length_replicate] at hk
      rw [List.getD_eq_getElem?_getD, List.getElem?_replicate, if_pos hk]
      exact ⟨by decide, by decide⟩
  · rw [List.getD_eq_getElem?_getD, List.getElem?_eq_none (by omega)]
    exact ⟨by decide, by decide⟩
theorem trim_mild {l : List LI} {ps : List Pt} (hm : ∀ p, p ∈ ps → MildP p) (ht : ∀ p, p ∈ ps → 0 ≤ tailP l p ∧ tailP l p ≤ p.w) : ∀ p, p ∈ trimP l ps → MildP p := by
  intro p hp
  unfold trimP at hp
  split at hp
  · rename_i h
    rcases List.mem_or_eq_of_mem_set hp with hp | rfl
    · exact hm p hp
    · have hb := lastI_bd l ps ps.length
      have hlt : (endI l ps).toNat < ps.length := by have : endI l ps < (ps.length : Int) := hb.2; omega
      have hmem : endPt l ps ∈ ps := by unfold endPt; rw [List.getD_eq_getElem?_getD, List.getElem?_eq_getElem hlt]; exact List.getElem_mem _
      have h1 := hm _ hmem
      have h2 := ht _ hmem
      unfold MildP at h1 ⊢
      show 0 ≤ (endPt l ps).w - tailP l (endPt l ps) ∧ (endPt l ps).w - tailP l (endPt l ps) ≤ 16777216
      omega
  · exact hm p hp
theorem pcs_bd {l : List LI} {ps : List Pt} {gs : List Int} (hm : ∀ p, p ∈ ps → MildP p) (hg : ∀ k, -33554432 ≤ gs.getD k 0 ∧ gs.getD k 0 ≤ 33554432) : ∀ k, k ≤ ps.length → -(67108864 * (k : Int)) ≤ (pcsP l ps gs k).1 ∧ (pcsP l ps gs k).1 ≤ 67108864 * (k : Int) ∧ (pcsP l ps gs k).2.length ≤ k := by
  intro k
  induction k with
  | zero => intro _; exact ⟨Int.le_refl _, Int.le_refl _, Nat.le_refl _⟩
  | succ k ih =>
    intro hk
    have h1 := ih (by omega)
    have h2 := hm (ps.getD k zPt) (by rw [List.getD_eq_getElem?_getD, List.getElem?_eq_getElem (by omega)]; exact List.getElem_mem _)
    have h3 := hg k
    unfold MildP at h2
    show -(67108864 * ((k + 1 : Nat) : Int)) ≤ (pcS l ps gs (pcsP l ps gs k) k).1 ∧ (pcS l ps gs (pcsP l ps gs k) k).1 ≤ 67108864 * ((k + 1 : Nat) : Int) ∧ (pcS l ps gs (pcsP l ps gs k) k).2.length ≤ k + 1
    unfold pcS
    simp only
    refine ⟨by omega, by omega, ?_⟩
    split
    · omega
    · rw [List.length_append, List.length_singleton]; omega
end Go.Proofs.Ytmkgapdadandmaa.Lin
