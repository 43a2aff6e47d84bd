/- Package lines: Groups: how wide groups of items are. -/
import Derived.Test.YtmkgapdadandmaaGroups
import Derived.Test.YtmkgapdadandmaaBack
import Derived.Test.YtmkgapdadandmaaSizes
namespace Go.Proofs.Ytmkgapdadandmaa.Lin
open Go.RowKit Go.Lib Go.Proofs.Ytmkgapdadandmaa.Pl Go.Proofs.Ytmkgapdadandmaa.Fx Go.Proofs.Ytmkgapdadandmaa.Fnt Go.Proofs.Ytmkgapdadandmaa.Rgn Go.Proofs.Ytmkgapdadandmaa.Siz Go.Proofs.YtmkgapdadandmaaW.PrintWords Go.Proofs.YtmkgapdadandmaaW.PrintLast Go.Proofs.YtmkgapdadandmaaW.PrintMore
set_option linter.unusedVariables false
set_option linter.unusedSimpArgs false
attribute [local go_sem] mx2 mn2 mx_two mn_two mx_three mn_three

def sub (ps : List Pt) (p : Nat × Nat) : List Pt := (ps.take p.2).drop p.1
def mkG (l : List LI) (ps : List Pt) (p : Nat × Nat) : S49 := ⟨wAll (sub ps p), gtailP l (sub ps p), kd l ps (p.2 - 1) == 6⟩
theorem sub_len {ps : List Pt} {p : Nat × Nat} (h2 : p.2 ≤ ps.length) : (sub ps p).length = p.2 - p.1 := by
  unfold sub; rw [List.length_drop, List.length_take]; omega
theorem sub_get {ps : List Pt} {p : Nat × Nat} (h2 : p.2 ≤ ps.length) {i : Nat} (hi : i < p.2 - p.1) : (sub ps p).getD i zPt = ps.getD (p.1 + i) zPt := by
  unfold sub
  rw [List.getD_eq_getElem?_getD, List.getD_eq_getElem?_getD, List.getElem?_drop, List.getElem?_take, if_pos (by omega)]
theorem sub_mem {ps : List Pt} {p : Nat × Nat} {x : Pt} (h : x ∈ sub ps p) : x ∈ ps := List.mem_of_mem_take (List.mem_of_mem_drop h)
theorem sub_C {ad g : Addr} {w : World} {n c : Nat} {ps : List Pt} (h : Kd.C (kPt ad) w (some g) n ps) (hc : n ≤ c) {p : Nat × Nat} (h1 : p.1 < p.2) (h2 : p.2 ≤ n) : Kd.C (kPt ad) w (some (g.add (p.1 * 5))) (p.2 - p.1) (sub ps p) := by
  have hn := h.1
  subst hn
  have := Kd.C_mid (c := c) h (Nat.le_of_lt h1) h2 hc
  rw [if_neg (by omega)] at this
  rw [show ((ps.take p.2).drop p.1).length = p.2 - p.1 from sub_len h2] at this
  exact this
theorem infoGp : (Try.prog.info? 49).map (fun i => (i.zero, i.size, i.bytes)) = some (some (.agg #[.int .i64 0, .int .i64 0, .bool false]), k49.sz, 24) := by kernel_rfl
theorem grAt {g : Addr} {c : Nat} {w : World} {A : Option Addr} {n : Nat} {xs : List (Nat × Nat)} (h : Kd.C (kGr g c) w A n xs) (i : Nat) (hi : i < n) : ∃ q : Addr, A = some q ∧ w.cell? (q.add i) = some (grV g c (xs.getD i (0, 0))) := by
  obtain ⟨q, cs, e, _, hK, hc0⟩ := Kd.C_get h (0, 0) (i : Int) (by omega) (by omega)
  rw [Int.toNat_natCast] at hK hc0
  have hK2 : cs = [grV g c (xs.getD i (0, 0))] := hK
  subst hK2
  have := hc0 0 _ rfl
  exact ⟨q, e, by rw [show i * (kGr g c).sz + 0 = i from Nat.mul_one i] at this; exact this⟩
def GsPost (Pc : ByteArray → Int → List ByteArray → Prop) (l : List LI) (w : World) (e : Ending) (w' : World) : Prop := ∃ v ps, e = .returned v ∧ PartsTo Pc l l.length ps ∧ Kd.R k49 49 w' w.heap.size (fun _ => True) v ((groupsP l ps).map (mkG l ps)) ∧ Below w.heap.size w w'
/-- What every parts' list has. -/
def PsOK (Pc : ByteArray → Int → List ByteArray → Prop) (l : List LI) : Prop := ∀ ps, PartsTo Pc l l.length ps → OKP l.length ps ∧ ∀ p, p ∈ ps → MildP p

set_option maxRecDepth 100000 in
set_option maxHeartbeats 4000000 in
theorem Groups_c (Pc : ByteArray → Int → List ByteArray → Prop) (hpc : PcOK Pc) (hpi : PieOK Pc) (A : Option Addr) (ad : Addr) (nl cl : Nat) (l : List LI) (w : World) (hL : Kd.C k27 w A nl l) (hA : nl ≠ 0 → A = some ad) (hn : nl ≤ 90) (hs : ∀ x, x ∈ l → x.f2.size ≤ 1000) (hok : PsOK Pc l) :
    Calls Try.prog 16 #[.slice A nl cl] w (GsPost Pc l w) := by
  have hln : l.length = nl := hL.1
  have PAR := Lib.hid (parts_c Pc hpc hpi A ad nl cl l w hL hA hn hs)
  have LN := Lib.hid hln
  have HL := Lib.hid hL
  have HA := Lib.hid hA
  have OK := Lib.hid hok
  have PC := Lib.hid hpc
  clear hL hA hs hok hpi hpc hln
  go_enter Try.func16, Try.ntmps16
  go_wp2_with fail
  refine PAR.out.mono ?_
  rintro e w1 ⟨v, ps, rfl, hR, hPT, hB⟩
  obtain ⟨Ap, cp, rfl, hcp, hC⟩ := Kd.R_reads hR
  obtain ⟨ok1, ok2⟩ := OK.out ps hPT
  have hpl := parts_len PC.out _ ps hPT
  rw [LN.out] at ok1 hpl
  obtain ⟨n, hn2⟩ : ∃ n, ps.length = n := ⟨_, rfl⟩
  rw [hn2] at hcp hC hpl ⊢
  have hn1 : n ≤ 100000 := by omega
  have HC := Lib.hid hC
  have PT := Lib.hid hPT
  have B1 := Lib.hid hB
  have OK1 := Lib.hid ok1
  have OK2 := Lib.hid ok2
  have PN := Lib.hid hn2
  have hLs : Kd.C k27 w (some ad) nl l := by
    by_cases h0 : nl = 0
    · exact ⟨HL.out.1, HL.out.2.1, fun h => absurd h (by omega)⟩
    · rw [← HA.out h0]; exact HL.out
  have hL1 := Kd.C_below hLs hB
  clear hR hC hPT hB ok1 ok2 PAR hpl hn2
  obtain ⟨g, hg⟩ : ∃ g : Addr, n ≠ 0 → Ap = some g := by
    by_cases hz : n = 0
    · exact ⟨ad, fun h => absurd hz h⟩
    · obtain ⟨g, e, _⟩ := HC.out.2.2 (by omega)
      exact ⟨g, fun _ => e⟩
  have GRS := Lib.hid (groups_c ad g Ap n cp nl l ps w1 HC.out hg hL1 OK1.out hn1 hcp)
  have HL1 := Lib.hid hL1
  have HG := Lib.hid hg
  have HCP := Lib.hid hcp
  clear hL1 hg hcp HL HA hLs
  go_wp2_with fail
  refine GRS.out.mono ?_
  rintro e w2 ⟨v2, rfl, hR2, hB2⟩
  obtain ⟨Ag, cg, rfl, hcg, hC2⟩ := Kd.R_reads hR2
  have hgb := gS_bd l ps n
  rw [← PN.out] at hgb
  obtain ⟨hgb1, hgb2, hgb3⟩ := hgb
  have hgb2 : (groupsP l ps).length ≤ ps.length := hgb2
  have hgb3 : ∀ p, p ∈ groupsP l ps → p.1 < p.2 ∧ p.2 ≤ ps.length := hgb3
  rw [PN.out] at hgb2 hgb3
  have POST : Hid (∀ vv ww, Kd.R k49 49 ww w2.heap.size (fun _ => True) vv ((groupsP l ps).map (mkG l ps)) → Below w2.heap.size w2 ww → GsPost Pc l w (.returned vv) ww) := Lib.hid (fun vv ww h1 h2 => ⟨vv, ps, rfl, PT.out, Kd.R_lower h1 (by have := B1.out.size; have := hB2.size; omega), below_then (below_then B1.out B1.out.size hB2) (by have := B1.out.size; have := hB2.size; omega) h2⟩)
  obtain ⟨grs, hgrs⟩ : ∃ grs, groupsP l ps = grs := ⟨_, rfl⟩
  rw [hgrs] at hC2 hgb2 hgb3 POST ⊢
  obtain ⟨m, hm⟩ : ∃ m, grs.length = m := ⟨_, rfl⟩
  rw [hm] at hC2 hgb2 ⊢
  have hml : m ≤ 100000 := by omega
  have C2 := Lib.hid hC2
  have GB := Lib.hid hgb3
  have GM := Lib.hid hm
  have CP2 := Lib.hid (Kd.C_below HC.out hB2)
  have CL2 := Lib.hid (Kd.C_below HL1.out hB2)
  clear hC2 hgb3 hm hR2 hB2 hgb1 hgrs GRS PT HC HL1 hcg
  go_wp2_with fail
  go_loopw [3, 10] (fun ov iv wr => ∃ k : Nat, k ≤ m ∧ iv = .int .i64 k ∧ Hid (Kd.R k49 49 wr w2.heap.size (fun _ => True) ov ((grs.take k).map (mkG l ps))) ∧ Hid (Below w2.heap.size w2 wr)) (fun _ iv _ => m - (RowKit.intOf iv).toNat)
  case atStart => exact ⟨0, Nat.zero_le _, rfl, Kd.R_nil _ _ _ _ _, Below.refl _ _⟩
  case round =>
    obtain ⟨k, hk, rfl, hR, hB⟩ := hrel
    by_cases hlt : k < m
    · obtain ⟨q, eq, x0⟩ := grAt (Kd.C_below C2.out hB.out) k hlt
      subst eq
      have hkl : k < grs.length := by rw [GM.out]; exact hlt
      have hp := GB.out (grs.getD k (0, 0)) (by rw [List.getD_eq_getElem?_getD, List.getElem?_eq_getElem hkl]; exact List.getElem_mem _)
      have hsn : (grs.take (k + 1)).map (mkG l ps) = (grs.take k).map (mkG l ps) ++ [mkG l ps (grs.getD k (0, 0))] := by
        rw [List.take_succ_eq_append_getElem hkl, List.map_append, List.getD_eq_getElem?_getD, List.getElem?_eq_getElem hkl]; rfl
      have hll : ((grs.take k).map (mkG l ps)).length ≤ 100000 := by rw [List.length_map, List.length_take]; omega
      generalize grs.getD k (0, 0) = p at *
      generalize (grs.take k).map (mkG l ps) = O at *
      obtain ⟨a, b⟩ := p
      simp only at hp
      obtain rfl : Ap = some g := HG.out (by omega)
      unfold grV at x0
      simp only at x0
      have WID := Lib.hid fun W (h : Below w2.heap.size w2 W) => width_c ad (some (g.add (a * 5))) (b - a) (cp - a) (sub ps (a, b)) W (sub_C (Kd.C_below CP2.out h) HCP.out hp.1 hp.2) (by omega) (fun p hp => OK2.out p (sub_mem hp))
      have TL := Lib.hid fun W (h : Below w2.heap.size w2 W) => gtail_c ad (g.add (a * 5)) (b - a) (cp - a) nl l (sub ps (a, b)) W (sub_C (Kd.C_below CP2.out h) HCP.out hp.1 hp.2) (Kd.C_below CL2.out h) (fun p hp => OK1.out p (sub_mem hp)) (fun p hp => OK2.out p (sub_mem hp)) (by omega) (by omega)
      obtain ⟨q', z0, z1⟩ := kindAt (sub_C CP2.out HCP.out (p := (a, b)) hp.1 hp.2) CL2.out (fun p hp => OK1.out p (sub_mem hp)) (b - a - 1) (by show b - a - 1 < b - a; omega)
      have hkd : kd l (sub ps (a, b)) (b - a - 1) = kd l ps (b - 1) := by
        unfold kd
        rw [sub_get (p := (a, b)) (by rw [PN.out]; exact hp.2) (by show b - a - 1 < b - a; omega)]
        show (itm l (ps.getD (a + (b - a - 1)) zPt)).f0 = _
        rw [show a + (b - a - 1) = b - 1 by omega]
      rw [hkd] at z1
      rw [show mkG l ps (a, b) = ⟨wAll (sub ps (a, b)), gtailP l (sub ps (a, b)), kd l ps (b - 1) == 6⟩ from rfl] at hsn
      obtain ⟨N, hN⟩ : ∃ N, b - a = N := ⟨_, rfl⟩
      obtain ⟨nm, hnm⟩ : ∃ nm, N - 1 = nm := ⟨_, rfl⟩
      have hN1 : 0 < N := by omega
      have hN2 : N ≤ 100000 := by omega
      have hnn : (N : Int) - 1 = (nm : Int) := by omega
      rw [hN] at x0 WID TL z0
      rw [hnm] at z0
      generalize g.add (a * 5) = g' at *
      generalize cp - a = cG at *
      have w1b : wAll (sub ps (a, b)) = wAll (sub ps (a, b)) := rfl
      generalize wAll (sub ps (a, b)) = wv at *
      generalize gtailP l (sub ps (a, b)) = tv at *
      generalize kd l ps (b - 1) = kv at *
      have SN := Lib.hid hsn
      have OL := Lib.hid hll
      have Z0 := Lib.hid z0
      have Z1 := Lib.hid z1
      clear hsn hll z0 z1 hkd w1b hN hnm hp hkl
      go_wp2_with fail
      refine wp_region_held_drew (S := fun W => Below w2.heap.size w2 W) (by kernel_rfl) hB.out.drew (fun hHeld => ?_)
      refine wpAnyH_take (i := 0) (v := u3) rfl (by kernel_rfl) (by kernel_rfl) (by kernel_rfl) (fun _ _ _ h => h) (y_move (by rfl) rfl rfl) hHeld ?_
      try simp only [Act.put, List.getElem_toArray, List.getElem_cons_succ, List.getElem_cons_zero, List.setIfInBounds_toArray, List.set_cons_zero, List.set_cons_succ]
      refine wpAnyH_take (i := 1) (v := .slice (some g') N cG) rfl (by kernel_rfl) (by kernel_rfl) (by kernel_rfl) (fun _ _ _ h => h) (y_move (by rfl) rfl rfl) hHeld ?_
      try simp only [Act.put, List.getElem_toArray, List.getElem_cons_succ, List.getElem_cons_zero, List.setIfInBounds_toArray, List.set_cons_zero, List.set_cons_succ]
      refine wpAnyH_take (i := 3) (v := .slice (some g') N cG) rfl (by kernel_rfl) (by kernel_rfl) (by kernel_rfl) (fun _ _ _ h => h) (y_move (by rfl) rfl rfl) hHeld ?_
      try simp only [Act.put, List.getElem_toArray, List.getElem_cons_succ, List.getElem_cons_zero, List.setIfInBounds_toArray, List.set_cons_zero, List.set_cons_succ]
      refine wpAnyH_take (i := 5) (v := .slice (some g') N cG) rfl (by kernel_rfl) (by kernel_rfl) (by kernel_rfl) (fun _ _ _ h => h) (y_move (by rfl) rfl rfl) hHeld ?_
      try simp only [Act.put, List.getElem_toArray, List.getElem_cons_succ, List.getElem_cons_zero, List.setIfInBounds_toArray, List.set_cons_zero, List.set_cons_succ]
      refine wpAnyH_take (i := 6) (v := .slice (some g') N cG) rfl (by kernel_rfl) (by kernel_rfl) (by kernel_rfl) (fun _ _ _ h => h) (y_move (by rfl) rfl rfl) hHeld ?_
      try simp only [Act.put, List.getElem_toArray, List.getElem_cons_succ, List.getElem_cons_zero, List.setIfInBounds_toArray, List.set_cons_zero, List.set_cons_succ]
      refine wpAnyH_take (i := 7) (v := .int .i64 (N : Int)) rfl (by kernel_rfl) (by kernel_rfl) (by kernel_rfl) (fun _ _ _ h => h) (y_run (by rfl) (fun w _ => by unfold execOp; go_simp)) hHeld ?_
      try simp only [Act.put, List.getElem_toArray, List.getElem_cons_succ, List.getElem_cons_zero, List.setIfInBounds_toArray, List.set_cons_zero, List.set_cons_succ]
      refine wpAnyH_take (i := 8) (v := .int .i64 (nm : Int)) rfl (by kernel_rfl) (by kernel_rfl) (by kernel_rfl) (fun _ _ _ h => h) (y_sub (by rfl) rfl rfl rfl hnn (by omega) (by omega)) hHeld ?_
      try simp only [Act.put, List.getElem_toArray, List.getElem_cons_succ, List.getElem_cons_zero, List.setIfInBounds_toArray, List.set_cons_zero, List.set_cons_succ]
      refine wpAnyH_take (i := 9) (v := .pointer (some (g'.add (nm * 5)))) rfl (by kernel_rfl) (by kernel_rfl) (by kernel_rfl) (fun _ _ _ h => h) (y_run (by rfl) (fun w _ => by have hlt9 : nm < N := (by omega); unfold execOp; go_simp)) hHeld ?_
      try simp only [Act.put, List.getElem_toArray, List.getElem_cons_succ, List.getElem_cons_zero, List.setIfInBounds_toArray, List.set_cons_zero, List.set_cons_succ]
      refine wpAnyH_take (i := 10) (v := .pointer (some (g'.add (nm * 5)))) rfl (by kernel_rfl) (by kernel_rfl) (by kernel_rfl) (fun _ _ _ h => h) (y_run (by rfl) (fun w _ => by unfold execOp; go_simp)) hHeld ?_
      try simp only [Act.put, List.getElem_toArray, List.getElem_cons_succ, List.getElem_cons_zero, List.setIfInBounds_toArray, List.set_cons_zero, List.set_cons_succ]
      refine wpAnyH_take (i := 11) (v := .pointer (some q')) rfl (by kernel_rfl) (by kernel_rfl) (by kernel_rfl) (fun _ _ _ h => h) (y_run (by rfl) (fun w h => by have c := pw_cell_below h Z0.out; unfold execOp; go_simp)) hHeld ?_
      try simp only [Act.put, List.getElem_toArray, List.getElem_cons_succ, List.getElem_cons_zero, List.setIfInBounds_toArray, List.set_cons_zero, List.set_cons_succ]
      refine wpAnyH_take (i := 12) (v := .pointer (some q')) rfl (by kernel_rfl) (by kernel_rfl) (by kernel_rfl) (fun _ _ _ h => h) (y_run (by rfl) (fun w _ => by unfold execOp; go_simp)) hHeld ?_
      try simp only [Act.put, List.getElem_toArray, List.getElem_cons_succ, List.getElem_cons_zero, List.setIfInBounds_toArray, List.set_cons_zero, List.set_cons_succ]
      refine wpAnyH_take (i := 13) (v := .pointer (some q')) rfl (by kernel_rfl) (by kernel_rfl) (by kernel_rfl) (fun _ _ _ h => h) (y_run (by rfl) (fun w _ => by unfold execOp; go_simp)) hHeld ?_
      try simp only [Act.put, List.getElem_toArray, List.getElem_cons_succ, List.getElem_cons_zero, List.setIfInBounds_toArray, List.set_cons_zero, List.set_cons_succ]
      refine wpAnyH_take (i := 14) (v := .int .i64 kv) rfl (by kernel_rfl) (by kernel_rfl) (by kernel_rfl) (fun _ _ _ h => h) (y_run (by rfl) (fun w h => by have c := pw_cell_below h Z1.out; unfold execOp; go_simp)) hHeld ?_
      try simp only [Act.put, List.getElem_toArray, List.getElem_cons_succ, List.getElem_cons_zero, List.setIfInBounds_toArray, List.set_cons_zero, List.set_cons_succ]
      refine wpAnyH_take (i := 15) (v := .bool (kv == 6)) rfl (by kernel_rfl) (by kernel_rfl) (by kernel_rfl) (fun _ _ _ h => h) (y_run (by rfl) (fun w h => by unfold execOp; go_simp)) hHeld ?_
      try simp only [Act.put, List.getElem_toArray, List.getElem_cons_succ, List.getElem_cons_zero, List.setIfInBounds_toArray, List.set_cons_zero, List.set_cons_succ]
      refine wpAnyH_ready (rs := [2]) (by kernel_rfl) (by simp) ?_
      refine AllReadyH.cons rfl (fun K hK => ?_) AllReadyH.nil
      try simp only [Act.put, List.getElem_toArray, List.getElem_cons_succ, List.getElem_cons_zero, List.setIfInBounds_toArray, List.set_cons_zero, List.set_cons_succ]
      try rw [if_pos (by rfl)]
      go_simp
      refine (WID.out _ hHeld).mono ?_
      rintro e w4 ⟨rfl, h4⟩
      refine hK.out _ _ (below_then hHeld (Below.size hHeld) h4) (fun hHeld => ?_)
      clear hK K
      try simp only [Act.put, List.getElem_toArray, List.getElem_cons_succ, List.getElem_cons_zero, List.setIfInBounds_toArray, List.set_cons_zero, List.set_cons_succ]
      refine wpAnyH_ready (rs := [4]) (by kernel_rfl) (by simp) ?_
      refine AllReadyH.cons rfl (fun K hK => ?_) AllReadyH.nil
      try simp only [Act.put, List.getElem_toArray, List.getElem_cons_succ, List.getElem_cons_zero, List.setIfInBounds_toArray, List.set_cons_zero, List.set_cons_succ]
      try rw [if_pos (by rfl)]
      go_simp
      refine (TL.out _ hHeld).mono ?_
      rintro e w5 ⟨rfl, h5⟩
      refine hK.out _ _ (below_then hHeld (Below.size hHeld) h5) (fun hHeld => ?_)
      clear hK K
      try simp only [Act.put, List.getElem_toArray, List.getElem_cons_succ, List.getElem_cons_zero, List.setIfInBounds_toArray, List.set_cons_zero, List.set_cons_succ]
      refine wpAnyH_take (i := 16) (v := .agg #[.int .i64 wv, .int .i64 tv, .bool (kv == 6)]) rfl (by kernel_rfl) (by kernel_rfl) (by kernel_rfl) (fun _ _ _ h => h) (y_run (by rfl) (fun w _ => by unfold execOp; go_simp)) hHeld ?_
      try simp only [Act.put, List.getElem_toArray, List.getElem_cons_succ, List.getElem_cons_zero, List.setIfInBounds_toArray, List.set_cons_zero, List.set_cons_succ]
      have O5 := Lib.hid (Kd.R_below (Kd.R_below (Kd.R_drew hR.out) h4) h5)
      have B5 := Lib.hid hHeld
      clear hR hB h4 h5
      generalize (kv == 6) = bl at *
      refine wpAnyH_ready (rs := [17]) (by kernel_rfl) (by simp) ?_
      refine AllReadyH.cons rfl (fun K hK => ?_) AllReadyH.nil
      try simp only [Act.put, List.getElem_toArray, List.getElem_cons_succ, List.getElem_cons_zero, List.setIfInBounds_toArray, List.set_cons_zero, List.set_cons_succ]
      try rw [if_pos (by rfl)]
      go_simp
      refine hK.out _ _ (below_then hHeld (Below.size hHeld) (below_alloc (Below.refl _ _) _)) (fun hHeld => ?_)
      clear hK K
      try simp only [Act.put, List.getElem_toArray, List.getElem_cons_succ, List.getElem_cons_zero, List.setIfInBounds_toArray, List.set_cons_zero, List.set_cons_succ]
      refine wpAnyH_ready (rs := [18]) (by kernel_rfl) (by simp) ?_
      refine AllReadyH.cons rfl (fun K hK => ?_) AllReadyH.nil
      try simp only [Act.put, List.getElem_toArray, List.getElem_cons_succ, List.getElem_cons_zero, List.setIfInBounds_toArray, List.set_cons_zero, List.set_cons_succ]
      rw [if_pos (by rfl)]
      refine append_wp k49 (w0 := w2) w2.heap.size ?_ (.tmp 14) (.tmp 31) 46 49 _ 24 ?_ Try.underlying46 infoGp rfl (by decide) (by decide) u3 O ⟨wv, tv, bl⟩ [.int .i64 wv, .int .i64 tv, .bool bl] (fun _ => True) (fun _ => False) ?_ ?_ (k49_mkM _ _ _ ⟨wv, tv, bl⟩) (fun _ h => h.elim) (fun _ _ => trivial) O5.out B5.out B5.out.size (by have := OL.out; omega) ?_
      · rfl
      · rfl
      · rfl
      · rfl
      intro v1 w6 hO1 hB1 hG1
      have O6 := Lib.hid hO1
      have B6 := Lib.hid hB1
      clear hO1 hG1
      refine hK.out _ _ hB1 (fun hHeld => ?_)
      clear hK K
      try simp only [Act.put, List.getElem_toArray, List.getElem_cons_succ, List.getElem_cons_zero, List.setIfInBounds_toArray, List.set_cons_zero, List.set_cons_succ]
      refine wpAnyH_take (i := 19) (v := v1) rfl (by kernel_rfl) (by kernel_rfl) (by kernel_rfl) (fun _ _ _ h => h) (y_assign (by rfl) rfl rfl) hHeld ?_
      try simp only [Act.put, List.getElem_toArray, List.getElem_cons_succ, List.getElem_cons_zero, List.setIfInBounds_toArray, List.set_cons_zero, List.set_cons_succ]
      refine wpAnyH_done (by kernel_rfl) ?_ _
      clear hHeld
      clear hB1
      go_wp2_with fail
      go_roundw
      case rel => exact ⟨k + 1, by omega, by go_num, by rw [SN.out]; exact O6.out, B6.out⟩
      case measure => simp [RowKit.intOf]; omega
    · obtain rfl : k = m := by omega
      have ht : grs.take k = grs := List.take_of_length_le (by rw [GM.out]; exact Nat.le_refl _)
      rw [ht] at hR
      go_wp2_with fail
      go_ret
      exact POST.out _ _ hR.out hB.out
end Go.Proofs.Ytmkgapdadandmaa.Lin
