/- Columns of tables: each cell has in its columns what it needs. For every input. -/
import Derived.Test.YtfkgpkkjiolfpaaRows
import Derived.Test.YtfkgpkkjiolfpaaTabSpanP
import Derived.Test.YtfkgpkkjiolfpaaTabColG
import Derived.Test.YtfkgpkkjiolfpaaTabTabled
import Derived.Test.YtfkgpkkjiolfpaaTabOp
import Derived.ProofKit
import Derived.OpenShut
import Derived.ShutString
import Derived.ChangeOld
import Derived.Below
import Derived.SizedLaws
import Derived.Deep.QuietTactic
import Derived.BigQuiet
namespace Go.Proofs.Ytfkgpkkjiolfpaa.TableSpans
open Go.RowKit Go.Lib Go.Proofs.Ytfkgpkkjiolfpaa.Opn Go.Proofs.Ytfkgpkkjiolfpaa.Tab Go.Proofs.Ytfkgpkkjiolfpaa.Rgn Go.Proofs.Ytfkgpkkjiolfpaa.Blk Go.Proofs.Ytfkgpkkjiolfpaa.Pl Go.Proofs.Ytfkgpkkjiolfpaa.Fx Go.Proofs.Ytfkgpkkjiolfpaa.Sh Go.Proofs.Ytfkgpkkjiolfpaa.Sm Go.Proofs.YtfkgpkkjiolfpaaW.PrintWords Go.Proofs.YtfkgpkkjiolfpaaW.PrintLast Go.Proofs.YtfkgpkkjiolfpaaW.PrintMore
open Go.ChangeShapes Go.WideShapes Go.ChangeAt
set_option linter.unusedVariables false
set_option linter.unusedSimpArgs false
attribute [local go_sem] mx2 mn2 mx_two mn_two mx_three mn_three

theorem w64i {x : Int} (h1 : -9223372036854775808 ≤ x) (h2 : x ≤ 9223372036854775807) : wrap64 x = x := by unfold wrap64; omega
theorem w64s (x : Int) : wrap64 (IntKind.i16.wrap x) = IntKind.i16.wrap x := by have := i16b x; exact w64i (by omega) (by omega)
attribute [local go_sem] w64s
theorem infoR : (Try.prog.info? 50).map (fun i => (i.zero, i.size, i.bytes)) = some (some (.agg #[.int .i64 0, .int .i64 0, .int .i64 0]), k50.sz, 24) := by kernel_rfl
theorem infoRR : (Try.prog.info? 48).map (fun i => (i.zero, i.size, i.bytes)) = some (some (.slice none 0 0), kRow.sz, 24) := by kernel_rfl
theorem own_take (z : List (List LC)) (M : Nat) (h : M = min z.length 12) : (z.take M).map ownRow = ownP z := by
  unfold ownP
  by_cases e : z.length ≤ 12
  · rw [List.take_of_length_le (by omega), List.take_of_length_le (by omega)]
  · rw [show M = 12 by omega]
theorem row_take (l : List LC) (M : Nat) (h : M = min l.length 12) : (l.take M).map mkC = ownRow l := by
  unfold ownRow
  by_cases e : l.length ≤ 12
  · rw [List.take_of_length_le (by omega), List.take_of_length_le (by omega)]
  · rw [show M = 12 by omega]
theorem map_take_succ {α β : Type} (f : α → β) (l : List α) (k : Nat) (d : α) (h : k < l.length) : (l.take (k + 1)).map f = (l.take k).map f ++ [f (l.getD k d)] := by
  rw [List.take_succ_eq_append_getElem h, List.map_append]
  simp [List.getD_eq_getElem?_getD, h]

theorem cap_le {W : World} {base g n c : Nat} {xs : List Int} (h : W.ownsRow base 3 1 (.slice (some ⟨g, 0, none⟩) n c) n (nums .i64 xs)) : n ≤ c := by
  obtain ⟨A, cc, e, hl, -⟩ := own_reads_of_le (enc := Value.int .i64) (d := (0 : Int)) (xs := xs) h
  injection e with e1 e2 e3
  omega
set_option maxRecDepth 1000000 in
set_option maxHeartbeats 1000000 in
theorem walk (a0 : Option Addr) (len0 cap0 : Nat) (z0 : List (List LC)) (w : World) (e0 : len0 = z0.length) (c0 : len0 ≤ cap0) (i0 : Kd.C kRow w a0 len0 z0) :
    Calls Try.prog 8 #[.slice a0 len0 cap0] w fun e w' => e = .returned (.bool true) ∧ Below w.heap.size w w' := by
  have hlm : len0 ≤ 9223372036854775807 := i0.2.1
  obtain ⟨M, eM, m1, m2⟩ : ∃ M : Nat, min (len0 : Int) 12 = (M : Int) ∧ M ≤ len0 ∧ M ≤ 12 := ⟨min len0 12, by omega, by omega, by omega⟩
  have HM : Hid (M = min z0.length 12) := Lib.hid (by omega)
  have I0 := Lib.hid i0
  have E0 := Lib.hid e0
  clear i0 e0
  go_enter Try.func8, Try.ntmps8
  go_wp2_with fail
  go_loopw [3, 23] (fun v i wr => ∃ k : Nat, k ≤ M ∧ i = .int .i64 k ∧ Hid (Kd.R kRow 48 wr w.heap.size (fun _ => True) v ((z0.take k).map ownRow)) ∧ Hid (Below w.heap.size w wr)) (fun _ i _ => M - (RowKit.intOf i).toNat)
  case atStart => exact ⟨0, Nat.zero_le _, rfl, Kd.R_nil _ _ _ _ _, Below.refl _ _⟩
  case round =>
    obtain ⟨k, hk, rfl, hR, hB⟩ := hrel
    by_cases hlt : k < M
    · have hkz : k < z0.length := by have := E0.out; omega
      obtain ⟨ad, Ar, cr, ea, hx0, hle, hCr⟩ := Go.Proofs.Ytfkgpkkjiolfpaa.Tab.rowAt I0.out k (by omega)
      subst ea
      have hx := (hB.out.cell (World.block_lt_of_cell? w _ hx0)).trans hx0
      have hC2 := Kd.C_below hCr hB.out
      have hsn := map_take_succ ownRow z0 k [] hkz
      clear hx0 hCr
      generalize z0.getD k [] = l at *
      have hl1 : l.length ≤ 9223372036854775807 := hC2.2.1
      obtain ⟨m, em, n1, n2⟩ : ∃ m : Nat, min (l.length : Int) 12 = (m : Int) ∧ m ≤ l.length ∧ m ≤ 12 := ⟨min l.length 12, by omega, by omega, by omega⟩
      have hmr := row_take l m (by omega)
      have SN := Lib.hid hsn
      have MR := Lib.hid hmr
      have C2 := Lib.hid hC2
      have hlen : ((z0.take k).map ownRow).length ≤ 12 := by rw [List.length_map]; exact Nat.le_trans (List.length_take_le _ _) (by omega)
      generalize (z0.take k).map ownRow = os at *
      clear hsn hmr hC2 hkz
      obtain ⟨W, hW⟩ : ∃ W : World, W = wr := ⟨_, rfl⟩
      subst hW
      go_wp2_with fail
      go_loopw [6, 33] (fun u i wr => ∃ j : Nat, j ≤ m ∧ i = .int .i64 j ∧ Hid (Kd.R k50 50 wr W.heap.size (fun _ => True) u ((l.take j).map mkC)) ∧ Hid (Below W.heap.size W wr)) (fun _ i _ => m - (RowKit.intOf i).toNat)
      case atStart => exact ⟨0, Nat.zero_le _, rfl, Kd.R_nil _ _ _ _ _, Below.refl _ _⟩
      case round =>
        obtain ⟨j, hj, rfl, hR2, hB2⟩ := hrel
        by_cases hlt2 : j < m
        · obtain ⟨ad2, ea2, x0, x1, x2⟩ := at_T50 (Kd.C_below C2.out hB2.out) (j : Int) (by omega) (by omega)
          subst ea2
          have hsn := map_take_succ mkC l j z50 (by omega)
          have hrd : rd_T50 l (j : Int) = l.getD j z50 := by simp [rd_T50]
          rw [Int.toNat_natCast, hrd] at x0 x1 x2
          have hlk : ((l.take j).map mkC).length ≤ 12 := by rw [List.length_map]; exact Nat.le_trans (List.length_take_le _ _) (by omega)
          generalize l.getD j z50 = x at *
          generalize (l.take j).map mkC = us at *
          obtain ⟨y0, y1, y2⟩ := x
          simp only at x0 x1 x2
          have hme : mkC ⟨y0, y1, y2⟩ = ⟨IntKind.i16.wrap y0, IntKind.i16.wrap y1, y2 % 256 % 5 + 1⟩ := rfl
          rw [hme] at hsn
          have SN2 := Lib.hid hsn
          have hal := below_alloc (Below.refl wr.heap.size wr) (.cells #[.int .i64 y0, .int .i64 y1, .int .i64 y2] 50)
          have RA := Lib.hid (Kd.R_below hR2.out hal)
          have BA := Lib.hid (below_then hB2.out hB2.out.size hal)
          clear hsn hme hal hR2 hB2 hrd
          go_wp2_with (at_builtin; go_loud (refine Kd.R_append k50 (w0 := W) W.heap.size rfl (.tmp 37) (.tmp 53) 48 50 _ 24 rfl Try.underlying48 infoR rfl (by decide) (by decide) _ us ⟨IntKind.i16.wrap y0, IntKind.i16.wrap y1, y2 % 256 % 5 + 1⟩ [.int .i64 (IntKind.i16.wrap y0), .int .i64 (IntKind.i16.wrap y1), .int .i64 (y2 % 256 % 5 + 1)] (fun _ => True) (fun _ => False) rfl (by show Value.slice (some ⟨wr.heap.size + 1, 0, none⟩) 1 1 = _; rw [World.size_alloc]) (k50_mkM _ _ _ ⟨IntKind.i16.wrap y0, IntKind.i16.wrap y1, y2 % 256 % 5 + 1⟩) (fun _ h => h.elim) (fun _ _ => trivial) RA.out BA.out BA.out.size (by omega) ?_); intro v1 w1 hO1 hB1 hG1 hat1; have O1 := Lib.hid hO1; have B1 := Lib.hid hB1; clear hO1 hB1 hG1 hat1)
          go_roundw
          case rel => exact ⟨j + 1, by omega, by go_num, by rw [SN2.out]; exact O1.out, B1.out⟩
          case measure => simp [RowKit.intOf]; omega
        · obtain rfl : j = m := by omega
          rw [MR.out] at hR2
          have hW0 := hB.out.size
          obtain ⟨Au, cu, hu⟩ := Kd.R_slice hR2.out
          subst hu
          have hin : Kd.M kRow wr w.heap.size (fun k => W.heap.size ≤ k) (ownRow l) [.slice Au (ownRow l).length cu] := ⟨_, rfl, Kd.R_lower (Kd.R_mono (Kd.R_bound hR2.out) (fun q hq => hq.2.1)) hW0⟩
          have hob : ∀ q, u3.ownBlock = some q → q < W.heap.size := by
            obtain ⟨inner, ho⟩ := Kd.R_own hR.out
            exact own_lt ho
          have IN := Lib.hid hin
          have OB := Lib.hid hob
          have RB := Lib.hid (Kd.R_below hR.out hB2.out)
          have BB := Lib.hid (below_then hB.out hB.out.size hB2.out)
          clear hin hob hR hB hR2 hB2 hW0 MR
          generalize hol : (ownRow l).length = lo at *
          clear hol
          go_wp2_with (at_builtin; go_loud (refine Kd.R_append kRow (w0 := w) w.heap.size rfl (.tmp 56) (.tmp 58) 47 48 _ 24 rfl Try.underlying47 infoRR rfl (by decide) (by decide) _ os (ownRow l) [.slice Au lo cu] (fun _ => True) (fun k => W.heap.size ≤ k) rfl rfl IN.out (fun q hq => ⟨trivial, fun e => by have := OB.out q e.symm; omega⟩) (fun _ _ => trivial) RB.out BB.out BB.out.size (by omega) ?_); intro v1 w1 hO1 hB1 hG1 hat1; have O1 := Lib.hid hO1; have B1 := Lib.hid hB1; clear hO1 hB1 hG1 hat1)
          go_roundw
          case rel => exact ⟨k + 1, by omega, by go_num, by rw [SN.out]; exact O1.out, B1.out⟩
          case measure => simp [RowKit.intOf]; omega
    · obtain rfl : k = M := by omega
      rw [own_take z0 k HM.out] at hR
      obtain ⟨Ao, co, hv, hco, hCo⟩ := Kd.R_reads hR.out
      subst hv
      obtain ⟨w12, wmr⟩ := mild_own z0
      obtain ⟨n, hmany, hn100, hN, hok⟩ := span_rows (ownP z0) w12 wmr
      have CHK := Lib.hid (span_check (ownP z0) w12 wmr n hok)
      have COLS := Lib.hid (Cols_c Ao (ownP z0).length co (ownP z0) wr hCo (by omega) _ rfl n hn100 hN hok hmany)
      have HCO := Lib.hid hCo
      have WMR := Lib.hid wmr
      have B1 := hB
      clear hR hB hCo wmr hok hmany hN I0 HM E0
      generalize ownP z0 = rows at *
      obtain ⟨R, hR⟩ : ∃ R, rows.length = R := ⟨_, rfl⟩
      have hr1 := hR
      rw [hR] at COLS HCO hco w12 ⊢
      have HR := Lib.hid hR
      clear hR hr1
      go_wp2_with fail
      with_reducible refine COLS.out.mono ?_
      rintro e w2 ⟨v1, v2, ls, ms, rfl, hO1, hO2, hF, hB2⟩
      obtain ⟨A1, c1, rfl, hR1⟩ := own_reads hO1
      obtain ⟨A2, c2, rfl, hR2⟩ := own_reads hO2
      have HF := Lib.hid hF
      have hn1 : ls.length = n := hF.1
      have hn2 : ms.length = n := hF.2.1
      have B2 := Lib.hid (below_then B1.out B1.out.size hB2)
      have O12 := Lib.hid hO1
      have O22 := Lib.hid hO2
      have HC2 := Lib.hid (Kd.C_below HCO.out hB2)
      clear hF hO1 hO2 hR1 hR2 hB2 COLS HCO B1
      go_wp2_with fail
      refine (tabled_c w2).mono ?_
      rintro e w5 ⟨rfl, hB5⟩
      have B5 := Lib.hid (below_then B2.out B2.out.size hB5)
      have O15 := Lib.hid (pw_own_below O12.out hB5)
      have O25 := Lib.hid (pw_own_below O22.out hB5)
      have HC5 := Lib.hid (Kd.C_below HC2.out hB5)
      clear hB5 O12 O22 HC2 B2
      generalize hbb : wr.heap.size = bb at *
      clear hbb
      go_wp2_with fail
      go_loopw [77] (fun iv wv => ∃ i : Nat, i ≤ R ∧ iv = .int .i64 i ∧ Hid (Below w5.heap.size w5 wv)) (fun iv _ => R - (RowKit.intOf iv).toNat)
      case atStart => exact ⟨0, Nat.zero_le _, rfl, Below.refl _ _⟩
      case round =>
        obtain ⟨i, hi, rfl, hB⟩ := hrel
        by_cases hlti : i < R
        · obtain ⟨ad, Ar, cr, ea, hx0, hle, hCr⟩ := Go.Proofs.Ytfkgpkkjiolfpaa.Tab.rowAt HC5.out i hlti
          subst ea
          have hx := (hB.out.cell (World.block_lt_of_cell? w5 _ hx0)).trans hx0
          have hmem : rows.getD i [] ∈ rows := by
            rw [List.getD_eq_getElem?_getD, List.getElem?_eq_getElem (by have := HR.out; omega)]
            exact List.getElem_mem _
          have CK := Lib.hid (CHK.out ls ms HF.out _ hmem)
          have hrl := (WMR.out _ hmem).1
          generalize rows.getD i [] = r at *
          have CR := Lib.hid hCr
          clear hx0 hCr hmem
          go_wp2_with fail
          go_loopw [13, 83] (fun av jv wv => ∃ j : Nat, j ≤ r.length ∧ av = .int .i64 (pos r j) ∧ jv = .int .i64 j ∧ Hid (Below w5.heap.size w5 wv)) (fun av jv _ => r.length - (RowKit.intOf jv).toNat)
          case atStart => exact ⟨0, Nat.zero_le _, by rw [pos_zero], rfl, hB⟩
          case round =>
            obtain ⟨j, hj, hav, rfl, hB2⟩ := hrel
            by_cases hltj : j < r.length
            · obtain ⟨p, s, hp, hs, s1, s5, hpn, k0, k1⟩ := CK.out j hltj
              have hps := pos_succ r j hltj
              rw [hp, hs] at hps
              rw [hp] at hav
              subst hav
              obtain ⟨ad2, ea2, x0, x1, x2⟩ := at_T50 (Kd.C_below CR.out hB2.out) (j : Int) (by omega) (by omega)
              subst ea2
              have hrd : rd_T50 r (j : Int) = r.getD j z50 := by simp [rd_T50]
              rw [Int.toNat_natCast, hrd] at x0 x1 x2
              rw [hs] at x2
              have PS := Lib.hid hps
              generalize (r.getD j z50).f0 = f0 at *
              generalize (r.getD j z50).f1 = f1 at *
              clear hps hrd hs hp
              go_wp2_with fail
              obtain ⟨g1, c1', he1, hb1, hb1l⟩ := own_form O15.out (by omega)
              injection he1 with he1 he2 he3
              subst he1 he3
              obtain ⟨g2, c2', he1, hb2, hb2l⟩ := own_form O25.out (by omega)
              injection he1 with he1 he2' he3
              subst he1 he3
              have hcap1 := cap_le O15.out
              have hcap2 := cap_le O25.out
              obtain ⟨e, he⟩ : ∃ e, e = p + s := ⟨_, rfl⟩
              have HE : Hid ((p : Int) + (s : Int) = (e : Int)) := Lib.hid (by omega)
              have HES : Hid (e - p = s) := Lib.hid (by omega)
              have hpe : p ≤ e := by omega
              have hen : e ≤ n := by omega
              have hes : 1 ≤ e - p ∧ e - p ≤ 5 := by omega
              have hec1 : e ≤ c1 := by omega
              have hec2 : e ≤ c2 := by omega
              have t0 : decide ((n : Int) < (e : Int)) = false := decide_eq_false (by omega)
              have t0' : decide (n < e) = false := decide_eq_false (by omega)
              rw [← HES.out] at k0 k1
              have GL := HF.out.2.2.1
              have GM := HF.out.2.2.2.1
              have bl := sum_le 16777216 (by omega) (seg ls p (e - p)) 5 (by rw [seg_len _ _ _ (by omega)]; omega) (good_seg GL p (e - p))
              have bm := sum_le 16777216 (by omega) (seg ms p (e - p)) 5 (by rw [seg_len _ _ _ (by omega)]; omega) (good_seg GM p (e - p))
              have SL := Lib.hid fun (W : World) (h : W.ownsRow bb 3 1 (.slice (some ⟨g1, 0, none⟩) n c1) n (nums .i64 ls)) => sum_c W (some ⟨g1, p, none⟩) (e - p) (c1 - p) (seg ls p (e - p)) (seg_reads h p (e - p) (by omega) (by omega)) (fun q => by have := bl q; omega)
              have SM := Lib.hid fun (W : World) (h : W.ownsRow bb 3 1 (.slice (some ⟨g2, 0, none⟩) n c2) n (nums .i64 ms)) => sum_c W (some ⟨g2, p, none⟩) (e - p) (c2 - p) (seg ms p (e - p)) (seg_reads h p (e - p) (by omega) (by omega)) (fun q => by have := bm q; omega)
              generalize (seg ls p (e - p)).sum = sl at *
              generalize (seg ms p (e - p)).sum = sm at *
              have t1 : decide (sl < f0) = false := decide_eq_false (by omega)
              have t2 : decide (sm < max f0 f1) = false := decide_eq_false (by omega)
              have HB9 := Lib.hid (blk_drew (blk_new wr (.cells #[.int .i64 f0, .int .i64 f1, .int .i64 (s : Int)] 50)))
              have O1w := Lib.hid (pw_own_below (pw_own_below O15.out hB2.out) ((below_alloc (Below.refl wr.heap.size wr) (.cells #[.int .i64 f0, .int .i64 f1, .int .i64 (s : Int)] 50)).drew))
              have O2w := Lib.hid (pw_own_below (pw_own_below O25.out hB2.out) ((below_alloc (Below.refl wr.heap.size wr) (.cells #[.int .i64 f0, .int .i64 f1, .int .i64 (s : Int)] 50)).drew))
              have BW := Lib.hid ((below_alloc hB2.out (.cells #[.int .i64 f0, .int .i64 f1, .int .i64 (s : Int)] 50)).drew)
              have PS2 := PS
              clear GL GM bl bm k0 k1 x0 x1 x2 hB2 he PS
              obtain ⟨b, hb⟩ : ∃ b, wr.heap.size = b := ⟨_, rfl⟩
              rw [hb] at HB9 ⊢
              clear hb
              generalize wr.alloc (.cells #[.int .i64 f0, .int .i64 f1, .int .i64 (s : Int)] 50) = w6 at *
              have hc2 : w6.cell? ⟨b, 2, none⟩ = some (.int .i64 (s : Int)) := blk_cell HB9.out 2
              refine wp_region_held_drew (S := fun W => W.heap[b]? = some (.cells #[.int .i64 f0, .int .i64 f1, .int .i64 (s : Int)] 50 (0, 0))) (by kernel_rfl) HB9.out (fun hHeld => ?_)
              refine wpAnyH_take (i := 0) (v := .int .i64 (p : Int)) rfl (by kernel_rfl) (by kernel_rfl) (by kernel_rfl) (fun _ _ _ h => h) (y_move (by rfl) rfl rfl) hHeld ?_
              try simp only [Act.put, List.getElem_toArray, List.getElem_cons_succ, List.getElem_cons_zero, List.setIfInBounds_toArray, List.set_cons_zero, List.set_cons_succ]
              refine wpAnyH_take (i := 1) (v := .pointer (some ⟨b, 2, none⟩)) rfl (by kernel_rfl) (by kernel_rfl) (by kernel_rfl) (fun _ _ _ h => h) (y_run (by rfl) (fun w _ => by unfold execOp; go_simp)) hHeld ?_
              try simp only [Act.put, List.getElem_toArray, List.getElem_cons_succ, List.getElem_cons_zero, List.setIfInBounds_toArray, List.set_cons_zero, List.set_cons_succ]
              refine wpAnyH_take (i := 2) (v := .int .i64 (s : Int)) rfl (by kernel_rfl) (by kernel_rfl) (by kernel_rfl) (fun _ _ _ h => h) (y_load (by rfl) rfl rfl (fun _ h => blk_cell h 2)) hHeld ?_
              try simp only [Act.put, List.getElem_toArray, List.getElem_cons_succ, List.getElem_cons_zero, List.setIfInBounds_toArray, List.set_cons_zero, List.set_cons_succ]
              refine wpAnyH_take (i := 3) (v := .int .i64 (e : Int)) rfl (by kernel_rfl) (by kernel_rfl) (by kernel_rfl) (fun _ _ _ h => h) (y_add (by rfl) rfl rfl rfl HE.out (by omega) (by omega)) hHeld ?_
              try simp only [Act.put, List.getElem_toArray, List.getElem_cons_succ, List.getElem_cons_zero, List.setIfInBounds_toArray, List.set_cons_zero, List.set_cons_succ]
              refine wpAnyH_take (i := 4) (v := .slice (some ⟨g1, 0, none⟩) n c1) rfl (by kernel_rfl) (by kernel_rfl) (by kernel_rfl) (fun _ _ _ h => h) (y_move (by rfl) rfl rfl) hHeld ?_
              try simp only [Act.put, List.getElem_toArray, List.getElem_cons_succ, List.getElem_cons_zero, List.setIfInBounds_toArray, List.set_cons_zero, List.set_cons_succ]
              refine wpAnyH_take (i := 5) (v := .int .i64 (n : Int)) rfl (by kernel_rfl) (by kernel_rfl) (by kernel_rfl) (fun _ _ _ h => h) (y_run (by rfl) (fun w _ => by unfold execOp; go_simp)) hHeld ?_
              try simp only [Act.put, List.getElem_toArray, List.getElem_cons_succ, List.getElem_cons_zero, List.setIfInBounds_toArray, List.set_cons_zero, List.set_cons_succ]
              refine wpAnyH_take (i := 6) (v := .bool false) rfl (by kernel_rfl) (by kernel_rfl) (by kernel_rfl) (fun _ _ _ h => h) (y_run (by rfl) (fun w _ => by unfold execOp; go_simp)) hHeld ?_
              try simp only [Act.put, List.getElem_toArray, List.getElem_cons_succ, List.getElem_cons_zero, List.setIfInBounds_toArray, List.set_cons_zero, List.set_cons_succ]
              refine wpAnyH_take (i := 7) (v := .bool false) rfl (by kernel_rfl) (by kernel_rfl) (by kernel_rfl) (fun _ _ _ h => h) (y_move (by rfl) rfl rfl) hHeld ?_
              try simp only [Act.put, List.getElem_toArray, List.getElem_cons_succ, List.getElem_cons_zero, List.setIfInBounds_toArray, List.set_cons_zero, List.set_cons_succ]
              refine wpAnyH_take (i := 8) (v := .slice (some ⟨g1, 0, none⟩) n c1) rfl (by kernel_rfl) (by kernel_rfl) (by kernel_rfl) (fun _ _ _ h => h) (y_move (by rfl) rfl rfl) hHeld ?_
              try simp only [Act.put, List.getElem_toArray, List.getElem_cons_succ, List.getElem_cons_zero, List.setIfInBounds_toArray, List.set_cons_zero, List.set_cons_succ]
              refine wpAnyH_take (i := 9) (v := .int .i64 (p : Int)) rfl (by kernel_rfl) (by kernel_rfl) (by kernel_rfl) (fun _ _ _ h => h) (y_move (by rfl) rfl rfl) hHeld ?_
              try simp only [Act.put, List.getElem_toArray, List.getElem_cons_succ, List.getElem_cons_zero, List.setIfInBounds_toArray, List.set_cons_zero, List.set_cons_succ]
              refine wpAnyH_take (i := 10) (v := .int .i64 (p : Int)) rfl (by kernel_rfl) (by kernel_rfl) (by kernel_rfl) (fun _ _ _ h => h) (y_move (by rfl) rfl rfl) hHeld ?_
              try simp only [Act.put, List.getElem_toArray, List.getElem_cons_succ, List.getElem_cons_zero, List.setIfInBounds_toArray, List.set_cons_zero, List.set_cons_succ]
              refine wpAnyH_take (i := 11) (v := .pointer (some ⟨b, 2, none⟩)) rfl (by kernel_rfl) (by kernel_rfl) (by kernel_rfl) (fun _ _ _ h => h) (y_run (by rfl) (fun w _ => by unfold execOp; go_simp)) hHeld ?_
              try simp only [Act.put, List.getElem_toArray, List.getElem_cons_succ, List.getElem_cons_zero, List.setIfInBounds_toArray, List.set_cons_zero, List.set_cons_succ]
              refine wpAnyH_take (i := 12) (v := .int .i64 (s : Int)) rfl (by kernel_rfl) (by kernel_rfl) (by kernel_rfl) (fun _ _ _ h => h) (y_load (by rfl) rfl rfl (fun _ h => blk_cell h 2)) hHeld ?_
              try simp only [Act.put, List.getElem_toArray, List.getElem_cons_succ, List.getElem_cons_zero, List.setIfInBounds_toArray, List.set_cons_zero, List.set_cons_succ]
              refine wpAnyH_take (i := 13) (v := .int .i64 (e : Int)) rfl (by kernel_rfl) (by kernel_rfl) (by kernel_rfl) (fun _ _ _ h => h) (y_add (by rfl) rfl rfl rfl HE.out (by omega) (by omega)) hHeld ?_
              try simp only [Act.put, List.getElem_toArray, List.getElem_cons_succ, List.getElem_cons_zero, List.setIfInBounds_toArray, List.set_cons_zero, List.set_cons_succ]
              refine wpAnyH_take (i := 14) (v := .slice (some ⟨g1, p, none⟩) (e - p) (c1 - p)) rfl (by kernel_rfl) (by kernel_rfl) (by kernel_rfl) (fun _ _ _ h => h) (y_run (by rfl) (fun w _ => by unfold execOp; go_simp; omega)) hHeld ?_
              try simp only [Act.put, List.getElem_toArray, List.getElem_cons_succ, List.getElem_cons_zero, List.setIfInBounds_toArray, List.set_cons_zero, List.set_cons_succ]
              refine wpAnyH_take (i := 16) (v := .pointer (some ⟨b, 0, none⟩)) rfl (by kernel_rfl) (by kernel_rfl) (by kernel_rfl) (fun _ _ _ h => h) (y_run (by rfl) (fun w _ => by unfold execOp; go_simp)) hHeld ?_
              try simp only [Act.put, List.getElem_toArray, List.getElem_cons_succ, List.getElem_cons_zero, List.setIfInBounds_toArray, List.set_cons_zero, List.set_cons_succ]
              refine wpAnyH_take (i := 17) (v := .int .i64 f0) rfl (by kernel_rfl) (by kernel_rfl) (by kernel_rfl) (fun _ _ _ h => h) (y_load (by rfl) rfl rfl (fun _ h => blk_cell h 0)) hHeld ?_
              try simp only [Act.put, List.getElem_toArray, List.getElem_cons_succ, List.getElem_cons_zero, List.setIfInBounds_toArray, List.set_cons_zero, List.set_cons_succ]
              refine wpAnyH_ready (rs := [15]) (by kernel_rfl) (by simp) ?_
              refine AllReadyH.cons rfl (fun K hK => ?_) AllReadyH.nil
              try simp only [Act.put, List.getElem_toArray, List.getElem_cons_succ, List.getElem_cons_zero, List.setIfInBounds_toArray, List.set_cons_zero, List.set_cons_succ]
              rw [if_pos (by rfl)]
              go_simp
              refine (SL.out _ O1w.out).mono ?_
              rintro e' w' ⟨rfl, rfl⟩
              refine hK.out _ _ hHeld (fun hHeld => ?_)
              clear hK K
              try simp only [Act.put, List.getElem_toArray, List.getElem_cons_succ, List.getElem_cons_zero, List.setIfInBounds_toArray, List.set_cons_zero, List.set_cons_succ]
              refine wpAnyH_take (i := 18) (v := .bool false) rfl (by kernel_rfl) (by kernel_rfl) (by kernel_rfl) (fun _ _ _ h => h) (y_run (by rfl) (fun w _ => by unfold execOp; go_simp)) hHeld ?_
              try simp only [Act.put, List.getElem_toArray, List.getElem_cons_succ, List.getElem_cons_zero, List.setIfInBounds_toArray, List.set_cons_zero, List.set_cons_succ]
              refine wpAnyH_take (i := 19) (v := .bool false) rfl (by kernel_rfl) (by kernel_rfl) (by kernel_rfl) (fun _ _ _ h => h) (y_run (by rfl) (fun w _ => by unfold execOp; go_simp)) hHeld ?_
              try simp only [Act.put, List.getElem_toArray, List.getElem_cons_succ, List.getElem_cons_zero, List.setIfInBounds_toArray, List.set_cons_zero, List.set_cons_succ]
              refine wpAnyH_take (i := 20) (v := .bool false) rfl (by kernel_rfl) (by kernel_rfl) (by kernel_rfl) (fun _ _ _ h => h) (y_move (by rfl) rfl rfl) hHeld ?_
              try simp only [Act.put, List.getElem_toArray, List.getElem_cons_succ, List.getElem_cons_zero, List.setIfInBounds_toArray, List.set_cons_zero, List.set_cons_succ]
              refine wpAnyH_take (i := 21) (v := .slice (some ⟨g2, 0, none⟩) n c2) rfl (by kernel_rfl) (by kernel_rfl) (by kernel_rfl) (fun _ _ _ h => h) (y_move (by rfl) rfl rfl) hHeld ?_
              try simp only [Act.put, List.getElem_toArray, List.getElem_cons_succ, List.getElem_cons_zero, List.setIfInBounds_toArray, List.set_cons_zero, List.set_cons_succ]
              refine wpAnyH_take (i := 22) (v := .int .i64 (p : Int)) rfl (by kernel_rfl) (by kernel_rfl) (by kernel_rfl) (fun _ _ _ h => h) (y_move (by rfl) rfl rfl) hHeld ?_
              try simp only [Act.put, List.getElem_toArray, List.getElem_cons_succ, List.getElem_cons_zero, List.setIfInBounds_toArray, List.set_cons_zero, List.set_cons_succ]
              refine wpAnyH_take (i := 23) (v := .int .i64 (p : Int)) rfl (by kernel_rfl) (by kernel_rfl) (by kernel_rfl) (fun _ _ _ h => h) (y_move (by rfl) rfl rfl) hHeld ?_
              try simp only [Act.put, List.getElem_toArray, List.getElem_cons_succ, List.getElem_cons_zero, List.setIfInBounds_toArray, List.set_cons_zero, List.set_cons_succ]
              refine wpAnyH_take (i := 24) (v := .pointer (some ⟨b, 2, none⟩)) rfl (by kernel_rfl) (by kernel_rfl) (by kernel_rfl) (fun _ _ _ h => h) (y_run (by rfl) (fun w _ => by unfold execOp; go_simp)) hHeld ?_
              try simp only [Act.put, List.getElem_toArray, List.getElem_cons_succ, List.getElem_cons_zero, List.setIfInBounds_toArray, List.set_cons_zero, List.set_cons_succ]
              refine wpAnyH_take (i := 25) (v := .int .i64 (s : Int)) rfl (by kernel_rfl) (by kernel_rfl) (by kernel_rfl) (fun _ _ _ h => h) (y_load (by rfl) rfl rfl (fun _ h => blk_cell h 2)) hHeld ?_
              try simp only [Act.put, List.getElem_toArray, List.getElem_cons_succ, List.getElem_cons_zero, List.setIfInBounds_toArray, List.set_cons_zero, List.set_cons_succ]
              refine wpAnyH_take (i := 26) (v := .int .i64 (e : Int)) rfl (by kernel_rfl) (by kernel_rfl) (by kernel_rfl) (fun _ _ _ h => h) (y_add (by rfl) rfl rfl rfl HE.out (by omega) (by omega)) hHeld ?_
              try simp only [Act.put, List.getElem_toArray, List.getElem_cons_succ, List.getElem_cons_zero, List.setIfInBounds_toArray, List.set_cons_zero, List.set_cons_succ]
              refine wpAnyH_take (i := 27) (v := .slice (some ⟨g2, p, none⟩) (e - p) (c2 - p)) rfl (by kernel_rfl) (by kernel_rfl) (by kernel_rfl) (fun _ _ _ h => h) (y_run (by rfl) (fun w _ => by unfold execOp; go_simp; omega)) hHeld ?_
              try simp only [Act.put, List.getElem_toArray, List.getElem_cons_succ, List.getElem_cons_zero, List.setIfInBounds_toArray, List.set_cons_zero, List.set_cons_succ]
              refine wpAnyH_take (i := 29) (v := .pointer (some ⟨b, 0, none⟩)) rfl (by kernel_rfl) (by kernel_rfl) (by kernel_rfl) (fun _ _ _ h => h) (y_run (by rfl) (fun w _ => by unfold execOp; go_simp)) hHeld ?_
              try simp only [Act.put, List.getElem_toArray, List.getElem_cons_succ, List.getElem_cons_zero, List.setIfInBounds_toArray, List.set_cons_zero, List.set_cons_succ]
              refine wpAnyH_take (i := 30) (v := .int .i64 f0) rfl (by kernel_rfl) (by kernel_rfl) (by kernel_rfl) (fun _ _ _ h => h) (y_load (by rfl) rfl rfl (fun _ h => blk_cell h 0)) hHeld ?_
              try simp only [Act.put, List.getElem_toArray, List.getElem_cons_succ, List.getElem_cons_zero, List.setIfInBounds_toArray, List.set_cons_zero, List.set_cons_succ]
              refine wpAnyH_take (i := 31) (v := .pointer (some ⟨b, 1, none⟩)) rfl (by kernel_rfl) (by kernel_rfl) (by kernel_rfl) (fun _ _ _ h => h) (y_run (by rfl) (fun w _ => by unfold execOp; go_simp)) hHeld ?_
              try simp only [Act.put, List.getElem_toArray, List.getElem_cons_succ, List.getElem_cons_zero, List.setIfInBounds_toArray, List.set_cons_zero, List.set_cons_succ]
              refine wpAnyH_take (i := 32) (v := .int .i64 f1) rfl (by kernel_rfl) (by kernel_rfl) (by kernel_rfl) (fun _ _ _ h => h) (y_load (by rfl) rfl rfl (fun _ h => blk_cell h 1)) hHeld ?_
              try simp only [Act.put, List.getElem_toArray, List.getElem_cons_succ, List.getElem_cons_zero, List.setIfInBounds_toArray, List.set_cons_zero, List.set_cons_succ]
              refine wpAnyH_take (i := 33) (v := .int .i64 (max f0 f1)) rfl (by kernel_rfl) (by kernel_rfl) (by kernel_rfl) (fun _ _ _ h => h) (y_run (by rfl) (fun w _ => by unfold execOp; go_simp)) hHeld ?_
              try simp only [Act.put, List.getElem_toArray, List.getElem_cons_succ, List.getElem_cons_zero, List.setIfInBounds_toArray, List.set_cons_zero, List.set_cons_succ]
              refine wpAnyH_ready (rs := [28]) (by kernel_rfl) (by simp) ?_
              refine AllReadyH.cons rfl (fun K hK => ?_) AllReadyH.nil
              try simp only [Act.put, List.getElem_toArray, List.getElem_cons_succ, List.getElem_cons_zero, List.setIfInBounds_toArray, List.set_cons_zero, List.set_cons_succ]
              rw [if_pos (by rfl)]
              go_simp
              refine (SM.out _ O2w.out).mono ?_
              rintro e' w' ⟨rfl, rfl⟩
              refine hK.out _ _ hHeld (fun hHeld => ?_)
              clear hK K
              try simp only [Act.put, List.getElem_toArray, List.getElem_cons_succ, List.getElem_cons_zero, List.setIfInBounds_toArray, List.set_cons_zero, List.set_cons_succ]
              refine wpAnyH_take (i := 34) (v := .bool false) rfl (by kernel_rfl) (by kernel_rfl) (by kernel_rfl) (fun _ _ _ h => h) (y_run (by rfl) (fun w _ => by unfold execOp; go_simp)) hHeld ?_
              try simp only [Act.put, List.getElem_toArray, List.getElem_cons_succ, List.getElem_cons_zero, List.setIfInBounds_toArray, List.set_cons_zero, List.set_cons_succ]
              refine wpAnyH_take (i := 35) (v := .bool false) rfl (by kernel_rfl) (by kernel_rfl) (by kernel_rfl) (fun _ _ _ h => h) (y_run (by rfl) (fun w _ => by unfold execOp; go_simp)) hHeld ?_
              try simp only [Act.put, List.getElem_toArray, List.getElem_cons_succ, List.getElem_cons_zero, List.setIfInBounds_toArray, List.set_cons_zero, List.set_cons_succ]
              refine wpAnyH_done (by kernel_rfl) ?_ _
              clear hHeld
              clear hHeld
              go_wp2_with fail
              go_roundw
              case rel => exact ⟨j + 1, by omega, by rw [PS2.out], by go_num, BW.out⟩
              case measure => simp [RowKit.intOf]; omega
            · obtain rfl : j = r.length := by omega
              go_wp2_with fail
              go_roundw
              case rel => exact ⟨i + 1, by omega, by go_num, hB2.out⟩
              case measure => simp [RowKit.intOf]; omega
        · obtain rfl : i = R := by omega
          go_wp2_with fail
          go_loopw [131] (fun iv wv => ∃ q : Nat, q ≤ n ∧ iv = .int .i64 q ∧ Hid (Below w5.heap.size w5 wv)) (fun iv _ => n - (RowKit.intOf iv).toNat)
          case atStart => exact ⟨0, Nat.zero_le _, rfl, hB⟩
          case round =>
            obtain ⟨q, hq, rfl, hB3⟩ := hrel
            by_cases hltq : q < n
            · obtain ⟨g1, c1', he1, hb1, hb1l⟩ := own_form O15.out (by omega)
              injection he1 with he1 he2 he3
              subst he1 he3
              obtain ⟨g2, c2', he1, hb2, hb2l⟩ := own_form O25.out (by omega)
              injection he1 with he1 he2' he3
              subst he1 he3
              obtain ⟨p1, -⟩ := own_at (pw_own_below O15.out hB3.out) (q : Int) (by omega) (by omega)
              obtain ⟨p2, -⟩ := own_at (pw_own_below O25.out hB3.out) (q : Int) (by omega) (by omega)
              rw [Int.toNat_natCast, show rd ls (q : Int) = ls.getD q 0 by simp [rd]] at p1
              rw [Int.toNat_natCast, show rd ms (q : Int) = ms.getD q 0 by simp [rd]] at p2
              have hg := (HF.out.2.2.1 q).1
              have hle := HF.out.2.2.2.2.1 q hltq
              generalize ls.getD q 0 = x at *
              generalize ms.getD q 0 = y at *
              have t1 : decide (x < 0) = false := decide_eq_false (by omega)
              have t2 : decide (y < x) = false := decide_eq_false (by omega)
              have BD : Hid (∀ d, Below w5.heap.size w5 (wr.drewN d)) := Lib.hid fun d => pw_below_drewN hB3.out d
              clear hg hle hB3 hB
              go_wp2_with fail
              go_quiet (fail)
              go_wp2_with fail
              go_roundw
              case rel => exact ⟨q + 1, by omega, by go_num, BD.out _⟩
              case measure => simp [RowKit.intOf]; omega
            · obtain rfl : q = n := by omega
              go_wp2_with fail
              go_ret
              exact ⟨rfl, B5.out.trans (hB3.out.mono B5.out.size)⟩
theorem own : ownKnob Try.prog.godebug = none := by kernel_rfl
theorem laidOut : laidOutB Try.prog = true := by kernel_rfl
set_option maxRecDepth 100000 in
theorem lifted (os : Os) (started : os.Started) (H : Type) (enc : TypeId × Value → H) :
    ReturnsInHanded {} Try.checked os 8 .any (Rows.tableSpansSpec.pre6 enc Try.prog Try.f8 Rows.tableSpansRow.domain false) (Rows.tableSpansSpec.post enc Try.prog Try.f8 false true false false) := by
  refine returnsInHanded_of_change_sized (C := Try.checked) own started (by kernel_rfl) Try.func8
    (ChangeSpec.witness6 (enc := enc) (C := Try.checked) false ⟨#[], #[.slice none 0 0], []⟩ 8 (by kernel_rfl) (by kernel_rfl) (by kernel_rfl) (by kernel_rfl)) ?_
  intro W base args ds gs before hval0 hW hcnd hsz0 _
  have hsz : (DataW.weightsEach Try.prog (Try.f8.params.toList ++ Rows.tableSpansSpec.plain.varTypes Try.prog) (ds ++ gs)).all (· ≤ reachBytes) = true := hsz0
  have hval : ∀ (j : Nat) t v, Try.f8.params[j]? = some t → args[j]? = some v → Value.okWide Try.prog W .any base t v := hval0
  have hW' := hW
  obtain ⟨p, q, hA0, hV, rfl, hfz, hnd⟩ := hW
  have hA : DataW.TrodAll enc Try.prog W 0 (fun _ => true) true Try.f8.params.toList args.toList ds p := hA0
  rw [Try.params8] at hA hval hsz
  obtain ⟨v0, vs0, d0, ds0, p0, q0, hargs, rfl, rfl, h0, r0⟩ := trodAll_cons hA
  obtain ⟨rfl, rfl, rfl⟩ := trodAll_nil r0
  obtain rfl : args = #[v0] := by cases args; simp_all
  obtain ⟨rfl, rfl⟩ := trodVars_none hV
  obtain ⟨a0, len0, cap0, rfl⟩ := okWide_slice Try.underlying47 (hval 0 47 v0 rfl rfl)
  have k0 := h0
  have lt0 : ∀ x ∈ p0, x.block < W.heap.size := by obtain ⟨m, hm⟩ := k0; exact DataW.trod_lt m _ _ _ hm
  obtain ⟨z0, e0, c0, w0⟩ : ∃ zs, len0 = zs.length ∧ len0 ≤ cap0 ∧ Kd.C kRow W a0 len0 zs := by
    obtain ⟨fuel, hf⟩ := h0
    obtain ⟨A, c, xs, hcs, h1, h2⟩ := slice_of Try.underlying47 opRow hf
    simp [Value.cells] at hcs
    obtain ⟨rfl, rfl, rfl⟩ := hcs
    exact ⟨xs, rfl, h1, h2⟩
  clear hA0 hval0 hsz0 hsz
  refine (walk a0 len0 cap0 z0 W e0 c0 w0).mono fun e W' ⟨he, bel⟩ => ?_
  subst he
  exact ⟨_, rfl, _, _, _, [], _, [], hW', trodAll_mk1 (shut_bool Try.underlying4 _), (trodAll_cons_mk (Below.trod laidOut (by kernel_rfl) (of_decide_eq_true (by kernel_rfl)) k0 bel lt0) trodAll_mk0), rfl, bel.frame _, fun h => by cases h⟩
theorem over : Rows.tableSpansRow.holds Try.pinned (OpenSpec.ofChange Rows.tableSpansSpec) :=
  OpenClaim.holds_of_wide 8 Try.f8 rfl rfl rfl rfl rfl rfl rfl ⟨rfl, rfl, rfl, rfl, rfl⟩ rfl rfl rfl rfl rfl (by kernel_rfl) Try.func8 (by kernel_rfl)
    (of_decide_eq_true (by kernel_rfl)) (by unfold Func.isWrapper; first | (rw [if_pos (by decide +kernel)]; kernel_rfl) | (rw [if_neg (by decide +kernel)]; exact ⟨rfl, rfl⟩))
    (fun os started H enc _ => lifted os started H enc)
theorem proved : Rows.TableSpansSaid := over
#print axioms proved
end Go.Proofs.Ytfkgpkkjiolfpaa.TableSpans
