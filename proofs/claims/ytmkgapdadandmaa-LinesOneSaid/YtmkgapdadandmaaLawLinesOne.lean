/- In room enough nothing breaks. For every input. -/
import Derived.Test.YtmkgapdadandmaaRows
import Derived.Test.YtmkgapdadandmaaPcB
import Derived.Test.YtmkgapdadandmaaOneP
import Derived.Test.YtmkgapdadandmaaExact
import Derived.Test.YtmkgapdadandmaaItemOp
import Derived.Test.YtmkgapdadandmaaWRepsOne
import Derived.ProofKit
import Derived.OpenShut
import Derived.ShutString
import Derived.ChangeOld
import Derived.Below
import Derived.SizedLaws
namespace Go.Proofs.Ytmkgapdadandmaa.LinesOne
open Go.RowKit Go.Lib Go.Proofs.Ytmkgapdadandmaa.Pl Go.Proofs.Ytmkgapdadandmaa.Fx Go.Proofs.Ytmkgapdadandmaa.Fnt Go.Proofs.Ytmkgapdadandmaa.Lin Go.Proofs.Ytmkgapdadandmaa.Siz Go.Proofs.Ytmkgapdadandmaa.Rgn Go.Proofs.Ytmkgapdadandmaa.Opn Go.Proofs.YtmkgapdadandmaaW.PrintWords Go.Proofs.YtmkgapdadandmaaW.PrintLast Go.Proofs.YtmkgapdadandmaaW.PrintMore
open Go.ChangeShapes Go.WideShapes Go.ChangeAt
set_option linter.unusedVariables false
set_option linter.unusedSimpArgs false
attribute [local go_sem] mx2 mn2 mx_two mn_two mx_three mn_three

def gsX (l : List LI) : List S49 := (groupsP l (partsX l l.length)).map (mkG l (partsX l l.length))
theorem linesX_of (A : Option Addr) (nl cl : Nat) (l : List LI) (w : World) (hL : Kd.C k27 w A nl l) (hn : nl ≤ 40) (hs : ∀ x, x ∈ l → x.f2.size ≤ 1000) (hl : ∀ x, x ∈ l → NiceI x) :
    Calls Try.prog 7 #[.slice A nl cl] w (LinesPost (fun gs => gs = gsX l) w) := by
  obtain ⟨ad, hA⟩ : ∃ ad : Addr, nl ≠ 0 → A = some ad := by
    by_cases hz : nl = 0
    · exact ⟨⟨0, 0, none⟩, fun h => absurd hz h⟩
    · obtain ⟨g, e, _⟩ := hL.2.2 (by omega)
      exact ⟨g, fun _ => e⟩
  refine Lines_c A nl cl w (fun gs => gs = gsX l) ?_
  refine (Groups_c PcX pcX_ok pieX A ad nl cl l w hL hA (by omega) hs (ps_ok pcX_ok hl)).mono ?_
  rintro e w' ⟨v, ps, he, hP, hR, hB⟩
  have hlen := parts_len pcX_ok _ ps hP
  have hln : l.length = nl := hL.1
  have hps : ps.length ≤ 100000 := by rw [hln] at hlen; omega
  have hpx := parts_X l _ ps hP
  refine ⟨v, _, he, hR, hB, ?_, ?_, by rw [hpx]; rfl⟩
  · rw [List.length_map]
    have := (gS_bd l ps ps.length).2.1
    have : (groupsP l ps).length ≤ ps.length := this
    omega
  · intro g hg
    obtain ⟨p, hp, rfl⟩ := List.mem_map.1 hg
    exact sub_mild hl (parts_are pcX_ok _ ps (Nat.le_refl _) hP) hps p
theorem partsX_to (l : List LI) (hs : ∀ x, x ∈ l → x.f2.size ≤ 1000) : ∀ k, k ≤ l.length → PartsTo PcX l k (partsX l k) := by
  intro k
  induction k with
  | zero => intro _; rfl
  | succ k ih =>
    intro hk
    refine ⟨partsX l k, itemX k (l.getD k z27), ih (by omega), ?_, rfl⟩
    have hm : l.getD k z27 ∈ l := by rw [List.getD_eq_getElem?_getD, List.getElem?_eq_getElem (by omega)]; exact List.getElem_mem _
    unfold ItemTo itemX
    split
    · exact ⟨_, ⟨hs _ hm, rfl⟩, rfl⟩
    · rfl
/-- The plain law. -/
theorem one_law (K : Bc) (l : List LI) (y : Int) (hl : ∀ x, x ∈ l → NiceI x) (hs : ∀ x, x ∈ l → x.f2.size ≤ 1000) (hn : l.length ≤ 40) (W : Int) (hW : max (stAt (gsX l) (gsX l).length).most (stAt (gsX l) (gsX l).length).fin ≤ W) :
    (breakX K l W (s0 y 0)).length ≤ 1 + l.countP (fun x => x.f0 == 6) := by
  have hP := partsX_to l hs l.length (Nat.le_refl _)
  have hlen := parts_len pcX_ok _ _ hP
  have har := parts_are pcX_ok _ _ (Nat.le_refl _) hP
  have hmem : ∀ p, p ∈ groupsP l (partsX l l.length) → MildG (gpOf l (sub (partsX l l.length) p)) := fun p hp => by
    rw [← grp_of l _ hp]; exact sub_mild hl har (by omega) p
  have hmap : (gsX l).map toG = (groupsX l).map (gpOf l) := by
    unfold gsX groupsX
    rw [List.map_map, List.map_map]
    exact List.map_congr_left (fun p hp => grp_of l _ hp)
  unfold stAt at hW
  rw [List.take_length, hmap] at hW
  have h1 := one_puts (K := K) (l := l) (W := W) (groupsX l) (beginS W (s0 y 0)) ⟨0, 0, 0, 0⟩ zero_ok (fun g hg => by
    unfold groupsX at hg
    obtain ⟨p, hp, rfl⟩ := List.mem_map.1 hg
    exact ⟨hmem p hp, fun q hq => (part_mild hl (har q (sub_mem hq))).1, grp_no6 l _ hp⟩) ⟨by show cut 0 = 0; decide, rfl, by show cut 0 = 0; decide⟩ (Int.le_refl _) hW
  have h2 := must_count l (groupsX l)
  have h3 : (groupsX l).flatten = partsX l l.length := groups_flat l _
  rw [h3] at h2
  have h4 := parts_count l l.length (Nat.le_refl _)
  rw [List.take_length] at h4
  have h5 : (beginS W (s0 y 0)).out.length = 0 := rfl
  unfold breakX breakP doneS putsS
  split
  · have := end_out (K := K) (l := l) (width := W) (s := (groupsX l).foldl (putS K l W) (beginS W (s0 y 0))) (last := true)
    omega
  · show (lastL _).length ≤ _
    unfold lastL
    rw [List.length_set]
    omega
theorem count_filter (l : List LI) : (l.filter (fun x => x.f0 != 5)).countP (fun x => x.f0 == 6) = l.countP (fun x => x.f0 == 6) := by
  rw [List.countP_filter]
  refine List.countP_congr (fun x _ => ?_)
  simp only [Bool.and_eq_true, beq_iff_eq, bne_iff_ne, ne_eq]
  omega
/-- Tamed items are nice. -/
theorem tame_nice (x : LI) : NiceI (tameI x) ∧ (tameI x).f2.size ≤ 1000 := by
  have h1 := u16_bd x.f8
  refine ⟨⟨?_, ?_⟩, ?_⟩
  · show 0 ≤ x.f4 % 256; omega
  · show 0 ≤ IntKind.u16.wrap x.f8; omega
  · show (x.f2.extract 0 (min x.f2.size 60)).size ≤ 1000
    rw [ByteArray.size_extract]; omega
set_option maxRecDepth 100000 in
set_option maxHeartbeats 4000000 in
theorem walk (a0 : Option Addr) (len0 cap0 : Nat) (z0 : List LI) (w : World) (e0 : len0 = z0.length) (c0 : len0 ≤ cap0) (w0 : Kd.C k27 w a0 len0 z0) :
    Calls Try.prog 5 #[.slice a0 len0 cap0] w fun e w' => e = .returned (.bool true) ∧ Below w.heap.size w w' := by
  have LI0 := Lib.hid (lined_c w)
  have C0 := Lib.hid w0
  obtain ⟨lm, hlm⟩ : ∃ lm, (z0.take 25).map tameI = lm := ⟨_, rfl⟩
  have hl25 : lm.length ≤ 25 := by rw [← hlm, List.length_map]; exact List.length_take_le _ _
  have HM := Lib.hid hlm
  have TMI : Hid (∀ x, x ∈ lm → ∃ y, tameI y = x) := Lib.hid (fun x hx => by rw [← hlm] at hx; obtain ⟨y, _, h⟩ := List.mem_map.1 hx; exact ⟨y, h⟩)
  clear w0 e0 hlm
  go_enter Try.func5, Try.ntmps5
  go_wp2_with fail
  refine LI0.out.mono ?_
  rintro e w1 ⟨rfl, hB1⟩
  have TM := Lib.hid (tame_c a0 len0 cap0 z0 w1 (Kd.C_below C0.out hB1) c0)
  have B1 := Lib.hid hB1
  clear hB1 LI0 C0
  go_wp2_with fail
  refine TM.out.mono ?_
  rintro e w2 ⟨v, rfl, hR, hB⟩
  rw [HM.out] at hR
  obtain ⟨A, c, rfl, hc, hC⟩ := Kd.R_reads hR
  obtain ⟨m, hm⟩ : ∃ m, lm.length = m := ⟨_, rfl⟩
  rw [hm] at hC hl25 ⊢
  have LM := Lib.hid hm
  have C2 := Lib.hid hC
  have B2 := Lib.hid (below_then B1.out B1.out.size hB)
  clear hR hB hC hc TM B1 hm HM
  go_wp2_with fail
  go_loopw [3, 4, 6, 14] (fun v mv _ i wr => ∃ k : Nat, k ≤ m ∧ i = .int .i64 k ∧ mv = .int .i64 (1 + (((lm.take k).countP (fun x => x.f0 == 6) : Nat) : Int)) ∧ Hid (Kd.R k27 27 wr w2.heap.size (fun _ => True) v ((lm.take k).filter (fun x => x.f0 != 5))) ∧ Hid (Below w2.heap.size w2 wr)) (fun _ _ _ i _ => m - (RowKit.intOf i).toNat)
  case atStart => exact ⟨0, Nat.zero_le _, rfl, rfl, Kd.R_nil _ _ _ _ _, Below.refl _ _⟩
  case round =>
    obtain ⟨k, hk, rfl, rfl, hR, hB⟩ := hrel
    by_cases hlt : k < m
    · have hkl : k < lm.length := by rw [LM.out]; omega
      obtain ⟨ad, ea, x0, x1, x2, x3, x4, x5, x6, x7, x8, x9, x10⟩ := at_T27 (Kd.C_below C2.out hB.out) (k : Int) (by omega) (by omega)
      subst ea
      have e : rd_T27 lm (k : Int) = lm[k] := by simp [rd_T27, List.getD_eq_getElem?_getD, hkl]
      rw [Int.toNat_natCast, e] at x0 x1 x2 x3 x4 x5 x6 x7 x8 x9 x10
      have hs1 : (lm.take (k + 1)).filter (fun x => x.f0 != 5) = (lm.take k).filter (fun x => x.f0 != 5) ++ (if (lm[k].f0 != 5) = true then [lm[k]] else []) := by
        rw [List.take_succ_eq_append_getElem hkl, List.filter_append, List.filter_cons, List.filter_nil]
      have hs2 : (lm.take (k + 1)).countP (fun x => x.f0 == 6) = (lm.take k).countP (fun x => x.f0 == 6) + (if (lm[k].f0 == 6) = true then 1 else 0) := by
        rw [List.take_succ_eq_append_getElem hkl, List.countP_append, List.countP_cons, List.countP_nil]; omega
      have hlk : ((lm.take k).filter (fun x => x.f0 != 5)).length ≤ k := Nat.le_trans (List.length_filter_le _ _) (List.length_take_le _ _)
      have hck : (lm.take k).countP (fun x => x.f0 == 6) ≤ k := Nat.le_trans (List.countP_le_length) (List.length_take_le _ _)
      generalize lm[k] = x at *
      generalize (lm.take k).filter (fun x => x.f0 != 5) = us at *
      generalize (lm.take k).countP (fun x => x.f0 == 6) = cn at *
      have S1 := Lib.hid hs1
      have S2 := Lib.hid hs2
      clear hs1 hs2 e hkl
      obtain ⟨a0, a1, a2, a3, a4, a5, a6, a7, a8, a9, a10⟩ := x
      simp only at x0 x1 x2 x3 x4 x5 x6 x7 x8 x9 x10 S1 S2
      have hal := below_alloc (Below.refl wr.heap.size wr) (.cells #[.int .i64 a0, .int .i64 a1, .string a2, .int .i64 a3, .int .i64 a4, .int .i64 a5, .int .i64 a6, .int .i64 a7, .int .i64 a8, .int .i64 a9, .int .i64 a10] 27)
      have RA := Lib.hid (Kd.R_below hR.out hal)
      have LT := Lib.hid (Kd.R_lt hR.out)
      have BA := Lib.hid (below_then hB.out hB.out.size hal)
      clear hal hR hB
      by_cases h5 : a0 = 5
      · have q5 : (a0 != 5) = false := by simp [h5]
        have q6 : (a0 == 6) = false := by simp [h5]
        have s1 := S1.out
        have s2 := S2.out
        rw [q5, if_neg (by decide), List.append_nil] at s1
        rw [q6, if_neg (by decide)] at s2
        have E1 := Lib.hid s1
        have E2 := Lib.hid s2
        clear h5 s1 s2 S1 S2
        go_wp2_with fail
        go_roundw
        case rel => exact ⟨k + 1, by omega, by go_num, by rw [E2.out]; rfl, by rw [E1.out]; exact RA.out, BA.out⟩
        case measure => simp [RowKit.intOf]; omega
      · have q5 : (a0 != 5) = true := by simp [h5]
        have s1 := S1.out
        rw [q5, if_pos rfl] at s1
        have E1 := Lib.hid s1
        by_cases h6 : a0 = 6
        · have q6 : (a0 == 6) = true := by simp [h6]
          have s2 := S2.out
          rw [q6, if_pos rfl] at s2
          have E2 := Lib.hid s2
          clear h5 h6 s1 s2 S1 S2
          go_wp2_with (at_builtin; go_loud (refine Kd.R_append k27 (w0 := w2) w2.heap.size rfl (.tmp 21) (.tmp 23) 22 27 _ 96 rfl Try.underlying22 infoI rfl (by decide) (by decide) _ us ⟨a0, a1, a2, a3, a4, a5, a6, a7, a8, a9, a10⟩ [.int .i64 a0, .int .i64 a1, .string a2, .int .i64 a3, .int .i64 a4, .int .i64 a5, .int .i64 a6, .int .i64 a7, .int .i64 a8, .int .i64 a9, .int .i64 a10] (fun _ => True) (fun _ => False) rfl (by show Value.slice (some ⟨wr.heap.size + 1, 0, none⟩) 1 1 = _; rw [World.size_alloc]) (k27_mkM _ _ _ ⟨a0, a1, a2, a3, a4, a5, a6, a7, a8, a9, a10⟩) (fun _ h => h.elim) (fun _ _ => trivial) RA.out BA.out BA.out.size (by omega) ?_); intro v1 w1 hO1 hB1 hG1 hat1; have y0 : w1.cell? ⟨wr.heap.size, 0, none⟩ = some (.int .i64 a0) := blk_cell ((hG1.block wr.heap.size (by rw [World.size_alloc]; omega) (fun e => by have := LT.out _ e.symm; omega)).trans (heap_alloc_new _ _)) 0; have O1 := Lib.hid hO1; have B1' := Lib.hid hB1; clear hO1 hB1 hG1 hat1)
          go_roundw
          case rel => exact ⟨k + 1, by omega, by go_num, by rw [E2.out]; congr 1, by rw [E1.out]; exact O1.out, B1'.out⟩
          case measure => simp [RowKit.intOf]; omega
        · have q6 : (a0 == 6) = false := by simp [h6]
          have s2 := S2.out
          rw [q6, if_neg (by decide)] at s2
          have E2 := Lib.hid s2
          clear h5 h6 s1 s2 S1 S2
          go_wp2_with (at_builtin; go_loud (refine Kd.R_append k27 (w0 := w2) w2.heap.size rfl (.tmp 21) (.tmp 23) 22 27 _ 96 rfl Try.underlying22 infoI rfl (by decide) (by decide) _ us ⟨a0, a1, a2, a3, a4, a5, a6, a7, a8, a9, a10⟩ [.int .i64 a0, .int .i64 a1, .string a2, .int .i64 a3, .int .i64 a4, .int .i64 a5, .int .i64 a6, .int .i64 a7, .int .i64 a8, .int .i64 a9, .int .i64 a10] (fun _ => True) (fun _ => False) rfl (by show Value.slice (some ⟨wr.heap.size + 1, 0, none⟩) 1 1 = _; rw [World.size_alloc]) (k27_mkM _ _ _ ⟨a0, a1, a2, a3, a4, a5, a6, a7, a8, a9, a10⟩) (fun _ h => h.elim) (fun _ _ => trivial) RA.out BA.out BA.out.size (by omega) ?_); intro v1 w1 hO1 hB1 hG1 hat1; have y0 : w1.cell? ⟨wr.heap.size, 0, none⟩ = some (.int .i64 a0) := blk_cell ((hG1.block wr.heap.size (by rw [World.size_alloc]; omega) (fun e => by have := LT.out _ e.symm; omega)).trans (heap_alloc_new _ _)) 0; have O1 := Lib.hid hO1; have B1' := Lib.hid hB1; clear hO1 hB1 hG1 hat1)
          go_roundw
          case rel => exact ⟨k + 1, by omega, by go_num, by rw [E2.out]; rfl, by rw [E1.out]; exact O1.out, B1'.out⟩
          case measure => simp [RowKit.intOf]; omega
    · obtain rfl : k = m := by omega
      have hall : lm.take k = lm := by rw [← LM.out, List.take_length]
      rw [hall] at hR ⊢
      obtain ⟨own, hown⟩ : ∃ own, lm.filter (fun x => x.f0 != 5) = own := ⟨_, rfl⟩
      have hcn : own.countP (fun x => x.f0 == 6) = lm.countP (fun x => x.f0 == 6) := by rw [← hown]; exact count_filter lm
      have hol : own.length ≤ 25 := by rw [← hown]; have := List.length_filter_le (fun x : LI => x.f0 != 5) lm; have := LM.out; omega
      have hin : ∀ x, x ∈ own → (∃ y, tameI y = x) ∧ x.f0 ≠ 5 := fun x hx => by
        rw [← hown] at hx
        obtain ⟨h1, h2⟩ := List.mem_filter.1 hx
        exact ⟨TMI.out x h1, by simpa using h2⟩
      rw [hown] at hR
      rw [← hcn]
      have hmn : own.countP (fun x => x.f0 == 6) ≤ 25 := Nat.le_trans List.countP_le_length hol
      obtain ⟨Ao, co, rfl, hco, hCo⟩ := Kd.R_reads hR.out
      have hni : ∀ x, x ∈ own → NiceI x ∧ x.f2.size ≤ 1000 := fun x hx => by obtain ⟨⟨y, rfl⟩, _⟩ := hin x hx; exact tame_nice y
      have hbn : ∀ x, x ∈ own → BndI x := fun x hx => by
        obtain ⟨⟨y, rfl⟩, _⟩ := hin x hx
        have h1 := u16_bd y.f3
        have h2 := u16_bd y.f5
        have h3 := i8_bd y.f7
        have h4 := u16_bd y.f9
        exact ⟨⟨by show (-16777216 : Int) ≤ IntKind.u16.wrap y.f3; omega, by show IntKind.u16.wrap y.f3 ≤ 16777216; omega⟩, ⟨by show (-16777216 : Int) ≤ IntKind.u16.wrap y.f5; omega, by show IntKind.u16.wrap y.f5 ≤ 16777216; omega⟩, ⟨by show (-16777216 : Int) ≤ IntKind.i8.wrap y.f7; omega, by show IntKind.i8.wrap y.f7 ≤ 16777216; omega⟩, ⟨by show (-16777216 : Int) ≤ IntKind.u16.wrap y.f9; omega, by show IntKind.u16.wrap y.f9 ≤ 16777216; omega⟩⟩
      have LIN := Lib.hid (linesX_of Ao own.length co own wr hCo (by omega) (fun x hx => (hni x hx).2) (fun x hx => (hni x hx).1))
      have LAW := Lib.hid fun (fp : Nat) (W : Int) (hW : max (stAt (gsX own) (gsX own).length).most (stAt (gsX own) (gsX own).length).fin ≤ W) => one_law (k0 fp 10 10 0) own 0 (fun x hx => (hni x hx).1) (fun x hx => (hni x hx).2) (by omega) W hW
      have BRK := Lib.hid fun (fp : Nat) (W : Int) (w6 : World) (hb : Below wr.heap.size wr w6) (hF : Go.Proofs.Ytmkgapdadandmaa.Fl.IsF w6 fp W []) (hw : 0 ≤ W ∧ W ≤ 16777216) => BreakX_c Ao own.length co fp own 0 10 10 0 0 W w6 (Kd.C_below hCo hb) (by omega) (fun x hx => (hni x hx).2) (fun x hx => (hni x hx).1) hF hw (fun x hx => (hin x hx).2) hbn
      have B3 := Lib.hid (below_then B2.out B2.out.size hB.out)
      generalize own.countP (fun x => x.f0 == 6) = cn at *
      obtain ⟨on, hon⟩ : ∃ on, own.length = on := ⟨_, rfl⟩
      rw [hon] at LIN BRK
      rw [hon]
      clear hR hB hCo hco hni hbn hin hown hall hcn hon TMI C2 LM B2
      go_wp2_with fail
      refine LIN.out.mono ?_
      rintro e w4 ⟨gs, rfl, hM, rfl, hB4⟩
      obtain ⟨mo, hmo⟩ : ∃ mo, max (stAt (gsX own) (gsX own).length).most (stAt (gsX own) (gsX own).length).fin = mo := ⟨_, rfl⟩
      rw [hmo] at LAW ⊢
      have hmo0 : 0 ≤ mo := by
        have := st_ok (gsX own) hM (gsX own).length
        unfold OkS at this
        rw [← hmo]
        omega
      have B4 := Lib.hid hB4
      generalize cut (stAt (gsX own) (gsX own).length).least = le at *
      clear hM hB4 hmo LIN
      by_cases hbig : 16777216 ≤ cut mo
      · have hg : (cut mo ≥ 16777216) = True := by simp; omega
        generalize cut mo = cm at *
        go_wp2_with fail
        go_ret
        exact ⟨rfl, below_then B3.out B3.out.size B4.out⟩
      · have hcm : cut mo = mo := by unfold cut at hbig ⊢; omega
        rw [hcm] at hbig ⊢
        have NEW := Lib.hid (Go.Proofs.Ytmkgapdadandmaa.Fl.New_c mo w4)
        have hlaw := LAW.out w4.heap.size mo (Int.le_refl _)
        have HLAW := Lib.hid hlaw
        have HCM := Lib.hid hcm
        clear hlaw hcm LAW
        go_wp2_with fail
        refine NEW.out.mono ?_
        rintro e w5 ⟨rfl, hF, hB5⟩
        rw [HCM.out, show max 0 mo = mo by omega] at hF
        have B5 := Lib.hid (below_then B4.out B4.out.size hB5)
        have BR := Lib.hid (BRK.out w4.heap.size mo w5 B5.out hF ⟨hmo0, by omega⟩)
        clear hF hB5 BRK NEW
        go_wp2_with fail
        refine BR.out.mono ?_
        rintro e w6 ⟨v, rfl, hR6, hB6⟩
        obtain ⟨A6, c6, rfl, hc6, -⟩ := Kd.R_reads hR6
        have B6 := Lib.hid (below_then (below_then B3.out B3.out.size B5.out) (below_then B3.out B3.out.size B5.out).size hB6)
        have hl6 := HLAW.out
        generalize (breakX (k0 w4.heap.size 10 10 0) own mo (s0 0 0)).length = ln at *
        have hle : ((ln : Int) ≤ 1 + (cn : Int)) = True := by simp; omega
        clear hR6 hB6 BR HLAW hc6
        go_wp2_with fail
        go_ret
        exact ⟨rfl, B6.out⟩
theorem own : ownKnob Try.prog.godebug = none := by kernel_rfl
theorem laidOut : laidOutB Try.prog = true := by kernel_rfl
set_option maxRecDepth 100000 in
theorem lifted (os : Os) (started : os.Started) (H : Type) (enc : TypeId × Value → H) :
    ReturnsInHanded {} Try.checked os 5 .any (Rows.linesOneSpec.pre6 enc Try.prog Try.f5 Rows.linesOneRow.domain false) (Rows.linesOneSpec.post enc Try.prog Try.f5 false true false false) := by
  refine returnsInHanded_of_change_sized (C := Try.checked) own started (by kernel_rfl) Try.func5
    (ChangeSpec.witness6 (enc := enc) (C := Try.checked) false ⟨#[], #[.slice none 0 0], []⟩ 8 (by kernel_rfl) (by kernel_rfl) (by kernel_rfl) (by kernel_rfl)) ?_
  intro W base args ds gs before hval0 hW hcnd hsz0 _
  have hsz : (DataW.weightsEach Try.prog (Try.f5.params.toList ++ Rows.linesOneSpec.plain.varTypes Try.prog) (ds ++ gs)).all (· ≤ reachBytes) = true := hsz0
  have hval : ∀ (j : Nat) t v, Try.f5.params[j]? = some t → args[j]? = some v → Value.okWide Try.prog W .any base t v := hval0
  have hW' := hW
  obtain ⟨p, q, hA0, hV, rfl, hfz, hnd⟩ := hW
  have hA : DataW.TrodAll enc Try.prog W 0 (fun _ => true) true Try.f5.params.toList args.toList ds p := hA0
  rw [Try.params5] at hA hval hsz
  obtain ⟨v0, vs0, d0, ds0, p0, q0, hargs, rfl, rfl, h0, r0⟩ := trodAll_cons hA
  obtain ⟨rfl, rfl, rfl⟩ := trodAll_nil r0
  obtain rfl : args = #[v0] := by cases args; simp_all
  obtain ⟨rfl, rfl⟩ := trodVars_none hV
  obtain ⟨a0, len0, cap0, rfl⟩ := okWide_slice Try.underlying22 (hval 0 22 v0 rfl rfl)
  have k0 := h0
  have lt0 : ∀ x ∈ p0, x.block < W.heap.size := by obtain ⟨m, hm⟩ := k0; exact DataW.trod_lt m _ _ _ hm
  obtain ⟨z0, e0, c0, w0⟩ : ∃ zs, len0 = zs.length ∧ len0 ≤ cap0 ∧ Kd.C k27 W a0 len0 zs := by
    obtain ⟨fuel, hf⟩ := h0
    obtain ⟨A, c, xs, hcs, h1, h2⟩ := slice_of Try.underlying22 op_T27 hf
    simp [Value.cells] at hcs
    obtain ⟨rfl, rfl, rfl⟩ := hcs
    exact ⟨xs, rfl, h1, h2⟩
  clear hA0 hval0 hsz0 hsz
  refine (walk a0 len0 cap0 z0 W e0 c0 w0).mono fun e W' ⟨he, bel⟩ => ?_
  subst he
  exact ⟨_, rfl, _, _, _, [], _, [], hW', trodAll_mk1 (shut_bool Try.underlying4 _), (trodAll_cons_mk (Below.trod laidOut (by kernel_rfl) (of_decide_eq_true (by kernel_rfl)) k0 bel lt0) trodAll_mk0), rfl, bel.frame _, fun h => by cases h⟩
theorem over : Rows.linesOneRow.holds Try.pinned (OpenSpec.ofChange Rows.linesOneSpec) :=
  OpenClaim.holds_of_wide 5 Try.f5 rfl rfl rfl rfl rfl rfl rfl ⟨rfl, rfl, rfl, rfl, rfl⟩ rfl rfl rfl rfl rfl (by kernel_rfl) Try.func5 (by kernel_rfl)
    (of_decide_eq_true (by kernel_rfl)) (by unfold Func.isWrapper; first | (rw [if_pos (by decide +kernel)]; kernel_rfl) | (rw [if_neg (by decide +kernel)]; exact ⟨rfl, rfl⟩))
    (fun os started H enc _ => lifted os started H enc)
theorem proved : Rows.LinesOneSaid := over
#print axioms proved
end Go.Proofs.Ytmkgapdadandmaa.LinesOne
