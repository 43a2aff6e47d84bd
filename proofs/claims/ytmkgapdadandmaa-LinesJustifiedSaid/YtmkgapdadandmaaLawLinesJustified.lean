/- A line that is justified, and has blanks in it, is as wide as its room; nothing stands further back than without. For every input. -/
import Derived.Test.YtmkgapdadandmaaRows
import Derived.Test.YtmkgapdadandmaaTexts
import Derived.Test.YtmkgapdadandmaaWRepsOne
import Derived.Test.YtmkgapdadandmaaShelf
import Derived.ProofKit
import Derived.OpenShut
import Derived.ShutString
import Derived.ChangeOld
import Derived.Below
import Derived.SizedLaws
namespace Go.Proofs.Ytmkgapdadandmaa.LinesJustified
open Go.RowKit Go.Lib Go.Proofs.Ytmkgapdadandmaa.Pl Go.Proofs.Ytmkgapdadandmaa.Fx Go.Proofs.Ytmkgapdadandmaa.Fnt Go.Proofs.Ytmkgapdadandmaa.Lin Go.Proofs.Ytmkgapdadandmaa.Siz Go.Proofs.Ytmkgapdadandmaa.Rgn Go.Proofs.Ytmkgapdadandmaa.Wh Go.Proofs.YtmkgapdadandmaaW.PrintWords Go.Proofs.YtmkgapdadandmaaW.PrintLast Go.Proofs.YtmkgapdadandmaaW.PrintMore
open Go.ChangeShapes Go.WideShapes Go.ChangeAt
open Go.ChangeMaps (open_string shut_string)
set_option linter.unusedVariables false
set_option linter.unusedSimpArgs false
attribute [local go_sem] mx2 mn2 mx_two mn_two mx_three mn_three

/-- The item of the law. -/
def itT (tx : ByteArray) (size : Int) : LI := ⟨1, 0, tx, size, 0, 10, 0, 0, 0, 0, 0⟩
set_option maxRecDepth 100000 in
set_option maxHeartbeats 4000000 in
theorem walk (t : ByteArray) (width size : Int) (w : World) (_ : t.size ≤ 140737488351232) (_ : (Lit.int .i64 width).wf = true) (_ : (Lit.int .i64 size).wf = true) :
    Calls Try.prog 4 #[.string t, .int .i64 width, .int .i64 size] w fun e w' => e = .returned (.bool true) ∧ Below w.heap.size w w' := by
  have LI0 := Lib.hid (lined_c w)
  go_enter Try.func4, Try.ntmps4
  go_wp2_with fail
  refine LI0.out.mono ?_
  rintro e w1 ⟨rfl, hB1⟩
  have B1 := Lib.hid hB1
  clear hB1 LI0
  go_wp2_with fail
  obtain ⟨s, hs⟩ : ∃ s, t.extract 0 (min (t.size : Int) 200).toNat = s := ⟨_, rfl⟩
  have hz : s.size ≤ 200 := by rw [← hs, ByteArray.size_extract]; omega
  rw [hs]
  have hu := u16_bd width
  have hWe : wrap64 (IntKind.u16.wrap width) = IntKind.u16.wrap width := wrap_id (by omega) (by omega)
  rw [hWe]
  have hZ : 0 ≤ size % 256 ∧ size % 256 ≤ 255 := by omega
  generalize IntKind.u16.wrap width = W at *
  generalize size % 256 = Z at *
  have COL := Lib.hid (Collapse_c s 0 true w1 rfl (by omega))
  have hx0 : ∀ x, x = itT ⟨(coll s.data.toList true).1.toArray⟩ Z → LiT x ∧ x.f2.size ≤ 1000 ∧ x.f2.data.toList.head? ≠ some 32 ∧ NiceI x ∧ BndI x := fun x hx => by
    subst hx
    have hl := coll_len s.data.toList true
    rw [← Lib.size_eq] at hl
    refine ⟨⟨rfl, rfl, hZ, rfl⟩, ?_, (coll_nice s.data.toList).1, ⟨by show (0 : Int) ≤ 0; omega, by show (0 : Int) ≤ 0; omega⟩, ?_⟩
    · show (⟨(coll s.data.toList true).1.toArray⟩ : ByteArray).size ≤ 1000
      rw [Lib.size_eq]
      show (coll s.data.toList true).1.length ≤ 1000
      omega
    · unfold BndI
      show (-16777216 ≤ Z ∧ Z ≤ 16777216) ∧ (-16777216 ≤ (10 : Int) ∧ (10 : Int) ≤ 16777216) ∧ (-16777216 ≤ (0 : Int) ∧ (0 : Int) ≤ 16777216) ∧ (-16777216 ≤ (0 : Int) ∧ (0 : Int) ≤ 16777216)
      omega
  generalize (coll s.data.toList true).2 = bl at *
  obtain ⟨tx, htx⟩ : ∃ tx, (⟨(coll s.data.toList true).1.toArray⟩ : ByteArray) = tx := ⟨_, rfl⟩
  rw [htx] at COL hx0
  have HX0 := Lib.hid hx0
  have HZ := Lib.hid hZ
  have HU := Lib.hid hu
  clear hs hz hWe hx0 hZ hu htx
  refine COL.out.mono ?_
  rintro e w2 ⟨rfl, hB2⟩
  have B2 := Lib.hid (below_then B1.out B1.out.size hB2)
  have B3 := Lib.hid (below_then B2.out B2.out.size (below_alloc (Below.refl w2.heap.size w2) (.cells (liV (itT tx Z)).toArray 27)))
  have C3 := Lib.hid (lit1 w2 (itT tx Z))
  obtain ⟨w3, hw3⟩ : ∃ w3, w2.alloc (.cells (liV (itT tx Z)).toArray 27) = w3 := ⟨_, rfl⟩
  have HW3 := Lib.hid (show w2.alloc (.cells #[.int .i64 1, .int .i64 0, .string tx, .int .i64 Z, .int .i64 0, .int .i64 10, .int .i64 0, .int .i64 0, .int .i64 0, .int .i64 0, .int .i64 0] 27) = w3 from hw3)
  rw [hw3] at B3 C3
  have NEW := Lib.hid fun w => Go.Proofs.Ytmkgapdadandmaa.Fl.New_c W w
  clear hw3 hB2 COL B1
  go_wp2_with fail
  rw [HW3.out]
  refine (NEW.out _).mono ?_
  rintro e w4 ⟨rfl, hF, hB4⟩
  obtain ⟨hx1, hx2, hx3, hx4, hx5⟩ := HX0.out _ rfl
  have hcW : max 0 (cut W) = W := by have := HU.out; unfold cut; omega
  rw [hcW] at hF
  have B4 := Lib.hid (below_then B3.out B3.out.size hB4)
  have C4 := Lib.hid (Kd.C_below C3.out hB4)
  have BRK := Lib.hid fun (fp : Nat) (al : Int) (w' : World) (hb : Below w4.heap.size w4 w') (hF : Go.Proofs.Ytmkgapdadandmaa.Fl.IsF w' fp W []) => BreakX_c (some ⟨w2.heap.size, 0, none⟩) 1 1 fp [itT tx Z] 0 Z 10 0 al W w' (Kd.C_below C4.out hb) (by decide) (fun x hx => by rw [List.mem_singleton] at hx; subst hx; exact hx2) (fun x hx => by rw [List.mem_singleton] at hx; subst hx; exact hx4) hF (by have := HU.out; omega) (fun x hx => by rw [List.mem_singleton] at hx; subst hx; show (1 : Int) ≠ 5; decide) (fun x hx => by rw [List.mem_singleton] at hx; subst hx; exact hx5)
  have BR1 := Lib.hid (BRK.out w3.heap.size 3 w4 (Below.refl _ _) hF)
  have JL := Lib.hid fun (f1 f2 : Nat) => just_law (Kj := k0 f1 Z 10 3) (Ks := k0 f2 Z 10 0) rfl (by show (0 : Int) ≠ 3; decide) hx1 hx2 hx3 HU.out
  clear hF hB4 hx1 hx2 hx3 hx4 hx5 C3 B3 HW3
  go_wp2_with fail
  refine BR1.out.mono ?_
  rintro e w5 ⟨va, rfl, hRa, hB5⟩
  have B5 := Lib.hid (below_then B4.out B4.out.size hB5)
  have RA := Lib.hid hRa
  clear hRa BR1
  go_wp2_with fail
  refine (NEW.out _).mono ?_
  rintro e w6 ⟨rfl, hF, hB6⟩
  rw [hcW] at hF
  have B6 := Lib.hid (below_then B5.out B5.out.size hB6)
  have RA6 := Lib.hid (Kd.R_below RA.out hB6)
  have BR2 := Lib.hid (BRK.out w5.heap.size 0 w6 (below_then hB5 hB5.size hB6) hF)
  clear hF hB6 hB5 BRK RA
  go_wp2_with fail
  refine BR2.out.mono ?_
  rintro e w7 ⟨vb, rfl, hRb, hB7⟩
  have B7 := Lib.hid (below_then B6.out B6.out.size hB7)
  obtain ⟨jl1, jl2⟩ := JL.out w3.heap.size w5.heap.size
  obtain ⟨Aa, ca, rfl, hca, hCa⟩ := Kd.R_reads (Kd.R_below RA6.out hB7)
  obtain ⟨Ab, cb, rfl, hcb, hCb⟩ := Kd.R_reads hRb
  generalize breakX (k0 w3.heap.size Z 10 3) [itT tx Z] W (s0 0 0) = oa at *
  generalize breakX (k0 w5.heap.size Z 10 0) [itT tx Z] W (s0 0 0) = ob at *
  obtain ⟨n, hn⟩ : ∃ n, oa.length = n := ⟨_, rfl⟩
  rw [← jl1] at hCb hcb ⊢
  rw [hn] at hCa hCb hca hcb jl2 ⊢
  have CA := Lib.hid hCa
  have CB := Lib.hid hCb
  have J2 := Lib.hid jl2
  have NN := Lib.hid hn
  have HN := Lib.hid (show n ≤ 9223372036854775807 from hCa.2.1)
  clear jl1 jl2 hCa hCb hRb hB7 hca hcb hn RA6 BR2 JL B4 B5 B6 C4 NEW HX0 HZ B2
  go_wp2_with fail
  go_loopw [10, 11, 12, 13, 14, 54] (fun _ _ _ _ _ iv wr => ∃ k : Nat, k ≤ n ∧ iv = .int .i64 k ∧ Hid (Below w7.heap.size w7 wr)) (fun _ _ _ _ _ iv _ => n - (RowKit.intOf iv).toNat)
  case atStart => exact ⟨0, Nat.zero_le _, rfl, Below.refl _ _⟩
  case round =>
    obtain ⟨k, hk, rfl, hB⟩ := hrel
    have hnn := HN.out
    by_cases hlt : k < n
    · have hj := J2.out k hlt
      obtain ⟨aa, A5, c5, ea, x0, x1, x2, x3, x4, x5, x6, hc5, hC5⟩ := at_T39 (Kd.C_below CA.out hB.out) (k : Int) (by omega) (by omega)
      subst ea
      obtain ⟨ab, B5, d5, ea, -, -, y2, -, -, y5, -, hd5, hD5⟩ := at_T39 (Kd.C_below CB.out hB.out) (k : Int) (by omega) (by omega)
      subst ea
      have ra : rd_T39 oa (k : Int) = oa.getD k z39 := by unfold rd_T39; rw [Int.toNat_natCast]
      have rb : rd_T39 ob (k : Int) = ob.getD k z39 := by unfold rd_T39; rw [Int.toNat_natCast]
      rw [Int.toNat_natCast, ra] at x0 x1 x2 x3 x4 x5 x6
      rw [ra] at hc5 hC5
      rw [Int.toNat_natCast, rb] at y2 y5
      rw [rb] at hd5 hD5
      clear ra rb
      generalize oa.getD k z39 = xa at *
      generalize ob.getD k z39 = xb at *
      obtain ⟨a0, a1, a2, a3, a4, a5, a6⟩ := xa
      obtain ⟨b0, b1, b2, b3, b4, b5, b6⟩ := xb
      obtain ⟨j1, j2, j3, j4, j5⟩ := hj
      simp only at x0 x1 x2 x3 x4 x5 x6 y2 y5 hc5 hC5 hd5 hD5 j1 j2 j3 j4 j5
      obtain ⟨m, hm⟩ : ∃ m, a5.length = m := ⟨_, rfl⟩
      rw [← j1] at y5 hd5 hD5
      rw [hm] at x5 y5 hc5 hd5 hC5 hD5 j2 j3 j5
      have C5 := Lib.hid hC5
      have D5 := Lib.hid hD5
      have G2 := Lib.hid j2
      have G3 := Lib.hid j3
      have G4 := Lib.hid j4
      have G5 := Lib.hid j5
      have HM := Lib.hid (show m ≤ 9223372036854775807 from hC5.2.1)
      have GA := Lib.hid fun W' (h : Below wr.heap.size wr W') => And.intro (cell_later h y2) (And.intro (cell_later h y5) (And.intro (Kd.C_below hC5 h) (Kd.C_below hD5 h)))
      obtain ⟨V, hV⟩ : ∃ V, wr.alloc (.cells #[.int .i64 a0, .int .i64 a1, .int .i64 a2, .int .i64 a3, .int .i64 a4, .slice A5 m c5, .bool a6] 39) = V := ⟨_, rfl⟩
      have hVb : Below wr.heap.size wr V := by rw [← hV]; exact below_alloc (Below.refl _ _) _
      have hVl : V.heap[wr.heap.size]? = some (.cells #[.int .i64 a0, .int .i64 a1, .int .i64 a2, .int .i64 a3, .int .i64 a4, .slice A5 m c5, .bool a6] 39 (0, 0)) := by rw [← hV]; exact heap_alloc_new _ _
      have HV := Lib.hid hV
      have VB := Lib.hid hVb
      have VL := Lib.hid hVl
      have hLN : ∀ W', Below V.heap.size V W' → W'.cell? ⟨wr.heap.size, 2, none⟩ = some (.int .i64 a2) ∧ W'.cell? ⟨wr.heap.size, 5, none⟩ = some (.slice A5 m c5) ∧ W'.cell? ⟨wr.heap.size, 6, none⟩ = some (.bool a6) := fun W' h => ⟨blk_cell (blk_below hVl h) 2, blk_cell (blk_below hVl h) 5, blk_cell (blk_below hVl h) 6⟩
      have LN := Lib.hid hLN
      clear hLN hVb hV hVl hC5 hD5 j1 j2 j3 j4 j5 hm y2 y5 C5 D5
      go_wp2_with fail
      rw [HV.out]
      obtain ⟨-, z5, -⟩ := LN.out V (Below.refl _ _)
      obtain ⟨-, y5, -, -⟩ := GA.out V VB.out
      go_quiet (fail)
      have hU := pw_below_drewN (Below.refl V.heap.size V) nq
      generalize V.drewN nq = U at *
      have UB := Lib.hid hU
      clear hU z5 y5
      obtain ⟨-, z5, -⟩ := LN.out U UB.out
      go_wp2_with fail
      obtain ⟨WR, hWR⟩ : ∃ W, W = wr := ⟨_, rfl⟩
      subst hWR
      go_loopw [12, 13, 14, 72] (fun bv _ _ jv wx => ∃ (j : Nat) (c : Int), j ≤ m ∧ jv = .int .i64 j ∧ bv = .int .i64 c ∧ 0 ≤ c ∧ c ≤ j ∧ Hid (0 < c → ∃ q, q + 1 < m ∧ hasSuffix (a5.getD q z41).f3.data.toList [32] = true) ∧ Hid (Below U.heap.size U wx)) (fun _ _ _ jv _ => m - (RowKit.intOf jv).toNat)
      case atStart => exact ⟨0, 0, Nat.zero_le _, rfl, rfl, Int.le_refl _, Int.le_refl _, fun h => absurd h (by decide), Below.refl _ _⟩
      case round =>
        obtain ⟨j, c, hj, rfl, rfl, hc0, hcj, hQ, hBj⟩ := hrel
        have hmm := HM.out
        have hWb : Below WR.heap.size WR wr := below_then (below_then VB.out VB.out.size UB.out) (below_then VB.out VB.out.size UB.out).size hBj.out
        have hVb : Below V.heap.size V wr := below_then UB.out UB.out.size hBj.out
        obtain ⟨y2, y5, hCp, hDp⟩ := GA.out wr hWb
        obtain ⟨z2, z5, z6⟩ := LN.out wr hVb
        have WB := Lib.hid hWb
        have VB2 := Lib.hid hVb
        by_cases hlj : j < m
        · obtain ⟨pa, ea, p0, p1, p2, p3⟩ := at_T41 hCp (j : Int) (by omega) (by omega)
          subst ea
          obtain ⟨pb, ea, -, q1, -, q3⟩ := at_T41 hDp (j : Int) (by omega) (by omega)
          subst ea
          have ra : rd_T41 a5 (j : Int) = a5.getD j z41 := by unfold rd_T41; rw [Int.toNat_natCast]
          have rb : rd_T41 b5 (j : Int) = b5.getD j z41 := by unfold rd_T41; rw [Int.toNat_natCast]
          rw [Int.toNat_natCast, ra] at p0 p1 p2 p3
          rw [Int.toNat_natCast, rb] at q1 q3
          obtain ⟨g1, g2⟩ := G2.out j hlj
          rw [← g2] at q3
          clear ra rb g2
          have hAl := below_alloc (Below.refl wr.heap.size wr) (.cells #[.int .i64 (a5.getD j z41).f0, .int .i64 (a5.getD j z41).f1, .int .i64 (a5.getD j z41).f2, .string (a5.getD j z41).f3] 41)
          have e5 := cell_later hAl z5
          have ey5 := cell_later hAl y5
          have eq1 := cell_later hAl q1
          have eq3 := cell_later hAl q3
          have AL := Lib.hid hAl
          generalize (a5.getD j z41).f0 = f0 at *
          generalize (a5.getD j z41).f1 = f1 at *
          generalize (a5.getD j z41).f2 = f2 at *
          generalize (a5.getD j z41).f3 = f3 at *
          generalize (b5.getD j z41).f1 = h1 at *
          have hxx : (f1 < h1) = False := by simp; exact g1
          have hA1 : (wr.alloc (.cells #[.int .i64 f0, .int .i64 f1, .int .i64 f2, .string f3] 41)).cell? ⟨wr.heap.size, 1, none⟩ = some (.int .i64 f1) := blk_cell (heap_alloc_new _ _) 1
          have hA3 : (wr.alloc (.cells #[.int .i64 f0, .int .i64 f1, .int .i64 f2, .string f3] 41)).cell? ⟨wr.heap.size, 3, none⟩ = some (.string f3) := blk_cell (heap_alloc_new _ _) 3
          have A1 := Lib.hid hA1
          have A3 := Lib.hid hA3
          clear hA1 hA3
          rcases Nat.eq_zero_or_pos j with hj0 | hj0
          · have hng : (0 < j) = False := by simp; omega
            have hng2 : ((j : Int) > 0) = False := by simp; omega
            have HJ0 := Lib.hid hj0
            clear hj0 hAl g1 z2 z6 y2 hWb hVb hCp hDp
            go_wp2_with fail
            obtain ⟨V2, hV2⟩ : ∃ V2, wr.alloc (.cells #[.int .i64 f0, .int .i64 f1, .int .i64 f2, .string f3] 41) = V2 := ⟨_, rfl⟩
            rw [hV2] at e5 ey5 eq1 eq3 AL A1 A3 ⊢
            have r1 := A1.out
            have r3 := A3.out
            clear hV2
            go_quiet (fail)
            have dn := pw_below_drewN (Below.refl V2.heap.size V2) nq
            generalize V2.drewN nq = U2 at *
            have B9 := Lib.hid (below_then (below_then hBj.out hBj.out.size AL.out) (below_then hBj.out hBj.out.size AL.out).size dn)
            clear dn
            go_wp2_with fail
            go_roundw
            case rel => exact ⟨j + 1, c, by omega, by go_num, rfl, hc0, by omega, hQ, B9⟩
            case measure => simp [RowKit.intOf]; omega
          · have hng : (0 < j) = True := by simp; omega
            have hng2 : ((j : Int) > 0) = True := by simp; omega
            obtain ⟨q, hq⟩ : ∃ q, j - 1 = q := ⟨_, rfl⟩
            have hqi : (j : Int) - 1 = (q : Int) := by omega
            have hqm : q < m := by omega
            obtain ⟨pp, ea, -, -, -, o3⟩ := at_T41 hCp (q : Int) (by omega) (by omega)
            cases ea
            have ra : rd_T41 a5 (q : Int) = a5.getD q z41 := by unfold rd_T41; rw [Int.toNat_natCast]
            rw [Int.toNat_natCast, ra] at o3
            have eo3 := cell_later hAl o3
            have hsz := G5.out q hqm
            obtain ⟨sb, hsb⟩ : ∃ sb, hasSuffix (a5.getD q z41).f3.data.toList [32] = sb := ⟨_, rfl⟩
            obtain ⟨pt, hpt⟩ : ∃ pt, (a5.getD q z41).f3 = pt := ⟨_, rfl⟩
            rw [hpt] at eo3 hsz hsb
            have SB := Lib.hid hsb
            have HPT := Lib.hid hpt
            clear hpt
            have HS := Lib.hid fun w => (by have := Try.strings_HasSuffix pt ⟨#[32]⟩ w (by omega); rw [show (⟨#[32]⟩ : ByteArray).data.toList = [32] from rfl, hsb] at this; exact this : Calls Try.prog 13 #[.string pt, .string ⟨#[32]⟩] w fun e w' => e = .returned (.bool sb) ∧ w' = w)
            have HQ := Lib.hid (show q + 1 < m by omega)
            clear hj0 hAl g1 z2 z6 y2 hWb hVb hCp hDp hq hsz hsb ra o3
            cases sb with
            | true =>
              go_wp2_with (go_at_call 13; refine (HS.out _).mono ?_; rintro e w' ⟨rfl, rfl⟩)
              obtain ⟨V2, hV2⟩ : ∃ V2, wr.alloc (.cells #[.int .i64 f0, .int .i64 f1, .int .i64 f2, .string f3] 41) = V2 := ⟨_, rfl⟩
              rw [hV2] at e5 ey5 eq1 eq3 AL A1 A3 ⊢
              have r1 := A1.out
              have r3 := A3.out
              clear hV2
              go_quiet (fail)
              have dn := pw_below_drewN (Below.refl V2.heap.size V2) nq
              generalize V2.drewN nq = U2 at *
              have B9 := Lib.hid (below_then (below_then hBj.out hBj.out.size AL.out) (below_then hBj.out hBj.out.size AL.out).size dn)
              clear dn
              go_wp2_with fail
              go_roundw
              case rel => exact ⟨j + 1, c + 1, by omega, by go_num, rfl, by omega, by omega, Lib.hid fun _ => ⟨q, HQ.out, by rw [HPT.out]; exact SB.out⟩, B9⟩
              case measure => simp [RowKit.intOf]; omega
            | false =>
              go_wp2_with (go_at_call 13; refine (HS.out _).mono ?_; rintro e w' ⟨rfl, rfl⟩)
              obtain ⟨V2, hV2⟩ : ∃ V2, wr.alloc (.cells #[.int .i64 f0, .int .i64 f1, .int .i64 f2, .string f3] 41) = V2 := ⟨_, rfl⟩
              rw [hV2] at e5 ey5 eq1 eq3 AL A1 A3 ⊢
              have r1 := A1.out
              have r3 := A3.out
              clear hV2
              go_quiet (fail)
              have dn := pw_below_drewN (Below.refl V2.heap.size V2) nq
              generalize V2.drewN nq = U2 at *
              have B9 := Lib.hid (below_then (below_then hBj.out hBj.out.size AL.out) (below_then hBj.out hBj.out.size AL.out).size dn)
              clear dn
              go_wp2_with fail
              go_roundw
              case rel => exact ⟨j + 1, c, by omega, by go_num, rfl, hc0, by omega, hQ, B9⟩
              case measure => simp [RowKit.intOf]; omega
        · obtain rfl : j = m := by omega
          clear hCp hDp y5 hWb hVb
          go_wp2_with fail
          have hG3 := G3.out
          have hG4 := G4.out
          cases a6 with
          | true =>
            have hab := hG4 rfl
            subst hab
            clear hG3 hG4
            go_quiet (fail)
            have dn := pw_below_drewN (Below.refl wr.heap.size wr) nq
            generalize wr.drewN nq = U3 at *
            have B9 := Lib.hid (below_then hB.out hB.out.size (below_then WB.out WB.out.size dn))
            clear dn
            go_wp2_with fail
            go_roundw
            case rel => exact ⟨k + 1, by omega, by go_num, B9⟩
            case measure => simp [RowKit.intOf]; omega
          | false =>
            rcases Int.lt_or_le 0 c with hcp | hcp
            · obtain ⟨q, h1, h2⟩ := hQ.out hcp
              have ha2 := hG3 rfl q h1 h2
              subst ha2
              have hcg : (0 < c) = True := by simp; omega
              clear hG3 hG4 h1 h2
              go_quiet (fail)
              have dn := pw_below_drewN (Below.refl wr.heap.size wr) nq
              generalize wr.drewN nq = U3 at *
              have B9 := Lib.hid (below_then hB.out hB.out.size (below_then WB.out WB.out.size dn))
              clear dn
              go_wp2_with fail
              go_roundw
              case rel => exact ⟨k + 1, by omega, by go_num, B9⟩
              case measure => simp [RowKit.intOf]; omega
            · have hcg : (0 < c) = False := by simp; omega
              clear hG3 hG4
              go_quiet (fail)
              have dn := pw_below_drewN (Below.refl wr.heap.size wr) nq
              generalize wr.drewN nq = U3 at *
              have B9 := Lib.hid (below_then hB.out hB.out.size (below_then WB.out WB.out.size dn))
              clear dn
              go_wp2_with fail
              go_roundw
              case rel => exact ⟨k + 1, by omega, by go_num, B9⟩
              case measure => simp [RowKit.intOf]; omega
    · obtain rfl : k = n := by omega
      go_wp2_with fail
      go_ret
      exact ⟨rfl, below_then B7.out B7.out.size hB.out⟩
theorem own : ownKnob Try.prog.godebug = none := by kernel_rfl
set_option maxRecDepth 100000 in
theorem lifted (os : Os) (started : os.Started) (H : Type) (enc : TypeId × Value → H) :
    ReturnsInHanded {} Try.checked os 4 .any (Rows.linesJustifiedSpec.pre6 enc Try.prog Try.f4 Rows.linesJustifiedRow.domain false) (Rows.linesJustifiedSpec.post enc Try.prog Try.f4 false true false false) := by
  refine returnsInHanded_of_change_sized (C := Try.checked) own started (by kernel_rfl) Try.func4
    (ChangeSpec.witness6 (enc := enc) (C := Try.checked) false ⟨#[], #[.string ByteArray.empty, .int .i64 0, .int .i64 0], []⟩ 8 (by kernel_rfl) (by kernel_rfl) (by kernel_rfl) (by kernel_rfl)) ?_
  intro W base args ds gs before hval0 hW hcnd hsz0 _
  have hsz : (DataW.weightsEach Try.prog (Try.f4.params.toList ++ Rows.linesJustifiedSpec.plain.varTypes Try.prog) (ds ++ gs)).all (· ≤ reachBytes) = true := hsz0
  have hval : ∀ (j : Nat) t v, Try.f4.params[j]? = some t → args[j]? = some v → Value.okWide Try.prog W .any base t v := hval0
  have hW' := hW
  obtain ⟨p, q, hA0, hV, rfl, hfz, hnd⟩ := hW
  have hA : DataW.TrodAll enc Try.prog W 0 (fun _ => true) true Try.f4.params.toList args.toList ds p := hA0
  rw [Try.params4] at hA hval hsz
  obtain ⟨v0, vs0, d0, ds0, p0, q0, hargs, rfl, rfl, h0, r0⟩ := trodAll_cons hA
  obtain ⟨v1, vs1, d1, ds1, p1, q1, rfl, rfl, rfl, h1, r1⟩ := trodAll_cons r0
  obtain ⟨v2, vs2, d2, ds2, p2, q2, rfl, rfl, rfl, h2, r2⟩ := trodAll_cons r1
  obtain ⟨rfl, rfl, rfl⟩ := trodAll_nil r2
  obtain rfl : args = #[v0, v1, v2] := by cases args; simp_all
  obtain ⟨rfl, rfl⟩ := trodVars_none hV
  obtain ⟨a0, rfl, rfl, rfl, y0⟩ := open_string Try.underlying9 (hval 0 9 v0 rfl rfl) h0
  have w0 : a0.size ≤ 140737488351232 := by
    have z := sized_string hsz (j := 0) (t := 9) rfl rfl
    rw [Array.length_toList] at z
    exact z
  obtain ⟨a1, rfl, rfl, rfl, w1⟩ := open_int Try.underlying3 (hval 1 3 v1 rfl rfl) h1
  obtain ⟨a2, rfl, rfl, rfl, w2⟩ := open_int Try.underlying3 (hval 2 3 v2 rfl rfl) h2
  clear hA0 hval0 hsz0 hsz
  refine (walk a0 a1 a2 W w0 w1 w2).mono fun e W' ⟨he, bel⟩ => ?_
  subst he
  exact ⟨_, rfl, _, _, _, [], _, [], hW', trodAll_mk1 (shut_bool Try.underlying4 _), (trodAll_cons_mk (shut_string Try.underlying9 y0) (trodAll_cons_mk (shut_int Try.underlying3 w1) (trodAll_cons_mk (shut_int Try.underlying3 w2) trodAll_mk0))), rfl, bel.frame _, fun h => by cases h⟩
theorem over : Rows.linesJustifiedRow.holds Try.pinned (OpenSpec.ofChange Rows.linesJustifiedSpec) :=
  OpenClaim.holds_of_wide 4 Try.f4 rfl rfl rfl rfl rfl rfl rfl ⟨rfl, rfl, rfl, rfl, rfl⟩ rfl rfl rfl rfl rfl (by kernel_rfl) Try.func4 (by kernel_rfl)
    (of_decide_eq_true (by kernel_rfl)) (by unfold Func.isWrapper; first | (rw [if_pos (by decide +kernel)]; kernel_rfl) | (rw [if_neg (by decide +kernel)]; exact ⟨rfl, rfl⟩))
    (fun os started H enc _ => lifted os started H enc)
theorem proved : Rows.LinesJustifiedSaid := over
#print axioms proved
end Go.Proofs.Ytmkgapdadandmaa.LinesJustified
