/- Package damage: Redraw, of a picture of 6 by 6. -/
import Derived.Test.YtfkgpkkjiolfpaaDamage2
import Derived.Test.YtfkgpkkjiolfpaaShelf
import Derived.Deep.QuietTactic
import Derived.BigQuiet
namespace Go.Proofs.Ytfkgpkkjiolfpaa.Ras
open Go.RowKit Go.Lib Go.Proofs.Ytfkgpkkjiolfpaa.Blk Go.Proofs.Ytfkgpkkjiolfpaa.Rgn Go.Proofs.Ytfkgpkkjiolfpaa.Pl Go.Proofs.Ytfkgpkkjiolfpaa.Fx Go.Proofs.Ytfkgpkkjiolfpaa.Fnt Go.Proofs.YtfkgpkkjiolfpaaW.PrintWords Go.Proofs.YtfkgpkkjiolfpaaW.PrintLast Go.Proofs.YtfkgpkkjiolfpaaW.PrintMore
set_option linter.unusedVariables false
set_option linter.unusedSimpArgs false
attribute [local go_sem] mx2 mn2 mx_two mn_two mx_three mn_three

/-- Is a pixel's place within one of some? -/
def inR (rs : List LR) (i : Nat) : Bool := withinL rs ((i % 6 * 64 + 32 : Nat) : Int) ((i / 6 * 64 + 32 : Nat) : Int)
def redAt (out : List LD) (rs : List LR) (px : List Int) (i : Nat) : Int := if inR rs i = true then pxy out 6 i else px.getD i 0
def redS (out : List LD) (rs : List LR) (px : List Int) (k : Nat) : List Int := (List.range 36).map fun i => if i < k then redAt out rs px i else px.getD i 0
def manyP (rs : List LR) (k : Nat) : Nat := ((List.range k).filter fun i => inR rs i).length
theorem many_succ (rs : List LR) (k : Nat) : manyP rs (k + 1) = manyP rs k + if inR rs k = true then 1 else 0 := by
  unfold manyP
  rw [List.range_succ, List.filter_append, List.length_append]
  congr 1
  by_cases h : inR rs k = true <;> simp [h]
theorem many_le (rs : List LR) (k : Nat) : manyP rs k ≤ k := by
  have := List.length_filter_le (fun i => inR rs i) (List.range k)
  unfold manyP
  rwa [List.length_range] at this
theorem redS_zero (out : List LD) (rs : List LR) (px : List Int) (h : px.length = 36) : redS out rs px 0 = px := by
  apply List.ext_getElem
  · simp [redS, h]
  · intro i h1 h2
    simp [redS, List.getD_eq_getElem?_getD, h2]
theorem redS_len (out : List LD) (rs : List LR) (px : List Int) (k : Nat) : (redS out rs px k).length = 36 := by simp [redS]
theorem redS_get (out : List LD) (rs : List LR) (px : List Int) (k i : Nat) (hi : i < 36) : (redS out rs px k).getD i 0 = if i < k then redAt out rs px i else px.getD i 0 := by
  simp [redS, List.getD_eq_getElem?_getD, hi]
theorem redS_set (out : List LD) (rs : List LR) (px : List Int) (k : Nat) (hk : k < 36) : (redS out rs px k).set k (redAt out rs px k) = redS out rs px (k + 1) := by
  apply List.ext_getElem
  · simp [redS]
  · intro i h1 h2
    rw [List.getElem_set]
    simp only [redS, List.getElem_map, List.getElem_range]
    by_cases e : k = i
    · subst e; simp
    · rw [if_neg e]
      by_cases h3 : i < k
      · rw [if_pos h3, if_pos (by omega)]
      · rw [if_neg h3, if_neg (by omega)]
theorem redS_skip (out : List LD) (rs : List LR) (px : List Int) (k : Nat) (hk : k < 36) (h : inR rs k = false) : redS out rs px k = redS out rs px (k + 1) := by
  apply List.ext_getElem
  · simp [redS]
  · intro i h1 h2
    simp only [redS, List.getElem_map, List.getElem_range]
    by_cases e : k = i
    · subst e
      rw [if_neg (by omega), if_pos (by omega)]
      unfold redAt
      rw [h]
      simp
    · by_cases h3 : i < k
      · rw [if_pos h3, if_pos (by omega)]
      · rw [if_neg h3, if_neg (by omega)]
def RedPost (l : List Cm) (rs : List LR) (px : List Int) (w : World) (e : Ending) (w' : World) : Prop :=
  (∃ k, flatP l = .error k ∧ k ≠ 0 ∧ e = .returned (.tuple #[.slice none 0 0, .int .i64 0, .int .i64 k]) ∧ Below w.heap.size w w') ∨
  (∃ out v, flatP l = .ok out ∧ e = .returned (.tuple #[v, .int .i64 (manyP rs 36 : Nat), .int .i64 0]) ∧ w'.ownsRow w.heap.size 3 1 v 36 (nums .i64 (redS out rs px 36)) ∧ Below w.heap.size w w')
set_option maxRecDepth 1000000 in
set_option maxHeartbeats 4000000 in
theorem Redraw_c (g cp : Nat) (px : List Int) (base : Nat) (A : Option Addr) (n c : Nat) (l : List Cm) (Ar : Option Addr) (nr cr : Nat) (lr : List LR) (w : World)
    (hO : w.ownsRow base 3 1 (.slice (some ⟨g, 0, none⟩) 36 cp) 36 (nums .i64 px)) (hC : Kd.C k65 w A n l) (hn : n ≤ 100) (ht : ∀ x, x ∈ l → x.f8.size ≤ 1000) (hR : Kd.C k59 w Ar nr lr) (hrc : nr ≤ cr) :
    Calls Try.prog 36 #[.slice (some ⟨g, 0, none⟩) 36 cp, .int .i64 6, .int .i64 6, .slice A n c, .slice Ar nr cr] w (RedPost l ((lr.take 1000).map cutR) px w) := by
  have FL := Lib.hid (Flat_c A n c l w hC (by omega))
  have hln : l.length = n := hC.1
  have hpl : px.length = 36 := by have := hO.1; simpa [nums] using this
  have hrn : lr.length = nr := hR.1
  have hrm : nr ≤ 9223372036854775807 := hR.2.1
  obtain ⟨m, em, q0, r0⟩ : ∃ m : Nat, min (nr : Int) 1000 = (m : Int) ∧ m ≤ nr ∧ (m : Int) ≤ 1000 := ⟨min nr 1000, by omega, by omega, by omega⟩
  have hmt : lr.take m = lr.take 1000 := by
    by_cases h : nr ≤ 1000
    · rw [List.take_of_length_le (by omega), List.take_of_length_le (by omega)]
    · rw [show m = 1000 by omega]
  have hRm := Kd.C_take (m := m) (hrn ▸ hR) (by omega)
  rw [hmt] at hRm
  have hml : (lr.take 1000).length = m := by rw [← hmt, List.length_take]; omega
  rw [hml] at hRm
  generalize lr.take 1000 = lt at *
  generalize hrs : lt.map cutR = rs
  have HRS := Lib.hid hrs
  have hrcut : ∀ r, r ∈ rs → CutR r := fun r hr => by rw [← hrs] at hr; obtain ⟨y, _, rfl⟩ := List.mem_map.1 hr; exact cutR_cut y
  have HRC := Lib.hid hrcut
  have HO := Lib.hid hO
  have HPL := Lib.hid hpl
  have LN := Lib.hid hln
  have HRM := Lib.hid hRm
  have HML := Lib.hid hml
  have HT := Lib.hid ht
  clear hO hC ht hR hln hpl hrn hmt hRm hml hrs hrcut
  go_enter Try.func36, Try.ntmps36
  go_wp2_with fail
  refine FL.out.mono ?_
  rintro e w1 (⟨k, hk, rfl, hb, h0⟩ | ⟨out, vf, hk, rfl, hF, hb⟩)
  · have nk : (k != 0) = true := by simp [h0]
    have POST : Hid (RedPost l rs px w (.returned (.tuple #[.slice none 0 0, .int .i64 0, .int .i64 k])) w1) := Lib.hid (.inl ⟨k, hk, h0, rfl, hb⟩)
    clear hk h0 hb
    go_wp2_with fail
    go_ret3
    exact POST.out
  · obtain ⟨Af, cf, rfl, hcf, hCf⟩ := Kd.R_reads hF
    have hol : out.length ≤ 100 := by have := flat_len l _ _ hk; have := LN.out; omega
    have htm : ∀ d, d ∈ out → TameD d := fun d hd => by
      obtain ⟨p1, p2, _⟩ := flat_tame l _ _ (fun x hx => by rw [List.mem_singleton] at hx; subst hx; exact good_all) hk d hd
      exact ⟨HT.out _ p1, p2⟩
    have B1 := Lib.hid hb
    have CF := Lib.hid hCf
    have HK := Lib.hid hk
    have TM := Lib.hid htm
    have hO1 := pw_own_below HO.out hb
    have CLN := Lib.hid (Try.slices_Clone_int g 0 36 cp px w1 (by have := HPL.out; omega) (by omega) (fun j hj => by
      have hj2 : j < 36 := by rw [HPL.out] at hj; exact hj
      obtain ⟨z, -⟩ := own_at hO1 (j : Int) (by omega) (by omega)
      rw [Int.toNat_natCast] at z
      rw [Nat.zero_add, z]
      simp [rd]))
    have RM1 := Lib.hid (Kd.C_below HRM.out hb)
    clear hk hb hF hCf htm hO1 FL
    go_wp2_with fail
    refine CLN.out.mono ?_
    rintro e w2 ⟨vc, rfl, hOc, -, hb2⟩
    obtain ⟨gc, cpc, rfl, hgc1, hgc2⟩ := own_form hOc (by decide)
    have hpx : (px.take 36).map (Value.int .i64) = nums .i64 px := by rw [List.take_of_length_le (by rw [HPL.out]; exact Nat.le_refl _)]; rfl
    rw [hpx, ← redS_zero out rs px HPL.out] at hOc
    have OC := Lib.hid hOc
    have B2 := Lib.hid hb2
    have DC := Lib.hid (dcut_c Ar m cr lt w2 (Kd.C_below RM1.out hb2) (by omega))
    clear hpx hOc hb2 CLN
    go_wp2_with fail
    refine DC.out.mono ?_
    rintro e w3 ⟨vr, rfl, hR3, hb3⟩
    rw [HRS.out] at hR3
    have hrl : rs.length ≤ 1000 := by rw [← HRS.out, List.length_map, HML.out]; omega
    have R3 := Lib.hid (Kd.R_mono (ok' := fun k => w2.heap.size ≤ k) (Kd.R_bound hR3) (fun k hk => hk.2.1))
    obtain ⟨Ac, cc, rfl, hcc, -⟩ := Kd.R_reads hR3
    have OC3 := Lib.hid (pw_own_below OC.out hb3)
    have B3 := Lib.hid (below_then (B2.out) B2.out.size hb3)
    have hs12 := B2.out.size
    clear hR3 hb3 DC OC B2 RM1 HRM
    go_wp2_with fail
    go_loopw [16, 60] (fun mm i wr => ∃ k : Nat, k ≤ 36 ∧ i = .int .i64 k ∧ mm = .int .i64 (manyP rs k : Nat) ∧ Hid (wr.ownsRow w1.heap.size 3 1 (.slice (some ⟨gc, 0, none⟩) 36 cpc) 36 (nums .i64 (redS out rs px k))) ∧ Hid (Kd.R k59 59 wr w2.heap.size (fun k => w2.heap.size ≤ k) (.slice Ac rs.length cc) rs) ∧ Hid (Below w1.heap.size w1 wr)) (fun _ i _ => 36 - (RowKit.intOf i).toNat)
    case atStart => exact ⟨0, Nat.zero_le _, rfl, rfl, OC3.out, R3.out, B3.out⟩
    case round =>
      obtain ⟨k, hk, rfl, rfl, hOk, hRk, hB⟩ := hrel
      by_cases hlt : k < 36
      · obtain ⟨km, hkm⟩ : ∃ km, k % 6 = km := ⟨_, rfl⟩
        obtain ⟨kd, hkd⟩ : ∃ kd, k / 6 = kd := ⟨_, rfl⟩
        have d1 : km < 6 := by omega
        have d2 : kd < 6 := by omega
        have E1 : (k : Int) % 6 = (km : Int) := by omega
        have E2 : (k : Int) / 6 = (kd : Int) := by omega
        have hpx : pxy out 6 k = pixelP out ((km : Int) * 64 + 32) ((kd : Int) * 64 + 32) 4294967295 := by
          unfold pxy
          rw [hkm, hkd, show ((km * 64 + 32 : Nat) : Int) = (km : Int) * 64 + 32 by omega, show ((kd * 64 + 32 : Nat) : Int) = (kd : Int) * 64 + 32 by omega]
        have hin : inR rs k = withinL rs ((km : Int) * 64 + 32) ((kd : Int) * 64 + 32) := by
          unfold inR
          rw [hkm, hkd, show ((km * 64 + 32 : Nat) : Int) = (km : Int) * 64 + 32 by omega, show ((kd * 64 + 32 : Nat) : Int) = (kd : Int) * 64 + 32 by omega]
        have PX := Lib.hid (fun WW hC => Pixel_c Af out.length cf out ((km : Int) * 64 + 32) ((kd : Int) * 64 + 32) 4294967295 WW hC (by omega) TM.out ⟨by omega, by omega⟩ ⟨by omega, by omega⟩)
        unfold PixPost at PX
        rw [← hpx] at PX
        have hms := many_succ rs k
        have hset := redS_set out rs px k hlt
        have hskip := redS_skip out rs px k hlt
        have hat : redAt out rs px k = if inR rs k = true then pxy out 6 k else px.getD k 0 := rfl
        have hml := many_le rs k
        have WI := Lib.hid (fun WW hC => dwithin_c Ac rs.length cc rs ((km : Int) * 64 + 32) ((kd : Int) * 64 + 32) WW hC hrl HRC.out ⟨by omega, by omega⟩ ⟨by omega, by omega⟩)
        rw [← hin] at WI
        generalize inR rs k = bi at *
        generalize pxy out 6 k = pv at *
        generalize manyP rs k = mk at *
        have HMS := Lib.hid hms
        have HSET := Lib.hid hset
        have HSKIP := Lib.hid hskip
        have HAT := Lib.hid hat
        clear hpx hin hkm hkd hms hset hskip hat
        go_wp2_with fail
        go_quiet (fail)
        have hOd := pw_own_drewN hOk.out nq
        have hRd := Kd.R_drewN hRk.out nq
        have hBd := pw_below_drewN hB.out nq
        generalize wr.drewN nq = wd at *
        have OD := Lib.hid hOd
        have RD := Lib.hid hRd
        have BD := Lib.hid hBd
        clear hOd hRd hBd hOk hRk hB E1 E2
        go_wp2_with fail
        refine (WI.out wd (Kd.R_reads' RD.out).2.2).mono ?_
        rintro e w4 ⟨rfl, h4⟩
        have O4 := Lib.hid (pw_own_below OD.out h4)
        have R4 := Lib.hid (Kd.R_below RD.out h4)
        have B4 := Lib.hid (below_then BD.out BD.out.size h4)
        clear h4 OD RD BD
        cases bi with
        | false =>
          have hm1 : manyP rs (k + 1) = mk := HMS.out
          have HM1 := Lib.hid hm1
          have hs1 := HSKIP.out rfl
          have HS1 := Lib.hid hs1
          clear hm1 hs1 HMS HSKIP HSET HAT
          go_wp2_with fail
          go_roundw
          case rel => exact ⟨k + 1, by omega, by go_num, by rw [HM1.out], by rw [← HS1.out]; exact O4.out, R4.out, B4.out⟩
          case measure => simp [RowKit.intOf]; omega
        | true =>
          have hm1 : manyP rs (k + 1) = mk + 1 := HMS.out
          have HM1 := Lib.hid hm1
          have ha1 : redAt out rs px k = pv := HAT.out
          have hs1 := HSET.out
          rw [ha1] at hs1
          have HS1 := Lib.hid hs1
          clear hm1 hs1 ha1 HMS HSKIP HSET HAT
          go_wp2_with fail
          refine (PX.out w4 (Kd.C_below CF.out B4.out)).mono ?_
          rintro e w5 ⟨rfl, h5⟩
          have hO5 := pw_own_below O4.out h5
          obtain ⟨z1, z2⟩ := own_at hO5 (k : Int) (by omega) (by omega)
          rw [Int.toNat_natCast] at z1 z2
          have hst := (own_store hO5 (k : Int) pv).1
          rw [Int.toNat_natCast, HS1.out] at hst
          have ST := Lib.hid hst
          have R5 := Lib.hid (Kd.R_far (Kd.R_below R4.out h5) (p := ⟨gc, k, none⟩) (fun q hq => by show q ≠ gc; omega) (.int .i64 pv))
          have B5 := Lib.hid ((below_then B4.out B4.out.size h5).setCell (p := ⟨gc, k, none⟩) hgc1 (.int .i64 pv))
          clear hO5 hst h5 O4 R4 B4
          go_wp2_with fail
          go_roundw
          case rel => exact ⟨k + 1, by omega, by go_num, by rw [HM1.out]; go_num, ST.out, R5.out, B5.out⟩
          case measure => simp [RowKit.intOf]; omega
      · obtain rfl : k = 36 := by omega
        have POST : Hid (RedPost l rs px w (.returned (.tuple #[.slice (some ⟨gc, 0, none⟩) 36 cpc, .int .i64 (manyP rs 36 : Nat), .int .i64 0])) wr) := Lib.hid (.inr ⟨out, _, HK.out, rfl, own_weaken hOk.out B1.out.size, below_then B1.out B1.out.size hB.out⟩)
        go_wp2_with fail
        go_ret3
        exact POST.out
end Go.Proofs.Ytfkgpkkjiolfpaa.Ras
