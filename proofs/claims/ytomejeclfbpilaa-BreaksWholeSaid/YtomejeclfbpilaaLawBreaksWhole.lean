/- All pieces of a text together are the text, none is empty, and they end where lines may. For every input. -/
import Derived.Test.YtomejeclfbpilaaRows
import Derived.Test.YtomejeclfbpilaaBroken2
import Derived.Test.YtomejeclfbpilaaPiecesPlain
import Derived.Test.YtomejeclfbpilaaShelf
import Derived.ProofKit
import Derived.OpenShut
import Derived.ShutString
import Derived.ChangeOld
import Derived.Below
import Derived.SizedLaws
namespace Go.Proofs.Ytomejeclfbpilaa.BreaksWhole
open Go.RowKit Go.Lib Go.Proofs.Ytomejeclfbpilaa.Pl Go.Proofs.Ytomejeclfbpilaa.Fx Go.Proofs.Ytomejeclfbpilaa.Brk Go.Proofs.YtomejeclfbpilaaW.PrintWords Go.Proofs.YtomejeclfbpilaaW.PrintLast Go.Proofs.YtomejeclfbpilaaW.PrintMore
open Go.ChangeShapes Go.WideShapes Go.ChangeAt
open Go.ChangeMaps (open_string shut_string)
set_option linter.unusedVariables false
set_option linter.unusedSimpArgs false
attribute [local go_sem] mx2 mn2 mx_two mn_two mx_three mn_three

/-- Joined, the pieces are the text. -/
def JoinPost (s : ByteArray) (w : World) (e : Ending) (w' : World) : Prop := e = .returned (.string s) ∧ Below w.heap.size w w'
theorem joined (s : ByteArray) (xs : List ByteArray) (A : Option Addr) (n c : Nat) (w : World) (hs : s.size ≤ 1000) (hxn : xs.length = n) (hc : n ≤ c) (hC : Kd.string.C w A n xs)
    (hlt : ∀ ad, A = some ad → ad.block < w.heap.size ∧ ad.spot = none) (hn : n ≤ 1001) (hfl : (xs.map (·.data.toList)).flatten = s.data.toList) :
    Calls Try.prog 37 #[.slice A n c, .string ⟨#[]⟩] w (JoinPost s w) := by
  subst hxn
  have hj : Lib.join (xs.map (·.data.toList)) (⟨#[]⟩ : ByteArray).data.toList = s.data.toList := by
    show Lib.join _ [] = _
    rw [Brk.join_nil, hfl]
  rcases Nat.eq_zero_or_pos xs.length with h0 | h0
  · have hx : xs = [] := List.eq_nil_of_length_eq_zero h0
    subst hx
    refine (Try.strings_Join_none A c ⟨#[]⟩ w).mono fun e w' ⟨he, hw⟩ => ⟨?_, by rw [hw]; exact Below.refl _ _⟩
    rw [he]
    have : s = ⟨#[]⟩ := by
      have h2 : s.data.toList = [] := by rw [← hfl]; rfl
      obtain ⟨d⟩ := s
      simp at h2
      rw [h2]
    rw [this]
  · obtain ⟨ad, rfl, _⟩ := Kd.at_string hC 0 (by omega) (by omega)
    obtain ⟨hb, hp⟩ := hlt ad rfl
    obtain ⟨bk, o, p⟩ := ad
    simp only at hp hb
    subst hp
    refine (Try.strings_Join bk o c xs ⟨#[]⟩ w (fun j x hx => ?_) hb (by omega) hc (by rw [hj, Array.length_toList]; show s.size ≤ _; omega)).mono fun e w' ⟨he, hw⟩ => ⟨?_, hw⟩
    · have hjl : j < xs.length := by
        rcases Nat.lt_or_ge j xs.length with h | h
        · exact h
        · rw [List.getElem?_eq_none h] at hx; cases hx
      obtain ⟨ad, e, hcell⟩ := Kd.at_string hC (j : Int) (by omega) (by omega)
      injection e with e
      subst e
      rw [Int.toNat_natCast] at hcell
      have e1 : (⟨bk, o, none⟩ : Addr).add j = ⟨bk, o + j, none⟩ := by
        unfold Addr.add
        split
        · rename_i h; subst h; rfl
        · rfl
      rw [e1] at hcell
      rw [hcell]
      have e2 : rdOf ByteArray.empty xs (j : Int) = x := by
        simp [rdOf, List.getD_eq_getElem?_getD, hx]
      rw [e2]
    · rw [he, hj]

set_option maxRecDepth 100000 in
set_option maxHeartbeats 4000000 in
theorem walk (t : ByteArray) (mode : Int) (w : World) (_ : t.size ≤ 140737488351232) (_ : (Lit.int .i64 mode).wf = true) :
    Calls Try.prog 10 #[.string t, .int .i64 mode] w fun e w' => e = .returned (.bool true) ∧ Below w.heap.size w w' := by
  go_enter Try.func10, Try.ntmps10
  go_wp2_with fail
  obtain ⟨s, hs⟩ : ∃ s, t.extract 0 (min (t.size : Int) 400).toNat = s := ⟨_, rfl⟩
  have hz : s.size ≤ 400 := by rw [← hs, ByteArray.size_extract]; omega
  rw [hs]
  have HZ := Lib.hid hz
  clear hs hz
  refine (Pieces_c s mode (Places s (keepsB mode)) w (by have := HZ.out; omega) (fun w => All_c s mode w (by have := HZ.out; omega)) (fun us h => ⟨by have := h.1; have := HZ.out; omega, fun u hu => ⟨by have := (h.2.2.1 u hu).1; omega, (h.2.2.1 u hu).2.1⟩⟩)).mono ?_
  rintro e w1 ⟨v, us0, rfl, hR, hP, hB⟩
  obtain ⟨hfl, hne⟩ := whole_all s us0 (fun u hu => ⟨(hP.2.2.1 u hu).1, (hP.2.2.1 u hu).2.1⟩)
  have hpl : (piecesP s (us0 ++ [⟨(s.size : Int), false⟩])).2.length ≤ 1001 := by
    have h1 := (pieces_bd s (us0 ++ [⟨(s.size : Int), false⟩]) (fun u hu => by
      rcases List.mem_append.1 hu with hu | hu
      · exact ⟨by have := (hP.2.2.1 u hu).1; omega, (hP.2.2.1 u hu).2.1⟩
      · rw [List.mem_singleton] at hu; subst hu; exact ⟨by show (0 : Int) ≤ (s.size : Int); omega, Int.le_refl _⟩)).2.2
    rw [List.length_append, List.length_singleton] at h1
    have := hP.1
    have := HZ.out
    omega
  generalize (piecesP s (us0 ++ [⟨(s.size : Int), false⟩])).2 = ps at *
  have hbase : ∀ k, v.ownBlock = some k → k < w1.heap.size := fun k hk => ((Kd.R_bound hR).1 k hk).2.2.1
  obtain ⟨inner, hown⟩ := Kd.R_own hR
  obtain ⟨Ap, cp, rfl, hcp, hCp⟩ := Kd.R_reads hR
  have hAp : ∀ ad, Ap = some ad → ad.block < w1.heap.size ∧ ad.spot = none := by
    intro ad he
    subst he
    rcases hown.2 with ⟨h1, _⟩ | ⟨g, cap, cur, h1, _⟩
    · cases h1
    · injection h1 with h1
      injection h1 with h1
      subst h1
      exact ⟨hbase g rfl, rfl⟩
  obtain ⟨np, hnp⟩ : ∃ np, ps.length = np := ⟨_, rfl⟩
  rw [hnp] at hCp hcp hpl ⊢
  have hnp64 : np ≤ 1001 := hpl
  have HNP := Lib.hid hnp
  have PC := Lib.hid hCp
  have PA := Lib.hid hAp
  have PF := Lib.hid hfl
  have PN := Lib.hid hne
  have BP := Lib.hid hB
  have HCP := Lib.hid hcp
  clear hR hP hB hCp hAp hfl hne hnp hown hbase hcp hpl
  obtain ⟨W1, rfl⟩ : ∃ W1 : World, W1 = w1 := ⟨_, rfl⟩
  go_wp2_with fail
  refine (All_c s mode _ (by have := HZ.out; omega)).mono ?_
  rintro e w2 ⟨v2, us, rfl, hR, hP, hB⟩
  obtain ⟨Aa, ca, rfl, hca, hC⟩ := Kd.R_reads hR
  obtain ⟨m, hm⟩ : ∃ m, us.length = m := ⟨_, rfl⟩
  rw [hm] at hC hca ⊢
  have hmz : m ≤ 400 := by have := hP.1; have := HZ.out; omega
  have AC := Lib.hid hC
  have PL := Lib.hid hP
  have HM := Lib.hid hm
  have HB := Lib.hid hB
  clear hR hP hB hC hm
  obtain ⟨W0, rfl⟩ : ∃ W0 : World, W0 = w2 := ⟨_, rfl⟩
  go_wp2_with fail
  go_loopw [6, 23] (fun n i wr => ∃ (k : Nat) (at_ : Int), k ≤ m ∧ i = .int .i64 k ∧ n = .int .i64 at_ ∧ 0 ≤ at_ ∧ at_ ≤ 400 ∧ Hid (∀ u, u ∈ us.drop k → at_ < u.f0) ∧ Hid (Below W0.heap.size W0 wr)) (fun _ i _ => m - (RowKit.intOf i).toNat)
  case atStart => exact ⟨0, 0, Nat.zero_le _, rfl, rfl, by omega, by omega, fun u hu => by have := (PL.out.2.2.1 u hu).1; omega, Below.refl _ _⟩
  case round =>
    obtain ⟨k, at_, hk, rfl, rfl, ha0, ha1, hA, hB0⟩ := hrel
    by_cases hlt : k < m
    · obtain ⟨ad, ea, x0, x1⟩ := at_T68 (Kd.C_below AC.out hB0.out) (k : Int) (by omega) (by omega)
      subst ea
      rw [Int.toNat_natCast] at x0 x1
      have hkl : k < us.length := by rw [HM.out]; exact hlt
      have hmem := rd_memB us k hkl
      obtain ⟨u1, u2, u3⟩ := PL.out.2.2.1 _ hmem
      have hdrop : us.drop k = rd_T68 us (k : Int) :: us.drop (k + 1) := by
        have e : rd_T68 us (k : Int) = us[k] := by simp [rd_T68, List.getD_eq_getElem?_getD, hkl]
        rw [e, List.drop_eq_getElem_cons hkl]
      have hgt : at_ < (rd_T68 us (k : Int)).f0 := hA.out _ (by rw [hdrop]; simp)
      have hpw : ∀ u, u ∈ us.drop (k + 1) → (rd_T68 us (k : Int)).f0 < u.f0 := by
        have h1 := PL.out.2.1.sublist (List.drop_sublist k us)
        rw [hdrop, List.pairwise_cons] at h1
        exact h1.1
      have HPW := Lib.hid hpw
      have hf4 : (rd_T68 us (k : Int)).f0 ≤ 400 := by have := HZ.out; omega
      clear hpw hdrop hmem hkl u3
      generalize rd_T68 us (k : Int) = u at *
      obtain ⟨f0, f1⟩ := u
      simp only at x0 x1 u1 u2 hgt hf4
      have q1 : decide (f0 ≤ at_) = false := decide_eq_false (by omega)
      have q2 : decide (f0 < 1) = false := decide_eq_false (by omega)
      have q3 : decide ((s.size : Int) < f0) = false := decide_eq_false (by omega)
      go_wp2_with fail
      exact ⟨⟨k + 1, f0, by omega, by go_num, rfl, by omega, hf4, HPW.out, below_alloc hB0.out _⟩, by simp [RowKit.intOf]; omega⟩
    · have hB2 := hB0.out
      have B2 := Lib.hid hB2
      clear hA hB0 hB2 ha0 ha1
      obtain ⟨W2, rfl⟩ : ∃ W2 : World, W2 = wr := ⟨_, rfl⟩
      have PC2 := Lib.hid (Kd.C_below (Kd.C_below PC.out HB.out) B2.out)
      have B12 := Lib.hid (below_then HB.out HB.out.size B2.out)
      go_wp2_with fail
      go_loopw [52] (fun i wr => ∃ (k : Nat), k ≤ np ∧ i = .int .i64 k ∧ Hid (Below W2.heap.size W2 wr)) (fun i _ => np - (RowKit.intOf i).toNat)
      case atStart => exact ⟨0, Nat.zero_le _, rfl, Below.refl _ _⟩
      case round =>
        obtain ⟨j, hj, rfl, hB3⟩ := hrel
        by_cases hlt2 : j < np
        · obtain ⟨ad, ea, x0⟩ := Kd.at_string (Kd.C_below PC2.out hB3.out) (j : Int) (by omega) (by omega)
          subst ea
          rw [Int.toNat_natCast] at x0
          have hx : 0 < (rdOf ByteArray.empty ps (j : Int)).size := by
            have hjl : j < ps.length := by rw [HNP.out]; exact hlt2
            have e : rdOf ByteArray.empty ps (j : Int) = ps[j] := by simp [rdOf, List.getD_eq_getElem?_getD, hjl]
            rw [e]; exact PN.out _ (List.getElem_mem hjl)
          generalize rdOf ByteArray.empty ps (j : Int) = x at *
          have q1 : x.toList.isEmpty = false := by
            rw [ByteArray.toList_eq]
            cases h : x.data.toList with
            | nil =>
              have h2 : x.data.toList.length = 0 := by rw [h]; rfl
              rw [Array.length_toList] at h2
              have h3 : x.size = 0 := h2
              omega
            | cons a l => rfl
          clear hx
          go_wp2_with fail
          exact ⟨⟨j + 1, by omega, by go_num, hB3.out⟩, by simp [RowKit.intOf]; omega⟩
        · have B3 := Lib.hid (below_then B12.out B12.out.size hB3.out)
          have PC3 := Lib.hid (Kd.C_below PC2.out hB3.out)
          go_wp2_with fail
          refine (broken_c _).mono ?_
          rintro e w3 ⟨rfl, h3⟩
          have B4 := Lib.hid (below_then B3.out B3.out.size h3)
          have PC4 := Lib.hid (Kd.C_below PC3.out h3)
          have B4w : Hid (W1.heap.size ≤ w3.heap.size) := Lib.hid B4.out.size
          clear h3
          go_wp2_with fail
          refine (joined s ps Ap np cp _ (by have := HZ.out; omega) HNP.out HCP.out PC4.out (fun ad h => ⟨Nat.lt_of_lt_of_le (PA.out ad h).1 B4w.out, (PA.out ad h).2⟩) (by omega) PF.out).mono ?_
          rintro e w4 ⟨rfl, h4⟩
          have B5 := Lib.hid (below_then BP.out BP.out.size (below_then B4.out B4.out.size h4))
          clear h4
          go_wp2_with fail
          go_ret
          exact ⟨rfl, B5.out⟩

theorem own : ownKnob Try.prog.godebug = none := by kernel_rfl
set_option maxRecDepth 100000 in
theorem lifted (os : Os) (started : os.Started) (H : Type) (enc : TypeId × Value → H) :
    ReturnsInHanded {} Try.checked os 10 .any (Rows.breaksWholeSpec.pre6 enc Try.prog Try.f10 Rows.breaksWholeRow.domain false) (Rows.breaksWholeSpec.post enc Try.prog Try.f10 false true false false) := by
  refine returnsInHanded_of_change_sized (C := Try.checked) own started (by kernel_rfl) Try.func10
    (ChangeSpec.witness6 (enc := enc) (C := Try.checked) false ⟨#[], #[.string ByteArray.empty, .int .i64 0], []⟩ 8 (by kernel_rfl) (by kernel_rfl) (by kernel_rfl) (by kernel_rfl)) ?_
  intro W base args ds gs before hval0 hW hcnd hsz0 _
  have hsz : (DataW.weightsEach Try.prog (Try.f10.params.toList ++ Rows.breaksWholeSpec.plain.varTypes Try.prog) (ds ++ gs)).all (· ≤ reachBytes) = true := hsz0
  have hval : ∀ (j : Nat) t v, Try.f10.params[j]? = some t → args[j]? = some v → Value.okWide Try.prog W .any base t v := hval0
  have hW' := hW
  obtain ⟨p, q, hA0, hV, rfl, hfz, hnd⟩ := hW
  have hA : DataW.TrodAll enc Try.prog W 0 (fun _ => true) true Try.f10.params.toList args.toList ds p := hA0
  rw [Try.params10] at hA hval hsz
  obtain ⟨v0, vs0, d0, ds0, p0, q0, hargs, rfl, rfl, h0, r0⟩ := trodAll_cons hA
  obtain ⟨v1, vs1, d1, ds1, p1, q1, rfl, rfl, rfl, h1, r1⟩ := trodAll_cons r0
  obtain ⟨rfl, rfl, rfl⟩ := trodAll_nil r1
  obtain rfl : args = #[v0, v1] := by cases args; simp_all
  obtain ⟨rfl, rfl⟩ := trodVars_none hV
  obtain ⟨a0, rfl, rfl, rfl, y0⟩ := open_string Try.underlying9 (hval 0 9 v0 rfl rfl) h0
  have w0 : a0.size ≤ 140737488351232 := by
    have z := sized_string hsz (j := 0) (t := 9) rfl rfl
    rw [Array.length_toList] at z
    exact z
  obtain ⟨a1, rfl, rfl, rfl, w1⟩ := open_int Try.underlying3 (hval 1 3 v1 rfl rfl) h1
  clear hA0 hval0 hsz0 hsz
  refine (walk a0 a1 W w0 w1).mono fun e W' ⟨he, bel⟩ => ?_
  subst he
  exact ⟨_, rfl, _, _, _, [], _, [], hW', trodAll_mk1 (shut_bool Try.underlying4 _), (trodAll_cons_mk (shut_string Try.underlying9 y0) (trodAll_cons_mk (shut_int Try.underlying3 w1) trodAll_mk0)), rfl, bel.frame _, fun h => by cases h⟩
theorem over : Rows.breaksWholeRow.holds Try.pinned (OpenSpec.ofChange Rows.breaksWholeSpec) :=
  OpenClaim.holds_of_wide 10 Try.f10 rfl rfl rfl rfl rfl rfl rfl ⟨rfl, rfl, rfl, rfl, rfl⟩ rfl rfl rfl rfl rfl (by kernel_rfl) Try.func10 (by kernel_rfl)
    (of_decide_eq_true (by kernel_rfl)) (by unfold Func.isWrapper; first | (rw [if_pos (by decide +kernel)]; kernel_rfl) | (rw [if_neg (by decide +kernel)]; exact ⟨rfl, rfl⟩))
    (fun os started H enc _ => lifted os started H enc)
theorem proved : Rows.BreaksWholeSaid := over
#print axioms proved
end Go.Proofs.Ytomejeclfbpilaa.BreaksWhole
