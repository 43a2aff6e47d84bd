/- How wide lines would be: the least width is no more than the greatest. For every input. -/
import Derived.Test.YtmkgapdadandmaaRows
import Derived.Test.YtmkgapdadandmaaPcB
import Derived.Test.YtmkgapdadandmaaItemOp
import Derived.Test.YtmkgapdadandmaaWRepsOne
import Derived.ProofKit
import Derived.OpenShut
import Derived.ShutString
import Derived.ChangeOld
import Derived.Below
import Derived.SizedLaws
namespace Go.Proofs.Ytmkgapdadandmaa.SizesOrder
open Go.RowKit Go.Lib Go.Proofs.Ytmkgapdadandmaa.Pl Go.Proofs.Ytmkgapdadandmaa.Fx Go.Proofs.Ytmkgapdadandmaa.Fnt Go.Proofs.Ytmkgapdadandmaa.Lin Go.Proofs.Ytmkgapdadandmaa.Siz Go.Proofs.Ytmkgapdadandmaa.Rgn Go.Proofs.Ytmkgapdadandmaa.Opn Go.Proofs.YtmkgapdadandmaaW.PrintWords Go.Proofs.YtmkgapdadandmaaW.PrintLast Go.Proofs.YtmkgapdadandmaaW.PrintMore
open Go.ChangeShapes Go.WideShapes Go.ChangeAt
set_option linter.unusedVariables false
set_option linter.unusedSimpArgs false
attribute [local go_sem] mx2 mn2 mx_two mn_two mx_three mn_three

def GsIs (l : List LI) (gs : List S49) : Prop := ∃ ps, PartsTo PcB l l.length ps ∧ gs = (groupsP l ps).map (mkG l ps)
theorem groups_of (A : Option Addr) (ad : Addr) (nl cl : Nat) (l : List LI) (w : World) (hL : Kd.C k27 w A nl l) (hA : nl ≠ 0 → A = some ad) (hn : nl ≤ 90) (hs : ∀ x, x ∈ l → x.f2.size ≤ 1000) (hl : ∀ x, x ∈ l → NiceI x) :
    Calls Try.prog 16 #[.slice A nl cl] w (GroupsPost (GsIs l) w) :=
  (Groups_c PcB pcB_ok pieB A ad nl cl l w hL hA hn hs (ps_ok pcB_ok hl)).mono fun e w' ⟨v, ps, he, hP, hR, hB⟩ => by
    have hlen := parts_len pcB_ok _ ps hP
    have hln : l.length = nl := hL.1
    have hps : ps.length ≤ 100000 := by rw [hln] at hlen; omega
    refine ⟨v, _, he, hR, hB, ?_, ?_, ps, hP, rfl⟩
    · rw [List.length_map]
      have := (gS_bd l ps ps.length).2.1
      have : (groupsP l ps).length ≤ ps.length := this
      omega
    · intro g hg
      obtain ⟨p, hp, rfl⟩ := List.mem_map.1 hg
      exact sub_mild hl (parts_are pcB_ok _ ps (Nat.le_refl _) hP) hps p
theorem lines_of (A : Option Addr) (nl cl : Nat) (l : List LI) (w : World) (hL : Kd.C k27 w A nl l) (hn : nl ≤ 90) (hs : ∀ x, x ∈ l → x.f2.size ≤ 1000) (hl : ∀ x, x ∈ l → NiceI x) :
    Calls Try.prog 7 #[.slice A nl cl] w (LinesPost (GsIs l) w) := by
  obtain ⟨ad, hA⟩ : ∃ ad : Addr, nl ≠ 0 → A = some ad := by
    by_cases hz : nl = 0
    · exact ⟨⟨0, 0, none⟩, fun h => absurd hz h⟩
    · obtain ⟨g, e, _⟩ := hL.2.2 (by omega)
      exact ⟨g, fun _ => e⟩
  exact Lines_c A nl cl w (GsIs l) (groups_of A ad nl cl l w hL hA hn hs hl)
/-- Tamed items are nice. -/
theorem tame_nice (x : LI) : NiceI (tameI x) ∧ (tameI x).f2.size ≤ 1000 := by
  have h1 := u16_bd x.f8
  refine ⟨⟨?_, ?_⟩, ?_⟩
  · show 0 ≤ x.f4 % 256; omega
  · show 0 ≤ IntKind.u16.wrap x.f8; omega
  · show (x.f2.extract 0 (min x.f2.size 60)).size ≤ 1000
    rw [ByteArray.size_extract]; omega
def i7 : LI := ⟨4, 0, ⟨#[]⟩, 0, 0, 0, 0, 0, 7, 0, 0⟩
def i7V : List Value := [.int .i64 4, .int .i64 0, .string ⟨#[]⟩, .int .i64 0, .int .i64 0, .int .i64 0, .int .i64 0, .int .i64 0, .int .i64 7, .int .i64 0, .int .i64 0]
theorem gs7 {gs : List S49} (h : GsIs [i7] gs) : gs = [⟨7, 0, false⟩] := by
  obtain ⟨ps, hP, rfl⟩ := h
  obtain ⟨a, b, h1, h2, rfl⟩ := hP
  have h1 : a = [] := h1
  subst h1
  unfold ItemTo at h2
  rw [if_neg (by decide)] at h2
  subst h2
  rfl
theorem lit_i7 (W : World) : Kd.C k27 (W.alloc (.cells i7V.toArray 27)) (some ⟨W.heap.size, 0, none⟩) 1 [i7] := by
  have hr : Reps (k27.M (W.alloc (.cells i7V.toArray 27)) 0 (fun k => True ∧ some k ≠ (Value.slice (some ⟨W.heap.size, 0, none⟩) 1 1).ownBlock)) k27.sz [i7] (i7V ++ []) := Reps.front (k27_mkM _ 0 _ i7) rfl (Reps.none _ _) rfl
  rw [List.append_nil] at hr
  exact (Kd.R_reads' (d := k27) (e := 27) (base := 0) (ok := fun _ => True) ⟨fun _ _ => trivial, OwnRow.lit W 0 hr (Nat.zero_le _) (by simp)⟩).2.2

set_option maxRecDepth 100000 in
set_option maxHeartbeats 4000000 in
theorem walk (a0 : Option Addr) (len0 cap0 : Nat) (z0 : List LI) (w : World) (e0 : len0 = z0.length) (c0 : len0 ≤ cap0) (w0 : Kd.C k27 w a0 len0 z0) :
    Calls Try.prog 3 #[.slice a0 len0 cap0] w fun e w' => e = .returned (.bool true) ∧ Below w.heap.size w w' := by
  have TM := Lib.hid (tame_c a0 len0 cap0 z0 w w0 c0)
  obtain ⟨lm, hlm⟩ : ∃ lm, (z0.take 25).map tameI = lm := ⟨_, rfl⟩
  have hl25 : lm.length ≤ 25 := by rw [← hlm, List.length_map]; exact List.length_take_le _ _
  have hni : ∀ x, x ∈ lm → NiceI x ∧ x.f2.size ≤ 1000 := by
    intro x hx
    rw [← hlm] at hx
    obtain ⟨y, _, rfl⟩ := List.mem_map.1 hx
    exact tame_nice y
  have HM := Lib.hid hlm
  have NI := Lib.hid hni
  clear w0 c0 e0 hlm hni
  go_enter Try.func3, Try.ntmps3
  go_wp2_with fail
  refine TM.out.mono ?_
  rintro e w2 ⟨v, rfl, hR, hB⟩
  rw [HM.out] at hR
  obtain ⟨A, c, rfl, hc, hC⟩ := Kd.R_reads hR
  have B2 := Lib.hid hB
  have LN2 := Lib.hid (lines_of A lm.length c lm w2 hC (by omega) (fun x hx => (NI.out x hx).2) (fun x hx => (NI.out x hx).1))
  clear hR hC hB hc
  go_wp2_with fail
  refine LN2.out.mono ?_
  rintro e w3 ⟨gs, hQ, hM, rfl, hB3⟩
  have hso := sizes_order (gs.map toG) (fun g hg => by obtain ⟨s, hs, rfl⟩ := List.mem_map.1 hg; exact hM s hs)
  have hst : stAt gs gs.length = goS ⟨0, 0, 0, 0⟩ (gs.map toG) := by unfold stAt; rw [List.take_length]
  rw [hst]
  have B3 := Lib.hid (below_then B2.out B2.out.size hB3)
  generalize goS ⟨0, 0, 0, 0⟩ (gs.map toG) = s at *
  have hc1 : 0 ≤ cut s.least := cut_nonneg.2 hso.1
  have hc2 : cut s.least ≤ cut (max s.most s.fin) := cut_mono hso.2
  generalize cut s.least = x at *
  generalize cut (max s.most s.fin) = y at *
  clear hst hso hM hQ hB3 TM LN2
  have L7 := Lib.hid (lines_of (some ⟨w3.heap.size, 0, none⟩) 1 1 [i7] (w3.alloc (.cells i7V.toArray 27)) (lit_i7 w3) (by omega) (fun x hx => by rw [List.mem_singleton] at hx; subst hx; decide) (fun x hx => by rw [List.mem_singleton] at hx; subst hx; exact ⟨by decide, by decide⟩))
  have B4 := Lib.hid (below_alloc B3.out (.cells i7V.toArray 27))
  unfold i7V at L7 B4
  go_wp2_with fail
  refine L7.out.mono ?_
  rintro e w5 ⟨g7, hQ, hM, rfl, hB5⟩
  have h7 := gs7 hQ
  subst h7
  have B5 := Lib.hid (below_then B4.out B4.out.size hB5)
  clear hQ hM hB5 L7
  rw [show cut (stAt [(⟨7, 0, false⟩ : S49)] [(⟨7, 0, false⟩ : S49)].length).least = 7 by decide, show cut (max (stAt [(⟨7, 0, false⟩ : S49)] [(⟨7, 0, false⟩ : S49)].length).most (stAt [(⟨7, 0, false⟩ : S49)] [(⟨7, 0, false⟩ : S49)].length).fin) = 7 by decide]
  go_wp2_with fail
  go_ret
  exact ⟨rfl, B5.out⟩

theorem own : ownKnob Try.prog.godebug = none := by kernel_rfl
theorem laidOut : laidOutB Try.prog = true := by kernel_rfl
set_option maxRecDepth 100000 in
theorem lifted (os : Os) (started : os.Started) (H : Type) (enc : TypeId × Value → H) :
    ReturnsInHanded {} Try.checked os 3 .any (Rows.sizesOrderSpec.pre6 enc Try.prog Try.f3 Rows.sizesOrderRow.domain false) (Rows.sizesOrderSpec.post enc Try.prog Try.f3 false true false false) := by
  refine returnsInHanded_of_change_sized (C := Try.checked) own started (by kernel_rfl) Try.func3
    (ChangeSpec.witness6 (enc := enc) (C := Try.checked) false ⟨#[], #[.slice none 0 0], []⟩ 8 (by kernel_rfl) (by kernel_rfl) (by kernel_rfl) (by kernel_rfl)) ?_
  intro W base args ds gs before hval0 hW hcnd hsz0 _
  have hsz : (DataW.weightsEach Try.prog (Try.f3.params.toList ++ Rows.sizesOrderSpec.plain.varTypes Try.prog) (ds ++ gs)).all (· ≤ reachBytes) = true := hsz0
  have hval : ∀ (j : Nat) t v, Try.f3.params[j]? = some t → args[j]? = some v → Value.okWide Try.prog W .any base t v := hval0
  have hW' := hW
  obtain ⟨p, q, hA0, hV, rfl, hfz, hnd⟩ := hW
  have hA : DataW.TrodAll enc Try.prog W 0 (fun _ => true) true Try.f3.params.toList args.toList ds p := hA0
  rw [Try.params3] at hA hval hsz
  obtain ⟨v0, vs0, d0, ds0, p0, q0, hargs, rfl, rfl, h0, r0⟩ := trodAll_cons hA
  obtain ⟨rfl, rfl, rfl⟩ := trodAll_nil r0
  obtain rfl : args = #[v0] := by cases args; simp_all
  obtain ⟨rfl, rfl⟩ := trodVars_none hV
  obtain ⟨a0, len0, cap0, rfl⟩ := okWide_slice Try.underlying22 (hval 0 22 v0 rfl rfl)
  have k0 := h0
  have lt0 : ∀ x ∈ p0, x.block < W.heap.size := by obtain ⟨m, hm⟩ := k0; exact DataW.trod_lt m _ _ _ hm
  obtain ⟨z0, e0, c0, w0⟩ : ∃ zs, len0 = zs.length ∧ len0 ≤ cap0 ∧ Kd.C k27 W a0 len0 zs := by
    obtain ⟨fuel, hf⟩ := h0
    obtain ⟨A, c, xs, hcs, h1, h2⟩ := slice_of Try.underlying22 op_T27 hf
    simp [Value.cells] at hcs
    obtain ⟨rfl, rfl, rfl⟩ := hcs
    exact ⟨xs, rfl, h1, h2⟩
  clear hA0 hval0 hsz0 hsz
  refine (walk a0 len0 cap0 z0 W e0 c0 w0).mono fun e W' ⟨he, bel⟩ => ?_
  subst he
  exact ⟨_, rfl, _, _, _, [], _, [], hW', trodAll_mk1 (shut_bool Try.underlying4 _), (trodAll_cons_mk (Below.trod laidOut (by kernel_rfl) (of_decide_eq_true (by kernel_rfl)) k0 bel lt0) trodAll_mk0), rfl, bel.frame _, fun h => by cases h⟩
theorem over : Rows.sizesOrderRow.holds Try.pinned (OpenSpec.ofChange Rows.sizesOrderSpec) :=
  OpenClaim.holds_of_wide 3 Try.f3 rfl rfl rfl rfl rfl rfl rfl ⟨rfl, rfl, rfl, rfl, rfl⟩ rfl rfl rfl rfl rfl (by kernel_rfl) Try.func3 (by kernel_rfl)
    (of_decide_eq_true (by kernel_rfl)) (by unfold Func.isWrapper; first | (rw [if_pos (by decide +kernel)]; kernel_rfl) | (rw [if_neg (by decide +kernel)]; exact ⟨rfl, rfl⟩))
    (fun os started H enc _ => lifted os started H enc)
theorem proved : Rows.SizesOrderSaid := over
#print axioms proved
end Go.Proofs.Ytmkgapdadandmaa.SizesOrder
