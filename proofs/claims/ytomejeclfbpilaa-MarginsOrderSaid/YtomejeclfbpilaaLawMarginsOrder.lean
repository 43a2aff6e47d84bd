/- Margins, two lists of them: in whatever order they meet, and however often, what they are together is the same. For every input. -/
import Derived.Test.YtomejeclfbpilaaRows
import Derived.Test.YtomejeclfbpilaaMeet
import Derived.Test.YtomejeclfbpilaaRw
import Derived.Test.YtomejeclfbpilaaWMore
import Derived.ProofKit
import Derived.OpenShut
import Derived.ShutString
import Derived.ChangeOld
import Derived.Below
import Derived.SizedLaws
import Derived.Deep.QuietTactic
import Derived.BigQuiet
namespace Go.Proofs.Ytomejeclfbpilaa.MarginsOrder
open Go.RowKit Go.Proofs.Ytomejeclfbpilaa.Pl Go.Proofs.Ytomejeclfbpilaa.Fx Go.Proofs.Ytomejeclfbpilaa.Mg Go.Proofs.Ytomejeclfbpilaa.Rw Go.Proofs.YtomejeclfbpilaaW.PrintWords
open Go.ChangeShapes Go.WideShapes Go.ChangeAt
set_option linter.unusedVariables false
set_option linter.unusedSimpArgs false
attribute [local go_sem] mx2 mn2 mx_two mn_two mx_three mn_three

theorem info : (Try.prog.info? 3).map (fun i => (i.zero, i.size, i.bytes)) = some (some (.int .i64 0), 1, 8) := by kernel_rfl
theorem hi_app (xs ys : List Int) : hi (xs ++ ys) = max (hi xs) (hi ys) := by
  have key : ∀ (ys : List Int) (a : Int), 0 ≤ a → ys.foldl (fun a x => max a (cut x)) a = max a (hi ys) := by
    intro ys
    induction ys with
    | nil => intro a ha; simp [hi]; omega
    | cons y ys ih =>
      intro a ha
      simp only [hi, List.foldl_cons]
      rw [ih _ (by omega), ih _ (by omega)]
      omega
  have h0 : ∀ xs : List Int, 0 ≤ hi xs := fun xs => by have := hi_bd xs xs.length; rw [List.take_length] at this; omega
  have e : hi (xs ++ ys) = ys.foldl (fun a x => max a (cut x)) (hi xs) := by simp [hi, List.foldl_append]
  rw [e, key _ _ (h0 xs)]
theorem lo_app (xs ys : List Int) : lo (xs ++ ys) = min (lo xs) (lo ys) := by
  have key : ∀ (ys : List Int) (a : Int), a ≤ 0 → ys.foldl (fun a x => min a (cut x)) a = min a (lo ys) := by
    intro ys
    induction ys with
    | nil => intro a ha; simp [lo]; omega
    | cons y ys ih =>
      intro a ha
      simp only [lo, List.foldl_cons]
      rw [ih _ (by omega), ih _ (by omega)]
      omega
  have h0 : ∀ xs : List Int, lo xs ≤ 0 := fun xs => by have := hi_bd xs xs.length; rw [List.take_length] at this; omega
  have e : lo (xs ++ ys) = ys.foldl (fun a x => min a (cut x)) (lo xs) := by simp [lo, List.foldl_append]
  rw [e, key _ _ (h0 xs)]
theorem meet_order (u v : List Int) : meet (u ++ v) = meet (v ++ u ++ v) := by
  unfold meet
  simp only [hi_app, lo_app]
  congr 2 <;> omega
theorem own_reads' {w : World} {base n : Nat} {e : TypeId} {k : IntKind} {v : Value} {xs : List Int} (h : w.ownsRow base e 1 v n (nums k xs)) : ∃ A m c, v = .slice A m c ∧ ReadsInt w k A m xs := by
  obtain ⟨A, c, he, hr⟩ := own_reads h
  exact ⟨A, n, c, he, hr⟩

set_option maxHeartbeats 2000000 in
theorem walk (a0 : Option Addr) (len0 cap0 : Nat) (z0 : List Int) (a1 : Option Addr) (len1 cap1 : Nat) (z1 : List Int) (w : World) (w0 : IsRow .i64 w a0 len0 cap0 z0) (y0 : len0 * 8 ≤ 140737488351232) (w1 : IsRow .i64 w a1 len1 cap1 z1) (y1 : len1 * 8 ≤ 140737488351232) :
    Calls Try.prog 3 #[.slice a0 len0 cap0, .slice a1 len1 cap1] w fun e w' => e = .returned (.bool true) ∧ Below w.heap.size w w' := by
  obtain ⟨l0, rfl, hr0, hm0, hw0, hc0⟩ := ReadsInt.ofRowC w0
  obtain ⟨l1, rfl, hr1, hm1, hw1, hc1⟩ := ReadsInt.ofRowC w1
  obtain ⟨m0, e0, q0⟩ : ∃ m : Nat, min (l0.length : Int) 50 = (m : Int) ∧ m ≤ l0.length := ⟨min l0.length 50, by omega, by omega⟩
  obtain ⟨m1, e1, q1⟩ : ∃ m : Nat, min (l1.length : Int) 50 = (m : Int) ∧ m ≤ l1.length := ⟨min l1.length 50, by omega, by omega⟩
  have hl0 : (l0.take m0).length = m0 := by rw [List.length_take]; omega
  have hl1 : (l1.take m1).length = m1 := by rw [List.length_take]; omega
  have hR0 := hr0.take_ m0 q0
  have hR1 := hr1.take_ m1 q1
  have b0 : m0 ≤ 50 := by omega
  have b1 : m1 ≤ 50 := by omega
  generalize l0.take m0 = u0 at *
  generalize l1.take m1 = u1 at *
  have R0 := Lib.hid hR0
  have R1 := Lib.hid hR1
  have L0 := Lib.hid hl0
  have L1 := Lib.hid hl1
  have hfin : meet (u0 ++ u1) = meet (u1 ++ (u0 ++ u1)) := by rw [meet_order, List.append_assoc]
  have HF := Lib.hid hfin
  clear hfin
  clear hr0 hr1 w0 w1 hw0 hw1 hm0 hm1 hR0 hR1 hl0 hl1
  go_enter Try.func3, Try.ntmps3
  go_wp2
  go_quiet (fail)
  have hB0 : Below w.heap.size w (w.drewN nq) := pw_below_drewN (Below.refl _ _) nq
  have B0 := Lib.hid hB0
  clear hB0
  generalize w.drewN nq = wd at *
  go_wp2_with (first
    | ((with_reducible refine gate_builtin (b := .append) (xs := #[.const (.slice none 0 0), .tmp 17]) (ts := #[22, 22]) rfl ?_); (refine print_append_row (w0 := w) w.heap.size rfl (.const (.slice none 0 0)) (.tmp 17) 22 3 .i64 8 rfl Try.underlying22 info (by decide) (.slice none 0 0) [] u0 a0 m0 _ rfl rfl (own_nil _ _ _ _) (ReadsInt.below R0.out B0.out) B0.out B0.out.size (by simp; omega) ?_); intro v1 wA hO hB hG hat; have O1 := Lib.hid hO; have B1 := Lib.hid hB; clear hO hB hG hat)
    | ((with_reducible refine gate_builtin (b := .append) (xs := #[.tmp 18, .tmp 19]) (ts := #[22, 22]) rfl ?_); (refine print_append_row (w0 := w) w.heap.size rfl (.tmp 18) (.tmp 19) 22 3 .i64 8 rfl Try.underlying22 info (by decide) v1 u0 u1 a1 m1 _ rfl rfl (by have := O1.out; simpa using this) (ReadsInt.below R1.out B1.out) B1.out B1.out.size (by rw [L0.out]; omega) ?_); intro v2 wB hO hB hG hat; have O2 := Lib.hid hO; have B2 := Lib.hid hB; clear hO hB hG hat; obtain ⟨Ax, nx, cx, ex, hrx⟩ := own_reads' O2.out; subst ex; have RX := Lib.hid hrx; clear hrx O1 O2)
    | ((with_reducible refine gate_builtin (b := .append) (xs := #[.const (.slice none 0 0), .tmp 21]) (ts := #[22, 22]) rfl ?_); (refine print_append_row (w0 := wB) wB.heap.size rfl (.const (.slice none 0 0)) (.tmp 21) 22 3 .i64 8 rfl Try.underlying22 info (by decide) (.slice none 0 0) [] u1 a1 m1 _ rfl rfl (own_nil _ _ _ _) (ReadsInt.below R1.out B2.out) (Below.refl _ _) (Below.refl wB.heap.size wB).size (by simp; omega) ?_); intro v3 wC hO hB hG hat; have O3 := Lib.hid hO; have B3 := Lib.hid hB; clear hO hB hG hat)
    | ((with_reducible refine gate_builtin (b := .append) (xs := #[.tmp 22, .tmp 23]) (ts := #[22, 22]) rfl ?_); (refine print_append_row (w0 := wB) wB.heap.size rfl (.tmp 22) (.tmp 23) 22 3 .i64 8 rfl Try.underlying22 info (by decide) v3 u1 u0 a0 m0 _ rfl rfl (by have := O3.out; simpa using this) (ReadsInt.below (ReadsInt.below R0.out B2.out) B3.out) B3.out B3.out.size (by rw [L1.out]; omega) ?_); intro v4 wD hO hB hG hat; have O4 := Lib.hid hO; have B4 := Lib.hid hB; clear hO hB hG hat)
    | ((with_reducible refine gate_builtin (b := .append) (xs := #[.tmp 24, .tmp 25]) (ts := #[22, 22]) rfl ?_); (refine print_append_row (w0 := wB) wB.heap.size rfl (.tmp 24) (.tmp 25) 22 3 .i64 8 rfl Try.underlying22 info (by decide) v4 (u1 ++ u0) u1 a1 m1 _ rfl rfl O4.out (ReadsInt.below (ReadsInt.below R1.out B2.out) B4.out) B4.out B4.out.size (by rw [List.length_append, L0.out, L1.out]; omega) ?_); intro v5 wE hO hB hG hat; have O5 := Lib.hid hO; have B5 := Lib.hid hB; clear hO hB hG hat; obtain ⟨Ay, ny, cy, ey, hry⟩ := own_reads' O5.out; subst ey; have RY := Lib.hid hry; clear hry O3 O4 O5)
    | (go_at_call 13; refine (met_c _).mono ?_; rintro e wF ⟨rfl, hF⟩; have BF := Lib.hid hF; clear hF)
    | fail)
  refine (Meet_c _ _ _ _ _ (ReadsInt.below (ReadsInt.below RX.out B5.out) BF.out)).mono ?_
  rintro e w' ⟨rfl, rfl⟩
  go_wp2_with fail
  refine (Meet_c _ _ _ _ _ (ReadsInt.below RY.out BF.out)).mono ?_
  rintro e w' ⟨rfl, rfl⟩
  go_wp2
  go_ret
  exact ⟨by simp [← HF.out], below_then (below_then B2.out B2.out.size B5.out) (Nat.le_trans B2.out.size B5.out.size) BF.out⟩

theorem own : ownKnob Try.prog.godebug = none := by kernel_rfl
theorem laidOut : laidOutB Try.prog = true := by kernel_rfl
set_option maxRecDepth 100000 in
theorem lifted (os : Os) (started : os.Started) (H : Type) (enc : TypeId × Value → H) :
    ReturnsInHanded {} Try.checked os 3 .any (Rows.marginsOrderSpec.pre6 enc Try.prog Try.f3 Rows.marginsOrderRow.domain false) (Rows.marginsOrderSpec.post enc Try.prog Try.f3 false true false false) := by
  refine returnsInHanded_of_change_sized (C := Try.checked) own started (by kernel_rfl) Try.func3
    (ChangeSpec.witness6 (enc := enc) (C := Try.checked) false ⟨#[], #[.slice none 0 0, .slice none 0 0], []⟩ 8 (by kernel_rfl) (by kernel_rfl) (by kernel_rfl) (by kernel_rfl)) ?_
  intro W base args ds gs before hval0 hW hcnd hsz0 _
  have hsz : (DataW.weightsEach Try.prog (Try.f3.params.toList ++ Rows.marginsOrderSpec.plain.varTypes Try.prog) (ds ++ gs)).all (· ≤ reachBytes) = true := hsz0
  have hval : ∀ (j : Nat) t v, Try.f3.params[j]? = some t → args[j]? = some v → Value.okWide Try.prog W .any base t v := hval0
  have hW' := hW
  obtain ⟨p, q, hA0, hV, rfl, hfz, hnd⟩ := hW
  have hA : DataW.TrodAll enc Try.prog W 0 (fun _ => true) true Try.f3.params.toList args.toList ds p := hA0
  rw [Try.params3] at hA hval hsz
  obtain ⟨v0, vs0, d0, ds0, p0, q0, hargs, rfl, rfl, h0, r0⟩ := trodAll_cons hA
  obtain ⟨v1, vs1, d1, ds1, p1, q1, rfl, rfl, rfl, h1, r1⟩ := trodAll_cons r0
  obtain ⟨rfl, rfl, rfl⟩ := trodAll_nil r1
  obtain rfl : args = #[v0, v1] := by cases args; simp_all
  obtain ⟨rfl, rfl⟩ := trodVars_none hV
  obtain ⟨a0, len0, cap0, rfl⟩ := okWide_slice Try.underlying22 (hval 0 22 v0 rfl rfl)
  have k0 := h0
  have lt0 : ∀ x ∈ p0, x.block < W.heap.size := by obtain ⟨m, hm⟩ := k0; exact DataW.trod_lt m _ _ _ hm
  obtain ⟨z0, w0⟩ : ∃ zs, IsRow .i64 W a0 len0 cap0 zs := by
    obtain ⟨fuel, hf⟩ := h0
    rcases open_ints Try.underlying22 Try.underlying3 (by kernel_rfl) hf with ⟨hcs, _⟩ | ⟨x, l, c, zs, hcs, _, hl, hm, hz, _, hcell, hwz⟩
    · simp [Value.cells] at hcs
      obtain ⟨rfl, rfl, rfl⟩ := hcs
      exact ⟨[], .inl ⟨rfl, rfl, rfl, rfl⟩⟩
    · simp [Value.cells] at hcs
      obtain ⟨rfl, rfl, rfl⟩ := hcs
      exact ⟨zs, .inr ⟨_, rfl, hl, hm, by simpa using hz, hcell, hwz⟩⟩
  have y0 : len0 * 8 ≤ 140737488351232 := sized_ints hsz (j := 0) (t := 22) rfl rfl Try.underlying22 Try.underlying3 (by kernel_rfl) (by kernel_rfl) h0
  obtain ⟨a1, len1, cap1, rfl⟩ := okWide_slice Try.underlying22 (hval 1 22 v1 rfl rfl)
  have k1 := h1
  have lt1 : ∀ x ∈ p1, x.block < W.heap.size := by obtain ⟨m, hm⟩ := k1; exact DataW.trod_lt m _ _ _ hm
  obtain ⟨z1, w1⟩ : ∃ zs, IsRow .i64 W a1 len1 cap1 zs := by
    obtain ⟨fuel, hf⟩ := h1
    rcases open_ints Try.underlying22 Try.underlying3 (by kernel_rfl) hf with ⟨hcs, _⟩ | ⟨x, l, c, zs, hcs, _, hl, hm, hz, _, hcell, hwz⟩
    · simp [Value.cells] at hcs
      obtain ⟨rfl, rfl, rfl⟩ := hcs
      exact ⟨[], .inl ⟨rfl, rfl, rfl, rfl⟩⟩
    · simp [Value.cells] at hcs
      obtain ⟨rfl, rfl, rfl⟩ := hcs
      exact ⟨zs, .inr ⟨_, rfl, hl, hm, by simpa using hz, hcell, hwz⟩⟩
  have y1 : len1 * 8 ≤ 140737488351232 := sized_ints hsz (j := 1) (t := 22) rfl rfl Try.underlying22 Try.underlying3 (by kernel_rfl) (by kernel_rfl) h1
  clear hA0 hval0 hsz0 hsz
  refine (walk a0 len0 cap0 z0 a1 len1 cap1 z1 W w0 y0 w1 y1).mono fun e W' ⟨he, bel⟩ => ?_
  subst he
  exact ⟨_, rfl, _, _, _, [], _, [], hW', trodAll_mk1 (shut_bool Try.underlying4 _), (trodAll_cons_mk (Below.trod laidOut (by kernel_rfl) (of_decide_eq_true (by kernel_rfl)) k0 bel lt0) (trodAll_cons_mk (Below.trod laidOut (by kernel_rfl) (of_decide_eq_true (by kernel_rfl)) k1 bel lt1) trodAll_mk0)), rfl, bel.frame _, fun h => by cases h⟩
theorem over : Rows.marginsOrderRow.holds Try.pinned (OpenSpec.ofChange Rows.marginsOrderSpec) :=
  OpenClaim.holds_of_wide 3 Try.f3 rfl rfl rfl rfl rfl rfl rfl ⟨rfl, rfl, rfl, rfl, rfl⟩ rfl rfl rfl rfl rfl (by kernel_rfl) Try.func3 (by kernel_rfl)
    (of_decide_eq_true (by kernel_rfl)) (by unfold Func.isWrapper; first | (rw [if_pos (by decide +kernel)]; kernel_rfl) | (rw [if_neg (by decide +kernel)]; exact ⟨rfl, rfl⟩))
    (fun os started H enc _ => lifted os started H enc)
theorem proved : Rows.MarginsOrderSaid := over
#print axioms proved
end Go.Proofs.Ytomejeclfbpilaa.MarginsOrder
