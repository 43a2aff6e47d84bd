/- Widths of columns: none below its least, nor, of tables that are not fixed, above its most; where there is room between all of it is given. For every input. -/
import Derived.Test.YtfkgpkkjiolfpaaRows
import Derived.Test.YtfkgpkkjiolfpaaTabTabled
import Derived.Test.YtfkgpkkjiolfpaaTabLaw
import Derived.Test.YtfkgpkkjiolfpaaShareSum
import Derived.Test.YtfkgpkkjiolfpaaRw
import Derived.ProofKit
import Derived.OpenShut
import Derived.ShutString
import Derived.ChangeOld
import Derived.Below
import Derived.SizedLaws
namespace Go.Proofs.Ytfkgpkkjiolfpaa.TableFull
open Go.RowKit Go.Lib Go.Proofs.Ytfkgpkkjiolfpaa.Rw Go.Proofs.Ytfkgpkkjiolfpaa.Tab Go.Proofs.Ytfkgpkkjiolfpaa.Tab Go.Proofs.Ytfkgpkkjiolfpaa.Rgn Go.Proofs.Ytfkgpkkjiolfpaa.Pl Go.Proofs.Ytfkgpkkjiolfpaa.Fx Go.Proofs.Ytfkgpkkjiolfpaa.Sh Go.Proofs.Ytfkgpkkjiolfpaa.Sm Go.Proofs.YtfkgpkkjiolfpaaW.PrintWords Go.Proofs.YtfkgpkkjiolfpaaW.PrintLast Go.Proofs.YtfkgpkkjiolfpaaW.PrintMore
open Go.ChangeShapes Go.WideShapes Go.ChangeAt
set_option linter.unusedVariables false
set_option linter.unusedSimpArgs false
attribute [local go_sem] mx2 mn2 mx_two mn_two mx_three mn_three

theorem u16b (x : Int) : 0 ≤ IntKind.u16.wrap x ∧ IntKind.u16.wrap x ≤ 65535 := by
  simp only [IntKind.wrap, IntKind.bits, IntKind.signed, Nat.reducePow, Nat.reduceSub]
  simp
  omega
theorem w64i {x : Int} (h1 : -9223372036854775808 ≤ x) (h2 : x ≤ 9223372036854775807) : wrap64 x = x := by unfold wrap64; omega
theorem w64u (x : Int) : wrap64 (IntKind.u16.wrap x) = IntKind.u16.wrap x := by have := u16b x; exact w64i (by omega) (by omega)
theorem w32b (x : Int) : -2147483648 ≤ wrap32 x ∧ wrap32 x ≤ 2147483647 := by unfold wrap32; omega
attribute [local go_sem] w64u
/-- The least and the most that the law draws of its arguments. -/
def lo (zl : List Int) (i : Nat) : Int := IntKind.u16.wrap (zl.getD i 0)
def hi (zl zm : List Int) (i : Nat) : Int := lo zl i + IntKind.u16.wrap (zm.getD i 0)
def lowL (zl : List Int) (k : Nat) : List Int := (List.range k).map (lo zl)
def highL (zl zm : List Int) (k : Nat) : List Int := (List.range k).map (hi zl zm)
theorem low_succ (zl : List Int) (k : Nat) : lowL zl (k + 1) = lowL zl k ++ [lo zl k] := by simp [lowL, List.range_succ]
theorem high_succ (zl zm : List Int) (k : Nat) : highL zl zm (k + 1) = highL zl zm k ++ [hi zl zm k] := by simp [highL, List.range_succ]
theorem low_len (zl : List Int) (k : Nat) : (lowL zl k).length = k := by simp [lowL]
theorem high_len (zl zm : List Int) (k : Nat) : (highL zl zm k).length = k := by simp [highL]
theorem low_get (zl : List Int) (k i : Nat) (h : i < k) : (lowL zl k).getD i 0 = lo zl i := by simp [lowL, List.getD_eq_getElem?_getD, h]
theorem high_get (zl zm : List Int) (k i : Nat) (h : i < k) : (highL zl zm k).getD i 0 = hi zl zm i := by simp [highL, List.getD_eq_getElem?_getD, h]
theorem infoI : (Try.prog.info? 3).map (fun i => (i.zero, i.size, i.bytes)) = some (some (.int .i64 0), 1, 8) := by kernel_rfl

theorem roomb (x : Int) : -8388608 ≤ wrap64 ((wrap64 (wrap32 x)).tdiv 256) ∧ wrap64 ((wrap64 (wrap32 x)).tdiv 256) ≤ 8388608 := by
  have h := w32b x
  rw [w64i (x := wrap32 x) (by omega) (by omega)]
  generalize wrap32 x = y at *
  have h2 : -8388608 ≤ y.tdiv 256 ∧ y.tdiv 256 ≤ 8388608 := by
    rcases Int.lt_or_le y 0 with hy | hy
    · have e : y.tdiv 256 = -((-y).tdiv 256) := by rw [Int.neg_tdiv]; omega
      rw [e, Int.tdiv_eq_ediv_of_nonneg (by omega)]
      omega
    · rw [Int.tdiv_eq_ediv_of_nonneg hy]
      omega
  rw [w64i (by omega) (by omega)]
  exact h2
theorem sums_bd (xs : List Int) (n : Nat) : xs.length ≤ n → (∀ i, i < xs.length → -131070 ≤ xs.getD i 0 ∧ xs.getD i 0 ≤ 131070) → ∀ q, -(131070 * (n : Int)) ≤ (xs.take q).sum ∧ (xs.take q).sum ≤ 131070 * (n : Int) := by
  induction n generalizing xs with
  | zero =>
    intro hl _ q
    have : xs = [] := List.eq_nil_of_length_eq_zero (by omega)
    subst this
    simp
  | succ n ih =>
    intro hl h q
    cases xs with
    | nil => simp; omega
    | cons x xs =>
      cases q with
      | zero => simp; omega
      | succ q =>
        have h0 := h 0 (by simp)
        have h1 := ih xs (by simpa using hl) (fun i hi => by have := h (i + 1) (by simpa using hi); simpa using this) q
        simp only [List.take_succ_cons, List.sum_cons]
        simp at h0
        omega
section
variable {P : Program} {o : Oper} {a : Act} {Q : Exit → Act → World → Prop} {Kc : Act → World → Prop}
/-- append of one number, as one step of a region that draws. -/
theorem append_num_wp {w0 W : World} (base : Nat) (hgd : o.guard = none) (s x : Operand) (t e : TypeId) (bytes : Nat)
    (ho : o.op = .call { callee := .builtin .append, args := #[s, x], argTypes := #[t, t] })
    (ht : P.underlying t = some (.slice e)) (hinfo : (P.info? e).map (fun i => (i.zero, i.size, i.bytes)) = some (some (.int .i64 0), 1, bytes)) (hb0 : 0 < bytes)
    (v : Value) (n : Nat) (xs : List Int) (y : Int) (hs : a.eval s = v) (hx : a.eval x = .slice (some ⟨W.heap.size, 0, none⟩) 1 1)
    (HO : W.ownsRow base e 1 v n (nums .i64 xs)) (HB : Below base w0 W) (hbase : base ≤ W.heap.size) (hl : (n + 1) * bytes ≤ 140737488355328)
    (h : ∀ v1 w1, w1.ownsRow base e 1 v1 (n + 1) (nums .i64 (xs ++ [y])) → Below base w0 w1 → W.grownBy w1 v.ownBlock → (v1.ownBlock = v.ownBlock ∨ ∃ b, v1.ownBlock = some b ∧ W.heap.size ≤ b) → Kc (a.put o.dst v1) w1) :
    Oper.wp P o a (W.alloc (.cells #[.int .i64 y] e)) Kc Q := by
  have hw : Region.wanted o (yielded (#[] : Array Oper) a.tmps) = true := by simp [Region.wanted, hgd]
  have h2 := step_append_cells (ops := #[]) (Q := Q) (K := Kc) base hw s x t e (.int .i64 0) 1 bytes ho ht hinfo rfl (by decide) hb0 v n (nums .i64 xs) [.int .i64 y] hs hx rfl (by simp [Value.oneCell']) HO HB hbase hl (fun v1 w1 h1 h2 h3 h4 => h v1 w1 (by rw [nums_append]; exact h1) h2 h3 h4)
  rwa [if_pos hw] at h2
end
set_option maxRecDepth 1000000 in
set_option maxHeartbeats 4000000 in
theorem walk (a0 a1 : Int) (a2 : Option Addr) (len2 cap2 : Nat) (z2 : List Int) (a3 : Option Addr) (len3 cap3 : Nat) (z3 : List Int) (fixed : Bool) (w : World) (w0 : (Lit.int .i64 a0).wf = true) (w1 : (Lit.int .i64 a1).wf = true)
    (i2 : IsRow .i64 w a2 len2 cap2 z2) (y2 : len2 * 8 ≤ 140737488351232) (i3 : IsRow .i64 w a3 len3 cap3 z3) (y3 : len3 * 8 ≤ 140737488351232) :
    Calls Try.prog 9 #[.int .i64 a0, .int .i64 a1, .slice a2 len2 cap2, .slice a3 len3 cap3, .bool fixed] w fun e w' => e = .returned (.bool true) ∧ Below w.heap.size w w' := by
  obtain ⟨zl, rfl, hr2, -, -, -⟩ := ReadsInt.ofRowC i2
  obtain ⟨zm, rfl, hr3, -, -, -⟩ := ReadsInt.ofRowC i3
  have RL := Lib.hid hr2
  have RM := Lib.hid hr3
  obtain ⟨M, eM, m1, m2, m3⟩ : ∃ M : Nat, min (min (zl.length : Int) (zm.length : Int)) 20 = (M : Int) ∧ M ≤ zl.length ∧ M ≤ zm.length ∧ M ≤ 20 := ⟨min (min zl.length zm.length) 20, by omega, by omega, by omega, by omega⟩
  have hl1 : zl.length ≤ 100000000000000 := by omega
  have hl2 : zm.length ≤ 100000000000000 := by omega
  clear i2 i3 y2 y3 hr2 hr3 w0 w1
  go_enter Try.func9, Try.ntmps9
  go_wp2_with fail
  go_loopw [11, 12, 23] (fun v u i wr => ∃ k : Nat, k ≤ M ∧ i = .int .i64 k ∧ Hid (wr.ownsRow w.heap.size 3 1 v k (nums .i64 (lowL zl k))) ∧ Hid (wr.ownsRow w.heap.size 3 1 u k (nums .i64 (highL zl zm k))) ∧ Hid (u.ownBlock = none ∨ u.ownBlock ≠ v.ownBlock) ∧ Hid (Below w.heap.size w wr)) (fun _ _ i _ => M - (RowKit.intOf i).toNat)
  case atStart => exact ⟨0, Nat.zero_le _, rfl, own_nil _ _ _ _, own_nil _ _ _ _, .inl rfl, Below.refl _ _⟩
  case round =>
    obtain ⟨k, hk, rfl, hO1, hO2, hN, hB⟩ := hrel
    by_cases hlt : k < M
    · obtain ⟨ad2, ea2, hx2⟩ := (RL.out.below hB.out).at_ (k : Int) (by omega) (by omega)
      rw [Int.toNat_natCast] at hx2
      have hrd : rd zl (k : Int) = zl.getD k 0 := by simp [rd]
      rw [hrd] at hx2
      have hls := low_succ zl k
      have hlo : lo zl k = IntKind.u16.wrap (zl.getD k 0) := rfl
      rw [hlo] at hls
      have hll := low_len zl k
      generalize zl.getD k 0 = x at *
      have LS := Lib.hid hls
      have LL := Lib.hid hll
      have HLO := Lib.hid hlo
      have hul := own_lt hO2.out
      have OU := Lib.hid hul
      clear hls hll hlo hrd hul
      subst ea2
      go_wp2_with (at_builtin; go_loud (refine print_append_num (w0 := w) (W := wr) w.heap.size rfl (.tmp 26) (.tmp 33) 33 3 .i64 8 rfl Try.underlying33 infoI (by decide) _ (lowL zl k) _ rfl rfl (by rw [LL.out]; exact hO1.out) hB.out hB.out.size (by rw [LL.out]; omega) ?_; intro v1 w2 hP1 hP2 hP3 hP4; have P1 := Lib.hid hP1; have P2 := Lib.hid hP2; have P3 := Lib.hid hP3; have P4 := Lib.hid hP4; clear hP1 hP2 hP3 hP4))
      have hP1 := P1.out
      rw [← LS.out, low_len] at hP1
      obtain ⟨g1, c1, rfl, hg1, hg1l⟩ := own_form hP1 (by omega)
      have hO3 := Go.Proofs.YtfkgpkkjiolfpaaW.PrintWords.own_other hO2.out P3.out hN.out
      have hN3 : u12.ownBlock = none ∨ u12.ownBlock ≠ some g1 := by
        rcases P4.out with h | ⟨b, h, hb⟩
        · rw [show (Value.slice (some ⟨g1, 0, none⟩) (k + 1) c1).ownBlock = some g1 by rfl] at h
          rw [h]
          exact hN.out
        · rw [show (Value.slice (some ⟨g1, 0, none⟩) (k + 1) c1).ownBlock = some g1 by rfl] at h
          injection h with h
          subst h
          exact .inr fun e => by have := OU.out _ e; omega
      obtain ⟨q1, -⟩ := own_at hP1 (k : Int) (by omega) (by omega)
      rw [show rd (lowL zl (k + 1)) (k : Int) = (lowL zl (k + 1)).getD k 0 by simp [rd], low_get _ _ _ (by omega), HLO.out, Int.toNat_natCast] at q1
      obtain ⟨ad3, ea3, hx3⟩ := (RM.out.below P2.out).at_ (k : Int) (by omega) (by omega)
      rw [Int.toNat_natCast, show rd zm (k : Int) = zm.getD k 0 by simp [rd]] at hx3
      have hhs := high_succ zl zm k
      have hhi : hi zl zm k = lo zl k + IntKind.u16.wrap (zm.getD k 0) := rfl
      rw [hhi, HLO.out] at hhs
      have hhl := high_len zl zm k
      generalize hgy : zm.getD k 0 = y at *
      have HY := Lib.hid hgy
      clear hgy
      have HS := Lib.hid hhs
      have HL := Lib.hid hhl
      have hbx := u16b x
      have hby := u16b y
      have hk1 : (k : Int) < (k : Int) + 1 := by omega
      have hk2 : k < zm.length := by omega
      have P6 := Lib.hid (pw_own_below hP1 (Below.refl _ _).drew)
      have N3 := Lib.hid hN3
      have O3 := Lib.hid (pw_own_below hO3 (Below.refl _ _).drew)
      have B3 := Lib.hid P2.out.drew
      have hS1 : ∀ W : World, (W.ownsRow w.heap.size 3 1 (.slice (some ⟨g1, 0, none⟩) (k + 1) c1) (k + 1) (nums .i64 (lowL zl (k + 1))) ∧ Below w.heap.size w W) → W.cell? ⟨g1, k, none⟩ = some (.int .i64 (IntKind.u16.wrap x)) := fun W h => by
        obtain ⟨q2, -⟩ := own_at h.1 (k : Int) (by omega) (by omega)
        rwa [show rd (lowL zl (k + 1)) (k : Int) = (lowL zl (k + 1)).getD k 0 by simp [rd], low_get _ _ _ (by omega), HLO.out, Int.toNat_natCast] at q2
      subst ea3
      have hS2 : ∀ W : World, (W.ownsRow w.heap.size 3 1 (.slice (some ⟨g1, 0, none⟩) (k + 1) c1) (k + 1) (nums .i64 (lowL zl (k + 1))) ∧ Below w.heap.size w W) → W.cell? (ad3.add k) = some (.int .i64 y) := fun W h => by
        obtain ⟨ad4, ea4, hx4⟩ := (RM.out.below h.2).at_ (k : Int) (by omega) (by omega)
        cases ea4
        rwa [Int.toNat_natCast, show rd zm (k : Int) = zm.getD k 0 by simp [rd], HY.out] at hx4
      have HS1 := Lib.hid hS1
      have HS2 := Lib.hid hS2
      clear hhs hhi hhl P1 hP1 P3 P4 hO3 hN3 hO1 hO2 hN hB LS LL HLO OU hx2 P2 hS1 hS2 hx3 q1
      refine wp_region_held_drew (S := fun W => W.ownsRow w.heap.size 3 1 (.slice (some ⟨g1, 0, none⟩) (k + 1) c1) (k + 1) (nums .i64 (lowL zl (k + 1))) ∧ Below w.heap.size w W) (by kernel_rfl) ⟨P6.out, B3.out⟩ (fun hHeld => ?_)
      refine wpAnyH_take (i := 0) (v := u12) rfl (by kernel_rfl) (by kernel_rfl) (by kernel_rfl) (fun _ _ _ h => h) (y_move (by rfl) rfl rfl) hHeld ?_
      try simp only [Act.put, List.getElem_toArray, List.getElem_cons_succ, List.getElem_cons_zero, List.setIfInBounds_toArray, List.set_cons_zero, List.set_cons_succ]
      refine wpAnyH_take (i := 1) (v := .slice (some ⟨g1, 0, none⟩) (k + 1) c1) rfl (by kernel_rfl) (by kernel_rfl) (by kernel_rfl) (fun _ _ _ h => h) (y_move (by rfl) rfl rfl) hHeld ?_
      try simp only [Act.put, List.getElem_toArray, List.getElem_cons_succ, List.getElem_cons_zero, List.setIfInBounds_toArray, List.set_cons_zero, List.set_cons_succ]
      refine wpAnyH_take (i := 2) (v := .int .i64 (k : Int)) rfl (by kernel_rfl) (by kernel_rfl) (by kernel_rfl) (fun _ _ _ h => h) (y_move (by rfl) rfl rfl) hHeld ?_
      try simp only [Act.put, List.getElem_toArray, List.getElem_cons_succ, List.getElem_cons_zero, List.setIfInBounds_toArray, List.set_cons_zero, List.set_cons_succ]
      refine wpAnyH_take (i := 3) (v := .pointer (some ⟨g1, k, none⟩)) rfl (by kernel_rfl) (by kernel_rfl) (by kernel_rfl) (fun _ _ _ h => h) (y_run (by rfl) (fun w _ => by unfold execOp; go_simp)) hHeld ?_
      try simp only [Act.put, List.getElem_toArray, List.getElem_cons_succ, List.getElem_cons_zero, List.setIfInBounds_toArray, List.set_cons_zero, List.set_cons_succ]
      refine wpAnyH_take (i := 4) (v := .int .i64 (IntKind.u16.wrap x)) rfl (by kernel_rfl) (by kernel_rfl) (by kernel_rfl) (fun _ _ _ h => h) (y_load (by rfl) rfl rfl HS1.out) hHeld ?_
      try simp only [Act.put, List.getElem_toArray, List.getElem_cons_succ, List.getElem_cons_zero, List.setIfInBounds_toArray, List.set_cons_zero, List.set_cons_succ]
      refine wpAnyH_take (i := 5) (v := .slice (some ad3) zm.length cap3) rfl (by kernel_rfl) (by kernel_rfl) (by kernel_rfl) (fun _ _ _ h => h) (y_move (by rfl) rfl rfl) hHeld ?_
      try simp only [Act.put, List.getElem_toArray, List.getElem_cons_succ, List.getElem_cons_zero, List.setIfInBounds_toArray, List.set_cons_zero, List.set_cons_succ]
      refine wpAnyH_take (i := 6) (v := .int .i64 (k : Int)) rfl (by kernel_rfl) (by kernel_rfl) (by kernel_rfl) (fun _ _ _ h => h) (y_move (by rfl) rfl rfl) hHeld ?_
      try simp only [Act.put, List.getElem_toArray, List.getElem_cons_succ, List.getElem_cons_zero, List.setIfInBounds_toArray, List.set_cons_zero, List.set_cons_succ]
      refine wpAnyH_take (i := 7) (v := .pointer (some (ad3.add k))) rfl (by kernel_rfl) (by kernel_rfl) (by kernel_rfl) (fun _ _ _ h => h) (y_run (by rfl) (fun w _ => by unfold execOp; go_simp)) hHeld ?_
      try simp only [Act.put, List.getElem_toArray, List.getElem_cons_succ, List.getElem_cons_zero, List.setIfInBounds_toArray, List.set_cons_zero, List.set_cons_succ]
      refine wpAnyH_take (i := 8) (v := .int .i64 y) rfl (by kernel_rfl) (by kernel_rfl) (by kernel_rfl) (fun _ _ _ h => h) (y_load (by rfl) rfl rfl HS2.out) hHeld ?_
      try simp only [Act.put, List.getElem_toArray, List.getElem_cons_succ, List.getElem_cons_zero, List.setIfInBounds_toArray, List.set_cons_zero, List.set_cons_succ]
      refine wpAnyH_take (i := 9) (v := .int .u16 (IntKind.u16.wrap y)) rfl (by kernel_rfl) (by kernel_rfl) (by kernel_rfl) (fun _ _ _ h => h) (y_run (by rfl) (fun w _ => by unfold execOp; go_simp)) hHeld ?_
      try simp only [Act.put, List.getElem_toArray, List.getElem_cons_succ, List.getElem_cons_zero, List.setIfInBounds_toArray, List.set_cons_zero, List.set_cons_succ]
      refine wpAnyH_take (i := 10) (v := .int .i64 (IntKind.u16.wrap y)) rfl (by kernel_rfl) (by kernel_rfl) (by kernel_rfl) (fun _ _ _ h => h) (y_run (by rfl) (fun w _ => by unfold execOp; go_simp; exact IntWalk.i64_in _ ⟨by omega, by omega⟩)) hHeld ?_
      try simp only [Act.put, List.getElem_toArray, List.getElem_cons_succ, List.getElem_cons_zero, List.setIfInBounds_toArray, List.set_cons_zero, List.set_cons_succ]
      refine wpAnyH_take (i := 11) (v := .int .i64 (IntKind.u16.wrap x + IntKind.u16.wrap y)) rfl (by kernel_rfl) (by kernel_rfl) (by kernel_rfl) (fun _ _ _ h => h) (y_add (by rfl) rfl rfl rfl rfl (by omega) (by omega)) hHeld ?_
      try simp only [Act.put, List.getElem_toArray, List.getElem_cons_succ, List.getElem_cons_zero, List.setIfInBounds_toArray, List.set_cons_zero, List.set_cons_succ]
      refine wpAnyH_ready (rs := [12]) (by kernel_rfl) (by simp) ?_
      refine AllReadyH.cons rfl (fun K hK => ?_) AllReadyH.nil
      try simp only [Act.put, List.getElem_toArray, List.getElem_cons_succ, List.getElem_cons_zero, List.setIfInBounds_toArray, List.set_cons_zero, List.set_cons_succ]
      rw [if_pos (by rfl)]
      go_simp
      refine hK.out _ _ ⟨pw_own_below hHeld.1 (below_alloc (Below.refl _ _) _), below_alloc hHeld.2 _⟩ (fun hHeld => ?_)
      clear hK K
      try simp only [Act.put, List.getElem_toArray, List.getElem_cons_succ, List.getElem_cons_zero, List.setIfInBounds_toArray, List.set_cons_zero, List.set_cons_succ]
      refine wpAnyH_ready (rs := [13]) (by kernel_rfl) (by simp) ?_
      refine AllReadyH.cons rfl (fun K hK => ?_) AllReadyH.nil
      try simp only [Act.put, List.getElem_toArray, List.getElem_cons_succ, List.getElem_cons_zero, List.setIfInBounds_toArray, List.set_cons_zero, List.set_cons_succ]
      rw [if_pos (by rfl)]
      refine append_num_wp (w0 := w) (W := w2.drew) w.heap.size ?_ (.tmp 35) (.tmp 47) 33 3 8 ?_ Try.underlying33 infoI (by decide) u12 k (highL zl zm k) (IntKind.u16.wrap x + IntKind.u16.wrap y) ?_ ?_ O3.out B3.out B3.out.size (by omega) ?_
      · rfl
      · rfl
      · rfl
      · rfl
      intro v2 w3 hQ1 hQ2 hQ3 hQ4
      have hlow := Go.Proofs.YtfkgpkkjiolfpaaW.PrintWords.own_other P6.out hQ3 (by
        rcases N3.out with h | h
        · exact .inr (by rw [h]; simp [Value.ownBlock])
        · exact .inr (fun e => h e.symm))
      rw [← HS.out] at hQ1
      have hN5 : v2.ownBlock = none ∨ v2.ownBlock ≠ (Value.slice (some ⟨g1, 0, none⟩) (k + 1) c1).ownBlock := by
        rcases hQ4 with h | ⟨b, h, hb⟩
        · rw [h]; exact N3.out
        · refine .inr fun e => ?_
          rw [h] at e
          have : b = g1 := by simpa [Value.ownBlock] using e
          have : w2.drew.heap.size = w2.heap.size := rfl
          omega
      have FIN := Lib.hid (And.intro (Lib.hid hlow) (And.intro (Lib.hid hQ1) (And.intro (Lib.hid hN5) (Lib.hid hQ2))))
      clear hN5 hQ1 hQ3 hQ4
      refine hK.out _ _ ⟨hlow, hQ2⟩ (fun hHeld => ?_)
      clear hK K
      try simp only [Act.put, List.getElem_toArray, List.getElem_cons_succ, List.getElem_cons_zero, List.setIfInBounds_toArray, List.set_cons_zero, List.set_cons_succ]
      clear hlow hQ2
      refine wpAnyH_take (i := 14) (v := v2) rfl (by kernel_rfl) (by kernel_rfl) (by kernel_rfl) (fun _ _ _ h => h) (y_assign (by rfl) rfl rfl) hHeld ?_
      try simp only [Act.put, List.getElem_toArray, List.getElem_cons_succ, List.getElem_cons_zero, List.setIfInBounds_toArray, List.set_cons_zero, List.set_cons_succ]
      refine wpAnyH_done (by kernel_rfl) ?_ _
      clear hHeld
      go_wp2_with fail
      go_roundw
      case rel => exact ⟨k + 1, by omega, by go_num, FIN.out⟩
      case measure => simp [RowKit.intOf]; omega
    · obtain rfl : k = M := by omega
      obtain ⟨Al, cl, rfl, hRl⟩ := own_reads hO1.out
      obtain ⟨Am, cm, rfl, hRm⟩ := own_reads hO2.out
      have hll := low_len zl k
      have hhl := high_len zl zm k
      have hf : ∀ i, i < k → (0 ≤ (lowL zl k).getD i 0 ∧ (lowL zl k).getD i 0 ≤ 65535) ∧ (lowL zl k).getD i 0 ≤ (highL zl zm k).getD i 0 ∧ (highL zl zm k).getD i 0 ≤ 131070 := fun i hik => by
        rw [low_get _ _ _ hik, high_get _ _ _ _ hik]
        have h1 := u16b (zl.getD i 0)
        have h2 := u16b (zm.getD i 0)
        have h3 : hi zl zm i = lo zl i + IntKind.u16.wrap (zm.getD i 0) := rfl
        have h4 : lo zl i = IntKind.u16.wrap (zl.getD i 0) := rfl
        omega
      generalize lowL zl k = low at *
      generalize highL zl zm k = high at *
      have RLo := Lib.hid hRl
      have RHi := Lib.hid hRm
      have HF := Lib.hid hf
      have B1 := hB
      clear hRl hRm hf hO1 hO2 hN hB
      go_wp2_with fail
      have hrb := roomb a0
      generalize wrap64 ((wrap64 (wrap32 a0)).tdiv 256) = R at *
      obtain ⟨sp, hsp, hs0, hs1⟩ : ∃ s, a1 % 256 = s ∧ 0 ≤ s ∧ s ≤ 255 := ⟨_, rfl, by omega, by omega⟩
      rw [hsp]
      clear hsp
      refine (Widths_c R sp Al Am k cl cm low high fixed wr RLo.out RHi.out (by omega)).mono ?_
      rintro e w4 ⟨v, rfl, hO, hB4⟩
      obtain ⟨f1, f2, f3⟩ := widths_facts R sp low high k fixed hll hhl m3 HF.out (cut_id (by omega) (by omega)) (cut_id (by omega) (by omega)) hs0
      obtain ⟨Ao, co, rfl, hRo⟩ := own_reads hO
      generalize widthsP R sp low high k fixed = out at *
      have F2 := Lib.hid f2
      have F3 := Lib.hid f3
      have RL4 := Lib.hid (RLo.out.below hB4)
      have RH4 := Lib.hid (RHi.out.below hB4)
      have RO4 := Lib.hid hRo
      have B4 := Lib.hid (below_then B1.out B1.out.size hB4)
      clear f2 f3 hO hRo hB4 B1 RLo RHi
      go_wp2_with fail
      refine (tabled_c w4).mono ?_
      rintro e w5 ⟨rfl, hB5⟩
      have RL5 := Lib.hid (RL4.out.below hB5)
      have RH5 := Lib.hid (RH4.out.below hB5)
      have RO5 := Lib.hid (RO4.out.below hB5)
      have B5 := Lib.hid (below_then B4.out B4.out.size hB5)
      clear hB5 RL4 RH4 RO4 B4
      go_wp2_with fail
      go_loopw [74] (fun i wv => ∃ j : Nat, j ≤ k ∧ i = .int .i64 j ∧ Hid (wv = w5)) (fun i _ => k - (RowKit.intOf i).toNat)
      case atStart => exact ⟨0, Nat.zero_le _, rfl, rfl⟩
      case round =>
        obtain ⟨j, hj, rfl, hW⟩ := hrel
        obtain rfl := hW.out
        clear hW
        by_cases hlt2 : j < k
        · obtain ⟨b1, e1, hx1⟩ := RO5.out.at_ (j : Int) (by omega) (by omega)
          obtain ⟨b2, e2, hx2⟩ := RL5.out.at_ (j : Int) (by omega) (by omega)
          obtain ⟨b3, e3, hx3⟩ := RH5.out.at_ (j : Int) (by omega) (by omega)
          rw [Int.toNat_natCast, show rd out (j : Int) = out.getD j 0 by simp [rd]] at hx1
          rw [Int.toNat_natCast, show rd low (j : Int) = low.getD j 0 by simp [rd]] at hx2
          rw [Int.toNat_natCast, show rd high (j : Int) = high.getD j 0 by simp [rd]] at hx3
          subst e1 e2 e3
          obtain ⟨g1, g2⟩ := F2.out j hlt2
          generalize out.getD j 0 = o at *
          generalize low.getD j 0 = l at *
          generalize high.getD j 0 = h at *
          have t1 : decide (o < l) = false := decide_eq_false (by omega)
          clear g1
          cases fixed with
          | true =>
            clear g2
            go_wp2_with fail
            go_roundw
            case rel => exact ⟨j + 1, by omega, by go_num, by first | exact rfl | exact trivial⟩
            case measure => simp [RowKit.intOf]; omega
          | false =>
            have g3 := g2 rfl
            have t2 : decide (h < o) = false := decide_eq_false (by omega)
            clear g2 g3
            go_wp2_with fail
            go_roundw
            case rel => exact ⟨j + 1, by omega, by go_num, by first | exact rfl | exact trivial⟩
            case measure => simp [RowKit.intOf]; omega
        · obtain rfl : j = k := by omega
          have hmb : 0 ≤ sp * ((j : Int) + 1) ∧ sp * ((j : Int) + 1) ≤ 255 * 21 := by
            refine ⟨Int.mul_nonneg hs0 (by omega), ?_⟩
            exact Int.le_trans (Int.mul_le_mul_of_nonneg_right hs1 (by omega)) (Int.mul_le_mul_of_nonneg_left (by omega) (by omega))
          cases fixed with
          | true =>
            go_wp2_with fail
            go_ret
            exact ⟨rfl, B5.out⟩
          | false =>
            have hbl : ∀ i, i < low.length → -131070 ≤ low.getD i 0 ∧ low.getD i 0 ≤ 131070 := fun i hi => by have := HF.out i (by omega); omega
            have hbh : ∀ i, i < high.length → -131070 ≤ high.getD i 0 ∧ high.getD i 0 ≤ 131070 := fun i hi => by have := HF.out i (by omega); omega
            have hbo : ∀ i, i < out.length → -131070 ≤ out.getD i 0 ∧ out.getD i 0 ≤ 131070 := fun i hi => by
              have h1 := HF.out i (by omega)
              obtain ⟨h2, h3⟩ := F2.out i (by omega)
              have := h3 rfl
              omega
            have SL := Lib.hid (sum_c wr Al j cl low RL5.out (fun q => by have := sums_bd low 20 (by omega) hbl q; omega))
            have SH := Lib.hid (sum_c wr Am j cm high RH5.out (fun q => by have := sums_bd high 20 (by omega) hbh q; omega))
            have SO := Lib.hid (sum_c wr Ao j co out RO5.out (fun q => by have := sums_bd out 20 (by omega) hbo q; omega))
            have hfr := F3.out rfl
            generalize hq : sp * ((j : Int) + 1) = q at *
            clear hbl hbh hbo F3
            by_cases c1 : R - q < low.sum
            · have t1 : decide (R - q < low.sum) = true := decide_eq_true c1
              clear hfr
              go_wp2_with (first
                | (rw [hq])
                | ((with_reducible refine SL.out.mono ?_); rintro e w' ⟨rfl, rfl⟩))
              go_ret
              exact ⟨rfl, B5.out⟩
            · have t1 : decide (R - q < low.sum) = false := decide_eq_false c1
              by_cases c2 : high.sum < R - q
              · have t2 : decide (high.sum < R - q) = true := decide_eq_true c2
                clear hfr
                go_wp2_with (first
                  | (rw [hq])
                  | ((with_reducible refine SL.out.mono ?_); rintro e w' ⟨rfl, rfl⟩)
                  | ((with_reducible refine SH.out.mono ?_); rintro e w' ⟨rfl, rfl⟩))
                go_ret
                exact ⟨rfl, B5.out⟩
              · have t2 : decide (high.sum < R - q) = false := decide_eq_false c2
                have hse := hfr (by omega) (by omega)
                have t3 : (out.sum == R - q) = true := by simp [hse]
                clear hse hfr
                go_wp2_with (first
                  | (rw [hq])
                  | ((with_reducible refine SL.out.mono ?_); rintro e w' ⟨rfl, rfl⟩)
                  | ((with_reducible refine SH.out.mono ?_); rintro e w' ⟨rfl, rfl⟩)
                  | ((with_reducible refine SO.out.mono ?_); rintro e w' ⟨rfl, rfl⟩))
                go_ret
                exact ⟨rfl, B5.out⟩
theorem own : ownKnob Try.prog.godebug = none := by kernel_rfl
theorem laidOut : laidOutB Try.prog = true := by kernel_rfl
set_option maxRecDepth 100000 in
theorem lifted (os : Os) (started : os.Started) (H : Type) (enc : TypeId × Value → H) :
    ReturnsInHanded {} Try.checked os 9 .any (Rows.tableFullSpec.pre6 enc Try.prog Try.f9 Rows.tableFullRow.domain false) (Rows.tableFullSpec.post enc Try.prog Try.f9 false true false false) := by
  refine returnsInHanded_of_change_sized (C := Try.checked) own started (by kernel_rfl) Try.func9
    (ChangeSpec.witness6 (enc := enc) (C := Try.checked) false ⟨#[], #[.int .i64 0, .int .i64 0, .slice none 0 0, .slice none 0 0, .bool false], []⟩ 8 (by kernel_rfl) (by kernel_rfl) (by kernel_rfl) (by kernel_rfl)) ?_
  intro W base args ds gs before hval0 hW hcnd hsz0 _
  have hsz : (DataW.weightsEach Try.prog (Try.f9.params.toList ++ Rows.tableFullSpec.plain.varTypes Try.prog) (ds ++ gs)).all (· ≤ reachBytes) = true := hsz0
  have hval : ∀ (j : Nat) t v, Try.f9.params[j]? = some t → args[j]? = some v → Value.okWide Try.prog W .any base t v := hval0
  have hW' := hW
  obtain ⟨p, q, hA0, hV, rfl, hfz, hnd⟩ := hW
  have hA : DataW.TrodAll enc Try.prog W 0 (fun _ => true) true Try.f9.params.toList args.toList ds p := hA0
  rw [Try.params9] at hA hval hsz
  obtain ⟨v0, vs0, d0, ds0, p0, q0, hargs, rfl, rfl, h0, r0⟩ := trodAll_cons hA
  obtain ⟨v1, vs1, d1, ds1, p1, q1, rfl, rfl, rfl, h1, r1⟩ := trodAll_cons r0
  obtain ⟨v2, vs2, d2, ds2, p2, q2, rfl, rfl, rfl, h2, r2⟩ := trodAll_cons r1
  obtain ⟨v3, vs3, d3, ds3, p3, q3, rfl, rfl, rfl, h3, r3⟩ := trodAll_cons r2
  obtain ⟨v4, vs4, d4, ds4, p4, q4, rfl, rfl, rfl, h4, r4⟩ := trodAll_cons r3
  obtain ⟨rfl, rfl, rfl⟩ := trodAll_nil r4
  obtain rfl : args = #[v0, v1, v2, v3, v4] := by cases args; simp_all
  obtain ⟨rfl, rfl⟩ := trodVars_none hV
  obtain ⟨a0, rfl, rfl, rfl, w0⟩ := open_int Try.underlying3 (hval 0 3 v0 rfl rfl) h0
  obtain ⟨a1, rfl, rfl, rfl, w1⟩ := open_int Try.underlying3 (hval 1 3 v1 rfl rfl) h1
  obtain ⟨a2, len2, cap2, rfl⟩ := okWide_slice Try.underlying33 (hval 2 33 v2 rfl rfl)
  have k2 := h2
  have lt2 : ∀ x ∈ p2, x.block < W.heap.size := by obtain ⟨m, hm⟩ := k2; exact DataW.trod_lt m _ _ _ hm
  obtain ⟨z2, w2⟩ : ∃ zs, IsRow .i64 W a2 len2 cap2 zs := by
    obtain ⟨fuel, hf⟩ := h2
    rcases open_ints Try.underlying33 Try.underlying3 (by kernel_rfl) hf with ⟨hcs, _⟩ | ⟨x, l, c, zs, hcs, _, hl, hm, hz, _, hcell, hwz⟩
    · simp [Value.cells] at hcs
      obtain ⟨rfl, rfl, rfl⟩ := hcs
      exact ⟨[], .inl ⟨rfl, rfl, rfl, rfl⟩⟩
    · simp [Value.cells] at hcs
      obtain ⟨rfl, rfl, rfl⟩ := hcs
      exact ⟨zs, .inr ⟨_, rfl, hl, hm, by simpa using hz, hcell, hwz⟩⟩
  have y2 : len2 * 8 ≤ 140737488351232 := sized_ints hsz (j := 2) (t := 33) rfl rfl Try.underlying33 Try.underlying3 (by kernel_rfl) (by kernel_rfl) h2
  obtain ⟨a3, len3, cap3, rfl⟩ := okWide_slice Try.underlying33 (hval 3 33 v3 rfl rfl)
  have k3 := h3
  have lt3 : ∀ x ∈ p3, x.block < W.heap.size := by obtain ⟨m, hm⟩ := k3; exact DataW.trod_lt m _ _ _ hm
  obtain ⟨z3, w3⟩ : ∃ zs, IsRow .i64 W a3 len3 cap3 zs := by
    obtain ⟨fuel, hf⟩ := h3
    rcases open_ints Try.underlying33 Try.underlying3 (by kernel_rfl) hf with ⟨hcs, _⟩ | ⟨x, l, c, zs, hcs, _, hl, hm, hz, _, hcell, hwz⟩
    · simp [Value.cells] at hcs
      obtain ⟨rfl, rfl, rfl⟩ := hcs
      exact ⟨[], .inl ⟨rfl, rfl, rfl, rfl⟩⟩
    · simp [Value.cells] at hcs
      obtain ⟨rfl, rfl, rfl⟩ := hcs
      exact ⟨zs, .inr ⟨_, rfl, hl, hm, by simpa using hz, hcell, hwz⟩⟩
  have y3 : len3 * 8 ≤ 140737488351232 := sized_ints hsz (j := 3) (t := 33) rfl rfl Try.underlying33 Try.underlying3 (by kernel_rfl) (by kernel_rfl) h3
  obtain ⟨a4, rfl, rfl, rfl⟩ := open_bool Try.underlying4 (hval 4 4 v4 rfl rfl) h4
  clear hA0 hval0 hsz0 hsz
  refine (walk a0 a1 a2 len2 cap2 z2 a3 len3 cap3 z3 a4 W w0 w1 w2 y2 w3 y3).mono fun e W' ⟨he, bel⟩ => ?_
  subst he
  exact ⟨_, rfl, _, _, _, [], _, [], hW', trodAll_mk1 (shut_bool Try.underlying4 _), (trodAll_cons_mk (shut_int Try.underlying3 w0) (trodAll_cons_mk (shut_int Try.underlying3 w1) (trodAll_cons_mk (Below.trod laidOut (by kernel_rfl) (of_decide_eq_true (by kernel_rfl)) k2 bel lt2) (trodAll_cons_mk (Below.trod laidOut (by kernel_rfl) (of_decide_eq_true (by kernel_rfl)) k3 bel lt3) (trodAll_cons_mk (shut_bool Try.underlying4 _) trodAll_mk0))))), rfl, bel.frame _, fun h => by cases h⟩
theorem over : Rows.tableFullRow.holds Try.pinned (OpenSpec.ofChange Rows.tableFullSpec) :=
  OpenClaim.holds_of_wide 9 Try.f9 rfl rfl rfl rfl rfl rfl rfl ⟨rfl, rfl, rfl, rfl, rfl⟩ rfl rfl rfl rfl rfl (by kernel_rfl) Try.func9 (by kernel_rfl)
    (of_decide_eq_true (by kernel_rfl)) (by unfold Func.isWrapper; first | (rw [if_pos (by decide +kernel)]; kernel_rfl) | (rw [if_neg (by decide +kernel)]; exact ⟨rfl, rfl⟩))
    (fun os started H enc _ => lifted os started H enc)
theorem proved : Rows.TableFullSaid := over
#print axioms proved
end Go.Proofs.Ytfkgpkkjiolfpaa.TableFull
