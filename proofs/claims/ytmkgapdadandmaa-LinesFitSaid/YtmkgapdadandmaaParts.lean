/- Package lines: parts: items taken apart, whatever the pieces of a text are. -/
import Derived.Test.YtmkgapdadandmaaPart2
import Derived.Test.YtmkgapdadandmaaRegion
namespace Go.Proofs.Ytmkgapdadandmaa.Lin
open Go.RowKit Go.Lib Go.Proofs.Ytmkgapdadandmaa.Pl Go.Proofs.Ytmkgapdadandmaa.Fx Go.Proofs.Ytmkgapdadandmaa.Fnt Go.Proofs.Ytmkgapdadandmaa.Rgn Go.Proofs.YtmkgapdadandmaaW.PrintWords Go.Proofs.YtmkgapdadandmaaW.PrintLast Go.Proofs.YtmkgapdadandmaaW.PrintMore
set_option linter.unusedVariables false
set_option linter.unusedSimpArgs false
attribute [local go_sem] mx2 mn2 mx_two mn_two mx_three mn_three

def noS : ByteArray := ⟨#[]⟩
/-- How wide an item without text is. -/
def oneW (x : LI) : Int := if x.f0 = 6 ∨ x.f0 = 7 ∨ x.f0 = 5 then 0 else if x.f0 = 4 then max 0 (cut x.f8) else cut x.f8
/-- The part of piece k of a text. -/
def partOf (i : Nat) (x : LI) (t : List ByteArray) (k : Nat) : Pt := ⟨i, t.getD k noS, widP x.f3 x.f4 (t.getD k noS), decide ((k : Int) = (t.length : Int) - 1)⟩
def partsOf (i : Nat) (x : LI) (t : List ByteArray) (k : Nat) : List Pt := (List.range k).map (partOf i x t)
/-- The parts of an item; Pc: what the pieces of a text may be. -/
def ItemTo (Pc : ByteArray → Int → List ByteArray → Prop) (i : Nat) (x : LI) (q : List Pt) : Prop :=
  if x.f0 = 1 then ∃ t, Pc x.f2 x.f6 t ∧ q = partsOf i x t t.length else q = [⟨i, noS, oneW x, true⟩]
def PartsTo (Pc : ByteArray → Int → List ByteArray → Prop) (l : List LI) : Nat → List Pt → Prop
  | 0, ps => ps = []
  | k + 1, ps => ∃ a b, PartsTo Pc l k a ∧ ItemTo Pc k (l.getD k z27) b ∧ ps = a ++ b
def PcOK (Pc : ByteArray → Int → List ByteArray → Prop) : Prop := ∀ s m t, Pc s m t → t.length ≤ 1001 ∧ ∀ u, u ∈ t → u.size ≤ 1000
theorem partsOf_succ (i : Nat) (x : LI) (t : List ByteArray) (k : Nat) : partsOf i x t (k + 1) = partsOf i x t k ++ [partOf i x t k] := by
  unfold partsOf; rw [List.range_succ, List.map_append]; rfl
theorem item_len {Pc : ByteArray → Int → List ByteArray → Prop} (hp : PcOK Pc) {i : Nat} {x : LI} {q : List Pt} (h : ItemTo Pc i x q) : q.length ≤ 1001 := by
  unfold ItemTo at h
  split at h
  · obtain ⟨t, ht, rfl⟩ := h
    have := (hp _ _ _ ht).1
    simp [partsOf]
    omega
  · rw [h]; simp
theorem parts_len {Pc : ByteArray → Int → List ByteArray → Prop} (hp : PcOK Pc) {l : List LI} : ∀ (k : Nat) (ps : List Pt), PartsTo Pc l k ps → ps.length ≤ 1001 * k := by
  intro k
  induction k with
  | zero => intro ps h; rw [show ps = [] from h]; simp
  | succ k ih =>
    intro ps h
    obtain ⟨a, b, h1, h2, rfl⟩ := h
    have := ih a h1
    have := item_len hp h2
    rw [List.length_append]
    omega
theorem infoP : (Try.prog.info? 72).map (fun i => (i.zero, i.size, i.bytes)) = some (some (.agg #[.pointer none, .int .i64 0, .string ⟨#[]⟩, .int .i64 0, .bool false]), 5, 48) := by kernel_rfl
theorem pt_M (ad : Addr) (w : World) (base : Nat) (ok : Nat → Prop) (p : Pt) : (kPt ad).M w base ok p (ptV ad p) := rfl
section
variable {P : Program} {o : Oper} {a : Act} {Q : Exit → Act → World → Prop} {Kc : Act → World → Prop} {α : Type}
theorem append_wp (d : Kd α) {w0 W : World} (base : Nat) (hgd : o.guard = none) (s x : Operand) (t e : TypeId) (z : Value) (bytes : Nat)
    (ho : o.op = .call { callee := .builtin .append, args := #[s, x], argTypes := #[t, t] })
    (ht : P.underlying t = some (.slice e)) (hinfo : (P.info? e).map (fun i => (i.zero, i.size, i.bytes)) = some (some z, d.sz, bytes)) (hz : z.cells.size = d.sz) (hs0 : 0 < d.sz) (hb0 : 0 < bytes)
    (v : Value) (xs : List α) (p : α) (cs : List Value) (ok okp : Nat → Prop) (hs : a.eval s = v) (hx : a.eval x = .slice (some ⟨W.heap.size, 0, none⟩) 1 1) (hp : d.M W base okp p cs) (hokp : ∀ k, okp k → ok k ∧ some k ≠ v.ownBlock) (hfresh : ∀ k, W.heap.size ≤ k → ok k)
    (HO : d.R e W base ok v xs) (HB : Below base w0 W) (hbase : base ≤ W.heap.size) (hl : (xs.length + 1) * bytes ≤ 140737488355328)
    (h : ∀ v1 w1, d.R e w1 base ok v1 (xs ++ [p]) → Below base w0 w1 → W.grownBy w1 v.ownBlock → Kc (a.put o.dst v1) w1) :
    Oper.wp P o a (W.alloc (.cells cs.toArray e)) Kc Q := by
  have hw : Region.wanted o (yielded (#[] : Array Oper) a.tmps) = true := by simp [Region.wanted, hgd]
  have h2 := Kd.R_append_step (ops := #[]) (Q := Q) (Kc := Kc) d base hw s x t e z bytes ho ht hinfo hz hs0 hb0 v xs p cs ok okp hs hx hp hokp hfresh HO HB hbase hl (fun v1 w1 h1 h2 h3 _ => h v1 w1 h1 h2 h3)
  rwa [if_pos hw] at h2
end
def PartsPost (Pc : ByteArray → Int → List ByteArray → Prop) (ad : Addr) (l : List LI) (w : World) (e : Ending) (w' : World) : Prop := ∃ v ps, e = .returned v ∧ Kd.R (kPt ad) 72 w' w.heap.size (fun _ => True) v ps ∧ PartsTo Pc l l.length ps ∧ Below w.heap.size w w'
def PieOK (Pc : ByteArray → Int → List ByteArray → Prop) : Prop := ∀ (s : ByteArray) (m : Int) (w : World), s.size ≤ 1000 → Calls Try.prog 34 #[.string s, .int .i64 m] w fun e w' => ∃ v t, e = .returned v ∧ Kd.R Kd.string 9 w' w.heap.size (fun _ => True) v t ∧ Pc s m t ∧ Below w.heap.size w w'
set_option maxRecDepth 100000 in
set_option maxHeartbeats 2000000 in
theorem parts_c (Pc : ByteArray → Int → List ByteArray → Prop) (hpc : PcOK Pc) (hpi : PieOK Pc) (A : Option Addr) (ad : Addr) (n c : Nat) (l : List LI) (w : World) (hC : Kd.C k27 w A n l) (hA : n ≠ 0 → A = some ad) (hn : n ≤ 90) (hs : ∀ x, x ∈ l → x.f2.size ≤ 1000) :
    Calls Try.prog 22 #[.slice A n c] w (PartsPost Pc ad l w) := by
  have hln : l.length = n := hC.1
  have LN := Lib.hid hln
  have HC := Lib.hid hC
  have HS := Lib.hid hs
  have HA := Lib.hid hA
  have PC := Lib.hid hpc
  have PI := Lib.hid hpi
  clear hC hln hs hA hpc hpi
  go_enter Try.func22, Try.ntmps22
  go_wp2_with fail
  go_loopw [3, 11] (fun v i wr => ∃ (k : Nat) (ps : List Pt), k ≤ n ∧ i = .int .i64 k ∧ Hid (PartsTo Pc l k ps) ∧ Hid (Kd.R (kPt ad) 72 wr w.heap.size (fun _ => True) v ps) ∧ Hid (Below w.heap.size w wr)) (fun _ i _ => n - (RowKit.intOf i).toNat)
  case atStart => exact ⟨0, [], Nat.zero_le _, rfl, rfl, Kd.R_nil _ _ _ _ _, Below.refl _ _⟩
  case round =>
    obtain ⟨k, ps, hk, rfl, hP, hR, hB⟩ := hrel
    by_cases hlt : k < n
    · obtain rfl : A = some ad := HA.out (by omega)
      obtain ⟨ad', ea, x0, x1, x2, x3, x4, x5, x6, x7, x8, x9, x10⟩ := at_T27 (Kd.C_below HC.out hB.out) (k : Int) (by omega) (by omega)
      obtain rfl := Option.some.inj ea
      have e : rd_T27 l (k : Int) = l.getD k z27 := by simp [rd_T27]
      rw [Int.toNat_natCast, e] at x0 x2 x3 x4 x6 x8
      have hsx := HS.out (l.getD k z27) (by rw [List.getD_eq_getElem?_getD, List.getElem?_eq_getElem (by rw [LN.out]; exact hlt)]; exact List.getElem_mem _)
      have hpl := parts_len PC.out k ps hP.out
      have hpn : ∀ b, ItemTo Pc k (l.getD k z27) b → PartsTo Pc l (k + 1) (ps ++ b) := fun b hb => ⟨ps, b, hP.out, hb, rfl⟩
      have hIA : ∀ W, Below w.heap.size w W → W.cell? ⟨(ad.add (k * 11)).block, (ad.add (k * 11)).off + 3, none⟩ = some (.int .i64 (l.getD k z27).f3) ∧ W.cell? ⟨(ad.add (k * 11)).block, (ad.add (k * 11)).off + 4, none⟩ = some (.int .i64 (l.getD k z27).f4) := by
        intro W hW
        obtain ⟨ad'', ea', y0, y1, y2, y3, y4, y5, y6, y7, y8, y9, y10⟩ := at_T27 (Kd.C_below HC.out hW) (k : Int) (by omega) (by omega)
        obtain rfl := Option.some.inj ea'
        rw [Int.toNat_natCast, e] at y3 y4
        exact ⟨y3, y4⟩
      have IA := Lib.hid hIA
      clear ea e x1 x5 x7 x9 x10 hP hIA
      generalize l.getD k z27 = x at *
      have PN := Lib.hid hpn
      clear hpn
      by_cases h1 : x.f0 = 1
      · have q1 : (x.f0 == 1) = true := by simp [h1]
        have it : ∀ t, Pc x.f2 x.f6 t → ItemTo Pc k x (partsOf k x t t.length) := fun t ht => by unfold ItemTo; rw [if_pos h1]; exact ⟨t, ht, rfl⟩
        have po := partsOf_succ k x
        have IT := Lib.hid it
        have PO := Lib.hid po
        obtain ⟨f0, f1, f2, f3, f4, f5, f6, f7, f8, f9, f10⟩ := x
        have pof : ∀ t j, partOf k ⟨f0, f1, f2, f3, f4, f5, f6, f7, f8, f9, f10⟩ t j = ⟨k, t.getD j noS, widP f3 f4 (t.getD j noS), decide ((j : Int) = (t.length : Int) - 1)⟩ := fun _ _ => rfl
        have POF := Lib.hid pof
        simp only at x0 x2 x3 x4 x6 q1 IT hsx IA
        have HSX := Lib.hid hsx
        have HPL := Lib.hid hpl
        have HK := Lib.hid hk
        clear HA it h1 x8 po pof hsx hpl hk
        go_wp2_with fail
        obtain ⟨q, hq⟩ : ∃ q, ad.add (k * 11) = q := ⟨_, rfl⟩
        rw [hq] at x0 x2 x3 x4 x6 IA
        have HQ := Lib.hid hq
        have X0 := Lib.hid x0
        have X2 := Lib.hid x2
        have X3 := Lib.hid x3
        have X4 := Lib.hid x4
        have X6 := Lib.hid x6
        rw [hq]
        clear hq x0 x2 x3 x4 x6
        refine wp_region_held_drew (S := fun W => Below wr.heap.size wr W) (by kernel_rfl) (Below.refl _ _).drew (fun hHeld => ?_)
        refine wpAnyH_take (i := 0) (v := .pointer (some q)) rfl (by kernel_rfl) (by kernel_rfl) (by kernel_rfl) (fun _ _ _ h => h) (y_move (by rfl) rfl rfl) hHeld ?_
        try simp only [Act.put, List.getElem_toArray, List.getElem_cons_succ, List.getElem_cons_zero, List.setIfInBounds_toArray, List.set_cons_zero, List.set_cons_succ]
        refine wpAnyH_take (i := 1) (v := .pointer (some q)) rfl (by kernel_rfl) (by kernel_rfl) (by kernel_rfl) (fun _ _ _ h => h) (y_run (by rfl) (fun w _ => by unfold execOp; go_simp)) hHeld ?_
        try simp only [Act.put, List.getElem_toArray, List.getElem_cons_succ, List.getElem_cons_zero, List.setIfInBounds_toArray, List.set_cons_zero, List.set_cons_succ]
        refine wpAnyH_take (i := 2) (v := .pointer (some ⟨q.block, q.off + 2, none⟩)) rfl (by kernel_rfl) (by kernel_rfl) (by kernel_rfl) (fun _ _ _ h => h) (y_run (by rfl) (fun w _ => by unfold execOp; go_simp)) hHeld ?_
        try simp only [Act.put, List.getElem_toArray, List.getElem_cons_succ, List.getElem_cons_zero, List.setIfInBounds_toArray, List.set_cons_zero, List.set_cons_succ]
        refine wpAnyH_take (i := 3) (v := .string f2) rfl (by kernel_rfl) (by kernel_rfl) (by kernel_rfl) (fun _ _ _ h => h) (y_run (by rfl) (fun w h => by have c := pw_cell_below h X2.out; unfold execOp; go_simp)) hHeld ?_
        try simp only [Act.put, List.getElem_toArray, List.getElem_cons_succ, List.getElem_cons_zero, List.setIfInBounds_toArray, List.set_cons_zero, List.set_cons_succ]
        refine wpAnyH_take (i := 4) (v := .pointer (some q)) rfl (by kernel_rfl) (by kernel_rfl) (by kernel_rfl) (fun _ _ _ h => h) (y_move (by rfl) rfl rfl) hHeld ?_
        try simp only [Act.put, List.getElem_toArray, List.getElem_cons_succ, List.getElem_cons_zero, List.setIfInBounds_toArray, List.set_cons_zero, List.set_cons_succ]
        refine wpAnyH_take (i := 5) (v := .pointer (some q)) rfl (by kernel_rfl) (by kernel_rfl) (by kernel_rfl) (fun _ _ _ h => h) (y_run (by rfl) (fun w _ => by unfold execOp; go_simp)) hHeld ?_
        try simp only [Act.put, List.getElem_toArray, List.getElem_cons_succ, List.getElem_cons_zero, List.setIfInBounds_toArray, List.set_cons_zero, List.set_cons_succ]
        refine wpAnyH_take (i := 6) (v := .pointer (some ⟨q.block, q.off + 6, none⟩)) rfl (by kernel_rfl) (by kernel_rfl) (by kernel_rfl) (fun _ _ _ h => h) (y_run (by rfl) (fun w _ => by unfold execOp; go_simp)) hHeld ?_
        try simp only [Act.put, List.getElem_toArray, List.getElem_cons_succ, List.getElem_cons_zero, List.setIfInBounds_toArray, List.set_cons_zero, List.set_cons_succ]
        refine wpAnyH_take (i := 7) (v := .int .i64 f6) rfl (by kernel_rfl) (by kernel_rfl) (by kernel_rfl) (fun _ _ _ h => h) (y_run (by rfl) (fun w h => by have c := pw_cell_below h X6.out; unfold execOp; go_simp)) hHeld ?_
        try simp only [Act.put, List.getElem_toArray, List.getElem_cons_succ, List.getElem_cons_zero, List.setIfInBounds_toArray, List.set_cons_zero, List.set_cons_succ]
        refine wpAnyH_ready (rs := [8]) (by kernel_rfl) (by simp) ?_
        refine AllReadyH.cons rfl (fun K hK => ?_) AllReadyH.nil
        try simp only [Act.put, List.getElem_toArray, List.getElem_cons_succ, List.getElem_cons_zero, List.setIfInBounds_toArray, List.set_cons_zero, List.set_cons_succ]
        try rw [if_pos (by rfl)]
        go_simp
        refine (PI.out f2 f6 _ HSX.out).mono ?_
        rintro e w3 ⟨v3, t, rfl, hR3, hP3, h3⟩
        obtain ⟨Aa, ca, rfl, hca, hC3⟩ := Kd.R_reads hR3
        obtain ⟨m, hm⟩ : ∃ m, t.length = m := ⟨_, rfl⟩
        rw [hm]
        refine hK.out _ _ (below_then hHeld (Below.size hHeld) h3) (fun hHeld => ?_)
        clear hK K
        try simp only [Act.put, List.getElem_toArray, List.getElem_cons_succ, List.getElem_cons_zero, List.setIfInBounds_toArray, List.set_cons_zero, List.set_cons_succ]
        refine wpAnyH_take (i := 9) (v := .slice Aa m ca) rfl (by kernel_rfl) (by kernel_rfl) (by kernel_rfl) (fun _ _ _ h => h) (y_assign (by rfl) rfl rfl) hHeld ?_
        try simp only [Act.put, List.getElem_toArray, List.getElem_cons_succ, List.getElem_cons_zero, List.setIfInBounds_toArray, List.set_cons_zero, List.set_cons_succ]
        have HB3 := Lib.hid hHeld
        refine wpAnyH_done (by kernel_rfl) ?_ _
        clear hHeld
        have hpc := PC.out _ _ _ hP3
        have hml : m ≤ 1001 := by omega
        have hmlm : m ≤ 9223372036854775807 := by omega
        have HTS := Lib.hid hpc.2
        have HTL := Lib.hid hm
        have HP3 := Lib.hid hP3
        have O3 := Lib.hid (Kd.R_below hR.out HB3.out)
        have B3 := Lib.hid (below_then hB.out hB.out.size HB3.out)
        rw [hm] at hC3
        obtain ⟨b3, S3⟩ : ∃ b3, Hid (Kd.R Kd.string 9 w3 b3 (fun _ => True) (.slice Aa m ca) t) := ⟨_, Lib.hid (by rw [← hm]; exact hR3)⟩
        clear hpc hm hP3 hR3 hC3 hR hB h3
        go_wp2_with fail
        obtain ⟨WR, rfl⟩ : ∃ W : World, W = wr := ⟨_, rfl⟩
        go_loopw [3, 45] (fun v2 i2 wq => ∃ j : Nat, j ≤ m ∧ i2 = .int .i64 j ∧ Hid (Kd.R (kPt ad) 72 wq w.heap.size (fun _ => True) v2 (ps ++ partsOf k ⟨f0, f1, f2, f3, f4, f5, f6, f7, f8, f9, f10⟩ t j)) ∧ Hid (Kd.R Kd.string 9 wq b3 (fun _ => True) (.slice Aa m ca) t) ∧ Hid (Below w.heap.size w wq)) (fun _ i2 _ => m - (RowKit.intOf i2).toNat)
        case atStart => exact ⟨0, Nat.zero_le _, rfl, by rw [show partsOf k ⟨f0, f1, f2, f3, f4, f5, f6, f7, f8, f9, f10⟩ t 0 = [] from rfl, List.append_nil]; exact O3.out, S3.out, B3.out⟩
        case round =>
          obtain ⟨j, hj, rfl, hRj, hSj, hBj⟩ := hrel
          by_cases hltj : j < m
          · have hCj := (Kd.R_reads' hSj.out).2.2
            rw [HTL.out] at hCj
            obtain ⟨g, c2, eg, hcl, hK, hc0⟩ := Kd.C_get hCj noS (j : Int) (by omega) (by omega)
            rw [Int.toNat_natCast] at hK hc0
            have hK2 : c2 = [.string (t.getD j noS)] := hK
            subst hK2
            subst eg
            have y0 : wr.cell? (g.add j) = some (.string (t.getD j noS)) := by have := hc0 0 _ rfl; rw [show j * Kd.string.sz + 0 = j from Nat.mul_one j] at this; exact this
            have hus := HTS.out (t.getD j noS) (by rw [List.getD_eq_getElem?_getD, List.getElem?_eq_getElem (by rw [HTL.out]; exact hltj)]; exact List.getElem_mem _)
            have hpo := PO.out t j
            rw [POF.out, HTL.out] at hpo
            have hpol : (ps ++ partsOf k ⟨f0, f1, f2, f3, f4, f5, f6, f7, f8, f9, f10⟩ t j).length ≤ 100000 := by
              have := HPL.out
              have := HK.out
              rw [List.length_append]
              simp [partsOf]
              omega
            obtain ⟨qs, hqs⟩ : ∃ qs, ps ++ partsOf k ⟨f0, f1, f2, f3, f4, f5, f6, f7, f8, f9, f10⟩ t j = qs := ⟨_, rfl⟩
            have hpo2 : ps ++ partsOf k ⟨f0, f1, f2, f3, f4, f5, f6, f7, f8, f9, f10⟩ t (j + 1) = qs ++ [⟨k, t.getD j noS, widP f3 f4 (t.getD j noS), decide ((j : Int) = (m : Int) - 1)⟩] := by rw [hpo, ← List.append_assoc, hqs]
            rw [hqs] at hRj hpol
            have PO2 := Lib.hid hpo2
            have PL2 := Lib.hid hpol
            have HUS := Lib.hid hus
            clear hpo hpo2 hqs hpol hus hc0 hK hCj hcl
            generalize t.getD j noS = u at *
            go_wp2_with fail
            refine wp_region_held_drew (S := fun W => Below w.heap.size w W) (by kernel_rfl) hBj.out.drew (fun hHeld => ?_)
            refine wpAnyH_take (i := 0) (v := u3) rfl (by kernel_rfl) (by kernel_rfl) (by kernel_rfl) (fun _ _ _ h => h) (y_move (by rfl) rfl rfl) hHeld ?_
            try simp only [Act.put, List.getElem_toArray, List.getElem_cons_succ, List.getElem_cons_zero, List.setIfInBounds_toArray, List.set_cons_zero, List.set_cons_succ]
            refine wpAnyH_take (i := 1) (v := .pointer (some q)) rfl (by kernel_rfl) (by kernel_rfl) (by kernel_rfl) (fun _ _ _ h => h) (y_move (by rfl) rfl rfl) hHeld ?_
            try simp only [Act.put, List.getElem_toArray, List.getElem_cons_succ, List.getElem_cons_zero, List.setIfInBounds_toArray, List.set_cons_zero, List.set_cons_succ]
            refine wpAnyH_take (i := 2) (v := .int .i64 (k : Int)) rfl (by kernel_rfl) (by kernel_rfl) (by kernel_rfl) (fun _ _ _ h => h) (y_move (by rfl) rfl rfl) hHeld ?_
            try simp only [Act.put, List.getElem_toArray, List.getElem_cons_succ, List.getElem_cons_zero, List.setIfInBounds_toArray, List.set_cons_zero, List.set_cons_succ]
            refine wpAnyH_take (i := 3) (v := .string u) rfl (by kernel_rfl) (by kernel_rfl) (by kernel_rfl) (fun _ _ _ h => h) (y_move (by rfl) rfl rfl) hHeld ?_
            try simp only [Act.put, List.getElem_toArray, List.getElem_cons_succ, List.getElem_cons_zero, List.setIfInBounds_toArray, List.set_cons_zero, List.set_cons_succ]
            refine wpAnyH_take (i := 4) (v := .string u) rfl (by kernel_rfl) (by kernel_rfl) (by kernel_rfl) (fun _ _ _ h => h) (y_move (by rfl) rfl rfl) hHeld ?_
            try simp only [Act.put, List.getElem_toArray, List.getElem_cons_succ, List.getElem_cons_zero, List.setIfInBounds_toArray, List.set_cons_zero, List.set_cons_succ]
            refine wpAnyH_take (i := 5) (v := .pointer (some q)) rfl (by kernel_rfl) (by kernel_rfl) (by kernel_rfl) (fun _ _ _ h => h) (y_move (by rfl) rfl rfl) hHeld ?_
            try simp only [Act.put, List.getElem_toArray, List.getElem_cons_succ, List.getElem_cons_zero, List.setIfInBounds_toArray, List.set_cons_zero, List.set_cons_succ]
            refine wpAnyH_take (i := 6) (v := .pointer (some q)) rfl (by kernel_rfl) (by kernel_rfl) (by kernel_rfl) (fun _ _ _ h => h) (y_run (by rfl) (fun w _ => by unfold execOp; go_simp)) hHeld ?_
            try simp only [Act.put, List.getElem_toArray, List.getElem_cons_succ, List.getElem_cons_zero, List.setIfInBounds_toArray, List.set_cons_zero, List.set_cons_succ]
            refine wpAnyH_take (i := 7) (v := .pointer (some ⟨q.block, q.off + 3, none⟩)) rfl (by kernel_rfl) (by kernel_rfl) (by kernel_rfl) (fun _ _ _ h => h) (y_run (by rfl) (fun w _ => by unfold execOp; go_simp)) hHeld ?_
            try simp only [Act.put, List.getElem_toArray, List.getElem_cons_succ, List.getElem_cons_zero, List.setIfInBounds_toArray, List.set_cons_zero, List.set_cons_succ]
            refine wpAnyH_take (i := 8) (v := .int .i64 f3) rfl (by kernel_rfl) (by kernel_rfl) (by kernel_rfl) (fun _ _ _ h => h) (y_run (by rfl) (fun w h => by have c := (IA.out _ h).1; unfold execOp; go_simp)) hHeld ?_
            try simp only [Act.put, List.getElem_toArray, List.getElem_cons_succ, List.getElem_cons_zero, List.setIfInBounds_toArray, List.set_cons_zero, List.set_cons_succ]
            refine wpAnyH_take (i := 9) (v := .pointer (some q)) rfl (by kernel_rfl) (by kernel_rfl) (by kernel_rfl) (fun _ _ _ h => h) (y_move (by rfl) rfl rfl) hHeld ?_
            try simp only [Act.put, List.getElem_toArray, List.getElem_cons_succ, List.getElem_cons_zero, List.setIfInBounds_toArray, List.set_cons_zero, List.set_cons_succ]
            refine wpAnyH_take (i := 10) (v := .pointer (some q)) rfl (by kernel_rfl) (by kernel_rfl) (by kernel_rfl) (fun _ _ _ h => h) (y_run (by rfl) (fun w _ => by unfold execOp; go_simp)) hHeld ?_
            try simp only [Act.put, List.getElem_toArray, List.getElem_cons_succ, List.getElem_cons_zero, List.setIfInBounds_toArray, List.set_cons_zero, List.set_cons_succ]
            refine wpAnyH_take (i := 11) (v := .pointer (some ⟨q.block, q.off + 4, none⟩)) rfl (by kernel_rfl) (by kernel_rfl) (by kernel_rfl) (fun _ _ _ h => h) (y_run (by rfl) (fun w _ => by unfold execOp; go_simp)) hHeld ?_
            try simp only [Act.put, List.getElem_toArray, List.getElem_cons_succ, List.getElem_cons_zero, List.setIfInBounds_toArray, List.set_cons_zero, List.set_cons_succ]
            refine wpAnyH_take (i := 12) (v := .int .i64 f4) rfl (by kernel_rfl) (by kernel_rfl) (by kernel_rfl) (fun _ _ _ h => h) (y_run (by rfl) (fun w h => by have c := (IA.out _ h).2; unfold execOp; go_simp)) hHeld ?_
            try simp only [Act.put, List.getElem_toArray, List.getElem_cons_succ, List.getElem_cons_zero, List.setIfInBounds_toArray, List.set_cons_zero, List.set_cons_succ]
            refine wpAnyH_take (i := 14) (v := .int .i64 (j : Int)) rfl (by kernel_rfl) (by kernel_rfl) (by kernel_rfl) (fun _ _ _ h => h) (y_move (by rfl) rfl rfl) hHeld ?_
            try simp only [Act.put, List.getElem_toArray, List.getElem_cons_succ, List.getElem_cons_zero, List.setIfInBounds_toArray, List.set_cons_zero, List.set_cons_succ]
            refine wpAnyH_take (i := 15) (v := .slice (some g) m ca) rfl (by kernel_rfl) (by kernel_rfl) (by kernel_rfl) (fun _ _ _ h => h) (y_move (by rfl) rfl rfl) hHeld ?_
            try simp only [Act.put, List.getElem_toArray, List.getElem_cons_succ, List.getElem_cons_zero, List.setIfInBounds_toArray, List.set_cons_zero, List.set_cons_succ]
            refine wpAnyH_take (i := 16) (v := .int .i64 (m : Int)) rfl (by kernel_rfl) (by kernel_rfl) (by kernel_rfl) (fun _ _ _ h => h) (y_run (by rfl) (fun w _ => by unfold execOp; go_simp)) hHeld ?_
            try simp only [Act.put, List.getElem_toArray, List.getElem_cons_succ, List.getElem_cons_zero, List.setIfInBounds_toArray, List.set_cons_zero, List.set_cons_succ]
            refine wpAnyH_take (i := 17) (v := .int .i64 ((m : Int) - 1)) rfl (by kernel_rfl) (by kernel_rfl) (by kernel_rfl) (fun _ _ _ h => h) (y_sub (by rfl) rfl rfl rfl rfl (by omega) (by omega)) hHeld ?_
            try simp only [Act.put, List.getElem_toArray, List.getElem_cons_succ, List.getElem_cons_zero, List.setIfInBounds_toArray, List.set_cons_zero, List.set_cons_succ]
            refine wpAnyH_take (i := 18) (v := .bool ((j : Int) == (m : Int) - 1)) rfl (by kernel_rfl) (by kernel_rfl) (by kernel_rfl) (fun _ _ _ h => h) (y_run (by rfl) (fun w _ => by unfold execOp; go_simp)) hHeld ?_
            try simp only [Act.put, List.getElem_toArray, List.getElem_cons_succ, List.getElem_cons_zero, List.setIfInBounds_toArray, List.set_cons_zero, List.set_cons_succ]
            refine wpAnyH_ready (rs := [13]) (by kernel_rfl) (by simp) ?_
            refine AllReadyH.cons rfl (fun K hK => ?_) AllReadyH.nil
            try simp only [Act.put, List.getElem_toArray, List.getElem_cons_succ, List.getElem_cons_zero, List.setIfInBounds_toArray, List.set_cons_zero, List.set_cons_succ]
            try rw [if_pos (by rfl)]
            go_simp
            refine (Width_c u f3 f4 _ HUS.out).mono ?_
            rintro e w4 ⟨rfl, h4⟩
            refine hK.out _ _ (below_then hHeld (Below.size hHeld) h4) (fun hHeld => ?_)
            clear hK K
            try simp only [Act.put, List.getElem_toArray, List.getElem_cons_succ, List.getElem_cons_zero, List.setIfInBounds_toArray, List.set_cons_zero, List.set_cons_succ]
            refine wpAnyH_take (i := 19) (v := .agg (ptV ad ⟨k, u, widP f3 f4 u, (j : Int) == (m : Int) - 1⟩).toArray) rfl (by kernel_rfl) (by kernel_rfl) (by kernel_rfl) (fun _ _ _ h => h) (y_run (by rfl) (fun w _ => by have hq := HQ.out; unfold execOp; go_simp; unfold ptV widP; simp only [hq])) hHeld ?_
            try simp only [Act.put, List.getElem_toArray, List.getElem_cons_succ, List.getElem_cons_zero, List.setIfInBounds_toArray, List.set_cons_zero, List.set_cons_succ]
            have O4 := Lib.hid (Kd.R_below (Kd.R_drew hRj.out) h4)
            have S4 := Lib.hid (Kd.R_below (Kd.R_drew hSj.out) h4)
            have B4 := Lib.hid (below_then hBj.out.drew hBj.out.drew.size h4)
            have PX : Hid ((((j : Int) == (m : Int) - 1) : Bool) = decide ((j : Int) = (m : Int) - 1)) := Lib.hid rfl
            clear hRj hSj hBj h4
            generalize ((j : Int) == (m : Int) - 1) = bl at *
            refine wpAnyH_ready (rs := [20]) (by kernel_rfl) (by simp) ?_
            refine AllReadyH.cons rfl (fun K hK => ?_) AllReadyH.nil
            try simp only [Act.put, List.getElem_toArray, List.getElem_cons_succ, List.getElem_cons_zero, List.setIfInBounds_toArray, List.set_cons_zero, List.set_cons_succ]
            try rw [if_pos (by rfl)]
            go_simp
            refine hK.out _ _ (below_then hHeld (Below.size hHeld) (below_alloc (Below.refl _ _) _)) (fun hHeld => ?_)
            clear hK K
            try simp only [Act.put, List.getElem_toArray, List.getElem_cons_succ, List.getElem_cons_zero, List.setIfInBounds_toArray, List.set_cons_zero, List.set_cons_succ]
            refine wpAnyH_ready (rs := [21]) (by kernel_rfl) (by simp) ?_
            refine AllReadyH.cons rfl (fun K hK => ?_) AllReadyH.nil
            try simp only [Act.put, List.getElem_toArray, List.getElem_cons_succ, List.getElem_cons_zero, List.setIfInBounds_toArray, List.set_cons_zero, List.set_cons_succ]
            rw [if_pos (by rfl)]
            refine append_wp (kPt ad) (w0 := w) w.heap.size ?_ (.tmp 50) (.tmp 70) 56 72 _ 48 ?_ Try.underlying56 infoP rfl (by show 0 < 5; omega) (by decide) u3 qs ⟨k, u, widP f3 f4 u, bl⟩ (ptV ad ⟨k, u, widP f3 f4 u, bl⟩) (fun _ => True) (fun _ => False) ?_ ?_ (pt_M _ _ _ _ _) (fun _ h => h.elim) (fun _ _ => trivial) O4.out B4.out B4.out.size (by have := PL2.out; omega) ?_
            · rfl
            · rfl
            · rfl
            · rfl
            intro v1 w6 hO1 hB1 hG1
            have O6 := Lib.hid hO1
            have S6 := Lib.hid (Kd.R_over S4.out O4.out (by decide) hG1)
            have B6 := Lib.hid hB1
            clear hO1 hG1
            refine hK.out _ _ hB1 (fun hHeld => ?_)
            clear hK K
            try simp only [Act.put, List.getElem_toArray, List.getElem_cons_succ, List.getElem_cons_zero, List.setIfInBounds_toArray, List.set_cons_zero, List.set_cons_succ]
            refine wpAnyH_take (i := 22) (v := v1) rfl (by kernel_rfl) (by kernel_rfl) (by kernel_rfl) (fun _ _ _ h => h) (y_assign (by rfl) rfl rfl) hHeld ?_
            try simp only [Act.put, List.getElem_toArray, List.getElem_cons_succ, List.getElem_cons_zero, List.setIfInBounds_toArray, List.set_cons_zero, List.set_cons_succ]
            refine wpAnyH_done (by kernel_rfl) ?_ _
            clear hHeld
            clear hB1
            go_wp2_with fail
            go_roundw
            case rel => exact ⟨j + 1, by omega, by go_num, by rw [PO2.out, ← PX.out]; exact O6.out, S6.out, B6.out⟩
            case measure => simp [RowKit.intOf]; omega
          · obtain rfl : j = m := by omega
            have PF := Lib.hid (PN.out _ (by have := IT.out t HP3.out; rw [HTL.out] at this; exact this))
            go_wp2_with fail
            go_roundw
            case rel => exact ⟨k + 1, _, by have := HK.out; omega, by go_num, PF.out, hRj.out, hBj.out⟩
            case measure => simp [RowKit.intOf]; omega
      · have q1 : (x.f0 == 1) = false := by simp [h1]
        have it : ∀ v, ItemTo Pc k x [⟨k, noS, v, true⟩] ↔ v = oneW x := by
          intro v; unfold ItemTo; rw [if_neg h1]; simp
        have IT := Lib.hid it
        have hcb := cut_bd x.f8
        obtain ⟨f0, f1, f2, f3, f4, f5, f6, f7, f8, f9, f10⟩ := x
        unfold oneW at IT
        simp only at x0 x2 x3 x4 x6 x8 h1 q1 IT hcb
        clear HA it
        have u0 : ∀ o, (wr.alloc o).cell? (ad.add (k * 11)) = some (.int .i64 f0) := fun o => (World.cell?_alloc_lt _ _ _ (World.block_lt_of_cell? _ _ x0)).trans x0
        by_cases h6 : f0 = 6
        · have z6 : (f0 == 6) = true := by simp [h6]
          have HV := Lib.hid (show (0 : Int) = if f0 = 6 ∨ f0 = 7 ∨ f0 = 5 then 0 else if f0 = 4 then max 0 (cut f8) else cut f8 by rw [if_pos (by omega)])
          clear h6
          go_wp2_with (at_builtin; go_loud (refine Kd.R_append (kPt ad) (w0 := w) w.heap.size rfl (.tmp 77) (.tmp 81) 56 72 _ 48 rfl Try.underlying56 infoP rfl (by show 0 < 5; omega) (by decide) _ ps ⟨k, noS, 0, true⟩ (ptV ad ⟨k, noS, 0, true⟩) (fun _ => True) (fun _ => False) rfl (by show Value.slice (some ⟨wr.heap.size, 0, none⟩) 1 1 = _; rfl) (pt_M _ _ _ _ _) (fun _ h => h.elim) (fun _ _ => trivial) hR.out hB.out hB.out.size (by omega) ?_); intro v1 w1 hO1 hB1 hG1 hat1; have O1 := Lib.hid hO1; have B1 := Lib.hid hB1; clear hO1 hB1 hG1 hat1)
          go_roundw
          case rel => exact ⟨k + 1, ps ++ [(⟨k, noS, 0, true⟩ : Pt)], by omega, by go_num, PN.out [⟨k, noS, 0, true⟩] ((IT.out (0)).2 HV.out), O1.out, B1.out⟩
          case measure => simp [RowKit.intOf]; omega
        · have z6 : (f0 == 6) = false := by simp [h6]
          by_cases h7 : f0 = 7
          · have z7 : (f0 == 7) = true := by simp [h7]
            have HV := Lib.hid (show (0 : Int) = if f0 = 6 ∨ f0 = 7 ∨ f0 = 5 then 0 else if f0 = 4 then max 0 (cut f8) else cut f8 by rw [if_pos (by omega)])
            clear h7
            go_wp2_with (at_builtin; go_loud (refine Kd.R_append (kPt ad) (w0 := w) w.heap.size rfl (.tmp 77) (.tmp 81) 56 72 _ 48 rfl Try.underlying56 infoP rfl (by show 0 < 5; omega) (by decide) _ ps ⟨k, noS, 0, true⟩ (ptV ad ⟨k, noS, 0, true⟩) (fun _ => True) (fun _ => False) rfl (by show Value.slice (some ⟨wr.heap.size, 0, none⟩) 1 1 = _; rfl) (pt_M _ _ _ _ _) (fun _ h => h.elim) (fun _ _ => trivial) hR.out hB.out hB.out.size (by omega) ?_); intro v1 w1 hO1 hB1 hG1 hat1; have O1 := Lib.hid hO1; have B1 := Lib.hid hB1; clear hO1 hB1 hG1 hat1)
            go_roundw
            case rel => exact ⟨k + 1, ps ++ [(⟨k, noS, 0, true⟩ : Pt)], by omega, by go_num, PN.out [⟨k, noS, 0, true⟩] ((IT.out (0)).2 HV.out), O1.out, B1.out⟩
            case measure => simp [RowKit.intOf]; omega
          · have z7 : (f0 == 7) = false := by simp [h7]
            by_cases h5 : f0 = 5
            · have z5 : (f0 == 5) = true := by simp [h5]
              have HV := Lib.hid (show (0 : Int) = if f0 = 6 ∨ f0 = 7 ∨ f0 = 5 then 0 else if f0 = 4 then max 0 (cut f8) else cut f8 by rw [if_pos (by omega)])
              clear h5
              go_wp2_with (at_builtin; go_loud (refine Kd.R_append (kPt ad) (w0 := w) w.heap.size rfl (.tmp 77) (.tmp 81) 56 72 _ 48 rfl Try.underlying56 infoP rfl (by show 0 < 5; omega) (by decide) _ ps ⟨k, noS, 0, true⟩ (ptV ad ⟨k, noS, 0, true⟩) (fun _ => True) (fun _ => False) rfl (by show Value.slice (some ⟨wr.heap.size, 0, none⟩) 1 1 = _; rfl) (pt_M _ _ _ _ _) (fun _ h => h.elim) (fun _ _ => trivial) hR.out hB.out hB.out.size (by omega) ?_); intro v1 w1 hO1 hB1 hG1 hat1; have O1 := Lib.hid hO1; have B1 := Lib.hid hB1; clear hO1 hB1 hG1 hat1)
              go_roundw
              case rel => exact ⟨k + 1, ps ++ [(⟨k, noS, 0, true⟩ : Pt)], by omega, by go_num, PN.out [⟨k, noS, 0, true⟩] ((IT.out (0)).2 HV.out), O1.out, B1.out⟩
              case measure => simp [RowKit.intOf]; omega
            · have z5 : (f0 == 5) = false := by simp [h5]
              by_cases h4 : f0 = 4
              · have z4 : (f0 == 4) = true := by simp [h4]
                have HV := Lib.hid (show max 0 (cut f8) = if f0 = 6 ∨ f0 = 7 ∨ f0 = 5 then 0 else if f0 = 4 then max 0 (cut f8) else cut f8 by rw [if_neg (by omega), if_pos h4])
                clear h4 h6 h7 h5 h1
                go_wp2_with (first | (go_at_call 17; refine (Cut_c _ _).mono ?_; rintro e w' ⟨rfl, rfl⟩) | (at_builtin; go_loud (refine Kd.R_append (kPt ad) (w0 := w) w.heap.size rfl (.tmp 85) (.tmp 95) 56 72 _ 48 rfl Try.underlying56 infoP rfl (by show 0 < 5; omega) (by decide) _ ps ⟨k, noS, max 0 (cut f8), true⟩ (ptV ad ⟨k, noS, max 0 (cut f8), true⟩) (fun _ => True) (fun _ => False) rfl (by show Value.slice (some ⟨wr.heap.size, 0, none⟩) 1 1 = _; rfl) (pt_M _ _ _ _ _) (fun _ h => h.elim) (fun _ _ => trivial) hR.out hB.out hB.out.size (by omega) ?_); intro v1 w1 hO1 hB1 hG1 hat1; have O1 := Lib.hid hO1; have B1 := Lib.hid hB1; clear hO1 hB1 hG1 hat1))
                go_roundw
                case rel => exact ⟨k + 1, ps ++ [(⟨k, noS, max 0 (cut f8), true⟩ : Pt)], by omega, by go_num, PN.out [⟨k, noS, max 0 (cut f8), true⟩] ((IT.out (max 0 (cut f8))).2 HV.out), O1.out, B1.out⟩
                case measure => simp [RowKit.intOf]; omega
              · have z4 : (f0 == 4) = false := by simp [h4]
                have HV := Lib.hid (show cut f8 = if f0 = 6 ∨ f0 = 7 ∨ f0 = 5 then 0 else if f0 = 4 then max 0 (cut f8) else cut f8 by rw [if_neg (by omega), if_neg h4])
                clear h4 h6 h7 h5 h1
                go_wp2_with (first | (go_at_call 17; refine (Cut_c _ _).mono ?_; rintro e w' ⟨rfl, rfl⟩) | (at_builtin; go_loud (refine Kd.R_append (kPt ad) (w0 := w) w.heap.size rfl (.tmp 21) (.tmp 30) 56 72 _ 48 rfl Try.underlying56 infoP rfl (by show 0 < 5; omega) (by decide) _ ps ⟨k, noS, cut f8, true⟩ (ptV ad ⟨k, noS, cut f8, true⟩) (fun _ => True) (fun _ => False) rfl (by show Value.slice (some ⟨wr.heap.size, 0, none⟩) 1 1 = _; rfl) (pt_M _ _ _ _ _) (fun _ h => h.elim) (fun _ _ => trivial) hR.out hB.out hB.out.size (by omega) ?_); intro v1 w1 hO1 hB1 hG1 hat1; have O1 := Lib.hid hO1; have B1 := Lib.hid hB1; clear hO1 hB1 hG1 hat1))
                go_roundw
                case rel => exact ⟨k + 1, ps ++ [(⟨k, noS, cut f8, true⟩ : Pt)], by omega, by go_num, PN.out [⟨k, noS, cut f8, true⟩] ((IT.out (cut f8)).2 HV.out), O1.out, B1.out⟩
                case measure => simp [RowKit.intOf]; omega
    · obtain rfl : k = n := by omega
      have hP' := hP.out
      have PP : Hid (PartsTo Pc l l.length ps) := Lib.hid (by rw [LN.out]; exact hP')
      clear hP' hP
      go_wp2_with fail
      go_ret
      exact ⟨_, ps, rfl, hR.out, PP.out, hB.out⟩
end Go.Proofs.Ytmkgapdadandmaa.Lin
