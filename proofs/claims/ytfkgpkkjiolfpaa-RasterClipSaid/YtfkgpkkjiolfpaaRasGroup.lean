/- A list within a group, drawn. -/
import Derived.Test.YtfkgpkkjiolfpaaRasSmall
import Derived.Test.YtfkgpkkjiolfpaaRasParts
namespace Go.Proofs.Ytfkgpkkjiolfpaa.Ras
open Go.RowKit Go.Lib Go.Proofs.Ytfkgpkkjiolfpaa.Blk Go.Proofs.Ytfkgpkkjiolfpaa.Rgn Go.Proofs.Ytfkgpkkjiolfpaa.Pl Go.Proofs.Ytfkgpkkjiolfpaa.Fx Go.Proofs.Ytfkgpkkjiolfpaa.Fnt Go.Proofs.YtfkgpkkjiolfpaaW.PrintWords Go.Proofs.YtfkgpkkjiolfpaaW.PrintLast Go.Proofs.YtfkgpkkjiolfpaaW.PrintMore
set_option linter.unusedVariables false
set_option linter.unusedSimpArgs false
attribute [local go_sem] mx2 mn2 mx_two mn_two mx_three mn_three

theorem k_M (W : World) (base : Nat) (okp : Nat → Prop) : ∀ x cs, k65.K W x cs → k65.M W base okp x cs := fun x cs h => by
  rw [k65_open h]
  exact k65_mkM W base okp x
def GrpPost (L : List Cm) (N : Nat) (w : World) (e : Ending) (w' : World) : Prop :=
  (∃ k, flatP L = .error k ∧ e = .returned (.slice none 0 0) ∧ Below w.heap.size w w') ∨
  (∃ out v, flatP L = .ok out ∧ e = .returned v ∧ w'.ownsRow w.heap.size 3 1 v (N * N) (nums .i64 (drawP out N N)) ∧ Below w.heap.size w w')
set_option maxRecDepth 100000 in
set_option maxHeartbeats 2000000 in
theorem group_c (p : Addr) (m : Int) (A : Option Addr) (n c : Nat) (l : List Cm) (w : World) (hp : w.cell? p = some (.slice A n c)) (hC : Kd.C k65 w A n l) (hn : n ≤ 20) (ht : ∀ x, x ∈ l → x.f8.size ≤ 10) :
    Calls Try.prog 35 #[.int .i64 m, .pointer (some p)] w (GrpPost (([grp m] ++ l) ++ [endC]) 6 w) := by
  obtain ⟨L, hL⟩ : ∃ L, L = ([grp m] ++ l) ++ [endC] := ⟨_, rfl⟩
  rw [← hL]
  have hln : l.length = n := hC.1
  have hpl : p.block < w.heap.size := World.block_lt_of_cell? w p hp
  have hal := below_alloc (Below.refl w.heap.size w) (.cells (([grp m] : List Cm).flatMap cmV).toArray 65)
  have HO := Lib.hid (lit_cm w w.heap.size [grp m] (Nat.le_refl _) (by simp))
  have HC := Lib.hid (Kd.C_below hC hal)
  have HB := Lib.hid hal
  have HT := Lib.hid ht
  have LN := Lib.hid hln
  have HL := Lib.hid hL
  clear hC hal ht hln hL
  go_enter Try.func35, Try.ntmps35
  go_wp2_with (first
    | (at_builtin; go_loud (refine Kd.R_append_rows k65 (Rr := k65.K (w.alloc (.cells (([grp m] : List Cm).flatMap cmV).toArray 65))) (w0 := w) (W := w.alloc (.cells (([grp m] : List Cm).flatMap cmV).toArray 65)) w.heap.size rfl (.tmp 9) (.tmp 10) 28 65 _ 80 rfl Try.underlying28 infoC rfl (by decide) (by decide) (.slice (some ⟨w.heap.size, 0, none⟩) 1 1) [grp m] l A n c (fun _ => True) (fun _ => False) rfl rfl HO.out HC.out (k_M _ _ _) (fun _ h => h.elim) (fun _ _ => trivial) HB.out HB.out.size (by simp; omega) ?_); intro v1 w1 hO1 hB1 hG1 hat1; have O1 := Lib.hid hO1; have B1 := Lib.hid hB1; clear hO1 hB1 hG1 hat1)
    | (at_builtin; go_loud (refine Kd.R_append k65 (w0 := w) w.heap.size rfl (.tmp 11) (.tmp 13) 28 65 _ 80 rfl Try.underlying28 infoC rfl (by decide) (by decide) _ ([grp m] ++ l) endC (cmV endC) (fun _ => True) (fun _ => False) rfl rfl (k65_mkM _ _ _ endC) (fun _ h => h.elim) (fun _ _ => trivial) O1.out B1.out B1.out.size (by rw [List.length_append, LN.out]; simp; omega) ?_); intro v2 w2 hO2 hB2 hG2 hat2; rw [← HL.out] at hO2; have O2 := Lib.hid hO2; have B2 := Lib.hid hB2; clear hO2 hB2 hG2 hat2 O1 B1))
  have hLl : L.length ≤ 22 := by rw [HL.out]; simp only [List.length_append, List.length_singleton, LN.out]; omega
  have hLt : ∀ x, x ∈ L → x.f8.size ≤ 1000 := fun x hx => by
    rw [HL.out] at hx
    rcases List.mem_append.1 hx with hx | hx
    · rcases List.mem_append.1 hx with hx | hx
      · rw [List.mem_singleton] at hx; subst hx; exact Nat.zero_le _
      · have := HT.out x hx; omega
    · rw [List.mem_singleton] at hx; subst hx; exact Nat.zero_le _
  obtain ⟨A2, c2, rfl, _, hC2⟩ := Kd.R_reads O2.out
  have D := Lib.hid (Draw_c A2 L.length c2 L 6 6 w2 hC2 (by omega) hLt (by decide) (by decide))
  clear hLl hLt hC2
  refine D.out.mono ?_
  rintro e w3 (⟨k, h1, h0, rfl, h2⟩ | ⟨out, v, h1, rfl, h2, h3⟩)
  · have POST : Hid (GrpPost L 6 w (.returned (.slice none 0 0)) w3) := Lib.hid (.inl ⟨k, h1, rfl, below_then B2.out B2.out.size h2⟩)
    clear h1 h2 h0
    go_wp2_with fail
    go_ret
    exact POST.out
  · have POST : Hid (GrpPost L 6 w (.returned v) w3) := Lib.hid (.inr ⟨out, v, h1, rfl, own_weaken h2 B2.out.size, below_then B2.out B2.out.size h3⟩)
    clear h1 h2 h3
    go_wp2_with fail
    go_ret
    exact POST.out
end Go.Proofs.Ytfkgpkkjiolfpaa.Ras
