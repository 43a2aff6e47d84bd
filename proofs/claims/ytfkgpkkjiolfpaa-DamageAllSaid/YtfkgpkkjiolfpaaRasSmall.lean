/- Small pictures: at most 20 commands of short texts. -/
import Derived.Test.YtfkgpkkjiolfpaaRasLaw0
namespace Go.Proofs.Ytfkgpkkjiolfpaa.Ras
open Go.RowKit Go.Lib Go.Proofs.Ytfkgpkkjiolfpaa.Blk Go.Proofs.Ytfkgpkkjiolfpaa.Rgn Go.Proofs.Ytfkgpkkjiolfpaa.Pl Go.Proofs.Ytfkgpkkjiolfpaa.Fx Go.Proofs.Ytfkgpkkjiolfpaa.Fnt Go.Proofs.YtfkgpkkjiolfpaaW.PrintWords Go.Proofs.YtfkgpkkjiolfpaaW.PrintLast Go.Proofs.YtfkgpkkjiolfpaaW.PrintMore
set_option linter.unusedVariables false
set_option linter.unusedSimpArgs false
attribute [local go_sem] mx2 mn2 mx_two mn_two mx_three mn_three

def cutC (c : Cm) : Cm := if 10 < c.f8.size then ⟨c.f0, c.f1, c.f2, c.f3, c.f4, c.f5, c.f6, c.f7, ⟨#[]⟩⟩ else c
def smallP (l : List Cm) : List Cm := (l.take 20).map cutC
theorem small_len (l : List Cm) : (smallP l).length ≤ 20 := by unfold smallP; rw [List.length_map]; exact List.length_take_le _ _
theorem small_text (l : List Cm) : ∀ x, x ∈ smallP l → x.f8.size ≤ 10 := fun x hx => by
  unfold smallP at hx
  obtain ⟨y, _, rfl⟩ := List.mem_map.1 hx
  unfold cutC
  split
  · exact Nat.zero_le _
  · omega
theorem infoC : (Try.prog.info? 65).map (fun i => (i.zero, i.size, i.bytes)) = some (some (.agg #[.int .i64 0, .int .i64 0, .int .i64 0, .int .i64 0, .int .i64 0, .int .i64 0, .int .i64 0, .int .i64 0, .string ⟨#[]⟩]), k65.sz, 80) := by kernel_rfl
def SmallPost (l : List Cm) (w : World) (e : Ending) (w' : World) : Prop := ∃ v, e = .returned v ∧ Kd.R k65 65 w' w.heap.size (fun _ => True) v (smallP l) ∧ Below w.heap.size w w'
set_option maxRecDepth 100000 in
set_option maxHeartbeats 2000000 in
theorem small_c (A : Option Addr) (n c : Nat) (l : List Cm) (w : World) (hC : Kd.C k65 w A n l) (hc : n ≤ c) :
    Calls Try.prog 30 #[.slice A n c] w (SmallPost l w) := by
  have hln : l.length = n := hC.1
  have hlm : n ≤ 9223372036854775807 := hC.2.1
  obtain ⟨m, em, q0, r0⟩ : ∃ m : Nat, min (n : Int) 20 = (m : Int) ∧ m ≤ n ∧ (m : Int) ≤ 20 := ⟨min n 20, by omega, by omega, by omega⟩
  have hmt : l.take m = l.take 20 := by
    by_cases h : n ≤ 20
    · rw [List.take_of_length_le (by omega), List.take_of_length_le (by omega)]
    · rw [show m = 20 by omega]
  have MT := Lib.hid hmt
  have LN := Lib.hid hln
  have HC := Lib.hid hC
  clear hC hln hmt
  go_enter Try.func30, Try.ntmps30
  go_wp2_with fail
  go_loopw [3, 12] (fun v i wr => ∃ k : Nat, k ≤ m ∧ i = .int .i64 k ∧ Hid (Kd.R k65 65 wr w.heap.size (fun _ => True) v ((l.take k).map cutC)) ∧ Hid (Below w.heap.size w wr)) (fun _ i _ => m - (RowKit.intOf i).toNat)
  case atStart => exact ⟨0, Nat.zero_le _, rfl, Kd.R_nil _ _ _ _ _, Below.refl _ _⟩
  case round =>
    obtain ⟨k, hk, rfl, hR, hB⟩ := hrel
    by_cases hlt : k < m
    · have hkl : k < l.length := by rw [LN.out]; omega
      obtain ⟨ad, ea, x0, x1, x2, x3, x4, x5, x6, x7, x8⟩ := at_T65 (Kd.C_below HC.out hB.out) (k : Int) (by omega) (by omega)
      subst ea
      rw [Int.toNat_natCast] at x0 x1 x2 x3 x4 x5 x6 x7 x8
      have hsn : (l.take (k + 1)).map cutC = (l.take k).map cutC ++ [cutC (rd_T65 l (k : Int))] := by
        have e : rd_T65 l (k : Int) = l[k] := by simp [rd_T65, List.getD_eq_getElem?_getD, hkl]
        rw [e, List.take_succ_eq_append_getElem hkl, List.map_append]; rfl
      have hlk : ((l.take k).map cutC).length ≤ k := by rw [List.length_map]; exact List.length_take_le _ _
      generalize rd_T65 l (k : Int) = x at *
      generalize (l.take k).map cutC = us at *
      obtain ⟨a0, a1, a2, a3, a4, a5, a6, a7, s⟩ := x
      simp only at x0 x1 x2 x3 x4 x5 x6 x7 x8 hsn
      by_cases hl : 10 < s.size
      · have hme : cutC ⟨a0, a1, a2, a3, a4, a5, a6, a7, s⟩ = ⟨a0, a1, a2, a3, a4, a5, a6, a7, ⟨#[]⟩⟩ := by unfold cutC; rw [if_pos hl]
        rw [hme] at hsn
        have SN := Lib.hid hsn
        have n1 : decide ((10 : Int) < (s.size : Int)) = true := decide_eq_true (by omega)
        have hal : Below wr.heap.size wr (wr.alloc (.cells #[.int .i64 a0, .int .i64 a1, .int .i64 a2, .int .i64 a3, .int .i64 a4, .int .i64 a5, .int .i64 a6, .int .i64 a7, .string ⟨#[]⟩] 65)) := below_alloc (Below.refl wr.heap.size wr) _
        have RA := Lib.hid (Kd.R_below hR.out hal)
        have BA := Lib.hid (below_then hB.out hB.out.size hal)
        clear hsn hme hkl hal hR hB hl
        go_wp2_with (at_builtin; go_loud (refine Kd.R_append k65 (w0 := w) w.heap.size rfl (.tmp 21) (.tmp 23) 28 65 _ 80 rfl Try.underlying28 infoC rfl (by decide) (by decide) _ us ⟨a0, a1, a2, a3, a4, a5, a6, a7, ⟨#[]⟩⟩ [.int .i64 a0, .int .i64 a1, .int .i64 a2, .int .i64 a3, .int .i64 a4, .int .i64 a5, .int .i64 a6, .int .i64 a7, .string ⟨#[]⟩] (fun _ => True) (fun _ => False) rfl (by show Value.slice (some ⟨wr.heap.size + 1, 0, none⟩) 1 1 = _; simp [World.size_alloc]) (k65_mkM _ _ _ _) (fun _ h => h.elim) (fun _ _ => trivial) RA.out BA.out BA.out.size (by omega) ?_); intro v1 w1 hO1 hB1 hG1 hat1; have O1 := Lib.hid hO1; have B1 := Lib.hid hB1; clear hO1 hB1 hG1 hat1)
        exact ⟨⟨k + 1, by omega, by go_num, by rw [SN.out]; exact O1.out, B1.out⟩, by simp [RowKit.intOf]; omega⟩
      · have hme : cutC ⟨a0, a1, a2, a3, a4, a5, a6, a7, s⟩ = ⟨a0, a1, a2, a3, a4, a5, a6, a7, s⟩ := by unfold cutC; rw [if_neg hl]
        rw [hme] at hsn
        have SN := Lib.hid hsn
        have n1 : decide ((10 : Int) < (s.size : Int)) = false := decide_eq_false (by omega)
        have hal : Below wr.heap.size wr (wr.alloc (.cells #[.int .i64 a0, .int .i64 a1, .int .i64 a2, .int .i64 a3, .int .i64 a4, .int .i64 a5, .int .i64 a6, .int .i64 a7, .string s] 65)) := below_alloc (Below.refl wr.heap.size wr) _
        have RA := Lib.hid (Kd.R_below hR.out hal)
        have BA := Lib.hid (below_then hB.out hB.out.size hal)
        clear hsn hme hkl hal hR hB hl
        go_wp2_with (at_builtin; go_loud (refine Kd.R_append k65 (w0 := w) w.heap.size rfl (.tmp 21) (.tmp 23) 28 65 _ 80 rfl Try.underlying28 infoC rfl (by decide) (by decide) _ us ⟨a0, a1, a2, a3, a4, a5, a6, a7, s⟩ [.int .i64 a0, .int .i64 a1, .int .i64 a2, .int .i64 a3, .int .i64 a4, .int .i64 a5, .int .i64 a6, .int .i64 a7, .string s] (fun _ => True) (fun _ => False) rfl (by show Value.slice (some ⟨wr.heap.size + 1, 0, none⟩) 1 1 = _; simp [World.size_alloc]) (k65_mkM _ _ _ _) (fun _ h => h.elim) (fun _ _ => trivial) RA.out BA.out BA.out.size (by omega) ?_); intro v1 w1 hO1 hB1 hG1 hat1; have O1 := Lib.hid hO1; have B1 := Lib.hid hB1; clear hO1 hB1 hG1 hat1)
        exact ⟨⟨k + 1, by omega, by go_num, by rw [SN.out]; exact O1.out, B1.out⟩, by simp [RowKit.intOf]; omega⟩
    · obtain rfl : k = m := by omega
      rw [MT.out] at hR
      have POST : Hid (SmallPost l w (.returned u3) wr) := Lib.hid ⟨_, rfl, hR.out, hB.out⟩
      go_wp2_with fail
      go_ret
      exact POST.out
end Go.Proofs.Ytfkgpkkjiolfpaa.Ras
