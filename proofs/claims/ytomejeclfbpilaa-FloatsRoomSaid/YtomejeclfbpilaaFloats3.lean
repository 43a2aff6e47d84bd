/- Package floats: All. -/
import Derived.Test.YtomejeclfbpilaaFloats2
namespace Go.Proofs.Ytomejeclfbpilaa.Fl
open Go.RowKit Go.Proofs.Ytomejeclfbpilaa.Pl Go.Proofs.Ytomejeclfbpilaa.Fx Go.Proofs.YtomejeclfbpilaaW.PrintWords Go.Proofs.YtomejeclfbpilaaW.PrintLast Go.Proofs.YtomejeclfbpilaaW.PrintMore
set_option linter.unusedVariables false
set_option linter.unusedSimpArgs false
attribute [local go_sem] mx2 mn2 mx_two mn_two mx_three mn_three

abbrev R4 := S39
theorem infoR : (Try.prog.info? 39).map (fun i => (i.zero, i.size, i.bytes)) = some (some (.agg #[.int .i64 0, .int .i64 0, .int .i64 0, .int .i64 0]), k39.sz, 32) := by kernel_rfl

set_option maxHeartbeats 1000000 in
theorem All_c (g : Nat) (width : Int) (l : List F) (w : World) (hI : IsF w g width l) (hlen : (l.length : Int) ≤ 1000000) :
    Calls Try.prog 26 #[.pointer (some ⟨g, 0, none⟩)] w fun e w' => ∃ v, e = .returned v ∧ Kd.R k39 39 w' w.heap.size (fun _ => True) v (l.map fun f => f.f0) ∧ Below w.heap.size w w' := by
  obtain ⟨A, c, h1, h2, h3, h4, h5, h6⟩ := hI.reads
  have H3 := Lib.hid h3
  clear h3 h4 hI
  go_enter Try.func26, Try.ntmps26
  go_wp2
  go_loopw [3, 11] (fun v i wr => ∃ k : Nat, k ≤ l.length ∧ i = .int .i64 k ∧ Hid (Kd.R k39 39 wr w.heap.size (fun _ => True) v ((l.take k).map fun f => f.f0)) ∧ Hid (Below w.heap.size w wr)) (fun _ i _ => l.length - (intOf i).toNat)
  case atStart => exact ⟨0, Nat.zero_le _, rfl, Kd.R_nil _ _ _ _ _, Below.refl _ _⟩
  case round =>
    obtain ⟨k, hk, rfl, hR, hB⟩ := hrel
    by_cases hlt : k < l.length
    · obtain ⟨ad, ea, x0, x1, x2, x3, x4⟩ := at_T80 (Kd.C_below H3.out hB.out) (k : Int) (by omega) (by omega)
      subst ea
      have hsn : (l.take (k + 1)).map (fun f => f.f0) = (l.take k).map (fun f => f.f0) ++ [(rd_T80 l (k : Int)).f0] := by rw [take_snocF l k hlt, List.map_append]; rfl
      have hlk : ((l.take k).map fun f => f.f0).length ≤ k := by rw [List.length_map]; exact List.length_take_le _ _
      rw [Int.toNat_natCast] at x0 x1 x2 x3 x4
      generalize rd_T80 l (k : Int) = f at *
      generalize (l.take k).map (fun f => f.f0) = us at *
      have SN := Lib.hid hsn
      clear hsn
      go_wp2_with (at_builtin; go_loud (refine Kd.R_append k39 (w0 := w) w.heap.size rfl (.tmp 15) (.tmp 18) 35 39 _ 32 rfl Try.underlying35 infoR rfl (by decide) (by decide) _ us f.f0 [.int .i64 f.f0.f0, .int .i64 f.f0.f1, .int .i64 f.f0.f2, .int .i64 f.f0.f3] (fun _ => True) (fun _ => False) rfl (by show Value.slice (some ⟨wr.heap.size + 1, 0, none⟩) 1 1 = _; rw [World.size_alloc]) (k39_mkM _ _ _ f.f0) (fun _ h => h.elim) (fun _ _ => trivial) (Kd.R_below hR.out (below_alloc (Below.refl _ _) _)) (below_alloc hB.out _) (by have := hB.out.size; simp; omega) (by omega) ?_); intro v1 w1 hO1 hB1 hG1 hat1; have O1 := Lib.hid hO1; have B1 := Lib.hid hB1; clear hO1 hB1 hG1 hat1)
      go_roundw
      case rel => exact ⟨k + 1, by omega, by go_num, by rw [SN.out]; exact O1, B1⟩
      case measure => simp [intOf]; omega
    · have hkn : l.take k = l := List.take_of_length_le (by omega)
      rw [hkn] at hR
      clear hkn
      go_wp2
      go_ret
      exact ⟨_, rfl, hR.out, hB.out⟩
end Go.Proofs.Ytomejeclfbpilaa.Fl
