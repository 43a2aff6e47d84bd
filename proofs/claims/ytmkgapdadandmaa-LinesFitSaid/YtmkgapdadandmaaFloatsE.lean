/- Package floats: Edges, All (no walk of Clear). -/
import Derived.Test.YtmkgapdadandmaaFloats
namespace Go.Proofs.Ytmkgapdadandmaa.Fl
open Go.RowKit Go.Proofs.Ytmkgapdadandmaa.Pl Go.Proofs.Ytmkgapdadandmaa.Fx Go.Proofs.YtmkgapdadandmaaW.PrintWords Go.Proofs.YtmkgapdadandmaaW.PrintLast Go.Proofs.YtmkgapdadandmaaW.PrintMore
set_option linter.unusedVariables false
set_option linter.unusedSimpArgs false
attribute [local go_sem] mx2 mn2 mx_two mn_two mx_three mn_three

theorem Edges_c (g : Nat) (width : Int) (l : List F) (y h : Int) (w : World) (hI : IsF w g width l) (hok : ∀ f, f ∈ l → okF f) (hlen : (l.length : Int) ≤ 1000000) :
    Calls Try.prog 48 #[.pointer (some ⟨g, 0, none⟩), .int .i64 y, .int .i64 h] w fun e w' => e = .returned (.tuple #[.int .i64 (edges width l (cut y) (cut h)).1, .int .i64 (edges width l (cut y) (cut h)).2.1]) ∧ Below w.heap.size w w' := by
  have hy : fits (cut y) := by have := cut_bd y; unfold fits; omega
  have hh : fits (cut h) := by have := cut_bd h; unfold fits; omega
  have HK := Lib.hid hok
  have HI := Lib.hid hI
  have HY := Lib.hid hy
  have HH := Lib.hid hh
  clear hok hI hy hh
  go_enter Try.func48, Try.ntmps48
  go_wp2_with (first
    | (go_at_call 17; refine (Cut_c _ _).mono ?_; rintro e w' ⟨rfl, rfl⟩)
    | (go_at_call 63; refine (edges_c g width l _ _ _ HI.out HK.out HY.out HH.out hlen).mono ?_; rintro e w' ⟨rfl, hB⟩))
  go_ret2
  exact ⟨rfl, hB⟩

abbrev R4 := S97
theorem infoR : (Try.prog.info? 97).map (fun i => (i.zero, i.size, i.bytes)) = some (some (.agg #[.int .i64 0, .int .i64 0, .int .i64 0, .int .i64 0]), k97.sz, 32) := by kernel_rfl

set_option maxHeartbeats 1000000 in
theorem All_c (g : Nat) (width : Int) (l : List F) (w : World) (hI : IsF w g width l) (hlen : (l.length : Int) ≤ 1000000) :
    Calls Try.prog 53 #[.pointer (some ⟨g, 0, none⟩)] w fun e w' => ∃ v, e = .returned v ∧ Kd.R k97 97 w' w.heap.size (fun _ => True) v (l.map fun f => f.f0) ∧ Below w.heap.size w w' := by
  obtain ⟨A, c, h1, h2, h3, h4, h5, h6⟩ := hI.reads
  have H3 := Lib.hid h3
  clear h3 h4 hI
  go_enter Try.func53, Try.ntmps53
  go_wp2
  go_loopw [3, 11] (fun v i wr => ∃ k : Nat, k ≤ l.length ∧ i = .int .i64 k ∧ Hid (Kd.R k97 97 wr w.heap.size (fun _ => True) v ((l.take k).map fun f => f.f0)) ∧ Hid (Below w.heap.size w wr)) (fun _ i _ => l.length - (intOf i).toNat)
  case atStart => exact ⟨0, Nat.zero_le _, rfl, Kd.R_nil _ _ _ _ _, Below.refl _ _⟩
  case round =>
    obtain ⟨k, hk, rfl, hR, hB⟩ := hrel
    by_cases hlt : k < l.length
    · obtain ⟨ad, ea, x0, x1, x2, x3, x4⟩ := at_T106 (Kd.C_below H3.out hB.out) (k : Int) (by omega) (by omega)
      subst ea
      have hsn : (l.take (k + 1)).map (fun f => f.f0) = (l.take k).map (fun f => f.f0) ++ [(rd_T106 l (k : Int)).f0] := by rw [take_snocF l k hlt, List.map_append]; rfl
      have hlk : ((l.take k).map fun f => f.f0).length ≤ k := by rw [List.length_map]; exact List.length_take_le _ _
      rw [Int.toNat_natCast] at x0 x1 x2 x3 x4
      generalize rd_T106 l (k : Int) = f at *
      generalize (l.take k).map (fun f => f.f0) = us at *
      have SN := Lib.hid hsn
      clear hsn
      go_wp2_with (at_builtin; go_loud (refine Kd.R_append k97 (w0 := w) w.heap.size rfl (.tmp 15) (.tmp 18) 94 97 _ 32 rfl Try.underlying94 infoR rfl (by decide) (by decide) _ us f.f0 [.int .i64 f.f0.f0, .int .i64 f.f0.f1, .int .i64 f.f0.f2, .int .i64 f.f0.f3] (fun _ => True) (fun _ => False) rfl (by show Value.slice (some ⟨wr.heap.size + 1, 0, none⟩) 1 1 = _; rw [World.size_alloc]) (k97_mkM _ _ _ f.f0) (fun _ h => h.elim) (fun _ _ => trivial) (Kd.R_below hR.out (below_alloc (Below.refl _ _) _)) (below_alloc hB.out _) (by have := hB.out.size; simp; omega) (by omega) ?_); intro v1 w1 hO1 hB1 hG1 hat1; have O1 := Lib.hid hO1; have B1 := Lib.hid hB1; clear hO1 hB1 hG1 hat1)
      go_roundw
      case rel => exact ⟨k + 1, by omega, by go_num, by rw [SN.out]; exact O1, B1⟩
      case measure => simp [intOf]; omega
    · have hkn : l.take k = l := List.take_of_length_le (by omega)
      rw [hkn] at hR
      clear hkn
      go_wp2
      go_ret
      exact ⟨_, rfl, hR.out, hB.out⟩
end Go.Proofs.Ytmkgapdadandmaa.Fl
