/- Package breaks: the places of "a b". -/
import Derived.Test.YtmkgapdadandmaaBreaksAll
namespace Go.Proofs.Ytmkgapdadandmaa.Brk
open Go.RowKit Go.Lib Go.Proofs.Ytmkgapdadandmaa.Pl Go.Proofs.Ytmkgapdadandmaa.Fx Go.Proofs.YtmkgapdadandmaaW.PrintWords Go.Proofs.YtmkgapdadandmaaW.PrintLast Go.Proofs.YtmkgapdadandmaaW.PrintMore
set_option linter.unusedVariables false
set_option linter.unusedSimpArgs false
theorem wide_ab (w : World) : Calls Try.prog 72 #[.int .i32 97, .int .i32 32] w fun e w' => e = .returned (.bool false) ∧ w = w' := by
  go_enter Try.func72, Try.ntmps72
  go_wp2_with fail
  go_ret
  exact ⟨rfl, rfl⟩
theorem may_ab (w : World) : Calls Try.prog 65 #[.int .i32 97, .int .i32 32] w fun e w' => e = .returned (.bool false) ∧ w = w' := by
  go_enter Try.func65, Try.ntmps65
  go_wp2_with (go_at_call 72; refine (wide_ab _).mono ?_; rintro e w' ⟨rfl, rfl⟩)
  go_ret
  exact ⟨rfl, rfl⟩
theorem may_bc (w : World) : Calls Try.prog 65 #[.int .i32 32, .int .i32 98] w fun e w' => e = .returned (.bool true) ∧ w = w' := by
  go_enter Try.func65, Try.ntmps65
  go_wp2_with fail
  go_ret
  exact ⟨rfl, rfl⟩
/-- The text "a b". -/
def ab : ByteArray := ⟨#[97, 32, 98]⟩
theorem ab_size : ab.size = 3 := rfl
/-- Where the round stands. -/
def AtAb (p : Nat) (last : Int) (us : List Br) : Prop :=
  (p = 0 ∧ last = 0 ∧ us = []) ∨ (p = 1 ∧ last = 97 ∧ us = []) ∨ (p = 2 ∧ last = 32 ∧ us = []) ∨ (p = 3 ∧ last = 98 ∧ us = [⟨2, false⟩])
def AbPost (w : World) (e : Ending) (w' : World) : Prop := ∃ v, e = .returned v ∧ Kd.R k93 93 w' w.heap.size (fun _ => True) v [⟨2, false⟩] ∧ Below w.heap.size w w'
set_option maxRecDepth 100000 in
set_option maxHeartbeats 2000000 in
theorem All_ab (w : World) : Calls Try.prog 50 #[.string ab, .int .i64 0] w (AbPost w) := by
  have b0 : (w.iter ab 0).heap[w.heap.size]? = some (.stringIter ab 0) := World.iter_heap w ab 0
  have b1 : Below w.heap.size w (w.iter ab 0) := below_alloc (Below.refl _ _) _
  have B0 := Lib.hid b0
  have B1 := Lib.hid b1
  clear b0 b1
  generalize hW : w.iter ab 0 = W at *
  have HW := Lib.hid hW
  clear hW
  obtain ⟨s, hs⟩ : ∃ s, s = ab := ⟨_, rfl⟩
  rw [← hs] at HW B0 ⊢
  have HS := Lib.hid hs
  clear hs
  go_enter Try.func50, Try.ntmps50
  go_wp2_with fail
  rw [HW.out]
  obtain ⟨b, hb⟩ : ∃ b, w.heap.size = b := ⟨_, rfl⟩
  rw [hb] at B0 B1 ⊢
  have HB := Lib.hid hb
  clear hb
  go_loopw [7, 8] (fun v l wr => ∃ (pos : Nat) (last : Int) (us : List Br), l = .int .i32 last ∧ Hid (wr.heap[b]? = some (.stringIter s pos)) ∧ Hid (Kd.R k93 93 wr (b + 1) (fun k => b < k) v us) ∧ Hid (AtAb pos last us) ∧ Hid (Below b w wr)) (fun _ _ wr => s.size - wr.iterPos b)
  case atStart => exact ⟨0, 0, [], rfl, B0.out, Kd.R_nil _ _ _ _ _, .inl ⟨rfl, rfl, rfl⟩, B1.out⟩
  case round =>
    obtain ⟨pos, last, us, rfl, hI, hR, hT, hBw⟩ := hrel
    have step : ∀ (q : Nat) (r : Nat), pos < s.size → Utf8.decode s pos = (r, q) → ∃ V, (∀ ty, (Instr.next (.pointer (some ⟨b, 0, none⟩)) true ty).run Try.prog wr = .ok (.tuple #[.bool true, .int .i64 pos, .int .i32 r]) V) ∧ V.heap[b]? = some (.stringIter s (pos + q)) ∧ Kd.R k93 93 V (b + 1) (fun k => b < k) u7 us ∧ Below b w V := fun q r hp hd =>
      ⟨wr.iterAt b s (pos + q), fun ty => by have := run_next_any_at (P := Try.prog) wr b s pos ty hI.out hp; rw [hd] at this; exact this, iterAt_heap wr b s pos _ hI.out, Kd.R_step hR.out (fun k hk _ => iterAt_other wr b k s _ (by omega)), below_iterAt hBw.out (Nat.le_refl _) _ _⟩
    have hz : s.size = 3 := by rw [HS.out]; rfl
    rcases hT.out with ⟨rfl, rfl, rfl⟩ | ⟨rfl, rfl, rfl⟩ | ⟨rfl, rfl, rfl⟩ | ⟨rfl, rfl, rfl⟩
    · obtain ⟨V, hnx, hVI, hVR, hVB⟩ := step 1 97 (by omega) (by rw [HS.out]; decide)
      have VI := Lib.hid hVI
      have VR := Lib.hid hVR
      have VB := Lib.hid hVB
      have hms : s.size - V.iterPos b < s.size - wr.iterPos b := by rw [iterPos_of hVI, iterPos_of hI.out]; omega
      have MS := Lib.hid hms
      clear hVI hVR hVB hms step hz
      go_wp2_with fail
      exact ⟨⟨1, 97, [], rfl, VI.out, VR.out, .inr (.inl ⟨rfl, rfl, rfl⟩), VB.out⟩, MS.out⟩
    · obtain ⟨V, hnx, hVI, hVR, hVB⟩ := step 1 32 (by omega) (by rw [HS.out]; decide)
      have VI := Lib.hid hVI
      have VR := Lib.hid hVR
      have VB := Lib.hid hVB
      have hms : s.size - V.iterPos b < s.size - wr.iterPos b := by rw [iterPos_of hVI, iterPos_of hI.out]; omega
      have MS := Lib.hid hms
      clear hVI hVR hVB hms step hz
      go_wp2_with (go_at_call 65; refine (may_ab _).mono ?_; rintro e w' ⟨rfl, rfl⟩)
      exact ⟨⟨2, 32, [], rfl, VI.out, VR.out, .inr (.inr (.inl ⟨rfl, rfl, rfl⟩)), VB.out⟩, MS.out⟩
    · obtain ⟨V, hnx, hVI, hVR, hVB⟩ := step 1 98 (by omega) (by rw [HS.out]; decide)
      have VI := Lib.hid hVI
      have VR := Lib.hid hVR
      have VB := Lib.hid hVB
      have hms : ∀ w1 : World, w1.heap[b]? = some (.stringIter s 3) → s.size - w1.iterPos b < s.size - wr.iterPos b := fun w1 h1 => by rw [iterPos_of h1, iterPos_of hI.out]; omega
      have MS := Lib.hid hms
      clear hVI hVR hVB hms step hz
      go_wp2_with (first
        | (go_at_call 65; refine (may_bc _).mono ?_; rintro e w' ⟨rfl, rfl⟩)
        | (at_builtin; (refine Kd.R_append k93 (w0 := V) (b + 1) rfl (.tmp 46) (.tmp 50) 90 93 _ 16 rfl Try.underlying90 infoB rfl (by decide) (by decide) _ [] ⟨2, false⟩ [.int .i64 2, .bool false] (fun k => b < k) (fun _ => False) rfl rfl (k93_mkM _ _ _ ⟨2, false⟩) (fun _ h => h.elim) (fun k hk => by have := blk_lt VI.out; omega) VR.out (Below.refl _ _) (by have := blk_lt VI.out; omega) (by simp) ?_); intro v1 w1 hO1 hB1 hG1 hat1; have O1 := Lib.hid hO1; have B1' := Lib.hid hB1; clear hO1 hB1 hG1 hat1))
      exact ⟨⟨3, 98, [⟨2, false⟩], rfl, (B1'.out.block b (by omega)).trans VI.out, O1.out, .inr (.inr (.inr ⟨rfl, rfl, rfl⟩)), VB.out.trans (B1'.out.mono (by omega))⟩, MS.out _ ((B1'.out.block b (by omega)).trans VI.out)⟩
    · have hnx : ∀ ty, (Instr.next (.pointer (some ⟨b, 0, none⟩)) true ty).run Try.prog wr = .ok (.tuple #[.bool false]) wr := fun ty => run_next_end_at wr b s 3 ty hI.out (by omega)
      clear step hz
      go_wp2_with fail
      go_ret
      exact ⟨_, rfl, by rw [HB.out]; exact Kd.R_mono (Kd.R_lower hR.out (by omega)) (fun _ _ => trivial), by rw [HB.out]; exact hBw.out⟩
end Go.Proofs.Ytmkgapdadandmaa.Brk
