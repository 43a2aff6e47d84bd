/- Package font: Width: what a text comes to. Texts of up to a thousand bytes, every size, spacing and room. -/
import Derived.Test.YtmkgapdadandmaaFont
import Derived.Test.YtmkgapdadandmaaFontPlain
import Derived.WalkSmall
import Derived.LoopTactic
namespace Go.Proofs.Ytmkgapdadandmaa.Fnt
open Go.RowKit Go.Lib Go.Proofs.Ytmkgapdadandmaa.Pl Go.Proofs.Ytmkgapdadandmaa.Fx Go.Proofs.YtmkgapdadandmaaW.PrintWords Go.Proofs.YtmkgapdadandmaaW.PrintMore
set_option linter.unusedVariables false
set_option linter.unusedSimpArgs false
attribute [local go_sem] mx2 mn2 mx_two mn_two mx_three mn_three

theorem prt_bd (n up down : Int) : -16777216 ≤ prt n up down ∧ prt n up down ≤ 16777216 := by
  unfold prt
  split
  · omega
  · exact cut_bd _
/-- How wide a rune is, with its spacing. -/
def rwt (size sp : Int) (r : Nat) : Int := adv (r : Int) size + cut sp
theorem rwt_bd (size sp : Int) (r : Nat) : -33554432 ≤ rwt size sp r ∧ rwt size sp r ≤ 33554432 := by
  have h1 := cut_bd sp
  have h2 := prt_bd (sz size) (fou (r : Int)) 4
  unfold rwt adv
  omega
theorem drop_ne {s : ByteArray} {pos : Nat} (h : pos < s.size) : s.data.toList.drop pos ≠ [] := by
  intro e
  have := congrArg List.length e
  rw [List.length_drop, ← Lib.size_eq] at this
  simp at this
  omega
theorem drop_end {s : ByteArray} {pos : Nat} (h : ¬ pos < s.size) : s.data.toList.drop pos = [] :=
  List.drop_eq_nil_of_le (by rw [← Lib.size_eq]; omega)
/-- What all up to a place comes to. -/
def Upto (size sp : Int) (s : ByteArray) (pos : Nat) (a : Int) : Prop := a + wsum (rwt size sp) (s.data.toList.drop pos) = wsum (rwt size sp) s.data.toList
theorem upto_zero (size sp : Int) (s : ByteArray) : Upto size sp s 0 0 := by unfold Upto; rw [List.drop_zero]; omega
theorem upto_bd {size sp : Int} {s : ByteArray} {pos : Nat} {a : Int} (h : Upto size sp s pos a) (hs : s.size ≤ 1000) : -67108864000 ≤ a ∧ a ≤ 67108864000 := by
  have h1 := wsum_bd (rwt size sp) 33554432 (by omega) (rwt_bd size sp) 1000 (s.data.toList.drop pos) (by rw [List.length_drop, ← Lib.size_eq]; omega)
  have h2 := wsum_bd (rwt size sp) 33554432 (by omega) (rwt_bd size sp) 1000 s.data.toList (by rw [← Lib.size_eq]; omega)
  unfold Upto at h
  omega
theorem upto_step {size sp : Int} {s : ByteArray} {pos : Nat} {a : Int} (h : Upto size sp s pos a) (hp : pos < s.size) : Upto size sp s (pos + (Utf8.decode s pos).2) (a + (adv ((Utf8.decode s pos).1 : Int) size + cut sp)) := by
  unfold Upto at h ⊢
  rw [wsum_step _ _ (drop_ne hp), decodeL_drop, List.drop_drop] at h
  unfold rwt at h ⊢
  omega
theorem upto_end {size sp : Int} {s : ByteArray} {pos : Nat} {a : Int} (h : Upto size sp s pos a) (hp : ¬ pos < s.size) : a = wsum (rwt size sp) s.data.toList := by
  unfold Upto at h
  rw [drop_end hp, wsum_nil] at h
  omega
theorem dec_pos (s : ByteArray) (pos : Nat) : 1 ≤ (Utf8.decode s pos).2 := width_pos _ _

set_option maxRecDepth 100000 in
set_option maxHeartbeats 2000000 in
theorem Width_c (s : ByteArray) (size sp : Int) (w : World) (hs : s.size ≤ 1000) :
    Calls Try.prog 15 #[.string s, .int .i64 size, .int .i64 sp] w fun e w' => e = .returned (.int .i64 (cut (wsum (rwt size sp) s.data.toList))) ∧ Below w.heap.size w w' := by
  have HSZ := Lib.hid hs
  clear hs
  have b0 : (w.iter s 0).heap[w.heap.size]? = some (.stringIter s 0) := World.iter_heap w s 0
  have b1 : Below w.heap.size w (w.iter s 0) := below_alloc (Below.refl _ _) _
  have B0 := Lib.hid b0
  have B1 := Lib.hid b1
  clear b0 b1
  generalize hW : w.iter s 0 = W at *
  have HW := Lib.hid hW
  clear hW
  go_enter Try.func15, Try.ntmps15
  go_wp2_with fail
  rw [HW.out]
  obtain ⟨b, hb⟩ : ∃ b, w.heap.size = b := ⟨_, rfl⟩
  rw [hb] at B0 B1 ⊢
  have HB := Lib.hid hb
  clear hb
  go_loopw [7] (fun l wr => ∃ (pos : Nat) (a : Int), l = .int .i64 a ∧ Hid (wr.heap[b]? = some (.stringIter s pos)) ∧ Hid (Upto size sp s pos a) ∧ Hid (Below b w wr)) (fun _ wr => s.size - wr.iterPos b)
  case atStart => exact ⟨0, 0, rfl, B0.out, upto_zero _ _ _, B1.out⟩
  case round =>
    obtain ⟨pos, a, rfl, hI, hT, hBw⟩ := hrel
    by_cases hp : pos < s.size
    · obtain ⟨V, hV, hVI, hVB⟩ : ∃ V, wr.iterAt b s (pos + (Utf8.decode s pos).2) = V ∧ V.heap[b]? = some (.stringIter s (pos + (Utf8.decode s pos).2)) ∧ Below b w V :=
        ⟨_, rfl, iterAt_heap wr b s pos _ hI.out, below_iterAt hBw.out (Nat.le_refl _) _ _⟩
      have hnx : ∀ ty, (Instr.next (.pointer (some ⟨b, 0, none⟩)) true ty).run Try.prog wr = .ok (.tuple #[.bool true, .int .i64 pos, .int .i32 (Utf8.decode s pos).1]) V := fun ty => by rw [← hV]; exact run_next_any_at wr b s pos ty hI.out hp
      have VI := Lib.hid hVI
      have VB := Lib.hid hVB
      have NT := Lib.hid (upto_step hT.out hp)
      have hbd := upto_bd hT.out HSZ.out
      have hdp := dec_pos s pos
      have DP := Lib.hid hdp
      have hc := cut_bd sp
      have ha := prt_bd (sz size) (fou ((Utf8.decode s pos).1 : Int)) 4
      have hav : 0 ≤ 0 ∧ -16777216 ≤ adv ((Utf8.decode s pos).1 : Int) size ∧ adv ((Utf8.decode s pos).1 : Int) size ≤ 16777216 := ⟨by omega, ha⟩
      clear hV hVI hVB hdp ha
      generalize (Utf8.decode s pos).2 = n at *
      generalize hr : (Utf8.decode s pos).1 = r at *
      have ADV := Lib.hid (Advance_c (r : Int) size)
      generalize adv (r : Int) size = av at *
      go_wp2_with fail
      refine (ADV.out _).mono ?_
      rintro e w1 ⟨rfl, hB1⟩
      have HB1 := Lib.hid hB1
      clear hB1
      go_wp2_with (go_at_call 17; refine (Cut_c _ _).mono ?_; rintro e w' ⟨rfl, rfl⟩)
      go_roundw
      case rel => exact ⟨_, _, rfl, (HB1.out.block b (blk_lt VI.out)).trans VI.out, NT.out, below_then VB.out (Nat.le_of_lt (blk_lt VI.out)) HB1.out⟩
      case measure => rw [iterPos_of ((HB1.out.block b (blk_lt VI.out)).trans VI.out), iterPos_of hI.out]; have := DP.out; omega
    · have hnx : ∀ ty, (Instr.next (.pointer (some ⟨b, 0, none⟩)) true ty).run Try.prog wr = .ok (.tuple #[.bool false]) wr := fun ty => run_next_end_at wr b s pos ty hI.out hp
      have HE := Lib.hid (upto_end hT.out hp)
      go_wp2_with (go_at_call 17; refine (Cut_c _ _).mono ?_; rintro e w' ⟨rfl, rfl⟩)
      go_ret
      exact ⟨by rw [HE.out]; rfl, by rw [HB.out]; exact hBw.out⟩
end Go.Proofs.Ytmkgapdadandmaa.Fnt
