/- Package breaks: All. For every input. -/
import Derived.Test.YtmkgapdadandmaaBreaksPlain
import Derived.OwnWalk
import Derived.LoopTactic
import Derived.WalkSmall
namespace Go.Proofs.Ytmkgapdadandmaa.Brk
open Go.RowKit Go.Lib Go.Proofs.Ytmkgapdadandmaa.Pl Go.Proofs.Ytmkgapdadandmaa.Fx Go.Proofs.YtmkgapdadandmaaW.PrintWords Go.Proofs.YtmkgapdadandmaaW.PrintLast Go.Proofs.YtmkgapdadandmaaW.PrintMore
set_option linter.unusedVariables false
set_option linter.unusedSimpArgs false
theorem infoB : (Try.prog.info? 93).map (fun i => (i.zero, i.size, i.bytes)) = some (some (.agg #[.int .i64 0, .bool false]), k93.sz, 16) := by kernel_rfl
/-- Are line feeds kept? -/
def keepsB (mode : Int) : Bool := decide (mode = 1) || decide (mode = 3)

def AllPost (s : ByteArray) (kp : Bool) (w : World) (e : Ending) (w' : World) : Prop := ∃ v us, e = .returned v ∧ Kd.R k93 93 w' w.heap.size (fun _ => True) v us ∧ Places s kp us ∧ Below w.heap.size w w'

set_option maxRecDepth 100000 in
set_option maxHeartbeats 2000000 in
theorem All_c (s : ByteArray) (mode : Int) (w : World) (hs : s.size ≤ 1000) :
    Calls Try.prog 50 #[.string s, .int .i64 mode] w (AllPost s (keepsB mode) w) := by
  have HSZ := Lib.hid hs
  clear hs
  obtain ⟨kp, wp, hk, hcase⟩ : ∃ kp wp : Bool, keepsB mode = kp ∧ ((mode = 0 ∧ kp = false ∧ wp = true) ∨ (mode = 1 ∧ kp = true ∧ wp = false) ∨ (mode = 3 ∧ kp = true ∧ wp = true) ∨ (mode ≠ 0 ∧ mode ≠ 1 ∧ mode ≠ 3 ∧ kp = false ∧ wp = false)) := by
    by_cases h0 : mode = 0
    · exact ⟨false, true, by subst h0; rfl, .inl ⟨h0, rfl, rfl⟩⟩
    · by_cases h1 : mode = 1
      · exact ⟨true, false, by subst h1; rfl, .inr (.inl ⟨h1, rfl, rfl⟩)⟩
      · by_cases h3 : mode = 3
        · exact ⟨true, true, by subst h3; rfl, .inr (.inr (.inl ⟨h3, rfl, rfl⟩))⟩
        · exact ⟨false, false, by unfold keepsB; rw [decide_eq_false h1, decide_eq_false h3]; rfl, .inr (.inr (.inr ⟨h0, h1, h3, rfl, rfl⟩))⟩
  rw [hk]
  clear hk
  have b0 : (w.iter s 0).heap[w.heap.size]? = some (.stringIter s 0) := World.iter_heap w s 0
  have b1 : Below w.heap.size w (w.iter s 0) := below_alloc (Below.refl _ _) _
  have B0 := Lib.hid b0
  have B1 := Lib.hid b1
  clear b0 b1
  generalize hW : w.iter s 0 = W at *
  have HW := Lib.hid hW
  clear hW
  rcases hcase with ⟨rfl, hkp, -⟩ | ⟨rfl, hkp, -⟩ | ⟨rfl, hkp, -⟩ | ⟨m0, m1, m3, hkp, -⟩
  case' inr.inr.inr =>
    have q0 : (mode == 0) = false := by simpa using m0
    have q1 : (mode == 1) = false := by simpa using m1
    have q3 : (mode == 3) = false := by simpa using m3
    clear m0 m1 m3
  all_goals
    have HKP := Lib.hid hkp
    clear hkp
    go_enter Try.func50, Try.ntmps50
    go_wp2_with fail
    rw [HW.out]
    obtain ⟨b, hb⟩ : ∃ b, w.heap.size = b := ⟨_, rfl⟩
    rw [hb] at B0 B1 ⊢
    have HB := Lib.hid hb
    clear hb
  all_goals
    go_loopw [7, 8] (fun v l wr => ∃ (pos : Nat) (last : Int) (us : List Br), l = .int .i32 last ∧ Hid (wr.heap[b]? = some (.stringIter s pos)) ∧ Hid (Kd.R k93 93 wr (b + 1) (fun k => b < k) v us) ∧ Hid (Told s kp pos last us) ∧ Hid (Below b w wr)) (fun _ _ wr => s.size - wr.iterPos b)
    case atStart => exact ⟨0, 0, [], rfl, B0.out, Kd.R_nil _ _ _ _ _, told_zero s _, B1.out⟩
    case round =>
      obtain ⟨pos, last, us, rfl, hI, hR, hT, hBw⟩ := hrel
      by_cases hp : pos < s.size
      · obtain ⟨V, hV, hVI, hVR, hVB⟩ : ∃ V, wr.iterAt b s (pos + (Utf8.decode s pos).2) = V ∧ V.heap[b]? = some (.stringIter s (pos + (Utf8.decode s pos).2)) ∧ Kd.R k93 93 V (b + 1) (fun k => b < k) u7 us ∧ Below b w V :=
          ⟨_, rfl, iterAt_heap wr b s pos _ hI.out, Kd.R_step hR.out (fun k hk _ => iterAt_other wr b k s _ (by omega)), below_iterAt hBw.out (Nat.le_refl _) _ _⟩
        have hnx : ∀ ty, (Instr.next (.pointer (some ⟨b, 0, none⟩)) true ty).run Try.prog wr = .ok (.tuple #[.bool true, .int .i64 pos, .int .i32 (Utf8.decode s pos).1]) V := fun ty => by rw [← hV]; exact run_next_any_at wr b s pos ty hI.out hp
        obtain ⟨mu, hmu⟩ : ∃ mu : Bool, mu = (decide (0 < pos) && kp && decide (last = 10)) := ⟨_, rfl⟩
        have hle := decode_le s pos
        have hpl : pos ≤ 1000 := by have := HSZ.out; omega
        have hul : us.length ≤ 1000 := by have := hT.out.2.1; omega
        have HPL := Lib.hid hul
        have hclo : ∀ (c : Bool) (w1 : World) (v1 : Value), (mu = true → c = true) → (c = true → 0 < pos) → w1.heap[b]? = some (.stringIter s (pos + (Utf8.decode s pos).2)) → Kd.R k93 93 w1 (b + 1) (fun k => b < k) v1 (if c = true then us ++ [⟨(pos : Int), mu⟩] else us) → Below b w w1 →
            (∃ (pos' : Nat) (last' : Int) (us' : List Br), Value.int .i32 ((Utf8.decode s pos).1 : Int) = .int .i32 last' ∧ Hid (w1.heap[b]? = some (.stringIter s pos')) ∧ Hid (Kd.R k93 93 w1 (b + 1) (fun k => b < k) v1 us') ∧ Hid (Told s kp pos' last' us') ∧ Hid (Below b w w1)) ∧ s.size - w1.iterPos b < s.size - wr.iterPos b :=
          fun c w1 v1 h1 h2 h3 h4 h5 => ⟨⟨_, _, _, rfl, h3, h4, told_step hT.out hp mu c hmu h1 h2, h5⟩, by
            rw [iterPos_of h3, iterPos_of hI.out]
            have := (dec_facts s pos hp).1
            omega⟩
        have CLO := Lib.hid hclo
        have VI := Lib.hid hVI
        have VR := Lib.hid hVR
        have VB := Lib.hid hVB
        have hkp := HKP.out
        rw [hkp] at hmu
        clear hV hclo hVI hVR hVB hI hR hT hBw hul hkp
        generalize (Utf8.decode s pos).2 = n at *
        generalize (Utf8.decode s pos).1 = r at *
        by_cases hpos : 0 < pos
        · by_cases hl : last = 10
          · simp [hpos, hl] at hmu
            subst hmu
            have hq : (last == 10) = true := by simp [hl]
            go_wp2_with (first
              | (go_at_call 65; refine (may_c _ _ _).mono ?_; rintro e w' ⟨c, rfl, rfl⟩)
              | (at_builtin; (refine Kd.R_append k93 (w0 := V) (b + 1) rfl (.tmp 46) (.tmp 50) 90 93 _ 16 rfl Try.underlying90 infoB rfl (by decide) (by decide) _ us ⟨(pos : Int), false⟩ [.int .i64 (pos : Int), .bool false] (fun k => b < k) (fun _ => False) rfl rfl (k93_mkM _ _ _ ⟨(pos : Int), false⟩) (fun _ h => h.elim) (fun k hk => by have := blk_lt VI.out; omega) VR.out (Below.refl _ _) (by have := blk_lt VI.out; omega) (by have := HPL.out; omega) ?_); intro v1 w1 hO1 hB1 hG1 hat1; have O1 := Lib.hid hO1; have B1' := Lib.hid hB1; clear hO1 hB1 hG1 hat1)
              | (at_builtin; (refine Kd.R_append k93 (w0 := V) (b + 1) rfl (.tmp 46) (.tmp 50) 90 93 _ 16 rfl Try.underlying90 infoB rfl (by decide) (by decide) _ us ⟨(pos : Int), true⟩ [.int .i64 (pos : Int), .bool true] (fun k => b < k) (fun _ => False) rfl rfl (k93_mkM _ _ _ ⟨(pos : Int), true⟩) (fun _ h => h.elim) (fun k hk => by have := blk_lt VI.out; omega) VR.out (Below.refl _ _) (by have := blk_lt VI.out; omega) (by have := HPL.out; omega) ?_); intro v1 w1 hO1 hB1 hG1 hat1; have O1 := Lib.hid hO1; have B1' := Lib.hid hB1; clear hO1 hB1 hG1 hat1))
            all_goals first
              | exact CLO.out true _ _ (fun _ => rfl) (fun _ => hpos) ((B1'.out.block b (by omega)).trans VI.out) O1.out (VB.out.trans (B1'.out.mono (by omega)))
              | exact CLO.out false _ _ (fun h => by cases h) (fun h => by cases h) VI.out VR.out VB.out
              | (go_show; fail)
          · simp [hpos, hl] at hmu
            subst hmu
            have hq : (last == 10) = false := by simp [hl]
            go_wp2_with (first
              | (go_at_call 65; refine (may_c _ _ _).mono ?_; rintro e w' ⟨c, rfl, rfl⟩)
              | (at_builtin; (refine Kd.R_append k93 (w0 := V) (b + 1) rfl (.tmp 46) (.tmp 50) 90 93 _ 16 rfl Try.underlying90 infoB rfl (by decide) (by decide) _ us ⟨(pos : Int), false⟩ [.int .i64 (pos : Int), .bool false] (fun k => b < k) (fun _ => False) rfl rfl (k93_mkM _ _ _ ⟨(pos : Int), false⟩) (fun _ h => h.elim) (fun k hk => by have := blk_lt VI.out; omega) VR.out (Below.refl _ _) (by have := blk_lt VI.out; omega) (by have := HPL.out; omega) ?_); intro v1 w1 hO1 hB1 hG1 hat1; have O1 := Lib.hid hO1; have B1' := Lib.hid hB1; clear hO1 hB1 hG1 hat1)
              | (at_builtin; (refine Kd.R_append k93 (w0 := V) (b + 1) rfl (.tmp 46) (.tmp 50) 90 93 _ 16 rfl Try.underlying90 infoB rfl (by decide) (by decide) _ us ⟨(pos : Int), true⟩ [.int .i64 (pos : Int), .bool true] (fun k => b < k) (fun _ => False) rfl rfl (k93_mkM _ _ _ ⟨(pos : Int), true⟩) (fun _ h => h.elim) (fun k hk => by have := blk_lt VI.out; omega) VR.out (Below.refl _ _) (by have := blk_lt VI.out; omega) (by have := HPL.out; omega) ?_); intro v1 w1 hO1 hB1 hG1 hat1; have O1 := Lib.hid hO1; have B1' := Lib.hid hB1; clear hO1 hB1 hG1 hat1))
            all_goals first
              | exact CLO.out true _ _ (fun _ => rfl) (fun _ => hpos) ((B1'.out.block b (by omega)).trans VI.out) O1.out (VB.out.trans (B1'.out.mono (by omega)))
              | exact CLO.out false _ _ (fun h => by cases h) (fun h => by cases h) VI.out VR.out VB.out
              | (go_show; fail)
        · simp [hpos] at hmu
          subst hmu
          go_wp2_with (first
            | (go_at_call 65; refine (may_c _ _ _).mono ?_; rintro e w' ⟨c, rfl, rfl⟩)
            | (at_builtin; (refine Kd.R_append k93 (w0 := V) (b + 1) rfl (.tmp 46) (.tmp 50) 90 93 _ 16 rfl Try.underlying90 infoB rfl (by decide) (by decide) _ us ⟨(pos : Int), false⟩ [.int .i64 (pos : Int), .bool false] (fun k => b < k) (fun _ => False) rfl rfl (k93_mkM _ _ _ ⟨(pos : Int), false⟩) (fun _ h => h.elim) (fun k hk => by have := blk_lt VI.out; omega) VR.out (Below.refl _ _) (by have := blk_lt VI.out; omega) (by have := HPL.out; omega) ?_); intro v1 w1 hO1 hB1 hG1 hat1; have O1 := Lib.hid hO1; have B1' := Lib.hid hB1; clear hO1 hB1 hG1 hat1)
            | (at_builtin; (refine Kd.R_append k93 (w0 := V) (b + 1) rfl (.tmp 46) (.tmp 50) 90 93 _ 16 rfl Try.underlying90 infoB rfl (by decide) (by decide) _ us ⟨(pos : Int), true⟩ [.int .i64 (pos : Int), .bool true] (fun k => b < k) (fun _ => False) rfl rfl (k93_mkM _ _ _ ⟨(pos : Int), true⟩) (fun _ h => h.elim) (fun k hk => by have := blk_lt VI.out; omega) VR.out (Below.refl _ _) (by have := blk_lt VI.out; omega) (by have := HPL.out; omega) ?_); intro v1 w1 hO1 hB1 hG1 hat1; have O1 := Lib.hid hO1; have B1' := Lib.hid hB1; clear hO1 hB1 hG1 hat1))
          all_goals first
            | exact CLO.out false _ _ (fun h => by cases h) (fun h => by cases h) VI.out VR.out VB.out
            | (go_show; fail)
      · have hnx : ∀ ty, (Instr.next (.pointer (some ⟨b, 0, none⟩)) true ty).run Try.prog wr = .ok (.tuple #[.bool false]) wr := fun ty => run_next_end_at wr b s pos ty hI.out hp
        obtain ⟨hul, hno, hyes⟩ := told_end hT.out hp
        have HUL := Lib.hid hul
        have hkp := HKP.out
        rw [hkp] at hno hyes
        clear hul
        by_cases hl : last = 10
        · have hq : (last == 10) = true := by simp [hl]
          have HNO := Lib.hid hno
          have HYES := Lib.hid hyes
          clear hno hyes hkp
          go_wp2_with (first
            | (at_builtin; (refine Kd.R_append k93 (w0 := wr) (b + 1) rfl (.tmp 58) (.tmp 62) 90 93 _ 16 rfl Try.underlying90 infoB rfl (by decide) (by decide) _ us ⟨(s.size : Int), true⟩ [.int .i64 (s.size : Int), .bool true] (fun k => b < k) (fun _ => False) rfl rfl (k93_mkM _ _ _ ⟨(s.size : Int), true⟩) (fun _ h => h.elim) (fun k hk => by have := blk_lt hI.out; omega) hR.out (Below.refl _ _) (by have := blk_lt hI.out; omega) (by have := HUL.out; have := HSZ.out; omega) ?_); intro v1 w1 hO1 hB1 hG1 hat1; have O1 := Lib.hid hO1; have B1' := Lib.hid hB1; clear hO1 hB1 hG1 hat1))
          all_goals go_ret
          all_goals first
            | exact ⟨_, _, rfl, by rw [HB.out]; exact Kd.R_mono (Kd.R_lower O1.out (by omega)) (fun _ _ => trivial), by rw [HKP.out]; exact HYES.out (by simp [hl]), by rw [HB.out]; exact hBw.out.trans (B1'.out.mono (by omega))⟩
            | exact ⟨_, us, rfl, by rw [HB.out]; exact Kd.R_mono (Kd.R_lower hR.out (by omega)) (fun _ _ => trivial), by rw [HKP.out]; exact HNO.out (by simp), by rw [HB.out]; exact hBw.out⟩
        · have hq : (last == 10) = false := by simp [hl]
          have HNO := Lib.hid hno
          clear hno hyes hkp
          go_wp2_with fail
          all_goals go_ret
          all_goals exact ⟨_, us, rfl, by rw [HB.out]; exact Kd.R_mono (Kd.R_lower hR.out (by omega)) (fun _ _ => trivial), by rw [HKP.out]; exact HNO.out (by simp [hl]), by rw [HB.out]; exact hBw.out⟩
end Go.Proofs.Ytmkgapdadandmaa.Brk
