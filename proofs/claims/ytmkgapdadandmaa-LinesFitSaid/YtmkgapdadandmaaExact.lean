/- Package breaks: All, exactly. For every input. | Package breaks: All, exactly: the walk. | The pieces of a text, exactly; parts, exactly; Break, exactly; the closed fact 'lined'. | The closed fact 'lined'. -/
import Derived.Test.YtmkgapdadandmaaBreaksAll
import Derived.OwnWalk
import Derived.LoopTactic
import Derived.WalkSmall
import Derived.Test.YtmkgapdadandmaaPcB
import Derived.Test.YtmkgapdadandmaaBrkC
import Derived.Test.YtmkgapdadandmaaWRepsOne
namespace Go.Proofs.Ytmkgapdadandmaa.Brk
open Go.RowKit Go.Lib Go.Proofs.Ytmkgapdadandmaa.Pl Go.Proofs.Ytmkgapdadandmaa.Fx Go.Proofs.YtmkgapdadandmaaW.PrintWords Go.Proofs.YtmkgapdadandmaaW.PrintLast Go.Proofs.YtmkgapdadandmaaW.PrintMore
set_option linter.unusedVariables false
set_option linter.unusedSimpArgs false

def letB (r : Int) : Bool := (decide (97 ≤ r) && decide (r ≤ 122)) || (decide (65 ≤ r) && decide (r ≤ 90))
def othB (r : Int) : Bool := (!decide (r = 32) && !decide (r = 45)) && !decide (r = 10)
def wideB (a b : Int) : Bool := (decide (4352 ≤ a) && othB b) || (decide (4352 ≤ b) && othB a)
def mayB (a b : Int) : Bool := if a = 32 then !decide (b = 32) else if a = 45 then letB b else wideB a b
def Isb (c : Bool) (w : World) (e : Ending) (w' : World) : Prop := e = .returned (.bool c) ∧ w = w'
theorem letX_c (r : Int) (w : World) : Calls Try.prog 71 #[.int .i32 r] w (Isb (letB r) w) := by
  unfold letB
  by_cases h1 : 97 ≤ r
  all_goals by_cases h2 : r ≤ 122
  all_goals by_cases h3 : 65 ≤ r
  all_goals by_cases h4 : r ≤ 90
  all_goals first | omega | skip
  all_goals
    go_enter Try.func71, Try.ntmps71
    go_wp2
    go_ret
    exact ⟨by simp [h1, h2, h3, h4], rfl⟩
theorem othX_c (r : Int) (w : World) : Calls Try.prog 77 #[.int .i32 r] w (Isb (othB r) w) := by
  unfold othB
  by_cases h1 : r = 32
  all_goals by_cases h2 : r = 45
  all_goals by_cases h3 : r = 10
  all_goals first | omega | skip
  all_goals
    have q1 : (r != 32) = !decide (r = 32) := by simp [bne, h1]
    have q2 : (r != 45) = !decide (r = 45) := by simp [bne, h2]
    have q3 : (r != 10) = !decide (r = 10) := by simp [bne, h3]
    simp only [h1, h2, h3, decide_true, decide_false, Bool.not_true, Bool.not_false] at q1 q2 q3
    go_enter Try.func77, Try.ntmps77
    go_wp2
    go_ret
    exact ⟨by simp [h1, h2, h3], rfl⟩
set_option maxHeartbeats 4000000 in
theorem wideX_c (a b : Int) (w : World) : Calls Try.prog 72 #[.int .i32 a, .int .i32 b] w (Isb (wideB a b) w) := by
  unfold wideB
  obtain ⟨oa, hoa⟩ : ∃ oa, othB a = oa := ⟨_, rfl⟩
  obtain ⟨ob, hob⟩ : ∃ ob, othB b = ob := ⟨_, rfl⟩
  have OA := Lib.hid hoa
  have OB := Lib.hid hob
  have OC := Lib.hid fun r w => othX_c r w
  rw [hoa, hob]
  clear hoa hob
  by_cases h1 : 4352 ≤ a
  all_goals by_cases h2 : 4352 ≤ b
  all_goals cases oa
  all_goals cases ob
  all_goals
    go_enter Try.func72, Try.ntmps72
    go_wp2_with (go_at_call 77; refine (OC.out _ _).mono ?_; rintro e w' ⟨he, rfl⟩; (first | rw [OA.out] at he | rw [OB.out] at he); cases he)
    go_ret
    exact ⟨by simp [h1, h2], rfl⟩
set_option maxHeartbeats 4000000 in
theorem mayX_c (a b : Int) (w : World) : Calls Try.prog 65 #[.int .i32 a, .int .i32 b] w (Isb (mayB a b) w) := by
  unfold mayB
  obtain ⟨lb, hlb⟩ : ∃ lb, letB b = lb := ⟨_, rfl⟩
  obtain ⟨wb, hwb⟩ : ∃ wb, wideB a b = wb := ⟨_, rfl⟩
  have LB := Lib.hid fun w => (by have := letX_c b w; rw [hlb] at this; exact this : Calls Try.prog 71 #[.int .i32 b] w (Isb lb w))
  have WB := Lib.hid fun w => (by have := wideX_c a b w; rw [hwb] at this; exact this : Calls Try.prog 72 #[.int .i32 a, .int .i32 b] w (Isb wb w))
  rw [hlb, hwb]
  clear hlb hwb
  by_cases h1 : a = 32
  · have q1 : (a == 32) = true := by simp [h1]
    rw [if_pos h1]
    by_cases h3 : b = 32
    · have q3 : (b != 32) = false := by simp [h3]
      clear h1
      go_enter Try.func65, Try.ntmps65
      go_wp2_with fail
      go_ret
      exact ⟨by simp [h3], rfl⟩
    · have q3 : (b != 32) = true := by simp [h3]
      clear h1
      go_enter Try.func65, Try.ntmps65
      go_wp2_with fail
      go_ret
      exact ⟨by simp [h3], rfl⟩
  · have q1 : (a == 32) = false := by simp [h1]
    rw [if_neg h1]
    by_cases h2 : a = 45
    · have q2 : (a == 45) = true := by simp [h2]
      rw [if_pos h2]
      clear h1 h2
      go_enter Try.func65, Try.ntmps65
      go_wp2_with (go_at_call 71; refine (LB.out _).mono ?_; rintro e w' ⟨rfl, rfl⟩)
      go_ret
      exact ⟨rfl, rfl⟩
    · have q2 : (a == 45) = false := by simp [h2]
      rw [if_neg h2]
      clear h1 h2
      go_enter Try.func65, Try.ntmps65
      go_wp2_with (go_at_call 72; refine (WB.out _).mono ?_; rintro e w' ⟨rfl, rfl⟩)
      go_ret
      exact ⟨rfl, rfl⟩
/-- Are lines wrapped? -/
def wrapsB (mode : Int) : Bool := decide (mode = 0) || decide (mode = 3)
/-- What a rune adds. -/
def newB (s : ByteArray) (wp kp : Bool) (p : Nat) (last : Int) : List Br := if 0 < p ∧ ((kp && decide (last = 10)) || (wp && mayB last (Utf8.decode s p).1)) = true then [⟨(p : Int), kp && decide (last = 10)⟩] else []
def allGo (s : ByteArray) (wp kp : Bool) : Nat → Nat → Int → List Br
  | 0, _, _ => []
  | n + 1, p, last => if p < s.size then newB s wp kp p last ++ allGo s wp kp n (p + (Utf8.decode s p).2) (Utf8.decode s p).1 else if (kp && decide (last = 10)) = true then [⟨(s.size : Int), true⟩] else []
def allP (s : ByteArray) (mode : Int) : List Br := allGo s (wrapsB mode) (keepsB mode) (s.size + 1) 0 0
/-- Where the round stands. -/
def At (s : ByteArray) (wp kp : Bool) (p : Nat) (last : Int) (us : List Br) : Prop :=
  us.length ≤ p ∧ p ≤ s.size ∧ ∃ n, s.size < p + n ∧ us ++ allGo s wp kp n p last = allGo s wp kp (s.size + 1) 0 0
theorem at_zero (s : ByteArray) (wp kp : Bool) : At s wp kp 0 0 [] := ⟨Nat.le_refl _, Nat.zero_le _, s.size + 1, by omega, rfl⟩
theorem newB_len (s : ByteArray) (wp kp : Bool) (p : Nat) (last : Int) : (newB s wp kp p last).length ≤ 1 := by unfold newB; split <;> simp
theorem at_step {s : ByteArray} {wp kp : Bool} {p : Nat} {last : Int} {us : List Br} (h : At s wp kp p last us) (hp : p < s.size) : At s wp kp (p + (Utf8.decode s p).2) (Utf8.decode s p).1 (us ++ newB s wp kp p last) := by
  obtain ⟨h1, h2, n, h3, h4⟩ := h
  have d := dec_facts s p hp
  have hl := newB_len s wp kp p last
  obtain ⟨n', rfl⟩ : ∃ n', n = n' + 1 := ⟨n - 1, by omega⟩
  refine ⟨by rw [List.length_append]; omega, d.2.1, n', by omega, ?_⟩
  rw [← h4, List.append_assoc]
  conv => rhs; rw [allGo, if_pos hp]
theorem at_end {s : ByteArray} {wp kp : Bool} {p : Nat} {last : Int} {us : List Br} (h : At s wp kp p last us) (hp : ¬ p < s.size) : allGo s wp kp (s.size + 1) 0 0 = us ++ (if (kp && decide (last = 10)) = true then [⟨(s.size : Int), true⟩] else []) := by
  obtain ⟨h1, h2, n, h3, h4⟩ := h
  obtain ⟨n', rfl⟩ : ∃ n', n = n' + 1 := ⟨n - 1, by omega⟩
  rw [← h4, allGo, if_neg hp]
def AllXPost (s : ByteArray) (mode : Int) (w : World) (e : Ending) (w' : World) : Prop := ∃ v, e = .returned v ∧ Kd.R k93 93 w' w.heap.size (fun _ => True) v (allP s mode) ∧ Below w.heap.size w w'
end Go.Proofs.Ytmkgapdadandmaa.Brk
namespace Go.Proofs.Ytmkgapdadandmaa.Brk
open Go.RowKit Go.Lib Go.Proofs.Ytmkgapdadandmaa.Pl Go.Proofs.Ytmkgapdadandmaa.Fx Go.Proofs.YtmkgapdadandmaaW.PrintWords Go.Proofs.YtmkgapdadandmaaW.PrintLast Go.Proofs.YtmkgapdadandmaaW.PrintMore
set_option linter.unusedVariables false
set_option linter.unusedSimpArgs false
set_option maxRecDepth 100000 in
set_option maxHeartbeats 2000000 in
theorem AllX_c (s : ByteArray) (mode : Int) (w : World) (hs : s.size ≤ 1000) :
    Calls Try.prog 50 #[.string s, .int .i64 mode] w (AllXPost s mode w) := by
  have HSZ := Lib.hid hs
  clear hs
  obtain ⟨kp, wp, hk, hcase⟩ : ∃ kp wp : Bool, (keepsB mode = kp ∧ wrapsB mode = wp) ∧ ((mode = 0 ∧ kp = false ∧ wp = true) ∨ (mode = 1 ∧ kp = true ∧ wp = false) ∨ (mode = 3 ∧ kp = true ∧ wp = true) ∨ (mode ≠ 0 ∧ mode ≠ 1 ∧ mode ≠ 3 ∧ kp = false ∧ wp = false)) := by
    by_cases h0 : mode = 0
    · exact ⟨false, true, by subst h0; exact ⟨rfl, rfl⟩, .inl ⟨h0, rfl, rfl⟩⟩
    · by_cases h1 : mode = 1
      · exact ⟨true, false, by subst h1; exact ⟨rfl, rfl⟩, .inr (.inl ⟨h1, rfl, rfl⟩)⟩
      · by_cases h3 : mode = 3
        · exact ⟨true, true, by subst h3; exact ⟨rfl, rfl⟩, .inr (.inr (.inl ⟨h3, rfl, rfl⟩))⟩
        · exact ⟨false, false, by unfold keepsB wrapsB; rw [decide_eq_false h1, decide_eq_false h3, decide_eq_false h0]; exact ⟨rfl, rfl⟩, .inr (.inr (.inr ⟨h0, h1, h3, rfl, rfl⟩))⟩
  have hall : allP s mode = allGo s wp kp (s.size + 1) 0 0 := by unfold allP; rw [hk.1, hk.2]
  have HALL := Lib.hid hall
  clear hk hall
  have MAYX := Lib.hid fun a b w => mayX_c a b w
  have b0 : (w.iter s 0).heap[w.heap.size]? = some (.stringIter s 0) := World.iter_heap w s 0
  have b1 : Below w.heap.size w (w.iter s 0) := below_alloc (Below.refl _ _) _
  have B0 := Lib.hid b0
  have B1 := Lib.hid b1
  clear b0 b1
  generalize hW : w.iter s 0 = W at *
  have HW := Lib.hid hW
  clear hW
  rcases hcase with ⟨rfl, hkp, hwp⟩ | ⟨rfl, hkp, hwp⟩ | ⟨rfl, hkp, hwp⟩ | ⟨m0, m1, m3, hkp, hwp⟩
  case' inr.inr.inr =>
    have q0 : (mode == 0) = false := by simpa using m0
    have q1 : (mode == 1) = false := by simpa using m1
    have q3 : (mode == 3) = false := by simpa using m3
    clear m0 m1 m3
  all_goals
    have HKP := Lib.hid hkp
    have HWP := Lib.hid hwp
    clear hkp hwp
    go_enter Try.func50, Try.ntmps50
    go_wp2_with fail
    rw [HW.out]
    obtain ⟨b, hb⟩ : ∃ b, w.heap.size = b := ⟨_, rfl⟩
    rw [hb] at B0 B1 ⊢
    have HB := Lib.hid hb
    clear hb
  all_goals
    go_loopw [7, 8] (fun v l wr => ∃ (pos : Nat) (last : Int) (us : List Br), l = .int .i32 last ∧ Hid (wr.heap[b]? = some (.stringIter s pos)) ∧ Hid (Kd.R k93 93 wr (b + 1) (fun k => b < k) v us) ∧ Hid (At s wp kp pos last us) ∧ Hid (Below b w wr)) (fun _ _ wr => s.size - wr.iterPos b)
    case atStart => exact ⟨0, 0, [], rfl, B0.out, Kd.R_nil _ _ _ _ _, at_zero s _ _, B1.out⟩
    case round =>
      obtain ⟨pos, last, us, rfl, hI, hR, hT, hBw⟩ := hrel
      by_cases hp : pos < s.size
      · obtain ⟨V, hV, hVI, hVR, hVB⟩ : ∃ V, wr.iterAt b s (pos + (Utf8.decode s pos).2) = V ∧ V.heap[b]? = some (.stringIter s (pos + (Utf8.decode s pos).2)) ∧ Kd.R k93 93 V (b + 1) (fun k => b < k) u7 us ∧ Below b w V :=
          ⟨_, rfl, iterAt_heap wr b s pos _ hI.out, Kd.R_step hR.out (fun k hk _ => iterAt_other wr b k s _ (by omega)), below_iterAt hBw.out (Nat.le_refl _) _ _⟩
        have hnx : ∀ ty, (Instr.next (.pointer (some ⟨b, 0, none⟩)) true ty).run Try.prog wr = .ok (.tuple #[.bool true, .int .i64 pos, .int .i32 (Utf8.decode s pos).1]) V := fun ty => by rw [← hV]; exact run_next_any_at wr b s pos ty hI.out hp
        have hle := decode_le s pos
        have hpl : pos ≤ 1000 := by have := HSZ.out; omega
        have hul : us.length ≤ 1000 := by have := hT.out.1; omega
        have HPL := Lib.hid hul
        have hclo : ∀ (w1 : World) (v1 : Value), w1.heap[b]? = some (.stringIter s (pos + (Utf8.decode s pos).2)) → Kd.R k93 93 w1 (b + 1) (fun k => b < k) v1 (us ++ newB s wp kp pos last) → Below b w w1 →
            (∃ (pos' : Nat) (last' : Int) (us' : List Br), Value.int .i32 ((Utf8.decode s pos).1 : Int) = .int .i32 last' ∧ Hid (w1.heap[b]? = some (.stringIter s pos')) ∧ Hid (Kd.R k93 93 w1 (b + 1) (fun k => b < k) v1 us') ∧ Hid (At s wp kp pos' last' us') ∧ Hid (Below b w w1)) ∧ s.size - w1.iterPos b < s.size - wr.iterPos b :=
          fun w1 v1 h3 h4 h5 => ⟨⟨_, _, _, rfl, h3, h4, at_step hT.out hp, h5⟩, by
            rw [iterPos_of h3, iterPos_of hI.out]
            have := (dec_facts s pos hp).1
            omega⟩
        obtain ⟨nb, hnb⟩ : ∃ nb, newB s wp kp pos last = nb := ⟨_, rfl⟩
        rw [hnb] at hclo
        unfold newB at hnb
        have CLO := Lib.hid hclo
        have VI := Lib.hid hVI
        have VR := Lib.hid hVR
        have VB := Lib.hid hVB
        rw [HKP.out, HWP.out] at hnb
        clear hV hclo hVI hVR hVB hI hR hT hBw hul
        generalize (Utf8.decode s pos).2 = n at *
        generalize (Utf8.decode s pos).1 = r at *
        by_cases hpos : 0 < pos
        · obtain ⟨mb, hmb⟩ : ∃ mb, mayB last r = mb := ⟨_, rfl⟩
          rw [hmb] at hnb
          have MB := Lib.hid hmb
          clear hmb
          obtain ⟨lq, hlq⟩ : ∃ lq, decide (last = 10) = lq := ⟨_, rfl⟩
          have hq : (last == 10) = lq := hlq
          rw [hlq] at hnb
          clear hlq
          cases lq
          all_goals cases mb
          all_goals
            simp [hpos] at hnb
            subst hnb
            go_wp2_with (first
              | (go_at_call 65; refine (MAYX.out _ _ _).mono ?_; rintro e w' ⟨he, rfl⟩; rw [MB.out] at he; cases he)
              | (at_builtin; (refine Kd.R_append k93 (w0 := V) (b + 1) rfl (.tmp 46) (.tmp 50) 90 93 _ 16 rfl Try.underlying90 infoB rfl (by decide) (by decide) _ us ⟨(pos : Int), false⟩ [.int .i64 (pos : Int), .bool false] (fun k => b < k) (fun _ => False) rfl rfl (k93_mkM _ _ _ ⟨(pos : Int), false⟩) (fun _ h => h.elim) (fun k hk => by have := blk_lt VI.out; omega) VR.out (Below.refl _ _) (by have := blk_lt VI.out; omega) (by have := HPL.out; omega) ?_); intro v1 w1 hO1 hB1 hG1 hat1; have O1 := Lib.hid hO1; have B1' := Lib.hid hB1; clear hO1 hB1 hG1 hat1)
              | (at_builtin; (refine Kd.R_append k93 (w0 := V) (b + 1) rfl (.tmp 46) (.tmp 50) 90 93 _ 16 rfl Try.underlying90 infoB rfl (by decide) (by decide) _ us ⟨(pos : Int), true⟩ [.int .i64 (pos : Int), .bool true] (fun k => b < k) (fun _ => False) rfl rfl (k93_mkM _ _ _ ⟨(pos : Int), true⟩) (fun _ h => h.elim) (fun k hk => by have := blk_lt VI.out; omega) VR.out (Below.refl _ _) (by have := blk_lt VI.out; omega) (by have := HPL.out; omega) ?_); intro v1 w1 hO1 hB1 hG1 hat1; have O1 := Lib.hid hO1; have B1' := Lib.hid hB1; clear hO1 hB1 hG1 hat1))
            all_goals first
              | exact CLO.out _ _ ((B1'.out.block b (by omega)).trans VI.out) O1.out (VB.out.trans (B1'.out.mono (by omega)))
              | exact CLO.out _ _ VI.out (by rw [List.append_nil]; exact VR.out) VB.out
              | (go_show; fail)
        · simp [hpos] at hnb
          subst hnb
          go_wp2_with fail
          all_goals first
            | exact CLO.out _ _ VI.out (by rw [List.append_nil]; exact VR.out) VB.out
            | (go_show; fail)
      · have hnx : ∀ ty, (Instr.next (.pointer (some ⟨b, 0, none⟩)) true ty).run Try.prog wr = .ok (.tuple #[.bool false]) wr := fun ty => run_next_end_at wr b s pos ty hI.out hp
        have hul := hT.out.1
        have hus := hT.out.2.1
        have hen := at_end hT.out hp
        rw [← HALL.out, HKP.out] at hen
        have HUL := Lib.hid (show us.length ≤ 1000 by have := HSZ.out; omega)
        clear hul hus
        obtain ⟨lq, hlq⟩ : ∃ lq, decide (last = 10) = lq := ⟨_, rfl⟩
        have hq : (last == 10) = lq := hlq
        rw [hlq] at hen
        clear hlq
        cases lq
        all_goals
          simp at hen
          have HEN := Lib.hid hen
          clear hen
          go_wp2_with (first
            | (at_builtin; (refine Kd.R_append k93 (w0 := wr) (b + 1) rfl (.tmp 58) (.tmp 62) 90 93 _ 16 rfl Try.underlying90 infoB rfl (by decide) (by decide) _ us ⟨(s.size : Int), true⟩ [.int .i64 (s.size : Int), .bool true] (fun k => b < k) (fun _ => False) rfl rfl (k93_mkM _ _ _ ⟨(s.size : Int), true⟩) (fun _ h => h.elim) (fun k hk => by have := blk_lt hI.out; omega) hR.out (Below.refl _ _) (by have := blk_lt hI.out; omega) (by have := HUL.out; omega) ?_); intro v1 w1 hO1 hB1 hG1 hat1; have O1 := Lib.hid hO1; have B1' := Lib.hid hB1; clear hO1 hB1 hG1 hat1))
          go_ret
          first
            | exact ⟨_, rfl, by rw [HB.out, HEN.out]; exact Kd.R_mono (Kd.R_lower O1.out (by omega)) (fun _ _ => trivial), by rw [HB.out]; exact hBw.out.trans (B1'.out.mono (by omega))⟩
            | exact ⟨_, rfl, by rw [HB.out, HEN.out]; exact Kd.R_mono (Kd.R_lower hR.out (by omega)) (fun _ _ => trivial), by rw [HB.out]; exact hBw.out⟩
end Go.Proofs.Ytmkgapdadandmaa.Brk
namespace Go.Proofs.Ytmkgapdadandmaa.Lin
open Go.RowKit Go.Lib Go.Proofs.Ytmkgapdadandmaa.Pl Go.Proofs.Ytmkgapdadandmaa.Fx Go.Proofs.Ytmkgapdadandmaa.Fnt Go.Proofs.Ytmkgapdadandmaa.Brk Go.Proofs.Ytmkgapdadandmaa.Siz Go.Proofs.YtmkgapdadandmaaW.PrintWords Go.Proofs.YtmkgapdadandmaaW.PrintLast Go.Proofs.YtmkgapdadandmaaW.PrintMore
set_option linter.unusedVariables false
set_option linter.unusedSimpArgs false

theorem ago_bd (s : ByteArray) (wp kp : Bool) : ∀ (n p : Nat) (last : Int), p ≤ s.size → (0 < p ∨ last = 0) → (allGo s wp kp n p last).length + p ≤ s.size + (if 0 < p then 1 else 0) ∧ ∀ u, u ∈ allGo s wp kp n p last → 1 ≤ u.f0 ∧ u.f0 ≤ s.size := by
  intro n
  induction n with
  | zero => intro p last hp _; exact ⟨by show 0 + p ≤ _; omega, fun u hu => by cases hu⟩
  | succ n ih =>
    intro p last hp hl
    rw [allGo]
    split
    · rename_i hlt
      obtain ⟨d1, d2, _⟩ := dec_facts s p hlt
      obtain ⟨i1, i2⟩ := ih (p + (Utf8.decode s p).2) (Utf8.decode s p).1 d2 (.inl (by omega))
      rw [if_pos (by omega)] at i1
      have hb : (newB s wp kp p last).length ≤ (if 0 < p then 1 else 0) ∧ ∀ u, u ∈ newB s wp kp p last → 1 ≤ u.f0 ∧ u.f0 ≤ s.size := by
        unfold newB
        split
        · rename_i h
          rw [if_pos h.1]
          refine ⟨Nat.le_refl _, fun u hu => ?_⟩
          rw [List.mem_singleton] at hu
          subst hu
          exact ⟨by show (1 : Int) ≤ (p : Int); omega, by show (p : Int) ≤ _; omega⟩
        · exact ⟨Nat.zero_le _, fun u hu => by cases hu⟩
      rw [List.length_append]
      refine ⟨by omega, fun u hu => ?_⟩
      rcases List.mem_append.1 hu with hu | hu
      · exact hb.2 u hu
      · exact i2 u hu
    · rename_i hlt
      split
      · rename_i hk
        have h10 : last = 10 := by
          have := (Bool.and_eq_true_iff.1 hk).2
          exact of_decide_eq_true this
        have hp0 : 0 < p := by rcases hl with h | h; exact h; omega
        rw [if_pos hp0]
        refine ⟨by show 1 + p ≤ _; omega, fun u hu => ?_⟩
        rw [List.mem_singleton] at hu
        subst hu
        exact ⟨by show (1 : Int) ≤ (s.size : Int); omega, Int.le_refl _⟩
      · exact ⟨by show 0 + p ≤ _; omega, fun u hu => by cases hu⟩
theorem allP_bd (s : ByteArray) (m : Int) : (allP s m).length ≤ s.size ∧ ∀ u, u ∈ allP s m → 1 ≤ u.f0 ∧ u.f0 ≤ s.size := by
  have := ago_bd s (wrapsB m) (keepsB m) (s.size + 1) 0 0 (Nat.zero_le _) (.inr rfl)
  rw [if_neg (by omega)] at this
  exact ⟨this.1, this.2⟩
def piecesX (s : ByteArray) (m : Int) : List ByteArray := (piecesP s (allP s m ++ [⟨(s.size : Int), false⟩])).2
def PcX (s : ByteArray) (m : Int) (t : List ByteArray) : Prop := s.size ≤ 1000 ∧ t = piecesX s m
theorem pcX_ok : PcOK PcX := by
  rintro s m t ⟨hs, rfl⟩
  obtain ⟨hb1, hb2⟩ := allP_bd s m
  have h0 : ∀ u, u ∈ allP s m ++ [(⟨(s.size : Int), false⟩ : Br)] → 0 ≤ u.f0 ∧ u.f0 ≤ s.size := fun u hu => by
    rcases List.mem_append.1 hu with hu | hu
    · have := hb2 u hu; omega
    · rw [List.mem_singleton] at hu; subst hu; exact ⟨by show (0 : Int) ≤ (s.size : Int); omega, by show (s.size : Int) ≤ _; omega⟩
  have h1 := (pieces_bd s _ h0).2.2
  rw [List.length_append, List.length_singleton] at h1
  exact ⟨by unfold piecesX; omega, fun u hu => Nat.le_trans (pieces_size s _ u hu) hs⟩
theorem pieX : PieOK PcX := fun s m w hs =>
  (Pieces_c s m (fun us => us = allP s m) w hs (fun w => (AllX_c s m w hs).mono fun e w' ⟨v, he, hR, hB⟩ => ⟨v, _, he, hR, rfl, hB⟩) (fun us h => by
    subst h
    obtain ⟨hb1, hb2⟩ := allP_bd s m
    exact ⟨by omega, fun u hu => ⟨by have := (hb2 u hu).1; omega, (hb2 u hu).2⟩⟩)).mono fun e w' ⟨v, us, he, hR, hP, hB⟩ => by
      subst hP
      exact ⟨v, _, he, hR, ⟨hs, rfl⟩, hB⟩
def itemX (i : Nat) (x : LI) : List Pt := if x.f0 = 1 then partsOf i x (piecesX x.f2 x.f6) (piecesX x.f2 x.f6).length else [⟨i, noS, oneW x, true⟩]
def partsX (l : List LI) : Nat → List Pt
  | 0 => []
  | k + 1 => partsX l k ++ itemX k (l.getD k z27)
theorem parts_X (l : List LI) : ∀ (k : Nat) (ps : List Pt), PartsTo PcX l k ps → ps = partsX l k := by
  intro k
  induction k with
  | zero => intro ps h; exact h
  | succ k ih =>
    intro ps h
    obtain ⟨a, b, h1, h2, rfl⟩ := h
    rw [ih a h1]
    unfold ItemTo at h2
    show _ = partsX l k ++ itemX k _
    unfold itemX
    split at h2
    · rename_i hk
      obtain ⟨t, ht, rfl⟩ := h2
      rw [if_pos hk, ht.2]
    · rename_i hk
      rw [if_neg hk, h2]
def groupsX (l : List LI) : List (List Pt) := (groupsP l (partsX l l.length)).map (sub (partsX l l.length))
/-- The lines of items. -/
def breakX (K : Bc) (l : List LI) (width : Int) (s : Bk) : List LL := breakP K l width s (groupsX l)
def BrkX (l : List LI) (K : Bc) (width : Int) (s : Bk) (w : World) (e : Ending) (w' : World) : Prop :=
  ∃ v, e = .returned v ∧ Kd.R k39 39 w' w.heap.size (fun _ => True) v (breakX K l width s) ∧ Below w.heap.size w w'
theorem BreakX_c (A : Option Addr) (nl cl fp : Nat) (l : List LI) (y size height indent align width : Int) (w : World) (hL : Kd.C k27 w A nl l) (hn : nl ≤ 40) (hs : ∀ x, x ∈ l → x.f2.size ≤ 1000) (hl : ∀ x, x ∈ l → NiceI x)
    (hF : Go.Proofs.Ytmkgapdadandmaa.Fl.IsF w fp width []) (hw : 0 ≤ width ∧ width ≤ 16777216) (hnf : ∀ x, x ∈ l → x.f0 ≠ 5) (hbnd : ∀ x, x ∈ l → BndI x) :
    Calls Try.prog 11 #[.slice A nl cl, .pointer (some ⟨fp, 0, none⟩), .int .i64 y, .int .i64 size, .int .i64 height, .int .i64 indent, .int .i64 align] w (BrkX l (k0 fp size height align) width (s0 y indent) w) := by
  obtain ⟨ad, hA⟩ : ∃ ad : Addr, nl ≠ 0 → A = some ad := by
    by_cases hz : nl = 0
    · exact ⟨⟨0, 0, none⟩, fun h => absurd hz h⟩
    · obtain ⟨g, e, _⟩ := hL.2.2 (by omega)
      exact ⟨g, fun _ => e⟩
  refine (Break_c PcX pcX_ok pieX A ad nl cl fp l y size height indent align width w hL hA hn hs (ps_ok pcX_ok hl) (fun ps h p hp => tail_bd hl (parts_are pcX_ok _ ps (Nat.le_refl _) h p hp)) hF hw hnf hbnd).mono ?_
  rintro e w' ⟨v, ps, he, hP, hR, hB⟩
  obtain rfl := parts_X l _ ps hP
  exact ⟨v, he, hR, hB⟩
end Go.Proofs.Ytmkgapdadandmaa.Lin
namespace Go.Proofs.Ytmkgapdadandmaa.Lin
open Go.RowKit Go.Lib Go.Proofs.Ytmkgapdadandmaa.Pl Go.Proofs.Ytmkgapdadandmaa.Fx Go.Proofs.Ytmkgapdadandmaa.Fnt Go.Proofs.Ytmkgapdadandmaa.Brk Go.Proofs.Ytmkgapdadandmaa.Siz Go.Proofs.YtmkgapdadandmaaW.PrintWords Go.Proofs.YtmkgapdadandmaaW.PrintLast Go.Proofs.YtmkgapdadandmaaW.PrintMore
set_option linter.unusedVariables false
set_option linter.unusedSimpArgs false
attribute [local go_sem] mx2 mn2 mx_two mn_two mx_three mn_three

def aaS : ByteArray := ⟨#[97, 97, 32, 97, 97]⟩
def aaI : LI := ⟨1, 0, aaS, 64, 0, 80, 0, 0, 0, 0, 0⟩
theorem lined_fact (fp : Nat) : (breakX (k0 fp 64 80 0) [aaI] 100 (s0 0 0)).map (fun x => (x.f1, x.f5.map (fun p => p.f3))) = [(0, [⟨#[97, 97]⟩]), (80, [⟨#[97, 97]⟩])] := by kernel_rfl
def liV (x : LI) : List Value := [.int .i64 x.f0, .int .i64 x.f1, .string x.f2, .int .i64 x.f3, .int .i64 x.f4, .int .i64 x.f5, .int .i64 x.f6, .int .i64 x.f7, .int .i64 x.f8, .int .i64 x.f9, .int .i64 x.f10]
/-- One item laid as a slice. -/
theorem lit1 (W : World) (x : LI) : Kd.C k27 (W.alloc (.cells (liV x).toArray 27)) (some ⟨W.heap.size, 0, none⟩) 1 [x] := by
  have hr : Reps (k27.M (W.alloc (.cells (liV x).toArray 27)) 0 (fun k => True ∧ some k ≠ (Value.slice (some ⟨W.heap.size, 0, none⟩) 1 1).ownBlock)) k27.sz [x] (liV x ++ []) := Reps.front (k27_mkM _ 0 _ x) rfl (Reps.none _ _) rfl
  rw [List.append_nil] at hr
  exact (Kd.R_reads' (d := k27) (e := 27) (base := 0) (ok := fun _ => True) ⟨fun _ _ => trivial, OwnRow.lit W 0 hr (Nat.zero_le _) (by simp)⟩).2.2
theorem two_lines {w : World} {base : Nat} {ok : Nat → Prop} {v : Value} {o : List LL} (h : Kd.R k39 39 w base ok v o) (he : o.map (fun x => (x.f1, x.f5.map (fun p => p.f3))) = [(0, [⟨#[97, 97]⟩]), (80, [⟨#[97, 97]⟩])]) :
    ∃ (g c : Nat) (q : Addr) (c1 : Nat), v = .slice (some ⟨g, 0, none⟩) 2 c ∧ w.cell? ⟨g, 8, none⟩ = some (.int .i64 80) ∧ w.cell? ⟨g, 5, none⟩ = some (.slice (some q) 1 c1) ∧ w.cell? ⟨q.block, q.off + 3, none⟩ = some (.string ⟨#[97, 97]⟩) := by
  obtain ⟨x, y, rfl⟩ : ∃ x y, o = [x, y] := by
    have hl := congrArg List.length he
    rw [List.length_map] at hl
    match o, hl with
    | [x, y], _ => exact ⟨x, y, rfl⟩
  simp only [List.map_cons, List.map_nil, List.cons.injEq, Prod.mk.injEq, and_true] at he
  obtain ⟨⟨e0, e1⟩, e2, e3⟩ := he
  obtain ⟨p, hp⟩ : ∃ p, x.f5 = [p] := by
    have hl := congrArg List.length e1
    rw [List.length_map] at hl
    match hx : x.f5, hl with
    | [p], _ => exact ⟨p, rfl⟩
  rw [hp] at e1
  have e1 : p.f3 = ⟨#[97, 97]⟩ := by simpa using e1
  obtain ⟨g, c, rfl, _⟩ := Kd.R_form h (by simp)
  obtain ⟨_, _, hC⟩ := Kd.R_reads' h
  obtain ⟨ad, A5, c5, ea, x0, x1, -⟩ := at_T39 hC 1 (by decide) (by simp)
  cases ea
  obtain ⟨ad, B5, d5, ea, -, -, -, -, -, z5, -, -, hC5⟩ := at_T39 hC 0 (by decide) (by simp)
  cases ea
  have hr0 : rd_T39 [x, y] 0 = x := rfl
  have hr1 : rd_T39 [x, y] 1 = y := rfl
  rw [hr0, hp] at hC5 z5
  rw [hr1, e2] at x1
  obtain ⟨ad, ea, p0, p1, p2, p3⟩ := at_T41 hC5 0 (by decide) (by simp)
  subst ea
  refine ⟨g, c, ad, d5, rfl, x1, z5, ?_⟩
  have : rd_T41 [p] 0 = p := rfl
  rw [this, e1] at p3
  exact p3
set_option maxRecDepth 100000 in
set_option maxHeartbeats 4000000 in
theorem lined_c (w : World) : Calls Try.prog 9 #[] w fun e w' => e = .returned (.bool true) ∧ Below w.heap.size w w' := by
  have B1 := Lib.hid (below_alloc (Below.refl w.heap.size w) (.cells (liV aaI).toArray 27))
  have C1 := Lib.hid (lit1 w aaI)
  obtain ⟨w1, hw1⟩ : ∃ w1, w.alloc (.cells (liV aaI).toArray 27) = w1 := ⟨_, rfl⟩
  have HW1 := Lib.hid (show w.alloc (.cells #[.int .i64 1, .int .i64 0, .string ⟨#[97, 97, 32, 97, 97]⟩, .int .i64 64, .int .i64 0, .int .i64 80, .int .i64 0, .int .i64 0, .int .i64 0, .int .i64 0, .int .i64 0] 27) = w1 from hw1)
  rw [hw1] at B1 C1
  have NEW := Lib.hid (Go.Proofs.Ytmkgapdadandmaa.Fl.New_c 100 w1)
  clear hw1
  go_enter Try.func9, Try.ntmps9
  go_wp2_with fail
  rw [HW1.out]
  refine NEW.out.mono ?_
  rintro e w2 ⟨rfl, hF, hB2⟩
  have B2 := Lib.hid (below_then B1.out B1.out.size hB2)
  have BR := Lib.hid (BreakX_c (some ⟨w.heap.size, 0, none⟩) 1 1 w1.heap.size [aaI] 0 64 80 0 0 100 w2 (Kd.C_below C1.out hB2) (by decide) (fun x hx => by rw [List.mem_singleton] at hx; subst hx; decide) (fun x hx => by rw [List.mem_singleton] at hx; subst hx; exact ⟨by decide, by decide⟩) (by rw [show max 0 (cut 100) = 100 by decide] at hF; exact hF) (by decide) (fun x hx => by rw [List.mem_singleton] at hx; subst hx; decide) (fun x hx => by rw [List.mem_singleton] at hx; subst hx; unfold BndI; decide))
  clear hF hB2 B1 C1 NEW HW1
  go_wp2_with fail
  refine BR.out.mono ?_
  rintro e w3 ⟨v, rfl, hR, hB3⟩
  obtain ⟨g, c, q, c1, rfl, x1, x2, x3⟩ := two_lines hR (lined_fact _)
  have B3 := Lib.hid (below_then B2.out B2.out.size hB3)
  clear hR hB3 BR
  go_wp2_with fail
  go_ret
  exact ⟨rfl, B3.out⟩
end Go.Proofs.Ytmkgapdadandmaa.Lin
