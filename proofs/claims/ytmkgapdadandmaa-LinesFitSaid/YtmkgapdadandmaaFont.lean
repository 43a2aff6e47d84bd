/- Package font: how wide a rune is; what a text comes to. For every rune, every size, and texts of up to a million bytes. -/
import Derived.Test.YtmkgapdadandmaaFontRune
import Derived.Test.YtmkgapdadandmaaShelf
import Derived.Test.YtmkgapdadandmaaWWords
import Derived.Test.YtmkgapdadandmaaWMore
import Derived.Lib.OthersKept
import Derived.Laws.RangeAny
import Derived.Deep.QuietTactic
import Derived.BigQuiet
namespace Go.Proofs.Ytmkgapdadandmaa.Fnt
open Go.RowKit Go.Proofs.Ytmkgapdadandmaa.Pl Go.Proofs.Ytmkgapdadandmaa.Fx Go.Proofs.YtmkgapdadandmaaW.PrintWords Go.Proofs.YtmkgapdadandmaaW.PrintMore
set_option linter.unusedVariables false
set_option linter.unusedSimpArgs false
attribute [local go_sem] mx2 mn2 mx_two mn_two mx_three mn_three

/-- The runes that are narrow, and wide. -/
def narrowL : List Int := [32, 105, 108, 106, 46, 44, 39, 33, 124, 58]
def wideL : List Int := [109, 119, 77, 87, 64]
def fou (r : Int) : Int := if r < 32 ∨ r = 127 then 0 else if 4352 ≤ r then 4 else if narrowL.contains r then 1 else if wideL.contains r then 3 else 2
theorem fou_bd (r : Int) : 0 ≤ fou r ∧ fou r ≤ 4 := by
  unfold fou
  split
  · omega
  · split
    · omega
    · split
      · omega
      · split <;> omega
def narrowS : ByteArray := ⟨#[32, 105, 108, 106, 46, 44, 39, 33, 124, 58]⟩
def wideS : ByteArray := ⟨#[109, 119, 77, 87, 64]⟩
theorem narrow_is : ∀ n : Nat, n < 128 → decide (0 ≤ Lib.indexByte narrowS.data.toList n.toUInt8) = narrowL.contains (n : Int) := by decide +kernel
theorem wide_is : ∀ n : Nat, n < 128 → decide (0 ≤ Lib.indexByte wideS.data.toList n.toUInt8) = wideL.contains (n : Int) := by decide +kernel


theorem contains_high (s : ByteArray) (r : Nat) (w : World) (h0 : 128 ≤ r) (h1 : r < 4352) (hs : 3 ≤ s.size) (hs2 : s.size ≤ 100) (ha : ∀ x, x ∈ s.data.toList → x.toNat < 128) :
    Calls Try.prog 60 #[.string s, .int .i32 (r : Int)] w fun e w' => e = .returned (.bool false) ∧ Below w.heap.size w w' := by
  have HI := Lib.hid (IndexRune_high s r w h0 h1 hs hs2 ha)
  clear h0 h1 hs hs2 ha
  go_enter Try.func60, Try.ntmps60
  go_wp2_with fail
  refine HI.out.mono ?_
  rintro e w1 ⟨rfl, hB⟩
  have HB := Lib.hid hB
  clear hB
  go_wp2_with fail
  go_ret
  exact ⟨rfl, HB.out⟩
def ConPost (b : Bool) (w : World) (e : Ending) (w' : World) : Prop := e = .returned (.bool b) ∧ Below w.heap.size w w'
/-- Is a rune, neither below a blank nor above, one of the narrow ones? -/
theorem narrow_c (r : Nat) (w : World) (h1 : r < 4352) : Calls Try.prog 60 #[.string narrowS, .int .i32 (r : Int)] w (ConPost (narrowL.contains (r : Int)) w) := by
  by_cases h : r < 128
  · refine (Try.strings_ContainsRune_ascii narrowS (r : Int) w (by omega) (by omega)).mono ?_
    rintro e w' ⟨rfl, rfl⟩
    rw [Int.toNat_natCast, narrow_is r h]
    exact ⟨rfl, Below.refl _ _⟩
  · refine (contains_high narrowS r w (by omega) h1 (by decide) (by decide) (by decide)).mono ?_
    rintro e w' ⟨rfl, hB⟩
    have : narrowL.contains (r : Int) = false := by simp [narrowL]; omega
    rw [this]
    exact ⟨rfl, hB⟩
theorem wide_c (r : Nat) (w : World) (h1 : r < 4352) : Calls Try.prog 60 #[.string wideS, .int .i32 (r : Int)] w (ConPost (wideL.contains (r : Int)) w) := by
  by_cases h : r < 128
  · refine (Try.strings_ContainsRune_ascii wideS (r : Int) w (by omega) (by omega)).mono ?_
    rintro e w' ⟨rfl, rfl⟩
    rw [Int.toNat_natCast, wide_is r h]
    exact ⟨rfl, Below.refl _ _⟩
  · refine (contains_high wideS r w (by omega) h1 (by decide) (by decide) (by decide)).mono ?_
    rintro e w' ⟨rfl, hB⟩
    have : wideL.contains (r : Int) = false := by simp [wideL]; omega
    rw [this]
    exact ⟨rfl, hB⟩
theorem fou_c (r : Int) (w : World) : Calls Try.prog 43 #[.int .i32 r] w fun e w' => e = .returned (.int .i64 (fou r)) ∧ Below w.heap.size w w' := by
  by_cases a1 : r < 32
  · have e : fou r = 0 := by unfold fou; rw [if_pos (.inl a1)]
    rw [e]
    have n1 : decide (r < 32) = true := decide_eq_true a1
    clear e a1
    go_enter Try.func43, Try.ntmps43
    go_wp2_with fail
    go_ret
    exact ⟨rfl, Below.refl _ _⟩
  · by_cases a2 : r = 127
    · subst a2
      have e : fou 127 = 0 := by decide +kernel
      rw [e]
      clear e
      go_enter Try.func43, Try.ntmps43
      go_wp2_with fail
      go_ret
      exact ⟨rfl, Below.refl _ _⟩
    · by_cases a3 : 4352 ≤ r
      · have e : fou r = 4 := by unfold fou; rw [if_neg (by omega), if_pos a3]
        rw [e]
        have n1 : decide (r < 32) = false := decide_eq_false a1
        have n2 : (r == 127) = false := by simp [a2]
        have n3 : decide (4352 ≤ r) = true := decide_eq_true a3
        clear e a1 a2 a3
        go_enter Try.func43, Try.ntmps43
        go_wp2_with fail
        go_ret
        exact ⟨rfl, Below.refl _ _⟩
      · obtain ⟨k, rfl⟩ : ∃ k : Nat, r = (k : Int) := ⟨r.toNat, by omega⟩
        have NC := Lib.hid (narrow_c k w (by omega))
        have WC := Lib.hid (fun w => wide_c k w (by omega))
        have e : fou (k : Int) = if narrowL.contains (k : Int) then 1 else if wideL.contains (k : Int) then 3 else 2 := by unfold fou; rw [if_neg (by omega), if_neg a3]
        rw [e]
        have n1 : decide ((k : Int) < 32) = false := decide_eq_false a1
        have n2 : ((k : Int) == 127) = false := by simp; omega
        have n3 : decide ((4352 : Int) ≤ (k : Int)) = false := decide_eq_false a3
        clear e a1 a2 a3
        generalize narrowL.contains (k : Int) = b1 at *
        generalize wideL.contains (k : Int) = b2 at *
        cases b1 with
        | true =>
          go_enter Try.func43, Try.ntmps43
          go_wp2_with fail
          refine NC.out.mono ?_
          rintro e w1 ⟨rfl, hB⟩
          have HB := Lib.hid hB
          clear hB
          go_wp2_with fail
          go_ret
          exact ⟨rfl, HB.out⟩
        | false =>
          cases b2 with
          | true =>
            go_enter Try.func43, Try.ntmps43
            go_wp2_with fail
            refine NC.out.mono ?_
            rintro e w1 ⟨rfl, hB⟩
            have HB := Lib.hid hB
            clear hB
            go_wp2_with fail
            refine (WC.out w1).mono ?_
            rintro e w2 ⟨rfl, hB⟩
            have HB2 := Lib.hid (below_then HB.out HB.out.size hB)
            clear hB
            go_wp2_with fail
            go_ret
            exact ⟨rfl, HB2.out⟩
          | false =>
            go_enter Try.func43, Try.ntmps43
            go_wp2_with fail
            refine NC.out.mono ?_
            rintro e w1 ⟨rfl, hB⟩
            have HB := Lib.hid hB
            clear hB
            go_wp2_with fail
            refine (WC.out w1).mono ?_
            rintro e w2 ⟨rfl, hB⟩
            have HB2 := Lib.hid (below_then HB.out HB.out.size hB)
            clear hB
            go_wp2_with fail
            go_ret
            exact ⟨rfl, HB2.out⟩
/-- A size, cut. -/
def sz (n : Int) : Int := max 0 (cut n)
theorem sz_bd (n : Int) : 0 ≤ sz n ∧ sz n ≤ 16777216 := by have := cut_bd n; unfold sz; omega
theorem fcut_c (n : Int) (w : World) : Calls Try.prog 42 #[.int .i64 n] w fun e w' => e = .returned (.int .i64 (sz n)) ∧ w = w' := by
  go_enter Try.func42, Try.ntmps42
  go_wp2_with (go_at_call 17; refine (Cut_c _ _).mono ?_; rintro e w' ⟨rfl, rfl⟩)
  go_ret
  exact ⟨rfl, rfl⟩
/-- How wide a rune is. -/
def adv (r n : Int) : Int := prt (sz n) (fou r) 4
theorem Advance_c (r n : Int) (w : World) : Calls Try.prog 27 #[.int .i32 r, .int .i64 n] w fun e w' => e = .returned (.int .i64 (adv r n)) ∧ Below w.heap.size w w' := by
  have FC := Lib.hid (fou_c r w)
  go_enter Try.func27, Try.ntmps27
  go_wp2_with fail
  refine (fcut_c n w).mono ?_
  rintro e w' ⟨rfl, rfl⟩
  go_wp2_with fail
  refine FC.out.mono ?_
  rintro e w1 ⟨rfl, hB⟩
  have HB := Lib.hid hB
  clear hB
  go_wp2_with (go_at_call 41; refine (Part_c _ _ _ _ (by omega)).mono ?_; rintro e w' ⟨rfl, rfl⟩)
  go_ret
  exact ⟨rfl, HB.out⟩
def asc (n : Int) : Int := prt (sz n) 3 4
theorem Ascent_c (n : Int) (w : World) : Calls Try.prog 73 #[.int .i64 n] w fun e w' => e = .returned (.int .i64 (asc n)) ∧ w = w' := by
  go_enter Try.func73, Try.ntmps73
  go_wp2_with (first | (go_at_call 42; refine (fcut_c _ _).mono ?_; rintro e w' ⟨rfl, rfl⟩) | (go_at_call 41; refine (Part_c _ _ _ _ (by omega)).mono ?_; rintro e w' ⟨rfl, rfl⟩))
  go_ret
  exact ⟨rfl, rfl⟩
end Go.Proofs.Ytmkgapdadandmaa.Fnt
