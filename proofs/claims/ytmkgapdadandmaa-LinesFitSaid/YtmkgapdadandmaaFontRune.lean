/- strings.IndexRune: a rune above ASCII isn't found in a text of ASCII alone. -/
import Derived.Test.YtmkgapdadandmaaFix
import Derived.Test.YtmkgapdadandmaaShelf
import Derived.Test.YtmkgapdadandmaaWWords
import Derived.Test.YtmkgapdadandmaaWMore
import Derived.Lib.OthersKept
import Derived.Laws.RangeAny
import Derived.Deep.QuietTactic
import Derived.BigQuiet
namespace Go.Proofs.Ytmkgapdadandmaa.Fnt
open Go.RowKit Go.Proofs.Ytmkgapdadandmaa.Pl Go.Proofs.Ytmkgapdadandmaa.Fx Go.Proofs.YtmkgapdadandmaaW.PrintWords Go.Proofs.YtmkgapdadandmaaW.PrintMore
set_option linter.unusedVariables false
set_option linter.unusedSimpArgs false
attribute [local go_sem] mx2 mn2 mx_two mn_two mx_three mn_three

/-- A byte that isn't there is not found. -/
theorem index_none (l : List UInt8) (b : UInt8) (h : ∀ x, x ∈ l → x ≠ b) : Lib.indexByte l b = -1 := by
  induction l with
  | nil => rfl
  | cons a l ih =>
    have h1 := ih (fun x hx => h x (List.mem_cons_of_mem _ hx))
    have h2 := h a (List.mem_cons_self ..)
    simp [Lib.indexByte, h1, h2]
/-- What a rune above ASCII, of two or three bytes, is written as. -/
theorem encode_high (r : Nat) (h0 : 128 ≤ r) (h1 : r < 4352) : ∃ (m : Nat) (l : UInt8), (Utf8.encode (r : Int)).size = m + 1 ∧ 1 ≤ m ∧ m ≤ 2 ∧ (Utf8.encode (r : Int)).data.toList[m]? = some l ∧ 128 ≤ l.toNat := by
  have hv : Utf8.valid (r : Int) = true := by unfold Utf8.valid; simp; omega
  by_cases h : r < 2048
  · have e : Utf8.encode (r : Int) = ⟨#[UInt8.ofNat (192 + r / 64), UInt8.ofNat (128 + r % 64)]⟩ := by
      unfold Utf8.encode; rw [if_pos hv]; simp; rw [if_neg (by omega), if_pos (by omega)]
    refine ⟨1, UInt8.ofNat (128 + r % 64), by rw [e]; rfl, by omega, by omega, by rw [e]; rfl, ?_⟩
    rw [UInt8.toNat_ofNat']; omega
  · have e : Utf8.encode (r : Int) = ⟨#[UInt8.ofNat (224 + r / 4096), UInt8.ofNat (128 + r / 64 % 64), UInt8.ofNat (128 + r % 64)]⟩ := by
      unfold Utf8.encode; rw [if_pos hv]; simp; rw [if_neg (by omega), if_neg (by omega), if_pos (by omega)]
    refine ⟨2, UInt8.ofNat (128 + r % 64), by rw [e]; rfl, by omega, by omega, by rw [e]; rfl, ?_⟩
    rw [UInt8.toNat_ofNat']; omega

theorem idx_none (s : ByteArray) (p : Nat) (c : UInt8) (W : World) (n : Nat) (hs : ∀ x, x ∈ s.data.toList → x.toNat < 128) (hc : 128 ≤ c.toNat) :
    Calls Try.prog 30 #[.string (s.extract p s.size), .int .u8 (c.toNat : Int)] (W.drewN n) fun e w' => e = .returned (.int .i64 (-1)) ∧ ∃ m, w' = W.drewN m := by
  refine (Try.strings_IndexByte _ _ _).mono ?_
  rintro e w' ⟨rfl, rfl⟩
  refine ⟨?_, n, rfl⟩
  rw [index_none _ _ fun x hx => ?_]
  have hx2 : x ∈ s.data.toList := by
    simp [ByteArray.data_extract] at hx
    exact List.mem_of_mem_drop (List.mem_of_mem_take hx)
  have h1 := hs x hx2
  intro he
  rw [he] at h1
  simp at h1
  omega
set_option maxRecDepth 1000000 in
set_option maxHeartbeats 1000000 in
/-- A rune above ASCII isn't found in a text of ASCII alone. -/
theorem IndexRune_high (s : ByteArray) (r : Nat) (w : World) (h0 : 128 ≤ r) (h1 : r < 4352) (hs : 3 ≤ s.size) (hs2 : s.size ≤ 100) (ha : ∀ x, x ∈ s.data.toList → x.toNat < 128) :
    Calls Try.prog 69 #[.string s, .int .i32 (r : Int)] w fun e w' => e = .returned (.int .i64 (-1)) ∧ Below w.heap.size w w' := by
  obtain ⟨m, l, e1, e2, e3, e4, e5⟩ := encode_high r h0 h1
  have n1 : decide ((r : Int) < 128) = false := decide_eq_false (by omega)
  have n0 : decide ((0 : Int) ≤ (r : Int)) = true := decide_eq_true (by omega)
  have n2 : ((r : Int) == 65533) = false := by simp; omega
  have hv : Lib.validRune (r : Int) = true := by unfold Lib.validRune; simp; omega
  generalize henc : Utf8.encode (r : Int) = rs at *
  have HA := Lib.hid ha
  have E4 := Lib.hid e4
  have E5 := Lib.hid e5
  clear ha e4 e5 h0 h1
  obtain rfl | rfl : m = 1 ∨ m = 2 := by omega
  · have q2 : rs[1]'(by omega) = l := by have h := E4.out; rw [List.getElem?_eq_getElem (by simp; omega)] at h; injection h
    have hc : 128 ≤ (rs[1]'(by omega)).toNat := by rw [q2]; exact E5.out
    have q1 := HA.out (s[1]'(by omega)) (by simp [ByteArray.getElem_eq_getElem_data])
    have ht : (((s[1]'(by omega)).toNat : Int) != ((rs[1]'(by omega)).toNat : Int)) = true := by simp; omega
    have HC := Lib.hid hc
    clear hc q1 q2
    go_enter Try.func69, Try.ntmps69
    go_wp2_with fail
    refine (Try.utf8_ValidRune _ _).mono ?_
    rintro e w' ⟨rfl, rfl⟩
    go_wp2_with fail
    go_step3
    go_wp2_with fail
    go_loop [9] (fun i => i = .int .i64 1) (fun _ => 0)
    case atStart => exact rfl
    case round =>
      obtain rfl := hrel
      have i0 : 1 < s.size := by omega
      have i1 : 1 < rs.size := by omega
      clear n0 n1 n2 hv
      go_wp2_with fail
      go_step3
      go_wp2_with fail
      go_quiet (fail)
      have hB : Below w'.heap.size w' (w'.drewN nq) := pw_below_drewN (Below.refl _ _) nq
      generalize w'.drewN nq = w2 at *
      have HB := Lib.hid hB
      clear hB
      go_wp2_with fail
      go_quiet ((go_at_call 30; exact idx_none s _ _ _ _ HA.out HC.out))
      have hB : Below w'.heap.size w' (w2.drewN nq) := pw_below_drewN HB.out nq
      have HB2 := Lib.hid hB
      clear hB
      go_wp2_with fail
      simp (config := { zetaDelta := true }) only [Exit.noGoto, Exit.inBlock, Exit.then]
      go_ret
      exact ⟨rfl, HB2.out⟩
  · have q2 : rs[2]'(by omega) = l := by have h := E4.out; rw [List.getElem?_eq_getElem (by simp; omega)] at h; injection h
    have hc : 128 ≤ (rs[2]'(by omega)).toNat := by rw [q2]; exact E5.out
    have q1 := HA.out (s[2]'(by omega)) (by simp [ByteArray.getElem_eq_getElem_data])
    have ht : (((s[2]'(by omega)).toNat : Int) != ((rs[2]'(by omega)).toNat : Int)) = true := by simp; omega
    have HC := Lib.hid hc
    clear hc q1 q2
    go_enter Try.func69, Try.ntmps69
    go_wp2_with fail
    refine (Try.utf8_ValidRune _ _).mono ?_
    rintro e w' ⟨rfl, rfl⟩
    go_wp2_with fail
    go_step3
    go_wp2_with fail
    go_loop [9] (fun i => i = .int .i64 2) (fun _ => 0)
    case atStart => exact rfl
    case round =>
      obtain rfl := hrel
      have i0 : 2 < s.size := by omega
      have i1 : 2 < rs.size := by omega
      clear n0 n1 n2 hv
      go_wp2_with fail
      go_step3
      go_wp2_with fail
      go_quiet (fail)
      have hB : Below w'.heap.size w' (w'.drewN nq) := pw_below_drewN (Below.refl _ _) nq
      generalize w'.drewN nq = w2 at *
      have HB := Lib.hid hB
      clear hB
      go_wp2_with fail
      go_quiet ((go_at_call 30; exact idx_none s _ _ _ _ HA.out HC.out))
      have hB : Below w'.heap.size w' (w2.drewN nq) := pw_below_drewN HB.out nq
      have HB2 := Lib.hid hB
      clear hB
      go_wp2_with fail
      simp (config := { zetaDelta := true }) only [Exit.noGoto, Exit.inBlock, Exit.then]
      go_ret
      exact ⟨rfl, HB2.out⟩
end Go.Proofs.Ytmkgapdadandmaa.Fnt
