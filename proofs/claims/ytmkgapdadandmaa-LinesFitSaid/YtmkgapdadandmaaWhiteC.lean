/- Package white: Keeps, Collapse. Blanks are collapsed letter by letter. -/
import Derived.Test.YtmkgapdadandmaaFix
import Derived.Test.YtmkgapdadandmaaWWords
import Derived.Test.YtmkgapdadandmaaWMore
import Derived.Test.YtmkgapdadandmaaShelf
import Derived.Lib.LazyBuf
import Derived.Deep.QuietTactic
import Derived.BigQuiet
namespace Go.Proofs.Ytmkgapdadandmaa.Wh
open Go.RowKit Go.Proofs.Ytmkgapdadandmaa.Pl Go.Proofs.Ytmkgapdadandmaa.Fx Go.Proofs.YtmkgapdadandmaaW.PrintWords Go.Proofs.YtmkgapdadandmaaW.PrintMore
set_option linter.unusedVariables false
set_option linter.unusedSimpArgs false

def nat (b : UInt8) : Int := (b.toNat : Int)
def isB (c : UInt8) : Bool := c == 32 || c == 9 || c == 10 || c == 12 || c == 13
def stp (p : List UInt8 × Bool) (c : UInt8) : List UInt8 × Bool := if isB c = true then (if p.2 = true then (p.1, true) else (p.1 ++ [32], true)) else (p.1 ++ [c], false)
/-- What blanks are collapsed to, from a blank that stands ahead or not. -/
def coll (l : List UInt8) (b : Bool) : List UInt8 × Bool := l.foldl stp ([], b)
def keeps (mode : Int) : Bool := mode == 1 || mode == 3

theorem coll_snoc (l : List UInt8) (b : Bool) (c : UInt8) : coll (l ++ [c]) b = stp (coll l b) c := by simp [coll]
theorem coll_len (l : List UInt8) (b : Bool) : (coll l b).1.length ≤ l.length := by
  have key : ∀ (l : List UInt8) (p : List UInt8 × Bool), (l.foldl stp p).1.length ≤ p.1.length + l.length := by
    intro l
    induction l with
    | nil => intro p; simp
    | cons c l ih =>
      intro p
      rw [List.foldl_cons]
      have h1 := ih (stp p c)
      have h2 : (stp p c).1.length ≤ p.1.length + 1 := by
        unfold stp
        split
        · split <;> simp
        · simp
      simp only [List.length_cons]
      omega
  have := key l ([], b)
  simpa [coll] using this

theorem keeps_c (mode : Int) (w : World) : Calls Try.prog 18 #[.int .i64 mode] w fun e w' => e = .returned (.bool (keeps mode)) ∧ w = w' := by
  by_cases h : mode = 1
  · have hx : (mode == 1) = true := by simp [h]
    have hk : keeps mode = true := by simp [keeps, h]
    have HK := Lib.hid hk
    clear hk h
    go_enter Try.func18, Try.ntmps18
    go_wp2
    go_ret
    exact ⟨by rw [HK.out]; rfl, rfl⟩
  · have hx : (mode == 1) = false := by simp [h]
    have hk : keeps mode = (mode == 3) := by simp [keeps, h]
    have HK := Lib.hid hk
    clear hk h
    go_enter Try.func18, Try.ntmps18
    go_wp2
    go_ret
    exact ⟨by rw [HK.out]; rfl, rfl⟩

theorem blank_eq (c : UInt8) : decide (0 ≤ Lib.indexByte [32, 9, 10, 12, 13] c) = isB c := by
  have key : ∀ n : Fin 256, decide (0 ≤ Lib.indexByte [32, 9, 10, 12, 13] (UInt8.ofNat n.val)) = isB (UInt8.ofNat n.val) := by decide +kernel
  have := key ⟨c.toNat, c.toNat_lt⟩
  simpa using this

theorem isBlank_c (c : UInt8) (w : World) : Calls Try.prog 19 #[.int .u8 (c.toNat : Int)] w fun e w' => e = .returned (.bool (isB c)) ∧ w = w' := by
  have h := Try.strings_IndexByte ⟨#[32, 9, 10, 12, 13]⟩ (c.toNat : Int) w
  have e1 : ((c.toNat : Int)).toNat.toUInt8 = c := by simp
  rw [e1] at h
  have hb := blank_eq c
  have HB := Lib.hid hb
  have HH := Lib.hid h
  clear h hb e1
  go_enter Try.func19, Try.ntmps19
  go_wp2_with (go_at_call 30; refine HH.out.mono ?_; rintro e w' ⟨rfl, rfl⟩)
  go_ret
  exact ⟨by rw [← HB.out]; rfl, rfl⟩

theorem Collapse_k (s : ByteArray) (mode : Int) (blank : Bool) (w : World) (hk : keeps mode = true) :
    Calls Try.prog 10 #[.string s, .int .i64 mode, .bool blank] w fun e w' => e = .returned (.tuple #[.string s, .bool false]) ∧ w = w' := by
  go_enter Try.func10, Try.ntmps10
  go_wp2_with (go_at_call 18; refine (keeps_c _ _).mono ?_; rintro e w' ⟨rfl, rfl⟩)
  go_ret2
  exact ⟨rfl, rfl⟩

theorem info8 : (Try.prog.info? 5).map (fun i => (i.zero, i.size, i.bytes)) = some (some (.int .u8 0), 1, 1) := by kernel_rfl

theorem take_snoc8 (s : ByteArray) (k : Nat) (h : k < s.size) : s.data.toList.take (k + 1) = s.data.toList.take k ++ [s[k]] := by
  rw [List.take_succ_eq_append_getElem (by simpa using h)]; rfl

set_option maxHeartbeats 1000000 in
theorem Collapse_c (s : ByteArray) (mode : Int) (blank : Bool) (w : World) (hk : keeps mode = false) (hs : s.size ≤ 140737488351232) :
    Calls Try.prog 10 #[.string s, .int .i64 mode, .bool blank] w fun e w' => e = .returned (.tuple #[.string ⟨(coll s.data.toList blank).1.toArray⟩, .bool (coll s.data.toList blank).2]) ∧ Below w.heap.size w w' := by
  go_enter Try.func10, Try.ntmps10
  go_wp2_with (go_at_call 18; refine (keeps_c _ _).mono ?_; rintro e w' ⟨rfl, rfl⟩)
  go_loopw [2, 8, 16] (fun b v i wr => ∃ k : Nat, k ≤ s.size ∧ i = .int .i64 k ∧ b = .bool (coll (s.data.toList.take k) blank).2 ∧
      Hid (wr.ownsRow w.heap.size 5 1 v ((coll (s.data.toList.take k) blank).1.map nat).length (nums .u8 ((coll (s.data.toList.take k) blank).1.map nat))) ∧ Hid (Below w.heap.size w wr)) (fun _ _ i _ => s.size - (intOf i).toNat)
  case atStart => exact ⟨0, Nat.zero_le _, rfl, rfl, own_nil _ _ _ _, Below.refl _ _⟩
  case round =>
    obtain ⟨k, hkk, rfl, rfl, hO, hB⟩ := hrel
    have hlen : ((coll (s.data.toList.take k) blank).1.map nat).length ≤ k := by
      have := coll_len (s.data.toList.take k) blank
      rw [List.length_map]
      have h2 : (s.data.toList.take k).length ≤ k := List.length_take_le _ _
      omega
    by_cases hlt : k < s.size
    · have hsn : coll (s.data.toList.take (k + 1)) blank = stp (coll (s.data.toList.take k) blank) s[k] := by rw [take_snoc8 s k hlt, coll_snoc]
      generalize coll (s.data.toList.take k) blank = st at *
      obtain ⟨acc, bl⟩ := st
      simp only at hO hlen
      by_cases hb : isB s[k] = true
      · cases bl with
        | true =>
          have e1 : coll (s.data.toList.take (k + 1)) blank = (acc, true) := by rw [hsn]; simp [stp, hb]
          have E1 := Lib.hid e1
          clear e1 hsn
          go_wp2_with (go_at_call 19; refine (isBlank_c _ _).mono ?_; rintro e w' ⟨rfl, rfl⟩)
          go_roundw
          case rel => exact ⟨k + 1, by omega, by go_num, by rw [E1.out], by rw [E1.out]; exact hO, hB⟩
          case measure => simp [intOf]; omega
        | false =>
          have e1 : coll (s.data.toList.take (k + 1)) blank = (acc ++ [32], true) := by rw [hsn]; simp [stp, hb]
          have E1 := Lib.hid e1
          clear e1 hsn
          go_wp2_with (first
            | (go_at_call 19; refine (isBlank_c _ _).mono ?_; rintro e w' ⟨rfl, rfl⟩)
            | (at_builtin; refine print_append_num (w0 := w) w.heap.size rfl (.tmp 33) (.tmp 34) 53 5 .u8 1 rfl Try.underlying53 info8 (by decide) _ (acc.map nat) 32 rfl rfl hO.out hB.out hB.out.size (by omega) ?_; intro v1 w1 hO1 hB1 hG1 hat1; have O1 := Lib.hid hO1; have B1 := Lib.hid hB1; clear hO1 hB1 hG1 hat1))
          go_roundw
          case rel => exact ⟨k + 1, by omega, by go_num, by rw [E1.out], Lib.hid (by rw [E1.out]; simpa [nat] using O1.out), B1⟩
          case measure => simp [intOf]; omega
      · have hb' : isB s[k] = false := by simpa using hb
        have e1 : coll (s.data.toList.take (k + 1)) blank = (acc ++ [s[k]], false) := by rw [hsn]; simp [stp, hb]
        have E1 := Lib.hid e1
        clear e1 hsn hb
        go_wp2_with (first
          | (go_at_call 19; refine (isBlank_c _ _).mono ?_; rintro e w' ⟨rfl, rfl⟩)
          | (at_builtin; refine print_append_num (w0 := w) w.heap.size rfl (.tmp 26) (.tmp 28) 53 5 .u8 1 rfl Try.underlying53 info8 (by decide) _ (acc.map nat) _ rfl rfl hO.out hB.out hB.out.size (by omega) ?_; intro v1 w1 hO1 hB1 hG1 hat1; have O1 := Lib.hid hO1; have B1 := Lib.hid hB1; clear hO1 hB1 hG1 hat1))
        go_roundw
        case rel => exact ⟨k + 1, by omega, by go_num, by rw [E1.out], Lib.hid (by rw [E1.out]; simpa [nat] using O1.out), B1⟩
        case measure => simp [intOf]; omega
    · have hks : s.data.toList.take k = s.data.toList := List.take_of_length_le (by simp; omega)
      rw [hks] at hO hlen ⊢
      clear hks
      have hcv := own_string (P := Try.prog) Try.underlying53 Try.underlying5 Try.underlying9 hO.out
      have hsm : strOfNums ((coll s.data.toList blank).1.map nat) = ⟨(coll s.data.toList blank).1.toArray⟩ := Go.Lib.Lz.strOfNums_map _
      rw [hsm] at hcv
      clear hsm hO hlen
      go_wp2
      go_ret2
      exact ⟨rfl, hB.out⟩

end Go.Proofs.Ytmkgapdadandmaa.Wh
