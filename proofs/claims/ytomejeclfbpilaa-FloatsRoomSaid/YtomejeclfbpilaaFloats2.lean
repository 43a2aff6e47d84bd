/- Package floats: next, Clear, Edges, All. -/
import Derived.Test.YtomejeclfbpilaaFloats
namespace Go.Proofs.Ytomejeclfbpilaa.Fl
open Go.RowKit Go.Proofs.Ytomejeclfbpilaa.Pl Go.Proofs.Ytomejeclfbpilaa.Fx Go.Proofs.YtomejeclfbpilaaW.PrintWords Go.Proofs.YtomejeclfbpilaaW.PrintLast Go.Proofs.YtomejeclfbpilaaW.PrintMore
set_option linter.unusedVariables false
set_option linter.unusedSimpArgs false
attribute [local go_sem] mx2 mn2 mx_two mn_two mx_three mn_three

theorem Edges_c (g : Nat) (width : Int) (l : List F) (y h : Int) (w : World) (hI : IsF w g width l) (hok : ∀ f, f ∈ l → okF f) (hlen : (l.length : Int) ≤ 1000000) :
    Calls Try.prog 28 #[.pointer (some ⟨g, 0, none⟩), .int .i64 y, .int .i64 h] w fun e w' => e = .returned (.tuple #[.int .i64 (edges width l (cut y) (cut h)).1, .int .i64 (edges width l (cut y) (cut h)).2.1]) ∧ Below w.heap.size w w' := by
  have hy : fits (cut y) := by have := cut_bd y; unfold fits; omega
  have hh : fits (cut h) := by have := cut_bd h; unfold fits; omega
  have HK := Lib.hid hok
  have HI := Lib.hid hI
  have HY := Lib.hid hy
  have HH := Lib.hid hh
  clear hok hI hy hh
  go_enter Try.func28, Try.ntmps28
  go_wp2_with (first
    | (go_at_call 17; refine (Cut_c _ _).mono ?_; rintro e w' ⟨rfl, rfl⟩)
    | (go_at_call 46; refine (edges_c g width l _ _ _ HI.out HK.out HY.out HH.out hlen).mono ?_; rintro e w' ⟨rfl, hB⟩))
  go_ret2
  exact ⟨rfl, hB⟩

/-- The next place below y at which something ends. -/
def stepN (y : Int) (a : Int) (f : F) : Int := if y < f.f0.f1 + f.f0.f3 ∧ (a < 0 ∨ f.f0.f1 + f.f0.f3 < a) then f.f0.f1 + f.f0.f3 else a
def least (l : List F) (y : Int) : Int := l.foldl (stepN y) (-1)
def nextP (l : List F) (y : Int) : Int := max (least l y) (y + 1)
theorem least_snoc (l : List F) (y : Int) (f : F) : least (l ++ [f]) y = stepN y (least l y) f := by simp [least]

set_option maxHeartbeats 1000000 in
theorem next_c (g : Nat) (width : Int) (l : List F) (y : Int) (w : World) (hI : IsF w g width l) (hok : ∀ f, f ∈ l → okF f) (hy : fits y) (hlen : (l.length : Int) ≤ 1000000) :
    Calls Try.prog 47 #[.pointer (some ⟨g, 0, none⟩), .int .i64 y] w fun e w' => e = .returned (.int .i64 (nextP l y)) ∧ Below w.heap.size w w' := by
  obtain ⟨A, c, h1, h2, h3, h4, h5, h6⟩ := hI.reads
  have HK := Lib.hid hok
  have H3 := Lib.hid h3
  obtain ⟨y1, y2⟩ := hy
  clear hok h3 h4 hI
  go_enter Try.func47, Try.ntmps47
  go_wp2
  go_loopw [5, 14] (fun a i wr => ∃ k : Nat, k ≤ l.length ∧ i = .int .i64 k ∧ a = .int .i64 (least (l.take k) y) ∧ Hid (Below w.heap.size w wr)) (fun _ i _ => l.length - (intOf i).toNat)
  case atStart => exact ⟨0, Nat.zero_le _, rfl, rfl, Below.refl _ _⟩
  case round =>
    obtain ⟨k, hk, rfl, rfl, hB⟩ := hrel
    by_cases hlt : k < l.length
    · obtain ⟨ad, ea, x0, x1, x2, x3, x4⟩ := at_T80 (Kd.C_below H3.out hB.out) (k : Int) (by omega) (by omega)
      subst ea
      have hf := HK.out _ (rd_mem l k hlt)
      have hsn := least_snoc (l.take k) y (rd_T80 l (k : Int))
      rw [← take_snocF l k hlt] at hsn
      rw [Int.toNat_natCast] at x0 x1 x2 x3 x4
      generalize rd_T80 l (k : Int) = f at *
      generalize least (l.take k) y = a at *
      have SN := Lib.hid hsn
      obtain ⟨-, ⟨f1, f2⟩, -, ⟨f3, f4⟩⟩ := hf
      have hrel' : ∀ o, Hid (Below w.heap.size w (wr.alloc o)) := fun o => below_alloc hB.out o
      have HR := Lib.hid hrel'
      clear hsn hrel'
      by_cases c1 : y < f.f0.f1 + f.f0.f3
      · by_cases c2 : a < 0
        · have e1 : stepN y a f = f.f0.f1 + f.f0.f3 := by unfold stepN; rw [if_pos ⟨c1, Or.inl c2⟩]
          have E1 := Lib.hid e1
          clear e1
          go_wp2
          go_roundw
          case rel => exact ⟨k + 1, by omega, by go_num, by rw [SN.out, E1.out], HR.out _⟩
          case measure => simp [intOf]; omega
        · by_cases c3 : f.f0.f1 + f.f0.f3 < a
          · have e1 : stepN y a f = f.f0.f1 + f.f0.f3 := by unfold stepN; rw [if_pos ⟨c1, Or.inr c3⟩]
            have E1 := Lib.hid e1
            clear e1
            go_wp2
            go_roundw
            case rel => exact ⟨k + 1, by omega, by go_num, by rw [SN.out, E1.out], HR.out _⟩
            case measure => simp [intOf]; omega
          · have e1 : stepN y a f = a := by unfold stepN; rw [if_neg (by omega)]
            have E1 := Lib.hid e1
            clear e1
            go_wp2
            go_roundw
            case rel => exact ⟨k + 1, by omega, by go_num, by rw [SN.out, E1.out], HR.out _⟩
            case measure => simp [intOf]; omega
      · have e1 : stepN y a f = a := by unfold stepN; rw [if_neg (by omega)]
        have E1 := Lib.hid e1
        clear e1
        go_wp2
        go_roundw
        case rel => exact ⟨k + 1, by omega, by go_num, by rw [SN.out, E1.out], HR.out _⟩
        case measure => simp [intOf]; omega
    · have hkn : l.take k = l := List.take_of_length_le (by omega)
      rw [hkn]
      clear hkn
      go_wp2
      go_ret
      exact ⟨rfl, hB.out⟩

/-- How far down what floats at a side reaches. -/
def stepC (s : Int) (a : Int) (f : F) : Int := if f.f1 = s ∨ s = 3 then max a (f.f0.f1 + f.f0.f3) else a
def clearP (l : List F) (s y : Int) : Int := l.foldl (stepC s) (cut y)
theorem clear_snoc (l : List F) (s y : Int) (f : F) : clearP (l ++ [f]) s y = stepC s (clearP l s y) f := by simp [clearP]

set_option maxHeartbeats 1000000 in
theorem Clear_c (g : Nat) (width : Int) (l : List F) (y : Int) (w : World) (hI : IsF w g width l) (hok : ∀ f, f ∈ l → okF f) (hlen : (l.length : Int) ≤ 1000000) :
    Calls Try.prog 29 #[.pointer (some ⟨g, 0, none⟩), .int .i64 3, .int .i64 y] w fun e w' => e = .returned (.int .i64 (clearP l 3 y)) ∧ Below w.heap.size w w' := by
  obtain ⟨A, c, h1, h2, h3, h4, h5, h6⟩ := hI.reads
  have HK := Lib.hid hok
  have H3 := Lib.hid h3
  clear hok h3 h4 hI
  go_enter Try.func29, Try.ntmps29
  go_wp2_with (go_at_call 17; refine (Cut_c _ _).mono ?_; rintro e w' ⟨rfl, rfl⟩)
  go_loopw [2, 16] (fun a i wr => ∃ k : Nat, k ≤ l.length ∧ i = .int .i64 k ∧ a = .int .i64 (clearP (l.take k) 3 y) ∧ Hid (Below w.heap.size w wr)) (fun _ i _ => l.length - (intOf i).toNat)
  case atStart => exact ⟨0, Nat.zero_le _, rfl, rfl, Below.refl _ _⟩
  case round =>
    obtain ⟨k, hk, rfl, rfl, hB⟩ := hrel
    by_cases hlt : k < l.length
    · obtain ⟨ad, ea, x0, x1, x2, x3, x4⟩ := at_T80 (Kd.C_below H3.out hB.out) (k : Int) (by omega) (by omega)
      subst ea
      have hf := HK.out _ (rd_mem l k hlt)
      have hsn := clear_snoc (l.take k) 3 y (rd_T80 l (k : Int))
      rw [← take_snocF l k hlt] at hsn
      rw [Int.toNat_natCast] at x0 x1 x2 x3 x4
      generalize rd_T80 l (k : Int) = f at *
      generalize clearP (l.take k) 3 y = a at *
      have e1 : stepC 3 a f = max a (f.f0.f1 + f.f0.f3) := by unfold stepC; rw [if_pos (Or.inr rfl)]
      have SN := Lib.hid hsn
      have E1 := Lib.hid e1
      obtain ⟨-, ⟨f1, f2⟩, -, ⟨f3, f4⟩⟩ := hf
      have hrel' : ∀ o, Hid (Below w.heap.size w (wr.alloc o)) := fun o => below_alloc hB.out o
      have HR := Lib.hid hrel'
      clear hsn hrel' e1
      by_cases hs : f.f1 = 3
      · have hs' : (f.f1 == 3) = true := by simp [hs]
        clear hs
        go_wp2
        go_roundw
        case rel => exact ⟨k + 1, by omega, by go_num, by rw [SN.out, E1.out], HR.out _⟩
        case measure => simp [intOf]; omega
      · have hs' : (f.f1 == 3) = false := by simp [hs]
        clear hs
        go_wp2
        go_roundw
        case rel => exact ⟨k + 1, by omega, by go_num, by rw [SN.out, E1.out], HR.out _⟩
        case measure => simp [intOf]; omega
    · have hkn : l.take k = l := List.take_of_length_le (by omega)
      rw [hkn]
      clear hkn
      go_wp2
      go_ret
      exact ⟨rfl, hB.out⟩
end Go.Proofs.Ytomejeclfbpilaa.Fl
