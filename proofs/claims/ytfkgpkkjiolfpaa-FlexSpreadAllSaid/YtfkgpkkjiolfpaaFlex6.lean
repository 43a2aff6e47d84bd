/- Flexible rows: what is free now; is there one who is not settled? For every input. -/
import Derived.Test.YtfkgpkkjiolfpaaFlex5
namespace Go.Proofs.Ytfkgpkkjiolfpaa.Flx
open Go.RowKit Go.Lib Go.Proofs.Ytfkgpkkjiolfpaa.Rgn Go.Proofs.Ytfkgpkkjiolfpaa.Pl Go.Proofs.Ytfkgpkkjiolfpaa.Fx Go.Proofs.Ytfkgpkkjiolfpaa.Sh Go.Proofs.Ytfkgpkkjiolfpaa.Sm Go.Proofs.YtfkgpkkjiolfpaaW.PrintWords Go.Proofs.YtfkgpkkjiolfpaaW.PrintLast Go.Proofs.YtfkgpkkjiolfpaaW.PrintMore
set_option linter.unusedVariables false
set_option linter.unusedSimpArgs false
attribute [local go_sem] mx2 mn2 mx_two mn_two mx_three mn_three

theorem now_c (base g : Nat) (room : Int) (grows : Bool) (l : List It) (w : World) (h : IsR w base g room grows l)
    (hs : ∀ x, x ∈ l → Small nowOf x) (hl : l.length ≤ 1000) (hr0 : -1000000000000 ≤ room) (hr1 : room ≤ 1000000000000) :
    Calls Try.prog 48 #[.pointer (some ⟨g, 0, none⟩)] w fun e w' => e = .returned (.int .i64 (freeP room nowOf l)) ∧ Below w.heap.size w w' := by
  have HC := Lib.hid (free_c 75 (.inr rfl) nowOf now1_c base g room grows l w h hs hl hr0 hr1)
  clear h hs
  go_enter Try.func48, Try.ntmps48
  go_wp2_with fail
  refine HC.out.mono ?_
  rintro e w1 ⟨rfl, h1⟩
  have H1 := Lib.hid h1
  clear h1
  go_wp2_with fail
  go_ret
  exact ⟨rfl, H1.out⟩

def IdxPost (l : List It) (w : World) (e : Ending) (w' : World) : Prop := ∃ r : Int, e = .returned (.int .i64 r) ∧ (0 ≤ r ↔ 0 < unset l) ∧ Below w.heap.size w w'
theorem unset_app (a b : List It) : unset (a ++ b) = unset a + unset b := by simp [unset]
set_option maxRecDepth 100000 in
set_option maxHeartbeats 2000000 in
theorem index_c (A : Option Addr) (n c : Nat) (l : List It) (w : World) (hC : Kd.C k95 w A n l) (hn : n ≤ 1000) :
    Calls Try.prog 76 #[.slice A n c, .func (.func 50) #[] #[]] w (IdxPost l w) := by
  have hln : l.length = n := hC.1
  have LN := Lib.hid hln
  have HC := Lib.hid hC
  clear hC hln
  go_enter Try.func76, Try.ntmps76
  go_wp2_with fail
  go_loopw [8] (fun i wr => ∃ k : Nat, k ≤ n ∧ i = .int .i64 k ∧ Hid (unset (l.take k) = 0) ∧ Hid (Below w.heap.size w wr)) (fun i _ => n - (RowKit.intOf i).toNat)
  case atStart => exact ⟨0, Nat.zero_le _, rfl, rfl, Below.refl _ _⟩
  case round =>
    obtain ⟨k, hk, rfl, hU, hB⟩ := hrel
    by_cases hlt : k < n
    · have hkl : k < l.length := by rw [LN.out]; exact hlt
      obtain ⟨ad, ea, x0, x1, x2, x3, x4, x5, x6, x7, x8⟩ := at_T95 (Kd.C_below HC.out hB.out) (k : Int) (by omega) (by omega)
      subst ea
      rw [Int.toNat_natCast] at x0 x1 x2 x3 x4 x5 x6 x7 x8
      have hts := take_snocI l k hkl
      have hu1 : unset (l.take (k + 1)) = if (rd_T95 l (k : Int)).f2 = true then 0 else 1 := by
        rw [hts, unset_app, hU.out]
        unfold unset
        cases h : (rd_T95 l (k : Int)).f2 <;> simp [h]
      have hu2 : unset (l.take (k + 1)) ≤ unset l := by
        have h3 := unset_app (l.take (k + 1)) (l.drop (k + 1))
        rw [List.take_append_drop] at h3
        omega
      have HUC := Lib.hid (fun ww => unset_c (rd_T95 l (k : Int)) ww)
      generalize rd_T95 l (k : Int) = x at *
      obtain ⟨⟨a0, a1, a2, a3, a4, a5⟩, a6, a7, a8⟩ := x
      simp only at x0 x1 x2 x3 x4 x5 x6 x7 x8
      have HU1 := Lib.hid hu1
      have HU2 := Lib.hid hu2
      clear hu1 hu2 hts hkl
      go_wp2_with fail
      refine (HUC.out _).mono ?_
      rintro e w1 ⟨rfl, h1⟩
      have HB1 := Lib.hid (below_then hB.out hB.out.size h1)
      clear h1 x0 x1 x2 x3 x4 x5 x6 x7 x8
      cases a7 with
      | true =>
        have HU3 : Hid (unset (l.take (k + 1)) = 0) := Lib.hid HU1.out
        go_wp2_with fail
        exact ⟨⟨k + 1, by omega, by go_num, HU3.out, HB1.out⟩, by simp [RowKit.intOf]; omega⟩
      | false =>
        have hu3 : unset (l.take (k + 1)) = 1 := HU1.out
        have POST : Hid (IdxPost l w (.returned (.int .i64 (k : Int))) w1) := Lib.hid ⟨_, rfl, ⟨fun _ => by have := HU2.out; omega, fun _ => by omega⟩, HB1.out⟩
        clear hu3
        go_wp2_with fail
        go_ret
        exact POST.out
    · obtain rfl : k = n := by omega
      have hkn : l.take k = l := List.take_of_length_le (by rw [LN.out]; exact Nat.le_refl _)
      rw [hkn] at hU
      have hu0 := hU.out
      have POST : Hid (IdxPost l w (.returned (.int .i64 (-1))) wr) := Lib.hid ⟨_, rfl, ⟨fun h => by omega, fun h => by omega⟩, hB.out⟩
      clear hkn hu0
      go_wp2_with fail
      go_ret
      exact POST.out
theorem contains_c (A : Option Addr) (n c : Nat) (l : List It) (b : Bool) (w : World) (hC : Kd.C k95 w A n l) (hn : n ≤ 1000) (hb : decide (0 < unset l) = b) :
    Calls Try.prog 49 #[.slice A n c, .func (.func 50) #[] #[]] w fun e w' => e = .returned (.bool b) ∧ Below w.heap.size w w' := by
  have HC := Lib.hid (index_c A n c l w hC hn)
  have HB := Lib.hid hb
  clear hC hb
  go_enter Try.func49, Try.ntmps49
  go_wp2_with fail
  refine HC.out.mono ?_
  rintro e w1 ⟨r, rfl, h1, h2⟩
  have H2 := Lib.hid h2
  have e2 : b = decide (0 ≤ r) := by
    rw [← HB.out]
    by_cases h : 0 ≤ r
    · rw [decide_eq_true (h1.1 h), decide_eq_true h]
    · rw [decide_eq_false (fun h3 => h (h1.2 h3)), decide_eq_false h]
  have E2 := Lib.hid e2
  clear h1 h2 e2
  go_wp2_with fail
  go_ret
  exact ⟨by rw [E2.out]; rfl, H2.out⟩
end Go.Proofs.Ytfkgpkkjiolfpaa.Flx
