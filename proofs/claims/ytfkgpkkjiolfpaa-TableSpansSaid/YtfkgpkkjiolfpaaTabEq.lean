/- Alike rows of numbers; the form of a row of the call's own. -/
import Derived.Test.YtfkgpkkjiolfpaaFix
import Derived.Test.YtfkgpkkjiolfpaaWWords
import Derived.Test.YtfkgpkkjiolfpaaWLast
import Derived.Test.YtfkgpkkjiolfpaaWMore
import Derived.Test.YtfkgpkkjiolfpaaRegion
import Derived.Test.YtfkgpkkjiolfpaaStruct
namespace Go.Proofs.Ytfkgpkkjiolfpaa.Tab
open Go.RowKit Go.Lib Go.Proofs.Ytfkgpkkjiolfpaa.Blk Go.Proofs.Ytfkgpkkjiolfpaa.Rgn Go.Proofs.Ytfkgpkkjiolfpaa.Pl Go.Proofs.Ytfkgpkkjiolfpaa.Fx Go.Proofs.YtfkgpkkjiolfpaaW.PrintWords Go.Proofs.YtfkgpkkjiolfpaaW.PrintLast Go.Proofs.YtfkgpkkjiolfpaaW.PrintMore
set_option linter.unusedVariables false
set_option linter.unusedSimpArgs false
attribute [local go_sem] mx2 mn2 mx_two mn_two mx_three mn_three

set_option maxRecDepth 100000 in
set_option maxHeartbeats 2000000 in
theorem eq_c (b1 b2 g1 g2 n c1 c2 : Nat) (xs : List Int) (w : World) (h1 : w.ownsRow b1 3 1 (.slice (some ⟨g1, 0, none⟩) n c1) n (nums .i64 xs)) (h2 : w.ownsRow b2 3 1 (.slice (some ⟨g2, 0, none⟩) n c2) n (nums .i64 xs)) (hn : n ≤ 1000000) :
    Calls Try.prog 33 #[.slice (some ⟨g1, 0, none⟩) n c1, .slice (some ⟨g2, 0, none⟩) n c2] w fun e w' => e = .returned (.bool true) ∧ w = w' := by
  have H1 := Lib.hid h1
  have H2 := Lib.hid h2
  clear h1 h2
  go_enter Try.func33, Try.ntmps33
  go_wp2_with fail
  go_loopw [14] (fun i wr => ∃ k : Nat, k ≤ n ∧ i = .int .i64 k ∧ w = wr) (fun i _ => n - (RowKit.intOf i).toNat)
  case atStart => exact ⟨0, Nat.zero_le _, rfl, by first | rfl | trivial⟩
  case round =>
    obtain ⟨k, hk, rfl, rfl⟩ := hrel
    by_cases hlt : k < n
    · obtain ⟨x1, _⟩ := own_at H1.out (k : Int) (by omega) (by omega)
      obtain ⟨x2, _⟩ := own_at H2.out (k : Int) (by omega) (by omega)
      rw [Int.toNat_natCast] at x1 x2
      generalize rd xs (k : Int) = x at *
      go_wp2_with fail
      refine ⟨⟨k + 1, by omega, ?_⟩, by simp [RowKit.intOf]; omega⟩
      first
        | rfl
        | (refine ⟨by go_num, ?_⟩; first | rfl | trivial)
        | (rw [show ((k : Int) + 1) = ((k + 1 : Nat) : Int) from by omega])
    · obtain rfl : k = n := by omega
      go_wp2_with fail
      go_ret
      first
        | exact ⟨rfl, rfl⟩
        | exact ⟨rfl, trivial⟩

theorem own_form {W : World} {base n : Nat} {e : TypeId} {s : Nat} {v : Value} {xs : List Value} (h : W.ownsRow base e s v n xs) (hn : 0 < n) : ∃ g cap, v = .slice (some ⟨g, 0, none⟩) n cap ∧ base ≤ g ∧ g < W.heap.size := by
  rcases h.2 with ⟨_, h0⟩ | ⟨g, cap, cur, hv, hb, hh, _⟩
  · omega
  · exact ⟨g, cap, hv, hb, blk_lt hh⟩
end Go.Proofs.Ytfkgpkkjiolfpaa.Tab
