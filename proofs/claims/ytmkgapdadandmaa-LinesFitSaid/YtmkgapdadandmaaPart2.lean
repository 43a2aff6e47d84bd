/- A part: does it collapse, does it end with a blank, how wide is that? -/
import Derived.Test.YtmkgapdadandmaaPart
import Derived.Test.YtmkgapdadandmaaFontWidth
import Derived.Test.YtmkgapdadandmaaShelf
import Derived.Test.YtmkgapdadandmaaLater
namespace Go.Proofs.Ytmkgapdadandmaa.Lin
open Go.RowKit Go.Lib Go.Proofs.Ytmkgapdadandmaa.Pl Go.Proofs.Ytmkgapdadandmaa.Fx Go.Proofs.Ytmkgapdadandmaa.Fnt Go.Proofs.YtmkgapdadandmaaW.PrintWords Go.Proofs.YtmkgapdadandmaaW.PrintLast Go.Proofs.YtmkgapdadandmaaW.PrintMore
set_option linter.unusedVariables false
set_option linter.unusedSimpArgs false
attribute [local go_sem] mx2 mn2 mx_two mn_two mx_three mn_three

/-- The item of a part. -/
def itm (l : List LI) (p : Pt) : LI := l.getD p.at_ z27
theorem itmAt {w : World} {ad : Addr} {A : Option Addr} {n : Nat} {l : List LI} (h : Kd.C k27 w A n l) (e : A = some ad) (p : Pt) (hp : p.at_ < n) :
    w.cell? (ad.add (p.at_ * 11)) = some (.int .i64 (itm l p).f0) ∧ w.cell? ⟨(ad.add (p.at_ * 11)).block, (ad.add (p.at_ * 11)).off + 2, none⟩ = some (.string (itm l p).f2) ∧ w.cell? ⟨(ad.add (p.at_ * 11)).block, (ad.add (p.at_ * 11)).off + 3, none⟩ = some (.int .i64 (itm l p).f3) ∧ w.cell? ⟨(ad.add (p.at_ * 11)).block, (ad.add (p.at_ * 11)).off + 4, none⟩ = some (.int .i64 (itm l p).f4) ∧
      w.cell? ⟨(ad.add (p.at_ * 11)).block, (ad.add (p.at_ * 11)).off + 6, none⟩ = some (.int .i64 (itm l p).f6) ∧ w.cell? ⟨(ad.add (p.at_ * 11)).block, (ad.add (p.at_ * 11)).off + 8, none⟩ = some (.int .i64 (itm l p).f8) := by
  obtain ⟨ad', ea, x0, x1, x2, x3, x4, x5, x6, x7, x8, x9, x10⟩ := at_T27 h (p.at_ : Int) (by omega) (by omega)
  rw [e] at ea
  obtain rfl := Option.some.inj ea
  rw [Int.toNat_natCast] at x0 x2 x3 x4 x6 x8
  exact ⟨x0, x2, x3, x4, x6, x8⟩
def blankS : ByteArray := ⟨#[32]⟩
def collP (l : List LI) (p : Pt) : Bool := (itm l p).f0 == 1 && ((itm l p).f6 == 0 || (itm l p).f6 == 2)
def endsP (l : List LI) (p : Pt) : Bool := (itm l p).f0 == 1 && Lib.hasSuffix p.text.data.toList [32]
def widP (size sp : Int) (s : ByteArray) : Int := cut (wsum (rwt size sp) s.data.toList)
def tailP (l : List LI) (p : Pt) : Int := if (collP l p && endsP l p) = true then p.w - widP (itm l p).f3 (itm l p).f4 (p.text.extract 0 (p.text.size - 1)) else 0
theorem suf_pos {s : ByteArray} (h : Lib.hasSuffix s.data.toList [32] = true) : 1 ≤ s.size := by
  rw [Lib.size_eq]
  cases hs : s.data.toList with
  | nil => rw [hs] at h; revert h; decide
  | cons a l => simp
set_option maxRecDepth 100000 in
theorem collapses_c (ad : Addr) (n : Nat) (l : List LI) (p : Pt) (w : World) (hC : Kd.C k27 w (some ad) n l) (hp : p.at_ < n) :
    Calls Try.prog 51 #[.agg (ptV ad p).toArray] w fun e w' => e = .returned (.bool (collP l p)) ∧ Below w.heap.size w w' := by
  have X := fun o => itmAt (Kd.C_below hC (below_alloc (Below.refl _ _) o)) rfl p hp
  have x0 := fun o => (X o).1
  have x2 := fun o => (X o).2.1
  have x3 := fun o => (X o).2.2.1
  have x4 := fun o => (X o).2.2.2.1
  have x6 := fun o => (X o).2.2.2.2.1
  clear X
  have BA : Hid (∀ o, Below w.heap.size w (w.alloc o)) := Lib.hid fun o => below_alloc (Below.refl _ _) o
  unfold collP
  generalize itm l p = x at *
  obtain ⟨f0, f1, f2, f3, f4, f5, f6, f7, f8, f9, f10⟩ := x
  simp only at x0 x2 x3 x4 x6 ⊢
  clear hC
  unfold ptV
  go_enter Try.func51, Try.ntmps51
  go_wp2_with fail
  all_goals go_ret
  all_goals exact ⟨by simp [*], BA.out _⟩
set_option maxRecDepth 100000 in
theorem ends_c (ad : Addr) (n : Nat) (l : List LI) (p : Pt) (w : World) (hC : Kd.C k27 w (some ad) n l) (hp : p.at_ < n) (hs : p.text.size ≤ 1000) :
    Calls Try.prog 49 #[.agg (ptV ad p).toArray] w fun e w' => e = .returned (.bool (endsP l p)) ∧ Below w.heap.size w w' := by
  have X := fun o => itmAt (Kd.C_below hC (below_alloc (Below.refl _ _) o)) rfl p hp
  have x0 := fun o => (X o).1
  have x2 := fun o => (X o).2.1
  have x3 := fun o => (X o).2.2.1
  have x4 := fun o => (X o).2.2.2.1
  have x6 := fun o => (X o).2.2.2.2.1
  clear X
  have BA : Hid (∀ o, Below w.heap.size w (w.alloc o)) := Lib.hid fun o => below_alloc (Below.refl _ _) o
  have HS := Lib.hid hs
  unfold endsP
  generalize itm l p = x at *
  obtain ⟨f0, f1, f2, f3, f4, f5, f6, f7, f8, f9, f10⟩ := x
  simp only at x0 x2 x3 x4 x6 ⊢
  clear hC hs
  unfold ptV
  go_enter Try.func49, Try.ntmps49
  go_wp2_with (go_at_call 13; refine (Try.strings_HasSuffix _ _ _ (by have := HS.out; omega)).mono ?_; rintro e w' ⟨rfl, rfl⟩)
  all_goals go_ret
  all_goals exact ⟨by simp [*], BA.out _⟩
/-- The cells of a new block, in every later world. -/
theorem box5 (w : World) (a b c d e : Value) (t : Nat) (w' : World) (h : Below (w.heap.size + 1) (w.alloc (.cells #[a, b, c, d, e] t)) w') :
    w'.cell? ⟨w.heap.size, 0, none⟩ = some a ∧ w'.cell? ⟨w.heap.size, 1, none⟩ = some b ∧ w'.cell? ⟨w.heap.size, 2, none⟩ = some c ∧ w'.cell? ⟨w.heap.size, 3, none⟩ = some d ∧ w'.cell? ⟨w.heap.size, 4, none⟩ = some e := by
  have hb := (h.block w.heap.size (by omega)).trans (blk_new w (.cells #[a, b, c, d, e] t))
  exact ⟨blk_cell hb 0, blk_cell hb 1, blk_cell hb 2, blk_cell hb 3, blk_cell hb 4⟩
set_option maxRecDepth 100000 in
theorem tail_c (ad : Addr) (n : Nat) (l : List LI) (p : Pt) (w : World) (hC : Kd.C k27 w (some ad) n l) (hp : p.at_ < n) (hs : p.text.size ≤ 1000) (hw : MildP p) :
    Calls Try.prog 45 #[.agg (ptV ad p).toArray] w fun e w' => e = .returned (.int .i64 (tailP l p)) ∧ Below w.heap.size w w' := by
  have COL := Lib.hid fun w' (h : Below w.heap.size w w') => collapses_c ad n l p w' (Kd.C_below hC h) hp
  have END := Lib.hid fun w' (h : Below w.heap.size w w') => ends_c ad n l p w' (Kd.C_below hC h) hp hs
  have X := fun w' (h : Below w.heap.size w w') => itmAt (Kd.C_below hC h) rfl p hp
  have X3 := Lib.hid fun w' (h : Below w.heap.size w w') => (X w' h).2.2.1
  have X4 := Lib.hid fun w' (h : Below w.heap.size w w') => (X w' h).2.2.2.1
  have BA : Hid (∀ o, Below w.heap.size w (w.alloc o)) := Lib.hid fun o => below_alloc (Below.refl _ _) o
  have BX : Hid (∀ o, (w.alloc o).heap.size = w.heap.size + 1) := Lib.hid fun o => World.size_alloc w o
  have HS := Lib.hid hs
  have SP : Hid (endsP l p = true → 1 ≤ p.text.size) := Lib.hid fun h => suf_pos (by unfold endsP at h; simp at h; exact h.2)
  unfold MildP at hw
  unfold tailP
  generalize collP l p = cl at *
  generalize endsP l p = en at *
  generalize itm l p = x at *
  obtain ⟨f0, f1, f2, f3, f4, f5, f6, f7, f8, f9, f10⟩ := x
  simp only at X3 X4 ⊢
  obtain ⟨at_, tx, pw, la⟩ := p
  simp only at HS SP hw ⊢ COL END X3 X4
  clear hC hs X
  unfold ptV at COL END ⊢
  go_enter Try.func45, Try.ntmps45
  have BOX : Hid (∀ w', Below (w.heap.size + 1) (w.alloc (.cells #[.pointer (some (ad.add (at_ * 11))), .int .i64 (at_ : Int), .string tx, .int .i64 pw, .bool la] 72)) w' → _) := Lib.hid fun w' h => box5 w _ _ _ _ _ _ w' h
  go_wp2_with (go_at_call 51; refine (COL.out _ (BA.out _)).mono ?_; rintro e w1 ⟨rfl, hB1⟩; rw [World.size_alloc] at hB1; obtain ⟨y0, y1, y2, y3, y4⟩ := BOX.out _ hB1; have S1 := hB1.size; rw [World.size_alloc] at S1; have B1 := Lib.hid hB1; have W1 := Lib.hid ((BA.out _).trans (hB1.mono (by omega))); clear hB1)
  · refine (END.out _ W1.out).mono ?_
    rintro e w2 ⟨rfl, hB2⟩
    have hB : Below (w.heap.size + 1) (w.alloc (.cells #[.pointer (some (ad.add (at_ * 11))), .int .i64 (at_ : Int), .string tx, .int .i64 pw, .bool la] 72)) w2 := below_then B1.out (by omega) hB2
    obtain ⟨z0, z1, z2, z3, z4⟩ := BOX.out _ hB
    have hW2 := below_then W1.out (by omega) hB2
    have W2 := Lib.hid hW2
    cases en with
    | false =>
      clear y0 y1 y2 y3 y4 z0 z1 z2 z3 z4 hB hB2
      go_wp2_with fail
      all_goals go_ret
      all_goals exact ⟨rfl, W2.out⟩
    | true =>
      have hp1 := SP.out rfl
      have v3 := X3.out _ hW2
      have v4 := X4.out _ hW2
      have q0 := LaterOf.cell z0
      have q2 := LaterOf.cell z2
      have q3 := LaterOf.cell z3
      have u3 := LaterOf.cell v3
      have u4 := LaterOf.cell v4
      obtain ⟨k, hk⟩ : ∃ k, tx.size - 1 = k := ⟨_, rfl⟩
      have WID := Lib.hid fun (p : LaterOf w2.heap.size w2) => Width_c (tx.extract 0 (tx.size - 1)) f3 f4 p.wd (by rw [ByteArray.size_extract]; have := HS.out; omega)
      have hwc := cut_bd (wsum (rwt f3 f4) (tx.extract 0 (tx.size - 1)).data.toList)
      obtain ⟨wc, hwe⟩ : ∃ wc, cut (wsum (rwt f3 f4) (tx.extract 0 (tx.size - 1)).data.toList) = wc := ⟨_, rfl⟩
      have WE := Lib.hid hwe
      rw [hwe] at WID hwc
      rw [hk] at WID
      clear hwe
      have hz := HS.out
      have e1 : wrap64 ((tx.size : Int) - 1) = (k : Int) := by rw [w64_id (by omega) (by omega)]; omega
      have e2 : (k : Int) ≤ (tx.size : Int) := by omega
      clear hk hp1 hz
      clear y0 y1 y2 y3 y4 z0 z1 z2 z3 z4 hB hB2 v3 v4 hW2
      go_wp2_with fail
      refine wp_region_later (by kernel_rfl) (by kernel_rfl) ?_
      repeat (first | go_big_quiet_skip | (go_big_quiet_want; go_big_quiet_op; first | go_big_quiet_on | (apply Exists.intro; refine ⟨fun _ => ?_, ?_⟩; focus (go_at_call 15; exact Calls.later_of (WID.out _)); go_big_quiet_on)) | quiet_step ((go_at_call 15; exact Calls.later_of (WID.out _))))
      refine wpQuiet_nil ?_
      intro wL hw'
      obtain ⟨⟨wL2, hL⟩, hw''⟩ := hw'
      subst hw''
      go_wp2_with fail
      all_goals go_ret
      all_goals exact ⟨by unfold widP; rw [WE.out]; rfl, below_then W2.out W2.out.size hL⟩
  all_goals go_ret
  all_goals exact ⟨by simp, W1.out⟩
end Go.Proofs.Ytmkgapdadandmaa.Lin
