/- slices.Backward over parts: what the loop's body sees; the last blank of a group. -/
import Derived.Test.YtmkgapdadandmaaMayEnd
import Derived.RangeFuncNested
import Derived.RangeFuncLeaves
import Derived.Shelf.Abstract
import Derived.WalkKit
import Derived.OwnWalkIn
import Derived.TacticsInMore
import Derived.LoopNIn
import Derived.LoopIn
namespace Go.Proofs.Ytmkgapdadandmaa.Lin
open Go.RowKit Go.Lib Go.Shelf Go.Proofs.Ytmkgapdadandmaa.Pl Go.Proofs.Ytmkgapdadandmaa.Fx Go.Proofs.Ytmkgapdadandmaa.Fnt Go.Proofs.Ytmkgapdadandmaa.Rgn Go.Proofs.YtmkgapdadandmaaW.PrintWords Go.Proofs.YtmkgapdadandmaaW.PrintLast Go.Proofs.YtmkgapdadandmaaW.PrintMore
set_option linter.unusedVariables false
set_option linter.unusedSimpArgs false
attribute [local go_sem] mx2 mn2 mx_two mn_two mx_three mn_three
attribute [local go_sem] Oper.semAt_some

/-- A part with its place: of an item that is there. -/
def EP (nl : Nat) : Type := { x : Nat × Pt // x.2.at_ < nl ∧ x.2.text.size ≤ 1000 ∧ MildP x.2 }
def encP (ad : Addr) {nl : Nat} (x : EP nl) : Array Value := #[.int .i64 (x.1.1 : Int), .agg (ptV ad x.1.2).toArray]
def upto {α : Type} (f : Nat → α) (k : Nat) : List α := (List.range k).map f
theorem upto_succ {α : Type} (f : Nat → α) (k : Nat) : upto f (k + 1) = upto f k ++ [f k] := by simp [upto, List.range_succ]
theorem upto_length {α : Type} (f : Nat → α) (k : Nat) : (upto f k).length = k := by simp [upto]

set_option maxRecDepth 100000 in
set_option maxHeartbeats 4000000 in
theorem back1_in (F : Fence) (n : Nat) (h61 : F.fn 61) (hro : F.round = none) (hn : 1 ≤ n) (l Bs n₀ nl m c : Nat) (ad g : Addr) (ps : List Pt) (hm : m ≤ 100000) (f : Nat → EP nl) (hf : ∀ j, (f j).1 = (m - 1 - j, ps.getD (m - 1 - j) zPt)) (J Jx : List (EP nl) → World → Prop)
    (hY : ∀ pre x W, J pre W → pre.length < m → YieldAt F (n - 1) Try.prog l (encP ad x) W fun e W' =>
      (e = .returned (.bool true) ∧ J (pre ++ [x]) W' ∧ Below n₀ W W') ∨ (e = .returned (.bool false) ∧ Jx (pre ++ [x]) W'))
    (W : World) (hC : ∀ W', Below n₀ W W' → W'.cell? ⟨Bs, 0, none⟩ = some (.slice (some g) m c) ∧ Kd.C (kPt ad) W' (some g) m ps) (h0 : J [] W) :
    CallsIn F n Try.prog 61 #[.func (.yield l) #[] #[], .pointer (some ⟨Bs, 0, none⟩)] W fun e W' => (∃ v, e = .returned v) ∧
      ((∃ ys, ys = upto f m ∧ J ys W') ∨ (∃ pre, (∃ k, k ≤ m ∧ pre = upto f k) ∧ Jx pre W')) := by
  have hb0 := (hC W (Below.refl _ _)).1
  have HC := Lib.hid hC
  have HF := Lib.hid hf
  clear hC hf
  refine callsIn_of_wp Try.func61 rfl h61 ?_ hro
  simp only [Try.ntmps61, List.size_toArray, List.length_cons, List.length_nil, Nat.reduceAdd, Nat.reduceSub, Array.replicate_succ, Array.replicate_zero, List.push_toArray, List.append_toArray, List.nil_append, List.cons_append]
  gi_wp2
  gi_loopw [3] (fun i wr => ∃ k : Nat, k ≤ m ∧ IV (m - k) i ∧ J (upto f k) wr ∧ Hid (Below n₀ W wr)) (fun i _ => (RowKit.intOf i + 1).toNat)
  case atStart => exact ⟨0, Nat.zero_le _, by first | exact iv_pred m | (have := iv_pred m; rw [IntWalk.i64_in _ ⟨by omega, by omega⟩]; exact this), h0, Below.refl _ _⟩
  case round =>
    obtain ⟨k, hk, hiv, hJ, hB⟩ := hrel
    obtain ⟨hcb, hcp⟩ := HC.out _ hB.out
    rcases hiv with ⟨he, rfl⟩ | ⟨d, he, rfl⟩
    · obtain rfl : k = m := by omega
      gi_wp2
      go_end0
      exact ⟨⟨_, rfl⟩, .inl ⟨_, rfl, hJ⟩⟩
    · have hfk : (f k).1 = (d, ps.getD d zPt) := by rw [HF.out k, show m - 1 - k = d by omega]
      have hY1 := hY _ (f k) wr hJ (by rw [upto_length]; omega)
      unfold encP at hY1
      obtain ⟨g', eg, x0, x1, x2, x3, x4⟩ := partAt hcp d (by omega)
      obtain rfl := Option.some.inj eg
      rw [hfk] at hY1
      simp only at hY1
      clear hfk hcp eg
      generalize ps.getD d zPt = p at *
      obtain ⟨pa, pt, pw, pl⟩ := p
      simp only [ptV] at hY1 x0 x1 x2 x3 x4
      obtain ⟨fn, tmps, assign, body, hy, hR⟩ := hY1
      have hdm : d < m := by omega
      have hd0 : (0 : Int) ≤ (d : Int) := by omega
      gi_wp2
      refine hR.mono ?_
      rintro e W3 (⟨rfl, hJ3, hk3⟩ | ⟨rfl, hJx3⟩)
      · gi_wp2
        go_roundw
        case rel => exact ⟨k + 1, by omega, by rw [show m - (k + 1) = d by omega]; exact iv_pred d, by rw [upto_succ]; exact hJ3, hB.out.trans hk3⟩
        case measure => simp [RowKit.intOf]
      · gi_wp2
        refine bodyPost_ret (results_none rfl _ _ _) rfl ?_
        exact ⟨⟨_, rfl⟩, .inr ⟨_, ⟨k + 1, by omega, (upto_succ _ _).symm⟩, hJx3⟩⟩

set_option maxHeartbeats 1000000 in
theorem back_in (F : Fence) (n : Nat) (h44 : F.fn 44) (hro : F.round = none) (a : Option Addr) (len cap : Nat) (w : World) :
    CallsIn F n Try.prog 44 #[.slice a len cap] w fun e w' => e = .returned (.func (.func 61) #[] #[.pointer (some ⟨w.heap.size, 0, none⟩)]) ∧ w' = w.alloc (.cells #[.slice a len cap] 57) := by
  refine callsIn_of_wp Try.func44 rfl h44 ?_ hro
  simp only [Try.ntmps44, List.size_toArray, List.length_cons, List.length_nil, Nat.reduceAdd, Nat.reduceSub, Array.replicate_succ, Array.replicate_zero, List.push_toArray, List.append_toArray, List.nil_append, List.cons_append]
  gi_wp2
  go_ret
  exact ⟨rfl, rfl⟩
/-- The tail of the last part that is not skipped; parts from the last to the first. -/
def gtR (l : List LI) : List Pt → Int
  | [] => 0
  | p :: r => if skA (itm l p).f0 then gtR l r else tailP l p
def gtailP (l : List LI) (ps : List Pt) : Int := gtR l ps.reverse
theorem gtR_all (l : List LI) : ∀ r : List Pt, (∀ j, j < r.length → skA (itm l (r.getD j zPt)).f0) → gtR l r = 0 := by
  intro r
  induction r with
  | nil => intro _; rfl
  | cons p r ih =>
    intro h
    have h0 := h 0 (by simp)
    have h0 : skA (itm l p).f0 := h0
    show (if skA (itm l p).f0 then gtR l r else tailP l p) = 0
    rw [if_pos h0]
    exact ih (fun j hj => by have := h (j + 1) (by simp; omega); simpa using this)
theorem gtR_at (l : List LI) : ∀ (r : List Pt) (k : Nat), k < r.length → (∀ j, j < k → skA (itm l (r.getD j zPt)).f0) → ¬ skA (itm l (r.getD k zPt)).f0 → gtR l r = tailP l (r.getD k zPt) := by
  intro r
  induction r with
  | nil => intro k hk; simp at hk
  | cons p r ih =>
    intro k hk h hn
    show (if skA (itm l p).f0 then gtR l r else tailP l p) = _
    cases k with
    | zero =>
      have hn : ¬ skA (itm l p).f0 := hn
      rw [if_neg hn]; rfl
    | succ k =>
      have h0 : skA (itm l p).f0 := h 0 (by omega)
      rw [if_pos h0]
      have := ih k (by simp at hk; omega) (fun j hj => by have := h (j + 1) (by omega); simpa using this) (by simpa using hn)
      simpa using this
theorem rev_getD (ps : List Pt) {j : Nat} (h : j < ps.length) : ps.reverse.getD j zPt = ps.getD (ps.length - 1 - j) zPt := by
  rw [List.getD_eq_getElem?_getD, List.getD_eq_getElem?_getD, List.getElem?_reverse h]
theorem gt_all {l : List LI} {ps : List Pt} (h : ∀ j, j < ps.length → skA (itm l (ps.getD (ps.length - 1 - j) zPt)).f0) : gtailP l ps = 0 :=
  gtR_all l _ (fun j hj => by rw [List.length_reverse] at hj; rw [rev_getD ps hj]; exact h j hj)
theorem gt_at {l : List LI} {ps : List Pt} {k : Nat} (hk : k < ps.length) (h : ∀ j, j < k → skA (itm l (ps.getD (ps.length - 1 - j) zPt)).f0) (hn : ¬ skA (itm l (ps.getD (ps.length - 1 - k) zPt)).f0) : gtailP l ps = tailP l (ps.getD (ps.length - 1 - k) zPt) := by
  have := gtR_at l ps.reverse k (by rw [List.length_reverse]; exact hk) (fun j hj => by rw [rev_getD ps (by omega)]; exact h j hj) (by rw [rev_getD ps hk]; exact hn)
  rw [rev_getD ps hk] at this
  exact this

theorem mem_snoc_all {α : Type} {P : α → Prop} {l : List α} {a : α} (h : ∀ x, x ∈ l → P x) (ha : P a) : ∀ x, x ∈ l ++ [a] → P x := fun x hx => by
  rcases List.mem_append.1 hx with hx | hx
  · exact h x hx
  · rw [List.mem_singleton] at hx; subst hx; exact ha
set_option maxRecDepth 100000 in
set_option maxHeartbeats 4000000 in
theorem gtail_c (ad g : Addr) (m c nl : Nat) (l : List LI) (ps : List Pt) (w : World) (hP : Kd.C (kPt ad) w (some g) m ps) (hL : Kd.C k27 w (some ad) nl l) (hok : OKP nl ps) (hmild : ∀ p, p ∈ ps → MildP p) (hm0 : 0 < m) (hm : m ≤ 100000) :
    Calls Try.prog 29 #[.slice (some g) m c] w fun e w' => e = .returned (.int .i64 (gtailP l ps)) ∧ Below w.heap.size w w' := by
  have hln : ps.length = m := hP.1
  have hin : ∀ j, m - 1 - j < ps.length := fun j => by omega
  obtain ⟨f, hf⟩ : ∃ f : Nat → EP nl, ∀ j, (f j).1 = (m - 1 - j, ps.getD (m - 1 - j) zPt) :=
    ⟨fun j => ⟨(m - 1 - j, ps.getD (m - 1 - j) zPt), (okp_get hok (hin j)).1, (okp_get hok (hin j)).2, hmild _ (by rw [List.getD_eq_getElem?_getD, List.getElem?_eq_getElem (hin j)]; exact List.getElem_mem _)⟩, fun j => rfl⟩
  have HL := Lib.hid hL
  have HP := Lib.hid hP
  have LN := Lib.hid hln
  have HF := Lib.hid hf
  clear hP hL hok hmild hln hin hf
  refine (callsIn_wide (n := 6)).1 ?_
  refine callsIn_of_wp_marks Try.func29 rfl trivial ?_ rfl
  simp only [Try.ntmps29, List.size_toArray, List.length_cons, List.length_nil, Nat.reduceAdd, Nat.reduceSub, Array.replicate_succ, Array.replicate_zero, List.push_toArray, List.append_toArray, List.nil_append, List.cons_append]
  gi_wp2_with (refine ⟨trivial, ?_⟩; gi_at_call 44; refine (back_in Fence.wide (6 - 1) trivial rfl _ _ _ _).mono ?_; rintro e w' ⟨rfl, rfl⟩)
  have hcr0 : ((w.alloc (.cells #[.int .i64 0] 3)).alloc (.cells #[.slice (some g) m c] 57)).cell? ⟨w.heap.size, 0, none⟩ = some (.int .i64 0) := ((Boxed.new w 3 (.int .i64 0)).alloc _).cell
  have hfr0 : ((w.alloc (.cells #[.int .i64 0] 3)).alloc (.cells #[.slice (some g) m c] 57)).frozen? ⟨w.heap.size, 0, none⟩ = false := ((Boxed.new w 3 (.int .i64 0)).alloc _).frozen
  have hbx0 := (Boxed.new (w.alloc (.cells #[.int .i64 0] 3)) 57 (.slice (some g) m c)).cell
  rw [World.size_alloc] at hbx0
  have hB0 : Below w.heap.size w ((w.alloc (.cells #[.int .i64 0] 3)).alloc (.cells #[.slice (some g) m c] 57)) := below_alloc (below_alloc (Below.refl _ _) _) _
  have hsz : ((w.alloc (.cells #[.int .i64 0] 3)).alloc (.cells #[.slice (some g) m c] 57)).heap.size = w.heap.size + 2 := by simp
  try simp only [World.size_alloc]
  obtain ⟨W0, hW0⟩ : ∃ W0, (w.alloc (.cells #[.int .i64 0] 3)).alloc (.cells #[.slice (some g) m c] 57) = W0 := ⟨_, rfl⟩
  rw [hW0] at hcr0 hfr0 hbx0 hB0 hsz ⊢
  clear hW0
  have hPW : Kd.C (kPt ad) W0 (some g) m ps := Kd.C_below HP.out hB0
  have hseq : SeqStopsK Fence.wide (6 - 1) Try.prog 61 #[.pointer (some ⟨w.heap.size + 1, 0, none⟩)] (encP ad) (Below (w.heap.size + 2)) (fun ys => ys = upto f m) (fun pre => ∃ k, k ≤ m ∧ pre = upto f k) m W0 := fun l J Jx W hW _ _ hY h0 =>
    back1_in Fence.wide (6 - 1) trivial rfl (by omega) l (w.heap.size + 1) (w.heap.size + 2) nl m c ad g ps hm f HF.out J Jx hY W (fun W' hW' => by
      have hb2 : Below W0.heap.size W0 W' := by rw [hsz] at hW ⊢; exact hW.trans hW'
      exact ⟨(hb2.cell (p := ⟨w.heap.size + 1, 0, none⟩) (by rw [hsz]; show w.heap.size + 1 < _; omega)).trans hbx0, Kd.C_below hPW hb2⟩) h0
  have HSQ := Lib.hid hseq
  clear hseq hPW hbx0
  refine wpIn_rangeFunc_ownH (F := Fence.wide) rfl (by omega) (gf := 61) (lb := #[.pointer (some ⟨w.heap.size + 1, 0, none⟩)]) rfl trivial (enters_of Try.func61 (by kernel_rfl) rfl)
    HSQ.out belowK_t (belowK_b (by omega)) (Below.refl _ _) (fun _ => rfl)
    (fun pre W => ((∀ x, x ∈ pre → skA (itm l x.1.2).f0) ∧ W.cell? ⟨w.heap.size, 0, none⟩ = some (.int .i64 0) ∧ W.frozen? ⟨w.heap.size, 0, none⟩ = false) ∧ Below (w.heap.size + 2) W0 W)
    (fun cd pre W => (cd = .ret ∧ ∃ ini last, pre = ini ++ [last] ∧ (∀ x, x ∈ ini → skA (itm l x.1.2).f0) ∧ ¬ skA (itm l last.1.2).f0 ∧ W.cell? ⟨w.heap.size, 0, none⟩ = some (.int .i64 (tailP l last.1.2))) ∧ Below w.heap.size w W)
    (OwnFrom.and (Own.from (fun s A B row hs hg hr => ⟨hs.1, cell_kept hs.2.1 hg hr, (frozen_kept hs.2.1 hg hr).trans hs.2.2⟩) _) (ownFrom_below (by omega) (by omega)))
    (fun cd => OwnFrom.and (Own.from (fun s A B row hs hg hr => by obtain ⟨hc, ini, last, e1, e2, e3, e4⟩ := hs; exact ⟨hc, ini, last, e1, e2, e3, cell_kept e4 hg hr⟩) _) (ownFrom_below (Nat.le_refl _) (by omega)))
    ⟨⟨by simp, hcr0, hfr0⟩, Below.refl _ _⟩
    (fun x a' W => ∃ Bx, w.heap.size + 1 < Bx ∧ W.heap[Bx]? = some (.cells (ptV ad x.1.2).toArray 72 (0, 0)) ∧ a' = { tmps := #[.slice (some g) m c, undef, .pointer (some ⟨w.heap.size, 0, none⟩), undef, .pointer (some ⟨Bx, 0, none⟩), .slice (some g) m c, .func (.func 61) #[] #[.pointer (some ⟨w.heap.size + 1, 0, none⟩)], .int .i64 (x.1.1 : Int), .agg (ptV ad x.1.2).toArray, undef, undef, undef, undef, undef, undef, undef, undef, undef, undef, undef], defers := [] })
    (fun x a' _ X Y row hs hg hr => by
      obtain ⟨Bx, h1, h2, h3⟩ := hs
      exact ⟨Bx, h1, (hg.block Bx (Array.getElem?_eq_some_iff.1 h2).1 (fun e' => by obtain ⟨o, ho, hc⟩ := (hr Bx e'.symm).2; rw [h2] at ho; cases ho; cases hc)).trans h2, h3⟩)
    ?assign ?body ?done ?stop
  case assign =>
    rintro l' pre ⟨⟨i, pa, pt, pw, pl⟩, hx⟩ W K ⟨⟨h1, h2, h3⟩, hB⟩ hK
    have hKI := Lib.hid h1
    have hws : w.heap.size + 2 ≤ W.heap.size := by have := hB.size; omega
    clear h1
    simp only [encP, ptV]
    simp only [ptV] at hK
    gi_wp2
    exact hK _ _ ((KeepsOthers.alloc _ _).from _) ((Below.refl _ W).alloc hws _) ⟨⟨hKI.out, (World.cell?_alloc_lt _ _ _ (World.block_lt_of_cell? _ _ h2)).trans h2, (((Below.refl _ W).alloc hws _).frozen (p := ⟨w.heap.size, 0, none⟩) (by show w.heap.size < _; omega)).trans h3⟩, hB.alloc hws _⟩ ⟨W.heap.size, by omega, blk_new W _, rfl⟩
  case body =>
    rintro l' pre ⟨⟨i, pa, pt, pw, pl⟩, hx⟩ a' W hl ⟨r, hr⟩ ⟨⟨h1, h2, h3⟩, hB⟩ ⟨Bx, hBx, hb, rfl⟩ hlt
    have hws : w.heap.size + 2 ≤ W.heap.size := by have := hB.size; omega
    have hBW : Below w.heap.size w W := hB0.trans (hB.mono (by omega))
    have hLW := Kd.C_below HL.out hBW
    obtain ⟨hx1, hx2, hx3⟩ := hx
    simp only at hx1 hx2 hx3
    obtain ⟨s0, _⟩ := itmAt hLW rfl ⟨pa, pt, pw, pl⟩ hx1
    have p0 := blk_cell hb 0
    have p1 := blk_cell hb 1
    have p2 := blk_cell hb 2
    have p3 := blk_cell hb 3
    have p4 := blk_cell hb 4
    simp only [ptV, List.getElem?_toArray, List.getElem?_cons_zero, List.getElem?_cons_succ] at p0 p1 p2 p3 p4
    have TAIL := Lib.hid (tail_c ad nl l ⟨pa, pt, pw, pl⟩ W hLW hx1 hx2 hx3)
    simp only [ptV] at TAIL s0 ⊢
    have HKI := Lib.hid h1
    clear h1 hLW
    generalize hv : (itm l ⟨pa, pt, pw, pl⟩).f0 = v at *
    have HV := Lib.hid hv
    clear hv
    by_cases s3 : v = 3
    · have z3 : (v == 3) = true := by simp [s3]
      have HN := Lib.hid (show skA (itm l ⟨pa, pt, pw, pl⟩).f0 by rw [HV.out]; exact .inl s3)
      clear s3 HV TAIL
      gi_wp2
      exact ⟨KeepsFrom.refl _ _, Below.refl _ _, ⟨mem_snoc_all (P := fun x : EP nl => skA (itm l x.1.2).f0) HKI.out HN.out, h2, h3⟩, hB⟩
    · have z3 : (v == 3) = false := by simp [s3]
      by_cases s7 : v = 7
      · have z7 : (v == 7) = true := by simp [s7]
        have HN := Lib.hid (show skA (itm l ⟨pa, pt, pw, pl⟩).f0 by rw [HV.out]; exact .inr (.inl s7))
        clear s3 s7 HV TAIL
        gi_wp2
        exact ⟨KeepsFrom.refl _ _, Below.refl _ _, ⟨mem_snoc_all (P := fun x : EP nl => skA (itm l x.1.2).f0) HKI.out HN.out, h2, h3⟩, hB⟩
      · have z7 : (v == 7) = false := by simp [s7]
        by_cases s5 : v = 5
        · have z5 : (v == 5) = true := by simp [s5]
          have HN := Lib.hid (show skA (itm l ⟨pa, pt, pw, pl⟩).f0 by rw [HV.out]; exact .inr (.inr s5))
          clear s3 s7 s5 HV TAIL
          gi_wp2
          exact ⟨KeepsFrom.refl _ _, Below.refl _ _, ⟨mem_snoc_all (P := fun x : EP nl => skA (itm l x.1.2).f0) HKI.out HN.out, h2, h3⟩, hB⟩
        · have z5 : (v == 5) = false := by simp [s5]
          have HN := Lib.hid (show ¬ skA (itm l ⟨pa, pt, pw, pl⟩).f0 by rw [HV.out]; unfold skA; omega)
          clear s3 s7 s5 HV
          have cW : ∀ w', Below W.heap.size W w' → w'.cell? ⟨w.heap.size, 0, none⟩ = some (.int .i64 0) := fun w' h => pw_cell_below h h2
          have fW : ∀ w', Below W.heap.size W w' → w'.frozen? ⟨w.heap.size, 0, none⟩ = false := fun w' h => (h.frozen (p := ⟨w.heap.size, 0, none⟩) (by show w.heap.size < _; omega)).trans h3
          have CW := Lib.hid cW
          have FW := Lib.hid fW
          clear cW fW
          gi_wp2_with (refine ⟨trivial, ?_⟩; gi_at_call 45; refine (CallsIn.inRound l' (callsIn_wide.2 TAIL.out)).mono ?_; rintro e w' ⟨rfl, hBt⟩; have ct := CW.out _ hBt; have ft := FW.out _ hBt)
          exact ⟨((KeepsOthers.of_grownBy (grown_of_below hBt none) (by simp)).trans (KeepsOthers.setCell _ _ _)).from _, ⟨rfl, pre, ⟨(i, ⟨pa, pt, pw, pl⟩), ⟨hx1, hx2, hx3⟩⟩, rfl, HKI.out, HN.out, World.cell?_setCell_same' _ _ _ (by rw [ct]; rfl)⟩, (hBW.trans (hBt.mono (by omega))).setCell (p := ⟨w.heap.size, 0, none⟩) (Nat.le_refl _) _⟩
  case done =>
    rintro D ys W hD rfl ⟨⟨h1, h2, h3⟩, hB⟩ hK
    have hBW : Below w.heap.size w W := hB0.trans (hB.mono (by omega))
    have hg0 : gtailP l ps = 0 := gt_all (fun j hj => by
      rw [LN.out] at hj ⊢
      have := h1 (f j) (by unfold upto; exact List.mem_map.2 ⟨j, List.mem_range.2 hj, rfl⟩)
      rw [HF.out j] at this
      exact this)
    have HG := Lib.hid hg0
    have HH1 := Lib.hid h1
    clear h1 hg0
    gi_wp2
    have hK' := (KeepsOthers.setCell W ⟨w.heap.size, 0, none⟩ (.int .i64 0)).same D _ hK rfl
    refine ⟨by simp, .inl ⟨_, _, rfl, run_takeDeferred hK', ?_⟩⟩
    have hc5 := cell_kept (World.cell?_setCell_same' W ⟨w.heap.size, 0, none⟩ (.int .i64 0) (by rw [h2]; rfl)) (grownBy_putObj' _ D (.deferred none)) (fun r e => by cases e; exact ⟨_, hK', rfl⟩)
    refine ⟨.int .i64 0, ?_, by rw [HG.out], (hBW.setCell (p := ⟨w.heap.size, 0, none⟩) (Nat.le_refl _) _).trans (belowK_b (w := w) (Nat.le_refl _) _ D _ _ (by omega) hK' rfl rfl)⟩
    simp [results, Try.f29, go_sem, hc5]
  case stop =>
    rintro D cd pre W hD ⟨k, hk, rfl⟩ ⟨⟨rfl, ini, last, e1, e2, e3, hcr⟩, hB⟩ hK
    obtain ⟨k', rfl⟩ : ∃ k', k = k' + 1 := by
      cases k with
      | zero => simp [upto] at e1
      | succ k' => exact ⟨k', rfl⟩
    rw [upto_succ] at e1
    obtain ⟨rfl, e5⟩ := List.append_inj' e1 rfl
    obtain rfl : f k' = last := by simpa using e5
    have hg0 : gtailP l ps = tailP l (f k').1.2 := by
      have hkl : k' < ps.length := by rw [LN.out]; omega
      have hfe : (f k').1.2 = ps.getD (ps.length - 1 - k') zPt := by rw [HF.out k', LN.out]
      rw [hfe] at e3 ⊢
      exact gt_at hkl (fun j hj => by
        have := e2 (f j) (by unfold upto; exact List.mem_map.2 ⟨j, List.mem_range.2 hj, rfl⟩)
        rw [HF.out j] at this
        rw [LN.out]
        exact this) e3
    have HG := Lib.hid hg0
    clear e1 e5 e2 e3 hg0
    gi_wp2
    refine ⟨by simp, .inl ⟨_, _, rfl, run_takeDeferred hK, ?_⟩⟩
    have hc5 := cell_kept hcr (grownBy_putObj' _ D (.deferred none)) (fun r e => by cases e; exact ⟨_, hK, rfl⟩)
    refine ⟨.int .i64 (tailP l (f k').1.2), ?_, by rw [HG.out], hB.trans (belowK_b (w := w) (Nat.le_refl _) _ D _ _ (by omega) hK rfl rfl)⟩
    simp [results, Try.f29, go_sem, hc5]
end Go.Proofs.Ytmkgapdadandmaa.Lin
