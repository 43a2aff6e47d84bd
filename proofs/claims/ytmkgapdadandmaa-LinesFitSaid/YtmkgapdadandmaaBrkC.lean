/- The breaker of lines: a line ends; no lower place without floats. | The breaker of lines: a group is put into the line, or ends that; no floats. | Break, without floats: plain part; the last line's mark. | Break, without floats: the walk. -/
import Derived.Test.YtmkgapdadandmaaBrk6
import Derived.Test.YtmkgapdadandmaaBrk7
import Derived.Test.YtmkgapdadandmaaBack2
namespace Go.Proofs.Ytmkgapdadandmaa.Lin
open Go.RowKit Go.Lib Go.Proofs.Ytmkgapdadandmaa.Pl Go.Proofs.Ytmkgapdadandmaa.Fx Go.Proofs.Ytmkgapdadandmaa.Fnt Go.Proofs.Ytmkgapdadandmaa.Rgn Go.Proofs.YtmkgapdadandmaaW.PrintWords Go.Proofs.YtmkgapdadandmaaW.PrintLast Go.Proofs.YtmkgapdadandmaaW.PrintMore
set_option linter.unusedVariables false
set_option linter.unusedSimpArgs false
attribute [local go_sem] mx2 mn2 mx_two mn_two mx_three mn_three

/-- What is known of the breaker between two steps. -/
structure Inv (l : List LI) (s : Bk) : Prop where
  parts : OKP l.length s.line
  mild : ∀ p, p ∈ s.line → MildP p
  tail : ∀ p, p ∈ s.line → 0 ≤ tailP l p ∧ tailP l p ≤ p.w
  len : s.line.length ≤ 100000
  outs : s.out.length ≤ 100000
  ind : -16777216 ≤ s.indent ∧ s.indent ≤ 16777216
  edge : InK s
def endS (K : Bc) (l : List LI) (width : Int) (s : Bk) (last : Bool) : Bk := beginS width { (if s.line.any (toldP l) = true then tellS K l s last else s) with indent := 0 }
/-- What stands around the breaker. -/
structure Env (ad : Addr) (bb : Nat) (K : Bc) (W0 : World) (l : List LI) (width : Int) : Prop where
  items : ∀ W, W0.grownBy W (some bb) → Kd.C k27 W (some ad) l.length l
  room : NoF bb K W0 width
  okc : OKc K
  bnd : ∀ x, x ∈ l → BndI x
set_option maxRecDepth 100000 in
set_option maxHeartbeats 4000000 in
theorem bend_c (ad : Addr) (bb : Nat) (K : Bc) (W0 : World) (l : List LI) (width : Int) (s : Bk) (last : Bool) (w : World) (E : Env ad bb K W0 l width) (hI : IsB ad bb K W0 s w) (hv : Inv l s) :
    Calls Try.prog 24 #[.pointer (some ⟨bb, 0, none⟩), .bool last] w fun e w' => e = .returned (.tuple #[]) ∧ IsB ad bb K W0 (endS K l width s last) w' := by
  have hI0 := hI
  obtain ⟨lv, ov, hb, hRl, hRo, hB⟩ := hI
  obtain ⟨A, c, rfl, hc, hC⟩ := Kd.R_reads hRl
  have HAS := Lib.hid (has_told_c ad A s.line.length c l.length l s.line w hC (E.items w hB) hv.parts)
  have c8 : w.cell? ⟨bb, 8, none⟩ = some (.slice A s.line.length c) := blk_cell hb 8
  have hst : ∀ w1 s1, IsB ad bb K W0 s1 w1 → -16777216 ≤ s1.indent ∧ s1.indent ≤ 16777216 → (w1.cell? ⟨bb, 5, none⟩ = some (.int .i64 s1.indent) ∧ w1.frozen? ⟨bb, 5, none⟩ = false) ∧ Calls Try.prog 20 #[.pointer (some ⟨bb, 0, none⟩)] (w1.setCell ⟨bb, 5, none⟩ (.int .i64 0)) fun e w' => e = .returned (.tuple #[]) ∧ IsB ad bb K W0 (beginS width { s1 with indent := 0 }) w' := by
    intro w1 s1 h1 hi
    obtain ⟨lv1, ov1, hb1, hRl1, hRo1, hB1⟩ := h1
    refine ⟨⟨blk_cell hb1 5, blk_frozen hb1 5⟩, ?_⟩
    exact begin_c ad bb K W0 width _ _ ⟨_, _, isB_set (s' := { s1 with indent := 0 }) hb1 hRl1 hRo1 hB1 5 (.int .i64 0) _ rfl (Kd.R_set hRl1 hb1 (ptNeB ad) 5 _) rfl⟩ E.room ⟨by show (-16777216 : Int) ≤ 0; omega, by show (0 : Int) ≤ 16777216; omega⟩
  have STEP := Lib.hid hst
  by_cases ht : s.line.any (toldP l) = true
  · have hne : 0 < s.line.length := by
      rcases Nat.eq_zero_or_pos s.line.length with h | h
      · rw [List.eq_nil_of_length_eq_zero h] at ht; simp at ht
      · exact h
    have TELL := Lib.hid fun w1 (h : Below w.heap.size w w1) => tell_c ad l.length bb K W0 l s last w1 ⟨_, ov, blk_below hb h, Kd.R_below hRl h, Kd.R_below hRo h, grown_below hB h⟩ E.items hv.parts hne hv.mild hv.tail E.okc E.bnd hv.edge hv.len hv.outs
    have hes : endS K l width s last = beginS width { tellS K l s last with indent := 0 } := by unfold endS; rw [if_pos ht]
    have HES := Lib.hid hes
    have hind := hv.ind
    rw [ht] at HAS
    clear hst ht hes hC hb hRl hRo hB hI0
    go_enter Try.func24, Try.ntmps24
    go_wp2_with fail
    refine HAS.out.mono ?_
    rintro e w1 ⟨rfl, hB1⟩
    have B1 := Lib.hid hB1
    clear hB1
    go_wp2_with fail
    refine (TELL.out _ B1.out).mono ?_
    rintro e w2 ⟨rfl, hI2⟩
    obtain ⟨⟨d5, f5⟩, hbg⟩ := STEP.out w2 _ hI2 hind
    have BG := Lib.hid hbg
    clear hI2 hbg STEP TELL
    go_wp2_with fail
    refine BG.out.mono ?_
    rintro e w3 ⟨rfl, h3⟩
    have H3 := Lib.hid h3
    clear h3
    go_wp2_with fail
    go_end0
    exact ⟨rfl, by rw [HES.out]; exact H3.out⟩
  · have ht2 : s.line.any (toldP l) = false := by simpa using ht
    have hes : endS K l width s last = beginS width { s with indent := 0 } := by unfold endS; rw [if_neg ht]
    have HES := Lib.hid hes
    have hind := hv.ind
    have IB := Lib.hid fun w1 (h : Below w.heap.size w w1) => (⟨_, ov, blk_below hb h, Kd.R_below hRl h, Kd.R_below hRo h, grown_below hB h⟩ : IsB ad bb K W0 s w1)
    rw [ht2] at HAS
    clear hst ht ht2 hes hC hb hRl hRo hB hI0
    go_enter Try.func24, Try.ntmps24
    go_wp2_with fail
    refine HAS.out.mono ?_
    rintro e w1 ⟨rfl, hB1⟩
    obtain ⟨⟨d5, f5⟩, hbg⟩ := STEP.out w1 _ (IB.out _ hB1) hind
    have BG := Lib.hid hbg
    clear hB1 hbg STEP IB
    go_wp2_with fail
    refine BG.out.mono ?_
    rintro e w3 ⟨rfl, h3⟩
    have H3 := Lib.hid h3
    clear h3
    go_wp2_with fail
    go_end0
    exact ⟨rfl, by rw [HES.out]; exact H3.out⟩
set_option maxRecDepth 100000 in
set_option maxHeartbeats 4000000 in
theorem lower_c (ad : Addr) (bb : Nat) (K : Bc) (W0 : World) (width : Int) (s : Bk) (w : World) (hI : IsB ad bb K W0 s w) (hF : NoF bb K W0 width) :
    Calls Try.prog 37 #[.pointer (some ⟨bb, 0, none⟩)] w fun e w' => e = .returned (.bool false) ∧ IsB ad bb K W0 s w' := by
  obtain ⟨lv, ov, hb, hRl, hRo, hB⟩ := hI
  have IB := Lib.hid fun w1 (h : Below w.heap.size w w1) => (⟨lv, ov, blk_below hb h, Kd.R_below hRl h, Kd.R_below hRo h, grown_below hB h⟩ : IsB ad bb K W0 s w1)
  have hbb : ∀ w1, Below w.heap.size w w1 → w1.cell? ⟨bb, 0, none⟩ = some (.pointer (some ⟨K.fp, 0, none⟩)) := fun w1 h => blk_cell (blk_below hb h) 0
  have HBB := Lib.hid hbb
  have ALL := Lib.hid fun w1 (h : Below w.heap.size w w1) => Go.Proofs.Ytmkgapdadandmaa.Fl.All_c K.fp width [] w1 (hF w1 (grown_below hB h)) (by decide)
  have NEW := Lib.hid (Go.Proofs.Ytmkgapdadandmaa.Fl.New_c 16777216 w)
  have hed : ∀ w1 g, Go.Proofs.Ytmkgapdadandmaa.Fl.IsF w1 g (max 0 (cut 16777216)) [] → Calls Try.prog 48 #[.pointer (some ⟨g, 0, none⟩), .int .i64 0, .int .i64 0] w1 fun e w' => e = .returned (.tuple #[.int .i64 0, .int .i64 16777216]) ∧ Below w1.heap.size w1 w' := fun w1 g h => Go.Proofs.Ytmkgapdadandmaa.Fl.Edges_c g (max 0 (cut 16777216)) [] 0 0 w1 h (fun f hf => by cases hf) (by decide)
  have EDG := Lib.hid hed
  clear hb hRl hRo hB hF hbb hed
  go_enter Try.func37, Try.ntmps37
  go_wp2_with fail
  refine NEW.out.mono ?_
  rintro e w1 ⟨rfl, hF1, hB1⟩
  have B1 := Lib.hid hB1
  have F1 := Lib.hid hF1
  clear hF1 hB1
  go_wp2_with fail
  refine (EDG.out _ _ F1.out).mono ?_
  rintro e w2 ⟨rfl, hB2⟩
  have B2 := Lib.hid (below_then B1.out B1.out.size hB2)
  have c0 := HBB.out _ B2.out
  clear hB2 F1 EDG NEW
  go_wp2_with fail
  refine (ALL.out _ B2.out).mono ?_
  rintro e w3 ⟨v3, rfl, hR3, hB3⟩
  obtain ⟨A3, c3, rfl, -, -⟩ := Kd.R_reads hR3
  have B3 := Lib.hid (below_then B2.out B2.out.size hB3)
  clear hR3 hB3 c0 ALL
  go_wp2_with fail
  go_loopw [5, 21] (fun lv iv wr => lv = .int .i64 16777217 ∧ iv = .int .i64 0 ∧ wr = w3) (fun _ _ _ => 0)
  case atStart => exact ⟨rfl, rfl, rfl⟩
  case round =>
    obtain ⟨rfl, rfl, rfl⟩ := hrel
    go_wp2_with fail
    go_quiet (fail)
    have dn := pw_below_drewN (Below.refl wr.heap.size wr) nq
    have B4 := Lib.hid (below_then B3.out B3.out.size dn)
    go_wp2_with fail
    go_ret
    exact ⟨rfl, IB.out _ B4.out⟩
end Go.Proofs.Ytmkgapdadandmaa.Lin
namespace Go.Proofs.Ytmkgapdadandmaa.Lin
open Go.RowKit Go.Lib Go.Proofs.Ytmkgapdadandmaa.Pl Go.Proofs.Ytmkgapdadandmaa.Fx Go.Proofs.Ytmkgapdadandmaa.Fnt Go.Proofs.Ytmkgapdadandmaa.Rgn Go.Proofs.YtmkgapdadandmaaW.PrintWords Go.Proofs.YtmkgapdadandmaaW.PrintLast Go.Proofs.YtmkgapdadandmaaW.PrintMore
set_option linter.unusedVariables false
set_option linter.unusedSimpArgs false
attribute [local go_sem] mx2 mn2 mx_two mn_two mx_three mn_three

/-- Does a group fit into the line, or is it but what may hang? -/
def fitsB (l : List LI) (s : Bk) (c : List Pt) : Bool := decide (wAll s.line + wAll c - gtailP l c ≤ s.right - s.left) || (!c.any (solidP l) && s.full)
def openS (K : Bc) (l : List LI) (width : Int) (s : Bk) (g : List Pt) : Bk := if fitsB l s (cleanP l s.full g) = false ∧ s.full = true then endS K l width s false else s
def mustB (l : List LI) (c : List Pt) : Bool := decide (0 < c.length) && kd l c (c.length - 1) == 6
def addS (l : List LI) (s : Bk) (c : List Pt) : Bk := { s with line := s.line ++ c, full := s.full || c.any (solidP l) }
def putS (K : Bc) (l : List LI) (width : Int) (s : Bk) (g : List Pt) : Bk :=
  if mustB l (cleanP l (openS K l width s g).full g) = true then endS K l width (addS l (openS K l width s g) (cleanP l (openS K l width s g).full g)) true
  else addS l (openS K l width s g) (cleanP l (openS K l width s g).full g)
theorem clean_sub (l : List LI) : ∀ (g : List Pt) (b : Bool), ∀ p, p ∈ cleanP l b g → p ∈ g := by
  intro g
  induction g with
  | nil => intro b p hp; simp [cleanP] at hp
  | cons q r ih =>
    intro b p hp
    rw [clean_cons] at hp
    split at hp
    · exact List.mem_cons_of_mem _ (ih _ p hp)
    · rcases List.mem_cons.1 hp with rfl | hp
      · exact List.mem_cons_self ..
      · exact List.mem_cons_of_mem _ (ih _ p hp)
theorem clean_le (l : List LI) : ∀ (g : List Pt) (b : Bool), (cleanP l b g).length ≤ g.length := by
  intro g
  induction g with
  | nil => intro b; exact Nat.le_refl _
  | cons q r ih =>
    intro b
    rw [clean_cons]
    split
    · have := ih b; rw [List.length_cons]; omega
    · have := ih (b || solidP l q); rw [List.length_cons, List.length_cons]; omega
/-- What is known of a group's parts. -/
structure Grp (l : List LI) (g : List Pt) : Prop where
  parts : OKP l.length g
  mild : ∀ p, p ∈ g → MildP p
  tail : ∀ p, p ∈ g → 0 ≤ tailP l p ∧ tailP l p ≤ p.w
theorem Grp.clean {l : List LI} {g : List Pt} (h : Grp l g) (b : Bool) : Grp l (cleanP l b g) :=
  ⟨fun p hp => h.parts p (clean_sub l g b p hp), fun p hp => h.mild p (clean_sub l g b p hp), fun p hp => h.tail p (clean_sub l g b p hp)⟩
theorem end_inv {K : Bc} {l : List LI} {width : Int} {s : Bk} {last : Bool} (hw : 0 ≤ width ∧ width ≤ 16777216) (h : Inv l s) (ho : s.out.length + 1 ≤ 100000) : Inv l (endS K l width s last) ∧ (endS K l width s last).line = [] ∧ (endS K l width s last).full = false ∧ (endS K l width s last).out.length ≤ s.out.length + 1 := by
  have hout : (endS K l width s last).out.length ≤ s.out.length + 1 := by
    unfold endS beginS
    split
    · show (s.out ++ [_]).length ≤ _; rw [List.length_append, List.length_singleton]; exact Nat.le_refl _
    · exact Nat.le_succ _
  refine ⟨⟨?_, ?_, ?_, ?_, Nat.le_trans hout ho, ?_, ?_⟩, rfl, rfl, hout⟩
  · intro p hp; cases hp
  · intro p hp; cases hp
  · intro p hp; cases hp
  · exact Nat.zero_le _
  · exact ⟨by show (-16777216 : Int) ≤ 0; omega, by show (0 : Int) ≤ 16777216; omega⟩
  · refine ⟨⟨by show (-67108864 : Int) ≤ 0; omega, by show (0 : Int) ≤ 67108864; omega⟩, by show (-67108864 : Int) ≤ width; omega, by show width ≤ 67108864; omega⟩
theorem open_full {K : Bc} {l : List LI} {width : Int} {s : Bk} {g : List Pt} (h : s.full = false) : openS K l width s g = s := by
  unfold openS; rw [if_neg (by rw [h]; simp)]
/-- Is the line full, as it lies in memory? -/
def fullAt (w : World) (bb : Nat) : Nat := match w.cell? ⟨bb, 9, none⟩ with
  | some (.bool true) => 1
  | _ => 0
theorem isB_below {ad : Addr} {bb : Nat} {K : Bc} {W0 : World} {s : Bk} {w w1 : World} (h : IsB ad bb K W0 s w) (k : Below w.heap.size w w1) : IsB ad bb K W0 s w1 := by
  obtain ⟨lv, ov, hb, hRl, hRo, hB⟩ := h
  exact ⟨lv, ov, blk_below hb k, Kd.R_below hRl k, Kd.R_below hRo k, grown_below hB k⟩
theorem gtailAny_c (ad : Addr) (A : Option Addr) (m c nl : Nat) (l : List LI) (ps : List Pt) (w : World) (hP : Kd.C (kPt ad) w A m ps) (hL : Kd.C k27 w (some ad) nl l) (hok : OKP nl ps) (hmild : ∀ p, p ∈ ps → MildP p) (hm : m ≤ 100000) :
    Calls Try.prog 29 #[.slice A m c] w fun e w' => e = .returned (.int .i64 (gtailP l ps)) ∧ Below w.heap.size w w' := by
  rcases Nat.eq_zero_or_pos m with h | h
  · subst h
    have : ps = [] := List.eq_nil_of_length_eq_zero hP.1
    subst this
    exact gtail0_c A c w
  · obtain ⟨g, rfl, _⟩ := hP.2.2 h
    exact gtail_c ad g m c nl l ps w hP hL hok hmild h hm
theorem gtail_nn {l : List LI} {ps : List Pt} (h : ∀ p, p ∈ ps → 0 ≤ tailP l p ∧ tailP l p ≤ p.w) (hm : ∀ p, p ∈ ps → MildP p) : 0 ≤ gtailP l ps ∧ gtailP l ps ≤ 16777216 := by
  rcases gtR_mem l ps.reverse with h0 | ⟨q, h1, h2⟩
  · have h0 : gtailP l ps = 0 := h0
    rw [h0]; exact ⟨Int.le_refl _, by decide⟩
  · have h2 : gtailP l ps = tailP l q := h2
    have hq := List.mem_reverse.1 h1
    have := h q hq
    have := hm q hq
    unfold MildP at this
    rw [h2]
    exact ⟨by omega, by omega⟩
set_option maxRecDepth 100000 in
set_option maxHeartbeats 4000000 in
theorem put_c (ad : Addr) (bb n cg : Nat) (A : Option Addr) (K : Bc) (W0 : World) (l : List LI) (width : Int) (s : Bk) (g : List Pt) (w : World) (E : Env ad bb K W0 l width) (hw : 0 ≤ width ∧ width ≤ 16777216) (hnf : ∀ x, x ∈ l → x.f0 ≠ 5) (hI : IsB ad bb K W0 s w) (hv : Inv l s) (hG : ∀ W, W0.grownBy W (some bb) → Kd.C (kPt ad) W A n g) (hgr : Grp l g)
    (hlen : s.line.length + g.length ≤ 100000) (hout : s.out.length + 2 ≤ 100000) :
    Calls Try.prog 23 #[.pointer (some ⟨bb, 0, none⟩), .slice A n cg] w fun e w' => e = .returned (.tuple #[]) ∧ IsB ad bb K W0 (putS K l width s g) w' := by
  obtain ⟨s1, hs1⟩ : ∃ s1, openS K l width s g = s1 := ⟨_, rfl⟩
  have hgn : g.length = n := (hG w hI.choose_spec.choose_spec.2.2.2).1
  have CLN := Lib.hid fun W s' (h : IsB ad bb K W0 s' W) => by
    obtain ⟨lv, ov, hb, hRl, hRo, hB⟩ := h
    exact clean_c ad A n cg l.length bb l g K s' lv ov W (hG W hB) (E.items W hB) hgr.parts (by omega) hb
  have hfull : ∀ W s', IsB ad bb K W0 s' W → W.cell? ⟨bb, 9, none⟩ = some (.bool s'.full) := fun W s' h => by
    obtain ⟨lv, ov, hb, _⟩ := h
    exact blk_cell hb 9
  have FULL := Lib.hid hfull
  have S1 := Lib.hid hs1
  have ENV := Lib.hid E
  have HG := Lib.hid hG
  have GR := Lib.hid hgr
  have GN := Lib.hid hgn
  have HW := Lib.hid hw
  have HNF := Lib.hid hnf
  have hI' := Lib.hid hI
  have hv' := Lib.hid hv
  have hput : putS K l width s g = if mustB l (cleanP l s1.full g) = true then endS K l width (addS l s1 (cleanP l s1.full g)) true else addS l s1 (cleanP l s1.full g) := by unfold putS; rw [hs1]
  have HPUT := Lib.hid hput
  clear hs1 E hw hnf hI hv hG hgr hfull hput
  go_enter Try.func23, Try.ntmps23
  go_upto_block 0 with fail
  go_cut [4] from 9 to 52 (fun s4 wx => Hid (IsB ad bb K W0 s1 wx) ∧ Hid (Inv l s1 ∧ s1.line.length + g.length ≤ 100000 ∧ s1.out.length + 1 ≤ 100000))
  case first =>
    go_wp2_with fail
    go_loopw [4] (fun _ wr => ∃ s', Hid (IsB ad bb K W0 s' wr) ∧ Hid (Inv l s') ∧ s'.line.length + g.length ≤ 100000 ∧ s'.out.length + 1 ≤ 100000 ∧ (s'.full = true → s'.out.length + 2 ≤ 100000) ∧ Hid (openS K l width s' g = s1)) (fun _ wr => fullAt wr bb)
    case atStart => exact ⟨s, hI', hv', hlen, by omega, fun _ => hout, S1⟩
    case round =>
      obtain ⟨s', hIs, hvs, hl2, ho2, ho3, hop⟩ := hrel
      have CL2 := Lib.hid (CLN.out _ _ hIs.out)
      have hfm := FULL.out _ _ hIs.out
      have HFM := Lib.hid hfm
      obtain ⟨c, hc⟩ : ∃ c, cleanP l s'.full g = c := ⟨_, rfl⟩
      have hgc := GR.out.clean s'.full
      have hcl := clean_le l g s'.full
      rw [hc] at CL2 hgc hcl
      have HC := Lib.hid hc
      have GC := Lib.hid hgc
      clear hc hgc hfm
      go_wp2_with fail
      refine CL2.out.mono ?_
      rintro e w1 ⟨v1, rfl, hR1, hB1⟩
      obtain ⟨A1, c1, rfl, hc1, hC1⟩ := Kd.R_reads hR1
      have hI1 := isB_below hIs.out hB1
      have HI1 := Lib.hid hI1
      obtain ⟨lv, ov, hb, hRl, hRo, hGb⟩ := hI1
      obtain ⟨A2, c2, rfl, hc2, hC2⟩ := Kd.R_reads hRl
      obtain ⟨m, hm⟩ : ∃ m, c.length = m := ⟨_, rfl⟩
      obtain ⟨n2, hn2⟩ : ∃ n2, s'.line.length = n2 := ⟨_, rfl⟩
      rw [hm] at hC1 hcl ⊢
      rw [hn2] at hC2 hb hl2
      have hinv := hvs.out
      have WLI := Lib.hid fun (p : LaterOf w1.heap.size w1) => width_c ad A2 n2 c2 s'.line p.wd (Kd.C_below hC2 p.ok) (by omega) hinv.mild
      have WCC := Lib.hid fun (p : LaterOf w1.heap.size w1) => width_c ad A1 m c1 c p.wd (Kd.C_below hC1 p.ok) (by omega) GC.out.mild
      have TLC := Lib.hid fun (p : LaterOf w1.heap.size w1) => gtailAny_c ad A1 m c1 l.length l c p.wd (Kd.C_below hC1 p.ok) (ENV.out.items _ (grown_below hGb p.ok)) GC.out.parts GC.out.mild (by omega)
      have FLC := Lib.hid fun (p : LaterOf w1.heap.size w1) => full_c ad A1 m c1 l.length l c p.wd (Kd.C_below hC1 p.ok) (ENV.out.items _ (grown_below hGb p.ok)) GC.out.parts
      have bwl := w_bd s'.line hinv.mild s'.line.length (Nat.le_refl _)
      have bwc := w_bd c GC.out.mild c.length (Nat.le_refl _)
      rw [List.take_length, hn2] at bwl
      rw [List.take_length, hm] at bwc
      have btc := gtail_nn GC.out.tail GC.out.mild
      obtain ⟨⟨e1, e2⟩, e3, e4⟩ := hinv.edge
      have hfb : fitsB l s' c = (decide (wAll s'.line + wAll c - gtailP l c ≤ s'.right - s'.left) || (!c.any (solidP l) && s'.full)) := rfl
      have hop2 := hop.out
      unfold openS at hop2
      rw [HC.out, hfb] at hop2
      have HOP2 := Lib.hid hop2
      have c8 : w1.cell? ⟨bb, 8, none⟩ = some (.slice A2 n2 c2) := blk_cell hb 8
      have c7 : w1.cell? ⟨bb, 7, none⟩ = some (.int .i64 s'.right) := blk_cell hb 7
      have c6 : w1.cell? ⟨bb, 6, none⟩ = some (.int .i64 s'.left) := blk_cell hb 6
      have c9 : w1.cell? ⟨bb, 9, none⟩ = some (.bool s'.full) := blk_cell hb 9
      have INV2 := Lib.hid (show Inv l s' ∧ s'.line.length + g.length ≤ 100000 ∧ s'.out.length + 1 ≤ 100000 from ⟨hinv, by rw [hn2]; exact hl2, ho2⟩)
      have OUT2 := Lib.hid ho3
      have ENDC := Lib.hid fun W (h : IsB ad bb K W0 s' W) => bend_c ad bb K W0 l width s' false W ENV.out h hinv
      have LOWC := Lib.hid fun W (h : IsB ad bb K W0 s' W) => lower_c ad bb K W0 width s' W h ENV.out.room
      have hn2b : n2 ≤ 100000 := by omega
      clear hfb hop2 hop hinv hb hRl hRo hGb hC1 hC2 hR1 hB1 hIs hvs CL2 hc1 hc2 hm hn2 hl2 ho2 ho3
      generalize wAll s'.line = wl at *
      generalize wAll c = wc at *
      generalize gtailP l c = tc at *
      generalize c.any (solidP l) = fc at *
      generalize s'.right = rt at *
      generalize s'.left = lf at *
      obtain ⟨fb, hfbe⟩ : ∃ fb, s'.full = fb := ⟨_, rfl⟩
      rw [hfbe] at c9 HOP2 HFM OUT2
      have HFB := Lib.hid hfbe
      clear hfbe
      have q6 := LaterOf.cell c6
      have q7 := LaterOf.cell c7
      have q8 := LaterOf.cell c8
      have q9 := LaterOf.cell c9
      have IBL := Lib.hid fun W (h : Below w1.heap.size w1 W) => isB_below HI1.out h
      clear c6 c7 c8 c9 HI1
      go_wp2_with fail
      have hwA : wrap64 (wl + wc) = wl + wc := w64_id (by omega) (by omega)
      have hwB : wrap64 (wl + wc - tc) = wl + wc - tc := w64_id (by omega) (by omega)
      by_cases hfit : wl + wc - tc ≤ rt - lf
      · have n1 : decide (wl + wc - tc ≤ rt - lf) = true := decide_eq_true hfit
        have hs1e : s' = s1 := by have h := HOP2.out; rw [n1] at h; simpa using h
        have HSE := Lib.hid hs1e
        clear hs1e
        refine wp_region_later (by kernel_rfl) (by kernel_rfl) ?_
        repeat (first | go_big_quiet_skip | (go_big_quiet_want; go_big_quiet_op; first | go_big_quiet_on | (apply Exists.intro; refine ⟨fun _ => ?_, ?_⟩; focus (first | (go_at_call 28; first | with_reducible exact Calls.later_of (WLI.out _) | with_reducible exact Calls.later_of (WCC.out _)) | (go_at_call 29; exact Calls.later_of (TLC.out _)) | (go_at_call 36; exact Calls.later_of (FLC.out _))); go_big_quiet_on)) | quiet_step ((first | (go_at_call 28; first | with_reducible exact Calls.later_of (WLI.out _) | with_reducible exact Calls.later_of (WCC.out _)) | (go_at_call 29; exact Calls.later_of (TLC.out _)) | (go_at_call 36; exact Calls.later_of (FLC.out _)))))
        refine wpQuiet_nil ?_
        intro wL hw'
        obtain ⟨⟨wL2, hL⟩, hw''⟩ := hw'
        subst hw''
        go_wp2_with fail
        go_meet
        case rel => rw [← HSE.out]; exact ⟨IBL.out _ hL, INV2.out⟩
      · have n1 : decide (wl + wc - tc ≤ rt - lf) = false := decide_eq_false hfit
        cases fb with
        | true =>
          cases fc with
          | false =>
            have hs1e : s' = s1 := by have h := HOP2.out; rw [n1] at h; simpa using h
            have HSE := Lib.hid hs1e
            clear hs1e
            refine wp_region_later (by kernel_rfl) (by kernel_rfl) ?_
            repeat (first | go_big_quiet_skip | (go_big_quiet_want; go_big_quiet_op; first | go_big_quiet_on | (apply Exists.intro; refine ⟨fun _ => ?_, ?_⟩; focus (first | (go_at_call 28; first | with_reducible exact Calls.later_of (WLI.out _) | with_reducible exact Calls.later_of (WCC.out _)) | (go_at_call 29; exact Calls.later_of (TLC.out _)) | (go_at_call 36; exact Calls.later_of (FLC.out _))); go_big_quiet_on)) | quiet_step ((first | (go_at_call 28; first | with_reducible exact Calls.later_of (WLI.out _) | with_reducible exact Calls.later_of (WCC.out _)) | (go_at_call 29; exact Calls.later_of (TLC.out _)) | (go_at_call 36; exact Calls.later_of (FLC.out _)))))
            refine wpQuiet_nil ?_
            intro wL hw'
            obtain ⟨⟨wL2, hL⟩, hw''⟩ := hw'
            subst hw''
            go_wp2_with fail
            go_meet
            case rel => rw [← HSE.out]; exact ⟨IBL.out _ hL, INV2.out⟩
          | true =>
            have hs1e : endS K l width s' false = s1 := by have h := HOP2.out; rw [n1] at h; simpa using h
            have HSE := Lib.hid hs1e
            clear hs1e
            refine wp_region_later (by kernel_rfl) (by kernel_rfl) ?_
            repeat (first | go_big_quiet_skip | (go_big_quiet_want; go_big_quiet_op; first | go_big_quiet_on | (apply Exists.intro; refine ⟨fun _ => ?_, ?_⟩; focus (first | (go_at_call 28; first | with_reducible exact Calls.later_of (WLI.out _) | with_reducible exact Calls.later_of (WCC.out _)) | (go_at_call 29; exact Calls.later_of (TLC.out _)) | (go_at_call 36; exact Calls.later_of (FLC.out _))); go_big_quiet_on)) | quiet_step ((first | (go_at_call 28; first | with_reducible exact Calls.later_of (WLI.out _) | with_reducible exact Calls.later_of (WCC.out _)) | (go_at_call 29; exact Calls.later_of (TLC.out _)) | (go_at_call 36; exact Calls.later_of (FLC.out _)))))
            refine wpQuiet_nil ?_
            intro wL hw'
            obtain ⟨⟨wL2, hL⟩, hw''⟩ := hw'
            subst hw''
            have hIL := IBL.out _ hL
            have c9 := FULL.out _ _ hIL
            rw [HFB.out] at c9
            have EN := Lib.hid (ENDC.out _ hIL)
            clear hIL
            go_wp2_with fail
            refine EN.out.mono ?_
            rintro e w3 ⟨rfl, hI3⟩
            obtain ⟨i1, i2, i3, i4⟩ := end_inv (K := K) (width := width) (last := false) HW.out INV2.out.1 INV2.out.2.2
            have hf3 := FULL.out _ _ hI3
            rw [i3] at hf3
            have HF3 := Lib.hid hf3
            have HI3 := Lib.hid hI3
            have ho4 := OUT2.out (by trivial)
            have hgl : g.length ≤ 100000 := by have := INV2.out.2.1; omega
            have II := Lib.hid (show Inv l (endS K l width s' false) ∧ (endS K l width s' false).line.length + g.length ≤ 100000 ∧ (endS K l width s' false).out.length + 1 ≤ 100000 ∧ ((endS K l width s' false).full = true → (endS K l width s' false).out.length + 2 ≤ 100000) ∧ openS K l width (endS K l width s' false) g = s1 from ⟨i1, by rw [i2]; show 0 + g.length ≤ 100000; omega, by omega, fun h => (by rw [i3] at h; cases h), by rw [open_full i3]; exact HSE.out⟩)
            clear hI3 hf3 i1 i2 i3 i4 c9
            go_wp2_with fail
            go_roundw
            case rel => exact ⟨endS K l width s' false, HI3.out, II.out.1, II.out.2.1, II.out.2.2.1, II.out.2.2.2.1, II.out.2.2.2.2⟩
            case measure => have h1 := HFM.out; have h2 := HF3.out; unfold fullAt; rw [h1, h2]; decide
        | false =>
          have hs1e : s' = s1 := by have h := HOP2.out; rw [n1] at h; simpa using h
          have HSE := Lib.hid hs1e
          clear hs1e
          cases fc
          all_goals
            refine wp_region_later (by kernel_rfl) (by kernel_rfl) ?_
            repeat (first | go_big_quiet_skip | (go_big_quiet_want; go_big_quiet_op; first | go_big_quiet_on | (apply Exists.intro; refine ⟨fun _ => ?_, ?_⟩; focus (first | (go_at_call 28; first | with_reducible exact Calls.later_of (WLI.out _) | with_reducible exact Calls.later_of (WCC.out _)) | (go_at_call 29; exact Calls.later_of (TLC.out _)) | (go_at_call 36; exact Calls.later_of (FLC.out _))); go_big_quiet_on)) | quiet_step ((first | (go_at_call 28; first | with_reducible exact Calls.later_of (WLI.out _) | with_reducible exact Calls.later_of (WCC.out _)) | (go_at_call 29; exact Calls.later_of (TLC.out _)) | (go_at_call 36; exact Calls.later_of (FLC.out _)))))
            refine wpQuiet_nil ?_
            intro wL hw'
            obtain ⟨⟨wL2, hL⟩, hw''⟩ := hw'
            subst hw''
            have hIL := IBL.out _ hL
            have c9 := FULL.out _ _ hIL
            rw [HFB.out] at c9
            have LO := Lib.hid (LOWC.out _ hIL)
            clear hIL
            go_wp2_with fail
            refine LO.out.mono ?_
            rintro e w3 ⟨rfl, hI3⟩
            have HI3 := Lib.hid hI3
            clear hI3 c9
            go_wp2_with fail
            go_meet
            case rel => rw [← HSE.out]; exact ⟨HI3.out, INV2.out⟩
  case rest =>
    obtain ⟨WC, rfl⟩ : ∃ W : World, W = wc := ⟨_, rfl⟩
    obtain ⟨hI1, hv1⟩ := hcut
    obtain ⟨c, hc⟩ : ∃ c, cleanP l s1.full g = c := ⟨_, rfl⟩
    have CL2 := CLN.out _ _ hI1.out
    have hgc := GR.out.clean s1.full
    have hcl := clean_le l g s1.full
    rw [hc] at CL2 hgc hcl
    have hput2 := HPUT.out
    rw [hc] at hput2
    obtain ⟨m, hm⟩ : ∃ m, c.length = m := ⟨_, rfl⟩
    have CL3 := Lib.hid CL2
    have GC := Lib.hid hgc
    have HP2 := Lib.hid hput2
    have V1 := Lib.hid hv1.out
    have hI1' := hI1.out
    clear CL2 hgc hput2 HPUT CLN hI' hv' S1 hc hI1
    obtain ⟨lv, ov, hb, hRl, hRo, hGb⟩ := hI1'
    obtain ⟨A2, c2, rfl, hc2, -⟩ := Kd.R_reads hRl
    obtain ⟨n2, hn2⟩ : ∃ n2, s1.line.length = n2 := ⟨_, rfl⟩
    rw [hn2] at hb hRl
    have hl2 : n2 + g.length ≤ 100000 := by rw [← hn2]; exact V1.out.2.1
    have hl3 : s1.line.length + g.length ≤ 100000 := by rw [hn2]; exact hl2
    have LT := Lib.hid (Kd.R_lt hRl)
    have HB0 := Lib.hid hb
    have HRl0 := Lib.hid hRl
    have HRo0 := Lib.hid hRo
    have HG0 := Lib.hid hGb
    clear hb hRl hRo hGb hc2 hn2
    go_wp2_with fail
    refine CL3.out.mono ?_
    rintro e w3 ⟨v3, rfl, hR3, hB3⟩
    obtain ⟨A3, c3, rfl, hc3, -⟩ := Kd.R_reads hR3
    rw [hm] at hR3 hc3 hcl ⊢
    have R3 := Lib.hid hR3
    have B3 := Lib.hid hB3
    have CM := Lib.hid hm
    have hm1 : m ≤ 100000 := by have := GN.out; omega
    clear hR3 hB3 hv1 hc3 CL3 hm
    go_wp2_with fail
    go_loopw [7, 58] (fun _ iv wr => ∃ j : Nat, j ≤ m ∧ iv = .int .i64 j ∧ Hid (Below w3.heap.size w3 wr)) (fun _ iv _ => m - (RowKit.intOf iv).toNat)
    case atStart => exact ⟨0, Nat.zero_le _, rfl, Below.refl _ _⟩
    case round =>
      obtain ⟨j, hj, rfl, hB⟩ := hrel
      have hBc := below_then B3.out B3.out.size hB.out
      have hGr := grown_below HG0.out hBc
      have hRc := Kd.R_below R3.out hB.out
      have hCc := (Kd.R_reads' hRc).2.2
      rw [CM.out] at hCc
      by_cases hlt : j < m
      · obtain ⟨g3, eg, x0, x1, x2, x3, x4⟩ := partAt hCc j hlt
        subst eg
        obtain ⟨hxa, hxt⟩ := okp_get GC.out.parts (i := j) (by rw [CM.out]; exact hlt)
        have s0 := fun o => (itmAt9 (ENV.out.items _ (grown_below hGr (below_alloc (Below.refl _ _) o))) (c.getD j zPt) hxa).1
        have hk5 : (itm l (c.getD j zPt)).f0 ≠ 5 := HNF.out _ (itm_mem hxa)
        generalize c.getD j zPt = p at *
        generalize (itm l p).f0 = kk at *
        obtain ⟨pa, pt, pw, pl⟩ := p
        simp only at x0 x1 x2 x3 x4 s0
        have z5 : (kk != 5) = true := by simp [hk5]
        have BA := Lib.hid fun o => below_alloc hB.out o
        clear hB hk5 hxa hxt hBc hGr hRc hCc
        go_wp2_with fail
        go_roundw
        case rel => exact ⟨j + 1, by omega, by go_num, BA.out _⟩
        case measure => simp [RowKit.intOf]; omega
      · obtain rfl : j = m := by omega
        have hb := blk_below HB0.out hBc
        have c8 : wr.cell? ⟨bb, 8, none⟩ = some (.slice A2 n2 c2) := blk_cell hb 8
        have hRl := Kd.R_below HRl0.out hBc
        have hRo := Kd.R_below HRo0.out hBc
        have hlr : ∀ k, (Value.slice A2 n2 c2).ownBlock = some k → (Value.slice A3 j c3).ownBlock ≠ some k := fun k h1 h2 => by
          have := LT.out k h1
          have := Kd.R_base hRc k h2
          omega
        have HRl := Lib.hid hRl
        have HRo := Lib.hid hRo
        have HGb := Lib.hid hGr
        have HBk := Lib.hid hb
        have C4 := Lib.hid hCc
        have RC4 := Lib.hid hRc
        have HLR := Lib.hid hlr
        have hjl : s1.line.length + j ≤ 100000 := by omega
        -- what the world is behind the two stores
        have NXT : Hid (∀ v1 w4, Kd.R (kPt ad) 72 w4 W0.heap.size (fun _ => True) v1 (s1.line ++ c) → Below W0.heap.size wr w4 → wr.grownBy w4 (Value.slice A2 n2 c2).ownBlock →
            (w4.cell? ⟨bb, 8, none⟩ = some (.slice A2 n2 c2) ∧ ∀ i, w4.frozen? ⟨bb, i, none⟩ = false) ∧ (w4.setCell ⟨bb, 8, none⟩ v1).cell? ⟨bb, 9, none⟩ = some (.bool s1.full) ∧ (∀ i, (w4.setCell ⟨bb, 8, none⟩ v1).frozen? ⟨bb, i, none⟩ = false) ∧ Kd.R (kPt ad) 72 (w4.setCell ⟨bb, 8, none⟩ v1) WC.heap.size (fun _ => True) (.slice A3 j c3) c ∧ IsB ad bb K W0 { s1 with line := s1.line ++ c } (w4.setCell ⟨bb, 8, none⟩ v1)) := Lib.hid fun v1 w4 hO1 hB1 hG1 => by
          have hb4 := blk_grown HBk.out hG1 (Kd.R_ne HRl.out HBk.out (by decide))
          have hb5 := set1' hb4 8 v1
          have ho4 := Kd.R_over HRo.out HRl.out (by decide) hG1
          have hg4 := grown_then HGb.out hB1
          have hc4 := Kd.R_grown2 RC4.out rfl hG1 (fun k hk e => HLR.out k hk e.symm)
          have hc5 := Kd.R_set hc4 hb4 (ptNeB ad) 8 v1
          exact ⟨⟨blk_cell hb4 8, fun i => blk_frozen hb4 i⟩, blk_cell hb5 9, fun i => blk_frozen hb5 i, hc5, v1, ov, by rw [hb5]; rfl, Kd.R_set hO1 hb4 (ptNeB ad) 8 v1, Kd.R_set ho4 hb4 (by decide) 8 v1, hg4.trans (grown_cell' w4 bb 8 v1)⟩
        have STP : Hid (∀ W (b : Bool), IsB ad bb K W0 { s1 with line := s1.line ++ c } W → Kd.R (kPt ad) 72 W WC.heap.size (fun _ => True) (.slice A3 j c3) c →
            (W.cell? ⟨bb, 9, none⟩ = some (.bool s1.full) ∧ W.frozen? ⟨bb, 9, none⟩ = false) ∧ IsB ad bb K W0 { s1 with line := s1.line ++ c, full := b } (W.setCell ⟨bb, 9, none⟩ (.bool b)) ∧ Kd.C (kPt ad) (W.setCell ⟨bb, 9, none⟩ (.bool b)) A3 j c) := Lib.hid fun W b h1 h2 => by
          obtain ⟨lv, ov', hb, hl, ho, hg⟩ := h1
          have hc5 := (Kd.R_reads' (Kd.R_set h2 hb (ptNeB ad) 9 (.bool b))).2.2
          rw [CM.out] at hc5
          exact ⟨⟨blk_cell hb 9, blk_frozen hb 9⟩, ⟨lv, ov', isB_set (s' := { s1 with line := s1.line ++ c, full := b }) hb hl ho hg 9 (.bool b) lv rfl (Kd.R_set hl hb (ptNeB ad) 9 _) rfl⟩, hc5⟩
        have hadd : addS l s1 c = { s1 with line := s1.line ++ c, full := s1.full || c.any (solidP l) } := rfl
        have VA : Hid (Inv l (addS l s1 c)) := Lib.hid (by
          have v := V1.out.1
          refine ⟨fun p hp => ?_, fun p hp => ?_, fun p hp => ?_, ?_, v.outs, v.ind, v.edge⟩
          · rcases List.mem_append.1 hp with hp | hp; exact v.parts p hp; exact GC.out.parts p hp
          · rcases List.mem_append.1 hp with hp | hp; exact v.mild p hp; exact GC.out.mild p hp
          · rcases List.mem_append.1 hp with hp | hp; exact v.tail p hp; exact GC.out.tail p hp
          · show (s1.line ++ c).length ≤ 100000; rw [List.length_append, CM.out]; omega)
        have BE := Lib.hid fun W (h : IsB ad bb K W0 (addS l s1 c) W) => bend_c ad bb K W0 l width (addS l s1 c) true W ENV.out h VA.out
        have KA : Hid (∀ W, W0.grownBy W (some bb) → Kd.C (kPt ad) W A3 j c → 0 < j → ∃ g3, A3 = some g3 ∧ ∃ q, W.cell? (g3.add ((j - 1) * 5)) = some (.pointer (some q)) ∧ W.cell? q = some (.int .i64 (kd l c (j - 1)))) := Lib.hid (fun W hg h h0 => by
          obtain ⟨g3, eg, _⟩ := h.2.2 h0
          have h' := h
          rw [eg] at h'
          exact ⟨g3, eg, kindAt h' (ENV.out.items W hg) GC.out.parts (j - 1) (by omega)⟩)
        have FC := Lib.hid fun W (hg : W0.grownBy W (some bb)) (h : Kd.R (kPt ad) 72 W WC.heap.size (fun _ => True) (.slice A3 j c3) c) => full_c ad A3 j c3 l.length l c W (by have := (Kd.R_reads' h).2.2; rw [CM.out] at this; exact this) (ENV.out.items W hg) GC.out.parts
        have hmu : mustB l c = (decide (0 < j) && kd l c (j - 1) == 6) := by unfold mustB; rw [CM.out]
        rw [hmu] at HP2
        have HAD := Lib.hid hadd
        clear hadd hmu
        clear hRl hRo hGr hb hCc hRc hlr hB hBc
        go_upto_region 16 with (at_builtin; go_loud (refine Kd.R_append_rows (kPt ad) (Rr := (kPt ad).K wr) (w0 := wr) (W := wr) W0.heap.size rfl (.tmp 94) (.tmp 95) 57 72 _ 48 rfl Try.underlying57 infoP rfl (by show 0 < 5; omega) (by decide) (.slice A2 n2 c2) s1.line c A3 j c3 (fun _ => True) (fun _ => False) rfl rfl HRl.out C4.out (kPt_M _ _ _ _) (fun _ h => h.elim) (fun _ _ => trivial) (Below.refl _ _) HGb.out.size (by omega) ?_); intro v1 w4 hO1 hB1 hG1 hat1; clear hat1; obtain ⟨A4, c4, hv4, hc4, -⟩ := Kd.R_reads hO1; generalize hm4 : (s1.line ++ c).length = n4 at hv4 hc4; subst hv4; obtain ⟨⟨d8, df⟩, d9, df5, dC, dI⟩ := NXT.out _ w4 hO1 hB1 hG1; have DC := Lib.hid dC; have DI := Lib.hid dI; clear hO1 hB1 hG1 hc4 dC dI hm4)
        obtain ⟨W5, hW5⟩ : ∃ W5, w4.setCell ⟨bb, 8, none⟩ (.slice A4 n4 c4) = W5 := ⟨_, rfl⟩
        rw [hW5] at DC DI d9 df5 ⊢
        clear hW5 NXT HRl HRo HGb HBk C4 RC4 HLR d8 df c8
        have hgW : W0.grownBy W5 (some bb) := by obtain ⟨_, _, _, _, _, h⟩ := DI.out; exact h
        have FC5 := Lib.hid (FC.out W5 hgW DC.out)
        have BEL : Hid (∀ W, Below W5.heap.size W5 W → IsB ad bb K W0 { s1 with line := s1.line ++ c } W ∧ Kd.R (kPt ad) 72 W WC.heap.size (fun _ => True) (.slice A3 j c3) c) := Lib.hid fun W h => ⟨isB_below DI.out h, Kd.R_below DC.out h⟩
        obtain ⟨fb, hfb⟩ : ∃ fb, s1.full = fb := ⟨_, rfl⟩
        have HFB := Lib.hid hfb
        clear hfb d9 df5
        go_cut [] from 99 to 109 (fun wx => Hid (IsB ad bb K W0 (addS l s1 c) wx) ∧ Hid (Kd.C (kPt ad) wx A3 j c))
        case first =>
          cases fb with
          | true =>
            obtain ⟨⟨d9, f9⟩, e1, e2⟩ := STP.out W5 true DI.out DC.out
            rw [HFB.out] at d9
            have E1 : Hid (IsB ad bb K W0 (addS l s1 c) (W5.setCell ⟨bb, 9, none⟩ (.bool true))) := Lib.hid (by rw [HAD.out, HFB.out]; exact e1)
            have E2 := Lib.hid e2
            clear e1 e2
            go_wp2_with fail
            go_meet
            case rel => exact ⟨E1.out, E2.out⟩
          | false =>
            have d9 := (STP.out W5 true DI.out DC.out).1.1
            rw [HFB.out] at d9
            obtain ⟨ab, hab⟩ : ∃ ab, c.any (solidP l) = ab := ⟨_, rfl⟩
            rw [hab] at FC5
            have HAB := Lib.hid hab
            clear hab
            go_wp2_with (go_at_call 36; refine FC5.out.mono ?_; rintro e' w6 ⟨rfl, hB6⟩; obtain ⟨h1, h2⟩ := BEL.out _ hB6; obtain ⟨⟨k9, f9⟩, e1, e2⟩ := STP.out w6 ab h1 h2; have E1 := Lib.hid e1; have E2 := Lib.hid e2; clear hB6 h1 h2 e1 e2)
            go_meet
            case rel => exact ⟨by rw [HAD.out, HFB.out, HAB.out]; exact E1.out, E2.out⟩
        case rest =>
          obtain ⟨hE1, hE2⟩ := hcut
          have hI5 := hE1.out
          have BE2 := Lib.hid (BE.out _ hI5)
          have hgw : W0.grownBy wc (some bb) := by obtain ⟨_, _, _, _, _, h⟩ := hI5; exact h
          have hcq := hE2.out
          have KA2 := Lib.hid (fun h0 => KA.out wc hgw hcq h0)
          clear KA BE hI5 hgw hcq
          rcases Nat.eq_zero_or_pos j with h0 | h0
          · subst h0
            have hp := HP2.out
            rw [show (decide (0 < 0) && kd l c (0 - 1) == 6) = false from rfl, if_neg (by decide)] at hp
            have HP := Lib.hid hp
            clear hp
            go_wp2_with fail
            go_end0
            exact ⟨rfl, by rw [HP.out]; exact hE1.out⟩
          · have hg : ((j : Int) > 0) = True := by simp; omega
            obtain ⟨g3, eg, q, x0, x1⟩ := KA2.out h0
            subst eg
            generalize hkq : kd l c (j - 1) = kq at *
            have HKQ := Lib.hid hkq
            clear hkq
            have hgi : (↑j : Int) - 1 = ((j - 1 : Nat) : Int) := by omega
            by_cases h6 : kq = 6
            · subst h6
              have hp := HP2.out
              rw [show (decide (0 < j) && (6 : Int) == 6) = true by simp [h0], if_pos rfl] at hp
              have HP := Lib.hid hp
              clear hp
              go_wp2_with (go_at_call 24; refine BE2.out.mono ?_; rintro e' w6 ⟨rfl, hI6⟩)
              go_end0
              exact ⟨rfl, by rw [HP.out]; exact hI6⟩
            · have hp := HP2.out
              rw [show (decide (0 < j) && kq == 6) = false by simp [h6], if_neg (by decide)] at hp
              have HP := Lib.hid hp
              clear hp
              go_wp2_with fail
              go_end0
              exact ⟨rfl, by rw [HP.out]; exact hE1.out⟩
end Go.Proofs.Ytmkgapdadandmaa.Lin
namespace Go.Proofs.Ytmkgapdadandmaa.Lin
open Go.RowKit Go.Lib Go.Proofs.Ytmkgapdadandmaa.Pl Go.Proofs.Ytmkgapdadandmaa.Fx Go.Proofs.Ytmkgapdadandmaa.Fnt Go.Proofs.Ytmkgapdadandmaa.Rgn Go.Proofs.YtmkgapdadandmaaW.PrintWords Go.Proofs.YtmkgapdadandmaaW.PrintLast Go.Proofs.YtmkgapdadandmaaW.PrintMore
set_option linter.unusedVariables false
set_option linter.unusedSimpArgs false
attribute [local go_sem] mx2 mn2 mx_two mn_two mx_three mn_three

/-- The last line is marked. -/
def lastL (o : List LL) : List LL := o.set (o.length - 1) { o.getD (o.length - 1) z39 with f6 := true }
def doneS (K : Bc) (l : List LI) (width : Int) (s : Bk) : Bk := if 0 < s.line.length then endS K l width s true else { s with out := lastL s.out }
def putsS (K : Bc) (l : List LI) (width : Int) (s0 : Bk) (gs : List (List Pt)) : Bk := gs.foldl (putS K l width) (beginS width s0)
def breakP (K : Bc) (l : List LI) (width : Int) (s0 : Bk) (gs : List (List Pt)) : List LL := (doneS K l width (putsS K l width s0 gs)).out
theorem open_inv {K : Bc} {l : List LI} {width : Int} {s : Bk} {g : List Pt} (hw : 0 ≤ width ∧ width ≤ 16777216) (h : Inv l s) (ho : s.out.length + 1 ≤ 100000) :
    Inv l (openS K l width s g) ∧ (openS K l width s g).line.length ≤ s.line.length ∧ (openS K l width s g).out.length ≤ s.out.length + 1 := by
  unfold openS
  split
  · obtain ⟨h1, h2, _, h4⟩ := end_inv (K := K) (last := false) hw h ho
    exact ⟨h1, by rw [h2]; exact Nat.zero_le _, h4⟩
  · exact ⟨h, Nat.le_refl _, Nat.le_succ _⟩
theorem add_inv {l : List LI} {s : Bk} {c : List Pt} (v : Inv l s) (hg : Grp l c) (hl : s.line.length + c.length ≤ 100000) : Inv l (addS l s c) := by
  refine ⟨fun p hp => ?_, fun p hp => ?_, fun p hp => ?_, ?_, v.outs, v.ind, v.edge⟩
  · rcases List.mem_append.1 hp with hp | hp; exact v.parts p hp; exact hg.parts p hp
  · rcases List.mem_append.1 hp with hp | hp; exact v.mild p hp; exact hg.mild p hp
  · rcases List.mem_append.1 hp with hp | hp; exact v.tail p hp; exact hg.tail p hp
  · show (s.line ++ c).length ≤ 100000; rw [List.length_append]; exact hl
theorem put_inv {K : Bc} {l : List LI} {width : Int} {s : Bk} {g : List Pt} (hw : 0 ≤ width ∧ width ≤ 16777216) (h : Inv l s) (hg : Grp l g) (hl : s.line.length + g.length ≤ 100000) (ho : s.out.length + 2 ≤ 100000) :
    Inv l (putS K l width s g) ∧ (putS K l width s g).line.length ≤ s.line.length + g.length ∧ (putS K l width s g).out.length ≤ s.out.length + 2 := by
  obtain ⟨h1, h2, h3⟩ := open_inv (K := K) (g := g) hw h (by omega)
  unfold putS
  generalize openS K l width s g = s1 at *
  have hc := clean_le l g s1.full
  have hgc := hg.clean s1.full
  generalize cleanP l s1.full g = c at *
  have hA := add_inv h1 hgc (by omega)
  have hal : (addS l s1 c).line.length = s1.line.length + c.length := by show (s1.line ++ c).length = _; rw [List.length_append]
  have hao : (addS l s1 c).out = s1.out := rfl
  split
  · obtain ⟨k1, k2, _, k4⟩ := end_inv (K := K) (last := true) hw hA (by rw [hao]; omega)
    rw [hao] at k4
    exact ⟨k1, by rw [k2]; exact Nat.zero_le _, by omega⟩
  · exact ⟨hA, by rw [hal]; omega, by rw [hao]; omega⟩
theorem begin_inv {l : List LI} {width : Int} {s : Bk} (hw : 0 ≤ width ∧ width ≤ 16777216) (hi : -16777216 ≤ s.indent ∧ s.indent ≤ 16777216) (ho : s.out.length ≤ 100000) : Inv l (beginS width s) :=
  ⟨fun p hp => (by cases hp), fun p hp => (by cases hp), fun p hp => (by cases hp), Nat.zero_le _, ho, hi, ⟨by show (-67108864 : Int) ≤ s.indent; omega, by show s.indent ≤ 67108864; omega⟩, by show (-67108864 : Int) ≤ width; omega, by show width ≤ 67108864; omega⟩
def lens (gs : List (List Pt)) : Nat := gs.flatten.length
theorem puts_inv {K : Bc} {l : List LI} {width : Int} (hw : 0 ≤ width ∧ width ≤ 16777216) : ∀ (gs : List (List Pt)) (s : Bk), Inv l s → (∀ g, g ∈ gs → Grp l g) → s.line.length + lens gs ≤ 100000 → s.out.length + 2 * gs.length ≤ 100000 →
    Inv l (gs.foldl (putS K l width) s) ∧ (gs.foldl (putS K l width) s).line.length ≤ s.line.length + lens gs ∧ (gs.foldl (putS K l width) s).out.length ≤ s.out.length + 2 * gs.length := by
  intro gs
  induction gs with
  | nil => intro s h _ _ _; exact ⟨h, Nat.le_add_right _ _, Nat.le_add_right _ _⟩
  | cons g r ih =>
    intro s h hg hl ho
    have e : lens (g :: r) = g.length + lens r := by unfold lens; rw [List.flatten_cons, List.length_append]
    rw [e] at hl ⊢
    rw [List.length_cons] at ho ⊢
    obtain ⟨h1, h2, h3⟩ := put_inv (K := K) hw h (hg g (List.mem_cons_self ..)) (by omega) (by omega)
    obtain ⟨k1, k2, k3⟩ := ih (putS K l width s g) h1 (fun x hx => hg x (List.mem_cons_of_mem _ hx)) (by omega) (by omega)
    rw [List.foldl_cons]
    exact ⟨k1, by omega, by omega⟩
theorem gS_whole (l : List LI) (ps : List Pt) : ∀ k, k ≤ ps.length → ((gS l ps k).2.map (sub ps)).flatten = ps.take (gS l ps k).1 := by
  intro k
  induction k with
  | zero => intro _; simp [gS]
  | succ k ih =>
    intro hk
    have h1 := ih (by omega)
    have h2 := (gS_bd l ps k).1
    rw [gS_step]
    split
    · rw [List.map_append, List.flatten_append, h1]
      simp only [List.map_cons, List.map_nil, List.flatten_cons, List.flatten_nil, List.append_nil]
      unfold sub
      simp only
      have : (ps.take (k + 1)).take (gS l ps k).1 = ps.take (gS l ps k).1 := by rw [List.take_take, Nat.min_eq_left (by omega)]
      rw [← this, List.take_append_drop]
    · exact h1
theorem gS_last (l : List LI) (ps : List Pt) : (gS l ps ps.length).1 = ps.length := by
  rcases Nat.eq_zero_or_pos ps.length with h | h
  · rw [h]; rfl
  · obtain ⟨k, hk⟩ : ∃ k, ps.length = k + 1 := ⟨ps.length - 1, by omega⟩
    rw [hk, gS_step, if_pos (by unfold endG; rw [if_pos hk.symm])]
/-- The groups are all the parts. -/
theorem groups_flat (l : List LI) (ps : List Pt) : ((groupsP l ps).map (sub ps)).flatten = ps := by
  unfold groupsP
  rw [gS_whole l ps ps.length (Nat.le_refl _), gS_last, List.take_length]
/-- The last cell of a line is set. -/
theorem lastPut {w : World} {base n : Nat} {A : Option Addr} {c : Nat} {o : List LL} (h : Kd.R k39 39 w base (fun _ => True) (.slice A n c) o) (hn : 0 < n) :
    ∃ g, A = some ⟨g, 0, none⟩ ∧ base ≤ g ∧ w.cell? ⟨g, (n - 1) * 7 + 6, none⟩ ≠ none ∧ (∀ j, w.frozen? ⟨g, j, none⟩ = false) ∧ (∃ cells, w.heap[g]? = some (.cells cells 39 (0, 0))) ∧ Kd.R k39 39 (w.setCell ⟨g, (n - 1) * 7 + 6, none⟩ (.bool true)) base (fun _ => True) (.slice A n c) (lastL o) := by
  obtain ⟨hl, _, _⟩ := Kd.R_reads' h
  obtain ⟨g, cap, he, hb, _, cells, hc⟩ := Kd.R_form h (by omega)
  injection he with e1 e2 e3
  subst e1
  obtain ⟨cs, h1, h2, h3, h4⟩ := Kd.R_elem h z39 ((n - 1 : Nat) : Int) (by omega) (by omega)
  rw [Int.toNat_natCast] at h2 h3 h4
  obtain ⟨v5, rfl, h5⟩ := k39_openM h2
  have hs := (Kd.R_seg h ((n - 1 : Nat) : Int) (by omega) (by omega) (seg := [.bool true]) (j := 6) h1 (by rw [Int.toNat_natCast]; exact h3) (by decide) (okp := fun k => True ∧ k ≠ g) (x' := { o.getD (n - 1) z39 with f6 := true }) (k39_mkM w base _ { o.getD (n - 1) z39 with f6 := true } h5) (fun _ hk => hk)).1
  rw [Int.toNat_natCast] at hs
  have e : lastL o = o.set (n - 1) { o.getD (n - 1) z39 with f6 := true } := by unfold lastL; rw [← hl]
  refine ⟨g, rfl, hb, ?_, fun j => blk_frozen hc j, ⟨cells, hc⟩, ?_⟩
  · have := h3 6 _ rfl
    show w.cell? ⟨g, (n - 1) * k39.sz + 6, none⟩ ≠ none
    rw [this]; simp
  · rw [e]; exact hs
end Go.Proofs.Ytmkgapdadandmaa.Lin
namespace Go.Proofs.Ytmkgapdadandmaa.Lin
open Go.RowKit Go.Lib Go.Proofs.Ytmkgapdadandmaa.Pl Go.Proofs.Ytmkgapdadandmaa.Fx Go.Proofs.Ytmkgapdadandmaa.Fnt Go.Proofs.Ytmkgapdadandmaa.Rgn Go.Proofs.YtmkgapdadandmaaW.PrintWords Go.Proofs.YtmkgapdadandmaaW.PrintLast Go.Proofs.YtmkgapdadandmaaW.PrintMore
set_option linter.unusedVariables false
set_option linter.unusedSimpArgs false
attribute [local go_sem] mx2 mn2 mx_two mn_two mx_three mn_three

def k0 (fp : Nat) (size height align : Int) : Bc := ⟨fp, max 0 (cut size), max 0 (cut height), align⟩
def s0 (y indent : Int) : Bk := ⟨cut y, cut indent, 0, 0, [], false, []⟩
def BrkPost (Pc : ByteArray → Int → List ByteArray → Prop) (l : List LI) (K : Bc) (width : Int) (s : Bk) (w : World) (e : Ending) (w' : World) : Prop :=
  ∃ v ps, e = .returned v ∧ PartsTo Pc l l.length ps ∧ Kd.R k39 39 w' w.heap.size (fun _ => True) v (breakP K l width s ((groupsP l ps).map (sub ps))) ∧ Below w.heap.size w w'
set_option maxRecDepth 100000 in
set_option maxHeartbeats 4000000 in
theorem Break_c (Pc : ByteArray → Int → List ByteArray → Prop) (hpc : PcOK Pc) (hpi : PieOK Pc) (A : Option Addr) (ad : Addr) (nl cl fp : Nat) (l : List LI) (y size height indent align width : Int) (w : World) (hL : Kd.C k27 w A nl l) (hA : nl ≠ 0 → A = some ad) (hn : nl ≤ 40) (hs : ∀ x, x ∈ l → x.f2.size ≤ 1000) (hok : PsOK Pc l)
    (htail : ∀ ps, PartsTo Pc l l.length ps → ∀ p, p ∈ ps → 0 ≤ tailP l p ∧ tailP l p ≤ p.w) (hF : Go.Proofs.Ytmkgapdadandmaa.Fl.IsF w fp width []) (hw : 0 ≤ width ∧ width ≤ 16777216) (hnf : ∀ x, x ∈ l → x.f0 ≠ 5) (hbnd : ∀ x, x ∈ l → BndI x) :
    Calls Try.prog 11 #[.slice A nl cl, .pointer (some ⟨fp, 0, none⟩), .int .i64 y, .int .i64 size, .int .i64 height, .int .i64 indent, .int .i64 align] w (BrkPost Pc l (k0 fp size height align) width (s0 y indent) w) := by
  have hln : l.length = nl := hL.1
  have CUT : Hid (∀ (n : Int) (W : World), Calls Try.prog 17 #[.int .i64 n] W fun e w'' => e = .returned (.int .i64 (cut n)) ∧ W = w'') := Lib.hid (fun n W => Cut_c n W)
  have hLs : Kd.C k27 w (some ad) nl l := by
    by_cases h0 : nl = 0
    · exact ⟨hL.1, hL.2.1, fun h => absurd h (by omega)⟩
    · rw [← hA h0]; exact hL
  have HB0 := Lib.hid (Below.refl w.heap.size w)
  have HL := Lib.hid hL
  have HLS := Lib.hid hLs
  have HA := Lib.hid hA
  have HS := Lib.hid hs
  have OK := Lib.hid hok
  have TA := Lib.hid htail
  have HF := Lib.hid hF
  have HW := Lib.hid hw
  have HNF := Lib.hid hnf
  have HBD := Lib.hid hbnd
  have LN := Lib.hid hln
  have PC := Lib.hid hpc
  have PI := Lib.hid hpi
  have hci := cut_bd indent
  have hcy := cut_bd y
  have hcs := cut_bd size
  have hch := cut_bd height
  have OKK : Hid (OKc (k0 fp size height align)) := Lib.hid (by unfold OKc k0; simp only; omega)
  obtain ⟨K, hK⟩ : ∃ K, k0 fp size height align = K := ⟨_, rfl⟩
  obtain ⟨S0, hS0⟩ : ∃ S0, s0 y indent = S0 := ⟨_, rfl⟩
  have hcells : [Value.pointer (some ⟨fp, 0, none⟩), .int .i64 (cut y), .int .i64 (max 0 (cut size)), .int .i64 (max 0 (cut height)), .int .i64 align, .int .i64 (cut indent), .int .i64 0, .int .i64 0, .slice none 0 0, .bool false, .slice none 0 0, .slice none 0 0] = bkV K S0 (.slice none 0 0) (.slice none 0 0) := by rw [← hK, ← hS0]; rfl
  have hSi : -16777216 ≤ S0.indent ∧ S0.indent ≤ 16777216 := by rw [← hS0]; exact hci
  have hSo : S0.out = [] := by rw [← hS0]; rfl
  have hSl : S0.line = [] := by rw [← hS0]; rfl
  have hKf : K.fp = fp := by rw [← hK]; rfl
  rw [hK] at OKK ⊢
  rw [hS0]
  have CELLS := Lib.hid hcells
  have KF := Lib.hid hKf
  have SO := Lib.hid hSo
  have SL := Lib.hid hSl
  clear hL hA hs hok htail hF hw hnf hbnd hln hpc hpi hLs hcells hci hcy hcs hch hK hS0 hKf hSo hSl
  go_enter Try.func11, Try.ntmps11
  go_upto_region 2 with (go_at_call 17; refine (CUT.out _ _).mono ?_; rintro e' w' ⟨rfl, rfl⟩)
  rw [CELLS.out]
  obtain ⟨w1, hw1⟩ : ∃ w1 : World, w.alloc (.cells (bkV K S0 (.slice none 0 0) (.slice none 0 0)).toArray 59) = w1 := ⟨_, rfl⟩
  have hb1 : w1.heap[w.heap.size]? = some (.cells (bkV K S0 (.slice none 0 0) (.slice none 0 0)).toArray 59 (0, 0)) := by rw [← hw1]; exact heap_alloc_new _ _
  have hB1 : Below w.heap.size w w1 := by rw [← hw1]; exact below_alloc (Below.refl _ _) _
  rw [hw1]
  clear hw1
  generalize hag : Value.agg (bkV K S0 (.slice none 0 0) (.slice none 0 0)).toArray = uag
  clear hag
  obtain ⟨bb, hbb⟩ : ∃ bb, w.heap.size = bb := ⟨_, rfl⟩
  have BBE := Lib.hid hbb
  rw [hbb] at hb1 ⊢
  clear hbb
  have hnf1 : NoF bb K w1 width := fun W hg => by
    rw [show K.fp = fp from KF.out]
    exact HF.out.below (pw_below_grown hB1 _ hB1.size hg (fun k hk => by injection hk with hk; rw [← hk, BBE.out]; exact Nat.le_refl _))
  have hv1 : IsV ad bb K w1 (.slice none 0 0) (.slice none 0 0) S0 w1 := ⟨hb1, by rw [SL.out]; exact Kd.R_nil _ _ _ _ _, by rw [SO.out]; exact Kd.R_nil _ _ _ _ _, rfl, rfl, rfl, Nat.le_refl _, fun _ _ _ => rfl⟩
  have BG := Lib.hid (begin_v ad bb K w1 width S0 _ _ w1 hv1 hnf1 hSi)
  have B1 := Lib.hid hB1
  clear hb1 hnf1 hv1 hB1
  go_upto_region 3 with (go_at_call 20; refine BG.out.mono ?_; rintro e' w2 ⟨rfl, hv2⟩)
  obtain ⟨hb2, -, -, hg2⟩ := hv2
  have hB2 : Below w.heap.size w w2 := pw_below_grown B1.out _ B1.out.size hg2 (fun k hk => by injection hk with hk; rw [← hk, BBE.out]; exact Nat.le_refl _)
  have hbl2 : bb < w2.heap.size := blk_lt hb2
  have HB2 := Lib.hid hb2
  have B2 := Lib.hid hB2
  have PAR := Lib.hid (parts_c Pc PC.out PI.out A ad nl cl l w2 (Kd.C_below HL.out hB2) HA.out (by omega) HS.out)
  clear hb2 hg2 hB2 BG B1 PI HB0
  go_upto_block 0 with (first
    | (go_at_call 22
       refine PAR.out.mono ?_
       rintro e' w3 ⟨v3, ps, rfl, hR3, hPT, hB3⟩
       obtain ⟨Ap, cp, rfl, hcp, hC3⟩ := Kd.R_reads hR3
       obtain ⟨ok1, ok2⟩ := OK.out ps hPT
       have ta1 := TA.out ps hPT
       have hpl := parts_len PC.out _ ps hPT
       rw [LN.out] at ok1 hpl
       obtain ⟨n, hn2⟩ : ∃ n, ps.length = n := ⟨_, rfl⟩
       rw [hn2] at hcp hC3 hpl ⊢
       have hn1 : n ≤ 40040 := by omega
       obtain ⟨g, hg⟩ : ∃ g : Addr, n ≠ 0 → Ap = some g := by
         by_cases hz : n = 0
         · exact ⟨ad, fun h => absurd hz h⟩
         · obtain ⟨g, e, _⟩ := hC3.2.2 (by omega)
           exact ⟨g, fun _ => e⟩
       have hL3 := Kd.C_below (Kd.C_below HLS.out B2.out) hB3
       have GRS := Lib.hid (groups_c ad g Ap n cp nl l ps w3 hC3 hg hL3 ok1 (by omega) hcp)
       have HC3 := Lib.hid hC3
       have R3 := Lib.hid hR3
       have PT := Lib.hid hPT
       have B3 := Lib.hid hB3
       have OK1 := Lib.hid ok1
       have OK2 := Lib.hid ok2
       have TA1 := Lib.hid ta1
       have PN := Lib.hid hn2
       have HG := Lib.hid hg
       have HCP := Lib.hid hcp
       clear hC3 hR3 hPT hB3 ok1 ok2 ta1 hn2 hg hcp hL3 hpl PAR OK TA)
    | (go_at_call 21
       refine GRS.out.mono ?_
       rintro e' w4 ⟨v4, rfl, hR4, hB4⟩
       obtain ⟨Ag, cg, rfl, hcg, -⟩ := Kd.R_reads hR4
       obtain ⟨m, hm⟩ : ∃ m, (groupsP l ps).length = m := ⟨_, rfl⟩
       rw [hm] at hR4 hcg ⊢
       have R4 := Lib.hid hR4
       have B4 := Lib.hid hB4
       have GM := Lib.hid hm
       clear hR4 hB4 hm hcg GRS))
  have hFR : ∀ W, w4.grownBy W (some bb) → Below w.heap.size w W := fun W hg => by
    have h3 := below_then B2.out B2.out.size B3.out
    have h4 := below_then h3 h3.size B4.out
    exact pw_below_grown h4 _ h4.size hg (fun k hk => by injection hk with hk; rw [← hk, BBE.out]; exact Nat.le_refl _)
  have hE : Env ad bb K w4 l width := ⟨fun W hg => by rw [LN.out]; exact Kd.C_below HLS.out (hFR W hg), fun W hg => by rw [show K.fp = fp from KF.out]; exact HF.out.below (hFR W hg), OKK.out, HBD.out⟩
  have hPW : ∀ W, w4.grownBy W (some bb) → Kd.C (kPt ad) W Ap n ps := fun W hg => by
    have := (Kd.R_reads' (Kd.R_grown2 (Kd.R_below R3.out B4.out) rfl hg (fun k hk e => by
      have h1 := Kd.R_base R3.out k e.symm
      injection hk with hk
      omega))).2.2
    rw [PN.out] at this
    exact this
  have hGW : ∀ W, w4.grownBy W (some bb) → Kd.C (kGr g cp) W Ag m (groupsP l ps) := fun W hg => by
    have := (Kd.R_reads' (Kd.R_grown2 R4.out rfl hg (fun k hk e => by
      have h1 := Kd.R_base R4.out k e.symm
      have h2 := B3.out.size
      injection hk with hk
      omega))).2.2
    rw [GM.out] at this
    exact this
  have hI0 : IsB ad bb K w4 (beginS width S0) w4 := ⟨_, _, blk_below (blk_below HB2.out B3.out) B4.out, Kd.R_nil _ _ _ _ _, by show Kd.R _ _ _ _ _ _ S0.out; rw [SO.out]; exact Kd.R_nil _ _ _ _ _, rfl, rfl, rfl, Nat.le_refl _, fun _ _ _ => rfl⟩
  have hgsb := (gS_bd l ps ps.length).2
  rw [show (gS l ps ps.length).2 = groupsP l ps from rfl, PN.out, GM.out] at hgsb
  obtain ⟨hmn, hgb⟩ := hgsb
  have hfl := groups_flat l ps
  have hLE : ∀ k, lens (((groupsP l ps).map (sub ps)).take k) ≤ n := fun k => by
    have h1 := congrArg List.length hfl
    rw [← List.take_append_drop k ((groupsP l ps).map (sub ps)), List.flatten_append, List.length_append, PN.out] at h1
    unfold lens
    omega
  have hGR : ∀ x, x ∈ (groupsP l ps).map (sub ps) → Grp l x := fun x hx => by
    obtain ⟨q, _, rfl⟩ := List.mem_map.1 hx
    exact ⟨fun p hp => by rw [LN.out]; exact OK1.out p (sub_mem hp), fun p hp => OK2.out p (sub_mem hp), fun p hp => TA1.out p (sub_mem hp)⟩
  have hINV : ∀ k, k ≤ m → Inv l ((((groupsP l ps).map (sub ps)).take k).foldl (putS K l width) (beginS width S0)) ∧ ((((groupsP l ps).map (sub ps)).take k).foldl (putS K l width) (beginS width S0)).line.length ≤ n ∧ ((((groupsP l ps).map (sub ps)).take k).foldl (putS K l width) (beginS width S0)).out.length ≤ 2 * k := fun k hk => by
    have hlk : (((groupsP l ps).map (sub ps)).take k).length = k := by rw [List.length_take, List.length_map, GM.out]; omega
    have hob : (beginS width S0).out.length = 0 := by show S0.out.length = 0; rw [SO.out]; rfl
    have hll : (beginS width S0).line.length = 0 := rfl
    have := puts_inv (K := K) HW.out (((groupsP l ps).map (sub ps)).take k) (beginS width S0) (begin_inv HW.out hSi (by rw [SO.out]; exact Nat.zero_le _)) (fun x hx => hGR x (List.mem_of_mem_take hx)) (by have := hLE k; rw [hll]; omega) (by rw [hob, hlk]; omega)
    rw [hlk, hob, hll] at this
    have h2 := hLE k
    exact ⟨this.1, by omega, by omega⟩
  have hSN : ∀ k, k < m → ((((groupsP l ps).map (sub ps)).take (k + 1)).foldl (putS K l width) (beginS width S0)) = putS K l width ((((groupsP l ps).map (sub ps)).take k).foldl (putS K l width) (beginS width S0)) (sub ps ((groupsP l ps).getD k (0, 0))) := fun k hk => by
    have hkl : k < (groupsP l ps).length := by rw [GM.out]; exact hk
    rw [List.take_succ_eq_append_getElem (by rw [List.length_map]; exact hkl), List.foldl_append, List.getElem_map, List.getD_eq_getElem?_getD, List.getElem?_eq_getElem hkl]
    rfl
  have hMEM : ∀ k, k < m → (groupsP l ps).getD k (0, 0) ∈ groupsP l ps := fun k hk => by
    have hkl : k < (groupsP l ps).length := by rw [GM.out]; exact hk
    rw [List.getD_eq_getElem?_getD, List.getElem?_eq_getElem hkl]; exact List.getElem_mem _
  have hPUT : ∀ k W, k < m → IsB ad bb K w4 ((((groupsP l ps).map (sub ps)).take k).foldl (putS K l width) (beginS width S0)) W → Calls Try.prog 23 #[.pointer (some ⟨bb, 0, none⟩), grV g cp ((groupsP l ps).getD k (0, 0))] W fun e w' => e = .returned (.tuple #[]) ∧ IsB ad bb K w4 ((((groupsP l ps).map (sub ps)).take (k + 1)).foldl (putS K l width) (beginS width S0)) w' := fun k W hk hI => by
    obtain ⟨i1, i2, i3⟩ := hINV k (by omega)
    have hp := hgb _ (hMEM k hk)
    rw [hSN k hk]
    have hsl := sub_len (ps := ps) (p := (groupsP l ps).getD k (0, 0)) (by rw [PN.out]; exact hp.2)
    obtain rfl : Ap = some g := HG.out (by omega)
    exact put_c ad bb _ _ _ K w4 l width _ _ W hE HW.out HNF.out hI i1 (fun W' hW => sub_C (hPW W' hW) HCP.out hp.1 hp.2) (hGR _ (List.mem_map_of_mem (hMEM k hk))) (by omega) (by omega)
  have hEND : ∀ W, IsB ad bb K w4 (putsS K l width S0 ((groupsP l ps).map (sub ps))) W → Calls Try.prog 24 #[.pointer (some ⟨bb, 0, none⟩), .bool true] W fun e w' => e = .returned (.tuple #[]) ∧ IsB ad bb K w4 (endS K l width (putsS K l width S0 ((groupsP l ps).map (sub ps))) true) w' := fun W hI => by
    have := (hINV m (Nat.le_refl _)).1
    rw [show m = ((groupsP l ps).map (sub ps)).length by rw [List.length_map]; exact GM.out.symm, List.take_length] at this
    exact bend_c ad bb K w4 l width _ true W hE hI this
  have hBEG : ∀ W s, IsB ad bb K w4 s W → -16777216 ≤ s.indent ∧ s.indent ≤ 16777216 → Calls Try.prog 20 #[.pointer (some ⟨bb, 0, none⟩)] W fun e w' => e = .returned (.tuple #[]) ∧ IsB ad bb K w4 (beginS width s) w' := fun W s h hi => begin_c ad bb K w4 width s W h hE.room hi
  have hIND : -16777216 ≤ (putsS K l width S0 ((groupsP l ps).map (sub ps))).indent ∧ (putsS K l width S0 ((groupsP l ps).map (sub ps))).indent ≤ 16777216 := by
    have := (hINV m (Nat.le_refl _)).1
    rw [show m = ((groupsP l ps).map (sub ps)).length by rw [List.length_map]; exact GM.out.symm, List.take_length] at this
    exact this.ind
  have hALL : ((groupsP l ps).map (sub ps)).take m = (groupsP l ps).map (sub ps) := by rw [show m = ((groupsP l ps).map (sub ps)).length by rw [List.length_map]; exact GM.out.symm, List.take_length]
  have hPO : ∀ W v, Kd.R k39 39 W w4.heap.size (fun _ => True) v (breakP K l width S0 ((groupsP l ps).map (sub ps))) → w4.grownBy W (some bb) → BrkPost Pc l K width S0 w (.returned v) W := fun W v h1 h2 => ⟨v, ps, rfl, PT.out, Kd.R_lower h1 (by have := B2.out.size; have := B3.out.size; have := B4.out.size; omega), hFR W h2⟩
  have hGA : ∀ W k, w4.grownBy W (some bb) → k < m → ∃ q : Addr, Ag = some q ∧ W.cell? (q.add k) = some (grV g cp ((groupsP l ps).getD k (0, 0))) := fun W k hg hk => grAt (hGW W hg) k hk
  obtain ⟨G, hG⟩ : ∃ G, (groupsP l ps).map (sub ps) = G := ⟨_, rfl⟩
  rw [hG] at hPUT hEND hIND hALL hPO
  have PUT := Lib.hid hPUT
  have EN := Lib.hid hEND
  have BE := Lib.hid hBEG
  have IND := Lib.hid hIND
  have ALL := Lib.hid hALL
  have PO := Lib.hid hPO
  have GA := Lib.hid hGA
  have I0 := Lib.hid hI0
  generalize groupsP l ps = grs at PUT GA
  clear hFR hE hPW hGW hI0 hgb hfl hLE hGR hINV hSN hMEM hPUT hEND hBEG hIND hALL hPO hGA hG HL HLS HA HS HF HW HNF HBD PC OKK CELLS SL SO HB2 B2 HC3 R3 PT B3 OK1 OK2 TA1 PN HG HCP R4 B4 GM hSi
  go_wp2_with fail
  go_loopw [17, 39] (fun _ iv wr => ∃ k : Nat, k ≤ m ∧ iv = .int .i64 k ∧ Hid (IsB ad bb K w4 ((G.take k).foldl (putS K l width) (beginS width S0)) wr)) (fun _ iv _ => m - (RowKit.intOf iv).toNat)
  case atStart => exact ⟨0, Nat.zero_le _, rfl, I0⟩
  case round =>
    obtain ⟨k, hk, rfl, hI⟩ := hrel
    by_cases hlt : k < m
    · have hgw : w4.grownBy wr (some bb) := by obtain ⟨_, _, _, _, _, h⟩ := hI.out; exact h
      obtain ⟨q, rfl, x0⟩ := GA.out wr k hgw hlt
      have PT1 := Lib.hid (PUT.out k wr hlt hI.out)
      generalize grV g cp (grs.getD k (0, 0)) = gv at *
      clear hgw
      go_wp2_with fail
      refine PT1.out.mono ?_
      rintro e w5 ⟨rfl, hI5⟩
      have I5 := Lib.hid hI5
      clear hI5
      go_wp2_with fail
      go_roundw
      case rel => exact ⟨k + 1, by omega, by go_num, I5⟩
      case measure => simp [RowKit.intOf]; omega
    · obtain rfl : k = m := by omega
      rw [ALL.out] at hI
      have hI2 : Hid (IsB ad bb K w4 (putsS K l width S0 G) wr) := hI
      obtain ⟨S, hS⟩ : ∃ S, putsS K l width S0 G = S := ⟨_, rfl⟩
      have hbp : breakP K l width S0 G = (doneS K l width S).out := by rw [← hS]; rfl
      rw [hS] at hI2 EN IND
      have EN2 := Lib.hid (EN.out _ hI2.out)
      obtain ⟨lv, ov, hb, hRl, hRo, hg⟩ := hI2.out
      obtain ⟨A1, c1, rfl, hc1, -⟩ := Kd.R_reads hRl
      obtain ⟨A2, c2, rfl, hc2, -⟩ := Kd.R_reads hRo
      have x8 : wr.cell? ⟨bb, 8, none⟩ = some (.slice A1 S.line.length c1) := blk_cell hb 8
      have x11 : wr.cell? ⟨bb, 11, none⟩ = some (.slice A2 S.out.length c2) := blk_cell hb 11
      have hBEL : ∀ W, IsB ad bb K w4 (doneS K l width S) W → (-16777216 ≤ (doneS K l width S).indent ∧ (doneS K l width S).indent ≤ 16777216) → Calls Try.prog 20 #[.pointer (some ⟨bb, 0, none⟩)] W fun e w' => e = .returned (.tuple #[]) ∧ ∃ v, w'.cell? ⟨bb, 11, none⟩ = some v ∧ BrkPost Pc l K width S0 w (.returned v) w' := fun W h hi => (BE.out W _ h hi).mono fun e w' ⟨e1, e2⟩ => by
        obtain ⟨lv', ov', hb', _, hRo', hg'⟩ := e2
        exact ⟨e1, ov', blk_cell hb' 11, PO.out w' ov' (by rw [hbp]; exact hRo') hg'⟩
      have BEL := Lib.hid hBEL
      clear hBEL BE PO EN hI2 hI hbp hS ALL GA PUT I0
      by_cases hpos : 0 < S.line.length
      · have hds : doneS K l width S = endS K l width S true := by unfold doneS; rw [if_pos hpos]
        have hie : -16777216 ≤ (endS K l width S true).indent ∧ (endS K l width S true).indent ≤ 16777216 := ⟨by show (-16777216 : Int) ≤ 0; omega, by show (0 : Int) ≤ 16777216; omega⟩
        rw [hds] at BEL
        have IE := Lib.hid hie
        generalize endS K l width S true = S5 at *
        obtain ⟨n1, hn1'⟩ : ∃ n1, S.line.length = n1 := ⟨_, rfl⟩
        rw [hn1'] at x8 hpos
        have hpi : ((n1 : Int) > 0) = True := by simp; omega
        clear hds hie hb hRl hRo hg hn1' x11
        go_wp2_with fail
        refine EN2.out.mono ?_
        rintro e w5 ⟨rfl, hI5⟩
        have B5 := Lib.hid (BEL.out _ hI5 IE.out)
        clear hI5
        go_wp2_with fail
        refine B5.out.mono ?_
        rintro e w6 ⟨rfl, v6, x6, hpo⟩
        have HPO := Lib.hid hpo
        clear hpo
        go_wp2_with fail
        go_ret
        exact HPO.out
      · have hz : S.line.length = 0 := by omega
        have hds : doneS K l width S = { S with out := lastL S.out } := by unfold doneS; rw [if_neg hpos]
        have hie : -16777216 ≤ (doneS K l width S).indent ∧ (doneS K l width S).indent ≤ 16777216 := by rw [hds]; exact IND.out
        have IE := Lib.hid hie
        rw [hz] at x8
        rcases Nat.eq_zero_or_pos S.out.length with ho | ho
        · have hlo : lastL S.out = S.out := by rw [List.eq_nil_of_length_eq_zero ho]; rfl
          have BB := Lib.hid (BEL.out wr (by rw [hds, hlo]; exact ⟨_, _, hb, hRl, hRo, hg⟩) IE.out)
          rw [ho] at x11
          clear hds hie hlo hb hRl hRo hg
          go_wp2_with fail
          refine BB.out.mono ?_
          rintro e w6 ⟨rfl, v6, x6, hpo⟩
          have HPO := Lib.hid hpo
          clear hpo
          go_wp2_with fail
          go_ret
          exact HPO.out
        · obtain ⟨no, hno⟩ : ∃ no, S.out.length = no := ⟨_, rfl⟩
          have hno2 : no ≤ 9223372036854775807 := by rw [← hno]; exact (Kd.R_reads' hRo).2.2.2.1
          obtain ⟨go, rfl, hgb, hgc, hgf, ⟨cells, hcl⟩, hRo2⟩ := lastPut hRo ho
          have hne : bb ≠ go := fun e => by
            subst e
            rw [hb] at hcl
            injection hcl with hcl
            injection hcl with _ h2 _
            exact absurd h2 (by decide)
          have hIB : IsB ad bb K w4 (doneS K l width S) (wr.setCell ⟨go, (S.out.length - 1) * 7 + 6, none⟩ (.bool true)) := by
            rw [hds]
            exact ⟨_, _, blk_far hb (p := ⟨go, (S.out.length - 1) * 7 + 6, none⟩) hne (.bool true), Kd.R_set hRl hcl (ptNe ad) ((S.out.length - 1) * 7 + 6) (.bool true), hRo2, grown_then hg ⟨rfl, rfl, rfl, by simp [World.setCell], fun i hi => Below.heap_setCell _ _ _ _ (by show i ≠ go; omega)⟩⟩
          have BB := Lib.hid (BEL.out _ hIB IE.out)
          obtain ⟨u6, hu6⟩ : ∃ u6, wr.cell? ⟨go, (S.out.length - 1) * 7 + 6, none⟩ = some u6 := Option.ne_none_iff_exists'.1 hgc
          have f6 := hgf ((S.out.length - 1) * 7 + 6)
          rw [hno] at x11 BB hu6 f6 ho
          obtain ⟨nm, hnm⟩ : ∃ nm, no - 1 = nm := ⟨_, rfl⟩
          rw [hnm] at BB hu6 f6
          have hnn : (no : Int) - 1 = (nm : Int) := by omega
          have hlt2 : (nm : Int) < (no : Int) := by omega
          clear hds hie hb hRl hRo hg hgc hgf hcl hRo2 hIB hnm hno
          go_wp2_with fail
          refine BB.out.mono ?_
          rintro e w6 ⟨rfl, v6, x6, hpo⟩
          have HPO := Lib.hid hpo
          clear hpo
          go_wp2_with fail
          go_ret
          exact HPO.out
end Go.Proofs.Ytmkgapdadandmaa.Lin
