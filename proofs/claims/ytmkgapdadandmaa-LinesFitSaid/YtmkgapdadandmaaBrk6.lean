/- The breaker of lines: a line is told. -/
import Derived.Test.YtmkgapdadandmaaBrkA
import Derived.Test.YtmkgapdadandmaaLater
import Derived.Deep.CutBlock
import Derived.StillTailTactics
namespace Go.Proofs.Ytmkgapdadandmaa.Lin
open Go.RowKit Go.Lib Go.Proofs.Ytmkgapdadandmaa.Pl Go.Proofs.Ytmkgapdadandmaa.Fx Go.Proofs.Ytmkgapdadandmaa.Fnt Go.Proofs.Ytmkgapdadandmaa.Rgn Go.Proofs.YtmkgapdadandmaaW.PrintWords Go.Proofs.YtmkgapdadandmaaW.PrintLast Go.Proofs.YtmkgapdadandmaaW.PrintMore
set_option linter.unusedVariables false
set_option linter.unusedSimpArgs false
attribute [local go_sem] mx2 mn2 mx_two mn_two mx_three mn_three

/-- Where part i of an own row lies. -/
theorem ptPlace {ad : Addr} {w : World} {base g n cp : Nat} {ok : Nat → Prop} {ps : List Pt} (h : Kd.R (kPt ad) 72 w base ok (.slice (some ⟨g, 0, none⟩) n cp) ps) (i : Nat) (hi : i < n) :
    (w.cell? ⟨g, i * 5, none⟩ = some (.pointer (some (ad.add ((ps.getD i zPt).at_ * 11)))) ∧ w.cell? ⟨g, i * 5 + 1, none⟩ = some (.int .i64 ((ps.getD i zPt).at_ : Int)) ∧ w.cell? ⟨g, i * 5 + 2, none⟩ = some (.string (ps.getD i zPt).text) ∧
      w.cell? ⟨g, i * 5 + 3, none⟩ = some (.int .i64 (ps.getD i zPt).w) ∧ w.cell? ⟨g, i * 5 + 4, none⟩ = some (.bool (ps.getD i zPt).last)) ∧ (∀ j, w.frozen? ⟨g, j, none⟩ = false) ∧ base ≤ g ∧ g < w.heap.size := by
  obtain ⟨hn, _, hC⟩ := Kd.R_reads' h
  obtain ⟨g', eg, x0, x1, x2, x3, x4⟩ := partAt hC i (by omega)
  obtain rfl := Option.some.inj eg
  simp only [add_plain] at x0 x1 x2 x3 x4
  obtain ⟨inner, ho⟩ := Kd.R_own h
  obtain ⟨cells, hcl⟩ := own_typed ho g (by simp [Value.ownBlock])
  exact ⟨⟨x0, x1, x2, x3, x4⟩, fun j => by simp [World.frozen?, hcl], Kd.R_base h g (by simp [Value.ownBlock]), blk_lt hcl⟩
theorem ptPut {ad : Addr} {w : World} {base g n cp : Nat} {ok : Nat → Prop} {ps : List Pt} (h : Kd.R (kPt ad) 72 w base ok (.slice (some ⟨g, 0, none⟩) n cp) ps) (i : Nat) (hi : i < n) (j : Nat) (v : Value) (hj : j < 5) (p' : Pt) (hp' : (ptV ad (ps.getD i zPt)).take j ++ [v] ++ (ptV ad (ps.getD i zPt)).drop (j + 1) = ptV ad p') :
    Kd.R (kPt ad) 72 (w.setCell ⟨g, i * 5 + j, none⟩ v) base ok (.slice (some ⟨g, 0, none⟩) n cp) (ps.set i p') := by
  obtain ⟨⟨x0, x1, x2, x3, x4⟩, _, _⟩ := ptPlace h i hi
  have := (Kd.R_seg (d := kPt ad) h (i : Int) (by omega) (by omega) (c := ptV ad (ps.getD i zPt)) (seg := [v]) (j := j) rfl (fun j u hu => by
    rw [Int.toNat_natCast]
    show w.cell? ⟨g, i * 5 + j, none⟩ = some u
    unfold ptV at hu
    rcases j with _ | _ | _ | _ | _ | j
    · simp at hu; subst hu; exact x0
    · simp at hu; subst hu; exact x1
    · simp at hu; subst hu; exact x2
    · simp at hu; subst hu; exact x3
    · simp at hu; subst hu; exact x4
    · simp at hu) (by show j + 1 ≤ 5; omega) (x' := p') (okp := fun _ => False) (by show _ = ptV ad p'; exact hp') (fun _ h => h.elim)).1
  rw [Int.toNat_natCast] at this
  exact this
/-- What lies in the breaker's block. -/
theorem bkAt {W : World} {bb : Nat} {K : Bc} {s : Bk} {lv ov : Value} (h : W.heap[bb]? = some (.cells (bkV K s lv ov).toArray 59 (0, 0))) :
    W.cell? ⟨bb, 1, none⟩ = some (.int .i64 s.y) ∧ W.cell? ⟨bb, 4, none⟩ = some (.int .i64 K.align) ∧ W.cell? ⟨bb, 6, none⟩ = some (.int .i64 s.left) ∧ W.cell? ⟨bb, 7, none⟩ = some (.int .i64 s.right) ∧ W.cell? ⟨bb, 8, none⟩ = some lv ∧ W.cell? ⟨bb, 11, none⟩ = some ov :=
  ⟨blk_cell h 1, blk_cell h 4, blk_cell h 6, blk_cell h 7, blk_cell h 8, blk_cell h 11⟩
/-- One cell of a block is set. -/
theorem set1 {W : World} {b t : Nat} {cs : Array Value} (h : W.heap[b]? = some (.cells cs t (0, 0))) (i : Nat) (v : Value) : (W.setCell ⟨b, i, none⟩ v).heap[b]? = some (.cells (cs.setIfInBounds i v) t (0, 0)) := by
  obtain ⟨hlt, hk⟩ := Array.getElem?_eq_some_iff.1 h
  show (W.heap.modify b _)[b]? = _
  rw [Array.getElem?_eq_getElem (by rw [Array.size_modify]; exact hlt), Array.getElem_modify_self, hk]
  rfl
theorem gapReads {w : World} {base e n cp g : Nat} {xs : List Int} (h : w.ownsRow base e 1 (.slice (some ⟨g, 0, none⟩) n cp) n (nums .i64 xs)) : ReadsInt w .i64 (some ⟨g, 0, none⟩) n xs := by
  obtain ⟨A, c, he, hr⟩ := own_reads h
  injection he with h1 h2 h3
  subst h1
  exact hr
theorem gapSet {w : World} {base e n cp g b : Nat} {xs : List Int} (h : w.ownsRow base e 1 (.slice (some ⟨g, 0, none⟩) n cp) n (nums .i64 xs)) (hne : g ≠ b) (v : Value) : (w.setCell ⟨b, 0, none⟩ v).ownsRow base e 1 (.slice (some ⟨g, 0, none⟩) n cp) n (nums .i64 xs) :=
  own_other h (grownBy_setCell' w b v) (.inr (by simp [Value.ownBlock]; exact hne))
theorem ptNe (ad : Addr) : ∀ q, q ∈ 72 :: (kPt ad).E → q ≠ 39 := by
  show ∀ q, q ∈ [72] → q ≠ 39
  decide
theorem gap_at {l : List LI} {ps : List Pt} {e : Int} {k j : Nat} (hk : ps.length = k) (h : j < k) : (gap01 l ps e).getD j 0 = gap1 l ps e j := by
  unfold gap01
  rw [List.getD_eq_getElem?_getD, List.getElem?_map, List.getElem?_range (by omega)]; rfl
/-- The gaps marked so far. -/
def gapTo (l : List LI) (ps : List Pt) (e : Int) (j : Nat) : List Int := (List.range ps.length).map fun i => if i < j then gap1 l ps e i else 0
theorem gapTo_zero (l : List LI) (ps : List Pt) (e : Int) : gapTo l ps e 0 = List.replicate ps.length 0 := by
  unfold gapTo
  apply List.ext_getElem
  · simp
  · intro i h1 h2; simp
theorem gapTo_skip {l : List LI} {ps : List Pt} {e : Int} {j : Nat} (h : gap1 l ps e j = 0) : gapTo l ps e (j + 1) = gapTo l ps e j := by
  unfold gapTo
  apply List.map_congr_left
  intro i _
  by_cases hi : i = j
  · subst hi; rw [if_pos (by omega), if_neg (by omega), h]
  · by_cases h2 : i < j
    · rw [if_pos h2, if_pos (by omega)]
    · rw [if_neg h2, if_neg (by omega)]
theorem gapTo_set {l : List LI} {ps : List Pt} {e : Int} {j : Nat} (hj : j < ps.length) (h : gap1 l ps e j = 1) : gapTo l ps e (j + 1) = (gapTo l ps e j).set j 1 := by
  unfold gapTo
  apply List.ext_getElem
  · simp
  · intro i h1 h2
    rw [List.getElem_set]
    simp only [List.getElem_map, List.getElem_range]
    by_cases hi : j = i
    · subst hi; rw [if_pos rfl, if_pos (by omega), h]
    · rw [if_neg hi]
      by_cases h3 : i < j
      · rw [if_pos h3, if_pos (by omega)]
      · rw [if_neg h3, if_neg (by omega)]
theorem gapTo_all {l : List LI} {ps : List Pt} {e : Int} {j : Nat} (hj : ∀ i, j ≤ i → gap1 l ps e i = 0) : gapTo l ps e j = gap01 l ps e := by
  unfold gapTo gap01
  apply List.map_congr_left
  intro i _
  by_cases h2 : i < j
  · rw [if_pos h2]
  · rw [if_neg h2, hj i (by omega)]
theorem okp_trim {nl : Nat} {l : List LI} {ps : List Pt} (h : OKP nl ps) : OKP nl (trimP l ps) := by
  intro p hp
  unfold trimP at hp
  split at hp
  · rcases List.mem_or_eq_of_mem_set hp with hp | rfl
    · exact h p hp
    · rename_i hc
      have hb := lastI_bd l ps ps.length
      have hlt : (endI l ps).toNat < ps.length := by have : endI l ps < (ps.length : Int) := hb.2; omega
      have hmem : endPt l ps ∈ ps := by unfold endPt; rw [List.getD_eq_getElem?_getD, List.getElem?_eq_getElem hlt]; exact List.getElem_mem _
      have := h _ hmem
      refine ⟨this.1, ?_⟩
      show ((endPt l ps).text.extract 0 ((endPt l ps).text.size - 1)).size ≤ 1000
      rw [ByteArray.size_extract]
      omega
  · exact h p hp
theorem grown_cell (w : World) (b i : Nat) (v : Value) : w.grownBy (w.setCell ⟨b, i, none⟩ v) (some b) :=
  ⟨rfl, rfl, rfl, by simp [World.setCell], fun k _ hne => Below.heap_setCell _ _ _ _ (fun e => hne (by rw [e]))⟩
theorem infoLP : (Try.prog.info? 41).map (fun i => (i.zero, i.size, i.bytes)) = some (some (.agg #[.int .i64 0, .int .i64 0, .int .i64 0, .string ⟨#[]⟩]), k41.sz, 40) := by kernel_rfl
theorem ptNe2 (ad : Addr) : ∀ q, q ∈ 72 :: (kPt ad).E → q ≠ 41 := by
  show ∀ q, q ∈ [72] → q ≠ 41
  decide
theorem infoLL : (Try.prog.info? 39).map (fun i => (i.zero, i.size, i.bytes)) = some (some (.agg #[.int .i64 0, .int .i64 0, .int .i64 0, .int .i64 0, .int .i64 0, .slice none 0 0, .bool false]), k39.sz, 72) := by kernel_rfl
theorem ptNe3 (ad : Addr) : ∀ q, q ∈ 72 :: (kPt ad).E → q ≠ 59 := by
  show ∀ q, q ∈ [72] → q ≠ 59
  decide
def InK (s : Bk) : Prop := (-67108864 ≤ s.left ∧ s.left ≤ 67108864) ∧ (-67108864 ≤ s.right ∧ s.right ≤ 67108864)
set_option maxRecDepth 1000000 in
set_option maxHeartbeats 8000000 in
theorem tell_c (ad : Addr) (nl bb : Nat) (K : Bc) (W0 : World) (l : List LI) (s : Bk) (last : Bool) (w : World) (hI : IsB ad bb K W0 s w) (hL : ∀ W, W0.grownBy W (some bb) → Kd.C k27 W (some ad) nl l)
    (hok : OKP nl s.line) (hne : 0 < s.line.length) (hm : ∀ p, p ∈ s.line → MildP p) (ht : ∀ p, p ∈ s.line → 0 ≤ tailP l p ∧ tailP l p ≤ p.w) (hK : OKc K) (hl : ∀ x, x ∈ l → BndI x) (hlr : InK s) (hn : s.line.length ≤ 100000) (ho : s.out.length ≤ 100000) :
    Calls Try.prog 40 #[.pointer (some ⟨bb, 0, none⟩), .bool last] w fun e w' => e = .returned (.tuple #[]) ∧ IsB ad bb K W0 (tellS K l s last) w' := by
  obtain ⟨lv, ov, hb, hRl, hRo, hB⟩ := hI
  obtain ⟨b0, hb0⟩ : ∃ b0, W0.heap.size = b0 := ⟨_, rfl⟩
  have hsz0 := hB.size
  rw [hb0] at hRl hRo hsz0
  obtain ⟨A, c, rfl, hc, hC⟩ := Kd.R_reads hRl
  obtain ⟨n, hln⟩ : ∃ n, s.line.length = n := ⟨_, rfl⟩
  rw [hln] at hne hn hc hC hb hRl
  obtain ⟨g, rfl, _⟩ := hC.2.2 hne
  have hCB : ∀ W, Below w.heap.size w W → W.heap[bb]? = some (.cells (bkV K s (.slice (some g) n c) ov).toArray 59 (0, 0)) := fun W h => blk_below hb h
  have CB := Lib.hid hCB
  have HL := Lib.hid fun W (h : Below w.heap.size w W) => hL W (grown_below hB h)
  have BW := Lib.hid hB
  have B0L := Lib.hid hsz0
  have B0E := Lib.hid hb0
  have RL := Lib.hid hRl
  have RO := Lib.hid hRo
  have OK := Lib.hid hok
  have MD := Lib.hid hm
  have TD := Lib.hid ht
  have HK := Lib.hid hK
  have BI := Lib.hid hl
  have LR := Lib.hid hlr
  have LN := Lib.hid hln
  have OL := Lib.hid ho
  have CLN := Lib.hid (clone_c ad g n c s.line w hC hn)
  have c8 := blk_cell hb 8
  simp only [bkV, List.getElem?_toArray, List.getElem?_cons_zero, List.getElem?_cons_succ] at c8
  clear hb hRl hRo hB hsz0 hb0 hL hok hm ht hK hl hlr ho hc hC hCB
  go_enter Try.func40, Try.ntmps40
  go_wp2_with fail
  refine CLN.out.mono ?_
  rintro e w1 ⟨v1, rfl, hR1, hB1⟩
  obtain ⟨A1, cp1, rfl, hc1, hC1⟩ := Kd.R_reads hR1
  rw [hln] at hc1 hC1
  obtain ⟨g1a, rfl, _⟩ := hC1.2.2 hne
  obtain ⟨g1, hg1⟩ : ∃ g1, g1a = ⟨g1, 0, none⟩ := by
    have := Kd.R_own hR1
    obtain ⟨inner, ho⟩ := this
    rcases ho.2 with ⟨h0, _⟩ | ⟨gg, cap, cur, hv, _⟩
    · cases h0
    · injection hv with hv _ _
      exact ⟨gg, Option.some.inj hv⟩
  subst hg1
  rw [hln] at hR1 ⊢
  have R1 := Lib.hid hR1
  have B1 := Lib.hid hB1
  clear hR1 hB1 hC1 c8 CLN hln
  go_wp2_with fail
  go_loopw [5, 25] (fun ev iv wr => ∃ k : Nat, k ≤ n ∧ iv = .int .i64 k ∧ ev = .int .i64 (lastI l s.line k) ∧ Hid (Kd.R (kPt ad) 72 wr w.heap.size (fun _ => True) (.slice (some ⟨g1, 0, none⟩) n cp1) s.line) ∧ Hid (Below w.heap.size w wr)) (fun _ iv _ => n - (RowKit.intOf iv).toNat)
  case atStart => exact ⟨0, Nat.zero_le _, rfl, rfl, R1.out, B1.out⟩
  case round =>
    obtain ⟨k, hk, rfl, hev, hR, hB⟩ := hrel
    by_cases hlt : k < n
    · have hkl : k < s.line.length := by rw [LN.out]; exact hlt
      have hcc := (Kd.R_reads' hR.out).2.2
      obtain ⟨g', eg, x0, x1, x2, x3, x4⟩ := partAt hcc k (by rw [LN.out]; exact hlt)
      obtain rfl := Option.some.inj eg
      obtain ⟨hxa, hxt⟩ := okp_get OK.out hkl
      have hst : lastI l s.line (k + 1) = if solidP l (s.line.getD k zPt) = true then (k : Int) else lastI l s.line k := rfl
      have HST := Lib.hid hst
      have SOL := Lib.hid fun W (h : Below w.heap.size w W) => solid_c ad nl l (s.line.getD k zPt) W (HL.out W h) hxa
      generalize solidP l (s.line.getD k zPt) = sb at *
      generalize s.line.getD k zPt = p at *
      generalize lastI l s.line k = ev at *
      subst hev
      obtain ⟨pa, pt, pw, pl⟩ := p
      simp only [ptV] at x0 x1 x2 x3 x4 SOL
      simp only [add_plain] at x0 x1 x2 x3 x4
      have BA := Lib.hid fun o => below_alloc hB.out o
      have RA := Lib.hid fun W (h : Below w.heap.size w W ∧ Below wr.heap.size wr W) => Kd.R_below hR.out h.2
      have BR := Lib.hid fun o => below_alloc (Below.refl wr.heap.size wr) o
      clear hst hcc eg hxa hxt hkl hR hB
      cases sb with
      | true =>
        rw [if_pos rfl] at HST
        go_wp2_with (go_at_call 52; refine (SOL.out _ (BA.out _)).mono ?_; rintro e w2 ⟨rfl, hB2⟩; have B2 := Lib.hid (below_then (BA.out _) (BA.out _).size hB2); have B2r := Lib.hid ((BR.out _).trans (hB2.mono (BR.out _).size)); clear hB2)
        go_roundw
        case rel => exact ⟨k + 1, by omega, by go_num, by rw [HST.out], RA.out _ ⟨B2.out, B2r.out⟩, B2.out⟩
        case measure => simp [RowKit.intOf]; omega
      | false =>
        rw [if_neg (by decide)] at HST
        go_wp2_with (go_at_call 52; refine (SOL.out _ (BA.out _)).mono ?_; rintro e w2 ⟨rfl, hB2⟩; have B2 := Lib.hid (below_then (BA.out _) (BA.out _).size hB2); have B2r := Lib.hid ((BR.out _).trans (hB2.mono (BR.out _).size)); clear hB2)
        go_roundw
        case rel => exact ⟨k + 1, by omega, by go_num, by rw [HST.out], RA.out _ ⟨B2.out, B2r.out⟩, B2.out⟩
        case measure => simp [RowKit.intOf]; omega
    · obtain rfl : k = n := by omega
      clear R1 B1
      obtain ⟨e, he⟩ : ∃ e, endI l s.line = e := ⟨_, rfl⟩
      have hee : lastI l s.line k = e := by rw [← he]; unfold endI; rw [LN.out]
      rw [hee] at hev
      subst hev
      have hebd : -1 ≤ e ∧ e < (k : Int) := by have := lastI_bd l s.line k; omega
      have HE := Lib.hid he
      obtain ⟨tb, htb⟩ : ∃ tb, decide (0 ≤ e ∧ tailP l (endPt l s.line) ≠ 0) = tb := ⟨_, rfl⟩
      have HTB := Lib.hid htb
      obtain ⟨W1, rfl⟩ : ∃ W : World, W = wr := ⟨_, rfl⟩
      have hend : 0 ≤ e → endPt l s.line = s.line.getD e.toNat zPt := fun _ => by unfold endPt; rw [HE.out]
      have TAIL : Hid (0 ≤ e → ∀ W, Below w.heap.size w W → Calls Try.prog 45 #[.agg (ptV ad (s.line.getD e.toNat zPt)).toArray] W fun e' w' => e' = .returned (.int .i64 (tailP l (s.line.getD e.toNat zPt))) ∧ Below W.heap.size W w') := Lib.hid fun h0 W h => by
        have hlt : e.toNat < s.line.length := by rw [LN.out]; omega
        obtain ⟨h1, h2⟩ := okp_get OK.out hlt
        exact tail_c ad nl l _ W (HL.out W h) h1 h2 (MD.out _ (by rw [List.getD_eq_getElem?_getD, List.getElem?_eq_getElem hlt]; exact List.getElem_mem _))
      have HEND := Lib.hid hend
      have RW1 := hR
      have BW1 := hB
      clear he hee htb hend hR hB
      go_upto_region 8 with fail
      go_cut [43] from 34 to 43 (fun s43 wx => s43 = .bool tb ∧ Hid (Below W1.heap.size W1 wx))
      case first =>
        by_cases e0 : 0 ≤ e
        · obtain ⟨em, hem⟩ : ∃ em : Nat, e = (em : Int) := ⟨e.toNat, by omega⟩
          subst hem
          have hlt : em < k := by omega
          obtain ⟨⟨x0, x1, x2, x3, x4⟩, -, -⟩ := ptPlace RW1.out em hlt
          have TL := Lib.hid (TAIL.out e0 W1 BW1.out)
          rw [Int.toNat_natCast] at TL
          have ht2 : tb = decide (tailP l (s.line.getD em zPt) ≠ 0) := by rw [← HTB.out, HEND.out e0, Int.toNat_natCast]; simp
          generalize s.line.getD em zPt = p at *
          obtain ⟨pa, pt, pw, pl⟩ := p
          simp only [ptV] at x0 x1 x2 x3 x4 TL
          generalize tailP l ⟨pa, pt, pw, pl⟩ = tv at *
          have HT2 := Lib.hid ht2
          clear ht2 TAIL
          go_wp2_with (go_at_call 45; refine TL.out.mono ?_; rintro e' w2 ⟨rfl, hB2⟩; have B2 := Lib.hid hB2; clear hB2)
          go_meet
          case rel => exact ⟨by rw [HT2.out]; by_cases h : tv = 0 <;> simp [h], B2.out⟩
        · have n0 : decide (0 ≤ e) = false := decide_eq_false e0
          have ht2 : tb = false := by rw [← HTB.out]; simp [e0]
          subst ht2
          clear TAIL
          go_wp2_with fail
          go_meet
          case rel => exact ⟨rfl, Below.refl _ _⟩
      case rest =>
        obtain ⟨rfl, hBx⟩ := hcut
        have R2 := Lib.hid (Kd.R_below RW1.out hBx.out)
        have B2 := Lib.hid (below_then BW1.out BW1.out.size hBx.out)
        clear RW1 BW1 hBx
        have TRIM : Hid (tb = false → trimP l s.line = s.line) := Lib.hid fun h => by
          rw [← HTB.out] at h
          unfold trimP
          rw [HE.out, if_neg (by simpa using h)]
        have TRIM2 : Hid (tb = true → 0 ≤ e ∧ trimP l s.line = s.line.set e.toNat (trimAt l (s.line.getD e.toNat zPt)) ∧ tailP l (s.line.getD e.toNat zPt) ≠ 0) := Lib.hid fun h => by
          rw [← HTB.out] at h
          have h2 := of_decide_eq_true h
          unfold trimP
          rw [HE.out, if_pos h2, HEND.out h2.1]
          rw [HEND.out h2.1] at h2
          exact ⟨h2.1, rfl, h2.2⟩
        clear HTB
        obtain ⟨W2, rfl⟩ : ∃ W : World, W = wc := ⟨_, rfl⟩
        go_upto_if 43 with fail
        go_cut [] from 44 to 73 (fun wx => Hid (Kd.R (kPt ad) 72 wx w.heap.size (fun _ => True) (.slice (some ⟨g1, 0, none⟩) k cp1) (trimP l s.line)) ∧ Hid (Below w.heap.size w wx))
        case first =>
          cases tb with
          | false =>
            have h := TRIM.out rfl
            go_wp2_with fail
            go_meet
            case rel => exact ⟨by rw [h]; exact R2.out, B2.out⟩
          | true =>
            obtain ⟨e0, hT, htv⟩ := TRIM2.out rfl
            obtain ⟨em, hem⟩ : ∃ em : Nat, e = (em : Int) := ⟨e.toNat, by omega⟩
            subst hem
            rw [Int.toNat_natCast] at hT htv
            have hlt : em < k := by omega
            have TL := Lib.hid fun W h => TAIL.out e0 W h
            rw [Int.toNat_natCast] at TL
            have hw1 := MD.out (s.line.getD em zPt) (by rw [List.getD_eq_getElem?_getD, List.getElem?_eq_getElem (by rw [LN.out]; exact hlt)]; exact List.getElem_mem _)
            have hw2 := TD.out (s.line.getD em zPt) (by rw [List.getD_eq_getElem?_getD, List.getElem?_eq_getElem (by rw [LN.out]; exact hlt)]; exact List.getElem_mem _)
            have hsz : 1 ≤ (s.line.getD em zPt).text.size := by
              unfold tailP at htv
              split at htv
              · rename_i h
                simp only [Bool.and_eq_true] at h
                have h2 := h.2
                unfold endsP at h2
                simp at h2
                exact suf_pos h2.2
              · exact absurd rfl htv
            unfold MildP at hw1
            have HT := Lib.hid hT
            have hlnk : em < s.line.length := by rw [LN.out]; exact hlt
            have htx2 := (okp_get OK.out hlnk).2
            clear TAIL TRIM TRIM2 hT htv HEND
            obtain ⟨p, hp⟩ : ∃ p, s.line.getD em zPt = p := ⟨_, rfl⟩
            have hbelow : ∀ W, Below W2.heap.size W2 W → (W.cell? ⟨g1, em * 5, none⟩ = some (.pointer (some (ad.add (p.at_ * 11)))) ∧ W.cell? ⟨g1, em * 5 + 1, none⟩ = some (.int .i64 (p.at_ : Int)) ∧ W.cell? ⟨g1, em * 5 + 2, none⟩ = some (.string p.text) ∧
                W.cell? ⟨g1, em * 5 + 3, none⟩ = some (.int .i64 p.w) ∧ W.cell? ⟨g1, em * 5 + 4, none⟩ = some (.bool p.last)) ∧ (∀ j, W.frozen? ⟨g1, j, none⟩ = false) ∧ Below w.heap.size w (W.setCell ⟨g1, em * 5 + 3, none⟩ (.int .i64 (p.w - tailP l p))) ∧ Kd.R (kPt ad) 72 (W.setCell ⟨g1, em * 5 + 3, none⟩ (.int .i64 (p.w - tailP l p))) w.heap.size (fun _ => True) (.slice (some ⟨g1, 0, none⟩) k cp1) (s.line.set em ⟨p.at_, p.text, p.w - tailP l p, p.last⟩) := by
              intro W h
              have hRW := Kd.R_below R2.out h
              obtain ⟨hx, hf, hg, _⟩ := ptPlace hRW em hlt
              rw [hp] at hx
              exact ⟨hx, hf, (below_then B2.out B2.out.size h).setCell hg _, ptPut hRW em hlt 3 _ (by omega) ⟨p.at_, p.text, p.w - tailP l p, p.last⟩ (by rw [hp]; rfl)⟩
            have PL := Lib.hid hbelow
            have TL2 := Lib.hid fun W (h : Below W2.heap.size W2 W) => TL.out W (below_then B2.out B2.out.size h)
            rw [hp] at TL2 HT hw1 hw2 hsz htx2
            clear hbelow TL hp R2 B2
            obtain ⟨pa, pt, pw, pl⟩ := p
            simp only [ptV] at TL2 PL HT hw1 hw2 hsz htx2
            generalize htv : tailP l ⟨pa, pt, pw, pl⟩ = tv at *
            have HTV := Lib.hid htv
            clear htv
            go_upto_region 9 with fail
            go_cut [] from 44 to 56 (fun wx => ∃ W5, Hid (Below W2.heap.size W2 W5) ∧ wx = W5.setCell ⟨g1, em * 5 + 3, none⟩ (.int .i64 (pw - tv)))
            case first =>
              obtain ⟨⟨x0, x1, x2, x3, x4⟩, xf, -, -⟩ := PL.out W2 (Below.refl _ _)
              have hdr := (Below.refl W2.heap.size W2).drew
              refine wp_region_held_drew (S := fun W => True) (by kernel_rfl) trivial (fun hHeld => ?_)
              refine wpAnyH_take (i := 0) (v := .slice (some ⟨g1, 0, none⟩) k cp1) rfl (by kernel_rfl) (by kernel_rfl) (by kernel_rfl) (fun _ _ _ h => h) (y_move (by rfl) rfl rfl) hHeld ?_
              try simp only [Act.put, List.getElem_toArray, List.getElem_cons_succ, List.getElem_cons_zero, List.setIfInBounds_toArray, List.set_cons_zero, List.set_cons_succ]
              refine wpAnyH_take (i := 1) (v := .int .i64 (em : Int)) rfl (by kernel_rfl) (by kernel_rfl) (by kernel_rfl) (fun _ _ _ h => h) (y_move (by rfl) rfl rfl) hHeld ?_
              try simp only [Act.put, List.getElem_toArray, List.getElem_cons_succ, List.getElem_cons_zero, List.setIfInBounds_toArray, List.set_cons_zero, List.set_cons_succ]
              refine wpAnyH_take (i := 2) (v := .pointer (some ⟨g1, em * 5, none⟩)) rfl (by kernel_rfl) (by kernel_rfl) (by kernel_rfl) (fun _ _ _ h => h) (y_run (by rfl) (fun w _ => by unfold execOp; go_simp)) hHeld ?_
              try simp only [Act.put, List.getElem_toArray, List.getElem_cons_succ, List.getElem_cons_zero, List.setIfInBounds_toArray, List.set_cons_zero, List.set_cons_succ]
              refine wpAnyH_take (i := 3) (v := .pointer (some ⟨g1, em * 5 + 3, none⟩)) rfl (by kernel_rfl) (by kernel_rfl) (by kernel_rfl) (fun _ _ _ h => h) (y_run (by rfl) (fun w _ => by unfold execOp; go_simp)) hHeld ?_
              try simp only [Act.put, List.getElem_toArray, List.getElem_cons_succ, List.getElem_cons_zero, List.setIfInBounds_toArray, List.set_cons_zero, List.set_cons_succ]
              refine wpAnyH_take (i := 5) (v := .slice (some ⟨g1, 0, none⟩) k cp1) rfl (by kernel_rfl) (by kernel_rfl) (by kernel_rfl) (fun _ _ _ h => h) (y_move (by rfl) rfl rfl) hHeld ?_
              try simp only [Act.put, List.getElem_toArray, List.getElem_cons_succ, List.getElem_cons_zero, List.setIfInBounds_toArray, List.set_cons_zero, List.set_cons_succ]
              refine wpAnyH_take (i := 6) (v := .int .i64 (em : Int)) rfl (by kernel_rfl) (by kernel_rfl) (by kernel_rfl) (fun _ _ _ h => h) (y_move (by rfl) rfl rfl) hHeld ?_
              try simp only [Act.put, List.getElem_toArray, List.getElem_cons_succ, List.getElem_cons_zero, List.setIfInBounds_toArray, List.set_cons_zero, List.set_cons_succ]
              refine wpAnyH_take (i := 7) (v := .pointer (some ⟨g1, em * 5, none⟩)) rfl (by kernel_rfl) (by kernel_rfl) (by kernel_rfl) (fun _ _ _ h => h) (y_run (by rfl) (fun w _ => by unfold execOp; go_simp)) hHeld ?_
              try simp only [Act.put, List.getElem_toArray, List.getElem_cons_succ, List.getElem_cons_zero, List.setIfInBounds_toArray, List.set_cons_zero, List.set_cons_succ]
              refine wpAnyH_ready (rs := [4, 8]) (by kernel_rfl) (by simp) ?_
              refine AllReadyH.cons rfl (fun K hK => ?_) (AllReadyH.cons rfl (fun K hK => ?_) AllReadyH.nil)
              · skip
                try simp only [Act.put, List.getElem_toArray, List.getElem_cons_succ, List.getElem_cons_zero, List.setIfInBounds_toArray, List.set_cons_zero, List.set_cons_succ]
                rw [if_pos (by rfl)]
                go_simp
                refine hK.out _ _ trivial (fun hHeld => ?_)
                clear hK K
                try simp only [Act.put, List.getElem_toArray, List.getElem_cons_succ, List.getElem_cons_zero, List.setIfInBounds_toArray, List.set_cons_zero, List.set_cons_succ]
                refine wpAnyH_ready (rs := [8]) (by kernel_rfl) (by simp) ?_
                refine AllReadyH.cons rfl (fun K hK => ?_) AllReadyH.nil
                try simp only [Act.put, List.getElem_toArray, List.getElem_cons_succ, List.getElem_cons_zero, List.setIfInBounds_toArray, List.set_cons_zero, List.set_cons_succ]
                rw [if_pos (by rfl)]
                go_simp
                refine hK.out _ _ trivial (fun hHeld => ?_)
                clear hK K
                try simp only [Act.put, List.getElem_toArray, List.getElem_cons_succ, List.getElem_cons_zero, List.setIfInBounds_toArray, List.set_cons_zero, List.set_cons_succ]
                refine wpAnyH_ready (rs := [9]) (by kernel_rfl) (by simp) ?_
                refine AllReadyH.cons rfl (fun K hK => ?_) AllReadyH.nil
                try simp only [Act.put, List.getElem_toArray, List.getElem_cons_succ, List.getElem_cons_zero, List.setIfInBounds_toArray, List.set_cons_zero, List.set_cons_succ]
                rw [if_pos (by rfl)]
                go_simp
                refine (TL2.out _ hdr).mono ?_
                rintro e' w4 ⟨rfl, hB4⟩
                have hb4 := below_then hdr hdr.size hB4
                obtain ⟨⟨y0, y1, y2, y3, y4⟩, yf, -, -⟩ := PL.out w4 hb4
                refine hK.out _ _ trivial (fun hHeld => ?_)
                clear hK K
                try simp only [Act.put, List.getElem_toArray, List.getElem_cons_succ, List.getElem_cons_zero, List.setIfInBounds_toArray, List.set_cons_zero, List.set_cons_succ]
                refine wpAnyH_take (i := 10) (v := .int .i64 (pw - tv)) rfl (by kernel_rfl) (by kernel_rfl) (by kernel_rfl) (fun _ _ _ h => h) (y_sub (by rfl) rfl rfl rfl rfl (by omega) (by omega)) hHeld ?_
                try simp only [Act.put, List.getElem_toArray, List.getElem_cons_succ, List.getElem_cons_zero, List.setIfInBounds_toArray, List.set_cons_zero, List.set_cons_succ]
                refine wpAnyH_take (i := 11) (v := .pointer (some ⟨g1, em * 5, none⟩)) rfl (by kernel_rfl) (by kernel_rfl) (by kernel_rfl) (fun _ _ _ h => h) (y_run (by rfl) (fun w _ => by unfold execOp; go_simp)) hHeld ?_
                try simp only [Act.put, List.getElem_toArray, List.getElem_cons_succ, List.getElem_cons_zero, List.setIfInBounds_toArray, List.set_cons_zero, List.set_cons_succ]
                refine wpAnyH_take (i := 12) (v := .pointer (some ⟨g1, em * 5 + 3, none⟩)) rfl (by kernel_rfl) (by kernel_rfl) (by kernel_rfl) (fun _ _ _ h => h) (y_run (by rfl) (fun w _ => by unfold execOp; go_simp)) hHeld ?_
                try simp only [Act.put, List.getElem_toArray, List.getElem_cons_succ, List.getElem_cons_zero, List.setIfInBounds_toArray, List.set_cons_zero, List.set_cons_succ]
                refine wpAnyH_ready (rs := [13]) (by kernel_rfl) (by simp) ?_
                refine AllReadyH.cons rfl (fun K hK => ?_) AllReadyH.nil
                try simp only [Act.put, List.getElem_toArray, List.getElem_cons_succ, List.getElem_cons_zero, List.setIfInBounds_toArray, List.set_cons_zero, List.set_cons_succ]
                rw [if_pos (by rfl)]
                go_simp
                refine hK.out _ _ trivial (fun hHeld => ?_)
                clear hK K
                try simp only [Act.put, List.getElem_toArray, List.getElem_cons_succ, List.getElem_cons_zero, List.setIfInBounds_toArray, List.set_cons_zero, List.set_cons_succ]
                refine wpAnyH_done (by kernel_rfl) ?_ _
                clear hHeld
                go_wp2_with fail
                go_meet
                case rel => exact ⟨w4, hb4, rfl⟩
              · skip
                try simp only [Act.put, List.getElem_toArray, List.getElem_cons_succ, List.getElem_cons_zero, List.setIfInBounds_toArray, List.set_cons_zero, List.set_cons_succ]
                rw [if_pos (by rfl)]
                go_simp
                refine hK.out _ _ trivial (fun hHeld => ?_)
                clear hK K
                try simp only [Act.put, List.getElem_toArray, List.getElem_cons_succ, List.getElem_cons_zero, List.setIfInBounds_toArray, List.set_cons_zero, List.set_cons_succ]
                refine wpAnyH_ready (rs := [4, 9]) (by kernel_rfl) (by simp) ?_
                refine AllReadyH.cons rfl (fun K hK => ?_) (AllReadyH.cons rfl (fun K hK => ?_) AllReadyH.nil)
                · skip
                  try simp only [Act.put, List.getElem_toArray, List.getElem_cons_succ, List.getElem_cons_zero, List.setIfInBounds_toArray, List.set_cons_zero, List.set_cons_succ]
                  rw [if_pos (by rfl)]
                  go_simp
                  refine hK.out _ _ trivial (fun hHeld => ?_)
                  clear hK K
                  try simp only [Act.put, List.getElem_toArray, List.getElem_cons_succ, List.getElem_cons_zero, List.setIfInBounds_toArray, List.set_cons_zero, List.set_cons_succ]
                  refine wpAnyH_ready (rs := [9]) (by kernel_rfl) (by simp) ?_
                  refine AllReadyH.cons rfl (fun K hK => ?_) AllReadyH.nil
                  try simp only [Act.put, List.getElem_toArray, List.getElem_cons_succ, List.getElem_cons_zero, List.setIfInBounds_toArray, List.set_cons_zero, List.set_cons_succ]
                  rw [if_pos (by rfl)]
                  go_simp
                  refine (TL2.out _ hdr).mono ?_
                  rintro e' w4 ⟨rfl, hB4⟩
                  have hb4 := below_then hdr hdr.size hB4
                  obtain ⟨⟨y0, y1, y2, y3, y4⟩, yf, -, -⟩ := PL.out w4 hb4
                  refine hK.out _ _ trivial (fun hHeld => ?_)
                  clear hK K
                  try simp only [Act.put, List.getElem_toArray, List.getElem_cons_succ, List.getElem_cons_zero, List.setIfInBounds_toArray, List.set_cons_zero, List.set_cons_succ]
                  refine wpAnyH_take (i := 10) (v := .int .i64 (pw - tv)) rfl (by kernel_rfl) (by kernel_rfl) (by kernel_rfl) (fun _ _ _ h => h) (y_sub (by rfl) rfl rfl rfl rfl (by omega) (by omega)) hHeld ?_
                  try simp only [Act.put, List.getElem_toArray, List.getElem_cons_succ, List.getElem_cons_zero, List.setIfInBounds_toArray, List.set_cons_zero, List.set_cons_succ]
                  refine wpAnyH_take (i := 11) (v := .pointer (some ⟨g1, em * 5, none⟩)) rfl (by kernel_rfl) (by kernel_rfl) (by kernel_rfl) (fun _ _ _ h => h) (y_run (by rfl) (fun w _ => by unfold execOp; go_simp)) hHeld ?_
                  try simp only [Act.put, List.getElem_toArray, List.getElem_cons_succ, List.getElem_cons_zero, List.setIfInBounds_toArray, List.set_cons_zero, List.set_cons_succ]
                  refine wpAnyH_take (i := 12) (v := .pointer (some ⟨g1, em * 5 + 3, none⟩)) rfl (by kernel_rfl) (by kernel_rfl) (by kernel_rfl) (fun _ _ _ h => h) (y_run (by rfl) (fun w _ => by unfold execOp; go_simp)) hHeld ?_
                  try simp only [Act.put, List.getElem_toArray, List.getElem_cons_succ, List.getElem_cons_zero, List.setIfInBounds_toArray, List.set_cons_zero, List.set_cons_succ]
                  refine wpAnyH_ready (rs := [13]) (by kernel_rfl) (by simp) ?_
                  refine AllReadyH.cons rfl (fun K hK => ?_) AllReadyH.nil
                  try simp only [Act.put, List.getElem_toArray, List.getElem_cons_succ, List.getElem_cons_zero, List.setIfInBounds_toArray, List.set_cons_zero, List.set_cons_succ]
                  rw [if_pos (by rfl)]
                  go_simp
                  refine hK.out _ _ trivial (fun hHeld => ?_)
                  clear hK K
                  try simp only [Act.put, List.getElem_toArray, List.getElem_cons_succ, List.getElem_cons_zero, List.setIfInBounds_toArray, List.set_cons_zero, List.set_cons_succ]
                  refine wpAnyH_done (by kernel_rfl) ?_ _
                  clear hHeld
                  go_wp2_with fail
                  go_meet
                  case rel => exact ⟨w4, hb4, rfl⟩
                · skip
                  try simp only [Act.put, List.getElem_toArray, List.getElem_cons_succ, List.getElem_cons_zero, List.setIfInBounds_toArray, List.set_cons_zero, List.set_cons_succ]
                  rw [if_pos (by rfl)]
                  go_simp
                  refine (TL2.out _ hdr).mono ?_
                  rintro e' w4 ⟨rfl, hB4⟩
                  have hb4 := below_then hdr hdr.size hB4
                  obtain ⟨⟨y0, y1, y2, y3, y4⟩, yf, -, -⟩ := PL.out w4 hb4
                  refine hK.out _ _ trivial (fun hHeld => ?_)
                  clear hK K
                  try simp only [Act.put, List.getElem_toArray, List.getElem_cons_succ, List.getElem_cons_zero, List.setIfInBounds_toArray, List.set_cons_zero, List.set_cons_succ]
                  refine wpAnyH_ready (rs := [4]) (by kernel_rfl) (by simp) ?_
                  refine AllReadyH.cons rfl (fun K hK => ?_) AllReadyH.nil
                  try simp only [Act.put, List.getElem_toArray, List.getElem_cons_succ, List.getElem_cons_zero, List.setIfInBounds_toArray, List.set_cons_zero, List.set_cons_succ]
                  rw [if_pos (by rfl)]
                  go_simp
                  refine hK.out _ _ trivial (fun hHeld => ?_)
                  clear hK K
                  try simp only [Act.put, List.getElem_toArray, List.getElem_cons_succ, List.getElem_cons_zero, List.setIfInBounds_toArray, List.set_cons_zero, List.set_cons_succ]
                  refine wpAnyH_take (i := 10) (v := .int .i64 (pw - tv)) rfl (by kernel_rfl) (by kernel_rfl) (by kernel_rfl) (fun _ _ _ h => h) (y_sub (by rfl) rfl rfl rfl rfl (by omega) (by omega)) hHeld ?_
                  try simp only [Act.put, List.getElem_toArray, List.getElem_cons_succ, List.getElem_cons_zero, List.setIfInBounds_toArray, List.set_cons_zero, List.set_cons_succ]
                  refine wpAnyH_take (i := 11) (v := .pointer (some ⟨g1, em * 5, none⟩)) rfl (by kernel_rfl) (by kernel_rfl) (by kernel_rfl) (fun _ _ _ h => h) (y_run (by rfl) (fun w _ => by unfold execOp; go_simp)) hHeld ?_
                  try simp only [Act.put, List.getElem_toArray, List.getElem_cons_succ, List.getElem_cons_zero, List.setIfInBounds_toArray, List.set_cons_zero, List.set_cons_succ]
                  refine wpAnyH_take (i := 12) (v := .pointer (some ⟨g1, em * 5 + 3, none⟩)) rfl (by kernel_rfl) (by kernel_rfl) (by kernel_rfl) (fun _ _ _ h => h) (y_run (by rfl) (fun w _ => by unfold execOp; go_simp)) hHeld ?_
                  try simp only [Act.put, List.getElem_toArray, List.getElem_cons_succ, List.getElem_cons_zero, List.setIfInBounds_toArray, List.set_cons_zero, List.set_cons_succ]
                  refine wpAnyH_ready (rs := [13]) (by kernel_rfl) (by simp) ?_
                  refine AllReadyH.cons rfl (fun K hK => ?_) AllReadyH.nil
                  try simp only [Act.put, List.getElem_toArray, List.getElem_cons_succ, List.getElem_cons_zero, List.setIfInBounds_toArray, List.set_cons_zero, List.set_cons_succ]
                  rw [if_pos (by rfl)]
                  go_simp
                  refine hK.out _ _ trivial (fun hHeld => ?_)
                  clear hK K
                  try simp only [Act.put, List.getElem_toArray, List.getElem_cons_succ, List.getElem_cons_zero, List.setIfInBounds_toArray, List.set_cons_zero, List.set_cons_succ]
                  refine wpAnyH_done (by kernel_rfl) ?_ _
                  clear hHeld
                  go_wp2_with fail
                  go_meet
                  case rel => exact ⟨w4, hb4, rfl⟩
            case rest =>
              obtain ⟨W5, hB5, rfl⟩ := hcut
              obtain ⟨-, -, hB6, hR6⟩ := PL.out W5 hB5.out
              obtain ⟨W6, hW6⟩ : ∃ W6, W5.setCell ⟨g1, em * 5 + 3, none⟩ (.int .i64 (pw - tv)) = W6 := ⟨_, rfl⟩
              rw [hW6] at hB6 hR6 ⊢
              have hR6d := Kd.R_drew hR6
              obtain ⟨⟨x0, x1, x2, x3, x4⟩, xf, hgb, -⟩ := ptPlace hR6d em hlt
              have hset : (s.line.set em (⟨pa, pt, pw - tv, pl⟩ : Pt)).getD em zPt = ⟨pa, pt, pw - tv, pl⟩ := by rw [List.getD_eq_getElem?_getD, List.getElem?_set_self hlnk]; rfl
              rw [hset] at x0 x1 x2 x3 x4
              simp only at x0 x1 x2 x3 x4
              obtain ⟨sz1, hsz1'⟩ : ∃ sz1, pt.size - 1 = sz1 := ⟨_, rfl⟩
              have hsz1 : (pt.size : Int) - 1 = (sz1 : Int) := by omega
              have hszl : sz1 ≤ pt.size := by omega
              have FIN : Hid (Kd.R (kPt ad) 72 (W6.drew.setCell ⟨g1, em * 5 + 2, none⟩ (.string (pt.extract 0 sz1))) w.heap.size (fun _ => True) (.slice (some ⟨g1, 0, none⟩) k cp1) (trimP l s.line) ∧ Below w.heap.size w (W6.drew.setCell ⟨g1, em * 5 + 2, none⟩ (.string (pt.extract 0 sz1)))) := Lib.hid (by
                have h := ptPut hR6d em hlt 2 (.string (pt.extract 0 sz1)) (by omega) ⟨pa, pt.extract 0 sz1, pw - tv, pl⟩ (by rw [hset]; rfl)
                rw [List.set_set] at h
                rw [HT.out]
                unfold trimAt
                simp only
                rw [HTV.out, hsz1']
                exact ⟨h, hB6.drew.setCell hgb _⟩)
              have hsz3 : pt.size ≤ 1000 := htx2
              clear hW6 hB6 hR6 hR6d hset hsz1' PL TL2 HT HTV hgb
              go_wp2_with fail
              refine wp_region_held_drew (S := fun W => True) (by kernel_rfl) trivial (fun hHeld => ?_)
              refine wpAnyH_take (i := 0) (v := .slice (some ⟨g1, 0, none⟩) k cp1) rfl (by kernel_rfl) (by kernel_rfl) (by kernel_rfl) (fun _ _ _ h => h) (y_move (by rfl) rfl rfl) hHeld ?_
              try simp only [Act.put, List.getElem_toArray, List.getElem_cons_succ, List.getElem_cons_zero, List.setIfInBounds_toArray, List.set_cons_zero, List.set_cons_succ]
              refine wpAnyH_take (i := 1) (v := .int .i64 (em : Int)) rfl (by kernel_rfl) (by kernel_rfl) (by kernel_rfl) (fun _ _ _ h => h) (y_move (by rfl) rfl rfl) hHeld ?_
              try simp only [Act.put, List.getElem_toArray, List.getElem_cons_succ, List.getElem_cons_zero, List.setIfInBounds_toArray, List.set_cons_zero, List.set_cons_succ]
              refine wpAnyH_take (i := 2) (v := .slice (some ⟨g1, 0, none⟩) k cp1) rfl (by kernel_rfl) (by kernel_rfl) (by kernel_rfl) (fun _ _ _ h => h) (y_move (by rfl) rfl rfl) hHeld ?_
              try simp only [Act.put, List.getElem_toArray, List.getElem_cons_succ, List.getElem_cons_zero, List.setIfInBounds_toArray, List.set_cons_zero, List.set_cons_succ]
              refine wpAnyH_take (i := 3) (v := .int .i64 (em : Int)) rfl (by kernel_rfl) (by kernel_rfl) (by kernel_rfl) (fun _ _ _ h => h) (y_move (by rfl) rfl rfl) hHeld ?_
              try simp only [Act.put, List.getElem_toArray, List.getElem_cons_succ, List.getElem_cons_zero, List.setIfInBounds_toArray, List.set_cons_zero, List.set_cons_succ]
              refine wpAnyH_take (i := 4) (v := .pointer (some ⟨g1, em * 5, none⟩)) rfl (by kernel_rfl) (by kernel_rfl) (by kernel_rfl) (fun _ _ _ h => h) (y_run (by rfl) (fun w _ => by unfold execOp; go_simp)) hHeld ?_
              try simp only [Act.put, List.getElem_toArray, List.getElem_cons_succ, List.getElem_cons_zero, List.setIfInBounds_toArray, List.set_cons_zero, List.set_cons_succ]
              refine wpAnyH_take (i := 5) (v := .pointer (some ⟨g1, em * 5 + 2, none⟩)) rfl (by kernel_rfl) (by kernel_rfl) (by kernel_rfl) (fun _ _ _ h => h) (y_run (by rfl) (fun w _ => by unfold execOp; go_simp)) hHeld ?_
              try simp only [Act.put, List.getElem_toArray, List.getElem_cons_succ, List.getElem_cons_zero, List.setIfInBounds_toArray, List.set_cons_zero, List.set_cons_succ]
              refine wpAnyH_take (i := 7) (v := .slice (some ⟨g1, 0, none⟩) k cp1) rfl (by kernel_rfl) (by kernel_rfl) (by kernel_rfl) (fun _ _ _ h => h) (y_move (by rfl) rfl rfl) hHeld ?_
              try simp only [Act.put, List.getElem_toArray, List.getElem_cons_succ, List.getElem_cons_zero, List.setIfInBounds_toArray, List.set_cons_zero, List.set_cons_succ]
              refine wpAnyH_take (i := 8) (v := .int .i64 (em : Int)) rfl (by kernel_rfl) (by kernel_rfl) (by kernel_rfl) (fun _ _ _ h => h) (y_move (by rfl) rfl rfl) hHeld ?_
              try simp only [Act.put, List.getElem_toArray, List.getElem_cons_succ, List.getElem_cons_zero, List.setIfInBounds_toArray, List.set_cons_zero, List.set_cons_succ]
              refine wpAnyH_take (i := 9) (v := .pointer (some ⟨g1, em * 5, none⟩)) rfl (by kernel_rfl) (by kernel_rfl) (by kernel_rfl) (fun _ _ _ h => h) (y_run (by rfl) (fun w _ => by unfold execOp; go_simp)) hHeld ?_
              try simp only [Act.put, List.getElem_toArray, List.getElem_cons_succ, List.getElem_cons_zero, List.setIfInBounds_toArray, List.set_cons_zero, List.set_cons_succ]
              refine wpAnyH_take (i := 10) (v := .pointer (some ⟨g1, em * 5 + 2, none⟩)) rfl (by kernel_rfl) (by kernel_rfl) (by kernel_rfl) (fun _ _ _ h => h) (y_run (by rfl) (fun w _ => by unfold execOp; go_simp)) hHeld ?_
              try simp only [Act.put, List.getElem_toArray, List.getElem_cons_succ, List.getElem_cons_zero, List.setIfInBounds_toArray, List.set_cons_zero, List.set_cons_succ]
              refine wpAnyH_ready (rs := [6, 11]) (by kernel_rfl) (by simp) ?_
              refine AllReadyH.cons rfl (fun K hK => ?_) (AllReadyH.cons rfl (fun K hK => ?_) AllReadyH.nil)
              · skip
                try simp only [Act.put, List.getElem_toArray, List.getElem_cons_succ, List.getElem_cons_zero, List.setIfInBounds_toArray, List.set_cons_zero, List.set_cons_succ]
                rw [if_pos (by rfl)]
                go_simp
                refine hK.out _ _ trivial (fun hHeld => ?_)
                clear hK K
                try simp only [Act.put, List.getElem_toArray, List.getElem_cons_succ, List.getElem_cons_zero, List.setIfInBounds_toArray, List.set_cons_zero, List.set_cons_succ]
                refine wpAnyH_ready (rs := [11]) (by kernel_rfl) (by simp) ?_
                refine AllReadyH.cons rfl (fun K hK => ?_) AllReadyH.nil
                try simp only [Act.put, List.getElem_toArray, List.getElem_cons_succ, List.getElem_cons_zero, List.setIfInBounds_toArray, List.set_cons_zero, List.set_cons_succ]
                rw [if_pos (by rfl)]
                go_simp
                refine hK.out _ _ trivial (fun hHeld => ?_)
                clear hK K
                try simp only [Act.put, List.getElem_toArray, List.getElem_cons_succ, List.getElem_cons_zero, List.setIfInBounds_toArray, List.set_cons_zero, List.set_cons_succ]
                refine wpAnyH_take (i := 12) (v := .int .i64 (pt.size : Int)) rfl (by kernel_rfl) (by kernel_rfl) (by kernel_rfl) (fun _ _ _ h => h) (y_run (by rfl) (fun w _ => by unfold execOp; go_simp)) hHeld ?_
                try simp only [Act.put, List.getElem_toArray, List.getElem_cons_succ, List.getElem_cons_zero, List.setIfInBounds_toArray, List.set_cons_zero, List.set_cons_succ]
                refine wpAnyH_take (i := 13) (v := .int .i64 (sz1 : Int)) rfl (by kernel_rfl) (by kernel_rfl) (by kernel_rfl) (fun _ _ _ h => h) (y_sub (by rfl) rfl rfl rfl hsz1 (by omega) (by omega)) hHeld ?_
                try simp only [Act.put, List.getElem_toArray, List.getElem_cons_succ, List.getElem_cons_zero, List.setIfInBounds_toArray, List.set_cons_zero, List.set_cons_succ]
                refine wpAnyH_take (i := 14) (v := .string (pt.extract 0 sz1)) rfl (by kernel_rfl) (by kernel_rfl) (by kernel_rfl) (fun _ _ _ h => h) (y_run (by rfl) (fun w _ => by unfold execOp; go_simp)) hHeld ?_
                try simp only [Act.put, List.getElem_toArray, List.getElem_cons_succ, List.getElem_cons_zero, List.setIfInBounds_toArray, List.set_cons_zero, List.set_cons_succ]
                refine wpAnyH_take (i := 15) (v := .pointer (some ⟨g1, em * 5, none⟩)) rfl (by kernel_rfl) (by kernel_rfl) (by kernel_rfl) (fun _ _ _ h => h) (y_run (by rfl) (fun w _ => by unfold execOp; go_simp)) hHeld ?_
                try simp only [Act.put, List.getElem_toArray, List.getElem_cons_succ, List.getElem_cons_zero, List.setIfInBounds_toArray, List.set_cons_zero, List.set_cons_succ]
                refine wpAnyH_take (i := 16) (v := .pointer (some ⟨g1, em * 5 + 2, none⟩)) rfl (by kernel_rfl) (by kernel_rfl) (by kernel_rfl) (fun _ _ _ h => h) (y_run (by rfl) (fun w _ => by unfold execOp; go_simp)) hHeld ?_
                try simp only [Act.put, List.getElem_toArray, List.getElem_cons_succ, List.getElem_cons_zero, List.setIfInBounds_toArray, List.set_cons_zero, List.set_cons_succ]
                refine wpAnyH_ready (rs := [17]) (by kernel_rfl) (by simp) ?_
                refine AllReadyH.cons rfl (fun K hK => ?_) AllReadyH.nil
                try simp only [Act.put, List.getElem_toArray, List.getElem_cons_succ, List.getElem_cons_zero, List.setIfInBounds_toArray, List.set_cons_zero, List.set_cons_succ]
                rw [if_pos (by rfl)]
                go_simp
                refine hK.out _ _ trivial (fun hHeld => ?_)
                clear hK K
                try simp only [Act.put, List.getElem_toArray, List.getElem_cons_succ, List.getElem_cons_zero, List.setIfInBounds_toArray, List.set_cons_zero, List.set_cons_succ]
                refine wpAnyH_done (by kernel_rfl) ?_ _
                clear hHeld
                go_wp2_with fail
                go_meet
                case rel => exact ⟨FIN.out.1, FIN.out.2⟩
              · skip
                try simp only [Act.put, List.getElem_toArray, List.getElem_cons_succ, List.getElem_cons_zero, List.setIfInBounds_toArray, List.set_cons_zero, List.set_cons_succ]
                rw [if_pos (by rfl)]
                go_simp
                refine hK.out _ _ trivial (fun hHeld => ?_)
                clear hK K
                try simp only [Act.put, List.getElem_toArray, List.getElem_cons_succ, List.getElem_cons_zero, List.setIfInBounds_toArray, List.set_cons_zero, List.set_cons_succ]
                refine wpAnyH_take (i := 12) (v := .int .i64 (pt.size : Int)) rfl (by kernel_rfl) (by kernel_rfl) (by kernel_rfl) (fun _ _ _ h => h) (y_run (by rfl) (fun w _ => by unfold execOp; go_simp)) hHeld ?_
                try simp only [Act.put, List.getElem_toArray, List.getElem_cons_succ, List.getElem_cons_zero, List.setIfInBounds_toArray, List.set_cons_zero, List.set_cons_succ]
                refine wpAnyH_take (i := 13) (v := .int .i64 (sz1 : Int)) rfl (by kernel_rfl) (by kernel_rfl) (by kernel_rfl) (fun _ _ _ h => h) (y_sub (by rfl) rfl rfl rfl hsz1 (by omega) (by omega)) hHeld ?_
                try simp only [Act.put, List.getElem_toArray, List.getElem_cons_succ, List.getElem_cons_zero, List.setIfInBounds_toArray, List.set_cons_zero, List.set_cons_succ]
                refine wpAnyH_ready (rs := [6]) (by kernel_rfl) (by simp) ?_
                refine AllReadyH.cons rfl (fun K hK => ?_) AllReadyH.nil
                try simp only [Act.put, List.getElem_toArray, List.getElem_cons_succ, List.getElem_cons_zero, List.setIfInBounds_toArray, List.set_cons_zero, List.set_cons_succ]
                rw [if_pos (by rfl)]
                go_simp
                refine hK.out _ _ trivial (fun hHeld => ?_)
                clear hK K
                try simp only [Act.put, List.getElem_toArray, List.getElem_cons_succ, List.getElem_cons_zero, List.setIfInBounds_toArray, List.set_cons_zero, List.set_cons_succ]
                refine wpAnyH_take (i := 14) (v := .string (pt.extract 0 sz1)) rfl (by kernel_rfl) (by kernel_rfl) (by kernel_rfl) (fun _ _ _ h => h) (y_run (by rfl) (fun w _ => by unfold execOp; go_simp)) hHeld ?_
                try simp only [Act.put, List.getElem_toArray, List.getElem_cons_succ, List.getElem_cons_zero, List.setIfInBounds_toArray, List.set_cons_zero, List.set_cons_succ]
                refine wpAnyH_take (i := 15) (v := .pointer (some ⟨g1, em * 5, none⟩)) rfl (by kernel_rfl) (by kernel_rfl) (by kernel_rfl) (fun _ _ _ h => h) (y_run (by rfl) (fun w _ => by unfold execOp; go_simp)) hHeld ?_
                try simp only [Act.put, List.getElem_toArray, List.getElem_cons_succ, List.getElem_cons_zero, List.setIfInBounds_toArray, List.set_cons_zero, List.set_cons_succ]
                refine wpAnyH_take (i := 16) (v := .pointer (some ⟨g1, em * 5 + 2, none⟩)) rfl (by kernel_rfl) (by kernel_rfl) (by kernel_rfl) (fun _ _ _ h => h) (y_run (by rfl) (fun w _ => by unfold execOp; go_simp)) hHeld ?_
                try simp only [Act.put, List.getElem_toArray, List.getElem_cons_succ, List.getElem_cons_zero, List.setIfInBounds_toArray, List.set_cons_zero, List.set_cons_succ]
                refine wpAnyH_ready (rs := [17]) (by kernel_rfl) (by simp) ?_
                refine AllReadyH.cons rfl (fun K hK => ?_) AllReadyH.nil
                try simp only [Act.put, List.getElem_toArray, List.getElem_cons_succ, List.getElem_cons_zero, List.setIfInBounds_toArray, List.set_cons_zero, List.set_cons_succ]
                rw [if_pos (by rfl)]
                go_simp
                refine hK.out _ _ trivial (fun hHeld => ?_)
                clear hK K
                try simp only [Act.put, List.getElem_toArray, List.getElem_cons_succ, List.getElem_cons_zero, List.setIfInBounds_toArray, List.set_cons_zero, List.set_cons_succ]
                refine wpAnyH_done (by kernel_rfl) ?_ _
                clear hHeld
                go_wp2_with fail
                go_meet
                case rel => exact ⟨FIN.out.1, FIN.out.2⟩
        case rest =>
          obtain ⟨hR3, hB3⟩ := hcut
          clear R2 B2 TRIM TRIM2 TAIL HEND
          have hCl : Kd.C (kPt ad) wc (some g) k s.line := by
            have h := Kd.C_below (Kd.R_reads' RL.out).2.2 hB3.out
            rw [LN.out] at h
            exact h
          have MET := Lib.hid (metrics_c ad (some g) k c nl bb l K s ov wc hCl (HL.out _ hB3.out) OK.out HK.out BI.out (CB.out _ hB3.out))
          have hmi := me_in BI.out HK.out.1 HK.out.2 (ps := s.line) (fun p hp => by have := (OK.out p hp).1; have := (HL.out _ hB3.out).1; omega)
          have hmt : (-67108864 ≤ (metP K l s.line).1 ∧ (metP K l s.line).1 ≤ 67108864) ∧ (0 ≤ (metP K l s.line).2 ∧ (metP K l s.line).2 ≤ 134217728) := by
            unfold InM at hmi
            unfold metP
            simp only
            omega
          obtain ⟨bs, hbs⟩ : ∃ bs, (metP K l s.line).1 = bs := ⟨_, rfl⟩
          obtain ⟨hg, hhg⟩ : ∃ hg, (metP K l s.line).2 = hg := ⟨_, rfl⟩
          rw [hbs, hhg] at MET hmt
          have HBS := Lib.hid hbs
          have HHG := Lib.hid hhg
          clear hCl hmi hbs hhg
          go_wp2_with (go_at_call 57; refine MET.out.mono ?_; rintro e' w4 ⟨rfl, hB4⟩; have R4 := Lib.hid (Kd.R_below hR3.out hB4); have B4 := Lib.hid (below_then hB3.out hB3.out.size hB4); clear hB4)
          clear hR3 hB3 MET
          obtain ⟨c1, c4, c6, c7, -, c11⟩ := bkAt (CB.out _ B4.out)
          have d1 := fun o => (bkAt (CB.out _ (below_alloc B4.out o))).1
          have d6 := fun o => (bkAt (CB.out _ (below_alloc B4.out o))).2.2.1
          obtain ⟨sy, hsy⟩ : ∃ sy, s.y = sy := ⟨_, rfl⟩
          obtain ⟨sL, hsL⟩ : ∃ sL, s.left = sL := ⟨_, rfl⟩
          obtain ⟨sR, hsR⟩ : ∃ sR, s.right = sR := ⟨_, rfl⟩
          obtain ⟨sA, hsA⟩ : ∃ sA, K.align = sA := ⟨_, rfl⟩
          have hlrb := LR.out
          unfold InK at hlrb
          rw [hsL, hsR] at hlrb
          rw [hsy] at c1 d1
          rw [hsL] at c6 d6
          rw [hsR] at c7
          rw [hsA] at c4
          have HSY := Lib.hid hsy
          have HSL := Lib.hid hsL
          have HSR := Lib.hid hsR
          have HSA := Lib.hid hsA
          clear hsy hsL hsR hsA
          obtain ⟨bx, hbx⟩ : ∃ bx, w4.heap.size = bx := ⟨_, rfl⟩
          go_upto_region 12 with fail
          go_cut [10] from 79 to 90 (fun s10 wx => s10 = .pointer (some ⟨bx, 0, none⟩) ∧ Hid (wx.heap[bx]? = some (.cells #[.int .i64 sL, .int .i64 sy, .int .i64 0, .int .i64 hg, .int .i64 bs, .slice none 0 0, .bool last] 39 (0, 0))) ∧ Hid (Below w4.heap.size w4 wx))
          case first =>
            go_region
            all_goals go_wp2_with fail
            all_goals go_meet
            all_goals exact ⟨rfl, blk_drew (by rw [← hbx]; exact blk_new w4 _), (below_alloc (Below.refl _ _) _).drew⟩
          case rest =>
            obtain ⟨rfl, hX, hBx⟩ := hcut
            have hbxw : w.heap.size ≤ bx := by have := B4.out.size; omega
            have R5 := Lib.hid (Kd.R_below R4.out hBx.out)
            have B5 := Lib.hid (below_then B4.out B4.out.size hBx.out)
            have HBX := Lib.hid hbx
            clear R4 B4 c1 c4 c6 c7 c11 d1 d6 hBx hbx
            obtain ⟨W5, rfl⟩ : ∃ W : World, W = wc := ⟨_, rfl⟩
            -- free
            have hCt : Kd.C (kPt ad) W5 (some ⟨g1, 0, none⟩) k (trimP l s.line) := by
              have h := (Kd.R_reads' R5.out).2.2
              rw [trim_len, LN.out] at h
              exact h
            have hmt2 := trim_mild MD.out TD.out
            have WID := Lib.hid fun W (h : Below W5.heap.size W5 W) => width_c ad (some ⟨g1, 0, none⟩) k cp1 (trimP l s.line) W (Kd.C_below hCt h) hn hmt2
            have hwa := w_bd (trimP l s.line) hmt2 (trimP l s.line).length (Nat.le_refl _)
            rw [List.take_length, trim_len, LN.out] at hwa
            have hfr : freeP l s = max 0 (sR - sL - wAll (trimP l s.line)) := by unfold freeP; rw [HSL.out, HSR.out]
            obtain ⟨fr, hfre⟩ : ∃ fr, freeP l s = fr := ⟨_, rfl⟩
            rw [hfre] at hfr
            have HFR := Lib.hid hfre
            generalize wAll (trimP l s.line) = wa at *
            have HF2 := Lib.hid hfr
            clear hCt hmt2 hfre hfr
            obtain ⟨-, -, c6, c7, -, -⟩ := bkAt (CB.out _ B5.out)
            rw [HSL.out] at c6
            rw [HSR.out] at c7
            have q6 := LaterOf.cell c6
            have q7 := LaterOf.cell c7
            have WI2 := Lib.hid fun (p : LaterOf W5.heap.size W5) => WID.out p.wd p.ok
            go_upto_region 13 with fail
            refine wp_region_later (by kernel_rfl) (by kernel_rfl) ?_
            repeat (first | go_big_quiet_skip | (go_big_quiet_want; go_big_quiet_op; first | go_big_quiet_on | (apply Exists.intro; refine ⟨fun _ => ?_, ?_⟩; focus (go_at_call 28; exact Calls.later_of (WI2.out _)); go_big_quiet_on)) | quiet_step ((go_at_call 28; exact Calls.later_of (WI2.out _))))
            refine wpQuiet_nil ?_
            intro wL hw'
            obtain ⟨⟨wL2, hL⟩, hw''⟩ := hw'
            subst hw''
            have B6 := Lib.hid (below_then B5.out B5.out.size hL)
            have R6 := Lib.hid (Kd.R_below R5.out hL)
            have X6 := Lib.hid (blk_below hX.out hL)
            clear hL hX R5 B5 q6 q7 c6 c7 WI2 WID
            obtain ⟨W6, rfl⟩ : ∃ W : World, W = wL := ⟨_, rfl⟩
            rw [← HF2.out]
            have hfb : 0 ≤ fr ∧ fr ≤ 134217728 := by rw [HF2.out]; omega
            have hmk := print_make (P := Try.prog) 100 3 .i64 8 Try.underlying100 Go.Proofs.Ytmkgapdadandmaa.Sh.info (by decide) k (by omega)
            obtain ⟨bg, hbg⟩ : ∃ bg, W6.heap.size = bg := ⟨_, rfl⟩
            go_upto_block 2 with fail
            have R7 := Lib.hid (Kd.R_below R6.out (below_alloc (Below.refl W6.heap.size W6) (.cells (madeCells #[.int .i64 0] k) 3)))
            have B7 := Lib.hid (below_alloc B6.out (.cells (madeCells #[.int .i64 0] k) 3))
            have X7 := Lib.hid (blk_below X6.out (below_alloc (Below.refl W6.heap.size W6) (.cells (madeCells #[.int .i64 0] k) 3)))
            have G7 := Lib.hid (own_made W6 bg 3 .i64 k (by omega) (by omega))
            have hbgw : w.heap.size ≤ bg := by have := B6.out.size; omega
            have hbxg : bx < bg := by have := blk_lt X6.out; omega
            have hg1g : g1 < bg := by have := (ptPlace R6.out 0 hne).2.2.2; omega
            rw [hbg] at G7
            obtain ⟨W7, hW7⟩ : ∃ W7, W6.alloc (.cells (madeCells #[.int .i64 0] k) 3) = W7 := ⟨_, rfl⟩
            rw [hW7] at R7 B7 X7 G7 ⊢
            have GP : Hid (¬ (sA = 3 ∧ last = false) → gapsP K l s last = List.replicate k 0) := Lib.hid fun h => by unfold gapsP; rw [HSA.out, if_neg h, LN.out]
            have GP3 : Hid (sA = 3 → last = false → gapsP K l s last = Go.Proofs.Ytmkgapdadandmaa.Sh.share fr (gap01 l (trimP l s.line) e)) := Lib.hid fun h h2 => by unfold gapsP; rw [HSA.out, if_pos ⟨h, h2⟩, HFR.out, HE.out]
            have OP : Hid (offP K l s = if sA = 1 then fr else if sA = 2 then prt fr 1 2 else 0) := Lib.hid (by unfold offP; rw [HSA.out, HFR.out])
            clear hmk hbg hW7 R6 B6 X6
            obtain ⟨-, c4, -, -, -, -⟩ := bkAt (CB.out _ B7.out)
            rw [HSA.out] at c4
            go_cut [12, 13, 14] from 107 to 158 (fun s12 s13 s14 wx => ∃ Ag cg, s12 = .slice Ag k cg ∧ Hid (wx.ownsRow w.heap.size 3 1 (.slice Ag k cg) k (nums .i64 (gapsP K l s last))) ∧ Hid (wx.heap[bx]? = some (.cells #[.int .i64 (sL + offP K l s), .int .i64 sy, .int .i64 0, .int .i64 hg, .int .i64 bs, .slice none 0 0, .bool last] 39 (0, 0))) ∧
              Hid (Kd.R (kPt ad) 72 wx w.heap.size (fun _ => True) (.slice (some ⟨g1, 0, none⟩) k cp1) (trimP l s.line)) ∧ Hid (Below w.heap.size w wx))
            case first =>
              by_cases a1 : sA = 1
              · have z1 : (sA == 1) = true := by simp [a1]
                have hgp := GP.out (by omega)
                have hop := OP.out
                rw [if_pos a1] at hop
                have x0 := blk_cell X7.out 0
                simp only [List.getElem?_toArray, List.getElem?_cons_zero] at x0
                have xf : W7.frozen? ⟨bx, 0, none⟩ = false := blk_frozen X7.out 0
                have XS := Lib.hid (set1 X7.out 0 (.int .i64 (sL + fr)))
                have RS := Lib.hid (Kd.R_set R7.out X7.out (ptNe ad) 0 (.int .i64 (sL + fr)))
                have GS := Lib.hid (own_weaken (gapSet G7.out (b := bx) (by omega) (.int .i64 (sL + fr))) hbgw)
                have HGP := Lib.hid hgp
                have HOP := Lib.hid hop
                clear hgp hop a1
                go_wp2_with fail
                go_meet
                case rel => exact ⟨_, _, rfl, by rw [HGP.out]; exact GS.out, by rw [HOP.out]; exact XS.out, RS.out, B7.out.setCell hbxw _⟩
              · have z1 : (sA == 1) = false := by simp [a1]
                by_cases a2 : sA = 2
                · have z2 : (sA == 2) = true := by simp [a2]
                  have hgp := GP.out (by omega)
                  have hop := OP.out
                  rw [if_neg a1, if_pos a2] at hop
                  have HGP := Lib.hid hgp
                  have HOP := Lib.hid hop
                  have hpb := prt_bd fr 1 2
                  have PRT : Hid (∀ W, Calls Try.prog 41 #[.int .i64 fr, .int .i64 1, .int .i64 2] W fun e' w' => e' = .returned (.int .i64 (prt fr 1 2)) ∧ w' = W) := Lib.hid fun W => (Part_c fr 1 2 W (by omega)).mono fun e w' h => ⟨h.1, h.2.symm⟩
                  generalize prt fr 1 2 = pf at *
                  have X8 := Lib.hid (blk_drew X7.out)
                  have R8 := Lib.hid (Kd.R_drew R7.out)
                  have B8 := Lib.hid B7.out.drew
                  have G8 := Lib.hid (pw_own_below G7.out (Below.refl _ _).drew)
                  clear hgp hop a1 a2
                  go_wp2_with fail
                  clear X7 R7 B7 G7 c4
                  refine wp_region_still_tail 6 (by kernel_rfl) (by kernel_rfl) ?_
                  simp only [List.take_succ_cons, List.take_zero, List.drop_succ_cons, List.drop_zero]
                  change wpStill _ _ (World.drew W7) (fun a' => wpList _ _ _ _ a' (World.drew W7)) _ _
                  generalize W7.drew = W8 at *
                  have x0 := blk_cell X8.out 0
                  simp only [List.getElem?_toArray, List.getElem?_cons_zero] at x0
                  have xf : W8.frozen? ⟨bx, 0, none⟩ = false := blk_frozen X8.out 0
                  have XS := Lib.hid (set1 X8.out 0 (.int .i64 (sL + pf)))
                  have RS := Lib.hid (Kd.R_set R8.out X8.out (ptNe ad) 0 (.int .i64 (sL + pf)))
                  have GS := Lib.hid (own_weaken (gapSet G8.out (b := bx) (by omega) (.int .i64 (sL + pf))) hbgw)
                  still_step
                  still_step
                  still_step
                  still_call (PRT.out _)
                  still_step
                  still_step
                  refine wpStill_nil ?_
                  go_wp2_with fail
                  go_meet
                  case rel => exact ⟨_, _, rfl, by rw [HGP.out]; exact GS.out, by rw [HOP.out]; exact XS.out, RS.out, B8.out.setCell hbxw _⟩
                · have z2 : (sA == 2) = false := by simp [a2]
                  have hop := OP.out
                  rw [if_neg a1, if_neg a2] at hop
                  have HOP := Lib.hid hop
                  have XZ : Hid (W7.heap[bx]? = some (.cells #[.int .i64 (sL + 0), .int .i64 sy, .int .i64 0, .int .i64 hg, .int .i64 bs, .slice none 0 0, .bool last] 39 (0, 0))) := Lib.hid (by rw [Int.add_zero]; exact X7.out)
                  clear hop
                  by_cases a3 : sA = 3
                  · have z3 : (sA == 3) = true := by simp [a3]
                    cases last with
                    | true =>
                      have HGP := Lib.hid (GP.out (by simp))
                      have GS := Lib.hid (own_weaken G7.out hbgw)
                      clear a1 a2 a3
                      go_wp2_with fail
                      go_meet
                      case rel => exact ⟨_, _, rfl, by rw [HGP.out]; exact GS.out, by rw [HOP.out]; exact XZ.out, R7.out, B7.out⟩
                    | false =>
                      have HGP := Lib.hid (GP3.out a3 rfl)
                      clear a1 a2 a3
                      obtain ⟨mn, hmn⟩ : ∃ mn : Nat, max 0 e = (mn : Int) := ⟨(max 0 e).toNat, by omega⟩
                      have hmk2 : mn ≤ k := by omega
                      have hTl : (trimP l s.line).length = k := by rw [trim_len, LN.out]
                      have TLN := Lib.hid hTl
                      have OKT := Lib.hid (okp_trim (l := l) OK.out)
                      have GA : Hid (∀ j, j < mn → ∀ eb, endsP l ((trimP l s.line).getD j zPt) = eb → gap1 l (trimP l s.line) e j = if eb = true then 1 else 0) := Lib.hid fun j hj eb he => by
                        unfold gap1
                        rw [he, hmn]
                        by_cases hb : eb = true
                        · rw [if_pos hb, if_pos ⟨by omega, hb⟩]
                        · rw [if_neg hb, if_neg (fun h => hb h.2)]
                      have GE : Hid (gapTo l (trimP l s.line) e mn = gap01 l (trimP l s.line) e) := Lib.hid (gapTo_all fun i hi => by
                        unfold gap1; rw [if_neg (fun h => by have := h.1; omega)])
                      have G0 := G7.out
                      rw [← hTl, ← gapTo_zero l (trimP l s.line) e, hTl] at G0
                      have G00 := Lib.hid G0
                      clear G0 hTl
                      generalize trimP l s.line = T at *
                      have MN := Lib.hid hmn
                      go_wp2_with fail
                      clear hmn GP GP3 OP
                      have hg7 : bg < W7.heap.size := own_lt G7.out bg rfl
                      go_loopw [13, 14, 145] (fun _ _ iv wr => ∃ j : Nat, j ≤ mn ∧ iv = .int .i64 j ∧ Hid (wr.ownsRow bg 3 1 (.slice (some ⟨bg, 0, none⟩) k k) k (nums .i64 (gapTo l T e j))) ∧ Hid (W7.grownBy wr (some bg))) (fun _ _ iv _ => mn - (RowKit.intOf iv).toNat)
                      case atStart => exact ⟨0, Nat.zero_le _, rfl, G00.out, World.grownBy.refl _ _⟩
                      case round =>
                        obtain ⟨j, hj, rfl, hO, hG⟩ := hrel
                        have hRj := Kd.R_grown1 R7.out rfl hG.out (by simp [Value.ownBlock]; omega)
                        have hBj := B7.out.grown hG.out B7.out.size (fun i e => by cases e; exact hbgw)
                        by_cases hltj : j < mn
                        · obtain ⟨⟨x0, x1, x2, x3, x4⟩, -, -⟩ := ptPlace hRj j (by omega)
                          obtain ⟨hxa, hxt⟩ := okp_get OKT.out (i := j) (by rw [TLN.out]; omega)
                          have GJ := Lib.hid (GA.out j hltj)
                          have END := Lib.hid fun W (h : Below w.heap.size w W) => ends_c ad nl l (T.getD j zPt) W (HL.out W h) hxa hxt
                          have GSK : Hid (gap1 l T e j = 0 → gapTo l T e (j + 1) = gapTo l T e j) := Lib.hid fun h => gapTo_skip h
                          have GST : Hid (gap1 l T e j = 1 → gapTo l T e (j + 1) = (gapTo l T e j).set j 1) := Lib.hid fun h => gapTo_set (by rw [TLN.out]; omega) h
                          generalize T.getD j zPt = p at *
                          generalize hep : endsP l p = ep at *
                          have GE1 := Lib.hid (GJ.out ep rfl)
                          obtain ⟨pa, pt, pw, pl⟩ := p
                          simp only [ptV] at x0 x1 x2 x3 x4 END
                          have BA := Lib.hid fun o => below_alloc hBj o
                          have GA2 : Hid (∀ W, Below wr.heap.size wr W → W7.grownBy W (some bg) ∧ W.ownsRow bg 3 1 (.slice (some ⟨bg, 0, none⟩) k k) k (nums .i64 (gapTo l T e j))) := Lib.hid fun W h => ⟨hG.out.trans (grown_of_below h (some bg)), pw_own_below hO.out h⟩
                          have BR := Lib.hid fun o => below_alloc (Below.refl wr.heap.size wr) o
                          clear hep hRj hBj hxa hxt GJ hO hG
                          cases ep with
                          | true =>
                            rw [if_pos rfl] at GE1
                            have hgt := GST.out GE1.out
                            have HGT := Lib.hid hgt
                            have FN : Hid (∀ W, Below wr.heap.size wr W → (∃ v, W.cell? ⟨bg, j, none⟩ = some v) ∧ W.frozen? ⟨bg, j, none⟩ = false ∧ (W.setCell ⟨bg, j, none⟩ (.int .i64 1)).ownsRow bg 3 1 (.slice (some ⟨bg, 0, none⟩) k k) k (nums .i64 (gapTo l T e (j + 1))) ∧ W7.grownBy (W.setCell ⟨bg, j, none⟩ (.int .i64 1)) (some bg)) := Lib.hid fun W h => by
                              obtain ⟨h1, h2⟩ := GA2.out W h
                              obtain ⟨hc1, hf1⟩ := own_at h2 (j : Int) (by omega) (by omega)
                              have hst := own_store h2 (j : Int) 1
                              rw [Int.toNat_natCast] at hc1 hf1 hst
                              rw [hgt]
                              exact ⟨⟨_, hc1⟩, hf1, hst.1, h1.trans hst.2⟩
                            clear hgt GST GSK GE1 GA2
                            go_wp2_with (go_at_call 49; refine (END.out _ (BA.out _)).mono ?_; rintro e' w9 ⟨rfl, hB9⟩; have hB9r := (BR.out _).trans (hB9.mono (BR.out _).size); obtain ⟨⟨gv, fc⟩, ff, fo, fg⟩ := FN.out _ hB9r; have FO := Lib.hid fo; have FG := Lib.hid fg; clear hB9 hB9r fo fg)
                            go_roundw
                            case rel => exact ⟨j + 1, by omega, by go_num, FO.out, FG.out⟩
                            case measure => simp [RowKit.intOf]; omega
                          | false =>
                            rw [if_neg (by decide)] at GE1
                            have hgt := GSK.out GE1.out
                            have HGT := Lib.hid hgt
                            clear hgt GST GSK GE1
                            go_wp2_with (go_at_call 49; refine (END.out _ (BA.out _)).mono ?_; rintro e' w9 ⟨rfl, hB9⟩; have B9 := Lib.hid ((BR.out _).trans (hB9.mono (BR.out _).size)); clear hB9)
                            go_roundw
                            case rel => exact ⟨j + 1, by omega, by go_num, by rw [HGT.out]; exact (GA2.out _ B9.out).2, (GA2.out _ B9.out).1⟩
                            case measure => simp [RowKit.intOf]; omega
                        · obtain rfl : j = mn := by omega
                          have hO2 := hO.out
                          rw [GE.out] at hO2
                          have SH := Lib.hid (Go.Proofs.Ytmkgapdadandmaa.Sh.Share_c fr wr (some ⟨bg, 0, none⟩) k k (gap01 l T e) (gapReads hO2) (by omega))
                          have XX := Lib.hid ((hG.out.block bx (blk_lt XZ.out) (by simp; omega)).trans XZ.out)
                          have RX := Lib.hid hRj
                          have BX := Lib.hid hBj
                          clear hO2 hO hG hRj hBj
                          go_wp2_with fail
                          refine SH.out.mono ?_
                          rintro e' w9 ⟨v9, rfl, hO9, hB9⟩
                          obtain ⟨Ag, cg, rfl, hr⟩ := own_reads hO9
                          have HRR := Lib.hid (own_weaken hO9 BX.out.size)
                          have XS := Lib.hid (blk_below XX.out hB9)
                          have RS := Lib.hid (Kd.R_below RX.out hB9)
                          have BS := Lib.hid (below_then BX.out BX.out.size hB9)
                          clear hO9 hB9 hr XX RX BX SH
                          go_wp2_with fail
                          go_meet
                          case rel => exact ⟨_, _, rfl, by rw [HGP.out]; exact HRR.out, by rw [HOP.out]; exact XS.out, RS.out, BS.out⟩
                  · have z3 : (sA == 3) = false := by simp [a3]
                    have HGP := Lib.hid (GP.out (by simp [a3]))
                    have GS := Lib.hid (own_weaken G7.out hbgw)
                    clear a1 a2 a3
                    go_wp2_with fail
                    go_meet
                    case rel => exact ⟨_, _, rfl, by rw [HGP.out]; exact GS.out, by rw [HOP.out]; exact XZ.out, R7.out, B7.out⟩
            case rest =>
              obtain ⟨Ag, cg, rfl, hGr, hXr, hRr, hBr⟩ := hcut
              clear R7 B7 X7 G7 GP GP3 OP c4 HF2 hg1g hbxg hbgw
              obtain ⟨bz, hbz⟩ : ∃ bz, Ag = some ⟨bz, 0, none⟩ := by
                rcases hGr.out.2 with ⟨h0, _⟩ | ⟨gg, cap, cur, hv, _⟩
                · injection h0 with _ h1 _; omega
                · injection hv with hv _ _
                  exact ⟨gg, hv⟩
              subst hbz
              obtain ⟨gs, hgs⟩ : ∃ gs, gapsP K l s last = gs := ⟨_, rfl⟩
              obtain ⟨sX, hsX⟩ : ∃ sX, sL + offP K l s = sX := ⟨_, rfl⟩
              have hgl : gs.length = k := by rw [← hgs, gaps_len, LN.out]
              have hgb := gap_bd K l s last
              rw [hgs] at hGr hgb
              rw [hsX] at hXr
              have HGS := Lib.hid hgs
              have HSX := Lib.hid hsX
              have hTl : (trimP l s.line).length = k := by rw [trim_len, LN.out]
              have hTm := trim_mild MD.out TD.out
              have hpb := pcs_bd (l := l) (gs := gs) hTm hgb
              have OKT := Lib.hid (okp_trim (l := l) OK.out)
              obtain ⟨T, hT⟩ : ∃ T, trimP l s.line = T := ⟨_, rfl⟩
              rw [hT] at hTl hTm hpb OKT hRr
              rw [hTl] at hpb
              have HTT := Lib.hid hT
              have TLN := Lib.hid hTl
              have TMD := Lib.hid hTm
              have PB := Lib.hid hpb
              have GB := Lib.hid hgb
              have GL := Lib.hid hgl
              clear hgs hsX hT hTl hTm hpb hgb hgl
              obtain ⟨W9, rfl⟩ : ∃ W : World, W = wc := ⟨_, rfl⟩
              go_wp2_with fail
              go_loopw [15, 16, 17, 161] (fun av _ _ iv wr => ∃ (j : Nat) (v : Value), j ≤ k ∧ iv = .int .i64 j ∧ av = .int .i64 (pcsP l T gs j).1 ∧ Hid (wr.heap[bx]? = some (.cells #[.int .i64 sX, .int .i64 sy, .int .i64 0, .int .i64 hg, .int .i64 bs, v, .bool last] 39 (0, 0))) ∧
                Hid (Kd.R k41 41 wr w.heap.size (fun i => w.heap.size ≤ i) v (pcsP l T gs j).2) ∧ Hid (wr.ownsRow w.heap.size 3 1 (.slice (some ⟨bz, 0, none⟩) k cg) k (nums .i64 gs)) ∧ Hid (Kd.R (kPt ad) 72 wr w.heap.size (fun _ => True) (.slice (some ⟨g1, 0, none⟩) k cp1) T) ∧ Hid (Below w.heap.size w wr)) (fun _ _ _ iv _ => k - (RowKit.intOf iv).toNat)
              case atStart => exact ⟨0, _, Nat.zero_le _, rfl, rfl, hXr, Kd.R_nil _ _ _ _ _, hGr, hRr, hBr⟩
              case round =>
                obtain ⟨j, v, hj, rfl, hav, hX, hP, hG, hR, hB⟩ := hrel
                by_cases hltj : j < k
                · have hjl : j < T.length := by rw [TLN.out]; exact hltj
                  obtain ⟨⟨x0, x1, x2, x3, x4⟩, -, -⟩ := ptPlace hR.out j hltj
                  obtain ⟨hxa, hxt⟩ := okp_get OKT.out hjl
                  have hpm := TMD.out (T.getD j zPt) (by rw [List.getD_eq_getElem?_getD, List.getElem?_eq_getElem hjl]; exact List.getElem_mem _)
                  have hpb := PB.out j (by omega)
                  have hgj := GB.out j
                  have hst : pcsP l T gs (j + 1) = pcS l T gs (pcsP l T gs j) j := rfl
                  have hc1 : ∀ W : World, W.ownsRow w.heap.size 3 1 (.slice (some ⟨bz, 0, none⟩) k cg) k (nums .i64 gs) → W.cell? ⟨bz, j, none⟩ = some (.int .i64 (gs.getD j 0)) := fun W h => by
                    obtain ⟨h1, -⟩ := own_at h (j : Int) (by omega) (by omega)
                    rw [Int.toNat_natCast] at h1
                    rw [h1]
                    simp [rd]
                  have IT := Lib.hid fun W (h : Below w.heap.size w W) => (itmAt9 (HL.out W h) (T.getD j zPt) hxa).1
                  unfold MildP at hpm
                  unfold pcS at hst
                  generalize gs.getD j 0 = gj at *
                  generalize T.getD j zPt = p at *
                  generalize pcsP l T gs j = ap at *
                  obtain ⟨a, P⟩ := ap
                  simp only at hav hP hpb hst
                  subst hav
                  generalize hkk : (itm l p).f0 = kk at *
                  obtain ⟨pa, pt, pw, pl⟩ := p
                  simp only at x0 x1 x2 x3 x4 hst hpm IT hxt
                  have HST := Lib.hid hst
                  have HC1 := Lib.hid hc1
                  have BR := Lib.hid (below_alloc (Below.refl wr.heap.size wr) (.cells #[.pointer (some (ad.add (pa * 11))), .int .i64 (pa : Int), .string pt, .int .i64 pw, .bool pl] 72))
                  have s0 := IT.out _ (below_then hB.out hB.out.size BR.out)
                  have Q1 := Lib.hid (blk_new wr (.cells #[.pointer (some (ad.add (pa * 11))), .int .i64 (pa : Int), .string pt, .int .i64 pw, .bool pl] 72))
                  have X1 := Lib.hid (blk_below hX.out BR.out)
                  have P1 := Lib.hid (Kd.R_below hP.out BR.out)
                  have G1 := Lib.hid (pw_own_below hG.out BR.out)
                  have R1 := Lib.hid (Kd.R_below hR.out BR.out)
                  have B1 := Lib.hid (below_then hB.out hB.out.size BR.out)
                  have hws := hB.out.size
                  obtain ⟨Av, cv, rfl, hcv, -⟩ := Kd.R_reads hP.out
                  clear hst hc1 hxa hX hP hG hR hB hkk hjl
                  go_upto_if 171 with fail
                  obtain ⟨bq, hbq⟩ : ∃ bq, wr.heap.size = bq := ⟨_, rfl⟩
                  obtain ⟨W10, hW10⟩ : ∃ W10, wr.alloc (.cells #[.pointer (some (ad.add (pa * 11))), .int .i64 (pa : Int), .string pt, .int .i64 pw, .bool pl] 72) = W10 := ⟨_, rfl⟩
                  rw [hW10, hbq] at Q1
                  rw [hW10] at X1 P1 G1 R1 B1 s0 ⊢
                  rw [hbq]
                  clear x0 x1 x2 x3 x4 hW10 hbq BR
                  go_cut [161] from 161 to 196 (fun s161 wx => s161 = .int .i64 j ∧ ∃ v' P', Hid (P' = if kk = 5 then P else P ++ [⟨(pa : Int), cut a, cut pw, pt⟩]) ∧ Hid (wx.heap[bx]? = some (.cells #[.int .i64 sX, .int .i64 sy, .int .i64 0, .int .i64 hg, .int .i64 bs, v', .bool last] 39 (0, 0))) ∧
                    Hid (Kd.R k41 41 wx w.heap.size (fun i => w.heap.size ≤ i) v' P') ∧ Hid (wx.ownsRow w.heap.size 3 1 (.slice (some ⟨bz, 0, none⟩) k cg) k (nums .i64 gs)) ∧ Hid (Kd.R (kPt ad) 72 wx w.heap.size (fun _ => True) (.slice (some ⟨g1, 0, none⟩) k cp1) T) ∧ Hid (Below w.heap.size w wx) ∧ Hid (wx.heap[bq]? = some (.cells #[.pointer (some (ad.add (pa * 11))), .int .i64 (pa : Int), .string pt, .int .i64 pw, .bool pl] 72 (0, 0))))
                  case first =>
                    by_cases k5 : kk = 5
                    · have z5 : (kk != 5) = false := by simp [k5]
                      have e5 := Lib.hid k5
                      clear k5
                      go_wp2_with fail
                      go_meet
                      case rel => exact ⟨rfl, _, P, by show _ = _; rw [if_pos e5.out], X1.out, P1.out, G1.out, R1.out, B1.out, Q1.out⟩
                    · have z5 : (kk != 5) = true := by simp [k5]
                      have e5 := Lib.hid k5
                      clear k5
                      have x5 := blk_cell X1.out 5
                      simp only [List.getElem?_toArray, List.getElem?_cons_zero, List.getElem?_cons_succ] at x5
                      have CUT : Hid (∀ (n : Int) W, Calls Try.prog 17 #[.int .i64 n] W fun e w'' => e = .returned (.int .i64 (cut n)) ∧ w'' = W) := Lib.hid (fun n W => (Cut_c n W).mono fun e w' h => ⟨h.1, h.2.symm⟩)
                      have hPL : P.length ≤ 100000 := by omega
                      have FIN : Hid (∀ v1 w6, Kd.R k41 41 w6 w.heap.size (fun i => w.heap.size ≤ i) v1 (P ++ [(⟨(pa : Int), cut a, cut pw, pt⟩ : LP)]) → Below w.heap.size w w6 → W10.drew.grownBy w6 (.slice Av P.length cv : Value).ownBlock →
                          w6.heap[bq]? = some (.cells #[.pointer (some (ad.add (pa * 11))), .int .i64 (pa : Int), .string pt, .int .i64 pw, .bool pl] 72 (0, 0)) ∧ w6.cell? ⟨bx, 5, none⟩ = some (.slice Av P.length cv) ∧ w6.frozen? ⟨bx, 5, none⟩ = false ∧ (w6.setCell ⟨bx, 5, none⟩ v1).heap[bq]? = some (.cells #[.pointer (some (ad.add (pa * 11))), .int .i64 (pa : Int), .string pt, .int .i64 pw, .bool pl] 72 (0, 0)) ∧
                          (w6.setCell ⟨bx, 5, none⟩ v1).heap[bx]? = some (.cells #[.int .i64 sX, .int .i64 sy, .int .i64 0, .int .i64 hg, .int .i64 bs, v1, .bool last] 39 (0, 0)) ∧ Kd.R k41 41 (w6.setCell ⟨bx, 5, none⟩ v1) w.heap.size (fun i => w.heap.size ≤ i) v1 (P ++ [(⟨(pa : Int), cut a, cut pw, pt⟩ : LP)]) ∧
                          (w6.setCell ⟨bx, 5, none⟩ v1).ownsRow w.heap.size 3 1 (.slice (some ⟨bz, 0, none⟩) k cg) k (nums .i64 gs) ∧ Kd.R (kPt ad) 72 (w6.setCell ⟨bx, 5, none⟩ v1) w.heap.size (fun _ => True) (.slice (some ⟨g1, 0, none⟩) k cp1) T ∧ Below w.heap.size w (w6.setCell ⟨bx, 5, none⟩ v1)) := Lib.hid fun v1 w6 h1 h2 h3 => by
                        have hX6 := blk_grown (blk_drew X1.out) h3 (Kd.R_ne (Kd.R_drew P1.out) (blk_drew X1.out) (by decide))
                        have hQ6 := blk_grown (blk_drew Q1.out) h3 (Kd.R_ne (Kd.R_drew P1.out) (blk_drew Q1.out) (by decide))
                        have hG6 := pw_own_below G1.out (Below.refl _ _).drew
                        obtain ⟨gc, hgc⟩ := own_typed hG6 bz (by simp [Value.ownBlock])
                        have hG6b := own_other hG6 h3 (.inr (fun e => Kd.R_ne (Kd.R_drew P1.out) hgc (by decide) (by rw [← e]; rfl)))
                        have hgx : bz ≠ bx := fun e => by subst e; rw [blk_drew X1.out] at hgc; injection hgc with hgc; injection hgc with _ h; exact absurd h (by decide)
                        have hqx : bq ≠ bx := fun e => by subst e; have := Q1.out; rw [X1.out] at this; injection this with this; injection this with _ h; exact absurd h (by decide)
                        have hR6 := Kd.R_over (Kd.R_drew R1.out) (Kd.R_drew P1.out) (ptNe2 ad) h3
                        refine ⟨hQ6, ?_, blk_frozen hX6 5, ?_, set1 hX6 5 v1, Kd.R_set h1 hX6 (by decide) 5 v1, own_other hG6b (grown_cell w6 bx 5 v1) (.inr (by simp [Value.ownBlock]; exact hgx)), Kd.R_set hR6 hX6 (ptNe ad) 5 v1, h2.setCell hbxw _⟩
                        · have := blk_cell hX6 5
                          simpa using this
                        · exact blk_grown hQ6 (grown_cell w6 bx 5 v1) (by simp; exact hqx)
                      have P2 := Lib.hid (Kd.R_drew P1.out)
                      have B2 := Lib.hid B1.out.drew
                      clear X1 P1 G1 R1 B1 s0
                      go_wp2_with fail
                      refine wp_region_held_drew (S := fun W => W.heap[bq]? = some (.cells #[.pointer (some (ad.add (pa * 11))), .int .i64 (pa : Int), .string pt, .int .i64 pw, .bool pl] 72 (0, 0))) (by kernel_rfl) (blk_drew Q1.out) (fun hHeld => ?_)
                      refine wpAnyH_take (i := 0) (v := .pointer (some ⟨bx, 5, none⟩)) rfl (by kernel_rfl) (by kernel_rfl) (by kernel_rfl) (fun _ _ _ h => h) (y_run (by rfl) (fun w _ => by unfold execOp; go_simp)) hHeld ?_
                      try simp only [Act.put, List.getElem_toArray, List.getElem_cons_succ, List.getElem_cons_zero, List.setIfInBounds_toArray, List.set_cons_zero, List.set_cons_succ]
                      refine wpAnyH_take (i := 2) (v := .pointer (some ⟨bq, 1, none⟩)) rfl (by kernel_rfl) (by kernel_rfl) (by kernel_rfl) (fun _ _ _ h => h) (y_run (by rfl) (fun w _ => by unfold execOp; go_simp)) hHeld ?_
                      try simp only [Act.put, List.getElem_toArray, List.getElem_cons_succ, List.getElem_cons_zero, List.setIfInBounds_toArray, List.set_cons_zero, List.set_cons_succ]
                      refine wpAnyH_take (i := 3) (v := .int .i64 (pa : Int)) rfl (by kernel_rfl) (by kernel_rfl) (by kernel_rfl) (fun _ _ _ h => h) (y_load (by rfl) rfl rfl (fun _ h => blk_cell h 1)) hHeld ?_
                      try simp only [Act.put, List.getElem_toArray, List.getElem_cons_succ, List.getElem_cons_zero, List.setIfInBounds_toArray, List.set_cons_zero, List.set_cons_succ]
                      refine wpAnyH_take (i := 4) (v := .int .i64 a) rfl (by kernel_rfl) (by kernel_rfl) (by kernel_rfl) (fun _ _ _ h => h) (y_move (by rfl) rfl rfl) hHeld ?_
                      try simp only [Act.put, List.getElem_toArray, List.getElem_cons_succ, List.getElem_cons_zero, List.setIfInBounds_toArray, List.set_cons_zero, List.set_cons_succ]
                      refine wpAnyH_take (i := 6) (v := .pointer (some ⟨bq, 3, none⟩)) rfl (by kernel_rfl) (by kernel_rfl) (by kernel_rfl) (fun _ _ _ h => h) (y_run (by rfl) (fun w _ => by unfold execOp; go_simp)) hHeld ?_
                      try simp only [Act.put, List.getElem_toArray, List.getElem_cons_succ, List.getElem_cons_zero, List.setIfInBounds_toArray, List.set_cons_zero, List.set_cons_succ]
                      refine wpAnyH_take (i := 7) (v := .int .i64 pw) rfl (by kernel_rfl) (by kernel_rfl) (by kernel_rfl) (fun _ _ _ h => h) (y_load (by rfl) rfl rfl (fun _ h => blk_cell h 3)) hHeld ?_
                      try simp only [Act.put, List.getElem_toArray, List.getElem_cons_succ, List.getElem_cons_zero, List.setIfInBounds_toArray, List.set_cons_zero, List.set_cons_succ]
                      refine wpAnyH_take (i := 9) (v := .pointer (some ⟨bq, 2, none⟩)) rfl (by kernel_rfl) (by kernel_rfl) (by kernel_rfl) (fun _ _ _ h => h) (y_run (by rfl) (fun w _ => by unfold execOp; go_simp)) hHeld ?_
                      try simp only [Act.put, List.getElem_toArray, List.getElem_cons_succ, List.getElem_cons_zero, List.setIfInBounds_toArray, List.set_cons_zero, List.set_cons_succ]
                      refine wpAnyH_take (i := 10) (v := .string pt) rfl (by kernel_rfl) (by kernel_rfl) (by kernel_rfl) (fun _ _ _ h => h) (y_run (by rfl) (fun w h => by have c2 : w.cell? ⟨bq, 2, none⟩ = some (.string pt) := blk_cell h 2; unfold execOp; go_simp)) hHeld ?_
                      try simp only [Act.put, List.getElem_toArray, List.getElem_cons_succ, List.getElem_cons_zero, List.setIfInBounds_toArray, List.set_cons_zero, List.set_cons_succ]
                      refine wpAnyH_ready (rs := [1, 5]) (by kernel_rfl) (by simp) ?_
                      refine AllReadyH.cons rfl (fun K hK => ?_) (AllReadyH.cons rfl (fun K hK => ?_) AllReadyH.nil)
                      · skip
                        try simp only [Act.put, List.getElem_toArray, List.getElem_cons_succ, List.getElem_cons_zero, List.setIfInBounds_toArray, List.set_cons_zero, List.set_cons_succ]
                        rw [if_pos (by rfl)]
                        go_simp
                        refine hK.out _ _ hHeld (fun hHeld => ?_)
                        clear hK K
                        try simp only [Act.put, List.getElem_toArray, List.getElem_cons_succ, List.getElem_cons_zero, List.setIfInBounds_toArray, List.set_cons_zero, List.set_cons_succ]
                        refine wpAnyH_ready (rs := [5]) (by kernel_rfl) (by simp) ?_
                        refine AllReadyH.cons rfl (fun K hK => ?_) AllReadyH.nil
                        try simp only [Act.put, List.getElem_toArray, List.getElem_cons_succ, List.getElem_cons_zero, List.setIfInBounds_toArray, List.set_cons_zero, List.set_cons_succ]
                        rw [if_pos (by rfl)]
                        go_simp
                        refine (CUT.out a _).mono ?_
                        rintro e' w' ⟨rfl, rfl⟩
                        refine hK.out _ _ hHeld (fun hHeld => ?_)
                        clear hK K
                        try simp only [Act.put, List.getElem_toArray, List.getElem_cons_succ, List.getElem_cons_zero, List.setIfInBounds_toArray, List.set_cons_zero, List.set_cons_succ]
                        refine wpAnyH_ready (rs := [8]) (by kernel_rfl) (by simp) ?_
                        refine AllReadyH.cons rfl (fun K hK => ?_) AllReadyH.nil
                        try simp only [Act.put, List.getElem_toArray, List.getElem_cons_succ, List.getElem_cons_zero, List.setIfInBounds_toArray, List.set_cons_zero, List.set_cons_succ]
                        rw [if_pos (by rfl)]
                        go_simp
                        refine (CUT.out pw _).mono ?_
                        rintro e' w' ⟨rfl, rfl⟩
                        refine hK.out _ _ hHeld (fun hHeld => ?_)
                        clear hK K
                        try simp only [Act.put, List.getElem_toArray, List.getElem_cons_succ, List.getElem_cons_zero, List.setIfInBounds_toArray, List.set_cons_zero, List.set_cons_succ]
                        refine wpAnyH_take (i := 11) (v := .agg #[.int .i64 (pa : Int), .int .i64 (cut a), .int .i64 (cut pw), .string pt]) rfl (by kernel_rfl) (by kernel_rfl) (by kernel_rfl) (fun _ _ _ h => h) (y_run (by rfl) (fun w _ => by unfold execOp; go_simp)) hHeld ?_
                        try simp only [Act.put, List.getElem_toArray, List.getElem_cons_succ, List.getElem_cons_zero, List.setIfInBounds_toArray, List.set_cons_zero, List.set_cons_succ]
                        refine wpAnyH_ready (rs := [12]) (by kernel_rfl) (by simp) ?_
                        refine AllReadyH.cons rfl (fun K hK => ?_) AllReadyH.nil
                        try simp only [Act.put, List.getElem_toArray, List.getElem_cons_succ, List.getElem_cons_zero, List.setIfInBounds_toArray, List.set_cons_zero, List.set_cons_succ]
                        rw [if_pos (by rfl)]
                        go_simp
                        refine hK.out _ _ (blk_below hHeld (below_alloc (Below.refl _ _) _)) (fun hHeld => ?_)
                        clear hK K
                        try simp only [Act.put, List.getElem_toArray, List.getElem_cons_succ, List.getElem_cons_zero, List.setIfInBounds_toArray, List.set_cons_zero, List.set_cons_succ]
                        refine wpAnyH_ready (rs := [13]) (by kernel_rfl) (by simp) ?_
                        refine AllReadyH.cons rfl (fun K hK => ?_) AllReadyH.nil
                        try simp only [Act.put, List.getElem_toArray, List.getElem_cons_succ, List.getElem_cons_zero, List.setIfInBounds_toArray, List.set_cons_zero, List.set_cons_succ]
                        rw [if_pos (by rfl)]
                        refine append_wp k41 (w0 := w) (W := W10.drew) w.heap.size ?_ (.tmp 173) (.tmp 184) 37 41 _ 40 ?_ Try.underlying37 infoLP rfl (by decide) (by decide) (.slice Av P.length cv) P ⟨(pa : Int), cut a, cut pw, pt⟩ [.int .i64 (pa : Int), .int .i64 (cut a), .int .i64 (cut pw), .string pt] (fun i => w.heap.size ≤ i) (fun _ => False) ?_ ?_ (k41_mkM _ _ _ ⟨(pa : Int), cut a, cut pw, pt⟩) (fun _ h => h.elim) (fun i hi => Nat.le_trans B2.out.size hi) P2.out B2.out B2.out.size (by omega) ?_
                        · rfl
                        · rfl
                        · rfl
                        · rfl
                        intro v1 w6 hO1 hB1 hG1
                        obtain ⟨A1, c1, hv1, hc1, -⟩ := Kd.R_reads hO1
                        generalize hm1 : (P ++ [(⟨(pa : Int), cut a, cut pw, pt⟩ : LP)]).length = m1 at hv1 hc1
                        subst hv1
                        obtain ⟨f1, f2, f3, f4, f5⟩ := FIN.out _ w6 hO1 hB1 hG1
                        have F5 := Lib.hid f5
                        refine hK.out _ _ f1 (fun hHeld => ?_)
                        clear hK K
                        try simp only [Act.put, List.getElem_toArray, List.getElem_cons_succ, List.getElem_cons_zero, List.setIfInBounds_toArray, List.set_cons_zero, List.set_cons_succ]
                        clear f5
                        refine wpAnyH_take (i := 14) (v := .pointer (some ⟨bx, 5, none⟩)) rfl (by kernel_rfl) (by kernel_rfl) (by kernel_rfl) (fun _ _ _ h => h) (y_run (by rfl) (fun w _ => by unfold execOp; go_simp)) hHeld ?_
                        try simp only [Act.put, List.getElem_toArray, List.getElem_cons_succ, List.getElem_cons_zero, List.setIfInBounds_toArray, List.set_cons_zero, List.set_cons_succ]
                        refine wpAnyH_ready (rs := [15]) (by kernel_rfl) (by simp) ?_
                        refine AllReadyH.cons rfl (fun K hK => ?_) AllReadyH.nil
                        try simp only [Act.put, List.getElem_toArray, List.getElem_cons_succ, List.getElem_cons_zero, List.setIfInBounds_toArray, List.set_cons_zero, List.set_cons_succ]
                        rw [if_pos (by rfl)]
                        go_simp
                        refine hK.out _ _ f4 (fun hHeld => ?_)
                        clear hK K
                        try simp only [Act.put, List.getElem_toArray, List.getElem_cons_succ, List.getElem_cons_zero, List.setIfInBounds_toArray, List.set_cons_zero, List.set_cons_succ]
                        refine wpAnyH_done (by kernel_rfl) ?_ _
                        clear hHeld
                        go_wp2_with fail
                        go_meet
                        case rel => exact ⟨rfl, _, P ++ [(⟨(pa : Int), cut a, cut pw, pt⟩ : LP)], by show _ = _; rw [if_neg e5.out], F5.out.1, F5.out.2.1, F5.out.2.2.1, F5.out.2.2.2.1, F5.out.2.2.2.2, f4⟩
                      · skip
                        try simp only [Act.put, List.getElem_toArray, List.getElem_cons_succ, List.getElem_cons_zero, List.setIfInBounds_toArray, List.set_cons_zero, List.set_cons_succ]
                        rw [if_pos (by rfl)]
                        go_simp
                        refine (CUT.out a _).mono ?_
                        rintro e' w' ⟨rfl, rfl⟩
                        refine hK.out _ _ hHeld (fun hHeld => ?_)
                        clear hK K
                        try simp only [Act.put, List.getElem_toArray, List.getElem_cons_succ, List.getElem_cons_zero, List.setIfInBounds_toArray, List.set_cons_zero, List.set_cons_succ]
                        refine wpAnyH_ready (rs := [1, 8]) (by kernel_rfl) (by simp) ?_
                        refine AllReadyH.cons rfl (fun K hK => ?_) (AllReadyH.cons rfl (fun K hK => ?_) AllReadyH.nil)
                        · skip
                          try simp only [Act.put, List.getElem_toArray, List.getElem_cons_succ, List.getElem_cons_zero, List.setIfInBounds_toArray, List.set_cons_zero, List.set_cons_succ]
                          rw [if_pos (by rfl)]
                          go_simp
                          refine hK.out _ _ hHeld (fun hHeld => ?_)
                          clear hK K
                          try simp only [Act.put, List.getElem_toArray, List.getElem_cons_succ, List.getElem_cons_zero, List.setIfInBounds_toArray, List.set_cons_zero, List.set_cons_succ]
                          refine wpAnyH_ready (rs := [8]) (by kernel_rfl) (by simp) ?_
                          refine AllReadyH.cons rfl (fun K hK => ?_) AllReadyH.nil
                          try simp only [Act.put, List.getElem_toArray, List.getElem_cons_succ, List.getElem_cons_zero, List.setIfInBounds_toArray, List.set_cons_zero, List.set_cons_succ]
                          rw [if_pos (by rfl)]
                          go_simp
                          refine (CUT.out pw _).mono ?_
                          rintro e' w' ⟨rfl, rfl⟩
                          refine hK.out _ _ hHeld (fun hHeld => ?_)
                          clear hK K
                          try simp only [Act.put, List.getElem_toArray, List.getElem_cons_succ, List.getElem_cons_zero, List.setIfInBounds_toArray, List.set_cons_zero, List.set_cons_succ]
                          refine wpAnyH_take (i := 11) (v := .agg #[.int .i64 (pa : Int), .int .i64 (cut a), .int .i64 (cut pw), .string pt]) rfl (by kernel_rfl) (by kernel_rfl) (by kernel_rfl) (fun _ _ _ h => h) (y_run (by rfl) (fun w _ => by unfold execOp; go_simp)) hHeld ?_
                          try simp only [Act.put, List.getElem_toArray, List.getElem_cons_succ, List.getElem_cons_zero, List.setIfInBounds_toArray, List.set_cons_zero, List.set_cons_succ]
                          refine wpAnyH_ready (rs := [12]) (by kernel_rfl) (by simp) ?_
                          refine AllReadyH.cons rfl (fun K hK => ?_) AllReadyH.nil
                          try simp only [Act.put, List.getElem_toArray, List.getElem_cons_succ, List.getElem_cons_zero, List.setIfInBounds_toArray, List.set_cons_zero, List.set_cons_succ]
                          rw [if_pos (by rfl)]
                          go_simp
                          refine hK.out _ _ (blk_below hHeld (below_alloc (Below.refl _ _) _)) (fun hHeld => ?_)
                          clear hK K
                          try simp only [Act.put, List.getElem_toArray, List.getElem_cons_succ, List.getElem_cons_zero, List.setIfInBounds_toArray, List.set_cons_zero, List.set_cons_succ]
                          refine wpAnyH_ready (rs := [13]) (by kernel_rfl) (by simp) ?_
                          refine AllReadyH.cons rfl (fun K hK => ?_) AllReadyH.nil
                          try simp only [Act.put, List.getElem_toArray, List.getElem_cons_succ, List.getElem_cons_zero, List.setIfInBounds_toArray, List.set_cons_zero, List.set_cons_succ]
                          rw [if_pos (by rfl)]
                          refine append_wp k41 (w0 := w) (W := W10.drew) w.heap.size ?_ (.tmp 173) (.tmp 184) 37 41 _ 40 ?_ Try.underlying37 infoLP rfl (by decide) (by decide) (.slice Av P.length cv) P ⟨(pa : Int), cut a, cut pw, pt⟩ [.int .i64 (pa : Int), .int .i64 (cut a), .int .i64 (cut pw), .string pt] (fun i => w.heap.size ≤ i) (fun _ => False) ?_ ?_ (k41_mkM _ _ _ ⟨(pa : Int), cut a, cut pw, pt⟩) (fun _ h => h.elim) (fun i hi => Nat.le_trans B2.out.size hi) P2.out B2.out B2.out.size (by omega) ?_
                          · rfl
                          · rfl
                          · rfl
                          · rfl
                          intro v1 w6 hO1 hB1 hG1
                          obtain ⟨A1, c1, hv1, hc1, -⟩ := Kd.R_reads hO1
                          generalize hm1 : (P ++ [(⟨(pa : Int), cut a, cut pw, pt⟩ : LP)]).length = m1 at hv1 hc1
                          subst hv1
                          obtain ⟨f1, f2, f3, f4, f5⟩ := FIN.out _ w6 hO1 hB1 hG1
                          have F5 := Lib.hid f5
                          refine hK.out _ _ f1 (fun hHeld => ?_)
                          clear hK K
                          try simp only [Act.put, List.getElem_toArray, List.getElem_cons_succ, List.getElem_cons_zero, List.setIfInBounds_toArray, List.set_cons_zero, List.set_cons_succ]
                          clear f5
                          refine wpAnyH_take (i := 14) (v := .pointer (some ⟨bx, 5, none⟩)) rfl (by kernel_rfl) (by kernel_rfl) (by kernel_rfl) (fun _ _ _ h => h) (y_run (by rfl) (fun w _ => by unfold execOp; go_simp)) hHeld ?_
                          try simp only [Act.put, List.getElem_toArray, List.getElem_cons_succ, List.getElem_cons_zero, List.setIfInBounds_toArray, List.set_cons_zero, List.set_cons_succ]
                          refine wpAnyH_ready (rs := [15]) (by kernel_rfl) (by simp) ?_
                          refine AllReadyH.cons rfl (fun K hK => ?_) AllReadyH.nil
                          try simp only [Act.put, List.getElem_toArray, List.getElem_cons_succ, List.getElem_cons_zero, List.setIfInBounds_toArray, List.set_cons_zero, List.set_cons_succ]
                          rw [if_pos (by rfl)]
                          go_simp
                          refine hK.out _ _ f4 (fun hHeld => ?_)
                          clear hK K
                          try simp only [Act.put, List.getElem_toArray, List.getElem_cons_succ, List.getElem_cons_zero, List.setIfInBounds_toArray, List.set_cons_zero, List.set_cons_succ]
                          refine wpAnyH_done (by kernel_rfl) ?_ _
                          clear hHeld
                          go_wp2_with fail
                          go_meet
                          case rel => exact ⟨rfl, _, P ++ [(⟨(pa : Int), cut a, cut pw, pt⟩ : LP)], by show _ = _; rw [if_neg e5.out], F5.out.1, F5.out.2.1, F5.out.2.2.1, F5.out.2.2.2.1, F5.out.2.2.2.2, f4⟩
                        · skip
                          try simp only [Act.put, List.getElem_toArray, List.getElem_cons_succ, List.getElem_cons_zero, List.setIfInBounds_toArray, List.set_cons_zero, List.set_cons_succ]
                          rw [if_pos (by rfl)]
                          go_simp
                          refine (CUT.out pw _).mono ?_
                          rintro e' w' ⟨rfl, rfl⟩
                          refine hK.out _ _ hHeld (fun hHeld => ?_)
                          clear hK K
                          try simp only [Act.put, List.getElem_toArray, List.getElem_cons_succ, List.getElem_cons_zero, List.setIfInBounds_toArray, List.set_cons_zero, List.set_cons_succ]
                          refine wpAnyH_take (i := 11) (v := .agg #[.int .i64 (pa : Int), .int .i64 (cut a), .int .i64 (cut pw), .string pt]) rfl (by kernel_rfl) (by kernel_rfl) (by kernel_rfl) (fun _ _ _ h => h) (y_run (by rfl) (fun w _ => by unfold execOp; go_simp)) hHeld ?_
                          try simp only [Act.put, List.getElem_toArray, List.getElem_cons_succ, List.getElem_cons_zero, List.setIfInBounds_toArray, List.set_cons_zero, List.set_cons_succ]
                          refine wpAnyH_ready (rs := [1, 12]) (by kernel_rfl) (by simp) ?_
                          refine AllReadyH.cons rfl (fun K hK => ?_) (AllReadyH.cons rfl (fun K hK => ?_) AllReadyH.nil)
                          · skip
                            try simp only [Act.put, List.getElem_toArray, List.getElem_cons_succ, List.getElem_cons_zero, List.setIfInBounds_toArray, List.set_cons_zero, List.set_cons_succ]
                            rw [if_pos (by rfl)]
                            go_simp
                            refine hK.out _ _ hHeld (fun hHeld => ?_)
                            clear hK K
                            try simp only [Act.put, List.getElem_toArray, List.getElem_cons_succ, List.getElem_cons_zero, List.setIfInBounds_toArray, List.set_cons_zero, List.set_cons_succ]
                            refine wpAnyH_ready (rs := [12]) (by kernel_rfl) (by simp) ?_
                            refine AllReadyH.cons rfl (fun K hK => ?_) AllReadyH.nil
                            try simp only [Act.put, List.getElem_toArray, List.getElem_cons_succ, List.getElem_cons_zero, List.setIfInBounds_toArray, List.set_cons_zero, List.set_cons_succ]
                            rw [if_pos (by rfl)]
                            go_simp
                            refine hK.out _ _ (blk_below hHeld (below_alloc (Below.refl _ _) _)) (fun hHeld => ?_)
                            clear hK K
                            try simp only [Act.put, List.getElem_toArray, List.getElem_cons_succ, List.getElem_cons_zero, List.setIfInBounds_toArray, List.set_cons_zero, List.set_cons_succ]
                            refine wpAnyH_ready (rs := [13]) (by kernel_rfl) (by simp) ?_
                            refine AllReadyH.cons rfl (fun K hK => ?_) AllReadyH.nil
                            try simp only [Act.put, List.getElem_toArray, List.getElem_cons_succ, List.getElem_cons_zero, List.setIfInBounds_toArray, List.set_cons_zero, List.set_cons_succ]
                            rw [if_pos (by rfl)]
                            refine append_wp k41 (w0 := w) (W := W10.drew) w.heap.size ?_ (.tmp 173) (.tmp 184) 37 41 _ 40 ?_ Try.underlying37 infoLP rfl (by decide) (by decide) (.slice Av P.length cv) P ⟨(pa : Int), cut a, cut pw, pt⟩ [.int .i64 (pa : Int), .int .i64 (cut a), .int .i64 (cut pw), .string pt] (fun i => w.heap.size ≤ i) (fun _ => False) ?_ ?_ (k41_mkM _ _ _ ⟨(pa : Int), cut a, cut pw, pt⟩) (fun _ h => h.elim) (fun i hi => Nat.le_trans B2.out.size hi) P2.out B2.out B2.out.size (by omega) ?_
                            · rfl
                            · rfl
                            · rfl
                            · rfl
                            intro v1 w6 hO1 hB1 hG1
                            obtain ⟨A1, c1, hv1, hc1, -⟩ := Kd.R_reads hO1
                            generalize hm1 : (P ++ [(⟨(pa : Int), cut a, cut pw, pt⟩ : LP)]).length = m1 at hv1 hc1
                            subst hv1
                            obtain ⟨f1, f2, f3, f4, f5⟩ := FIN.out _ w6 hO1 hB1 hG1
                            have F5 := Lib.hid f5
                            refine hK.out _ _ f1 (fun hHeld => ?_)
                            clear hK K
                            try simp only [Act.put, List.getElem_toArray, List.getElem_cons_succ, List.getElem_cons_zero, List.setIfInBounds_toArray, List.set_cons_zero, List.set_cons_succ]
                            clear f5
                            refine wpAnyH_take (i := 14) (v := .pointer (some ⟨bx, 5, none⟩)) rfl (by kernel_rfl) (by kernel_rfl) (by kernel_rfl) (fun _ _ _ h => h) (y_run (by rfl) (fun w _ => by unfold execOp; go_simp)) hHeld ?_
                            try simp only [Act.put, List.getElem_toArray, List.getElem_cons_succ, List.getElem_cons_zero, List.setIfInBounds_toArray, List.set_cons_zero, List.set_cons_succ]
                            refine wpAnyH_ready (rs := [15]) (by kernel_rfl) (by simp) ?_
                            refine AllReadyH.cons rfl (fun K hK => ?_) AllReadyH.nil
                            try simp only [Act.put, List.getElem_toArray, List.getElem_cons_succ, List.getElem_cons_zero, List.setIfInBounds_toArray, List.set_cons_zero, List.set_cons_succ]
                            rw [if_pos (by rfl)]
                            go_simp
                            refine hK.out _ _ f4 (fun hHeld => ?_)
                            clear hK K
                            try simp only [Act.put, List.getElem_toArray, List.getElem_cons_succ, List.getElem_cons_zero, List.setIfInBounds_toArray, List.set_cons_zero, List.set_cons_succ]
                            refine wpAnyH_done (by kernel_rfl) ?_ _
                            clear hHeld
                            go_wp2_with fail
                            go_meet
                            case rel => exact ⟨rfl, _, P ++ [(⟨(pa : Int), cut a, cut pw, pt⟩ : LP)], by show _ = _; rw [if_neg e5.out], F5.out.1, F5.out.2.1, F5.out.2.2.1, F5.out.2.2.2.1, F5.out.2.2.2.2, f4⟩
                          · skip
                            try simp only [Act.put, List.getElem_toArray, List.getElem_cons_succ, List.getElem_cons_zero, List.setIfInBounds_toArray, List.set_cons_zero, List.set_cons_succ]
                            rw [if_pos (by rfl)]
                            go_simp
                            refine hK.out _ _ (blk_below hHeld (below_alloc (Below.refl _ _) _)) (fun hHeld => ?_)
                            clear hK K
                            try simp only [Act.put, List.getElem_toArray, List.getElem_cons_succ, List.getElem_cons_zero, List.setIfInBounds_toArray, List.set_cons_zero, List.set_cons_succ]
                            refine wpAnyH_ready (rs := [1]) (by kernel_rfl) (by simp) ?_
                            refine AllReadyH.cons rfl (fun K hK => ?_) AllReadyH.nil
                            try simp only [Act.put, List.getElem_toArray, List.getElem_cons_succ, List.getElem_cons_zero, List.setIfInBounds_toArray, List.set_cons_zero, List.set_cons_succ]
                            rw [if_pos (by rfl)]
                            have x5b := (World.cell?_alloc_lt W10 (.cells #[.int .i64 (pa : Int), .int .i64 (cut a), .int .i64 (cut pw), .string pt] 41) _ (World.block_lt_of_cell? _ _ x5)).trans x5
                            go_simp
                            refine hK.out _ _ hHeld (fun hHeld => ?_)
                            clear hK K
                            try simp only [Act.put, List.getElem_toArray, List.getElem_cons_succ, List.getElem_cons_zero, List.setIfInBounds_toArray, List.set_cons_zero, List.set_cons_succ]
                            refine wpAnyH_ready (rs := [13]) (by kernel_rfl) (by simp) ?_
                            refine AllReadyH.cons rfl (fun K hK => ?_) AllReadyH.nil
                            try simp only [Act.put, List.getElem_toArray, List.getElem_cons_succ, List.getElem_cons_zero, List.setIfInBounds_toArray, List.set_cons_zero, List.set_cons_succ]
                            rw [if_pos (by rfl)]
                            refine append_wp k41 (w0 := w) (W := W10.drew) w.heap.size ?_ (.tmp 173) (.tmp 184) 37 41 _ 40 ?_ Try.underlying37 infoLP rfl (by decide) (by decide) (.slice Av P.length cv) P ⟨(pa : Int), cut a, cut pw, pt⟩ [.int .i64 (pa : Int), .int .i64 (cut a), .int .i64 (cut pw), .string pt] (fun i => w.heap.size ≤ i) (fun _ => False) ?_ ?_ (k41_mkM _ _ _ ⟨(pa : Int), cut a, cut pw, pt⟩) (fun _ h => h.elim) (fun i hi => Nat.le_trans B2.out.size hi) P2.out B2.out B2.out.size (by omega) ?_
                            · rfl
                            · rfl
                            · rfl
                            · rfl
                            intro v1 w6 hO1 hB1 hG1
                            obtain ⟨A1, c1, hv1, hc1, -⟩ := Kd.R_reads hO1
                            generalize hm1 : (P ++ [(⟨(pa : Int), cut a, cut pw, pt⟩ : LP)]).length = m1 at hv1 hc1
                            subst hv1
                            obtain ⟨f1, f2, f3, f4, f5⟩ := FIN.out _ w6 hO1 hB1 hG1
                            have F5 := Lib.hid f5
                            refine hK.out _ _ f1 (fun hHeld => ?_)
                            clear hK K
                            try simp only [Act.put, List.getElem_toArray, List.getElem_cons_succ, List.getElem_cons_zero, List.setIfInBounds_toArray, List.set_cons_zero, List.set_cons_succ]
                            clear f5
                            refine wpAnyH_take (i := 14) (v := .pointer (some ⟨bx, 5, none⟩)) rfl (by kernel_rfl) (by kernel_rfl) (by kernel_rfl) (fun _ _ _ h => h) (y_run (by rfl) (fun w _ => by unfold execOp; go_simp)) hHeld ?_
                            try simp only [Act.put, List.getElem_toArray, List.getElem_cons_succ, List.getElem_cons_zero, List.setIfInBounds_toArray, List.set_cons_zero, List.set_cons_succ]
                            refine wpAnyH_ready (rs := [15]) (by kernel_rfl) (by simp) ?_
                            refine AllReadyH.cons rfl (fun K hK => ?_) AllReadyH.nil
                            try simp only [Act.put, List.getElem_toArray, List.getElem_cons_succ, List.getElem_cons_zero, List.setIfInBounds_toArray, List.set_cons_zero, List.set_cons_succ]
                            rw [if_pos (by rfl)]
                            go_simp
                            refine hK.out _ _ f4 (fun hHeld => ?_)
                            clear hK K
                            try simp only [Act.put, List.getElem_toArray, List.getElem_cons_succ, List.getElem_cons_zero, List.setIfInBounds_toArray, List.set_cons_zero, List.set_cons_succ]
                            refine wpAnyH_done (by kernel_rfl) ?_ _
                            clear hHeld
                            go_wp2_with fail
                            go_meet
                            case rel => exact ⟨rfl, _, P ++ [(⟨(pa : Int), cut a, cut pw, pt⟩ : LP)], by show _ = _; rw [if_neg e5.out], F5.out.1, F5.out.2.1, F5.out.2.2.1, F5.out.2.2.2.1, F5.out.2.2.2.2, f4⟩
                  case rest =>
                    obtain ⟨rfl, v', P', hP', hX2, hR2, hG2, hT2, hB2, hQ2⟩ := hcut
                    have y3 := blk_cell hQ2.out 3
                    simp only [List.getElem?_toArray, List.getElem?_cons_zero, List.getElem?_cons_succ] at y3
                    have yg := HC1.out _ hG2.out
                    have HS2 : Hid (pcsP l T gs (j + 1) = (a + (pw + gj), P')) := Lib.hid (by rw [HST.out, ← hP'.out])
                    clear X1 P1 G1 R1 B1 s0 Q1 HST
                    go_wp2_with fail
                    go_quiet (fail)
                    have dn := pw_below_drewN (Below.refl wc.heap.size wc) nq
                    go_wp2_with fail
                    go_roundw
                    case rel => exact ⟨j + 1, v', by omega, by go_num, by rw [HS2.out], blk_below hX2.out dn, by rw [HS2.out]; exact Kd.R_below hR2.out dn, pw_own_below hG2.out dn, Kd.R_below hT2.out dn, below_then hB2.out hB2.out.size dn⟩
                    case measure => simp [RowKit.intOf]; omega
                · obtain rfl : j = k := by omega
                  obtain ⟨at9, ha9⟩ : ∃ at9, (pcsP l T gs j).1 = at9 := ⟨_, rfl⟩
                  obtain ⟨P9, hP9⟩ : ∃ P9, (pcsP l T gs j).2 = P9 := ⟨_, rfl⟩
                  rw [ha9] at hav
                  rw [hP9] at hP
                  subst hav
                  obtain ⟨Av, cv, rfl, hcv, -⟩ := Kd.R_reads hP.out
                  have HA9 := Lib.hid ha9
                  have HP9 := Lib.hid hP9
                  have X11 := Lib.hid (blk_drew hX.out)
                  have P11 := Lib.hid (Kd.R_drew hP.out)
                  have B11 := Lib.hid hB.out.drew
                  have CUT : Hid (∀ (n : Int) W, Calls Try.prog 17 #[.int .i64 n] W fun e w'' => e = .returned (.int .i64 (cut n)) ∧ w'' = W) := Lib.hid (fun n W => (Cut_c n W).mono fun e w' h => ⟨h.1, h.2.symm⟩)
                  clear ha9 hP9 hX hP hG hR hB hGr hXr hRr hBr PB GB GL TMD
                  go_wp2_with fail
                  refine wp_region_still_tail 15 (by kernel_rfl) (by kernel_rfl) ?_
                  simp only [List.take_succ_cons, List.take_zero, List.drop_succ_cons, List.drop_zero]
                  change wpStill _ _ (World.drew wr) (fun a' => wpList _ _ _ _ a' (World.drew wr)) _ _
                  generalize wr.drew = W11 at *
                  have x0 : W11.cell? ⟨bx, 0, none⟩ = some (.int .i64 sX) := blk_cell X11.out 0
                  have x1 : W11.cell? ⟨bx, 1, none⟩ = some (.int .i64 sy) := blk_cell X11.out 1
                  have x2 : W11.cell? ⟨bx, 2, none⟩ = some (.int .i64 0) := blk_cell X11.out 2
                  have x3 : W11.cell? ⟨bx, 3, none⟩ = some (.int .i64 hg) := blk_cell X11.out 3
                  have x4 : W11.cell? ⟨bx, 4, none⟩ = some (.int .i64 bs) := blk_cell X11.out 4
                  have xf : ∀ i, W11.frozen? ⟨bx, i, none⟩ = false := fun i => blk_frozen X11.out i
                  still_step
                  still_step
                  still_call (CUT.out _ _)
                  still_step
                  still_call (CUT.out _ _)
                  still_step
                  still_step
                  still_call (CUT.out _ _)
                  still_step
                  still_step
                  still_call (CUT.out _ _)
                  still_step
                  still_step
                  still_call (CUT.out _ _)
                  still_step
                  refine wpStill_nil ?_
                  have X12 := Lib.hid (set1 (set1 (set1 (set1 (set1 X11.out 0 (.int .i64 (cut sX))) 2 (.int .i64 (cut at9))) 1 (.int .i64 (cut sy))) 3 (.int .i64 (cut hg))) 4 (.int .i64 (cut bs)))
                  have B12 := Lib.hid (((((B11.out.setCell (p := ⟨bx, 0, none⟩) hbxw (.int .i64 (cut sX))).setCell (p := ⟨bx, 2, none⟩) hbxw (.int .i64 (cut at9))).setCell (p := ⟨bx, 1, none⟩) hbxw (.int .i64 (cut sy))).setCell (p := ⟨bx, 3, none⟩) hbxw (.int .i64 (cut hg))).setCell (p := ⟨bx, 4, none⟩) hbxw (.int .i64 (cut bs)))
                  have P12 := Lib.hid (Kd.R_set (Kd.R_set (Kd.R_set (Kd.R_set (Kd.R_set P11.out X11.out (by decide) 0 (.int .i64 (cut sX))) (set1 X11.out 0 _) (by decide) 2 (.int .i64 (cut at9))) (set1 (set1 X11.out 0 _) 2 _) (by decide) 1 (.int .i64 (cut sy))) (set1 (set1 (set1 X11.out 0 _) 2 _) 1 _) (by decide) 3 (.int .i64 (cut hg))) (set1 (set1 (set1 (set1 X11.out 0 _) 2 _) 1 _) 3 _) (by decide) 4 (.int .i64 (cut bs)))
                  go_upto_region 36 with fail
                  obtain ⟨W12, hW12⟩ : ∃ W12, (((((W11.setCell ⟨bx, 0, none⟩ (.int .i64 (cut sX))).setCell ⟨bx, 2, none⟩ (.int .i64 (cut at9))).setCell ⟨bx, 1, none⟩ (.int .i64 (cut sy))).setCell ⟨bx, 3, none⟩ (.int .i64 (cut hg))).setCell ⟨bx, 4, none⟩ (.int .i64 (cut bs))) = W12 := ⟨_, rfl⟩
                  rw [hW12] at X12 B12 P12 ⊢
                  have X13 : Hid (W12.drew.heap[bx]? = some (.cells #[.int .i64 (cut sX), .int .i64 (cut sy), .int .i64 (cut at9), .int .i64 (cut hg), .int .i64 (cut bs), .slice Av P9.length cv, .bool last] 39 (0, 0))) := Lib.hid (blk_drew X12.out)
                  have P13 := Lib.hid (Kd.R_drew P12.out)
                  have B13 := Lib.hid B12.out.drew
                  clear hW12 X11 X12 P11 P12 B11 x0 x1 x2 x3 x4 xf CUT
                  have RO13 := Lib.hid (Kd.R_below RO.out B13.out)
                  have RL13 := Lib.hid (Kd.R_below RL.out B13.out)
                  have BB13 := Lib.hid (CB.out _ B13.out)
                  have hb0w : b0 ≤ w.heap.size := B0L.out
                  have hlt := Kd.R_lt RO.out
                  have c11 := (bkAt BB13.out).2.2.2.2.2
                  obtain ⟨Ao, co, rfl, hco, -⟩ := Kd.R_reads RO.out
                  have OLT := Lib.hid hlt
                  have OLL := OL.out
                  have hbbw := blk_lt (CB.out w (Below.refl _ _))
                  have FIN : Hid (∀ v1 w6, Kd.R k39 39 w6 b0 (fun _ => True) v1 (s.out ++ [(⟨cut sX, cut sy, cut at9, cut hg, cut bs, P9, last⟩ : LL)]) → Below b0 W12.drew w6 → W12.drew.grownBy w6 (.slice Ao s.out.length co : Value).ownBlock →
                      w6.heap[bx]? = some (.cells #[.int .i64 (cut sX), .int .i64 (cut sy), .int .i64 (cut at9), .int .i64 (cut hg), .int .i64 (cut bs), .slice Av P9.length cv, .bool last] 39 (0, 0)) ∧ w6.cell? ⟨bb, 11, none⟩ = some (.slice Ao s.out.length co) ∧ (∀ i, w6.frozen? ⟨bb, i, none⟩ = false) ∧ (w6.setCell ⟨bb, 11, none⟩ v1).heap[bx]? = some (.cells #[.int .i64 (cut sX), .int .i64 (cut sy), .int .i64 (cut at9), .int .i64 (cut hg), .int .i64 (cut bs), .slice Av P9.length cv, .bool last] 39 (0, 0)) ∧ (w6.setCell ⟨bb, 11, none⟩ v1).cell? ⟨bb, 1, none⟩ = some (.int .i64 sy) ∧ (∀ i, (w6.setCell ⟨bb, 11, none⟩ v1).frozen? ⟨bb, i, none⟩ = false) ∧
                      IsB ad bb K W0 (tellS K l s last) ((w6.setCell ⟨bb, 11, none⟩ v1).setCell ⟨bb, 1, none⟩ (.int .i64 (wrap64 (sy + hg))))) := Lib.hid fun v1 w6 h1 h2 h3 => by
                    have hnx : ∀ x, w.heap.size ≤ x → some x ≠ (.slice Ao s.out.length co : Value).ownBlock := fun x hx e => by have := OLT.out x e.symm; omega
                    have hX6 := blk_grown X13.out h3 (hnx bx hbxw)
                    have hB6 := blk_grown BB13.out h3 (Kd.R_ne RO13.out BB13.out (by decide))
                    have hL6 := Kd.R_over RL13.out RO13.out (ptNe ad) h3
                    have hB7 := set1 hB6 11 v1
                    have hne : bx ≠ bb := by omega
                    have hX7 := blk_grown hX6 (grown_cell w6 bb 11 v1) (by simp; exact hne)
                    have hB8 := set1 hB7 1 (.int .i64 (wrap64 (sy + hg)))
                    have hL8 := Kd.R_set (Kd.R_set hL6 hB6 (ptNe3 ad) 11 v1) hB7 (ptNe3 ad) 1 (.int .i64 (wrap64 (sy + hg)))
                    have hO8 := Kd.R_set (Kd.R_set h1 hB6 (by decide) 11 v1) hB7 (by decide) 1 (.int .i64 (wrap64 (sy + hg)))
                    refine ⟨hX6, blk_cell hB6 11, fun i => blk_frozen hB6 i, hX7, ?_, fun i => blk_frozen hB7 i, ?_⟩
                    · have := blk_cell hB7 1
                      rw [← HSY.out]; exact this
                    · refine ⟨_, v1, ?_, by rw [B0E.out]; exact hL8, ?_, ((grown_then (grown_below BW.out B13.out) (by rw [B0E.out]; exact h2)).trans (grown_cell _ bb 11 v1)).trans (grown_cell _ bb 1 _)⟩
                      · rw [hB8]
                        unfold bkV tellS
                        simp only [HSY.out, HHG.out]
                        rfl
                      · have e : (tellS K l s last).out = s.out ++ [(⟨cut sX, cut sy, cut at9, cut hg, cut bs, P9, last⟩ : LL)] := by
                          unfold tellS lineP
                          simp only [HSL.out, HSX.out, HSY.out, HGS.out, HTT.out, LN.out, HA9.out, HP9.out, HHG.out, HBS.out]
                        rw [e, B0E.out]
                        exact hO8
                  have PM := Lib.hid (k39_mkM W12.drew b0 (fun i => w.heap.size ≤ i) (⟨cut sX, cut sy, cut at9, cut hg, cut bs, P9, last⟩ : LL) (v5 := .slice Av P9.length cv) (Kd.R_lower P13.out hb0w))
                  simp only at PM
                  clear P13 RL13 RL B12
                  go_wp2_with fail
                  refine wp_region_held_drew (S := fun W => W.heap[bx]? = some (.cells #[.int .i64 (cut sX), .int .i64 (cut sy), .int .i64 (cut at9), .int .i64 (cut hg), .int .i64 (cut bs), .slice Av P9.length cv, .bool last] 39 (0, 0))) (by kernel_rfl) X13.out (fun hHeld => ?_)
                  refine wpAnyH_take (i := 0) (v := .pointer (some ⟨bb, 0, none⟩)) rfl (by kernel_rfl) (by kernel_rfl) (by kernel_rfl) (fun _ _ _ h => h) (y_move (by rfl) rfl rfl) hHeld ?_
                  try simp only [Act.put, List.getElem_toArray, List.getElem_cons_succ, List.getElem_cons_zero, List.setIfInBounds_toArray, List.set_cons_zero, List.set_cons_succ]
                  refine wpAnyH_take (i := 1) (v := .pointer (some ⟨bb, 0, none⟩)) rfl (by kernel_rfl) (by kernel_rfl) (by kernel_rfl) (fun _ _ _ h => h) (y_move (by rfl) rfl rfl) hHeld ?_
                  try simp only [Act.put, List.getElem_toArray, List.getElem_cons_succ, List.getElem_cons_zero, List.setIfInBounds_toArray, List.set_cons_zero, List.set_cons_succ]
                  refine wpAnyH_take (i := 2) (v := .pointer (some ⟨bb, 0, none⟩)) rfl (by kernel_rfl) (by kernel_rfl) (by kernel_rfl) (fun _ _ _ h => h) (y_run (by rfl) (fun w _ => by unfold execOp; go_simp)) hHeld ?_
                  try simp only [Act.put, List.getElem_toArray, List.getElem_cons_succ, List.getElem_cons_zero, List.setIfInBounds_toArray, List.set_cons_zero, List.set_cons_succ]
                  refine wpAnyH_take (i := 3) (v := .pointer (some ⟨bb, 11, none⟩)) rfl (by kernel_rfl) (by kernel_rfl) (by kernel_rfl) (fun _ _ _ h => h) (y_run (by rfl) (fun w _ => by unfold execOp; go_simp)) hHeld ?_
                  try simp only [Act.put, List.getElem_toArray, List.getElem_cons_succ, List.getElem_cons_zero, List.setIfInBounds_toArray, List.set_cons_zero, List.set_cons_succ]
                  refine wpAnyH_take (i := 5) (v := .agg #[.int .i64 (cut sX), .int .i64 (cut sy), .int .i64 (cut at9), .int .i64 (cut hg), .int .i64 (cut bs), .slice Av P9.length cv, .bool last]) rfl (by kernel_rfl) (by kernel_rfl) (by kernel_rfl) (fun _ _ _ h => h) (y_run (by rfl) (fun w h => by have c0 : w.cell? ⟨bx, 0, none⟩ = some (.int .i64 (cut sX)) := blk_cell h 0; have c1 : w.cell? ⟨bx, 1, none⟩ = some (.int .i64 (cut sy)) := blk_cell h 1; have c2 : w.cell? ⟨bx, 2, none⟩ = some (.int .i64 (cut at9)) := blk_cell h 2; have c3 : w.cell? ⟨bx, 3, none⟩ = some (.int .i64 (cut hg)) := blk_cell h 3; have c4 : w.cell? ⟨bx, 4, none⟩ = some (.int .i64 (cut bs)) := blk_cell h 4; have c5 : w.cell? ⟨bx, 5, none⟩ = some (.slice Av P9.length cv) := blk_cell h 5; have c6 : w.cell? ⟨bx, 6, none⟩ = some (.bool last) := blk_cell h 6; unfold execOp; go_simp)) hHeld ?_
                  try simp only [Act.put, List.getElem_toArray, List.getElem_cons_succ, List.getElem_cons_zero, List.setIfInBounds_toArray, List.set_cons_zero, List.set_cons_succ]
                  refine wpAnyH_ready (rs := [4, 6]) (by kernel_rfl) (by simp) ?_
                  refine AllReadyH.cons rfl (fun K hK => ?_) (AllReadyH.cons rfl (fun K hK => ?_) AllReadyH.nil)
                  · skip
                    try simp only [Act.put, List.getElem_toArray, List.getElem_cons_succ, List.getElem_cons_zero, List.setIfInBounds_toArray, List.set_cons_zero, List.set_cons_succ]
                    rw [if_pos (by rfl)]
                    go_simp
                    refine hK.out _ _ hHeld (fun hHeld => ?_)
                    clear hK K
                    try simp only [Act.put, List.getElem_toArray, List.getElem_cons_succ, List.getElem_cons_zero, List.setIfInBounds_toArray, List.set_cons_zero, List.set_cons_succ]
                    refine wpAnyH_ready (rs := [6]) (by kernel_rfl) (by simp) ?_
                    refine AllReadyH.cons rfl (fun K hK => ?_) AllReadyH.nil
                    try simp only [Act.put, List.getElem_toArray, List.getElem_cons_succ, List.getElem_cons_zero, List.setIfInBounds_toArray, List.set_cons_zero, List.set_cons_succ]
                    rw [if_pos (by rfl)]
                    go_simp
                    refine hK.out _ _ (blk_below hHeld (below_alloc (Below.refl _ _) _)) (fun hHeld => ?_)
                    clear hK K
                    try simp only [Act.put, List.getElem_toArray, List.getElem_cons_succ, List.getElem_cons_zero, List.setIfInBounds_toArray, List.set_cons_zero, List.set_cons_succ]
                    refine wpAnyH_ready (rs := [7]) (by kernel_rfl) (by simp) ?_
                    refine AllReadyH.cons rfl (fun K hK => ?_) AllReadyH.nil
                    try simp only [Act.put, List.getElem_toArray, List.getElem_cons_succ, List.getElem_cons_zero, List.setIfInBounds_toArray, List.set_cons_zero, List.set_cons_succ]
                    rw [if_pos (by rfl)]
                    refine append_wp k39 (w0 := W12.drew) (W := W12.drew) b0 ?_ (.tmp 220) (.tmp 222) 33 39 _ 72 ?_ Try.underlying33 infoLL rfl (by decide) (by decide) (.slice Ao s.out.length co) s.out ⟨cut sX, cut sy, cut at9, cut hg, cut bs, P9, last⟩ [.int .i64 (cut sX), .int .i64 (cut sy), .int .i64 (cut at9), .int .i64 (cut hg), .int .i64 (cut bs), .slice Av P9.length cv, .bool last] (fun _ => True) (fun i => w.heap.size ≤ i) ?_ ?_ PM.out (fun i hi => ⟨trivial, fun e => by have := OLT.out i e.symm; omega⟩) (fun _ _ => trivial) RO13.out (Below.refl _ _) (Nat.le_trans hb0w B13.out.size) (by omega) ?_
                    · rfl
                    · rfl
                    · rfl
                    · rfl
                    intro v1 w6 hO1 hB1 hG1
                    obtain ⟨A1, c1, hv1, hc1, -⟩ := Kd.R_reads hO1
                    generalize hm1 : (s.out ++ [(⟨cut sX, cut sy, cut at9, cut hg, cut bs, P9, last⟩ : LL)]).length = m1 at hv1 hc1
                    subst hv1
                    obtain ⟨f1, f2, f3, f4, f5, f6, f7⟩ := FIN.out _ w6 hO1 hB1 hG1
                    have F7 := Lib.hid f7
                    refine hK.out _ _ f1 (fun hHeld => ?_)
                    clear hK K
                    try simp only [Act.put, List.getElem_toArray, List.getElem_cons_succ, List.getElem_cons_zero, List.setIfInBounds_toArray, List.set_cons_zero, List.set_cons_succ]
                    clear f7
                    refine wpAnyH_take (i := 8) (v := .pointer (some ⟨bb, 0, none⟩)) rfl (by kernel_rfl) (by kernel_rfl) (by kernel_rfl) (fun _ _ _ h => h) (y_run (by rfl) (fun w _ => by unfold execOp; go_simp)) hHeld ?_
                    try simp only [Act.put, List.getElem_toArray, List.getElem_cons_succ, List.getElem_cons_zero, List.setIfInBounds_toArray, List.set_cons_zero, List.set_cons_succ]
                    refine wpAnyH_take (i := 9) (v := .pointer (some ⟨bb, 11, none⟩)) rfl (by kernel_rfl) (by kernel_rfl) (by kernel_rfl) (fun _ _ _ h => h) (y_run (by rfl) (fun w _ => by unfold execOp; go_simp)) hHeld ?_
                    try simp only [Act.put, List.getElem_toArray, List.getElem_cons_succ, List.getElem_cons_zero, List.setIfInBounds_toArray, List.set_cons_zero, List.set_cons_succ]
                    refine wpAnyH_ready (rs := [10]) (by kernel_rfl) (by simp) ?_
                    refine AllReadyH.cons rfl (fun K hK => ?_) AllReadyH.nil
                    try simp only [Act.put, List.getElem_toArray, List.getElem_cons_succ, List.getElem_cons_zero, List.setIfInBounds_toArray, List.set_cons_zero, List.set_cons_succ]
                    rw [if_pos (by rfl)]
                    go_simp
                    refine hK.out _ _ f4 (fun hHeld => ?_)
                    clear hK K
                    try simp only [Act.put, List.getElem_toArray, List.getElem_cons_succ, List.getElem_cons_zero, List.setIfInBounds_toArray, List.set_cons_zero, List.set_cons_succ]
                    refine wpAnyH_done (by kernel_rfl) ?_ _
                    clear hHeld
                    clear f1 f2 f3 f4 hO1 hB1 hG1
                    obtain ⟨W13, hW13⟩ : ∃ W13, w6.setCell ⟨bb, 11, none⟩ (.slice A1 m1 c1) = W13 := ⟨_, rfl⟩
                    rw [hW13] at f5 f6 F7 ⊢
                    clear hW13
                    go_wp2_with fail
                    go_end0
                    exact ⟨rfl, F7.out⟩
                  · skip
                    try simp only [Act.put, List.getElem_toArray, List.getElem_cons_succ, List.getElem_cons_zero, List.setIfInBounds_toArray, List.set_cons_zero, List.set_cons_succ]
                    rw [if_pos (by rfl)]
                    go_simp
                    refine hK.out _ _ (blk_below hHeld (below_alloc (Below.refl _ _) _)) (fun hHeld => ?_)
                    clear hK K
                    try simp only [Act.put, List.getElem_toArray, List.getElem_cons_succ, List.getElem_cons_zero, List.setIfInBounds_toArray, List.set_cons_zero, List.set_cons_succ]
                    refine wpAnyH_ready (rs := [4]) (by kernel_rfl) (by simp) ?_
                    refine AllReadyH.cons rfl (fun K hK => ?_) AllReadyH.nil
                    try simp only [Act.put, List.getElem_toArray, List.getElem_cons_succ, List.getElem_cons_zero, List.setIfInBounds_toArray, List.set_cons_zero, List.set_cons_succ]
                    rw [if_pos (by rfl)]
                    have c11b := fun o => (World.cell?_alloc_lt W12 o _ (World.block_lt_of_cell? _ _ c11)).trans c11
                    go_simp
                    refine hK.out _ _ hHeld (fun hHeld => ?_)
                    clear hK K
                    try simp only [Act.put, List.getElem_toArray, List.getElem_cons_succ, List.getElem_cons_zero, List.setIfInBounds_toArray, List.set_cons_zero, List.set_cons_succ]
                    refine wpAnyH_ready (rs := [7]) (by kernel_rfl) (by simp) ?_
                    refine AllReadyH.cons rfl (fun K hK => ?_) AllReadyH.nil
                    try simp only [Act.put, List.getElem_toArray, List.getElem_cons_succ, List.getElem_cons_zero, List.setIfInBounds_toArray, List.set_cons_zero, List.set_cons_succ]
                    rw [if_pos (by rfl)]
                    refine append_wp k39 (w0 := W12.drew) (W := W12.drew) b0 ?_ (.tmp 220) (.tmp 222) 33 39 _ 72 ?_ Try.underlying33 infoLL rfl (by decide) (by decide) (.slice Ao s.out.length co) s.out ⟨cut sX, cut sy, cut at9, cut hg, cut bs, P9, last⟩ [.int .i64 (cut sX), .int .i64 (cut sy), .int .i64 (cut at9), .int .i64 (cut hg), .int .i64 (cut bs), .slice Av P9.length cv, .bool last] (fun _ => True) (fun i => w.heap.size ≤ i) ?_ ?_ PM.out (fun i hi => ⟨trivial, fun e => by have := OLT.out i e.symm; omega⟩) (fun _ _ => trivial) RO13.out (Below.refl _ _) (Nat.le_trans hb0w B13.out.size) (by omega) ?_
                    · rfl
                    · rfl
                    · rfl
                    · rfl
                    intro v1 w6 hO1 hB1 hG1
                    obtain ⟨A1, c1, hv1, hc1, -⟩ := Kd.R_reads hO1
                    generalize hm1 : (s.out ++ [(⟨cut sX, cut sy, cut at9, cut hg, cut bs, P9, last⟩ : LL)]).length = m1 at hv1 hc1
                    subst hv1
                    obtain ⟨f1, f2, f3, f4, f5, f6, f7⟩ := FIN.out _ w6 hO1 hB1 hG1
                    have F7 := Lib.hid f7
                    refine hK.out _ _ f1 (fun hHeld => ?_)
                    clear hK K
                    try simp only [Act.put, List.getElem_toArray, List.getElem_cons_succ, List.getElem_cons_zero, List.setIfInBounds_toArray, List.set_cons_zero, List.set_cons_succ]
                    clear f7
                    refine wpAnyH_take (i := 8) (v := .pointer (some ⟨bb, 0, none⟩)) rfl (by kernel_rfl) (by kernel_rfl) (by kernel_rfl) (fun _ _ _ h => h) (y_run (by rfl) (fun w _ => by unfold execOp; go_simp)) hHeld ?_
                    try simp only [Act.put, List.getElem_toArray, List.getElem_cons_succ, List.getElem_cons_zero, List.setIfInBounds_toArray, List.set_cons_zero, List.set_cons_succ]
                    refine wpAnyH_take (i := 9) (v := .pointer (some ⟨bb, 11, none⟩)) rfl (by kernel_rfl) (by kernel_rfl) (by kernel_rfl) (fun _ _ _ h => h) (y_run (by rfl) (fun w _ => by unfold execOp; go_simp)) hHeld ?_
                    try simp only [Act.put, List.getElem_toArray, List.getElem_cons_succ, List.getElem_cons_zero, List.setIfInBounds_toArray, List.set_cons_zero, List.set_cons_succ]
                    refine wpAnyH_ready (rs := [10]) (by kernel_rfl) (by simp) ?_
                    refine AllReadyH.cons rfl (fun K hK => ?_) AllReadyH.nil
                    try simp only [Act.put, List.getElem_toArray, List.getElem_cons_succ, List.getElem_cons_zero, List.setIfInBounds_toArray, List.set_cons_zero, List.set_cons_succ]
                    rw [if_pos (by rfl)]
                    go_simp
                    refine hK.out _ _ f4 (fun hHeld => ?_)
                    clear hK K
                    try simp only [Act.put, List.getElem_toArray, List.getElem_cons_succ, List.getElem_cons_zero, List.setIfInBounds_toArray, List.set_cons_zero, List.set_cons_succ]
                    refine wpAnyH_done (by kernel_rfl) ?_ _
                    clear hHeld
                    clear f1 f2 f3 f4 hO1 hB1 hG1
                    obtain ⟨W13, hW13⟩ : ∃ W13, w6.setCell ⟨bb, 11, none⟩ (.slice A1 m1 c1) = W13 := ⟨_, rfl⟩
                    rw [hW13] at f5 f6 F7 ⊢
                    clear hW13
                    go_wp2_with fail
                    go_end0
                    exact ⟨rfl, F7.out⟩
end Go.Proofs.Ytmkgapdadandmaa.Lin
