/- The pieces of a text, whatever it is; how wide parts of tamed items are. -/
import Derived.Test.YtmkgapdadandmaaGroups2
import Derived.Test.YtmkgapdadandmaaPiecesPlain
namespace Go.Proofs.Ytmkgapdadandmaa.Lin
open Go.RowKit Go.Lib Go.Proofs.Ytmkgapdadandmaa.Pl Go.Proofs.Ytmkgapdadandmaa.Fx Go.Proofs.Ytmkgapdadandmaa.Fnt Go.Proofs.Ytmkgapdadandmaa.Brk Go.Proofs.Ytmkgapdadandmaa.Siz Go.Proofs.YtmkgapdadandmaaW.PrintWords Go.Proofs.YtmkgapdadandmaaW.PrintLast Go.Proofs.YtmkgapdadandmaaW.PrintMore
set_option linter.unusedVariables false
set_option linter.unusedSimpArgs false

def PcB (s : ByteArray) (m : Int) (t : List ByteArray) : Prop := s.size ≤ 1000 ∧ ∃ us, Places s (keepsB m) us ∧ t = (piecesP s (us ++ [⟨(s.size : Int), false⟩])).2
theorem step_size {s : ByteArray} {p : Int × List ByteArray} {u : Br} (h : ∀ x, x ∈ p.2 → x.size ≤ s.size) : ∀ x, x ∈ (stepP s p u).2 → x.size ≤ s.size := by
  intro x hx
  unfold stepP at hx
  split at hx
  · rcases List.mem_append.1 hx with hx | hx
    · exact h x hx
    · rw [List.mem_singleton] at hx
      subst hx
      rw [ByteArray.size_extract]
      omega
  · exact h x hx
theorem pieces_size (s : ByteArray) (l : List Br) : ∀ x, x ∈ (piecesP s l).2 → x.size ≤ s.size := by
  have key : ∀ (l : List Br) (p : Int × List ByteArray), (∀ x, x ∈ p.2 → x.size ≤ s.size) → ∀ x, x ∈ (l.foldl (stepP s) p).2 → x.size ≤ s.size := by
    intro l
    induction l with
    | nil => intro p h; exact h
    | cons u l ih => intro p h; exact ih _ (step_size h)
  exact key l (0, []) (fun x hx => by simp at hx)
theorem pcB_ok : PcOK PcB := by
  rintro s m t ⟨hs, us, hP, rfl⟩
  have h0 : ∀ u, u ∈ us ++ [(⟨(s.size : Int), false⟩ : Br)] → 0 ≤ u.f0 ∧ u.f0 ≤ s.size := fun u hu => by
    rcases List.mem_append.1 hu with hu | hu
    · have := hP.2.2.1 u hu; omega
    · rw [List.mem_singleton] at hu; subst hu; exact ⟨by show (0 : Int) ≤ (s.size : Int); omega, by show (s.size : Int) ≤ _; omega⟩
  have h1 := (pieces_bd s _ h0).2.2
  have h2 := hP.1
  rw [List.length_append, List.length_singleton] at h1
  exact ⟨by omega, fun u hu => Nat.le_trans (pieces_size s _ u hu) hs⟩
theorem pieB : PieOK PcB := fun s m w hs =>
  (Pieces_c s m (Places s (keepsB m)) w hs (fun w => All_c s m w hs) (fun us h => ⟨by have := h.1; omega, fun u hu => ⟨by have := (h.2.2.1 u hu).1; omega, (h.2.2.1 u hu).2.1⟩⟩)).mono fun e w' ⟨v, us, he, hR, hP, hB⟩ => ⟨v, _, he, hR, ⟨hs, us, hP, rfl⟩, hB⟩

theorem wsum_nn (f : Nat → Int) (hf : ∀ r, 0 ≤ f r) (n : Nat) : ∀ l : List UInt8, l.length ≤ n → 0 ≤ wsum f l := by
  induction n with
  | zero =>
    intro l hl
    have : l = [] := List.eq_nil_of_length_eq_zero (by omega)
    subst this
    rw [wsum_nil]
    exact Int.le_refl _
  | succ n ih =>
    intro l hl
    by_cases hne : l = []
    · subst hne; rw [wsum_nil]; exact Int.le_refl _
    · rw [wsum_step f l hne]
      have hw := decodeL_width l
      have := ih (l.drop (decodeL l).2) (by rw [List.length_drop]; omega)
      have := hf (decodeL l).1
      omega
theorem adv_nn (r n : Int) : 0 ≤ adv r n := by
  unfold adv prt
  have h1 : 0 ≤ sz n ∧ sz n ≤ 16777216 := by unfold sz; have := cut_bd n; omega
  have h2 := fou_bd r
  rw [cut_id (n := sz n) (by omega) (by omega), cut_id (n := fou r) (by omega) (by omega), cut_id (n := 4) (by omega) (by omega), if_neg (by omega)]
  have h3 : 0 ≤ sz n * fou r := Int.mul_nonneg h1.1 h2.1
  exact cut_nonneg.2 (by omega)
theorem rwt_nn {size sp : Int} (h : 0 ≤ sp) (r : Nat) : 0 ≤ rwt size sp r := by
  unfold rwt
  have := adv_nn (r : Int) size
  have : 0 ≤ cut sp := cut_nonneg.2 h
  omega
theorem widP_bd {size sp : Int} (h : 0 ≤ sp) (s : ByteArray) : 0 ≤ widP size sp s ∧ widP size sp s ≤ 16777216 := by
  unfold widP
  exact ⟨cut_nonneg.2 (wsum_nn _ (rwt_nn h) _ _ (Nat.le_refl _)), (cut_bd _).2⟩
/-- Items whose spacing is not below 0, nor their own width. -/
def NiceI (x : LI) : Prop := 0 ≤ x.f4 ∧ 0 ≤ x.f8
/-- What a part of a list of items is. -/
def IsPart (l : List LI) (p : Pt) : Prop := p.at_ < l.length ∧ p.text.size ≤ 1000 ∧ ((itm l p).f0 = 1 → p.w = widP (itm l p).f3 (itm l p).f4 p.text) ∧ ((itm l p).f0 ≠ 1 → p.w = oneW (itm l p) ∧ p.text = noS)
theorem item_parts {Pc : ByteArray → Int → List ByteArray → Prop} (hp : PcOK Pc) {l : List LI} {k : Nat} (hk : k < l.length) {q : List Pt} (h : ItemTo Pc k (l.getD k z27) q) : ∀ p, p ∈ q → IsPart l p := by
  intro p hpq
  unfold ItemTo at h
  by_cases h1 : (l.getD k z27).f0 = 1
  · rw [if_pos h1] at h
    obtain ⟨t, ht, rfl⟩ := h
    unfold partsOf at hpq
    obtain ⟨j, hj, rfl⟩ := List.mem_map.1 hpq
    rw [List.mem_range] at hj
    refine ⟨hk, (hp _ _ _ ht).2 _ (by show (t.getD j noS) ∈ t; rw [List.getD_eq_getElem?_getD, List.getElem?_eq_getElem hj]; exact List.getElem_mem _), fun _ => rfl, fun h => absurd h1 h⟩
  · rw [if_neg h1] at h
    subst h
    rw [List.mem_singleton] at hpq
    subst hpq
    exact ⟨hk, by show noS.size ≤ 1000; decide, fun h => absurd h h1, fun _ => ⟨rfl, rfl⟩⟩
theorem parts_are {Pc : ByteArray → Int → List ByteArray → Prop} (hp : PcOK Pc) {l : List LI} : ∀ (k : Nat) (ps : List Pt), k ≤ l.length → PartsTo Pc l k ps → ∀ p, p ∈ ps → IsPart l p := by
  intro k
  induction k with
  | zero => intro ps _ h p hpq; rw [show ps = [] from h] at hpq; simp at hpq
  | succ k ih =>
    intro ps hk h p hpq
    obtain ⟨a, b, h1, h2, rfl⟩ := h
    rcases List.mem_append.1 hpq with hpq | hpq
    · exact ih a (by omega) h1 p hpq
    · exact item_parts hp (by omega) h2 p hpq
theorem oneW_bd {x : LI} (h : 0 ≤ x.f8) : 0 ≤ oneW x ∧ oneW x ≤ 16777216 := by
  unfold oneW
  have := cut_bd x.f8
  have : 0 ≤ cut x.f8 := cut_nonneg.2 h
  split
  · omega
  · split <;> omega
theorem itm_mem {l : List LI} {p : Pt} (h : p.at_ < l.length) : itm l p ∈ l := by
  unfold itm; rw [List.getD_eq_getElem?_getD, List.getElem?_eq_getElem h]; exact List.getElem_mem _
theorem part_mild {l : List LI} (hl : ∀ x, x ∈ l → NiceI x) {p : Pt} (h : IsPart l p) : MildP p := by
  obtain ⟨h1, h2, h3, h4⟩ := h
  have hn := hl _ (itm_mem h1)
  unfold MildP
  by_cases hk : (itm l p).f0 = 1
  · rw [h3 hk]; exact widP_bd hn.1 _
  · rw [(h4 hk).1]; exact oneW_bd hn.2
theorem ps_ok {Pc : ByteArray → Int → List ByteArray → Prop} (hp : PcOK Pc) {l : List LI} (hl : ∀ x, x ∈ l → NiceI x) : PsOK Pc l := fun ps h =>
  ⟨fun p hpq => ⟨(parts_are hp _ ps (Nat.le_refl _) h p hpq).1, (parts_are hp _ ps (Nat.le_refl _) h p hpq).2.1⟩, fun p hpq => part_mild hl (parts_are hp _ ps (Nat.le_refl _) h p hpq)⟩
theorem suf_snoc {l : List UInt8} (h : Lib.hasSuffix l [32] = true) : ∃ ini, l = ini ++ [32] := by
  unfold Lib.hasSuffix at h
  obtain ⟨ini, hi⟩ := List.isSuffixOf_iff_suffix.1 h
  exact ⟨ini, hi.symm⟩
/-- A part's last blank is no wider than the part. -/
theorem tail_bd {l : List LI} (hl : ∀ x, x ∈ l → NiceI x) {p : Pt} (h : IsPart l p) : 0 ≤ tailP l p ∧ tailP l p ≤ p.w := by
  have hm := part_mild hl h
  unfold MildP at hm
  unfold tailP
  split
  · rename_i hc
    have hn := hl _ (itm_mem h.1)
    simp only [Bool.and_eq_true] at hc
    have hk : (itm l p).f0 = 1 := by
      have := hc.1
      unfold collP at this
      simp at this
      exact this.1
    have he : Lib.hasSuffix p.text.data.toList [32] = true := by
      have := hc.2
      unfold endsP at this
      simp at this
      exact this.2
    have hb := widP_bd (size := (itm l p).f3) hn.1 (p.text.extract 0 (p.text.size - 1))
    have hw := h.2.2.1 hk
    obtain ⟨ini, hi⟩ := suf_snoc he
    have hx : (p.text.extract 0 (p.text.size - 1)).data.toList = ini := by
      rw [ByteArray.data_extract, Array.toList_extract, Lib.size_eq, hi, List.extract_eq_take_drop]
      simp
    have hmo : widP (itm l p).f3 (itm l p).f4 (p.text.extract 0 (p.text.size - 1)) ≤ widP (itm l p).f3 (itm l p).f4 p.text := by
      unfold widP
      rw [hx, hi, sum_blank _ _ ini (Nat.le_refl _)]
      have := rwt_nn (size := (itm l p).f3) hn.1 32
      exact cut_mono (by omega)
    rw [← hw] at hmo
    omega
  · omega
theorem gtR_mem (l : List LI) : ∀ r : List Pt, gtR l r = 0 ∨ ∃ p, p ∈ r ∧ gtR l r = tailP l p := by
  intro r
  induction r with
  | nil => exact .inl rfl
  | cons p r ih =>
    show (if skA (itm l p).f0 then gtR l r else tailP l p) = 0 ∨ ∃ q, q ∈ p :: r ∧ (if skA (itm l p).f0 then gtR l r else tailP l p) = tailP l q
    split
    · rcases ih with h | ⟨q, h1, h2⟩
      · exact .inl h
      · exact .inr ⟨q, List.mem_cons_of_mem _ h1, h2⟩
    · exact .inr ⟨p, List.mem_cons_self .., rfl⟩
theorem w_mem {ps : List Pt} (h : ∀ p, p ∈ ps → 0 ≤ p.w) : ∀ p, p ∈ ps → p.w ≤ wAll ps := by
  induction ps with
  | nil => intro p hp; simp at hp
  | cons q ps ih =>
    have h0 : 0 ≤ wAll ps := by
      clear ih
      induction ps with
      | nil => simp [wAll]
      | cons r ps ih2 =>
        have := ih2 (fun p hp => h p (by rcases List.mem_cons.1 hp with rfl | hp; simp; simp [hp]))
        have hr := h r (by simp)
        simp only [wAll, List.map_cons, List.sum_cons] at this ⊢
        omega
    intro p hp
    have e : wAll (q :: ps) = q.w + wAll ps := by simp [wAll]
    have hq := h q (by simp)
    rcases List.mem_cons.1 hp with rfl | hp
    · omega
    · have := ih (fun p hp => h p (List.mem_cons_of_mem _ hp)) p hp
      omega
theorem sub_mild {l : List LI} {ps : List Pt} (hl : ∀ x, x ∈ l → NiceI x) (h : ∀ p, p ∈ ps → IsPart l p) (hn : ps.length ≤ 100000) (p : Nat × Nat) : MildG (toG (mkG l ps p)) := by
  show 0 ≤ gtailP l (sub ps p) ∧ gtailP l (sub ps p) ≤ wAll (sub ps p) ∧ wAll (sub ps p) ≤ 10000000000000
  have hs : ∀ q, q ∈ sub ps p → IsPart l q := fun q hq => h q (sub_mem hq)
  have hm : ∀ q, q ∈ sub ps p → MildP q := fun q hq => part_mild hl (hs q hq)
  have hlen : (sub ps p).length ≤ 100000 := by unfold sub; rw [List.length_drop, List.length_take]; omega
  have hb := w_bd (sub ps p) hm (sub ps p).length (Nat.le_refl _)
  rw [List.take_length] at hb
  rcases gtR_mem l (sub ps p).reverse with h0 | ⟨q, h1, h2⟩
  · have h0 : gtailP l (sub ps p) = 0 := h0
    rw [h0]
    exact ⟨by omega, by omega, by omega⟩
  · have h2 : gtailP l (sub ps p) = tailP l q := h2
    have hq := List.mem_reverse.1 h1
    have ht := tail_bd hl (hs q hq)
    have hw := w_mem (fun r hr => (hm r hr).1) q hq
    rw [h2]
    exact ⟨by omega, by omega, by omega⟩
end Go.Proofs.Ytmkgapdadandmaa.Lin
