/- Where runes end: a text cut there comes to both its parts; plain. | One text alone: each piece is a group; plain. | One text, collapsed: its pieces; plain. | One text, collapsed: its lines; plain. | One text, collapsed: what its lines tell; plain. | One text, collapsed: the plain laws of lines that are justified, and of lines that fit. -/
import Derived.Test.YtmkgapdadandmaaFontPlain
import Derived.Lib.TrimAscii
import Derived.Lib.SpaceUEq
import Derived.Test.YtmkgapdadandmaaExact
import Derived.Test.YtmkgapdadandmaaWhiteC
namespace Go.Proofs.Ytmkgapdadandmaa.Fnt
open Go.Lib
set_option linter.unusedVariables false

/-- How many bytes the first runes have. -/
def rb : Nat → List UInt8 → Nat
  | 0, _ => 0
  | n + 1, l => if l = [] then 0 else (decodeL l).2 + rb n (l.drop (decodeL l).2)
theorem rb_nil : ∀ n, rb n [] = 0
  | 0 => rfl
  | _ + 1 => by simp [rb]
theorem rb_step (n : Nat) (l : List UInt8) (h : l ≠ []) : rb (n + 1) l = (decodeL l).2 + rb n (l.drop (decodeL l).2) := by rw [rb, if_neg h]
theorem rb_le : ∀ (n : Nat) (l : List UInt8), rb n l ≤ l.length := by
  intro n
  induction n with
  | zero => intro l; exact Nat.zero_le _
  | succ n ih =>
    intro l
    by_cases h : l = []
    · subst h; rw [rb_nil]; exact Nat.le_refl _
    · rw [rb_step n l h]
      have h1 := decodeL_le l h
      have h2 := ih (l.drop (decodeL l).2)
      rw [List.length_drop] at h2
      omega
theorem rb_add : ∀ (n m : Nat) (l : List UInt8), rb (n + m) l = rb n l + rb m (l.drop (rb n l)) := by
  intro n
  induction n with
  | zero => intro m l; rw [Nat.zero_add]; show _ = 0 + rb m (l.drop 0); rw [List.drop_zero]; omega
  | succ n ih =>
    intro m l
    by_cases h : l = []
    · subst h; simp [rb_nil]
    · rw [show n + 1 + m = (n + m) + 1 by omega, rb_step _ l h, rb_step n l h, ih, List.drop_drop]
      omega
theorem rb_full : ∀ (n : Nat) (l : List UInt8), l.length ≤ n → rb n l = l.length := by
  intro n
  induction n with
  | zero => intro l h; have : l = [] := List.eq_nil_of_length_eq_zero (by omega); subst this; rfl
  | succ n ih =>
    intro l h
    by_cases hl : l = []
    · subst hl; exact rb_nil _
    · have h1 := decodeL_le l hl
      have h2 := decodeL_width l
      rw [rb_step n l hl, ih _ (by rw [List.length_drop]; omega), List.length_drop]
      omega
/-- A rune is read from its own bytes alone, be it valid or not. -/
theorem dec_cut (l : List UInt8) (h : l ≠ []) (k : Nat) (hk : (decodeL l).2 ≤ k) : decodeL (l.take k) = decodeL l := by
  have hw := decodeL_width l
  by_cases hv : ((decodeL l).1 = 65533 ∧ (decodeL l).2 = 1)
  · by_cases hv2 : ((decodeL (l.take k)).1 = 65533 ∧ (decodeL (l.take k)).2 = 1)
    · exact Prod.ext (by rw [hv.1, hv2.1]) (by rw [hv.2, hv2.2])
    · have hne : l.take k ≠ [] := fun e => by
        have := congrArg List.length e
        have hl := List.length_pos_iff.2 h
        rw [List.length_take, List.length_nil] at this
        omega
      have hle := decodeL_le _ hne
      rw [List.length_take] at hle
      exact (dec_same (l.take k) l hne hv2 (by rw [List.take_take, Nat.min_eq_left (by omega)])).symm
  · exact dec_same l _ h hv (by rw [List.take_take, Nat.min_eq_left hk])
theorem take_ne {l : List UInt8} (h : l ≠ []) {k : Nat} (hk : 0 < k) : l.take k ≠ [] := fun e => by
  have := congrArg List.length e
  have hl := List.length_pos_iff.2 h
  rw [List.length_take, List.length_nil] at this
  omega
theorem rb_take : ∀ (n m : Nat) (l : List UInt8), n ≤ m → rb n (l.take (rb m l)) = rb n l := by
  intro n
  induction n with
  | zero => intro m l _; rfl
  | succ n ih =>
    intro m l hm
    obtain ⟨m, rfl⟩ : ∃ m', m = m' + 1 := ⟨m - 1, by omega⟩
    by_cases h : l = []
    · subst h; simp [rb_nil]
    · have hw := decodeL_width l
      rw [rb_step m l h, rb_step n _ (take_ne h (by omega)), dec_cut l h _ (by omega), rb_step n l h, List.drop_take, Nat.add_sub_cancel_left, ih m _ (by omega)]
theorem rb_sum (f : Nat → Int) : ∀ (n : Nat) (l : List UInt8), wsum f l = wsum f (l.take (rb n l)) + wsum f (l.drop (rb n l)) := by
  intro n
  induction n with
  | zero => intro l; show _ = wsum f (l.take 0) + wsum f (l.drop 0); rw [List.take_zero, List.drop_zero, wsum_nil]; omega
  | succ n ih =>
    intro l
    by_cases h : l = []
    · subst h; simp [wsum_nil]
    · have hw := decodeL_width l
      rw [wsum_step f l h, ih (l.drop (decodeL l).2), rb_step n l h, wsum_step f _ (take_ne h (by omega)), dec_cut l h _ (by omega), List.drop_take, Nat.add_sub_cancel_left, List.drop_drop]
      omega
/-- A place where a rune ends. -/
def Cut (l : List UInt8) (k : Nat) : Prop := ∃ n, rb n l = k
theorem cut_zero (l : List UInt8) : Cut l 0 := ⟨0, rfl⟩
theorem cut_all (l : List UInt8) : Cut l l.length := ⟨l.length, rb_full _ _ (Nat.le_refl _)⟩
theorem Cut.le {l : List UInt8} {k : Nat} (h : Cut l k) : k ≤ l.length := by obtain ⟨n, rfl⟩ := h; exact rb_le _ _
theorem cut_next {l : List UInt8} {k : Nat} (h : Cut l k) (hk : k < l.length) : Cut l (k + (decodeL (l.drop k)).2) := by
  obtain ⟨n, rfl⟩ := h
  refine ⟨n + 1, ?_⟩
  have hne : l.drop (rb n l) ≠ [] := fun e => by
    have := congrArg List.length e
    rw [List.length_drop] at this
    simp at this
    omega
  rw [rb_add, rb_step 0 _ hne]
  rfl
theorem Cut.drop {l : List UInt8} {i j : Nat} (hi : Cut l i) (hj : Cut l j) (h : i ≤ j) : Cut (l.drop i) (j - i) := by
  obtain ⟨n, rfl⟩ := hi
  obtain ⟨m, rfl⟩ := hj
  by_cases hn : n ≤ m
  · obtain ⟨d, rfl⟩ : ∃ d, m = n + d := ⟨m - n, by omega⟩
    exact ⟨d, by rw [rb_add]; omega⟩
  · obtain ⟨d, rfl⟩ : ∃ d, n = m + d := ⟨n - m, by omega⟩
    rw [rb_add m d] at h ⊢
    have e : rb m l - (rb m l + rb d (l.drop (rb m l))) = 0 := by omega
    rw [e]
    exact cut_zero _
theorem Cut.take {l : List UInt8} {i j : Nat} (hi : Cut l i) (hj : Cut l j) (h : i ≤ j) : Cut (l.take j) i := by
  obtain ⟨n, rfl⟩ := hi
  obtain ⟨m, rfl⟩ := hj
  by_cases hn : n ≤ m
  · exact ⟨n, rb_take n m l hn⟩
  · have e : rb n l = rb m l := by
      obtain ⟨d, rfl⟩ : ∃ d, n = m + d := ⟨n - m, by omega⟩
      rw [rb_add m d] at h ⊢
      omega
    rw [e]
    exact ⟨m, rb_take m m l (Nat.le_refl _)⟩
theorem Cut.sum {l : List UInt8} {k : Nat} (h : Cut l k) (f : Nat → Int) : wsum f l = wsum f (l.take k) + wsum f (l.drop k) := by
  obtain ⟨n, rfl⟩ := h
  exact rb_sum f n l
/-- A text that is cut into pieces where runes end. -/
def Cuts (ts : List (List UInt8)) : Prop := ∀ A B, ts = A ++ B → Cut ts.flatten A.flatten.length
theorem cuts_sum {ts : List (List UInt8)} (h : Cuts ts) (f : Nat → Int) : ∀ (M A B : List (List UInt8)), ts = A ++ (M ++ B) → wsum f M.flatten = (M.map (wsum f)).sum := by
  intro M
  induction M with
  | nil => intro A B _; rfl
  | cons t M ih =>
    intro A B e
    have h1 := h A ((t :: M) ++ B) e
    have h2 := h (A ++ [t]) (M ++ B) (by rw [e]; simp)
    have h3 := h (A ++ (t :: M)) B (by rw [e]; simp)
    have hT : ts.flatten = A.flatten ++ ((t ++ M.flatten) ++ B.flatten) := by rw [e]; simp
    rw [hT] at h1 h2 h3
    have e2 : (A ++ [t]).flatten.length - A.flatten.length = t.length := by rw [List.flatten_append, List.length_append]; simp
    have e3 : (A ++ (t :: M)).flatten.length - A.flatten.length = (t ++ M.flatten).length := by rw [List.flatten_append, List.length_append, List.flatten_cons]; omega
    have l2 : A.flatten.length ≤ (A ++ [t]).flatten.length := by rw [List.flatten_append, List.length_append]; omega
    have l3 : A.flatten.length ≤ (A ++ (t :: M)).flatten.length := by rw [List.flatten_append, List.length_append]; omega
    have d2 := h1.drop h2 l2
    have d3 := h1.drop h3 l3
    rw [List.drop_left, e2] at d2
    rw [List.drop_left, e3] at d3
    have d4 := d2.take d3 (by rw [List.length_append]; omega)
    rw [List.take_left] at d4
    have s := d4.sum f
    rw [List.take_left, List.drop_left] at s
    rw [List.flatten_cons, s, List.map_cons, List.sum_cons, ih (A ++ [t]) B (by rw [e]; simp)]
/-- A blank is a rune alone, whatever stands ahead. -/
theorem blank_cut : ∀ (n : Nat) (a b : List UInt8), a.length ≤ n → Cut (a ++ 32 :: b) a.length := by
  intro n
  induction n with
  | zero => intro a b h; have : a = [] := List.eq_nil_of_length_eq_zero (by omega); subst this; exact cut_zero _
  | succ n ih =>
    intro a b h
    by_cases ha : a = []
    · subst ha; exact cut_zero _
    · have hne : a ++ 32 :: b ≠ [] := by simp
      have hl := List.length_pos_iff.2 ha
      have hw := decodeL_width (a ++ 32 :: b)
      have hc := decodeN_conts (a ++ 32 :: b).length ((a ++ 32 :: b).getD 0 0).toNat ((a ++ 32 :: b).getD 1 0).toNat ((a ++ 32 :: b).getD 2 0).toNat ((a ++ 32 :: b).getD 3 0).toNat
      rw [← decodeL_N] at hc
      obtain ⟨c2, c3, c4, c5⟩ := hc
      have hg : (a ++ 32 :: b).getD a.length 0 = 32 := by rw [List.getD_eq_getElem?_getD, List.getElem?_append_right (Nat.le_refl _)]; simp
      have h32 : (32 : UInt8).toNat / 64 ≠ 2 := by decide
      have hle : (decodeL (a ++ 32 :: b)).2 ≤ a.length := by
        rcases Nat.lt_or_ge a.length (decodeL (a ++ 32 :: b)).2 with hh | hh
        · exfalso
          have hcase : a.length = 1 ∨ a.length = 2 ∨ a.length = 3 := by omega
          rcases hcase with e | e | e
          · rw [e] at hg; have := (c2 (by omega)).1; rw [hg] at this; exact h32 this
          · rw [e] at hg; have := (c3 (by omega)).1; rw [hg] at this; exact h32 this
          · rw [e] at hg; have := (c4 (by omega)).1; rw [hg] at this; exact h32 this
        · exact hh
      obtain ⟨m, hm⟩ := ih (a.drop (decodeL (a ++ 32 :: b)).2) b (by rw [List.length_drop]; omega)
      refine ⟨m + 1, ?_⟩
      rw [rb_step m _ hne, List.drop_append_of_le_length hle, hm, List.length_drop]
      omega
theorem blank_sum (f : Nat → Int) (a : List UInt8) : wsum f (a ++ [32]) = wsum f a + wsum f [32] := by
  have := (blank_cut _ a [] (Nat.le_refl _)).sum f
  rwa [List.take_left, List.drop_left] at this
end Go.Proofs.Ytmkgapdadandmaa.Fnt
namespace Go.Proofs.Ytmkgapdadandmaa.Lin
open Go.RowKit Go.Lib Go.Proofs.Ytmkgapdadandmaa.Pl Go.Proofs.Ytmkgapdadandmaa.Fx Go.Proofs.Ytmkgapdadandmaa.Fnt Go.Proofs.Ytmkgapdadandmaa.Brk Go.Proofs.Ytmkgapdadandmaa.Siz Go.Proofs.YtmkgapdadandmaaW.PrintWords Go.Proofs.YtmkgapdadandmaaW.PrintLast Go.Proofs.YtmkgapdadandmaaW.PrintMore
set_option linter.unusedVariables false
set_option linter.unusedSimpArgs false

/-- Parts that are all of texts, and none is its text's last but the last. -/
def Txt (l : List LI) (ps : List Pt) : Prop := (∀ i, i < ps.length → kd l ps i = 1) ∧ ∀ i, i + 1 < ps.length → (ps.getD i zPt).last = false
theorem txt_end {l : List LI} {ps : List Pt} (h : Txt l ps) (k : Nat) (h0 : 0 < k) (hk : k ≤ ps.length) : endG l ps k = true := by
  unfold endG
  split
  · rfl
  · rename_i hne
    rw [if_neg (by rw [h.1 (k - 1) (by omega)]; decide)]
    have hk1 := h.1 (k - 1) (by omega)
    have hk2 := h.1 k (by omega)
    unfold mayP
    rw [if_neg (by rw [hk1, hk2]; decide)]
    have hd : downP l ps k = k := by
      obtain ⟨a, rfl⟩ : ∃ a, k = a + 1 := ⟨k - 1, by omega⟩
      unfold downP
      rw [if_neg]
      rw [show a = a + 1 - 1 by omega, hk1]; decide
    have hu : upP l ps ps.length k = k := by
      obtain ⟨f, hf⟩ : ∃ f, ps.length = f + 1 := ⟨ps.length - 1, by omega⟩
      rw [show upP l ps ps.length k = upP l ps (f + 1) k by rw [hf]]
      unfold upP
      rw [if_neg]
      rintro ⟨_, h2⟩
      rw [hk2] at h2
      exact absurd h2 (by decide)
    rw [hd, hu, if_neg (by omega)]
    unfold mayB
    have e1 : (itm l (ps.getD (k - 1) zPt)).f0 = 1 := hk1
    have e2 : (itm l (ps.getD k zPt)).f0 = 1 := hk2
    rw [e1, e2, if_neg (by decide), h.2 (k - 1) (by omega)]
    rfl
theorem txt_gS {l : List LI} {ps : List Pt} (h : Txt l ps) : ∀ k, k ≤ ps.length → gS l ps k = (k, (List.range k).map fun i => (i, i + 1)) := by
  intro k
  induction k with
  | zero => intro _; rfl
  | succ k ih =>
    intro hk
    rw [gS_step, if_pos (txt_end h (k + 1) (by omega) hk), ih (by omega), List.range_succ, List.map_append]
    rfl
theorem txt_groups {l : List LI} {ps : List Pt} (h : Txt l ps) : (groupsP l ps).map (sub ps) = ps.map fun p => [p] := by
  unfold groupsP
  rw [txt_gS h ps.length (Nat.le_refl _)]
  apply List.ext_getElem
  · simp
  · intro i h1 h2
    simp only [List.length_map, List.length_range] at h1
    simp only [List.getElem_map, List.getElem_range]
    unfold sub
    simp only
    rw [List.take_succ_eq_append_getElem h1, List.drop_append_of_le_length (by rw [List.length_take]; omega), List.drop_eq_nil_of_le (by rw [List.length_take]; omega), List.nil_append]
/-- The parts of one text. -/
def txP (x : LI) : List Pt := partsOf 0 x (piecesX x.f2 x.f6) (piecesX x.f2 x.f6).length
theorem tx_parts (x : LI) (h : x.f0 = 1) : partsX [x] 1 = txP x := by
  show [] ++ itemX 0 x = _
  unfold itemX txP
  rw [if_pos h, List.nil_append]
theorem tx_len (x : LI) : (txP x).length = (piecesX x.f2 x.f6).length := by unfold txP partsOf; rw [List.length_map, List.length_range]
theorem tx_get (x : LI) (i : Nat) (h : i < (piecesX x.f2 x.f6).length) : (txP x).getD i zPt = partOf 0 x (piecesX x.f2 x.f6) i := by
  unfold txP partsOf
  rw [List.getD_eq_getElem?_getD, List.getElem?_map, List.getElem?_range h]
  rfl
theorem tx_mem (x : LI) {p : Pt} (h : p ∈ txP x) : ∃ i, i < (piecesX x.f2 x.f6).length ∧ p = partOf 0 x (piecesX x.f2 x.f6) i := by
  unfold txP partsOf at h
  obtain ⟨i, h1, rfl⟩ := List.mem_map.1 h
  exact ⟨i, List.mem_range.1 h1, rfl⟩
theorem tx_txt (x : LI) (h : x.f0 = 1) : Txt [x] (txP x) := by
  refine ⟨fun i hi => ?_, fun i hi => ?_⟩
  · rw [tx_len] at hi
    unfold kd
    rw [tx_get x i hi]
    exact h
  · rw [tx_len] at hi
    rw [tx_get x i (by omega)]
    show decide ((i : Int) = ((piecesX x.f2 x.f6).length : Int) - 1) = false
    exact decide_eq_false (by omega)
/-- Each piece is a group. -/
theorem tx_groups (x : LI) (h : x.f0 = 1) : groupsX [x] = (txP x).map fun p => [p] := by
  unfold groupsX
  show (groupsP [x] (partsX [x] 1)).map (sub (partsX [x] 1)) = _
  rw [tx_parts x h, txt_groups (tx_txt x h)]
/-- No place stands ahead of a blank, where line feeds are not kept. -/
theorem may_blank (a : Int) : Brk.mayB a 32 = false := by
  unfold Brk.mayB letB wideB othB
  split
  · rfl
  · split
    · decide
    · simp
theorem ago_blank (s : ByteArray) (wp : Bool) : ∀ (n p : Nat) (last : Int), ∀ u, u ∈ allGo s wp false n p last → 0 ≤ u.f0 ∧ (Utf8.decode s u.f0.toNat).1 ≠ 32 := by
  intro n
  induction n with
  | zero => intro p last u hu; cases hu
  | succ n ih =>
    intro p last u hu
    rw [allGo] at hu
    split at hu
    · rcases List.mem_append.1 hu with hu | hu
      · unfold newB at hu
        split at hu
        · rename_i h
          rw [List.mem_singleton] at hu
          subst hu
          refine ⟨by show (0 : Int) ≤ (p : Int); omega, ?_⟩
          show (Utf8.decode s ((p : Int)).toNat).1 ≠ 32
          rw [Int.toNat_natCast]
          intro e
          rw [e] at h
          have := may_blank last
          have h2 := h.2
          simp at h2
          rw [this] at h2
          exact absurd h2.2 (by decide)
        · cases hu
      · exact ih _ _ u hu
    · simp at hu
end Go.Proofs.Ytmkgapdadandmaa.Lin
namespace Go.Proofs.Ytmkgapdadandmaa.Lin
open Go.RowKit Go.Lib Go.Proofs.Ytmkgapdadandmaa.Pl Go.Proofs.Ytmkgapdadandmaa.Fx Go.Proofs.Ytmkgapdadandmaa.Fnt Go.Proofs.Ytmkgapdadandmaa.Brk Go.Proofs.Ytmkgapdadandmaa.Siz Go.Proofs.YtmkgapdadandmaaW.PrintWords Go.Proofs.YtmkgapdadandmaaW.PrintLast Go.Proofs.YtmkgapdadandmaaW.PrintMore
set_option linter.unusedVariables false
set_option linter.unusedSimpArgs false

/-- No two blanks stand side by side. -/
def NoAdj (t : List UInt8) : Prop := ∀ a b, t ≠ a ++ 32 :: 32 :: b
theorem noAdj_snoc {q : List UInt8} {c : UInt8} (h : NoAdj q) (hc : c ≠ 32 ∨ ∀ a, q ≠ a ++ [32]) : NoAdj (q ++ [c]) := by
  intro a b e
  rcases List.eq_nil_or_concat b with rfl | ⟨b', x, rfl⟩
  · have e2 : q ++ [c] = (a ++ [32]) ++ [32] := by rw [e]; simp
    have e3 := List.append_inj' e2 rfl
    rcases hc with h1 | h1
    · exact h1 (by simpa using e3.2)
    · exact h1 a e3.1
  · have e2 : q ++ [c] = (a ++ 32 :: 32 :: b') ++ [x] := by rw [e]; simp
    exact h a b' (List.append_inj' e2 rfl).1
def CI (p : List UInt8 × Bool) : Prop := p.1.head? ≠ some 32 ∧ NoAdj p.1 ∧ (p.1 = [] → p.2 = true) ∧ ∀ a, p.1 = a ++ [32] → p.2 = true
theorem head_snoc {q : List UInt8} {c : UInt8} (h : q ≠ []) : (q ++ [c]).head? = q.head? := by
  cases q with
  | nil => exact absurd rfl h
  | cons x q => rfl
theorem ci_step {p : List UInt8 × Bool} (h : CI p) (c : UInt8) : CI (Wh.stp p c) := by
  obtain ⟨h1, h2, h3, h4⟩ := h
  unfold Wh.stp
  by_cases hb : Wh.isB c = true
  · rw [if_pos hb]
    by_cases hp : p.2 = true
    · rw [if_pos hp]
      exact ⟨h1, h2, fun _ => rfl, fun _ _ => rfl⟩
    · rw [if_neg hp]
      have hne : p.1 ≠ [] := fun e => hp (h3 e)
      refine ⟨by show (p.1 ++ [32]).head? ≠ _; rw [head_snoc hne]; exact h1, noAdj_snoc h2 (.inr fun a e => hp (h4 a e)), fun _ => rfl, fun _ _ => rfl⟩
  · rw [if_neg hb]
    have hc : c ≠ 32 := fun e => hb (by subst e; decide)
    refine ⟨?_, noAdj_snoc h2 (.inl hc), fun e => ?_, fun a e => ?_⟩
    · show (p.1 ++ [c]).head? ≠ some 32
      by_cases hne : p.1 = []
      · rw [hne]
        show some c ≠ some 32
        intro e
        exact hc (by simpa using e)
      · rw [head_snoc hne]; exact h1
    · have e : p.1 ++ [c] = [] := e
      simp at e
    · exact absurd (by simpa using (List.append_inj' (show p.1 ++ [c] = a ++ [32] from e) rfl).2) hc
theorem coll_nice (l : List UInt8) : (Wh.coll l true).1.head? ≠ some 32 ∧ NoAdj (Wh.coll l true).1 := by
  have key : ∀ (l : List UInt8) (p : List UInt8 × Bool), CI p → CI (l.foldl Wh.stp p) := by
    intro l
    induction l with
    | nil => intro p h; exact h
    | cons c l ih => intro p h; rw [List.foldl_cons]; exact ih _ (ci_step h c)
  have := key l ([], true) ⟨by decide, fun a b e => by have := congrArg List.length e; simp at this, fun _ => rfl, fun a e => by have := congrArg List.length e; simp at this⟩
  exact ⟨this.1, this.2.1⟩
/-- A place where a piece may begin or end. -/
def OkU (s : ByteArray) (i : Int) : Prop := 0 ≤ i ∧ i ≤ s.size ∧ Cut s.data.toList i.toNat ∧ (s.data.toList.drop i.toNat).head? ≠ some 32
theorem dec_head {s : ByteArray} {p : Nat} (h : (s.data.toList.drop p).head? = some 32) : (Utf8.decode s p).1 = 32 := by
  rw [← decodeL_drop]
  cases hd : s.data.toList.drop p with
  | nil => rw [hd] at h; cases h
  | cons b t =>
    rw [hd] at h
    have hb : b = 32 := by simpa using h
    subst hb
    rw [decodeL_ascii 32 t (by decide)]
    rfl
theorem ago_ok (s : ByteArray) (wp : Bool) : ∀ (n p : Nat) (last : Int), p ≤ s.size → Cut s.data.toList p → ∀ u, u ∈ allGo s wp false n p last → OkU s u.f0 := by
  have hsz : s.size = s.data.toList.length := Lib.size_eq s
  intro n
  induction n with
  | zero => intro p last _ _ u hu; cases hu
  | succ n ih =>
    intro p last hp hc u hu
    rw [allGo] at hu
    split at hu
    · rename_i hlt
      rcases List.mem_append.1 hu with hu | hu
      · unfold newB at hu
        split at hu
        · rename_i h
          rw [List.mem_singleton] at hu
          subst hu
          refine ⟨by show (0 : Int) ≤ (p : Int); omega, by show (p : Int) ≤ _; omega, by show Cut _ ((p : Int)).toNat; rw [Int.toNat_natCast]; exact hc, ?_⟩
          show (s.data.toList.drop ((p : Int)).toNat).head? ≠ some 32
          rw [Int.toNat_natCast]
          intro e
          have h2 := h.2
          rw [dec_head e] at h2
          have h3 := may_blank last
          simp only [Bool.false_and, Bool.false_or, Bool.and_eq_true] at h2
          rw [show ((32 : Nat) : Int) = 32 from rfl, h3] at h2
          exact absurd h2.2 (by decide)
        · cases hu
      · have d := dec_facts s p hlt
        refine ih _ _ d.2.1 ?_ u hu
        have := cut_next hc (by omega)
        rwa [decodeL_drop] at this
    · simp at hu
theorem all_ok (s : ByteArray) : ∀ u, u ∈ allP s 0 ++ [(⟨(s.size : Int), false⟩ : Br)] → OkU s u.f0 := by
  intro u hu
  rcases List.mem_append.1 hu with hu | hu
  · exact ago_ok s _ _ 0 0 (Nat.zero_le _) (cut_zero _) u hu
  · rw [List.mem_singleton] at hu
    subst hu
    have hsz : s.size = s.data.toList.length := Lib.size_eq s
    refine ⟨by show (0 : Int) ≤ (s.size : Int); omega, Int.le_refl _, ?_, ?_⟩
    · show Cut _ ((s.size : Int)).toNat
      rw [Int.toNat_natCast, hsz]
      exact cut_all _
    · show (s.data.toList.drop ((s.size : Int)).toNat).head? ≠ some 32
      rw [Int.toNat_natCast, hsz, List.drop_length]
      decide
/-- Where a round over the places stands. -/
def PI (s : ByteArray) (p : Int × List ByteArray) : Prop :=
  OkU s p.1 ∧ (p.2.map (·.data.toList)).flatten = s.data.toList.take p.1.toNat ∧ (∀ A B, p.2.map (·.data.toList) = A ++ B → Cut s.data.toList A.flatten.length) ∧ ∀ x, x ∈ p.2 → x.data.toList.head? ≠ some 32
theorem pi_step {s : ByteArray} {p : Int × List ByteArray} {u : Br} (h : PI s p) (hu : OkU s u.f0) : PI s (stepP s p u) := by
  obtain ⟨h1, h2, h3, h4⟩ := h
  have hsz : s.size = s.data.toList.length := Lib.size_eq s
  unfold stepP
  by_cases hc : p.1 < u.f0
  · rw [if_pos hc]
    obtain ⟨a1, a2, a3, a4⟩ := h1
    obtain ⟨b1, b2, b3, b4⟩ := hu
    have e : (s.extract p.1.toNat u.f0.toNat).data.toList = (s.data.toList.drop p.1.toNat).take (u.f0.toNat - p.1.toNat) := by
      rw [ByteArray.data_extract, Array.toList_extract, List.extract_eq_take_drop]
    have efl : ((p.2 ++ [s.extract p.1.toNat u.f0.toNat]).map (·.data.toList)).flatten = s.data.toList.take u.f0.toNat := by
      rw [List.map_append, List.flatten_append, h2]
      simp only [List.map_cons, List.map_nil, List.flatten_cons, List.flatten_nil, List.append_nil]
      rw [e, show u.f0.toNat = p.1.toNat + (u.f0.toNat - p.1.toNat) by omega, List.take_add, Nat.add_sub_cancel_left]
    refine ⟨⟨b1, b2, b3, b4⟩, efl, ?_, ?_⟩
    · intro A B eA
      rcases List.eq_nil_or_concat B with rfl | ⟨B', y, rfl⟩
      · rw [List.append_nil] at eA
        show Cut _ A.flatten.length
        rw [← eA, efl, List.length_take, Nat.min_eq_left (by omega)]
        exact b3
      · have e2 : p.2.map (·.data.toList) ++ [(s.extract p.1.toNat u.f0.toNat).data.toList] = (A ++ B') ++ [y] := by
          rw [show p.2.map (·.data.toList) ++ [(s.extract p.1.toNat u.f0.toNat).data.toList] = (p.2 ++ [s.extract p.1.toNat u.f0.toNat]).map (·.data.toList) by simp, eA]
          simp
        exact h3 A B' (List.append_inj' e2 rfl).1
    · intro x hx
      rcases List.mem_append.1 hx with hx | hx
      · exact h4 x hx
      · rw [List.mem_singleton] at hx
        subst hx
        rw [e]
        obtain ⟨k, hk⟩ : ∃ k, u.f0.toNat - p.1.toNat = k + 1 := ⟨u.f0.toNat - p.1.toNat - 1, by omega⟩
        rw [hk]
        cases hd : s.data.toList.drop p.1.toNat with
        | nil => intro e; cases e
        | cons b t => rw [hd] at a4; exact a4
  · rw [if_neg hc]
    exact ⟨h1, h2, h3, h4⟩
/-- The pieces of a text that begins with no blank. -/
theorem pieces_nice (s : ByteArray) (h : s.data.toList.head? ≠ some 32) :
    ((piecesX s 0).map (·.data.toList)).flatten = s.data.toList ∧ Cuts ((piecesX s 0).map (·.data.toList)) ∧ (∀ x, x ∈ piecesX s 0 → x.data.toList.head? ≠ some 32) ∧ ∀ x, x ∈ piecesX s 0 → 0 < x.size := by
  have key : ∀ (l : List Br) (p : Int × List ByteArray), (∀ u, u ∈ l → OkU s u.f0) → PI s p → PI s (l.foldl (stepP s) p) := by
    intro l
    induction l with
    | nil => intro p _ hp; exact hp
    | cons u l ih =>
      intro p hl hp
      rw [List.foldl_cons]
      exact ih _ (fun x hx => hl x (List.mem_cons_of_mem _ hx)) (pi_step hp (hl u (List.mem_cons_self ..)))
  have h0 : PI s ((0 : Int), []) := ⟨⟨Int.le_refl _, by show (0 : Int) ≤ (s.size : Int); omega, cut_zero _, h⟩, rfl, fun A B e => by
    have := congrArg List.length e
    simp at this
    rw [List.eq_nil_of_length_eq_zero (show A.length = 0 by omega)]
    exact cut_zero _, fun x hx => by cases hx⟩
  have hp := key (allP s 0 ++ [⟨(s.size : Int), false⟩]) (0, []) (all_ok s) h0
  have hw := whole_all s (allP s 0) (allP_bd s 0).2
  have e0 : ((piecesX s 0).map (·.data.toList)).flatten = s.data.toList := hw.1
  refine ⟨e0, fun A B e => ?_, hp.2.2.2, hw.2⟩
  rw [e0]
  exact hp.2.2.1 A B e
end Go.Proofs.Ytmkgapdadandmaa.Lin
namespace Go.Proofs.Ytmkgapdadandmaa.Lin
open Go.RowKit Go.Lib Go.Proofs.Ytmkgapdadandmaa.Pl Go.Proofs.Ytmkgapdadandmaa.Fx Go.Proofs.Ytmkgapdadandmaa.Fnt Go.Proofs.Ytmkgapdadandmaa.Brk Go.Proofs.Ytmkgapdadandmaa.Siz Go.Proofs.YtmkgapdadandmaaW.PrintWords Go.Proofs.YtmkgapdadandmaaW.PrintLast Go.Proofs.YtmkgapdadandmaaW.PrintMore
set_option linter.unusedVariables false
set_option linter.unusedSimpArgs false

/-- Does a part fit behind a line? -/
def fitT (l : List LI) (W : Int) (L : List Pt) (p : Pt) : Prop := wAll L + p.w - tailP l p ≤ W
instance (l : List LI) (W : Int) (L : List Pt) (p : Pt) : Decidable (fitT l W L p) := by unfold fitT; exact inferInstance
/-- The lines of a text, from a line that is begun. -/
def linT (l : List LI) (W : Int) : List Pt → List Pt → List (List Pt)
  | L, [] => if L = [] then [] else [L]
  | L, p :: r => if L ≠ [] ∧ ¬ fitT l W L p then L :: linT l W [p] r else linT l W (L ++ [p]) r
theorem linT_head (l : List LI) (W : Int) (q : Pt) : ∀ (r L : List Pt), ∃ r' B, linT l W (q :: L) r = (q :: r') :: B := by
  intro r
  induction r with
  | nil => intro L; exact ⟨L, [], by rw [linT, if_neg (by simp)]⟩
  | cons p r ih =>
    intro L
    rw [linT]
    split
    · exact ⟨_, _, rfl⟩
    · exact ih (L ++ [p])
theorem linT_flat (l : List LI) (W : Int) : ∀ (r L : List Pt), (linT l W L r).flatten = L ++ r := by
  intro r
  induction r with
  | nil => intro L; rw [linT]; split <;> simp_all
  | cons p r ih =>
    intro L
    rw [linT]
    split
    · rw [List.flatten_cons, ih]; simp
    · rw [ih]; simp
theorem linT_ne (l : List LI) (W : Int) : ∀ (r L : List Pt), ∀ M, M ∈ linT l W L r → M ≠ [] := by
  intro r
  induction r with
  | nil =>
    intro L M h
    rw [linT] at h
    split at h
    · cases h
    · rename_i hn; rw [List.mem_singleton] at h; subst h; exact hn
  | cons p r ih =>
    intro L M h
    rw [linT] at h
    split at h
    · rename_i hn
      rcases List.mem_cons.1 h with h | h
      · subst h; exact hn.1
      · exact ih _ M h
    · exact ih _ M h
/-- A line of several parts has room. -/
def OkT (l : List LI) (W : Int) (M : List Pt) : Prop := ∀ M0 p, M = M0 ++ [p] → M0 ≠ [] → fitT l W M0 p
theorem okT_one (l : List LI) (W : Int) (p : Pt) : OkT l W [p] := fun M0 q e h => by
  have := congrArg List.length e
  rw [List.length_append, List.length_singleton, List.length_singleton] at this
  have h2 := List.length_pos_iff.2 h
  omega
theorem linT_ok (l : List LI) (W : Int) : ∀ (r L : List Pt), OkT l W L → ∀ M, M ∈ linT l W L r → OkT l W M := by
  intro r
  induction r with
  | nil =>
    intro L hL M h
    rw [linT] at h
    split at h
    · cases h
    · rw [List.mem_singleton] at h; subst h; exact hL
  | cons p r ih =>
    intro L hL M h
    rw [linT] at h
    split at h
    · rcases List.mem_cons.1 h with h | h
      · subst h; exact hL
      · exact ih _ (okT_one l W p) M h
    · rename_i hn
      refine ih _ ?_ M h
      intro M0 q e h0
      have e2 := List.append_inj' e rfl
      have e3 : p = q := by simpa using e2.2
      rw [← e2.1] at h0 ⊢
      rw [← e3]
      exact Decidable.by_contra fun hf => hn ⟨h0, hf⟩
theorem linT_next (l : List LI) (W : Int) : ∀ (r L : List Pt) (A : List (List Pt)) (M M' : List Pt) (B : List (List Pt)), linT l W L r = A ++ M :: M' :: B → ∃ p r', M' = p :: r' ∧ ¬ fitT l W M p := by
  intro r
  induction r with
  | nil =>
    intro L A M M' B h
    rw [linT] at h
    have := congrArg List.length h
    split at this <;> simp at this <;> omega
  | cons p r ih =>
    intro L A M M' B h
    rw [linT] at h
    split at h
    · rename_i hn
      cases A with
      | nil =>
        obtain ⟨r', B', e⟩ := linT_head l W p r []
        rw [e, List.nil_append] at h
        injection h with h1 h2
        injection h2 with h2 h3
        exact ⟨p, r', h2.symm, by rw [← h1]; exact hn.2⟩
      | cons a A =>
        rw [List.cons_append] at h
        injection h with h1 h2
        exact ih _ A M M' B h2
    · exact ih _ A M M' B h
/-- A line is told. -/
def tellT (K : Bc) (l : List LI) (W y : Int) (L : List Pt) (last : Bool) : LL := lineP K l ⟨y, 0, 0, W, L, true, []⟩ last
def outT (K : Bc) (l : List LI) (W : Int) : Int → List (List Pt) → List LL
  | _, [] => []
  | y, [L] => [tellT K l W y L true]
  | y, L :: M :: r => tellT K l W y L false :: outT K l W (wrap64 (y + (metP K l L).2)) (M :: r)
/-- A part of the one text. -/
def PtT (p : Pt) : Prop := p.at_ = 0 ∧ p.text.toList ≠ [32]
theorem itm_T (x : LI) {p : Pt} (h : PtT p) : itm [x] p = x := by unfold itm; rw [h.1]; rfl
theorem solid_T {x : LI} (hx : x.f0 = 1) {p : Pt} (h : PtT p) : solidP [x] p = true := by unfold solidP; rw [itm_T x h, hx]; rfl
theorem told_T {x : LI} (hx : x.f0 = 1) {p : Pt} (h : PtT p) : toldP [x] p = true := by unfold toldP; rw [itm_T x h, hx]; rfl
theorem clean_T {x : LI} (b : Bool) {p : Pt} (h : PtT p) : cleanP [x] b [p] = [p] := by
  have ht : (p.text.toList == [32]) = false := by simpa using h.2
  rw [clean_cons, ht, Bool.and_false, if_neg (by decide)]
  rfl
theorem must_T {x : LI} (hx : x.f0 = 1) {p : Pt} (h : PtT p) : mustB [x] [p] = false := by
  unfold mustB kd
  show (decide (0 < 1) && (itm [x] p).f0 == 6) = false
  rw [itm_T x h, hx]; rfl
theorem gtail_T {x : LI} (hx : x.f0 = 1) {p : Pt} (h : PtT p) : gtailP [x] [p] = tailP [x] p := by
  show gtR [x] [p] = _
  show (if skA (itm [x] p).f0 then gtR [x] [] else tailP [x] p) = _
  rw [itm_T x h, hx, if_neg (by decide)]
theorem put_T {K : Bc} {x : LI} (hx : x.f0 = 1) {W : Int} {s : Bk} (hl : s.left = 0) (hr : s.right = W) (hf : s.full = !s.line.isEmpty) {p : Pt} (h : PtT p) :
    putS K [x] W s [p] = if s.line ≠ [] ∧ ¬ fitT [x] W s.line p then { endS K [x] W s false with line := [p], full := true } else { s with line := s.line ++ [p], full := true } := by
  have hs : ([p].any (solidP [x])) = true := by rw [List.any_cons, solid_T hx h]; rfl
  have hfit : fitsB [x] s [p] = decide (fitT [x] W s.line p) := by
    unfold fitsB fitT
    rw [hs, Bool.not_true, Bool.false_and, Bool.or_false, gtail_T hx h, hl, hr]
    have : wAll [p] = p.w := by unfold wAll; simp
    rw [this, Int.sub_zero]
  unfold putS
  rw [clean_T _ h, must_T hx h, if_neg (by decide)]
  unfold openS
  rw [clean_T _ h, hfit]
  by_cases hn : s.line = []
  · have hf0 : s.full = false := by rw [hf, hn]; rfl
    rw [if_neg (by rw [hf0]; simp), if_neg (fun h => h.1 hn)]
    unfold addS
    rw [hs, hf0]; rfl
  · have hf1 : s.full = true := by rw [hf]; cases hL : s.line with | nil => exact absurd hL hn | cons a b => rfl
    by_cases hft : fitT [x] W s.line p
    · rw [if_neg (by simp [hft]), if_neg (fun h => h.2 hft)]
      unfold addS
      rw [hs, hf1]; rfl
    · rw [if_pos (by simp [hft, hf1]), if_pos ⟨hn, hft⟩]
      unfold addS
      rw [hs]
      show ({ endS K [x] W s false with line := [] ++ [p], full := (false || true) } : Bk) = _
      rfl
theorem end_T {K : Bc} {x : LI} (hx : x.f0 = 1) {W : Int} {s : Bk} {last : Bool} (hl : s.left = 0) (hr : s.right = W) (hne : s.line ≠ []) (h : ∀ p, p ∈ s.line → PtT p) :
    (endS K [x] W s last).out = s.out ++ [tellT K [x] W s.y s.line last] ∧ (endS K [x] W s last).y = wrap64 (s.y + (metP K [x] s.line).2) ∧ (endS K [x] W s last).left = 0 ∧ (endS K [x] W s last).right = W := by
  have ht : s.line.any (toldP [x]) = true := by
    cases hL : s.line with
    | nil => exact absurd hL hne
    | cons a b => rw [List.any_cons, told_T hx (h a (by rw [hL]; exact List.mem_cons_self ..))]; rfl
  unfold endS
  rw [if_pos ht]
  obtain ⟨y, i, lf, rt, ln, fu, ou⟩ := s
  simp only at hl hr
  subst hl hr
  exact ⟨rfl, rfl, rfl, rfl⟩
theorem out_T (K : Bc) {x : LI} (hx : x.f0 = 1) (W : Int) : ∀ (ps : List Pt) (s : Bk), s.left = 0 → s.right = W → s.full = (!s.line.isEmpty) → (∀ p, p ∈ s.line → PtT p) → (∀ p, p ∈ ps → PtT p) → (s.line ≠ [] ∨ ps ≠ [] ∨ s.out = []) →
    (doneS K [x] W (ps.foldl (fun s p => putS K [x] W s [p]) s)).out = s.out ++ outT K [x] W s.y (linT [x] W s.line ps) := by
  intro ps
  induction ps with
  | nil =>
    intro s hl hr hf hL _ hc
    show (doneS K [x] W s).out = _
    unfold doneS
    by_cases hn : s.line = []
    · have ho : s.out = [] := by rcases hc with h | h | h; exact absurd hn h; exact absurd rfl h; exact h
      rw [if_neg (by rw [hn]; simp), hn, ho]
      rfl
    · rw [if_pos (List.length_pos_iff.2 hn), (end_T hx hl hr hn hL).1, linT, if_neg hn]
      rfl
  | cons p r ih =>
    intro s hl hr hf hL hps hc
    have hp := hps p (List.mem_cons_self ..)
    have hr' : ∀ q, q ∈ r → PtT q := fun q hq => hps q (List.mem_cons_of_mem _ hq)
    rw [List.foldl_cons]
    show (doneS K [x] W (r.foldl (fun s p => putS K [x] W s [p]) (putS K [x] W s [p]))).out = _
    rw [put_T hx hl hr hf hp, linT]
    by_cases hcnd : s.line ≠ [] ∧ ¬ fitT [x] W s.line p
    · rw [if_pos hcnd, if_pos hcnd]
      obtain ⟨e1, e2, e3, e4⟩ := end_T (K := K) (last := false) hx hl hr hcnd.1 hL
      refine (ih { endS K [x] W s false with line := [p], full := true } e3 e4 rfl (fun q hq => by rw [List.mem_singleton.1 hq]; exact hp) hr' (.inl (by simp))).trans ?_
      show (endS K [x] W s false).out ++ outT K [x] W (endS K [x] W s false).y (linT [x] W [p] r) = _
      rw [e1, e2]
      obtain ⟨r', B, e⟩ := linT_head [x] W p r []
      rw [e, outT, List.append_assoc]
      rfl
    · rw [if_neg hcnd, if_neg hcnd]
      exact ih { s with line := s.line ++ [p], full := true } hl hr (by show true = !(s.line ++ [p]).isEmpty; simp) (fun q hq => by
        rcases List.mem_append.1 (show q ∈ s.line ++ [p] from hq) with hq | hq
        · exact hL q hq
        · rw [List.mem_singleton.1 hq]; exact hp) hr' (.inl (by show s.line ++ [p] ≠ []; simp))
/-- The lines of one text. -/
theorem break_T (K : Bc) {x : LI} (hx : x.f0 = 1) (W : Int) (h : ∀ p, p ∈ txP x → PtT p) : breakX K [x] W (s0 0 0) = outT K [x] W 0 (linT [x] W [] (txP x)) := by
  have key := out_T K hx W (txP x) (beginS W (s0 0 0)) (by show cut 0 = 0; decide) rfl rfl (fun p hp => by cases hp) h (.inr (.inr rfl))
  unfold breakX breakP putsS
  rw [tx_groups x hx, List.foldl_map, key]
  show [] ++ outT K [x] W (cut 0) _ = _
  rw [List.nil_append]
  rfl
theorem outT_len (K : Bc) (l : List LI) (W : Int) : ∀ (Ls : List (List Pt)) (y : Int), (outT K l W y Ls).length = Ls.length := by
  intro Ls
  induction Ls with
  | nil => intro y; rfl
  | cons L r ih =>
    intro y
    cases r with
    | nil => rfl
    | cons M r => show (outT K l W _ (M :: r)).length + 1 = _; rw [ih]; rfl
theorem outT_at (K : Bc) (l : List LI) (W : Int) : ∀ (Ls : List (List Pt)) (y : Int) (i : Nat), i < Ls.length → ∃ y', (outT K l W y Ls).getD i z39 = tellT K l W y' (Ls.getD i []) (decide (i + 1 = Ls.length)) := by
  intro Ls
  induction Ls with
  | nil => intro y i h; exact absurd h (Nat.not_lt_zero _)
  | cons L r ih =>
    intro y i h
    cases r with
    | nil =>
      have : i = 0 := by simp at h; omega
      subst this
      exact ⟨y, rfl⟩
    | cons M r =>
      cases i with
      | zero => exact ⟨y, by show tellT K l W y L false = tellT K l W y L (decide (0 + 1 = (L :: M :: r).length)); rw [decide_eq_false (by simp)]⟩
      | succ i =>
        obtain ⟨y', e⟩ := ih (wrap64 (y + (metP K l L).2)) i (by simpa using h)
        refine ⟨y', ?_⟩
        show (outT K l W _ (M :: r)).getD i _ = _
        rw [e]
        show tellT K l W y' ((M :: r).getD i []) _ = tellT K l W y' ((M :: r).getD i []) _
        congr 1
        simp
end Go.Proofs.Ytmkgapdadandmaa.Lin
namespace Go.Proofs.Ytmkgapdadandmaa.Lin
open Go.RowKit Go.Lib Go.Proofs.Ytmkgapdadandmaa.Pl Go.Proofs.Ytmkgapdadandmaa.Fx Go.Proofs.Ytmkgapdadandmaa.Fnt Go.Proofs.Ytmkgapdadandmaa.Brk Go.Proofs.Ytmkgapdadandmaa.Siz Go.Proofs.YtmkgapdadandmaaW.PrintWords Go.Proofs.YtmkgapdadandmaaW.PrintLast Go.Proofs.YtmkgapdadandmaaW.PrintMore
set_option linter.unusedVariables false
set_option linter.unusedSimpArgs false

/-- The item of the laws. -/
def LiT (x : LI) : Prop := x.f0 = 1 ∧ x.f6 = 0 ∧ (0 ≤ x.f3 ∧ x.f3 ≤ 255) ∧ x.f4 = 0
/-- A part as the laws have it: as wide as its runes; its blank as well. -/
structure PtN (x : LI) (p : Pt) : Prop where
  pt : PtT p
  w : p.w = wsum (rwt x.f3 x.f4) p.text.data.toList
  nn : 0 ≤ p.w
  tl : 0 ≤ tailP [x] p ∧ tailP [x] p ≤ p.w
  fl : ∀ q, p.text.data.toList = q ++ [32] → tailP [x] p = wsum (rwt x.f3 x.f4) [32] ∧ wsum (rwt x.f3 x.f4) q = p.w - tailP [x] p
  no : Lib.hasSuffix p.text.data.toList [32] = false → tailP [x] p = 0
theorem rwt_255 {x : LI} (h : LiT x) (r : Nat) : 0 ≤ rwt x.f3 x.f4 r ∧ rwt x.f3 x.f4 r ≤ 255 := by
  obtain ⟨_, _, ⟨h1, h2⟩, h4⟩ := h
  have hf := fou_bd (r : Int)
  unfold rwt adv prt sz
  rw [h4, show cut 0 = 0 by decide, show cut 4 = 4 by decide, if_neg (by decide), show cut x.f3 = x.f3 by unfold cut; omega, show max 0 x.f3 = x.f3 by omega, show cut x.f3 = x.f3 by unfold cut; omega]
  have hc : cut (fou (r : Int)) = fou (r : Int) := by unfold cut; omega
  rw [hc]
  generalize fou (r : Int) = v at *
  have hv : v = 0 ∨ v = 1 ∨ v = 2 ∨ v = 3 ∨ v = 4 := by omega
  unfold cut
  rcases hv with rfl | rfl | rfl | rfl | rfl <;> omega
theorem wsum_255 {x : LI} (h : LiT x) (t : List UInt8) (ht : t.length ≤ 2000) : 0 ≤ wsum (rwt x.f3 x.f4) t ∧ wsum (rwt x.f3 x.f4) t ≤ 510000 := by
  have h1 := wsum_bd (rwt x.f3 x.f4) 255 (by omega) (fun r => by have := rwt_255 h r; omega) 2000 t ht
  have h2 := wsum_nn (rwt x.f3 x.f4) (fun r => (rwt_255 h r).1) _ t (Nat.le_refl _)
  omega
theorem widP_255 {x : LI} (h : LiT x) (s : ByteArray) (hs : s.size ≤ 1000) : widP x.f3 x.f4 s = wsum (rwt x.f3 x.f4) s.data.toList := by
  have := wsum_255 h s.data.toList (by rw [← Lib.size_eq]; omega)
  unfold widP cut
  omega
theorem ends_iff (x : LI) (h : LiT x) {p : Pt} (hp : PtT p) : endsP [x] p = Lib.hasSuffix p.text.data.toList [32] := by
  unfold endsP; rw [itm_T x hp, h.1]; rfl
theorem coll_T (x : LI) (h : LiT x) {p : Pt} (hp : PtT p) : collP [x] p = true := by
  unfold collP; rw [itm_T x hp, h.1, h.2.1]; rfl
theorem has_suf {l q : List UInt8} (h : l = q ++ [32]) : Lib.hasSuffix l [32] = true := by
  unfold Lib.hasSuffix
  exact List.isSuffixOf_iff_suffix.2 ⟨q, h.symm⟩
theorem ptN_of {x : LI} (h : LiT x) {p : Pt} (hp : PtT p) (hs : p.text.size ≤ 1000) (hw : p.w = widP x.f3 x.f4 p.text) : PtN x p := by
  have hw2 := widP_255 h p.text hs
  have hb := wsum_255 h p.text.data.toList (by rw [← Lib.size_eq]; omega)
  have hfl : ∀ q, p.text.data.toList = q ++ [32] → tailP [x] p = wsum (rwt x.f3 x.f4) [32] ∧ wsum (rwt x.f3 x.f4) q = p.w - tailP [x] p := by
    intro q hq
    have hsz : p.text.size = q.length + 1 := by rw [Lib.size_eq, hq]; simp
    have hex : (p.text.extract 0 (p.text.size - 1)).data.toList = q := by
      rw [ByteArray.data_extract, Array.toList_extract, List.extract_eq_take_drop, hq, hsz]
      simp
    have hex2 : (p.text.extract 0 (p.text.size - 1)).size ≤ 1000 := by rw [ByteArray.size_extract]; omega
    have ht : tailP [x] p = p.w - wsum (rwt x.f3 x.f4) q := by
      unfold tailP
      rw [coll_T x h hp, ends_iff x h hp, has_suf hq, if_pos (by decide), itm_T x hp, widP_255 h _ hex2, hex]
    have hbs := blank_sum (rwt x.f3 x.f4) q
    rw [← hq] at hbs
    rw [ht, hw, hw2]
    omega
  have hno : Lib.hasSuffix p.text.data.toList [32] = false → tailP [x] p = 0 := by
    intro e
    unfold tailP
    rw [coll_T x h hp, ends_iff x h hp, e]
    rfl
  refine ⟨hp, hw.trans hw2, by rw [hw, hw2]; exact hb.1, ?_, hfl, hno⟩
  cases e : Lib.hasSuffix p.text.data.toList [32] with
  | false => rw [hno e, hw, hw2]; exact ⟨Int.le_refl _, hb.1⟩
  | true =>
    obtain ⟨q, hq⟩ := suf_snoc e
    obtain ⟨e1, e2⟩ := hfl q hq
    have b1 := wsum_255 h [32] (by simp)
    have b2 := wsum_255 h q (by have := Lib.size_eq p.text; rw [hq] at this; simp at this; omega)
    omega
theorem tx_texts (x : LI) : (txP x).map (fun p => p.text.data.toList) = (piecesX x.f2 x.f6).map (·.data.toList) := by
  unfold txP partsOf
  rw [List.map_map]
  apply List.ext_getElem
  · simp
  · intro i h1 h2
    simp only [List.length_map, List.length_range] at h1
    simp only [List.getElem_map, List.getElem_range, Function.comp_apply]
    show ((piecesX x.f2 x.f6).getD i noS).data.toList = _
    rw [List.getD_eq_getElem?_getD, List.getElem?_eq_getElem h1]
    rfl
theorem len_flat : ∀ ts : List (List UInt8), (∀ t, t ∈ ts → 0 < t.length) → ts.length ≤ ts.flatten.length := by
  intro ts
  induction ts with
  | nil => intro _; exact Nat.le_refl _
  | cons t ts ih =>
    intro h
    have h1 := h t (List.mem_cons_self ..)
    have h2 := ih (fun x hx => h x (List.mem_cons_of_mem _ hx))
    rw [List.flatten_cons, List.length_append, List.length_cons]
    omega
/-- The parts of a collapsed text. -/
theorem tx_nice {x : LI} (h : LiT x) (hs : x.f2.size ≤ 1000) (hh : x.f2.data.toList.head? ≠ some 32) :
    (∀ p, p ∈ txP x → PtN x p) ∧ Cuts ((txP x).map (fun p => p.text.data.toList)) ∧ ((txP x).map (fun p => p.text.data.toList)).flatten = x.f2.data.toList ∧ (txP x).length ≤ x.f2.size := by
  obtain ⟨n1, n2, n3, n4⟩ := pieces_nice x.f2 hh
  have hok := pcX_ok x.f2 0 (piecesX x.f2 0) ⟨hs, rfl⟩
  rw [tx_texts, h.2.1, tx_len, h.2.1]
  have hlen : (piecesX x.f2 0).length ≤ x.f2.size := by
    have := len_flat ((piecesX x.f2 0).map (·.data.toList)) (fun t ht => by
      obtain ⟨y, hy, rfl⟩ := List.mem_map.1 ht
      have := n4 y hy
      rwa [Lib.size_eq] at this)
    rw [n1, ← Lib.size_eq, List.length_map] at this
    exact this
  refine ⟨fun p hp => ?_, n2, n1, hlen⟩
  obtain ⟨i, hi, rfl⟩ := tx_mem x hp
  rw [h.2.1] at hi
  have hm : (piecesX x.f2 x.f6).getD i noS ∈ piecesX x.f2 0 := by rw [h.2.1, List.getD_eq_getElem?_getD, List.getElem?_eq_getElem hi]; exact List.getElem_mem _
  refine ptN_of h ⟨rfl, ?_⟩ (hok.2 _ hm) rfl
  show ((piecesX x.f2 x.f6).getD i noS).toList ≠ [32]
  rw [ByteArray.toList_eq]
  intro e
  have := n3 _ hm
  rw [e] at this
  exact this rfl
theorem endI_T {x : LI} (hx : x.f0 = 1) (M0 : List Pt) (p : Pt) (hp : PtT p) : endI [x] (M0 ++ [p]) = (M0.length : Int) := by
  unfold endI
  rw [List.length_append, List.length_singleton, lastI, if_pos]
  rw [List.getD_eq_getElem?_getD, List.getElem?_append_right (Nat.le_refl _)]
  simpa using solid_T hx hp
theorem endPt_T {x : LI} (hx : x.f0 = 1) (M0 : List Pt) (p : Pt) (hp : PtT p) : endPt [x] (M0 ++ [p]) = p := by
  unfold endPt
  rw [endI_T hx M0 p hp, Int.toNat_natCast, List.getD_eq_getElem?_getD, List.getElem?_append_right (Nat.le_refl _)]
  simp
theorem trim_T {x : LI} (hx : x.f0 = 1) (M0 : List Pt) (p : Pt) (hp : PtT p) : trimP [x] (M0 ++ [p]) = M0 ++ [if tailP [x] p = 0 then p else trimAt [x] p] := by
  unfold trimP
  rw [endI_T hx M0 p hp, endPt_T hx M0 p hp, Int.toNat_natCast]
  by_cases h : tailP [x] p = 0
  · rw [if_neg (fun k => k.2 h), if_pos h]
  · rw [if_pos ⟨by omega, h⟩, if_neg h, List.set_append_right _ _ (Nat.le_refl _)]
    simp
theorem wAll_app (a b : List Pt) : wAll (a ++ b) = wAll a + wAll b := by unfold wAll; rw [List.map_append, List.sum_append]
theorem wAll_one (p : Pt) : wAll [p] = p.w := by unfold wAll; simp
theorem trim_w {x : LI} (hx : x.f0 = 1) (M0 : List Pt) (p : Pt) (hp : PtT p) : wAll (trimP [x] (M0 ++ [p])) = wAll M0 + p.w - tailP [x] p := by
  rw [trim_T hx M0 p hp, wAll_app, wAll_one]
  split
  · rename_i h; omega
  · show wAll M0 + (p.w - tailP [x] p) = _; omega
theorem trim_at {x : LI} (M : List Pt) (h : ∀ p, p ∈ M → p.at_ = 0) : ∀ p, p ∈ trimP [x] M → p.at_ = 0 := by
  intro p hp
  unfold trimP at hp
  split at hp
  · rename_i hc
    rcases List.mem_or_eq_of_mem_set hp with hp | rfl
    · exact h p hp
    · have hb := (lastI_bd [x] M M.length).2
      have hlt : (endI [x] M).toNat < M.length := by have : endI [x] M < (M.length : Int) := hb; omega
      show (endPt [x] M).at_ = 0
      refine h _ ?_
      unfold endPt
      rw [List.getD_eq_getElem?_getD, List.getElem?_eq_getElem hlt]
      exact List.getElem_mem _
  · exact h p hp
/-- What stands how far along a line. -/
theorem pcs_at {x : LI} (hx : x.f0 = 1) (ps : List Pt) (gs : List Int) (h : ∀ p, p ∈ ps → p.at_ = 0) : ∀ k, k ≤ ps.length → k ≤ gs.length →
    (pcsP [x] ps gs k).1 = wAll (ps.take k) + (gs.take k).sum ∧ (pcsP [x] ps gs k).2 = (List.range k).map fun j => ⟨0, cut (wAll (ps.take j) + (gs.take j).sum), cut (ps.getD j zPt).w, (ps.getD j zPt).text⟩ := by
  intro k
  induction k with
  | zero => intro _ _; exact ⟨rfl, rfl⟩
  | succ k ih =>
    intro hk hg
    obtain ⟨i1, i2⟩ := ih (by omega) (by omega)
    have hm : ps.getD k zPt ∈ ps := by rw [List.getD_eq_getElem?_getD, List.getElem?_eq_getElem (by omega)]; exact List.getElem_mem _
    have ha := h _ hm
    have h5 : ¬ (itm [x] (ps.getD k zPt)).f0 = 5 := by unfold itm; rw [ha]; show ¬ x.f0 = 5; rw [hx]; decide
    show (pcS [x] ps gs (pcsP [x] ps gs k) k).1 = _ ∧ (pcS [x] ps gs (pcsP [x] ps gs k) k).2 = _
    unfold pcS
    rw [if_neg h5, i1, i2, w_succ ps k (by omega), Go.Proofs.Ytmkgapdadandmaa.Sm.take_sum _ k (by omega), List.range_succ, List.map_append, ha]
    exact ⟨by show _ + (_ + _) = _; omega, rfl⟩
theorem snoc_of {M : List Pt} (h : M ≠ []) : ∃ M0 p, M = M0 ++ [p] := by
  rcases List.eq_nil_or_concat M with e | ⟨M0, p, e⟩
  · exact absurd e h
  · exact ⟨M0, p, by simpa using e⟩
/-- What is told of a line of one text. -/
theorem tell_at (K : Bc) {x : LI} (h : LiT x) (W y : Int) (M : List Pt) (last : Bool) (hM : ∀ p, p ∈ M → PtN x p) :
    (tellT K [x] W y M last).f2 = cut (wAll (trimP [x] M) + (gapsP K [x] ⟨y, 0, 0, W, M, true, []⟩ last).sum) ∧
    (tellT K [x] W y M last).f5 = ((List.range M.length).map fun j => ⟨0, cut (wAll ((trimP [x] M).take j) + ((gapsP K [x] ⟨y, 0, 0, W, M, true, []⟩ last).take j).sum), cut ((trimP [x] M).getD j zPt).w, ((trimP [x] M).getD j zPt).text⟩) ∧ (tellT K [x] W y M last).f6 = last := by
  have hg : (gapsP K [x] ⟨y, 0, 0, W, M, true, []⟩ last).length = M.length := gaps_len K [x] _ last
  have ha := trim_at (x := x) M (fun p hp => (hM p hp).pt.1)
  obtain ⟨p1, p2⟩ := pcs_at h.1 (trimP [x] M) (gapsP K [x] ⟨y, 0, 0, W, M, true, []⟩ last) ha M.length (by rw [trim_len]; exact Nat.le_refl _) (by rw [hg]; exact Nat.le_refl _)
  refine ⟨?_, p2, rfl⟩
  show cut (pcsP [x] (trimP [x] M) (gapsP K [x] ⟨y, 0, 0, W, M, true, []⟩ last) M.length).1 = _
  rw [p1]
  rw [List.take_of_length_le (by rw [trim_len]; exact Nat.le_refl _), List.take_of_length_le (by rw [hg]; exact Nat.le_refl _)]
theorem sum_zero : ∀ n : Nat, (List.replicate n (0 : Int)).sum = 0 := by
  intro n
  induction n with
  | zero => rfl
  | succ n ih => rw [List.replicate_succ, List.sum_cons, ih]; rfl
theorem cut_mono {a b : Int} (h : a ≤ b) : cut a ≤ cut b := by unfold cut; omega
theorem gaps_start {K : Bc} (hK : K.align ≠ 3) (l : List LI) (s : Bk) (last : Bool) : gapsP K l s last = List.replicate s.line.length 0 := by
  unfold gapsP; rw [if_neg (fun h => hK h.1)]
theorem gaps_last (K : Bc) (l : List LI) (s : Bk) : gapsP K l s true = List.replicate s.line.length 0 := by
  unfold gapsP; rw [if_neg (fun h => absurd h.2 (by decide))]
theorem gap01_len (l : List LI) (ps : List Pt) (e : Int) : (gap01 l ps e).length = ps.length := by unfold gap01; rw [List.length_map, List.length_range]
theorem gaps_nn (K : Bc) (l : List LI) (s : Bk) (last : Bool) (hn : s.line.length ≤ 1000) : ∀ k, k ≤ s.line.length → 0 ≤ ((gapsP K l s last).take k).sum := by
  have hl := gaps_len K l s last
  intro k
  induction k with
  | zero => intro _; exact Int.le_refl _
  | succ k ih =>
    intro hk
    have := ih (by omega)
    rw [Go.Proofs.Ytmkgapdadandmaa.Sm.take_sum _ k (by omega)]
    have hg : 0 ≤ (gapsP K l s last).getD k 0 := by
      unfold gapsP
      split
      · refine (Go.Proofs.Ytmkgapdadandmaa.Sm.share_at _ _ k (by rw [gap01_len, trim_len]; omega) (by rw [gap01_len, trim_len]; omega)).2.1 ?_
        unfold freeP; omega
      · rw [List.getD_eq_getElem?_getD, List.getElem?_replicate]
        split <;> decide
    omega
end Go.Proofs.Ytmkgapdadandmaa.Lin
namespace Go.Proofs.Ytmkgapdadandmaa.Lin
open Go.RowKit Go.Lib Go.Proofs.Ytmkgapdadandmaa.Pl Go.Proofs.Ytmkgapdadandmaa.Fx Go.Proofs.Ytmkgapdadandmaa.Fnt Go.Proofs.Ytmkgapdadandmaa.Brk Go.Proofs.Ytmkgapdadandmaa.Siz Go.Proofs.YtmkgapdadandmaaW.PrintWords Go.Proofs.YtmkgapdadandmaaW.PrintLast Go.Proofs.YtmkgapdadandmaaW.PrintMore
set_option linter.unusedVariables false
set_option linter.unusedSimpArgs false

theorem map_getD {α : Type} (f : Nat → α) (z : α) (n k : Nat) (h : k < n) : ((List.range n).map f).getD k z = f k := by
  rw [List.getD_eq_getElem?_getD, List.getElem?_map, List.getElem?_range h]; rfl
theorem ws_pos (xs : List Int) (k : Nat) (hk : k < xs.length) (h9 : k < 1000) (h1 : xs.getD k 0 = 1) : ¬ Go.Proofs.Ytmkgapdadandmaa.Sh.ws xs xs.length = 0 := by
  have h2 := Go.Proofs.Ytmkgapdadandmaa.Sh.ws_mono xs (show k + 1 ≤ xs.length by omega)
  have h3 := (Go.Proofs.Ytmkgapdadandmaa.Sh.ws_bd xs k).1
  have h4 : Go.Proofs.Ytmkgapdadandmaa.Sh.ws xs (k + 1) = Go.Proofs.Ytmkgapdadandmaa.Sh.ws xs k + Go.Proofs.Ytmkgapdadandmaa.Sh.wt xs k := rfl
  have h5 : Go.Proofs.Ytmkgapdadandmaa.Sh.wt xs k = 1 := by unfold Go.Proofs.Ytmkgapdadandmaa.Sh.wt; rw [if_neg (by omega), h1]; decide
  omega
theorem take_len {M : List Pt} {k : Nat} : wAll (M.take k) + wAll (M.drop k) = wAll M := by rw [← wAll_app, List.take_append_drop]
theorem w_nn {x : LI} : ∀ M : List Pt, (∀ p, p ∈ M → PtN x p) → 0 ≤ wAll M := by
  intro M
  induction M with
  | nil => intro _; exact Int.le_refl _
  | cons p M ih =>
    intro h
    have h1 := (h p (List.mem_cons_self ..)).nn
    have h2 := ih (fun q hq => h q (List.mem_cons_of_mem _ hq))
    have : wAll (p :: M) = p.w + wAll M := by unfold wAll; rw [List.map_cons, List.sum_cons]
    omega
/-- A line that is justified, held against the same one that is not. -/
theorem just_line {Kj Ks : Bc} (hj : Kj.align = 3) (hs : Ks.align ≠ 3) {x : LI} (h : LiT x) {W : Int} (hW : 0 ≤ W ∧ W ≤ 65535) (y y' : Int) {M : List Pt} (last : Bool) (hM : ∀ p, p ∈ M → PtN x p) (hn : M.length ≤ 1000) (hok : OkT [x] W M) :
    ((tellT Kj [x] W y M last).f5.length = M.length ∧ (tellT Ks [x] W y' M last).f5.length = M.length) ∧
    (∀ k, k < M.length → ((tellT Ks [x] W y' M last).f5.getD k z41).f1 ≤ ((tellT Kj [x] W y M last).f5.getD k z41).f1 ∧ ((tellT Kj [x] W y M last).f5.getD k z41).f3 = ((tellT Ks [x] W y' M last).f5.getD k z41).f3) ∧
    (last = false → ∀ k, k + 1 < M.length → Lib.hasSuffix ((tellT Kj [x] W y M last).f5.getD k z41).f3.data.toList [32] = true → (tellT Kj [x] W y M last).f2 = W) ∧
    (last = true → (tellT Kj [x] W y M last).f2 = (tellT Ks [x] W y' M last).f2) ∧ (tellT Kj [x] W y M last).f6 = last := by
  obtain ⟨a2, a5, a6⟩ := tell_at Kj h W y M last hM
  obtain ⟨b2, b5, b6⟩ := tell_at Ks h W y' M last hM
  have hgs := gaps_start hs [x] ⟨y', 0, 0, W, M, true, []⟩ last
  have hz : ∀ k, ((List.replicate M.length (0 : Int)).take k).sum = 0 := fun k => by rw [List.take_replicate]; exact sum_zero _
  refine ⟨⟨by rw [a5]; simp, by rw [b5]; simp⟩, fun k hk => ?_, fun hl k hk hsuf => ?_, fun hl => ?_, a6⟩
  · rw [a5, b5, map_getD _ _ _ _ hk, map_getD _ _ _ _ hk, hgs]
    have := gaps_nn Kj [x] ⟨y, 0, 0, W, M, true, []⟩ last hn k (Nat.le_of_lt hk)
    refine ⟨cut_mono ?_, rfl⟩
    show wAll _ + ((List.replicate M.length (0 : Int)).take k).sum ≤ _
    rw [hz]
    omega
  · rw [a5, map_getD _ _ _ _ (by omega)] at hsuf
    have hsuf : Lib.hasSuffix ((trimP [x] M).getD k zPt).text.data.toList [32] = true := hsuf
    obtain ⟨M0, p, rfl⟩ := snoc_of (show M ≠ [] by intro e; rw [e] at hk; simp at hk)
    have hp := (hM p (by simp)).pt
    have hln : (M0 ++ [p]).length = M0.length + 1 := by simp
    have hM0 : M0 ≠ [] := by intro e; rw [hln, e] at hk; simp at hk
    have hfit := hok M0 p rfl hM0
    unfold fitT at hfit
    have hw := trim_w h.1 M0 p hp
    have hnn : 0 ≤ wAll M0 + p.w - tailP [x] p := by
      have h1 := w_nn M0 (fun q hq => hM q (List.mem_append_left _ hq))
      have h2 := (hM p (by simp)).tl
      omega
    have hfree : freeP [x] ⟨y, 0, 0, W, M0 ++ [p], true, []⟩ = W - (wAll M0 + p.w - tailP [x] p) := by
      unfold freeP
      show max 0 (W - 0 - wAll (trimP [x] (M0 ++ [p]))) = _
      rw [hw]
      omega
    have hkt : k < (trimP [x] (M0 ++ [p])).length := by rw [trim_len]; omega
    have hmem : (trimP [x] (M0 ++ [p])).getD k zPt ∈ trimP [x] (M0 ++ [p]) := by rw [List.getD_eq_getElem?_getD, List.getElem?_eq_getElem hkt]; exact List.getElem_mem _
    have hat := trim_at (x := x) (M0 ++ [p]) (fun q hq => (hM q hq).pt.1) _ hmem
    have hgap : (gap01 [x] (trimP [x] (M0 ++ [p])) (endI [x] (M0 ++ [p]))).getD k 0 = 1 := by
      unfold gap01
      rw [map_getD _ _ _ _ hkt]
      unfold gap1
      rw [endI_T h.1 M0 p hp, if_pos]
      refine ⟨by omega, ?_⟩
      unfold endsP itm
      rw [hat, hsuf]
      show ((x.f0 == 1) && true) = true
      rw [h.1]; rfl
    have hws := ws_pos _ k (by rw [gap01_len]; exact hkt) (by omega) hgap
    have hsum : (gapsP Kj [x] ⟨y, 0, 0, W, M0 ++ [p], true, []⟩ last).sum = W - (wAll M0 + p.w - tailP [x] p) := by
      unfold gapsP
      rw [if_pos ⟨hj, hl⟩, Go.Proofs.Ytmkgapdadandmaa.Sm.share_sum, if_neg hws, hfree]
      unfold cut; omega
    rw [a2, hsum, hw]
    unfold cut; omega
  · rw [a2, b2]
    subst hl
    rw [gaps_last, hgs]
/-- A text without the blank that it ends with. -/
def noB (t : List UInt8) : List UInt8 := if Lib.hasSuffix t [32] = true then t.take (t.length - 1) else t
theorem noB_snoc (q : List UInt8) : noB (q ++ [32]) = q := by
  unfold noB; rw [if_pos (has_suf rfl)]; simp
theorem noB_no {t : List UInt8} (h : Lib.hasSuffix t [32] = false) : noB t = t := by
  unfold noB; rw [if_neg (by rw [h]; decide)]
theorem snoc_suf {t : List UInt8} (h : ∀ a, t ≠ a ++ [32]) : Lib.hasSuffix t [32] = false := by
  cases e : Lib.hasSuffix t [32] with
  | false => rfl
  | true => obtain ⟨q, hq⟩ := suf_snoc e; exact absurd hq (h q)
/-- No line is wider than its room, unless it is one piece alone. -/
theorem fit_line {K : Bc} (hK : K.align ≠ 3) {x : LI} (h : LiT x) {W : Int} (hW : 0 ≤ W ∧ W ≤ 65535) (y : Int) {M : List Pt} (last : Bool) (hM : ∀ p, p ∈ M → PtN x p) (hne : M ≠ []) (hok : OkT [x] W M) :
    (tellT K [x] W y M last).f5.length = M.length ∧ (W < (tellT K [x] W y M last).f2 → M.length = 1) ∧ ∀ k, k < M.length → ((tellT K [x] W y M last).f5.getD k z41).f3 = ((trimP [x] M).getD k zPt).text := by
  obtain ⟨a2, a5, a6⟩ := tell_at K h W y M last hM
  have hgs := gaps_start hK [x] ⟨y, 0, 0, W, M, true, []⟩ last
  refine ⟨by rw [a5]; simp, fun hw => ?_, fun k hk => by rw [a5, map_getD _ _ _ _ hk]⟩
  obtain ⟨M0, p, rfl⟩ := snoc_of hne
  by_cases hM0 : M0 = []
  · subst hM0; rfl
  · exfalso
    have hfit := hok M0 p rfl hM0
    unfold fitT at hfit
    rw [a2, hgs, trim_w h.1 M0 p (hM p (by simp)).pt, show (List.replicate (⟨y, 0, 0, W, M0 ++ [p], true, []⟩ : Bk).line.length (0 : Int)).sum = 0 from sum_zero _] at hw
    unfold cut at hw
    omega
/-- The texts of a line, as they are told. -/
def textsT (x : LI) (M : List Pt) : List (List UInt8) := (trimP [x] M).map fun p => p.text.data.toList
theorem trimAt_text (x : LI) {p : Pt} {q : List UInt8} (h : p.text.data.toList = q ++ [32]) : (trimAt [x] p).text.data.toList = q := by
  have hsz : p.text.size = q.length + 1 := by rw [Lib.size_eq, h]; simp
  show (p.text.extract 0 (p.text.size - 1)).data.toList = q
  rw [ByteArray.data_extract, Array.toList_extract, List.extract_eq_take_drop, h, hsz]
  simp
/-- All that is told of a line is its text, but for the blank at its end. -/
theorem whole_T {x : LI} (h : LiT x) {M : List Pt} (hne : M ≠ []) (hM : ∀ p, p ∈ M → PtN x p) : (textsT x M).flatten = (M.map fun p => p.text.data.toList).flatten ∨ (textsT x M).flatten ++ [32] = (M.map fun p => p.text.data.toList).flatten := by
  obtain ⟨M0, p, rfl⟩ := snoc_of hne
  have hp := hM p (by simp)
  unfold textsT
  rw [trim_T h.1 M0 p hp.pt]
  by_cases ht : tailP [x] p = 0
  · rw [if_pos ht]; exact .inl rfl
  · rw [if_neg ht]
    cases e : Lib.hasSuffix p.text.data.toList [32] with
    | false => exact absurd (hp.no e) ht
    | true =>
      obtain ⟨q, hq⟩ := suf_snoc e
      right
      rw [List.map_append, List.map_append, List.flatten_append, List.flatten_append]
      simp only [List.map_cons, List.map_nil, List.flatten_cons, List.flatten_nil, List.append_nil]
      rw [trimAt_text x hq, hq, List.append_assoc]
/-- What stands first in the next line. -/
theorem next_T {x : LI} (h : LiT x) {p : Pt} {r : List Pt} (hM : ∀ q, q ∈ p :: r → PtN x q) (hna : NoAdj p.text.data.toList) : noB ((trimP [x] (p :: r)).getD 0 zPt).text.data.toList = noB p.text.data.toList := by
  have hp := hM p (List.mem_cons_self ..)
  cases r with
  | nil =>
    rw [show trimP [x] [p] = [] ++ [if tailP [x] p = 0 then p else trimAt [x] p] from trim_T h.1 [] p hp.pt]
    show noB (if tailP [x] p = 0 then p else trimAt [x] p).text.data.toList = _
    by_cases ht : tailP [x] p = 0
    · rw [if_pos ht]
    · rw [if_neg ht]
      cases e : Lib.hasSuffix p.text.data.toList [32] with
      | false => exact absurd (hp.no e) ht
      | true =>
        obtain ⟨q, hq⟩ := suf_snoc e
        rw [trimAt_text x hq, hq, noB_snoc]
        refine noB_no (snoc_suf (fun a ea => ?_))
        refine hna a [] ?_
        rw [hq, ea]
        simp
  | cons p2 r =>
    obtain ⟨M0, q, e⟩ := snoc_of (show p2 :: r ≠ [] by simp)
    have e2 : p :: p2 :: r = (p :: M0) ++ [q] := by rw [e]; rfl
    rw [e2, trim_T h.1 (p :: M0) q (hM q (by rw [e2]; simp)).pt]
    rfl
theorem noAdj_sub {A B t : List UInt8} (h : NoAdj (A ++ (t ++ B))) : NoAdj t := fun a b e => h (A ++ a) (b ++ B) (by rw [e]; simp)
/-- What stands first in the next line would have had no room. -/
theorem fit_next {x : LI} (h : LiT x) {W : Int} (hW : 0 ≤ W ∧ W ≤ 65535) {T : List UInt8} (hna : NoAdj T) (hT : T.length ≤ 1000) {ps : List Pt} (hps : ∀ p, p ∈ ps → PtN x p) (hc : Cuts (ps.map fun p => p.text.data.toList)) (hfl : (ps.map fun p => p.text.data.toList).flatten = T) {A B : List (List Pt)} {M M' : List Pt} (e : linT [x] W [] ps = A ++ M :: M' :: B) :
    W < cut (wsum (rwt x.f3 x.f4) ((textsT x M).flatten ++ noB ((trimP [x] M').getD 0 zPt).text.data.toList)) ∨ W < cut (wsum (rwt x.f3 x.f4) ((textsT x M).flatten ++ [32] ++ noB ((trimP [x] M').getD 0 zPt).text.data.toList)) := by
  have hflat := linT_flat [x] W ps []
  rw [e, List.nil_append] at hflat
  obtain ⟨p, r, rfl, hnf⟩ := linT_next [x] W ps [] A M M' B e
  have hne : M ≠ [] := linT_ne [x] W ps [] M (by rw [e]; simp)
  have hdec : ps = A.flatten ++ ((M ++ [p]) ++ (r ++ B.flatten)) := by rw [← hflat]; simp
  have hMm : ∀ q, q ∈ M → PtN x q := fun q hq => hps q (by rw [hdec]; simp [hq])
  have hp : PtN x p := hps p (by rw [hdec]; simp)
  have hMr : ∀ q, q ∈ p :: r → PtN x q := fun q hq => hps q (by
    rw [hdec]
    rcases List.mem_cons.1 hq with rfl | hq
    · simp
    · simp [hq])
  have hsub : T = (A.flatten.map fun p => p.text.data.toList).flatten ++ (((M.map fun p => p.text.data.toList).flatten ++ p.text.data.toList) ++ ((r ++ B.flatten).map fun p => p.text.data.toList).flatten) := by
    rw [← hfl, hdec]; simp
  have hnap : NoAdj p.text.data.toList := by
    rw [hsub] at hna
    have h1 := noAdj_sub hna
    exact noAdj_sub (A := (M.map fun p => p.text.data.toList).flatten) (B := []) (by rw [List.append_nil]; exact h1)
  have hlen : ((M.map fun p => p.text.data.toList).flatten ++ p.text.data.toList).length ≤ 1000 := by
    have := congrArg List.length hsub
    rw [List.length_append, List.length_append] at this
    omega
  have hs := cuts_sum hc (rwt x.f3 x.f4) ((M ++ [p]).map fun p => p.text.data.toList) (A.flatten.map fun p => p.text.data.toList) ((r ++ B.flatten).map fun p => p.text.data.toList) (by rw [hdec]; simp)
  have hsumw : ∀ L : List Pt, (∀ q, q ∈ L → PtN x q) → ((L.map fun p => p.text.data.toList).map (wsum (rwt x.f3 x.f4))).sum = wAll L := by
    intro L
    induction L with
    | nil => intro _; rfl
    | cons q L ih =>
      intro hL
      have : wAll (q :: L) = q.w + wAll L := by unfold wAll; rw [List.map_cons, List.sum_cons]
      rw [List.map_cons, List.map_cons, List.sum_cons, ih (fun u hu => hL u (List.mem_cons_of_mem _ hu)), this, (hL q (List.mem_cons_self ..)).w]
  rw [hsumw (M ++ [p]) (fun q hq => by
    rcases List.mem_append.1 hq with hq | hq
    · exact hMm q hq
    · rw [List.mem_singleton] at hq; subst hq; exact hp), wAll_app, wAll_one] at hs
  rw [next_T h hMr hnap]
  unfold fitT at hnf
  have hkey : W < wsum (rwt x.f3 x.f4) ((M.map fun p => p.text.data.toList).flatten ++ noB p.text.data.toList) := by
    have e1 : ((M ++ [p]).map fun p => p.text.data.toList).flatten = (M.map fun p => p.text.data.toList).flatten ++ p.text.data.toList := by simp
    rw [e1] at hs
    cases eh : Lib.hasSuffix p.text.data.toList [32] with
    | false => rw [noB_no eh, hs]; have := hp.no eh; omega
    | true =>
      obtain ⟨q, hq⟩ := suf_snoc eh
      rw [hq, noB_snoc]
      rw [hq, ← List.append_assoc, blank_sum] at hs
      have := (hp.fl q hq).1
      omega
  have hbig : ∀ v : Int, W < v → W < cut v := fun v hv => by unfold cut; omega
  rcases whole_T h hne hMm with ew | ew
  · left; rw [ew]; exact hbig _ hkey
  · right; rw [ew]; exact hbig _ hkey
end Go.Proofs.Ytmkgapdadandmaa.Lin
namespace Go.Proofs.Ytmkgapdadandmaa.Lin
open Go.RowKit Go.Lib Go.Proofs.Ytmkgapdadandmaa.Pl Go.Proofs.Ytmkgapdadandmaa.Fx Go.Proofs.Ytmkgapdadandmaa.Fnt Go.Proofs.Ytmkgapdadandmaa.Brk Go.Proofs.Ytmkgapdadandmaa.Siz Go.Proofs.YtmkgapdadandmaaW.PrintWords Go.Proofs.YtmkgapdadandmaaW.PrintLast Go.Proofs.YtmkgapdadandmaaW.PrintMore
set_option linter.unusedVariables false
set_option linter.unusedSimpArgs false

/-- What the law of justified lines asks of one line, and of the same one that is not justified. -/
def JustL (W : Int) (a b : LL) : Prop :=
  a.f5.length = b.f5.length ∧ (∀ k, k < a.f5.length → (b.f5.getD k z41).f1 ≤ (a.f5.getD k z41).f1 ∧ (a.f5.getD k z41).f3 = (b.f5.getD k z41).f3) ∧
  (a.f6 = false → ∀ k, k + 1 < a.f5.length → Lib.hasSuffix (a.f5.getD k z41).f3.data.toList [32] = true → a.f2 = W) ∧ (a.f6 = true → a.f2 = b.f2) ∧ ∀ k, k < a.f5.length → (a.f5.getD k z41).f3.size ≤ 1000
theorem mem_len {Ls : List (List Pt)} {M : List Pt} (h : M ∈ Ls) : M.length ≤ Ls.flatten.length := by
  obtain ⟨A, B, rfl⟩ := List.append_of_mem h
  rw [List.flatten_append, List.length_append, List.flatten_cons, List.length_append]
  omega
theorem mem_txt {Ls : List (List Pt)} {M : List Pt} (h : M ∈ Ls) (f : Pt → List UInt8) : (M.map f).flatten.length ≤ (Ls.flatten.map f).flatten.length := by
  obtain ⟨A, B, rfl⟩ := List.append_of_mem h
  rw [List.flatten_append, List.flatten_cons, List.map_append, List.map_append, List.flatten_append, List.flatten_append, List.length_append, List.length_append]
  omega
theorem texts_of {K : Bc} {x : LI} (h : LiT x) (W y : Int) (M : List Pt) (last : Bool) (hM : ∀ p, p ∈ M → PtN x p) : ((tellT K [x] W y M last).f5.map fun p => p.f3.data.toList) = textsT x M := by
  obtain ⟨a2, a5, a6⟩ := tell_at K h W y M last hM
  rw [a5]
  unfold textsT
  rw [List.map_map]
  apply List.ext_getElem
  · simp [trim_len]
  · intro i h1 h2
    rw [List.length_map, trim_len] at h2
    simp only [List.getElem_map, List.getElem_range, Function.comp_apply]
    rw [List.getD_eq_getElem?_getD, List.getElem?_eq_getElem (by rw [trim_len]; exact h2)]
    rfl
theorem texts_le {K : Bc} {x : LI} (h : LiT x) (W y : Int) {Ls : List (List Pt)} {ps : List Pt} (hfl : Ls.flatten = ps) {T : List UInt8} (hT : (ps.map fun p => p.text.data.toList).flatten = T) {M : List Pt} (hm : M ∈ Ls) (hne : M ≠ []) (last : Bool) (hM : ∀ p, p ∈ M → PtN x p) :
    ((tellT K [x] W y M last).f5.map fun p => p.f3.data.toList).flatten.length ≤ T.length := by
  rw [texts_of h W y _ _ hM]
  have hw := whole_T h hne hM
  have h1 := mem_txt hm (fun p => p.text.data.toList)
  rw [hfl, hT] at h1
  rcases hw with e | e
  · rw [e]; exact h1
  · have := congrArg List.length e
    rw [List.length_append] at this
    omega
theorem piece_le : ∀ (l : List LP) (k : Nat), k < l.length → (l.getD k z41).f3.size ≤ (l.map fun p => p.f3.data.toList).flatten.length := by
  intro l k hk
  have e : l.getD k z41 = l[k] := by rw [List.getD_eq_getElem?_getD, List.getElem?_eq_getElem hk]; rfl
  rw [e]
  obtain ⟨A, B, hAB⟩ := List.append_of_mem (List.getElem_mem hk)
  generalize l[k] = p at *
  subst hAB
  rw [List.map_append, List.map_cons, List.flatten_append, List.flatten_cons, List.length_append, List.length_append, Lib.size_eq]
  omega
theorem just_law {Kj Ks : Bc} (hj : Kj.align = 3) (hs : Ks.align ≠ 3) {x : LI} (h : LiT x) (hz : x.f2.size ≤ 1000) (hh : x.f2.data.toList.head? ≠ some 32) {W : Int} (hW : 0 ≤ W ∧ W ≤ 65535) :
    (breakX Kj [x] W (s0 0 0)).length = (breakX Ks [x] W (s0 0 0)).length ∧ ∀ i, i < (breakX Kj [x] W (s0 0 0)).length → JustL W ((breakX Kj [x] W (s0 0 0)).getD i z39) ((breakX Ks [x] W (s0 0 0)).getD i z39) := by
  obtain ⟨n1, n2, n3, n4⟩ := tx_nice h hz hh
  have hpt : ∀ p, p ∈ txP x → PtT p := fun p hp => (n1 p hp).pt
  rw [break_T Kj h.1 W hpt, break_T Ks h.1 W hpt]
  rw [outT_len, outT_len]
  refine ⟨rfl, fun i hi => ?_⟩
  obtain ⟨y, e1⟩ := outT_at Kj [x] W (linT [x] W [] (txP x)) 0 i hi
  obtain ⟨y', e2⟩ := outT_at Ks [x] W (linT [x] W [] (txP x)) 0 i hi
  rw [e1, e2]
  have hfl := linT_flat [x] W (txP x) []
  have hm : (linT [x] W [] (txP x)).getD i [] ∈ linT [x] W [] (txP x) := by rw [List.getD_eq_getElem?_getD, List.getElem?_eq_getElem hi]; exact List.getElem_mem _
  have hlen := mem_len hm
  rw [hfl, List.nil_append] at hlen
  have hM : ∀ p, p ∈ (linT [x] W [] (txP x)).getD i [] → PtN x p := fun p hp => by
    refine n1 p ?_
    have : p ∈ (linT [x] W [] (txP x)).flatten := List.mem_flatten.2 ⟨_, hm, hp⟩
    rw [hfl] at this
    exact this
  have hok := linT_ok [x] W (txP x) [] (fun M0 p e h => by have := congrArg List.length e; rw [List.length_append] at this; simp at this) _ hm
  obtain ⟨⟨l1, l2⟩, l3, l4, l5, l6⟩ := just_line hj hs h hW y y' (decide (i + 1 = (linT [x] W [] (txP x)).length)) hM (by omega) hok
  have hne := linT_ne [x] W (txP x) [] _ hm
  have htl := texts_le (K := Kj) h W y (hfl.trans (List.nil_append _)) n3 hm hne (decide (i + 1 = (linT [x] W [] (txP x)).length)) hM
  rw [← Lib.size_eq] at htl
  refine ⟨by rw [l1, l2], fun k hk => l3 k (by rw [l1] at hk; exact hk), fun hf k hk hsuf => ?_, fun hf => ?_, fun k hk => Nat.le_trans (piece_le _ k hk) (Nat.le_trans htl hz)⟩
  · rw [l6] at hf
    exact l4 hf k (by rw [l1] at hk; exact hk) hsuf
  · rw [l6] at hf
    exact l5 hf
/-- What the law of lines that fit asks of a line, and of the next one. -/
def FitL (x : LI) (W : Int) (a b : LL) : Prop :=
  W < cut (wsum (rwt x.f3 x.f4) ((a.f5.map fun p => p.f3.data.toList).flatten ++ Lib.trimSuffix (b.f5.getD 0 z41).f3.data.toList [32])) ∨ W < cut (wsum (rwt x.f3 x.f4) ((a.f5.map fun p => p.f3.data.toList).flatten ++ [32] ++ Lib.trimSuffix (b.f5.getD 0 z41).f3.data.toList [32]))
theorem getD_split {α : Type} (z : α) : ∀ (l : List α) (i : Nat), i + 1 < l.length → ∃ A B, l = A ++ l.getD i z :: l.getD (i + 1) z :: B := by
  intro l i h
  refine ⟨l.take i, l.drop (i + 2), ?_⟩
  have e1 : l.getD i z = l[i] := by rw [List.getD_eq_getElem?_getD, List.getElem?_eq_getElem (by omega)]; rfl
  have e2 : l.getD (i + 1) z = l[i + 1] := by rw [List.getD_eq_getElem?_getD, List.getElem?_eq_getElem (by omega)]; rfl
  rw [e1, e2, ← List.drop_eq_getElem_cons (by omega), ← List.drop_eq_getElem_cons (by omega), List.take_append_drop]
theorem fit_law {K : Bc} (hK : K.align ≠ 3) {x : LI} (h : LiT x) (hz : x.f2.size ≤ 1000) (hh : x.f2.data.toList.head? ≠ some 32) (hna : NoAdj x.f2.data.toList) {W : Int} (hW : 0 ≤ W ∧ W ≤ 65535) :
    ∀ i, i < (breakX K [x] W (s0 0 0)).length → (W < ((breakX K [x] W (s0 0 0)).getD i z39).f2 → ((breakX K [x] W (s0 0 0)).getD i z39).f5.length = 1) ∧ (((breakX K [x] W (s0 0 0)).getD i z39).f5.map fun p => p.f3.data.toList).flatten.length ≤ x.f2.size ∧
      (i + 1 < (breakX K [x] W (s0 0 0)).length → FitL x W ((breakX K [x] W (s0 0 0)).getD i z39) ((breakX K [x] W (s0 0 0)).getD (i + 1) z39)) := by
  obtain ⟨n1, n2, n3, n4⟩ := tx_nice h hz hh
  have hpt : ∀ p, p ∈ txP x → PtT p := fun p hp => (n1 p hp).pt
  rw [break_T K h.1 W hpt, outT_len]
  intro i hi
  have hfl := linT_flat [x] W (txP x) []
  have hall : ∀ i, i < (linT [x] W [] (txP x)).length → (linT [x] W [] (txP x)).getD i [] ∈ linT [x] W [] (txP x) ∧ ∀ p, p ∈ (linT [x] W [] (txP x)).getD i [] → PtN x p := fun i hi => by
    have hm : (linT [x] W [] (txP x)).getD i [] ∈ linT [x] W [] (txP x) := by rw [List.getD_eq_getElem?_getD, List.getElem?_eq_getElem hi]; exact List.getElem_mem _
    refine ⟨hm, fun p hp => n1 p ?_⟩
    have : p ∈ (linT [x] W [] (txP x)).flatten := List.mem_flatten.2 ⟨_, hm, hp⟩
    rw [hfl] at this
    exact this
  obtain ⟨hm, hM⟩ := hall i hi
  obtain ⟨y, e1⟩ := outT_at K [x] W (linT [x] W [] (txP x)) 0 i hi
  have hok := linT_ok [x] W (txP x) [] (fun M0 p e h => by have := congrArg List.length e; rw [List.length_append] at this; simp at this) _ hm
  have hne := linT_ne [x] W (txP x) [] _ hm
  rw [e1]
  obtain ⟨l1, l2, l3⟩ := fit_line hK h hW y (decide (i + 1 = (linT [x] W [] (txP x)).length)) hM hne hok
  refine ⟨fun hw => by rw [l1]; exact l2 hw, ?_, fun hi2 => ?_⟩
  · have htl := texts_le (K := K) h W y (hfl.trans (List.nil_append _)) n3 hm hne (decide (i + 1 = (linT [x] W [] (txP x)).length)) hM
    rw [← Lib.size_eq] at htl
    exact htl
  · obtain ⟨hm2, hM2⟩ := hall (i + 1) hi2
    obtain ⟨y2, e2⟩ := outT_at K [x] W (linT [x] W [] (txP x)) 0 (i + 1) hi2
    rw [e2]
    obtain ⟨A, B, e⟩ := getD_split [] (linT [x] W [] (txP x)) i hi2
    unfold FitL
    rw [texts_of h W y _ _ hM]
    have hne2 := linT_ne [x] W (txP x) [] _ hm2
    obtain ⟨k1, k2, k3⟩ := fit_line hK h hW y2 (decide (i + 1 + 1 = (linT [x] W [] (txP x)).length)) hM2 hne2 (linT_ok [x] W (txP x) [] (fun M0 p e h => by have := congrArg List.length e; rw [List.length_append] at this; simp at this) _ hm2)
    rw [k3 0 (List.length_pos_iff.2 hne2)]
    exact fit_next h hW hna (by rw [← Lib.size_eq]; exact hz) n1 n2 n3 e
end Go.Proofs.Ytmkgapdadandmaa.Lin
