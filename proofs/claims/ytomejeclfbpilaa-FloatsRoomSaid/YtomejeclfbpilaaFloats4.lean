/- Package floats: Place. -/
import Derived.Test.YtomejeclfbpilaaFloats3
namespace Go.Proofs.Ytomejeclfbpilaa.Fl
open Go.RowKit Go.Proofs.Ytomejeclfbpilaa.Pl Go.Proofs.Ytomejeclfbpilaa.Fx Go.Proofs.YtomejeclfbpilaaW.PrintWords Go.Proofs.YtomejeclfbpilaaW.PrintLast Go.Proofs.YtomejeclfbpilaaW.PrintMore
set_option linter.unusedVariables false
set_option linter.unusedSimpArgs false
attribute [local go_sem] mx2 mn2 mx_two mn_two mx_three mn_three

/-- The lowest top among what floats, and y. -/
def topP (l : List F) (y : Int) : Int := l.foldl (fun a f => max a f.f0.f1) (cut y)
theorem top_snoc (l : List F) (y : Int) (f : F) : topP (l ++ [f]) y = max (topP l y) f.f0.f1 := by simp [topP]
theorem top_le (y M : Int) (hy : cut y ≤ M) (l : List F) (h : ∀ f, f ∈ l → f.f0.f1 ≤ M) : topP l y ≤ M := by
  have key : ∀ (l : List F) (a : Int), a ≤ M → (∀ f, f ∈ l → f.f0.f1 ≤ M) → l.foldl (fun a (f : F) => max a f.f0.f1) a ≤ M := by
    intro l
    induction l with
    | nil => intro a ha _; exact ha
    | cons f l ih =>
      intro a ha hl
      rw [List.foldl_cons]
      exact ih _ (by have := hl f (by simp); omega) (fun q hq => hl q (by simp [hq]))
  exact key l _ hy h
theorem top_ge (y : Int) (l : List F) : cut y ≤ topP l y ∧ ∀ f, f ∈ l → f.f0.f1 ≤ topP l y := by
  have key : ∀ (l : List F) (a : Int), a ≤ l.foldl (fun a (f : F) => max a f.f0.f1) a ∧ ∀ f, f ∈ l → f.f0.f1 ≤ l.foldl (fun a (f : F) => max a f.f0.f1) a := by
    intro l
    induction l with
    | nil => intro a; exact ⟨Int.le_refl _, fun f hf => by simp at hf⟩
    | cons f l ih =>
      intro a
      rw [List.foldl_cons]
      have h := ih (max a f.f0.f1)
      refine ⟨by omega, fun q hq => ?_⟩
      rcases List.mem_cons.1 hq with rfl | hq
      · omega
      · exact h.2 q hq
  exact key l _
theorem edges_bd (width : Int) (hw : fits width) (y h : Int) (l : List F) (hok : ∀ f, f ∈ l → okF f) :
    0 ≤ (edges width l y h).1 ∧ (edges width l y h).1 ≤ 2000000000000 ∧ -1000000000000 ≤ (edges width l y h).2.1 ∧ (edges width l y h).2.1 ≤ width := by
  have key : ∀ (l : List F) (p : Int × Int × Bool), 0 ≤ p.1 ∧ p.1 ≤ 2000000000000 ∧ -1000000000000 ≤ p.2.1 ∧ p.2.1 ≤ width → (∀ f, f ∈ l → okF f) →
      0 ≤ (l.foldl (stepE y h) p).1 ∧ (l.foldl (stepE y h) p).1 ≤ 2000000000000 ∧ -1000000000000 ≤ (l.foldl (stepE y h) p).2.1 ∧ (l.foldl (stepE y h) p).2.1 ≤ width := by
    intro l
    induction l with
    | nil => intro p hp _; exact hp
    | cons f l ih =>
      intro p hp hl
      rw [List.foldl_cons]
      refine ih _ ?_ (fun q hq => hl q (by simp [hq]))
      obtain ⟨⟨a1, a2⟩, ⟨a3, a4⟩, ⟨a5, a6⟩, ⟨a7, a8⟩⟩ := hl f (by simp)
      unfold stepE
      split
      · split
        · simp only; omega
        · simp only; omega
      · exact hp
  obtain ⟨w1, w2⟩ := hw
  exact key l _ (by simp only; omega) hok
/-- Where something is met, something ends below. -/
theorem met_end (width : Int) (y h : Int) (l : List F) (hm : (edges width l y h).2.2 = true) : ∃ f, f ∈ l ∧ y < f.f0.f1 + f.f0.f3 := by
  have key : ∀ (l : List F) (p : Int × Int × Bool), (l.foldl (stepE y h) p).2.2 = true → p.2.2 = true ∨ ∃ f, f ∈ l ∧ y < f.f0.f1 + f.f0.f3 := by
    intro l
    induction l with
    | nil => intro p hp; exact .inl hp
    | cons f l ih =>
      intro p hp
      rw [List.foldl_cons] at hp
      rcases ih _ hp with h1 | ⟨q, hq, h1⟩
      · by_cases hb : metB f y h = true
        · right
          refine ⟨f, by simp, ?_⟩
          unfold metB at hb
          simp at hb
          omega
        · left
          unfold stepE at h1
          rw [if_neg hb] at h1
          exact h1
      · exact .inr ⟨q, by simp [hq], h1⟩
  rcases key l _ hm with h1 | h1
  · cases h1
  · exact h1
theorem least_le (y M : Int) (hM : -1 ≤ M) (l : List F) (h : ∀ f, f ∈ l → f.f0.f1 + f.f0.f3 ≤ M) : least l y ≤ M := by
  have key : ∀ (l : List F) (a : Int), a ≤ M → (∀ f, f ∈ l → f.f0.f1 + f.f0.f3 ≤ M) → l.foldl (stepN y) a ≤ M := by
    intro l
    induction l with
    | nil => intro a ha _; exact ha
    | cons f l ih =>
      intro a ha hl
      rw [List.foldl_cons]
      refine ih _ ?_ (fun q hq => hl q (by simp [hq]))
      have := hl f (by simp)
      unfold stepN
      split <;> omega
  exact key l _ hM h

/-- Blocks other than g, and such as are of a type, are as they were. -/
def KeepT (g : Nat) (t : TypeId) (w w' : World) : Prop :=
  w'.os = w.os ∧ w'.tape = w.tape ∧ w'.output = w.output ∧ w.heap.size ≤ w'.heap.size ∧ ∀ k, k < w.heap.size → k ≠ g → (∀ cs fr, w.heap[k]? ≠ some (.cells cs t fr)) → w'.heap[k]? = w.heap[k]?

/-- What a new rectangle is, of a room and what floats in it. -/
def Placed (width : Int) (l : List F) (side y w h M : Int) (f : F) : Prop :=
  f.f1 = side ∧ f.f0.f2 = max 0 (cut w) ∧ f.f0.f3 = max 0 (cut h) ∧ topP l y ≤ f.f0.f1 ∧ f.f0.f1 ≤ M ∧
  ((edges width l f.f0.f1 f.f0.f3).2.2 = true → f.f0.f2 ≤ (edges width l f.f0.f1 f.f0.f3).2.1 - (edges width l f.f0.f1 f.f0.f3).1) ∧
  f.f0.f0 = if side = 2 then (edges width l f.f0.f1 f.f0.f3).2.1 - f.f0.f2 else (edges width l f.f0.f1 f.f0.f3).1

theorem infoF : (Try.prog.info? 80).map (fun i => (i.zero, i.size, i.bytes)) = some (some (.agg #[.int .i64 0, .int .i64 0, .int .i64 0, .int .i64 0, .int .i64 0]), k80.sz, 40) := by kernel_rfl

theorem IsF.row {w : World} {g : Nat} {width : Int} {l : List F} (h : IsF w g width l) :
    ∃ A c, w.heap[g]? = some (.cells #[.int .i64 width, .slice A l.length c] 78 (0, 0)) ∧ w.cell? ⟨g, 1, none⟩ = some (.slice A l.length c) ∧ Kd.R k80 80 w (g + 1) (fun _ => True) (.slice A l.length c) l ∧ Kd.C k80 w A l.length l ∧ g < w.heap.size := by
  obtain ⟨v, h1, h2⟩ := h
  have hg : g < w.heap.size := (Array.getElem?_eq_some_iff.1 h1).1
  obtain ⟨A, c, rfl, hl, hr⟩ := Kd.R_reads h2
  exact ⟨A, c, h1, by simp [World.cell?, h1], h2, hr, hg⟩
theorem own_ne {w : World} {g : Nat} {v : Value} {l : List F} (h : Kd.R k80 80 w (g + 1) (fun _ => True) v l) : some g ≠ v.ownBlock := by
  obtain ⟨inner, ho⟩ := Kd.R_own h
  intro e
  have := own_base ho g e.symm
  omega
theorem place_state {w1 : World} {g : Nat} {width : Int} {u v1 : Value} {l : List F} (hgb : w1.heap[g]? = some (.cells #[.int .i64 width, u] 78 (0, 0))) (hR : Kd.R k80 80 w1 (g + 1) (fun _ => True) v1 l) :
    IsF (w1.setCell ⟨g, 1, none⟩ v1) g width l := by
  refine ⟨v1, ?_, ?_⟩
  · simp [World.setCell, Array.getElem?_modify, hgb]
  · refine Kd.R_mono (Kd.R_far (p := ⟨g, 1, none⟩) (Kd.R_bound hR) (fun k hk => ?_) v1) (fun _ _ => trivial)
    have := hk.2.1
    simp only
    omega
theorem place_keep {w W w1 : World} {g : Nat} {v u : Value} {l : List F} (hB : Below w.heap.size w W) (hR : Kd.R k80 80 W (g + 1) (fun _ => True) v l) (hG : W.grownBy w1 v.ownBlock) : KeepT g 80 w (w1.setCell ⟨g, 1, none⟩ u) := by
  refine ⟨hG.os.trans hB.os, hG.tape.trans hB.tape, hG.output.trans hB.output, ?_, fun k hk hkg ht => ?_⟩
  · have h1 := hG.size; have h2 := hB.size; simp [World.setCell]; omega
  · rw [Below.heap_setCell _ _ _ _ (by exact hkg), hG.block k (by have := hB.size; omega) ?_, hB.block k hk]
    intro e
    obtain ⟨inner, ho⟩ := Kd.R_own hR
    obtain ⟨cells, hc⟩ := own_typed ho k e.symm
    rw [hB.block k hk] at hc
    exact ht _ _ hc

theorem R_slice3 {α : Type} {d : Kd α} {e : Nat} {w : World} {base : Nat} {ok : Nat → Prop} {v : Value} {xs : List α} (h : d.R e w base ok v xs) : ∃ A n c, v = .slice A n c := by
  obtain ⟨A, c, he⟩ := Kd.R_slice h
  exact ⟨A, _, c, he⟩

theorem place_after {w W w1 : World} {g : Nat} {width : Int} {v v1 : Value} {l l' : List F} (hB : Below w.heap.size w W) (hgb : w.heap[g]? = some (.cells #[.int .i64 width, v] 78 (0, 0)))
    (hR : Kd.R k80 80 W (g + 1) (fun _ => True) v l) (hO1 : Kd.R k80 80 w1 (g + 1) (fun _ => True) v1 l') (hB1 : Below (g + 1) w w1) (hG1 : W.grownBy w1 v.ownBlock) :
    ∃ A n c, v1 = .slice A n c ∧ w1.cell? ⟨g, 1, none⟩ = some v ∧ w1.frozen? ⟨g, 1, none⟩ = false ∧
      Hid (IsF (w1.setCell ⟨g, 1, none⟩ v1) g width l' ∧ Below g w (w1.setCell ⟨g, 1, none⟩ v1) ∧ KeepT g 80 w (w1.setCell ⟨g, 1, none⟩ v1)) := by
  have hg : g < w.heap.size := (Array.getElem?_eq_some_iff.1 hgb).1
  have hgb1 : w1.heap[g]? = some (.cells #[.int .i64 width, v] 78 (0, 0)) := (hG1.block g (by have := hB.size; omega) (own_ne hR)).trans ((hB.block g hg).trans hgb)
  obtain ⟨A, n, c, e⟩ := R_slice3 hO1
  exact ⟨A, n, c, e, by simp [World.cell?, hgb1], by simp [World.frozen?, hgb1], place_state hgb1 hO1, (hB1.mono (Nat.le_succ g)).setCell (p := ⟨g, 1, none⟩) (Nat.le_refl g) v1, place_keep hB hR hG1⟩

set_option maxRecDepth 100000 in
set_option maxHeartbeats 4000000 in
theorem Place1_c (g : Nat) (width : Int) (l : List F) (y wd h M : Int) (w : World) (hI : IsF w g width l) (hok : ∀ f, f ∈ l → okF f) (hw : fits width) (hlen : (l.length : Int) < 200)
    (hM0 : 0 ≤ M) (hM1 : cut y ≤ M) (hM2 : M ≤ 500000000000) (hM3 : ∀ f, f ∈ l → f.f0.f1 ≤ M ∧ f.f0.f1 + f.f0.f3 ≤ M) :
    Calls Try.prog 25 #[.pointer (some ⟨g, 0, none⟩),   .int .i64 1, .int .i64 y, .int .i64 wd, .int .i64 h] w fun e w' =>
      ∃ f : F, e = .returned (.tuple #[.int .i64 f.f0.f0, .int .i64 f.f0.f1, .int .i64 0]) ∧ Placed width l 1 y wd h M f ∧ IsF w' g width (l ++ [f]) ∧ Below g w w' ∧ KeepT g 80 w w' := by
  obtain ⟨A, c, hgb, h2, hrow, h3, h5⟩ := hI.row
  have HK := Lib.hid hok
  have H3 := Lib.hid h3
  have HI := Lib.hid hI
  have HM3 := Lib.hid hM3
  have HG := Lib.hid hgb
  have HROW := Lib.hid hrow
  have hcy : -16777216 ≤ cut y := (cut_bd y).1
  have hcw : 0 ≤ max 0 (cut wd) ∧ max 0 (cut wd) ≤ 16777216 := by have := cut_bd wd; omega
  have hch : fits (max 0 (cut h)) := by have := cut_bd h; unfold fits; omega
  have htop := top_ge y l
  have htopM := top_le y M hM1 l (fun f hf => (hM3 f hf).1)
  have HT := Lib.hid htop
  have HCH := Lib.hid hch
  have hend : ∀ t, (edges width l t (max 0 (cut h))).2.2 = true → t < M := fun t ht => by
    obtain ⟨f, hf, hlt⟩ := met_end width t _ l ht
    have := (hM3 f hf).2
    omega
  have HE := Lib.hid hend
  have hmin : -16777216 ≤ topP l y := by omega
  obtain ⟨w1', w2'⟩ := hw
  have HW : Hid (fits width) := Lib.hid ⟨w1', w2'⟩
  clear hok h3 hI hM3 hgb hrow htop hch hend
  go_enter Try.func25, Try.ntmps25
  go_wp2_with (go_at_call 17; refine (Cut_c _ _).mono ?_; rintro e w' ⟨rfl, rfl⟩)
  go_loopw [2, 46] (fun a i wr => ∃ k : Nat, k ≤ l.length ∧ i = .int .i64 k ∧ a = .int .i64 (topP (l.take k) y) ∧ Hid (Below w.heap.size w wr)) (fun _ i _ => l.length - (intOf i).toNat)
  case atStart => exact ⟨0, Nat.zero_le _, rfl, rfl, Below.refl _ _⟩
  case round =>
    obtain ⟨k, hk, rfl, rfl, hB⟩ := hrel
    by_cases hlt : k < l.length
    · obtain ⟨ad, ea, x0, x1, x2, x3, x4⟩ := at_T80 (Kd.C_below H3.out hB.out) (k : Int) (by omega) (by omega)
      subst ea
      have hsn := top_snoc (l.take k) y (rd_T80 l (k : Int))
      rw [← take_snocF l k hlt] at hsn
      rw [Int.toNat_natCast] at x0 x1 x2 x3 x4
      generalize rd_T80 l (k : Int) = f at *
      have SN := Lib.hid hsn
      have hrel' : ∀ o, Hid (Below w.heap.size w (wr.alloc o)) := fun o => below_alloc hB.out o
      have HR := Lib.hid hrel'
      clear hsn hrel'
      go_wp2
      go_roundw
      case rel => exact ⟨k + 1, by omega, by go_num, by rw [SN.out], HR.out _⟩
      case measure => simp [intOf]; omega
    · have hkn : l.take k = l := List.take_of_length_le (by omega)
      rw [hkn]
      clear hkn
      go_wp2_with fail
      refine (edges_c g width l _ _ wr (HI.out.below hB.out) HK.out ⟨by omega, by omega⟩ HCH.out (by omega)).mono ?_
      rintro e wE ⟨rfl, hE⟩
      have BE := Lib.hid (below_then hB.out hB.out.size hE)
      clear hE hB
      go_wp2_with fail
      go_loopw [2, 15, 16, 17] (fun t a b m wr => ∃ t' : Int, t = .int .i64 t' ∧ topP l y ≤ t' ∧ t' ≤ M ∧ a = .int .i64 (edges width l t' (max 0 (cut h))).1 ∧ b = .int .i64 (edges width l t' (max 0 (cut h))).2.1 ∧ m = .bool (edges width l t' (max 0 (cut h))).2.2 ∧ Hid (Below w.heap.size w wr)) (fun t _ _ _ _ => (M - intOf t).toNat)
      case atStart => exact ⟨_, rfl, Int.le_refl _, htopM, rfl, rfl, rfl, BE⟩
      case round =>
        obtain ⟨t, rfl, ht1, ht2, rfl, rfl, rfl, hB⟩ := hrel
        have heb := edges_bd width HW.out t (max 0 (cut h)) l HK.out
        have hte := HE.out t
        have HEB := Lib.hid heb
        have hmc : ((edges width l t (max 0 (cut h))).2.2 = true ∧ (edges width l t (max 0 (cut h))).2.1 - (edges width l t (max 0 (cut h))).1 < max 0 (cut wd)) ∨
            (((edges width l t (max 0 (cut h))).2.2 = true ∧ max 0 (cut wd) ≤ (edges width l t (max 0 (cut h))).2.1 - (edges width l t (max 0 (cut h))).1) ∨ (edges width l t (max 0 (cut h))).2.2 = false) := by
          cases (edges width l t (max 0 (cut h))).2.2
          · exact .inr (.inr rfl)
          · by_cases hq : (edges width l t (max 0 (cut h))).2.1 - (edges width l t (max 0 (cut h))).1 < max 0 (cut wd)
            · exact .inl ⟨rfl, hq⟩
            · exact .inr (.inl ⟨rfl, by omega⟩)
        rcases hmc with ⟨hm, hc⟩ | hrest
        · have hte' := hte hm
          have hnx : t < nextP l t ∧ nextP l t ≤ M := by
            have := least_le t M (by omega) l (fun f hf => (HM3.out f hf).2)
            unfold nextP
            omega
          obtain ⟨n1, n2⟩ := hnx
          generalize (edges width l t (max 0 (cut h))).1 = ea at *
          generalize (edges width l t (max 0 (cut h))).2.1 = eb at *
          obtain ⟨b1, b2, b3, b4⟩ := heb
          clear hte
          go_wp2_with fail
          refine (next_c g width l t wr (HI.out.below hB.out) HK.out ⟨by omega, by omega⟩ (by omega)).mono ?_
          rintro e wN ⟨rfl, hN⟩
          have BN := Lib.hid (below_then hB.out hB.out.size hN)
          clear hN
          go_wp2_with fail
          refine (edges_c g width l _ _ wN (HI.out.below BN.out) HK.out ⟨by omega, by omega⟩ HCH.out (by omega)).mono ?_
          rintro e wE2 ⟨rfl, hE2⟩
          have BE2 := Lib.hid (below_then BN.out BN.out.size hE2)
          clear hE2
          go_wp2
          go_roundw
          case rel => exact ⟨nextP l t, rfl, by omega, n2, rfl, rfl, rfl, BE2⟩
          case measure => simp [intOf]; omega
        · have hfit : (edges width l t (max 0 (cut h))).2.2 = true → max 0 (cut wd) ≤ (edges width l t (max 0 (cut h))).2.1 - (edges width l t (max 0 (cut h))).1 := by
            rcases hrest with ⟨h1, h2⟩ | h1
            · exact fun _ => h2
            · intro h2; rw [h1] at h2; cases h2
          have HFIT := Lib.hid hfit
          have hbase : g + 1 ≤ wr.heap.size := by (have := hB.out.size); omega
          have HRW := Lib.hid (Kd.R_below HROW.out hB.out)
          have HBG := Lib.hid (hB.out.mono (show g + 1 ≤ w.heap.size by omega))
          have hl40 : (l.length + 1) * 40 ≤ 140737488355328 := by omega
          have hcg : wr.cell? ⟨g, 1, none⟩ = some (.slice A l.length c) := (hB.out.cell h5).trans h2
          clear hfit hte
          obtain ⟨b1, b2, b3, b4⟩ := heb
          rcases hrest with ⟨hm, hc⟩ | hm
          all_goals
            go_wp2_with (((with_reducible refine gate_builtin (b := .append) (xs := #[.tmp 93, .tmp 101]) (ts := #[76, 76]) rfl ?_); refine Kd.R_append k80 (w0 := w) (g + 1) rfl (.tmp 93) (.tmp 101) 76 80 _ 40 rfl Try.underlying76 infoF rfl (by decide) (by decide) (.slice A l.length c) l ⟨⟨(edges width l t (max 0 (cut h))).1, t, max 0 (cut wd), max 0 (cut h)⟩, 1⟩ [.int .i64 (edges width l t (max 0 (cut h))).1, .int .i64 t, .int .i64 (max 0 (cut wd)), .int .i64 (max 0 (cut h)), .int .i64 1] (fun _ => True) (fun _ => False) rfl rfl (k80_mkM _ _ _ ⟨⟨(edges width l t (max 0 (cut h))).1, t, max 0 (cut wd), max 0 (cut h)⟩, 1⟩) (fun _ h => h.elim) (fun _ _ => trivial) HRW.out HBG.out hbase hl40 ?_; intro v1 w1 hO1 hB1 hG1 hat1; obtain ⟨Ao, no, co, eo, cg1, fg1, PX⟩ := place_after hB.out HG.out HRW.out hO1 hB1 hG1; subst eo; clear hO1 hB1 hG1 hat1))
            go_ret3
            exact ⟨⟨⟨(edges width l t (max 0 (cut h))).1, t, max 0 (cut wd), max 0 (cut h)⟩, 1⟩, rfl, ⟨rfl, rfl, rfl, ht1, ht2, HFIT.out, rfl⟩, PX.out⟩

set_option maxRecDepth 100000 in
set_option maxHeartbeats 4000000 in
theorem Place2_c (g : Nat) (width : Int) (l : List F) (y wd h M : Int) (w : World) (hI : IsF w g width l) (hok : ∀ f, f ∈ l → okF f) (hw : fits width) (hlen : (l.length : Int) < 200)
    (hM0 : 0 ≤ M) (hM1 : cut y ≤ M) (hM2 : M ≤ 500000000000) (hM3 : ∀ f, f ∈ l → f.f0.f1 ≤ M ∧ f.f0.f1 + f.f0.f3 ≤ M) :
    Calls Try.prog 25 #[.pointer (some ⟨g, 0, none⟩),   .int .i64 2, .int .i64 y, .int .i64 wd, .int .i64 h] w fun e w' =>
      ∃ f : F, e = .returned (.tuple #[.int .i64 f.f0.f0, .int .i64 f.f0.f1, .int .i64 0]) ∧ Placed width l 2 y wd h M f ∧ IsF w' g width (l ++ [f]) ∧ Below g w w' ∧ KeepT g 80 w w' := by
  obtain ⟨A, c, hgb, h2, hrow, h3, h5⟩ := hI.row
  have HK := Lib.hid hok
  have H3 := Lib.hid h3
  have HI := Lib.hid hI
  have HM3 := Lib.hid hM3
  have HG := Lib.hid hgb
  have HROW := Lib.hid hrow
  have hcy : -16777216 ≤ cut y := (cut_bd y).1
  have hcw : 0 ≤ max 0 (cut wd) ∧ max 0 (cut wd) ≤ 16777216 := by have := cut_bd wd; omega
  have hch : fits (max 0 (cut h)) := by have := cut_bd h; unfold fits; omega
  have htop := top_ge y l
  have htopM := top_le y M hM1 l (fun f hf => (hM3 f hf).1)
  have HT := Lib.hid htop
  have HCH := Lib.hid hch
  have hend : ∀ t, (edges width l t (max 0 (cut h))).2.2 = true → t < M := fun t ht => by
    obtain ⟨f, hf, hlt⟩ := met_end width t _ l ht
    have := (hM3 f hf).2
    omega
  have HE := Lib.hid hend
  have hmin : -16777216 ≤ topP l y := by omega
  obtain ⟨w1', w2'⟩ := hw
  have HW : Hid (fits width) := Lib.hid ⟨w1', w2'⟩
  clear hok h3 hI hM3 hgb hrow htop hch hend
  go_enter Try.func25, Try.ntmps25
  go_wp2_with (go_at_call 17; refine (Cut_c _ _).mono ?_; rintro e w' ⟨rfl, rfl⟩)
  go_loopw [2, 46] (fun a i wr => ∃ k : Nat, k ≤ l.length ∧ i = .int .i64 k ∧ a = .int .i64 (topP (l.take k) y) ∧ Hid (Below w.heap.size w wr)) (fun _ i _ => l.length - (intOf i).toNat)
  case atStart => exact ⟨0, Nat.zero_le _, rfl, rfl, Below.refl _ _⟩
  case round =>
    obtain ⟨k, hk, rfl, rfl, hB⟩ := hrel
    by_cases hlt : k < l.length
    · obtain ⟨ad, ea, x0, x1, x2, x3, x4⟩ := at_T80 (Kd.C_below H3.out hB.out) (k : Int) (by omega) (by omega)
      subst ea
      have hsn := top_snoc (l.take k) y (rd_T80 l (k : Int))
      rw [← take_snocF l k hlt] at hsn
      rw [Int.toNat_natCast] at x0 x1 x2 x3 x4
      generalize rd_T80 l (k : Int) = f at *
      have SN := Lib.hid hsn
      have hrel' : ∀ o, Hid (Below w.heap.size w (wr.alloc o)) := fun o => below_alloc hB.out o
      have HR := Lib.hid hrel'
      clear hsn hrel'
      go_wp2
      go_roundw
      case rel => exact ⟨k + 1, by omega, by go_num, by rw [SN.out], HR.out _⟩
      case measure => simp [intOf]; omega
    · have hkn : l.take k = l := List.take_of_length_le (by omega)
      rw [hkn]
      clear hkn
      go_wp2_with fail
      refine (edges_c g width l _ _ wr (HI.out.below hB.out) HK.out ⟨by omega, by omega⟩ HCH.out (by omega)).mono ?_
      rintro e wE ⟨rfl, hE⟩
      have BE := Lib.hid (below_then hB.out hB.out.size hE)
      clear hE hB
      go_wp2_with fail
      go_loopw [2, 15, 16, 17] (fun t a b m wr => ∃ t' : Int, t = .int .i64 t' ∧ topP l y ≤ t' ∧ t' ≤ M ∧ a = .int .i64 (edges width l t' (max 0 (cut h))).1 ∧ b = .int .i64 (edges width l t' (max 0 (cut h))).2.1 ∧ m = .bool (edges width l t' (max 0 (cut h))).2.2 ∧ Hid (Below w.heap.size w wr)) (fun t _ _ _ _ => (M - intOf t).toNat)
      case atStart => exact ⟨_, rfl, Int.le_refl _, htopM, rfl, rfl, rfl, BE⟩
      case round =>
        obtain ⟨t, rfl, ht1, ht2, rfl, rfl, rfl, hB⟩ := hrel
        have heb := edges_bd width HW.out t (max 0 (cut h)) l HK.out
        have hte := HE.out t
        have HEB := Lib.hid heb
        have hmc : ((edges width l t (max 0 (cut h))).2.2 = true ∧ (edges width l t (max 0 (cut h))).2.1 - (edges width l t (max 0 (cut h))).1 < max 0 (cut wd)) ∨
            (((edges width l t (max 0 (cut h))).2.2 = true ∧ max 0 (cut wd) ≤ (edges width l t (max 0 (cut h))).2.1 - (edges width l t (max 0 (cut h))).1) ∨ (edges width l t (max 0 (cut h))).2.2 = false) := by
          cases (edges width l t (max 0 (cut h))).2.2
          · exact .inr (.inr rfl)
          · by_cases hq : (edges width l t (max 0 (cut h))).2.1 - (edges width l t (max 0 (cut h))).1 < max 0 (cut wd)
            · exact .inl ⟨rfl, hq⟩
            · exact .inr (.inl ⟨rfl, by omega⟩)
        rcases hmc with ⟨hm, hc⟩ | hrest
        · have hte' := hte hm
          have hnx : t < nextP l t ∧ nextP l t ≤ M := by
            have := least_le t M (by omega) l (fun f hf => (HM3.out f hf).2)
            unfold nextP
            omega
          obtain ⟨n1, n2⟩ := hnx
          generalize (edges width l t (max 0 (cut h))).1 = ea at *
          generalize (edges width l t (max 0 (cut h))).2.1 = eb at *
          obtain ⟨b1, b2, b3, b4⟩ := heb
          clear hte
          go_wp2_with fail
          refine (next_c g width l t wr (HI.out.below hB.out) HK.out ⟨by omega, by omega⟩ (by omega)).mono ?_
          rintro e wN ⟨rfl, hN⟩
          have BN := Lib.hid (below_then hB.out hB.out.size hN)
          clear hN
          go_wp2_with fail
          refine (edges_c g width l _ _ wN (HI.out.below BN.out) HK.out ⟨by omega, by omega⟩ HCH.out (by omega)).mono ?_
          rintro e wE2 ⟨rfl, hE2⟩
          have BE2 := Lib.hid (below_then BN.out BN.out.size hE2)
          clear hE2
          go_wp2
          go_roundw
          case rel => exact ⟨nextP l t, rfl, by omega, n2, rfl, rfl, rfl, BE2⟩
          case measure => simp [intOf]; omega
        · have hfit : (edges width l t (max 0 (cut h))).2.2 = true → max 0 (cut wd) ≤ (edges width l t (max 0 (cut h))).2.1 - (edges width l t (max 0 (cut h))).1 := by
            rcases hrest with ⟨h1, h2⟩ | h1
            · exact fun _ => h2
            · intro h2; rw [h1] at h2; cases h2
          have HFIT := Lib.hid hfit
          have hbase : g + 1 ≤ wr.heap.size := by (have := hB.out.size); omega
          have HRW := Lib.hid (Kd.R_below HROW.out hB.out)
          have HBG := Lib.hid (hB.out.mono (show g + 1 ≤ w.heap.size by omega))
          have hl40 : (l.length + 1) * 40 ≤ 140737488355328 := by omega
          have hcg : wr.cell? ⟨g, 1, none⟩ = some (.slice A l.length c) := (hB.out.cell h5).trans h2
          clear hfit hte
          obtain ⟨b1, b2, b3, b4⟩ := heb
          rcases hrest with ⟨hm, hc⟩ | hm
          all_goals
            go_wp2_with (((with_reducible refine gate_builtin (b := .append) (xs := #[.tmp 93, .tmp 101]) (ts := #[76, 76]) rfl ?_); refine Kd.R_append k80 (w0 := w) (g + 1) rfl (.tmp 93) (.tmp 101) 76 80 _ 40 rfl Try.underlying76 infoF rfl (by decide) (by decide) (.slice A l.length c) l ⟨⟨(edges width l t (max 0 (cut h))).2.1 - max 0 (cut wd), t, max 0 (cut wd), max 0 (cut h)⟩, 2⟩ [.int .i64 ((edges width l t (max 0 (cut h))).2.1 - max 0 (cut wd)), .int .i64 t, .int .i64 (max 0 (cut wd)), .int .i64 (max 0 (cut h)), .int .i64 2] (fun _ => True) (fun _ => False) rfl rfl (k80_mkM _ _ _ ⟨⟨(edges width l t (max 0 (cut h))).2.1 - max 0 (cut wd), t, max 0 (cut wd), max 0 (cut h)⟩, 2⟩) (fun _ h => h.elim) (fun _ _ => trivial) HRW.out HBG.out hbase hl40 ?_; intro v1 w1 hO1 hB1 hG1 hat1; obtain ⟨Ao, no, co, eo, cg1, fg1, PX⟩ := place_after hB.out HG.out HRW.out hO1 hB1 hG1; subst eo; clear hO1 hB1 hG1 hat1))
            go_ret3
            exact ⟨⟨⟨(edges width l t (max 0 (cut h))).2.1 - max 0 (cut wd), t, max 0 (cut wd), max 0 (cut h)⟩, 2⟩, rfl, ⟨rfl, rfl, rfl, ht1, ht2, HFIT.out, rfl⟩, PX.out⟩

theorem Place_c (g : Nat) (width : Int) (l : List F) (side y wd h M : Int) (w : World) (hI : IsF w g width l) (hok : ∀ f, f ∈ l → okF f) (hw : fits width) (hlen : (l.length : Int) < 200) (hs : side = 1 ∨ side = 2)
    (hM0 : 0 ≤ M) (hM1 : cut y ≤ M) (hM2 : M ≤ 500000000000) (hM3 : ∀ f, f ∈ l → f.f0.f1 ≤ M ∧ f.f0.f1 + f.f0.f3 ≤ M) :
    Calls Try.prog 25 #[.pointer (some ⟨g, 0, none⟩), .int .i64 side, .int .i64 y, .int .i64 wd, .int .i64 h] w fun e w' =>
      ∃ f : F, e = .returned (.tuple #[.int .i64 f.f0.f0, .int .i64 f.f0.f1, .int .i64 0]) ∧ Placed width l side y wd h M f ∧ IsF w' g width (l ++ [f]) ∧ Below g w w' ∧ KeepT g 80 w w' := by
  rcases hs with rfl | rfl
  · exact Place1_c g width l y wd h M w hI hok hw hlen hM0 hM1 hM2 hM3
  · exact Place2_c g width l y wd h M w hI hok hw hlen hM0 hM1 hM2 hM3
end Go.Proofs.Ytomejeclfbpilaa.Fl
