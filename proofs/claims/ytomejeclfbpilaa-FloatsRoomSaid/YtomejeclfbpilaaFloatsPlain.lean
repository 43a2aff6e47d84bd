/- What is placed in a room stands apart: plain facts. -/
import Derived.Test.YtomejeclfbpilaaFloats4
namespace Go.Proofs.Ytomejeclfbpilaa.Fl
open Go.RowKit Go.Proofs.Ytomejeclfbpilaa.Pl Go.Proofs.YtomejeclfbpilaaW.PrintWords

/-- Two rectangles have a place in common. -/
def over (r q : F) : Prop := 0 < r.f0.f2 ∧ 0 < r.f0.f3 ∧ 0 < q.f0.f2 ∧ 0 < q.f0.f3 ∧ r.f0.f0 < q.f0.f0 + q.f0.f2 ∧ q.f0.f0 < r.f0.f0 + r.f0.f2 ∧ r.f0.f1 < q.f0.f1 + q.f0.f3 ∧ q.f0.f1 < r.f0.f1 + r.f0.f3
def Apart (width : Int) (l : List F) : Prop := (∀ f, f ∈ l → f.f0.f2 ≤ width → 0 ≤ f.f0.f0 ∧ f.f0.f0 + f.f0.f2 ≤ width) ∧ l.Pairwise fun q f => q.f0.f1 ≤ f.f0.f1 ∧ ¬ over f q

theorem edges_mono (y h : Int) (l : List F) (p : Int × Int × Bool) : p.1 ≤ (l.foldl (stepE y h) p).1 ∧ (l.foldl (stepE y h) p).2.1 ≤ p.2.1 ∧ (p.2.2 = true → (l.foldl (stepE y h) p).2.2 = true) := by
  induction l generalizing p with
  | nil => exact ⟨Int.le_refl _, Int.le_refl _, id⟩
  | cons f l ih =>
    rw [List.foldl_cons]
    have h1 := ih (stepE y h p f)
    have h2 : p.1 ≤ (stepE y h p f).1 ∧ (stepE y h p f).2.1 ≤ p.2.1 ∧ (p.2.2 = true → (stepE y h p f).2.2 = true) := by
      unfold stepE
      split
      · split
        · exact ⟨by simp only; omega, Int.le_refl _, fun _ => rfl⟩
        · exact ⟨Int.le_refl _, by simp only; omega, fun _ => rfl⟩
      · exact ⟨Int.le_refl _, Int.le_refl _, id⟩
    exact ⟨Int.le_trans h2.1 h1.1, Int.le_trans h1.2.1 h2.2.1, fun h => h1.2.2 (h2.2.2 h)⟩
theorem edges_mem (width y h : Int) (l : List F) (q : F) (hq : q ∈ l) (hm : metB q y h = true) :
    (edges width l y h).2.2 = true ∧ (q.f1 = 1 → q.f0.f0 + q.f0.f2 ≤ (edges width l y h).1) ∧ (q.f1 ≠ 1 → (edges width l y h).2.1 ≤ q.f0.f0) := by
  have key : ∀ (l : List F) (p : Int × Int × Bool), q ∈ l → (l.foldl (stepE y h) p).2.2 = true ∧ (q.f1 = 1 → q.f0.f0 + q.f0.f2 ≤ (l.foldl (stepE y h) p).1) ∧ (q.f1 ≠ 1 → (l.foldl (stepE y h) p).2.1 ≤ q.f0.f0) := by
    intro l
    induction l with
    | nil => intro p hq; simp at hq
    | cons f l ih =>
      intro p hq
      rw [List.foldl_cons]
      rcases List.mem_cons.1 hq with rfl | hq
      · have h1 := edges_mono y h l (stepE y h p q)
        unfold stepE at h1 ⊢
        rw [if_pos hm] at h1 ⊢
        by_cases hs : q.f1 = 1
        · rw [if_pos hs] at h1 ⊢
          exact ⟨h1.2.2 rfl, fun _ => by have := h1.1; simp only at this; omega, fun h => absurd hs h⟩
        · rw [if_neg hs] at h1 ⊢
          exact ⟨h1.2.2 rfl, fun h => absurd h hs, fun _ => by have := h1.2.1; simp only at this; omega⟩
      · exact ih _ hq
  exact key l _ hq
theorem edges_none (width y h : Int) (l : List F) (hm : (edges width l y h).2.2 = false) : (edges width l y h).1 = 0 ∧ (edges width l y h).2.1 = width := by
  have key : ∀ (l : List F) (p : Int × Int × Bool), (l.foldl (stepE y h) p).2.2 = false → l.foldl (stepE y h) p = p := by
    intro l
    induction l with
    | nil => intro p _; rfl
    | cons f l ih =>
      intro p hp
      rw [List.foldl_cons] at hp ⊢
      have h1 := ih _ hp
      rw [h1] at hp ⊢
      unfold stepE at hp ⊢
      split at hp
      · split at hp <;> cases hp
      · rename_i hn; rw [if_neg hn]
  have := key l (0, width, false) hm
  unfold edges
  rw [this]
  exact ⟨rfl, rfl⟩

/-- The numbers of what floats after i were placed. -/
def Nums (i : Nat) (l : List F) : Prop := l.length = i ∧ ∀ f, f ∈ l → 0 ≤ f.f0.f2 ∧ f.f0.f2 ≤ 32767 ∧ 0 ≤ f.f0.f3 ∧ f.f0.f3 ≤ 32767 ∧ -32768 ≤ f.f0.f1 ∧ f.f0.f1 + f.f0.f3 ≤ 32767 * ((i : Int) + 1) ∧ -32767 ≤ f.f0.f0 ∧ f.f0.f0 ≤ 16777216
theorem Nums.ok {i : Nat} {l : List F} (h : Nums i l) (hi : (i : Int) ≤ 1000) : ∀ f, f ∈ l → okF f := by
  intro f hf
  obtain ⟨a, b, c, d, e, f1, g, k⟩ := h.2 f hf
  unfold okF fits
  omega
theorem place_next {i : Nat} {width : Int} {l : List F} {side y w h : Int} {f : F} (hw0 : 0 ≤ width) (hw1 : width ≤ 16777216) (hn : Nums i l) (ha : Apart width l) (hi : (i : Int) ≤ 1000) (hs : side = 1 ∨ side = 2)
    (hy : -32768 ≤ y ∧ y ≤ 32767) (hw : w ≤ 32767) (hh : h ≤ 32767) (hp : Placed width l side y w h (32767 * ((i : Int) + 1)) f) : Nums (i + 1) (l ++ [f]) ∧ Apart width (l ++ [f]) := by
  obtain ⟨p1, p2, p3, p4, p5, p6, p7⟩ := hp
  have ht := top_ge y l
  have hcy : cut y = y := cut_id (by omega) (by omega)
  have hcw : 0 ≤ f.f0.f2 ∧ f.f0.f2 ≤ 32767 := by rw [p2]; unfold cut; omega
  have hch : 0 ≤ f.f0.f3 ∧ f.f0.f3 ≤ 32767 := by rw [p3]; unfold cut; omega
  have hb := edges_bd width (by unfold fits; omega) f.f0.f1 f.f0.f3 l (hn.ok hi)
  have hx : -32767 ≤ f.f0.f0 ∧ f.f0.f0 ≤ 16777216 ∧ (f.f0.f2 ≤ width → 0 ≤ f.f0.f0 ∧ f.f0.f0 + f.f0.f2 ≤ width) := by
    cases hm : (edges width l f.f0.f1 f.f0.f3).2.2 with
    | true =>
      have := p6 hm
      rw [p7]
      rcases hs with rfl | rfl
      · rw [if_neg (by omega)]; omega
      · rw [if_pos rfl]; omega
    | false =>
      obtain ⟨e1, e2⟩ := edges_none width _ _ l hm
      rw [p7, e1, e2]
      rcases hs with rfl | rfl
      · rw [if_neg (by omega)]; omega
      · rw [if_pos rfl]; omega
  refine ⟨⟨by rw [List.length_append, hn.1]; rfl, fun q hq => ?_⟩, ⟨fun q hq => ?_, ?_⟩⟩
  · rcases List.mem_append.1 hq with hq | hq
    · obtain ⟨a, b, c, d, e, f1, g, k⟩ := hn.2 q hq
      refine ⟨a, b, c, d, e, ?_, g, k⟩
      push_cast; omega
    · obtain rfl := List.mem_singleton.1 hq
      refine ⟨hcw.1, hcw.2, hch.1, hch.2, by omega, ?_, hx.1, hx.2.1⟩
      push_cast; omega
  · rcases List.mem_append.1 hq with hq | hq
    · exact ha.1 q hq
    · obtain rfl := List.mem_singleton.1 hq
      exact hx.2.2
  · rw [List.pairwise_append]
    refine ⟨ha.2, by simp, fun q hq r hr => ?_⟩
    obtain rfl := List.mem_singleton.1 hr
    have hqy := ht.2 q hq
    refine ⟨by omega, ?_⟩
    rintro ⟨o1, o2, o3, o4, o5, o6, o7, o8⟩
    have hm : metB q r.f0.f1 r.f0.f3 = true := by
      unfold metB
      simp
      omega
    obtain ⟨m1, m2, m3⟩ := edges_mem width r.f0.f1 r.f0.f3 l q hq hm
    have h6 := p6 m1
    by_cases hsq : q.f1 = 1
    · have := m2 hsq
      rcases hs with rfl | rfl
      · rw [if_neg (by omega)] at p7; omega
      · rw [if_pos rfl] at p7; omega
    · have := m3 hsq
      rcases hs with rfl | rfl
      · rw [if_neg (by omega)] at p7; omega
      · rw [if_pos rfl] at p7; omega
end Go.Proofs.Ytomejeclfbpilaa.Fl
