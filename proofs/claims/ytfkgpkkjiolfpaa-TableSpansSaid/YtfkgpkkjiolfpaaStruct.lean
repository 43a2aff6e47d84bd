/- Blocks of cells, written whole: what the world is behind it. Of no program. -/
import Derived.Test.YtfkgpkkjiolfpaaWWords
import Derived.Test.YtfkgpkkjiolfpaaWLast
import Derived.Test.YtfkgpkkjiolfpaaWMore
import Derived.StillTailTactics
import Derived.OwnWalk
import Derived.Deep.MidRow
namespace Go.Proofs.Ytfkgpkkjiolfpaa.Blk
open Go.RowKit Go.Lib Go.Proofs.YtfkgpkkjiolfpaaW.PrintWords Go.Proofs.YtfkgpkkjiolfpaaW.PrintLast Go.Proofs.YtfkgpkkjiolfpaaW.PrintMore
set_option linter.unusedVariables false
set_option linter.unusedSimpArgs false

theorem thereB {w : World} {b n : Nat} {cs : Array Value} {t : TypeId} (h : w.heap[b]? = some (.cells cs t (0, 0))) (hn : cs.size = n) : w.there b 0 n := fun j hj => by
  rw [Nat.zero_add]
  exact ⟨by rw [blk_cell h j, Array.getElem?_eq_getElem (by omega)]; rfl, blk_frozen h j⟩
theorem setCellsFar (b i : Nat) (hi : i ≠ b) : ∀ (vs : List Value) (o : Nat) (W : World), (W.setCells b o vs).heap[i]? = W.heap[i]?
  | [], _, _ => rfl
  | v :: vs, o, W => by
    rw [World.setCells, setCellsFar b i hi vs (o + 1) _]
    exact Below.heap_setCell W ⟨b, o, none⟩ v i hi
theorem setCellsBlk (b : Nat) (t : TypeId) : ∀ (vs pre old : List Value) (W : World), W.heap[b]? = some (.cells (pre ++ old).toArray t (0, 0)) → old.length = vs.length → (W.setCells b pre.length vs).heap[b]? = some (.cells (pre ++ vs).toArray t (0, 0))
  | [], pre, old, W, h, hl => by
    have : old = [] := List.eq_nil_of_length_eq_zero hl
    subst this
    exact h
  | v :: vs, pre, old, W, h, hl => by
    cases old with
    | nil => simp at hl
    | cons x old =>
      rw [World.setCells]
      have h1 := blk_set h pre.length v
      have e : ((pre ++ x :: old).toArray).setIfInBounds pre.length v = ((pre ++ [v]) ++ old).toArray := by
        rw [List.setIfInBounds_toArray, List.set_append_right (h := by omega)]
        simp
      rw [e] at h1
      have h2 := setCellsBlk b t vs (pre ++ [v]) old _ h1 (by simpa using hl)
      rw [List.length_append, List.length_singleton] at h2
      rw [h2]
      simp
theorem setCellsBelow {B : Nat} {w : World} (b : Nat) (hb : B ≤ b) : ∀ (vs : List Value) (o : Nat) (W : World), Below B w W → Below B w (W.setCells b o vs)
  | [], _, _, h => h
  | v :: vs, o, W, h => by
    rw [World.setCells]
    exact setCellsBelow b hb vs (o + 1) _ (h.setCell (p := ⟨b, o, none⟩) hb v)
/-- A block put anew, whole; a row of another type is as it was. -/
theorem put_block {α : Type} {d : Kd α} {e base B : Nat} {ok : Nat → Prop} {v : Value} {xs : List α} {w0 W : World} {b t : Nat} {old : List Value} (vs : List Value) (hb : W.heap[b]? = some (.cells old.toArray t (0, 0))) (hl : old.length = vs.length)
    (hR : d.R e W base ok v xs) (ht : ∀ q, q ∈ e :: d.E → q ≠ t) (hB : Below B w0 W) (hbb : B ≤ b) :
    ∃ W1, W.setCells b 0 vs = W1 ∧ W1.heap[b]? = some (.cells vs.toArray t (0, 0)) ∧ d.R e W1 base ok v xs ∧ Below B w0 W1 :=
  ⟨_, rfl, setCellsBlk b t vs [] old W (by rw [List.nil_append]; exact hb) hl, Kd.R_mono (Kd.R_step (Kd.R_types hR hb ht) (fun k hk _ => setCellsFar b k hk.2 _ _ _)) (fun _ hk => hk.1), setCellsBelow b hbb _ _ _ hB⟩
/-- A block put anew, whole; all others are as they were. -/
theorem put_blk {w0 W : World} {B b t : Nat} {old : List Value} (vs : List Value) (hb : W.heap[b]? = some (.cells old.toArray t (0, 0))) (hl : old.length = vs.length) (hB : Below B w0 W) (hbb : B ≤ b) :
    ∃ W1, W.setCells b 0 vs = W1 ∧ W1.heap[b]? = some (.cells vs.toArray t (0, 0)) ∧ Below B w0 W1 ∧ (∀ i, i ≠ b → W1.heap[i]? = W.heap[i]?) ∧ W1.heap.size = W.heap.size :=
  ⟨_, rfl, setCellsBlk b t vs [] old W (by rw [List.nil_append]; exact hb) hl, setCellsBelow b hbb _ _ _ hB, fun i hi => setCellsFar b i hi _ _ _, by
    have : ∀ (vs : List Value) (o : Nat) (W : World), (W.setCells b o vs).heap.size = W.heap.size := by
      intro vs
      induction vs with
      | nil => intro _ _; rfl
      | cons v vs ih => intro o W; rw [World.setCells, ih]; simp [World.setCell]
    exact this _ _ _⟩
theorem blk_two (w : World) (o0 o1 : Obj) : ∃ W, (w.alloc o0).alloc o1 = W ∧ Below w.heap.size w W ∧ W.heap.size = w.heap.size + 2 ∧ W.heap[w.heap.size]? = some o0 ∧ W.heap[w.heap.size + 1]? = some o1 := by
  refine ⟨_, rfl, below_alloc (below_alloc (Below.refl _ _) _) _, by simp, blk_alloc (blk_new w o0) _, ?_⟩
  have := blk_new (w.alloc o0) o1
  rwa [World.size_alloc] at this

theorem blk_three (w : World) (o0 o1 o2 : Obj) : ∃ W, ((w.alloc o0).alloc o1).alloc o2 = W ∧ Below w.heap.size w W ∧ W.heap.size = w.heap.size + 3 ∧ W.heap[w.heap.size]? = some o0 ∧ W.heap[w.heap.size + 1]? = some o1 ∧ W.heap[w.heap.size + 1 + 1]? = some o2 := by
  refine ⟨_, rfl, below_alloc (below_alloc (below_alloc (Below.refl _ _) _) _) _, by simp, blk_alloc (blk_alloc (blk_new w o0) _) _, ?_, ?_⟩
  · have := blk_new (w.alloc o0) o1
    rw [World.size_alloc] at this
    exact blk_alloc this _
  · have := blk_new ((w.alloc o0).alloc o1) o2
    rwa [World.size_alloc, World.size_alloc] at this

end Go.Proofs.Ytfkgpkkjiolfpaa.Blk
