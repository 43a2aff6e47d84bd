/- Two cells of a row change places. -/
import Derived.Test.YtfkgpkkjiolfpaaTabCmp
namespace Go.Proofs.Ytfkgpkkjiolfpaa.Tab
open Go.RowKit Go.Lib Go.Proofs.Ytfkgpkkjiolfpaa.Pl Go.Proofs.Ytfkgpkkjiolfpaa.Fx Go.Proofs.Ytfkgpkkjiolfpaa.Rgn Go.Proofs.Ytfkgpkkjiolfpaa.Blk Go.Proofs.YtfkgpkkjiolfpaaW.PrintWords Go.Proofs.YtfkgpkkjiolfpaaW.PrintLast Go.Proofs.YtfkgpkkjiolfpaaW.PrintMore
set_option linter.unusedVariables false
set_option linter.unusedSimpArgs false
attribute [local go_sem] mx2 mn2 mx_two mn_two mx_three mn_three

/-- The list with two places changed. -/
def swapL (xs : List Ce) (i j : Nat) : List Ce := (xs.set i (xs.getD j z108)).set j (xs.getD i z108)
theorem swap_len (xs : List Ce) (i j : Nat) : (swapL xs i j).length = xs.length := by simp [swapL]
theorem swap_perm (xs : List Ce) (i j : Nat) (hi : i < xs.length) (hj : j < xs.length) : (swapL xs i j).Perm xs := by
  have e1 : xs.getD j z108 = xs[j] := by simp [List.getD_eq_getElem?_getD, hj]
  have e2 : xs.getD i z108 = xs[i] := by simp [List.getD_eq_getElem?_getD, hi]
  unfold swapL
  rw [e1, e2]
  exact List.set_set_perm hi hj
/-- What the cells of a place are. -/
theorem place {w : World} {Br g n cp : Nat} {ok : Nat → Prop} {xs : List Ce} (h : Kd.R k108 108 w Br ok (.slice (some ⟨g, 0, none⟩) n cp) xs) (i : Nat) (hi : i < n) :
    w.cell? ⟨g, i * 4, none⟩ = some (.int .i64 (xs.getD i z108).f0) ∧ w.cell? ⟨g, i * 4 + 1, none⟩ = some (.int .i64 (xs.getD i z108).f1) ∧ w.cell? ⟨g, i * 4 + 2, none⟩ = some (.int .i64 (xs.getD i z108).f2) ∧ w.cell? ⟨g, i * 4 + 3, none⟩ = some (.int .i64 (xs.getD i z108).f3) := by
  obtain ⟨hn, -, hCC⟩ := Kd.R_reads' h
  obtain ⟨ad, ea, p0, p1, p2, p3⟩ := at_T108 hCC (i : Int) (by omega) (by omega)
  injection ea with ea
  subst ea
  have rp : rd_T108 xs (i : Int) = xs.getD i z108 := by simp [rd_T108]
  rw [rp] at p0 p1 p2 p3
  rw [Int.toNat_natCast] at p0 p1 p2 p3
  simp only [Addr.add_mid, Nat.zero_add] at p0 p1 p2 p3
  exact ⟨p0, p1, p2, p3⟩
/-- One place is written. -/
theorem put_place {w : World} {Br g n cp : Nat} {ok : Nat → Prop} {xs : List Ce} (h : Kd.R k108 108 w Br ok (.slice (some ⟨g, 0, none⟩) n cp) xs) (i : Nat) (hi : i < n) (x : Ce) :
    Kd.R k108 108 (w.setCells g (i * 4) (ceV x)) Br ok (.slice (some ⟨g, 0, none⟩) n cp) (xs.set i x) ∧ w.grownBy (w.setCells g (i * 4) (ceV x)) (some g) := by
  obtain ⟨p0, p1, p2, p3⟩ := place h i hi
  have hs := Kd.R_seg h (i : Int) (by omega) (by omega) (c := ceV (xs.getD i z108)) (seg := ceV x) (j := 0) rfl (fun j u hj => by
    match j, hj with
    | 0, hj => simp only [ceV] at hj; cases hj; exact p0
    | 1, hj => simp only [ceV] at hj; cases hj; exact p1
    | 2, hj => simp only [ceV] at hj; cases hj; exact p2
    | 3, hj => simp only [ceV] at hj; cases hj; exact p3
    | j + 4, hj => simp [ceV] at hj) (Nat.le_refl 4) (x' := x) (okp := fun _ => False) (ceMk _ _ _ _) (fun _ h => h.elim)
  exact hs
/-- Two places change: the row, and what else is as it was. -/
theorem swap_places {w : World} {Br g n cp : Nat} {ok : Nat → Prop} {xs : List Ce} (h : Kd.R k108 108 w Br ok (.slice (some ⟨g, 0, none⟩) n cp) xs) (i j : Nat) (hi : i < n) (hj : j < n) :
    Kd.R k108 108 ((w.setCells g (i * 4) (ceV (xs.getD j z108))).setCells g (j * 4) (ceV (xs.getD i z108))) Br ok (.slice (some ⟨g, 0, none⟩) n cp) (swapL xs i j) ∧
    w.grownBy ((w.setCells g (i * 4) (ceV (xs.getD j z108))).setCells g (j * 4) (ceV (xs.getD i z108))) (some g) := by
  obtain ⟨h1, g1⟩ := put_place h i hi (xs.getD j z108)
  obtain ⟨h2, g2⟩ := put_place h1 j hj (xs.getD i z108)
  exact ⟨h2, g1.trans g2⟩
/-- The cells' places may be written. -/
theorem place_frozen {w : World} {Br g n cp : Nat} {ok : Nat → Prop} {xs : List Ce} (h : Kd.R k108 108 w Br ok (.slice (some ⟨g, 0, none⟩) n cp) xs) (hn : 0 < n) (i : Nat) : w.frozen? ⟨g, i, none⟩ = false := by
  obtain ⟨hl, -, -⟩ := Kd.R_reads' h
  obtain ⟨g', cp', he, -, -, cells, hb⟩ := Kd.R_form h (by omega)
  injection he with e1 e2 e3
  injection e1 with e1
  injection e1 with e1
  subst e1
  exact blk_frozen hb i
/-- Two places change, one behind the other: the worlds between, and what is known of them. -/
theorem swap_go {w1 : World} {Br g n cp : Nat} {ok : Nat → Prop} {ys : List Ce} (h : Kd.R k108 108 w1 Br ok (.slice (some ⟨g, 0, none⟩) n cp) ys) (i j : Nat) (hi : i < n) (hj : j < n) (x y : Ce) (hx : ys.getD i z108 = x) (hy : ys.getD j z108 = y) :
    ∃ w5, w1.setCells g (i * 4) (ceV y) = w5 ∧ (∀ o, w5.frozen? ⟨g, o, none⟩ = false) ∧ (∃ z : Ce, w5.cell? ⟨g, j * 4, none⟩ = some (.int .i64 z.f0) ∧ w5.cell? ⟨g, j * 4 + 1, none⟩ = some (.int .i64 z.f1) ∧ w5.cell? ⟨g, j * 4 + 2, none⟩ = some (.int .i64 z.f2) ∧ w5.cell? ⟨g, j * 4 + 3, none⟩ = some (.int .i64 z.f3)) ∧
      ∃ zs : List Ce, zs.Perm ys ∧ Kd.R k108 108 (w5.setCells g (j * 4) (ceV x)).drew Br ok (.slice (some ⟨g, 0, none⟩) n cp) zs ∧ w1.grownBy (w5.setCells g (j * 4) (ceV x)).drew (some g) := by
  have hl := (Kd.R_reads' h).1
  subst hx hy
  obtain ⟨h1, g1⟩ := put_place h i hi (ys.getD j z108)
  obtain ⟨h2, g2⟩ := put_place h1 j hj (ys.getD i z108)
  exact ⟨_, rfl, place_frozen h1 (by omega), ⟨_, place h1 j hj⟩, _, swap_perm ys i j (by omega) (by omega), Kd.R_drew h2, (g1.trans g2).trans (grown_of_below (Below.refl _ _).drew _)⟩
/-- What has been done to the row and the world since: the same cells, in some order; only this row is written. -/
def Sorted (xs : List Ce) (g n cp Br : Nat) (ok : Nat → Prop) (w0 w : World) : Prop := ∃ ys : List Ce, ys.Perm xs ∧ Kd.R k108 108 w Br ok (.slice (some ⟨g, 0, none⟩) n cp) ys ∧ w0.grownBy w (some g)
def SortPost (xs : List Ce) (g n cp Br : Nat) (ok : Nat → Prop) (w0 : World) (e : Ending) (w' : World) : Prop := e = .returned (.tuple #[]) ∧ Sorted xs g n cp Br ok w0 w'
theorem grown_below {w w1 w2 : World} {g : Nat} (h : w.grownBy w1 (some g)) (k : Below w1.heap.size w1 w2) : w.grownBy w2 (some g) := h.trans (grown_of_below k (some g))
end Go.Proofs.Ytfkgpkkjiolfpaa.Tab
