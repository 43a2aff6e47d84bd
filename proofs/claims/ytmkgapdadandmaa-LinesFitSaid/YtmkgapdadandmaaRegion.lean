/- Operations of a region that draws its order: what each yields, whatever the order. -/
import Derived.Test.YtmkgapdadandmaaProg
import Derived.WalkKit
import Derived.WalkLawsBesides
import Derived.KernelRfl
import Derived.Deep.RegionHeld3
import Derived.Deep.MidRow
import Derived.Laws.Tables
import Derived.IntWalk
namespace Go.Proofs.Ytmkgapdadandmaa.Rgn
open Go.RowKit
set_option linter.unusedVariables false
set_option linter.unusedSimpArgs false
section
variable {P : Program} {ops : Array Oper} {S : World → Prop} {o : Oper} {a : Act}
theorem y_move (hw : Region.wanted o (yielded ops a.tmps) = true) {x : Operand} {v : Value} (ho : o.op = .move x) (hx : a.eval x = v) : YieldsIf P ops S o v a :=
  .inl ⟨hw, fun w _ => by unfold execOp; simp only [ho, hx]; rfl⟩
theorem y_assign (hw : Region.wanted o (yielded ops a.tmps) = true) {x : Operand} {v : Value} (ho : o.op = .assign x) (hx : a.eval x = v) : YieldsIf P ops S o v a :=
  .inl ⟨hw, fun w _ => by unfold execOp; simp only [ho, hx]; rfl⟩
theorem y_run (hw : Region.wanted o (yielded ops a.tmps) = true) {v : Value} (h : ∀ w, S w → (execOp a.eval o).run P w = .ok (.value v) w) : YieldsIf P ops S o v a := .inl ⟨hw, h⟩
end
section
variable {ops : Array Oper} {S : World → Prop} {o : Oper} {a : Act}
theorem y_load (hw : Region.wanted o (yielded ops a.tmps) = true) {x : Operand} {ad : Addr} {n : Int} (ho : o.op = .load 3 x) (hx : a.eval x = .pointer (some ad)) (hS : ∀ w, S w → w.cell? ad = some (.int .i64 n)) : YieldsIf Try.prog ops S o (.int .i64 n) a :=
  .inl ⟨hw, fun w h => by
    have hc := hS w h
    unfold execOp
    simp only [ho, hx]
    go_simp⟩
theorem y_add (hw : Region.wanted o (yielded ops a.tmps) = true) {x y : Operand} {n m r : Int} (ho : o.op = .binOp .add 3 x y 3) (hx : a.eval x = .int .i64 n) (hy : a.eval y = .int .i64 m) (hr : n + m = r) (h0 : -9223372036854775808 ≤ r) (h1 : r ≤ 9223372036854775807) : YieldsIf Try.prog ops S o (.int .i64 r) a :=
  .inl ⟨hw, fun w h => by
    subst hr
    unfold execOp
    simp only [ho, hx, hy]
    go_simp
    exact IntWalk.i64_in _ ⟨h0, h1⟩⟩
theorem y_sub (hw : Region.wanted o (yielded ops a.tmps) = true) {x y : Operand} {n m r : Int} (ho : o.op = .binOp .sub 3 x y 3) (hx : a.eval x = .int .i64 n) (hy : a.eval y = .int .i64 m) (hr : n - m = r) (h0 : -9223372036854775808 ≤ r) (h1 : r ≤ 9223372036854775807) : YieldsIf Try.prog ops S o (.int .i64 r) a :=
  .inl ⟨hw, fun w h => by
    subst hr
    unfold execOp
    simp only [ho, hx, hy]
    go_simp
    exact IntWalk.i64_in _ ⟨h0, h1⟩⟩
theorem y_field (hw : Region.wanted o (yielded ops a.tmps) = true) {x : Operand} {t : TypeId} {i b off : Nat} (ho : o.op = .fieldAddr t x i) (hx : a.eval x = .pointer (some ⟨b, 0, none⟩))
    (hr : ∀ w : World, (Instr.fieldAt t (.pointer (some ⟨b, 0, none⟩)) i).run Try.prog w = .ok (.pointer (some ⟨b, off, none⟩)) w) : YieldsIf Try.prog ops S o (.pointer (some ⟨b, off, none⟩)) a :=
  .inl ⟨hw, fun w h => by
    unfold execOp
    simp only [ho, hx, Sem.run_bind, hr w, Result.andThen_ok, Sem.run_pure]⟩
end
end Go.Proofs.Ytmkgapdadandmaa.Rgn
