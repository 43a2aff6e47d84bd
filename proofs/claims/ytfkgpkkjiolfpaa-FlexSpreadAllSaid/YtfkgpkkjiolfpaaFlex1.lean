/- Flexible rows: what is between, near, bounded; an item's factor; how long it is. For every input. -/
import Derived.Test.YtfkgpkkjiolfpaaFlexPlain
import Derived.Test.YtfkgpkkjiolfpaaWMore
import Derived.Deep.QuietTactic
import Derived.BigQuiet
import Derived.Below
namespace Go.Proofs.Ytfkgpkkjiolfpaa.Flx
open Go.RowKit Go.Proofs.Ytfkgpkkjiolfpaa.Pl Go.Proofs.Ytfkgpkkjiolfpaa.Fx Go.Proofs.Ytfkgpkkjiolfpaa.Sh Go.Proofs.YtfkgpkkjiolfpaaW.PrintWords Go.Proofs.YtfkgpkkjiolfpaaW.PrintLast Go.Proofs.YtfkgpkkjiolfpaaW.PrintMore
set_option linter.unusedVariables false
set_option linter.unusedSimpArgs false
attribute [local go_sem] mx2 mn2 mx_two mn_two mx_three mn_three

theorem Between_c (n least most : Int) (w : World) : Calls Try.prog 21 #[.int .i64 n, .int .i64 least, .int .i64 most] w fun e w' => e = .returned (.int .i64 (btw n least most)) ∧ w = w' := by
  by_cases h : 0 ≤ most
  · have e : btw n least most = max (min (cut n) (cut most)) (cut least) := by unfold btw; rw [if_pos h]
    rw [e]
    have h' : decide (0 ≤ most) = true := decide_eq_true h
    clear e h
    go_enter Try.func21, Try.ntmps21
    go_wp2_with (go_at_call 22; refine (Cut_c _ _).mono ?_; rintro e w' ⟨rfl, rfl⟩)
    go_ret
    exact ⟨rfl, rfl⟩
  · have e : btw n least most = max (cut n) (cut least) := by unfold btw; rw [if_neg h]
    rw [e]
    have h' : decide (0 ≤ most) = false := decide_eq_false h
    clear e h
    go_enter Try.func21, Try.ntmps21
    go_wp2_with (go_at_call 22; refine (Cut_c _ _).mono ?_; rintro e w' ⟨rfl, rfl⟩)
    go_ret
    exact ⟨rfl, rfl⟩
theorem near_c (a b : Int) (w : World) (ha0 : -9000000000000000000 ≤ a) (ha1 : a ≤ 9000000000000000000) (hb0 : -9000000000000000000 ≤ b) (hb1 : b ≤ 9000000000000000000) :
    Calls Try.prog 77 #[.int .i64 a, .int .i64 b] w fun e w' => e = .returned (.int .i64 (near a b)) ∧ w = w' := by
  by_cases h : max b (-b) < max a (-a)
  · have e : near a b = b := by unfold near; rw [if_pos h]
    rw [e]
    have h' : decide (max b (-b) < max a (-a)) = true := decide_eq_true h
    clear e h
    go_enter Try.func77, Try.ntmps77
    go_wp2_with fail
    go_ret
    exact ⟨rfl, rfl⟩
  · have e : near a b = a := by unfold near; rw [if_neg h]
    rw [e]
    have h' : decide (max b (-b) < max a (-a)) = false := decide_eq_false h
    clear e h
    go_enter Try.func77, Try.ntmps77
    go_wp2_with fail
    go_ret
    exact ⟨rfl, rfl⟩
theorem bound_c (n : Int) (w : World) : Calls Try.prog 74 #[.int .i64 n] w fun e w' => e = .returned (.int .i64 (bnd n)) ∧ w = w' := by
  go_enter Try.func74, Try.ntmps74
  go_wp2_with fail
  go_ret
  exact ⟨rfl, rfl⟩

/-- An item as a value. -/
def itV (x : It) : List Value := [.int .i64 x.f0.f0, .int .i64 x.f0.f1, .int .i64 x.f0.f2, .int .i64 x.f0.f3, .int .i64 x.f0.f4, .int .i64 x.f0.f5, .int .i64 x.f1, .bool x.f2, .int .i64 x.f3]
/-- What a function of an item comes to. -/
def IsOf (F : FuncId) (of : It → Int) : Prop := ∀ (x : It) (w : World), Calls Try.prog F #[.agg (itV x).toArray] w fun e w' => e = .returned (.int .i64 (of x)) ∧ Below w.heap.size w w'
theorem long_c : IsOf 46 (fun x => x.f1) := by
  intro x w
  obtain ⟨⟨a0, a1, a2, a3, a4, a5⟩, a6, a7, a8⟩ := x
  unfold itV
  go_enter Try.func46, Try.ntmps46
  go_wp2_with fail
  go_ret
  exact ⟨rfl, below_alloc (Below.refl _ _) _⟩
theorem now1_c : IsOf 75 nowOf := by
  intro x w
  obtain ⟨⟨a0, a1, a2, a3, a4, a5⟩, a6, a7, a8⟩ := x
  unfold itV
  cases a7
  all_goals
    go_enter Try.func75, Try.ntmps75
    go_wp2_with fail
    go_ret
    exact ⟨rfl, below_alloc (Below.refl _ _) _⟩
theorem unset_c (x : It) (w : World) : Calls Try.prog 50 #[.agg (itV x).toArray] w fun e w' => e = .returned (.bool (!x.f2)) ∧ Below w.heap.size w w' := by
  obtain ⟨⟨a0, a1, a2, a3, a4, a5⟩, a6, a7, a8⟩ := x
  unfold itV
  cases a7
  all_goals
    go_enter Try.func50, Try.ntmps50
    go_wp2_with fail
    go_ret
    exact ⟨rfl, below_alloc (Below.refl _ _) _⟩

/-- A row at block g: its room, its items, and whether they grow. The items' row is of its own, from base on, and not at g. -/
def IsR (w : World) (base g : Nat) (room : Int) (grows : Bool) (l : List It) : Prop :=
  ∃ v, w.heap[g]? = some (.cells #[.int .i64 room, v, .bool grows] 92 (0, 0)) ∧ Kd.R k95 95 w base (fun k => k ≠ g) v l
theorem IsR.below {w w1 : World} {base g : Nat} {room : Int} {grows : Bool} {l : List It} (h : IsR w base g room grows l) (hb : Below w.heap.size w w1) : IsR w1 base g room grows l := by
  obtain ⟨v, h1, h2⟩ := h
  exact ⟨v, (hb.block g (blk_lt h1)).trans h1, Kd.R_below h2 hb⟩
theorem IsR.reads {w : World} {base g : Nat} {room : Int} {grows : Bool} {l : List It} (h : IsR w base g room grows l) :
    ∃ A c, w.cell? ⟨g, 0, none⟩ = some (.int .i64 room) ∧ w.cell? ⟨g, 1, none⟩ = some (.slice A l.length c) ∧ w.cell? ⟨g, 2, none⟩ = some (.bool grows) ∧ Kd.C k95 w A l.length l ∧ g < w.heap.size ∧ l.length ≤ c := by
  obtain ⟨v, h1, h2⟩ := h
  obtain ⟨A, c, rfl, hl, hr⟩ := Kd.R_reads h2
  exact ⟨A, c, blk_cell h1 0, blk_cell h1 1, blk_cell h1 2, hr, blk_lt h1, hl⟩
theorem factor_c (x : It) (base g : Nat) (room : Int) (grows : Bool) (l : List It) (w : World) (h : IsR w base g room grows l) :
    Calls Try.prog 47 #[.pointer (some ⟨g, 0, none⟩), .agg (itV x).toArray] w fun e w' => e = .returned (.int .i64 (facP grows x)) ∧ Below w.heap.size w w' := by
  obtain ⟨A, c, h0, h1, h2, h3, h4, h5⟩ := h.reads
  obtain ⟨⟨a0, a1, a2, a3, a4, a5⟩, a6, a7, a8⟩ := x
  unfold itV
  clear h h0 h1 h3 h5
  cases grows
  all_goals
    go_enter Try.func47, Try.ntmps47
    go_wp2_with fail
    go_ret
    exact ⟨rfl, below_alloc (Below.refl _ _) _⟩
end Go.Proofs.Ytfkgpkkjiolfpaa.Flx
