/- Flexible rows: what they come to, in plain functions. No program, no memory. -/
import Derived.Test.YtfkgpkkjiolfpaaShareSum
namespace Go.Proofs.Ytfkgpkkjiolfpaa.Flx
open Go.RowKit Go.Proofs.Ytfkgpkkjiolfpaa.Pl Go.Proofs.Ytfkgpkkjiolfpaa.Sh Go.Proofs.YtfkgpkkjiolfpaaW.PrintWords Go.Proofs.YtfkgpkkjiolfpaaW.PrintMore
set_option linter.unusedVariables false
/-! #### struct type 37 -/
structure S37 where
  f0 : Int
  f1 : Int
  f2 : Int
  f3 : Int
  f4 : Int
  f5 : Int
def z37 : S37 := ⟨(0 : Int), (0 : Int), (0 : Int), (0 : Int), (0 : Int), (0 : Int)⟩
def k37 : Kd S37 := Kd.iso (Kd.pair (Kd.int .i64) (Kd.pair (Kd.int .i64) (Kd.pair (Kd.int .i64) (Kd.pair (Kd.int .i64) (Kd.pair (Kd.int .i64) (Kd.int .i64)))))) (fun x : S37 => (x.f0, x.f1, x.f2, x.f3, x.f4, x.f5))
theorem k37_open {w : World} {x : S37} {cs : List Value} (h : k37.K w x cs) : cs = [.int .i64 x.f0, .int .i64 x.f1, .int .i64 x.f2, .int .i64 x.f3, .int .i64 x.f4, .int .i64 x.f5] := by
  obtain ⟨_, _, rfl, rfl, ⟨_, _, rfl, rfl, ⟨_, _, rfl, rfl, ⟨_, _, rfl, rfl, ⟨_, _, rfl, rfl, rfl⟩⟩⟩⟩⟩ := h
  exact rfl
theorem k37_openM {w : World} {base : Nat} {ok : Nat → Prop} {x : S37} {cs : List Value} (h : k37.M w base ok x cs) : cs = [.int .i64 x.f0, .int .i64 x.f1, .int .i64 x.f2, .int .i64 x.f3, .int .i64 x.f4, .int .i64 x.f5] := by
  obtain ⟨_, _, rfl, rfl, ⟨_, _, rfl, rfl, ⟨_, _, rfl, rfl, ⟨_, _, rfl, rfl, ⟨_, _, rfl, rfl, rfl⟩⟩⟩⟩⟩ := h
  exact rfl
theorem k37_mk (w : World) (x : S37)  : k37.K w x [.int .i64 x.f0, .int .i64 x.f1, .int .i64 x.f2, .int .i64 x.f3, .int .i64 x.f4, .int .i64 x.f5] := ⟨[.int .i64 x.f0], [.int .i64 x.f1, .int .i64 x.f2, .int .i64 x.f3, .int .i64 x.f4, .int .i64 x.f5], rfl, rfl, ⟨[.int .i64 x.f1], [.int .i64 x.f2, .int .i64 x.f3, .int .i64 x.f4, .int .i64 x.f5], rfl, rfl, ⟨[.int .i64 x.f2], [.int .i64 x.f3, .int .i64 x.f4, .int .i64 x.f5], rfl, rfl, ⟨[.int .i64 x.f3], [.int .i64 x.f4, .int .i64 x.f5], rfl, rfl, ⟨[.int .i64 x.f4], [.int .i64 x.f5], rfl, rfl, rfl⟩⟩⟩⟩⟩
theorem k37_mkM (w : World) (base : Nat) (ok : Nat → Prop) (x : S37)  : k37.M w base ok x [.int .i64 x.f0, .int .i64 x.f1, .int .i64 x.f2, .int .i64 x.f3, .int .i64 x.f4, .int .i64 x.f5] := ⟨[.int .i64 x.f0], [.int .i64 x.f1, .int .i64 x.f2, .int .i64 x.f3, .int .i64 x.f4, .int .i64 x.f5], rfl, rfl, ⟨[.int .i64 x.f1], [.int .i64 x.f2, .int .i64 x.f3, .int .i64 x.f4, .int .i64 x.f5], rfl, rfl, ⟨[.int .i64 x.f2], [.int .i64 x.f3, .int .i64 x.f4, .int .i64 x.f5], rfl, rfl, ⟨[.int .i64 x.f3], [.int .i64 x.f4, .int .i64 x.f5], rfl, rfl, ⟨[.int .i64 x.f4], [.int .i64 x.f5], rfl, rfl, rfl⟩⟩⟩⟩⟩
def rd_T37 (xs : List S37) (i : Int) : S37 := xs.getD i.toNat z37
theorem at_T37 {w : World} {A : Option Addr} {n : Nat} {xs : List S37} (h : Kd.C k37 w A n xs) (i : Int) (h0 : 0 ≤ i) (h1 : i < n) : ∃ ad , A = some ad ∧ w.cell? (ad.add (i.toNat * 6)) = some (.int .i64 (rd_T37 xs i).f0) ∧ w.cell? ⟨(ad.add (i.toNat * 6)).block, (ad.add (i.toNat * 6)).off + 1, none⟩ = some (.int .i64 (rd_T37 xs i).f1) ∧ w.cell? ⟨(ad.add (i.toNat * 6)).block, (ad.add (i.toNat * 6)).off + 2, none⟩ = some (.int .i64 (rd_T37 xs i).f2) ∧ w.cell? ⟨(ad.add (i.toNat * 6)).block, (ad.add (i.toNat * 6)).off + 3, none⟩ = some (.int .i64 (rd_T37 xs i).f3) ∧ w.cell? ⟨(ad.add (i.toNat * 6)).block, (ad.add (i.toNat * 6)).off + 4, none⟩ = some (.int .i64 (rd_T37 xs i).f4) ∧ w.cell? ⟨(ad.add (i.toNat * 6)).block, (ad.add (i.toNat * 6)).off + 5, none⟩ = some (.int .i64 (rd_T37 xs i).f5) := by
  obtain ⟨ad, c, e, _, hK, hc0⟩ := Kd.C_get h z37 i h0 h1
  have hc : ∀ j u, c[j]? = some u → w.cell? (ad.add (i.toNat * 6 + j)) = some u := hc0
  obtain rfl := k37_open hK
  exact ⟨ad, e, hc 0 _ rfl, by rw [← add_field _ _ 1 (by omega)]; exact hc 1 _ rfl, by rw [← add_field _ _ 2 (by omega)]; exact hc 2 _ rfl, by rw [← add_field _ _ 3 (by omega)]; exact hc 3 _ rfl, by rw [← add_field _ _ 4 (by omega)]; exact hc 4 _ rfl, by rw [← add_field _ _ 5 (by omega)]; exact hc 5 _ rfl⟩

/-! #### struct type 95 -/
structure S95 where
  f0 : S37
  f1 : Int
  f2 : Bool
  f3 : Int
def z95 : S95 := ⟨z37, (0 : Int), false, (0 : Int)⟩
def k95 : Kd S95 := Kd.iso (Kd.pair k37 (Kd.pair (Kd.int .i64) (Kd.pair Kd.bool (Kd.int .i64)))) (fun x : S95 => (x.f0, x.f1, x.f2, x.f3))
theorem k95_open {w : World} {x : S95} {cs : List Value} (h : k95.K w x cs) : cs = [.int .i64 x.f0.f0, .int .i64 x.f0.f1, .int .i64 x.f0.f2, .int .i64 x.f0.f3, .int .i64 x.f0.f4, .int .i64 x.f0.f5, .int .i64 x.f1, .bool x.f2, .int .i64 x.f3] := by
  obtain ⟨_, _, rfl, s0, ⟨_, _, rfl, rfl, ⟨_, _, rfl, rfl, rfl⟩⟩⟩ := h
  obtain rfl := k37_open s0
  exact rfl
theorem k95_openM {w : World} {base : Nat} {ok : Nat → Prop} {x : S95} {cs : List Value} (h : k95.M w base ok x cs) : cs = [.int .i64 x.f0.f0, .int .i64 x.f0.f1, .int .i64 x.f0.f2, .int .i64 x.f0.f3, .int .i64 x.f0.f4, .int .i64 x.f0.f5, .int .i64 x.f1, .bool x.f2, .int .i64 x.f3] := by
  obtain ⟨_, _, rfl, s0, ⟨_, _, rfl, rfl, ⟨_, _, rfl, rfl, rfl⟩⟩⟩ := h
  obtain rfl := k37_openM s0
  exact rfl
theorem k95_mk (w : World) (x : S95)  : k95.K w x [.int .i64 x.f0.f0, .int .i64 x.f0.f1, .int .i64 x.f0.f2, .int .i64 x.f0.f3, .int .i64 x.f0.f4, .int .i64 x.f0.f5, .int .i64 x.f1, .bool x.f2, .int .i64 x.f3] := ⟨[.int .i64 x.f0.f0, .int .i64 x.f0.f1, .int .i64 x.f0.f2, .int .i64 x.f0.f3, .int .i64 x.f0.f4, .int .i64 x.f0.f5], [.int .i64 x.f1, .bool x.f2, .int .i64 x.f3], rfl, (k37_mk w x.f0 ), ⟨[.int .i64 x.f1], [.bool x.f2, .int .i64 x.f3], rfl, rfl, ⟨[.bool x.f2], [.int .i64 x.f3], rfl, rfl, rfl⟩⟩⟩
theorem k95_mkM (w : World) (base : Nat) (ok : Nat → Prop) (x : S95)  : k95.M w base ok x [.int .i64 x.f0.f0, .int .i64 x.f0.f1, .int .i64 x.f0.f2, .int .i64 x.f0.f3, .int .i64 x.f0.f4, .int .i64 x.f0.f5, .int .i64 x.f1, .bool x.f2, .int .i64 x.f3] := ⟨[.int .i64 x.f0.f0, .int .i64 x.f0.f1, .int .i64 x.f0.f2, .int .i64 x.f0.f3, .int .i64 x.f0.f4, .int .i64 x.f0.f5], [.int .i64 x.f1, .bool x.f2, .int .i64 x.f3], rfl, (k37_mkM w base ok x.f0 ), ⟨[.int .i64 x.f1], [.bool x.f2, .int .i64 x.f3], rfl, rfl, ⟨[.bool x.f2], [.int .i64 x.f3], rfl, rfl, rfl⟩⟩⟩
def rd_T95 (xs : List S95) (i : Int) : S95 := xs.getD i.toNat z95
theorem at_T95 {w : World} {A : Option Addr} {n : Nat} {xs : List S95} (h : Kd.C k95 w A n xs) (i : Int) (h0 : 0 ≤ i) (h1 : i < n) : ∃ ad , A = some ad ∧ w.cell? (ad.add (i.toNat * 9)) = some (.int .i64 (rd_T95 xs i).f0.f0) ∧ w.cell? ⟨(ad.add (i.toNat * 9)).block, (ad.add (i.toNat * 9)).off + 1, none⟩ = some (.int .i64 (rd_T95 xs i).f0.f1) ∧ w.cell? ⟨(ad.add (i.toNat * 9)).block, (ad.add (i.toNat * 9)).off + 2, none⟩ = some (.int .i64 (rd_T95 xs i).f0.f2) ∧ w.cell? ⟨(ad.add (i.toNat * 9)).block, (ad.add (i.toNat * 9)).off + 3, none⟩ = some (.int .i64 (rd_T95 xs i).f0.f3) ∧ w.cell? ⟨(ad.add (i.toNat * 9)).block, (ad.add (i.toNat * 9)).off + 4, none⟩ = some (.int .i64 (rd_T95 xs i).f0.f4) ∧ w.cell? ⟨(ad.add (i.toNat * 9)).block, (ad.add (i.toNat * 9)).off + 5, none⟩ = some (.int .i64 (rd_T95 xs i).f0.f5) ∧ w.cell? ⟨(ad.add (i.toNat * 9)).block, (ad.add (i.toNat * 9)).off + 6, none⟩ = some (.int .i64 (rd_T95 xs i).f1) ∧ w.cell? ⟨(ad.add (i.toNat * 9)).block, (ad.add (i.toNat * 9)).off + 7, none⟩ = some (.bool (rd_T95 xs i).f2) ∧ w.cell? ⟨(ad.add (i.toNat * 9)).block, (ad.add (i.toNat * 9)).off + 8, none⟩ = some (.int .i64 (rd_T95 xs i).f3) := by
  obtain ⟨ad, c, e, _, hK, hc0⟩ := Kd.C_get h z95 i h0 h1
  have hc : ∀ j u, c[j]? = some u → w.cell? (ad.add (i.toNat * 9 + j)) = some u := hc0
  obtain rfl := k95_open hK
  exact ⟨ad, e, hc 0 _ rfl, by rw [← add_field _ _ 1 (by omega)]; exact hc 1 _ rfl, by rw [← add_field _ _ 2 (by omega)]; exact hc 2 _ rfl, by rw [← add_field _ _ 3 (by omega)]; exact hc 3 _ rfl, by rw [← add_field _ _ 4 (by omega)]; exact hc 4 _ rfl, by rw [← add_field _ _ 5 (by omega)]; exact hc 5 _ rfl, by rw [← add_field _ _ 6 (by omega)]; exact hc 6 _ rfl, by rw [← add_field _ _ 7 (by omega)]; exact hc 7 _ rfl, by rw [← add_field _ _ 8 (by omega)]; exact hc 8 _ rfl⟩

abbrev LF := S37
abbrev It := S95

/-- Between two bounds. -/
def btw (n least most : Int) : Int := max (if 0 ≤ most then min (cut n) (cut most) else cut n) (cut least)
theorem btw_bd (n least most : Int) : -16777216 ≤ btw n least most ∧ btw n least most ≤ 16777216 := by
  unfold btw
  have h1 := cut_bd n
  have h2 := cut_bd least
  have h3 := cut_bd most
  split <;> omega
def bnd (n : Int) : Int := min (max n 0) 1000000
theorem bnd_bd (n : Int) : 0 ≤ bnd n ∧ bnd n ≤ 1000000 := by unfold bnd; omega
/-- An item, cut. -/
def mkLF (x : LF) : LF := ⟨cut x.f0, max 0 (cut x.f1), cut x.f2, bnd x.f3, bnd x.f4, cut x.f5⟩
def mkIt (x : LF) : It := ⟨mkLF x, btw (cut x.f0) (max 0 (cut x.f1)) (cut x.f2), false, 0⟩

/-- What an item is now. -/
def nowOf (x : It) : Int := if x.f2 = true then x.f3 else x.f0.f0
def freeP (room : Int) (of : It → Int) (l : List It) : Int := l.foldl (fun n x => n - (of x + x.f0.f5)) room
def facP (g : Bool) (x : It) : Int := if g = true then x.f0.f3 else x.f0.f4
def wgtP (g : Bool) (x : It) : Int := if x.f2 = true then 0 else if g = true then x.f0.f3 else prt x.f0.f4 (max 0 x.f0.f0) 64
def partsP (g : Bool) (l : List It) (free : Int) : List Int :=
  if g = true then share (max 0 free) (l.map (wgtP g)) else (share (max 0 (-free)) (l.map (wgtP g))).map fun x => -x
def near (a b : Int) : Int := if max b (-b) < max a (-a) then b else a
def sumU (g : Bool) (l : List It) : Int := l.foldl (fun n x => if x.f2 = true then n else n + facP g x) 0
def free1 (g : Bool) (room first : Int) (l : List It) : Int :=
  if sumU g l < 1000 then near (freeP room nowOf l) (prt first (sumU g l) 1000) else freeP room nowOf l
/-- An item told, and by how much it is bounded. -/
def tellI (x : It) (p : Int) : It := if x.f2 = true then x else ⟨x.f0, x.f1, x.f2, btw (x.f0.f0 + p) x.f0.f1 x.f0.f2⟩
def byI (x : It) (p : Int) : Int := if x.f2 = true then 0 else btw (x.f0.f0 + p) x.f0.f1 x.f0.f2 - cut (x.f0.f0 + p)
def settI (c b : Int) (x : It) : It := if c = 0 ∨ (0 < c ∧ 0 < b) ∨ (c < 0 ∧ b < 0) then ⟨x.f0, x.f1, true, x.f3⟩ else x
/-- A turn: at each place k. -/
def byK (l : List It) (ps : List Int) (k : Nat) : Int := byI (l.getD k z95) (ps.getD k 0)
def changedP (l : List It) (ps : List Int) : Int := ((List.range l.length).map (byK l ps)).sum
def turnP (l : List It) (ps : List Int) : List It := (List.range l.length).map fun k => settI (changedP l ps) (byK l ps k) (tellI (l.getD k z95) (ps.getD k 0))
def turnG (g : Bool) (room first : Int) (l : List It) : List It := turnP l (partsP g l (free1 g room first l))
/-- How many are not settled. -/
def unset (l : List It) : Nat := (l.filter fun x => !x.f2).length
def runP (g : Bool) (room first : Int) : Nat → List It → List It
  | 0, l => l
  | n + 1, l => if 0 < unset l then runP g room first n (turnG g room first l) else l
/-- Who is settled at once. -/
def initI (g : Bool) (x : It) : It := if facP g x = 0 ∨ (g = true ∧ x.f1 < x.f0.f0) ∨ (g = false ∧ x.f0.f0 < x.f1) then ⟨x.f0, x.f1, true, x.f1⟩ else x
def roomP (room gap : Int) (n : Nat) : Int := cut room - max 0 (cut gap) * max 0 ((n : Int) - 1)
def growsP (room : Int) (l : List It) : Bool := decide (0 < freeP room (fun x => x.f1) l)
def startP (room : Int) (l : List It) : List It := l.map (initI (growsP room l))
def endP (room : Int) (l : List It) : List It := runP (growsP room l) room (freeP room nowOf (startP room l)) l.length (startP room l)
def mainsP (room gap : Int) (l : List LF) : List Int := (endP (roomP room gap l.length) (l.map mkIt)).map fun x => max 0 x.f3

/-! ### A turn settles someone -/
theorem turn_len (l : List It) (ps : List Int) : (turnP l ps).length = l.length := by simp [turnP]
theorem turn_get (l : List It) (ps : List Int) (k : Nat) (hk : k < l.length) : (turnP l ps).getD k z95 = settI (changedP l ps) (byK l ps k) (tellI (l.getD k z95) (ps.getD k 0)) := by
  simp [turnP, List.getD_eq_getElem?_getD, hk]
theorem sett_f2 (c b : Int) (x : It) (h : x.f2 = true) : (settI c b x).f2 = true := by unfold settI; split <;> simp [h]
theorem tell_f2 (x : It) (p : Int) : (tellI x p).f2 = x.f2 := by unfold tellI; split <;> rfl
theorem unset_eq (l : List It) : unset l = ((List.range l.length).filter fun k => !(l.getD k z95).f2).length := by
  have key : ∀ n, n ≤ l.length → ((l.take n).filter fun x => !x.f2).length = ((List.range n).filter fun k => !(l.getD k z95).f2).length := by
    intro n
    induction n with
    | zero => intro _; rfl
    | succ n ih =>
      intro hn
      rw [List.take_succ_eq_append_getElem (by omega), List.filter_append, List.length_append, ih (by omega), List.range_succ, List.filter_append, List.length_append]
      congr 1
      have e : l.getD n z95 = l[n] := by simp [List.getD_eq_getElem?_getD, show n < l.length by omega]
      rw [List.filter_cons, List.filter_cons, e]
      cases l[n].f2 <;> rfl
  have := key l.length (Nat.le_refl _)
  rw [List.take_length] at this
  exact this
theorem filter_lt {p q : Nat → Bool} (L : List Nat) (h : ∀ k, k ∈ L → q k = true → p k = true) (hx : ∃ k, k ∈ L ∧ p k = true ∧ q k = false) : (L.filter q).length < (L.filter p).length := by
  induction L with
  | nil => obtain ⟨k, hk, _⟩ := hx; simp at hk
  | cons a L ih =>
    have hle : ∀ L : List Nat, (∀ k, k ∈ L → q k = true → p k = true) → (L.filter q).length ≤ (L.filter p).length := by
      intro L
      induction L with
      | nil => intro _; simp
      | cons b L ih2 =>
        intro h2
        have i := ih2 (fun k hk => h2 k (by simp [hk]))
        have hb := h2 b (by simp)
        rw [List.filter_cons, List.filter_cons]
        cases hq : q b with
        | true => rw [hb hq]; simp; exact i
        | false => cases hp : p b <;> simp <;> omega
    obtain ⟨k, hk, hp, hq⟩ := hx
    rw [List.filter_cons, List.filter_cons]
    rcases List.mem_cons.1 hk with rfl | hk
    · rw [hp, hq]
      have := hle L (fun k hk => h k (by simp [hk]))
      simp; omega
    · have i := ih (fun k hk => h k (by simp [hk])) ⟨k, hk, hp, hq⟩
      have ha := h a (by simp)
      cases hqa : q a with
      | true => rw [ha hqa]; simp; exact i
      | false => cases hpa : p a <;> simp <;> omega
theorem sum_pos {f : Nat → Int} (L : List Nat) (h : 0 < (L.map f).sum) : ∃ k, k ∈ L ∧ 0 < f k := by
  induction L with
  | nil => simp at h
  | cons a L ih =>
    rw [List.map_cons, List.sum_cons] at h
    by_cases ha : 0 < f a
    · exact ⟨a, by simp, ha⟩
    · obtain ⟨k, hk, hf⟩ := ih (by omega)
      exact ⟨k, by simp [hk], hf⟩
theorem sum_neg {f : Nat → Int} (L : List Nat) (h : (L.map f).sum < 0) : ∃ k, k ∈ L ∧ f k < 0 := by
  induction L with
  | nil => simp at h
  | cons a L ih =>
    rw [List.map_cons, List.sum_cons] at h
    by_cases ha : f a < 0
    · exact ⟨a, by simp, ha⟩
    · obtain ⟨k, hk, hf⟩ := ih (by omega)
      exact ⟨k, by simp [hk], hf⟩
theorem by_unset (l : List It) (ps : List Int) (k : Nat) (h : byK l ps k ≠ 0) : (l.getD k z95).f2 = false := by
  unfold byK byI at h
  cases hx : (l.getD k z95).f2 with
  | true => rw [hx, if_pos rfl] at h; exact absurd rfl h
  | false => rfl
theorem turn_less (l : List It) (ps : List Int) (h : 0 < unset l) : unset (turnP l ps) < unset l := by
  rw [unset_eq, unset_eq, turn_len]
  refine filter_lt _ (fun k hk hq => ?_) ?_
  · have hk' : k < l.length := List.mem_range.1 hk
    rw [turn_get l ps k hk'] at hq
    cases hx : (l.getD k z95).f2 with
    | true => rw [sett_f2 _ _ _ (by rw [tell_f2]; exact hx)] at hq; simp at hq
    | false => rfl
  · have done : ∀ k, k < l.length → (l.getD k z95).f2 = false → (changedP l ps = 0 ∨ (0 < changedP l ps ∧ 0 < byK l ps k) ∨ (changedP l ps < 0 ∧ byK l ps k < 0)) →
        ∃ k, k ∈ List.range l.length ∧ (!(l.getD k z95).f2) = true ∧ (!((turnP l ps).getD k z95).f2) = false := fun k hk hx hc => by
      refine ⟨k, List.mem_range.2 hk, by rw [hx]; rfl, ?_⟩
      rw [turn_get l ps k hk]
      unfold settI
      rw [if_pos hc]
      rfl
    by_cases h0 : changedP l ps = 0
    · rw [unset_eq] at h
      obtain ⟨k, hk⟩ := List.exists_mem_of_length_pos h
      rw [List.mem_filter] at hk
      exact done k (List.mem_range.1 hk.1) (by simpa using hk.2) (.inl h0)
    · by_cases hp : 0 < changedP l ps
      · obtain ⟨k, hk, hf⟩ := sum_pos (f := byK l ps) _ hp
        exact done k (List.mem_range.1 hk) (by_unset l ps k (by omega)) (.inr (.inl ⟨hp, hf⟩))
      · obtain ⟨k, hk, hf⟩ := sum_neg (f := byK l ps) _ (show ((List.range l.length).map (byK l ps)).sum < 0 by unfold changedP at h0 hp; omega)
        exact done k (List.mem_range.1 hk) (by_unset l ps k (by omega)) (.inr (.inr ⟨by unfold changedP at h0 hp ⊢; omega, hf⟩))
theorem run_enough (g : Bool) (room first : Int) : ∀ (n m : Nat) (l : List It), unset l ≤ n → unset l ≤ m → runP g room first n l = runP g room first m l := by
  intro n
  induction n with
  | zero =>
    intro m l h1 h2
    cases m with
    | zero => rfl
    | succ m => unfold runP; rw [if_neg (by omega)]
  | succ n ih =>
    intro m l h1 h2
    cases m with
    | zero => unfold runP; rw [if_neg (by omega)]
    | succ m =>
      unfold runP
      by_cases h : 0 < unset l
      · rw [if_pos h, if_pos h]
        have := turn_less l (partsP g l (free1 g room first l)) h
        exact ih m _ (by unfold turnG; omega) (by unfold turnG; omega)
      · rw [if_neg h, if_neg h]
theorem run_turn (g : Bool) (room first : Int) (l : List It) (h : 0 < unset l) : runP g room first (unset (turnG g room first l)) (turnG g room first l) = runP g room first (unset l) l := by
  have hl := turn_less l (partsP g l (free1 g room first l)) h
  obtain ⟨n, hn⟩ : ∃ n, unset l = n + 1 := ⟨unset l - 1, by omega⟩
  rw [hn]
  show _ = if 0 < unset l then runP g room first n (turnG g room first l) else l
  rw [if_pos h]
  exact run_enough _ _ _ _ _ _ (Nat.le_refl _) (by unfold turnG; omega)
end Go.Proofs.Ytfkgpkkjiolfpaa.Flx
