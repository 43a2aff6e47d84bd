/- Package raster: lists of commands, flat: what holds of them, plain; a row of one. -/
import Derived.Test.YtfkgpkkjiolfpaaRasPixel
import Derived.Test.YtfkgpkkjiolfpaaWRepsOne
namespace Go.Proofs.Ytfkgpkkjiolfpaa.Ras
open Go.RowKit Go.Lib Go.Proofs.Ytfkgpkkjiolfpaa.Blk Go.Proofs.Ytfkgpkkjiolfpaa.Rgn Go.Proofs.Ytfkgpkkjiolfpaa.Pl Go.Proofs.Ytfkgpkkjiolfpaa.Fx Go.Proofs.Ytfkgpkkjiolfpaa.Fnt Go.Proofs.YtfkgpkkjiolfpaaW.PrintWords Go.Proofs.YtfkgpkkjiolfpaaW.PrintLast Go.Proofs.YtfkgpkkjiolfpaaW.PrintMore
set_option linter.unusedVariables false
set_option linter.unusedSimpArgs false
attribute [local go_sem] mx2 mn2 mx_two mn_two mx_three mn_three

/-- What a list comes to behind what is told already. -/
def FO (O : List LD) (S : List St) (l : List Cm) : Except Int (List LD) := (flatGo l S.reverse).map (O ++ ·)
theorem map_map (x : Except Int (List LD)) (O : List LD) (d : LD) : (x.map (d :: ·)).map (O ++ ·) = x.map ((O ++ [d]) ++ ·) := by
  cases x with
  | error e => rfl
  | ok a => show Except.ok (O ++ d :: a) = Except.ok (O ++ [d] ++ a); rw [List.append_assoc]; rfl
theorem FO_draw (O : List LD) (S0 : List St) (now : St) (c : Cm) (l : List Cm) (h : c.f0 = 1 ∨ c.f0 = 2) : FO O (S0 ++ [now]) (c :: l) = FO (O ++ [⟨c, now.f0, now.f1⟩]) (S0 ++ [now]) l := by
  unfold FO
  rw [List.reverse_append, List.reverse_singleton, List.singleton_append, flatGo, if_pos h, map_map]
theorem FO_clip (O : List LD) (S0 : List St) (now : St) (c : Cm) (l : List Cm) (h : c.f0 = 3) : FO O (S0 ++ [now]) (c :: l) = FO O ((S0 ++ [now]) ++ [⟨meetR now.f0 (rectR c), now.f1⟩]) l := by
  unfold FO
  simp only [List.reverse_append, List.reverse_singleton, List.singleton_append]
  rw [flatGo, if_neg (by omega), if_pos h]
theorem FO_group (O : List LD) (S0 : List St) (now : St) (c : Cm) (l : List Cm) (h : c.f0 = 4) : FO O (S0 ++ [now]) (c :: l) = FO O ((S0 ++ [now]) ++ [⟨now.f0, now.f1 * partP c.f7 / 1000⟩]) l := by
  unfold FO
  simp only [List.reverse_append, List.reverse_singleton, List.singleton_append]
  rw [flatGo, if_neg (by omega), if_neg (by omega), if_pos h]
theorem FO_end (O : List LD) (S0 : List St) (now : St) (c : Cm) (l : List Cm) (h : c.f0 = 5) : FO O (S0 ++ [now]) (c :: l) = if S0 = [] then .error 3 else FO O S0 l := by
  unfold FO
  rw [List.reverse_append, List.reverse_singleton, List.singleton_append, flatGo, if_neg (by omega), if_neg (by omega), if_neg (by omega), if_pos h]
  by_cases h0 : S0 = []
  · rw [if_pos h0, if_pos (by simp [h0])]; rfl
  · rw [if_neg h0, if_neg (by simpa using h0)]
theorem FO_kind (O : List LD) (S0 : List St) (now : St) (c : Cm) (l : List Cm) (h1 : c.f0 ≠ 1) (h2 : c.f0 ≠ 2) (h3 : c.f0 ≠ 3) (h4 : c.f0 ≠ 4) (h5 : c.f0 ≠ 5) : FO O (S0 ++ [now]) (c :: l) = .error 7 := by
  unfold FO
  rw [List.reverse_append, List.reverse_singleton, List.singleton_append, flatGo, if_neg (by omega), if_neg h3, if_neg h4, if_neg h5]
  rfl
theorem FO_nil (O : List LD) (S : List St) : FO O S [] = if 1 < S.length then .error 3 else .ok O := by
  unfold FO
  rw [flatGo, List.length_reverse]
  split
  · rfl
  · show Except.ok (O ++ []) = _; rw [List.append_nil]
def GoodS (s : St) : Prop := GoodR s.f0 ∧ 0 ≤ s.f1 ∧ s.f1 ≤ 1000
theorem good_all : GoodS ⟨allR, 1000⟩ := ⟨⟨by decide, by decide, by decide, by decide⟩, by decide, by decide⟩
theorem good_clip {s : St} {c : Cm} (h : GoodS s) : GoodS ⟨meetR s.f0 (rectR c), s.f1⟩ := ⟨meet_good h.1 (rect_cut c), h.2⟩
theorem good_group {s : St} {n : Int} (h : GoodS s) : GoodS ⟨s.f0, s.f1 * partP n / 1000⟩ := by
  have p := partP_bd n
  have h1 : 0 ≤ s.f1 * partP n := Int.mul_nonneg h.2.1 p.1
  have h2 : s.f1 * partP n ≤ 1000 * 1000 := Int.mul_le_mul h.2.2 p.2 p.1 (by omega)
  exact ⟨h.1, by show 0 ≤ s.f1 * partP n / 1000; omega, by show s.f1 * partP n / 1000 ≤ 1000; omega⟩
/-- What comes out is of the list's own commands, with good clips. -/
theorem flat_tame (l : List Cm) : ∀ (s : List St) (out : List LD), (∀ x, x ∈ s → GoodS x) → flatGo l s = .ok out → ∀ d, d ∈ out → d.f0 ∈ l ∧ GoodR d.f1 ∧ 0 ≤ d.f2 ∧ d.f2 ≤ 1000 := by
  induction l with
  | nil =>
    intro s out _ h d hd
    rw [flatGo] at h
    split at h
    · cases h
    · injection h with h; subst h; simp at hd
  | cons c l ih =>
    intro s out hs h d hd
    cases s with
    | nil => rw [flatGo] at h; cases h
    | cons now rest =>
      have hn := hs now (List.mem_cons_self ..)
      have hr : ∀ x, x ∈ rest → GoodS x := fun x hx => hs x (List.mem_cons_of_mem _ hx)
      rw [flatGo] at h
      by_cases h1 : c.f0 = 1 ∨ c.f0 = 2
      · rw [if_pos h1] at h
        cases hg : flatGo l (now :: rest) with
        | error e => rw [hg] at h; cases h
        | ok o =>
          rw [hg] at h
          injection h with h
          subst h
          rcases List.mem_cons.1 hd with rfl | hd
          · exact ⟨List.mem_cons_self .., hn.1, hn.2⟩
          · obtain ⟨a, b⟩ := ih _ _ hs hg d hd
            exact ⟨List.mem_cons_of_mem _ a, b⟩
      · rw [if_neg h1] at h
        have up : ∀ s', (∀ x, x ∈ s' → GoodS x) → flatGo l s' = .ok out → d.f0 ∈ c :: l ∧ GoodR d.f1 ∧ 0 ≤ d.f2 ∧ d.f2 ≤ 1000 := fun s' hs' h' => by
          obtain ⟨a, b⟩ := ih s' out hs' h' d hd
          exact ⟨List.mem_cons_of_mem _ a, b⟩
        by_cases h3 : c.f0 = 3
        · rw [if_pos h3] at h
          exact up _ (fun x hx => by rcases List.mem_cons.1 hx with rfl | hx; exact good_clip hn; exact hs x hx) h
        · rw [if_neg h3] at h
          by_cases h4 : c.f0 = 4
          · rw [if_pos h4] at h
            exact up _ (fun x hx => by rcases List.mem_cons.1 hx with rfl | hx; exact good_group hn; exact hs x hx) h
          · rw [if_neg h4] at h
            by_cases h5 : c.f0 = 5
            · rw [if_pos h5] at h
              by_cases h0 : rest = []
              · rw [if_pos h0] at h; cases h
              · rw [if_neg h0] at h; exact up _ hr h
            · rw [if_neg h5] at h; cases h

section
variable {P : Program} {o : Oper} {a : Act} {Q : Exit → Act → World → Prop} {Kc : Act → World → Prop} {α : Type}
theorem append_wp (d : Kd α) {w0 W : World} (base : Nat) (hgd : o.guard = none) (s x : Operand) (t e : TypeId) (z : Value) (bytes : Nat)
    (ho : o.op = .call { callee := .builtin .append, args := #[s, x], argTypes := #[t, t] })
    (ht : P.underlying t = some (.slice e)) (hinfo : (P.info? e).map (fun i => (i.zero, i.size, i.bytes)) = some (some z, d.sz, bytes)) (hz : z.cells.size = d.sz) (hs0 : 0 < d.sz) (hb0 : 0 < bytes)
    (v : Value) (xs : List α) (p : α) (cs : List Value) (ok okp : Nat → Prop) (hs : a.eval s = v) (hx : a.eval x = .slice (some ⟨W.heap.size, 0, none⟩) 1 1) (hp : d.M W base okp p cs) (hokp : ∀ k, okp k → ok k ∧ some k ≠ v.ownBlock) (hfresh : ∀ k, W.heap.size ≤ k → ok k)
    (HO : d.R e W base ok v xs) (HB : Below base w0 W) (hbase : base ≤ W.heap.size) (hl : (xs.length + 1) * bytes ≤ 140737488355328)
    (h : ∀ v1 w1, d.R e w1 base ok v1 (xs ++ [p]) → Below base w0 w1 → W.grownBy w1 v.ownBlock → Kc (a.put o.dst v1) w1) :
    Oper.wp P o a (W.alloc (.cells cs.toArray e)) Kc Q := by
  have hw : Region.wanted o (yielded (#[] : Array Oper) a.tmps) = true := by simp [Region.wanted, hgd]
  have h2 := Kd.R_append_step (ops := #[]) (Q := Q) (Kc := Kc) d base hw s x t e z bytes ho ht hinfo hz hs0 hb0 v xs p cs ok okp hs hx hp hokp hfresh HO HB hbase hl (fun v1 w1 h1 h2 h3 _ => h v1 w1 h1 h2 h3)
  rwa [if_pos hw] at h2
end
def stV (s : St) : List Value := [.int .i64 s.f0.f0, .int .i64 s.f0.f1, .int .i64 s.f0.f2, .int .i64 s.f0.f3, .int .i64 s.f1]
theorem infoD : (Try.prog.info? 119).map (fun i => (i.zero, i.size, i.bytes)) = some (some (.agg #[.int .i64 0, .int .i64 0, .int .i64 0, .int .i64 0, .int .i64 0, .int .i64 0, .int .i64 0, .int .i64 0, .string ⟨#[]⟩, .int .i64 0, .int .i64 0, .int .i64 0, .int .i64 0, .int .i64 0]), k119.sz, 120) := by kernel_rfl
theorem infoS : (Try.prog.info? 135).map (fun i => (i.zero, i.size, i.bytes)) = some (some (.agg #[.int .i64 0, .int .i64 0, .int .i64 0, .int .i64 0, .int .i64 0]), k135.sz, 40) := by kernel_rfl
theorem st_M (w : World) (base : Nat) (ok : Nat → Prop) (s : St) : k135.M w base ok s (stV s) := k135_mkM w base ok s
theorem ld_M (w : World) (base : Nat) (ok : Nat → Prop) (d : LD) : k119.M w base ok d (ldV d) := k119_mkM w base ok d
theorem lit_st (W : World) (base : Nat) (s : St) (hb : base ≤ W.heap.size) : Kd.R k135 135 (W.alloc (.cells (stV s).toArray 135)) base (fun _ => True) (.slice (some ⟨W.heap.size, 0, none⟩) 1 1) [s] := by
  have hr : Reps (k135.M (W.alloc (.cells (stV s).toArray 135)) base (fun k => True ∧ some k ≠ (Value.slice (some ⟨W.heap.size, 0, none⟩) 1 1).ownBlock)) k135.sz [s] (stV s ++ []) := Reps.front (st_M _ base _ s) rfl (Reps.none _ _) rfl
  rw [List.append_nil] at hr
  exact ⟨fun _ _ => trivial, OwnRow.lit W base hr hb (by simp)⟩
end Go.Proofs.Ytfkgpkkjiolfpaa.Ras
