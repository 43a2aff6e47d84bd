/- Package breaks: Pieces. For every input. -/
import Derived.Test.YtmkgapdadandmaaBroken
import Derived.Laws.Strings2
import Derived.Laws.Strings3
import Derived.Laws.DeepStrings4
namespace Go.Proofs.Ytmkgapdadandmaa.Brk
open Go.RowKit Go.Lib Go.Proofs.Ytmkgapdadandmaa.Pl Go.Proofs.Ytmkgapdadandmaa.Fx Go.Proofs.YtmkgapdadandmaaW.PrintWords Go.Proofs.YtmkgapdadandmaaW.PrintLast Go.Proofs.YtmkgapdadandmaaW.PrintMore
set_option linter.unusedVariables false
set_option linter.unusedSimpArgs false
theorem infoS : (Try.prog.info? 9).map (fun i => (i.zero, i.size, i.bytes)) = some (some (.string ⟨#[]⟩), Kd.string.sz, 16) := by kernel_rfl
/-- A step of Pieces. -/
def stepP (s : ByteArray) (p : Int × List ByteArray) (u : Br) : Int × List ByteArray := if p.1 < u.f0 then (u.f0, p.2 ++ [s.extract p.1.toNat u.f0.toNat]) else p
def piecesP (s : ByteArray) (us : List Br) : Int × List ByteArray := us.foldl (stepP s) (0, [])
theorem pieces_snoc (s : ByteArray) (l : List Br) (u : Br) : piecesP s (l ++ [u]) = stepP s (piecesP s l) u := by simp [piecesP]
theorem pieces_bd (s : ByteArray) (l : List Br) (h : ∀ u, u ∈ l → 0 ≤ u.f0 ∧ u.f0 ≤ s.size) : 0 ≤ (piecesP s l).1 ∧ (piecesP s l).1 ≤ s.size ∧ (piecesP s l).2.length ≤ l.length := by
  have key : ∀ (l : List Br) (p : Int × List ByteArray), (∀ u, u ∈ l → 0 ≤ u.f0 ∧ u.f0 ≤ s.size) → 0 ≤ p.1 → p.1 ≤ s.size → 0 ≤ (l.foldl (stepP s) p).1 ∧ (l.foldl (stepP s) p).1 ≤ s.size ∧ (l.foldl (stepP s) p).2.length ≤ p.2.length + l.length := by
    intro l
    induction l with
    | nil => intro p _ h0 h1; exact ⟨h0, h1, by simp⟩
    | cons u l ih =>
      intro p hl h0 h1
      rw [List.foldl_cons]
      have hu := hl u (by simp)
      have hl' : ∀ x, x ∈ l → 0 ≤ x.f0 ∧ x.f0 ≤ s.size := fun x hx => hl x (by simp [hx])
      by_cases hc : p.1 < u.f0
      · have e : stepP s p u = (u.f0, p.2 ++ [s.extract p.1.toNat u.f0.toNat]) := by unfold stepP; rw [if_pos hc]
        rw [e]
        obtain ⟨a, b, c⟩ := ih (u.f0, p.2 ++ [s.extract p.1.toNat u.f0.toNat]) hl' hu.1 hu.2
        exact ⟨a, b, by simp at c ⊢; omega⟩
      · have e : stepP s p u = p := by unfold stepP; rw [if_neg hc]
        rw [e]
        obtain ⟨a, b, c⟩ := ih _ hl' h0 h1
        exact ⟨a, b, by simp at c ⊢; omega⟩
  have := key l (0, []) h (Int.le_refl _) (by show (0 : Int) ≤ _; omega)
  simpa [piecesP] using this
theorem take_snocB (l : List Br) (k : Nat) (hk : k < l.length) : l.take (k + 1) = l.take k ++ [rd_T93 l (k : Int)] := by
  have e : rd_T93 l (k : Int) = l[k] := by simp [rd_T93, List.getD_eq_getElem?_getD, hk]
  rw [e, List.take_succ_eq_append_getElem hk]
theorem rd_memB (l : List Br) (k : Nat) (hk : k < l.length) : rd_T93 l (k : Int) ∈ l := by
  have e : rd_T93 l (k : Int) = l[k] := by simp [rd_T93, List.getD_eq_getElem?_getD, hk]
  rw [e]; exact List.getElem_mem hk
def PostP (P : List Br → Prop) (w : World) (e : Ending) (w' : World) : Prop := ∃ v us, e = .returned v ∧ Kd.R k93 93 w' w.heap.size (fun _ => True) v us ∧ P us ∧ Below w.heap.size w w'
def PiePost (s : ByteArray) (P : List Br → Prop) (w : World) (e : Ending) (w' : World) : Prop := ∃ v us, e = .returned v ∧ Kd.R Kd.string 9 w' w.heap.size (fun _ => True) v (piecesP s (us ++ [⟨(s.size : Int), false⟩])).2 ∧ P us ∧ Below w.heap.size w w'

set_option maxRecDepth 100000 in
set_option maxHeartbeats 2000000 in
theorem Pieces_c (s : ByteArray) (mode : Int) (P : List Br → Prop) (w : World) (hs : s.size ≤ 1000) (hA : ∀ w, Calls Try.prog 50 #[.string s, .int .i64 mode] w (PostP P w)) (hP : ∀ us, P us → us.length ≤ 1000 ∧ ∀ u, u ∈ us → 0 ≤ u.f0 ∧ u.f0 ≤ s.size) :
    Calls Try.prog 34 #[.string s, .int .i64 mode] w (PiePost s P w) := by
  have HSZ := Lib.hid hs
  have HA := Lib.hid hA
  have HP := Lib.hid hP
  clear hs hA hP
  go_enter Try.func34, Try.ntmps34
  go_wp2_with fail
  refine (HA.out _).mono ?_
  rintro e w1 ⟨v, us, rfl, hR, hPu, hB⟩
  have R1 := Lib.hid hR
  have P1 := Lib.hid hPu
  have B1 := Lib.hid hB
  obtain ⟨hul, hub⟩ := HP.out us hPu
  have HUL := Lib.hid hul
  have HUB := Lib.hid hub
  clear hR hPu hB hul hub
  have hall : ∀ u, u ∈ us ++ [(⟨(s.size : Int), false⟩ : Br)] → 0 ≤ u.f0 ∧ u.f0 ≤ s.size := by
    intro u hu
    rcases List.mem_append.1 hu with hu | hu
    · exact HUB.out u hu
    · rw [List.mem_singleton] at hu
      subst hu
      exact ⟨by show (0 : Int) ≤ (s.size : Int); omega, by show (s.size : Int) ≤ _; omega⟩
  have hml : (us ++ [(⟨(s.size : Int), false⟩ : Br)]).length ≤ 1001 := by
    rw [List.length_append, List.length_singleton]
    have := HUL.out
    omega
  have POST : Hid (∀ vv ww, Kd.R Kd.string 9 ww w.heap.size (fun _ => True) vv (piecesP s (us ++ [⟨(s.size : Int), false⟩])).2 → Below w.heap.size w ww → PiePost s P w (.returned vv) ww) := Lib.hid (fun vv ww h1 h2 => ⟨vv, us, rfl, h1, P1.out, h2⟩)
  obtain ⟨l, hl⟩ : ∃ l, us ++ [(⟨(s.size : Int), false⟩ : Br)] = l := ⟨_, rfl⟩
  have HL := Lib.hid hl
  rw [hl] at hall hml POST
  obtain ⟨m, hm⟩ : ∃ m, l.length = m := ⟨_, rfl⟩
  have ALL := Lib.hid hall
  have HM := Lib.hid hm
  have HML := Lib.hid hml
  have hlm : m ≤ 9223372036854775807 := by omega
  clear hl hall hml hm
  go_wp2_with (at_builtin; go_loud (refine Kd.R_append k93 (w0 := w) w.heap.size rfl (.tmp 11) (.tmp 15) 90 93 _ 16 rfl Try.underlying90 infoB rfl (by decide) (by decide) _ us ⟨(s.size : Int), false⟩ [.int .i64 (s.size : Int), .bool false] (fun _ => True) (fun _ => False) rfl rfl (k93_mkM _ _ _ ⟨(s.size : Int), false⟩) (fun _ h => h.elim) (fun _ _ => trivial) R1.out B1.out (by have := B1.out.size; omega) (by have := HUL.out; omega) ?_); intro v1 w2 hO1 hB1 hG1 hat1; rw [HL.out] at hO1; obtain ⟨Aa, ca, rfl, hca, hC⟩ := Kd.R_reads hO1; rw [HM.out] at hC hca; rw [HM.out]; have AC := Lib.hid hC; have B2 := Lib.hid hB1; clear hO1 hB1 hG1 hat1 hC)
  obtain ⟨W0, rfl⟩ : ∃ W0 : World, W0 = w2 := ⟨_, rfl⟩
  go_loopw [5, 6, 18] (fun v f i wr => ∃ (k : Nat), k ≤ m ∧ i = .int .i64 k ∧ f = .int .i64 (piecesP s (l.take k)).1 ∧ Hid (Kd.R Kd.string 9 wr W0.heap.size (fun _ => True) v (piecesP s (l.take k)).2) ∧ Hid (Below W0.heap.size W0 wr)) (fun _ _ i _ => m - (intOf i).toNat)
  case atStart => exact ⟨0, Nat.zero_le _, rfl, rfl, Kd.R_nil _ _ _ _ _, Below.refl _ _⟩
  case round =>
    obtain ⟨k, hk, rfl, rfl, hR, hB0⟩ := hrel
    by_cases hlt : k < m
    · obtain ⟨ad, ea, x0, x1⟩ := at_T93 (Kd.C_below AC.out hB0.out) (k : Int) (by omega) (by omega)
      subst ea
      rw [Int.toNat_natCast] at x0 x1
      have hkl : k < l.length := by rw [HM.out]; exact hlt
      have hu := ALL.out _ (rd_memB l k hkl)
      have hbd := pieces_bd s (l.take k) (fun u hu => ALL.out u (List.mem_of_mem_take hu))
      have hsn := pieces_snoc s (l.take k) (rd_T93 l (k : Int))
      rw [← take_snocB l k hkl] at hsn
      have hlen : (l.take k).length ≤ 1001 := by have := HML.out; have := List.length_take_le k l; rw [List.length_take]; omega
      generalize rd_T93 l (k : Int) = u at *
      generalize piecesP s (l.take k) = p at *
      obtain ⟨from_, ps⟩ := p
      obtain ⟨u0, u1⟩ := u
      simp only at hbd hu x0 x1 hsn ⊢
      have hps : ps.length ≤ 1001 := by omega
      have HPS := Lib.hid hps
      have NE : Hid (∀ k, u5.ownBlock = some k → k < wr.heap.size) := Lib.hid fun k hk => ((Kd.R_bound hR.out).1 k hk).2.2.1
      have BA0 : Hid (∀ o, Below W0.heap.size W0 (wr.alloc o)) := Lib.hid fun o => below_alloc hB0.out o
      have RA : Hid (∀ o, Kd.R Kd.string 9 (wr.alloc o) W0.heap.size (fun _ => True) u5 ps) := Lib.hid fun o => Kd.R_below hR.out (below_alloc (Below.refl _ _) _)
      have HSN := Lib.hid hsn
      obtain ⟨g1, g2, g3⟩ := hbd
      obtain ⟨g4, g5⟩ := hu
      clear hsn hps hlen hkl g3
      by_cases hc : from_ < u0
      · have hle : from_ ≤ u0 := by omega
        have e : piecesP s (l.take (k + 1)) = (u0, ps ++ [s.extract from_.toNat u0.toNat]) := by rw [HSN.out]; unfold stepP; rw [if_pos hc]
        have E := Lib.hid e
        clear e
        go_wp2_with (at_builtin; go_loud (refine Kd.R_append Kd.string (w0 := W0) W0.heap.size rfl (.tmp 26) (.tmp 32) 76 9 _ 16 rfl Try.underlying76 infoS rfl (by decide) (by decide) _ ps (s.extract from_.toNat u0.toNat) [.string (s.extract from_.toNat u0.toNat)] (fun _ => True) (fun _ => False) rfl (by show Value.slice (some ⟨wr.heap.size + 1, 0, none⟩) 1 1 = _; rw [World.size_alloc]) rfl (fun _ h => h.elim) (fun _ _ => trivial) (RA.out _) (BA0.out _) (by have := hB0.out.size; simp; omega) (by have := HPS.out; omega) ?_); intro v1 w1 hO1 hB1 hG1 hat1; have hcell : w1.cell? ⟨wr.heap.size, 0, none⟩ = some (.int .i64 u0) := blk_cell (blk_grown (blk_new wr _) hG1 (fun e => by have := NE.out _ e.symm; omega)) 0; have O1 := Lib.hid hO1; have B1' := Lib.hid hB1; clear hO1 hB1 hG1 hat1)
        exact ⟨⟨k + 1, by omega, by go_num, by rw [E.out], by rw [E.out]; exact O1.out, B1'.out⟩, by simp [intOf]; omega⟩
      · have e : piecesP s (l.take (k + 1)) = (from_, ps) := by rw [HSN.out]; unfold stepP; rw [if_neg hc]
        have E := Lib.hid e
        clear e
        go_wp2_with fail
        exact ⟨⟨k + 1, by omega, by go_num, by rw [E.out], by rw [E.out]; exact RA.out _, BA0.out _⟩, by simp [intOf]; omega⟩
    · obtain rfl : k = m := by omega
      have hkn : l.take k = l := List.take_of_length_le (by rw [HM.out]; exact Nat.le_refl _)
      rw [hkn] at hR
      clear hkn
      go_wp2_with fail
      go_ret
      exact POST.out _ _ (Kd.R_lower hR.out B2.out.size) (below_then B2.out B2.out.size hB0.out)
end Go.Proofs.Ytmkgapdadandmaa.Brk
