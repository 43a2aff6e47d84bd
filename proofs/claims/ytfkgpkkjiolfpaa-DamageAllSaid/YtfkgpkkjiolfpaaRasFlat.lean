/- Package raster: lists of commands, flat. -/
import Derived.Test.YtfkgpkkjiolfpaaRasFlatP
import Derived.Deep.RegionHeld3
namespace Go.Proofs.Ytfkgpkkjiolfpaa.Ras
open Go.RowKit Go.Lib Go.Proofs.Ytfkgpkkjiolfpaa.Blk Go.Proofs.Ytfkgpkkjiolfpaa.Rgn Go.Proofs.Ytfkgpkkjiolfpaa.Pl Go.Proofs.Ytfkgpkkjiolfpaa.Fx Go.Proofs.Ytfkgpkkjiolfpaa.Fnt Go.Proofs.YtfkgpkkjiolfpaaW.PrintWords Go.Proofs.YtfkgpkkjiolfpaaW.PrintLast Go.Proofs.YtfkgpkkjiolfpaaW.PrintMore
set_option linter.unusedVariables false
set_option linter.unusedSimpArgs false
attribute [local go_sem] mx2 mn2 mx_two mn_two mx_three mn_three

theorem fld_S_0 (b : Nat) (w : World) : (Instr.fieldAt 135 (.pointer (some ⟨b, 0, none⟩)) 0).run Try.prog w = .ok (.pointer (some ⟨b, 0, none⟩)) w := by go_simp
theorem fld_S_1 (b : Nat) (w : World) : (Instr.fieldAt 135 (.pointer (some ⟨b, 0, none⟩)) 1).run Try.prog w = .ok (.pointer (some ⟨b, 4, none⟩)) w := by go_simp
theorem fld_C_7 (b : Nat) (w : World) : (Instr.fieldAt 65 (.pointer (some ⟨b, 0, none⟩)) 7).run Try.prog w = .ok (.pointer (some ⟨b, 7, none⟩)) w := by go_simp
/-- The two blocks of a round: the command, the state. -/
def Two (b : Nat) (cm st : Array Value) (W : World) : Prop := W.heap[b]? = some (.cells cm 65 (0, 0)) ∧ W.heap[b + 1]? = some (.cells st 135 (0, 0))
theorem two_below {b : Nat} {cm st : Array Value} {W W1 : World} (h : Two b cm st W) (hb : Below W.heap.size W W1) : Two b cm st W1 := ⟨blk_below h.1 hb, blk_below h.2 hb⟩
theorem two_grown {b : Nat} {cm st : Array Value} {W W1 : World} {row : Option Nat} (h : Two b cm st W) (hg : W.grownBy W1 row) (h1 : row ≠ some b) (h2 : row ≠ some (b + 1)) : Two b cm st W1 :=
  ⟨by rw [hg.block b (blk_lt h.1) (fun e => h1 e.symm)]; exact h.1, by rw [hg.block (b + 1) (blk_lt h.2) (fun e => h2 e.symm)]; exact h.2⟩
def FlatPost (l : List Cm) (w : World) (e : Ending) (w' : World) : Prop :=
  (∃ k, flatP l = .error k ∧ e = .returned (.tuple #[.slice none 0 0, .int .i64 k]) ∧ Below w.heap.size w w' ∧ k ≠ 0) ∨
  (∃ out v, flatP l = .ok out ∧ e = .returned (.tuple #[v, .int .i64 0]) ∧ Kd.R k119 119 w' w.heap.size (fun _ => True) v out ∧ Below w.heap.size w w')
set_option maxRecDepth 100000 in
set_option maxHeartbeats 4000000 in
theorem Flat_c (A : Option Addr) (n c : Nat) (l : List Cm) (w : World) (hC : Kd.C k65 w A n l) (hn : n ≤ 1000) :
    Calls Try.prog 63 #[.slice A n c] w (FlatPost l w) := by
  have hln : l.length = n := hC.1
  have LN := Lib.hid hln
  have HC := Lib.hid hC
  clear hC hln
  go_enter Try.func63, Try.ntmps63
  go_wp2_with fail
  refine (all_c w).mono ?_
  rintro e w1 ⟨rfl, h1⟩
  have hL := lit_st w1 w.heap.size ⟨allR, 1000⟩ h1.size
  have hB1 := below_then h1 h1.size (below_alloc (Below.refl w1.heap.size w1) (.cells (stV ⟨allR, 1000⟩).toArray 135))
  have L1 := Lib.hid hL
  have B1 := Lib.hid hB1
  clear h1 hL hB1
  unfold lrV
  go_wp2_with fail
  rw [show (w1.alloc (Obj.cells #[.int .i64 allR.f0, .int .i64 allR.f1, .int .i64 allR.f2, .int .i64 allR.f3, .int .i64 1000] 135)) = w1.alloc (.cells (stV ⟨allR, 1000⟩).toArray 135) from rfl]
  generalize w1.alloc (.cells (stV ⟨allR, 1000⟩).toArray 135) = W1 at *
  go_loopw [4, 5, 14] (fun va vo i wr => ∃ (k : Nat) (S0 : List St) (now : St) (O : List LD), k ≤ n ∧ S0.length ≤ k ∧ O.length ≤ k ∧ i = .int .i64 k ∧ Hid (FO O (S0 ++ [now]) (l.drop k) = flatP l) ∧ Hid (∀ x, x ∈ S0 ++ [now] → GoodS x) ∧ Hid (Kd.R k135 135 wr w.heap.size (fun _ => True) va (S0 ++ [now])) ∧ Hid (Kd.R k119 119 wr w.heap.size (fun _ => True) vo O) ∧ Hid (Below w.heap.size w wr)) (fun _ _ i _ => n - (RowKit.intOf i).toNat)
  case atStart => exact ⟨0, [], ⟨allR, 1000⟩, [], Nat.zero_le _, Nat.le_refl _, Nat.le_refl _, rfl, by
      show FO [] [⟨allR, 1000⟩] (l.drop 0) = flatP l
      unfold FO flatP
      rw [List.drop_zero, List.reverse_singleton]
      cases flatGo l [⟨allR, 1000⟩] <;> rfl, (fun x hx => by rw [List.nil_append, List.mem_singleton] at hx; subst hx; exact good_all), L1.out, Kd.R_nil _ _ _ _ _, B1.out⟩
  case round =>
    obtain ⟨k, S0, now, O, hk, hS, hO, rfl, hF, hG, hRS, hRO, hB⟩ := hrel
    have hlen : (S0 ++ [now]).length = S0.length + 1 := by simp
    obtain ⟨g, cp, hva, hgb, hgl, -⟩ := Kd.R_form hRS.out (by rw [hlen]; omega)
    subst hva
    rw [hlen] at hRS ⊢
    obtain ⟨-, hcp, hCS⟩ := Kd.R_reads' hRS.out
    rw [hlen] at hCS
    by_cases hlt : k < n
    · have hkl : k < l.length := by rw [LN.out]; exact hlt
      obtain ⟨ad, ea, x0, x1, x2, x3, x4, x5, x6, x7, x8⟩ := at_T65 (Kd.C_below HC.out hB.out) (k : Int) (by omega) (by omega)
      subst ea
      obtain ⟨ad2, ea2, y0, y1, y2, y3, y4⟩ := at_T135 hCS (S0.length : Int) (by omega) (by omega)
      injection ea2 with ea2
      subst ea2
      have hrd : rd_T65 l (k : Int) = l[k] := by simp [rd_T65, List.getD_eq_getElem?_getD, hkl]
      have hrn : rd_T135 (S0 ++ [now]) (S0.length : Int) = now := by simp [rd_T135, List.getD_eq_getElem?_getD]
      have hdk : l.drop k = l[k] :: l.drop (k + 1) := List.drop_eq_getElem_cons hkl
      rw [Int.toNat_natCast, hrd] at x0 x1 x2 x3 x4 x5 x6 x7 x8
      rw [Int.toNat_natCast, hrn] at y0 y1 y2 y3 y4
      simp only [Addr.add_mid, Nat.zero_add] at y0 y1 y2 y3 y4
      rw [hdk] at hF
      have hgn : GoodS now := hG.out now (by simp)
      generalize l[k] = cm at *
      clear hrd hrn hdk hkl hCS
      obtain ⟨a0, a1, a2, a3, a4, a5, a6, a7, s⟩ := cm
      obtain ⟨⟨r0, r1, r2, r3⟩, nn⟩ := now
      obtain ⟨gr, gn0, gn1⟩ := hgn
      simp only at x0 x1 x2 x3 x4 x5 x6 x7 x8 y0 y1 y2 y3 y4 gr gn0 gn1
      have RS : Hid (∀ o1 o2, Kd.R k135 135 ((wr.alloc o1).alloc o2) w.heap.size (fun _ => True) (.slice (some ⟨g, 0, none⟩) (S0.length + 1) cp) (S0 ++ [⟨⟨r0, r1, r2, r3⟩, nn⟩])) := Lib.hid fun o1 o2 => Kd.R_alloc (Kd.R_alloc hRS.out o1) o2
      have RO : Hid (∀ o1 o2, Kd.R k119 119 ((wr.alloc o1).alloc o2) w.heap.size (fun _ => True) u5 O) := Lib.hid fun o1 o2 => Kd.R_alloc (Kd.R_alloc hRO.out o1) o2
      have BB : Hid (∀ o1 o2, Below w.heap.size w ((wr.alloc o1).alloc o2)) := Lib.hid fun o1 o2 => below_alloc (below_alloc hB.out o1) o2
      have hwl := hB.out.size
      clear hRS hRO
      by_cases c1 : a0 = 1 ∨ a0 = 2
      · obtain ⟨D, hD⟩ : ∃ D : LD, D = ⟨⟨a0, a1, a2, a3, a4, a5, a6, a7, s⟩, ⟨r0, r1, r2, r3⟩, nn⟩ := ⟨_, rfl⟩
        obtain ⟨N, hN⟩ : ∃ N : St, N = ⟨⟨r0, r1, r2, r3⟩, nn⟩ := ⟨_, rfl⟩
        have hF2 := FO_draw O S0 ⟨⟨r0, r1, r2, r3⟩, nn⟩ ⟨a0, a1, a2, a3, a4, a5, a6, a7, s⟩ (l.drop (k + 1)) c1
        have F2 : Hid (FO (O ++ [D]) (S0 ++ [N]) (l.drop (k + 1)) = flatP l) := Lib.hid (by rw [hD, hN]; exact hF2.symm.trans hF.out)
        have HD := Lib.hid hD
        have HN := Lib.hid hN
        clear hD hN
        have hxx : (a0 == 1) = true ∨ ((a0 == 1) = false ∧ (a0 == 2) = true) := by
          rcases c1 with h | h
          · exact .inl (by simp [h])
          · exact .inr ⟨by simp [h], by simp [h]⟩
        clear hF2 hF c1
        rcases hxx with n1 | ⟨n1, n2⟩
        all_goals
          go_wp2_with (at_builtin; go_loud (refine Kd.R_append k119 (w0 := w) w.heap.size rfl (.tmp 29) (.tmp 36) 112 119 _ 120 rfl Try.underlying112 infoD rfl (by decide) (by decide) _ O ⟨⟨a0, a1, a2, a3, a4, a5, a6, a7, s⟩, ⟨r0, r1, r2, r3⟩, nn⟩ [.int .i64 a0, .int .i64 a1, .int .i64 a2, .int .i64 a3, .int .i64 a4, .int .i64 a5, .int .i64 a6, .int .i64 a7, .string s, .int .i64 r0, .int .i64 r1, .int .i64 r2, .int .i64 r3, .int .i64 nn] (fun _ => True) (fun _ => False) rfl (by show Value.slice (some ⟨wr.heap.size + 1 + 1, 0, none⟩) 1 1 = _; simp [World.size_alloc]) (ld_M _ _ _ ⟨⟨a0, a1, a2, a3, a4, a5, a6, a7, s⟩, ⟨r0, r1, r2, r3⟩, nn⟩) (fun _ h => h.elim) (fun _ _ => trivial) (RO.out _ _) (BB.out _ _) (BB.out _ _).size (by omega) ?_); intro v1 w1 hO1 hB1 hG1 hat1; rw [← HD.out] at hO1; have O1 := Lib.hid hO1; have S1 := Lib.hid (Kd.R_over (RS.out _ _) (RO.out _ _) (by decide) hG1); rw [← HN.out] at S1; have B1 := Lib.hid hB1; clear hO1 hB1 hG1 hat1)
          go_roundw
          case rel => exact ⟨k + 1, S0, N, O ++ [D], by omega, by omega, by simp; omega, by go_num, F2.out, by rw [HN.out]; exact hG.out, S1.out, O1.out, B1.out⟩
          case measure => simp [RowKit.intOf]; omega
      · have n1 : (a0 == 1) = false := by simp; omega
        have n2 : (a0 == 2) = false := by simp; omega
        by_cases c5 : a0 = 5
        · subst c5
          have hE := FO_end O S0 ⟨⟨r0, r1, r2, r3⟩, nn⟩ ⟨5, a1, a2, a3, a4, a5, a6, a7, s⟩ (l.drop (k + 1)) rfl
          rw [hF.out] at hE
          by_cases h0 : S0 = []
          · subst h0
            rw [if_pos rfl] at hE
            have POST : Hid (∀ o1 o2, FlatPost l w (.returned (.tuple #[.slice none 0 0, .int .i64 3])) ((wr.alloc o1).alloc o2)) := Lib.hid fun o1 o2 => .inl ⟨3, hE, rfl, BB.out o1 o2, by decide⟩
            clear hE hF hG RS RO BB
            simp only [List.length_nil, Nat.zero_add]
            simp only [List.length_nil, Nat.zero_mul, Nat.zero_add] at y0 y1 y2 y3 y4
            go_wp2_with fail
            go_ret2
            exact POST.out _ _
          · rw [if_neg h0] at hE
            obtain ⟨S1, nw, hS1⟩ : ∃ S1 nw, S0 = S1 ++ [nw] := ⟨S0.dropLast, S0.getLast h0, (List.dropLast_concat_getLast h0).symm⟩
            have hl1 : S0.length = S1.length + 1 := by rw [hS1]; simp
            have nL : ((S0.length : Int) + 1 == 1) = false := by simp; omega
            have F2 : Hid (FO O (S1 ++ [nw]) (l.drop (k + 1)) = flatP l) := Lib.hid (by rw [← hS1]; exact hE.symm)
            have G2 : Hid (∀ x, x ∈ S1 ++ [nw] → GoodS x) := Lib.hid (fun x hx => hG.out x (by rw [hS1]; exact List.mem_append_left _ hx))
            have RT : Hid (∀ o1 o2, Kd.R k135 135 ((wr.alloc o1).alloc o2) w.heap.size (fun _ => True) (.slice (some ⟨g, 0, none⟩) S0.length cp) (S1 ++ [nw])) := Lib.hid fun o1 o2 => by
              have h := Kd.R_take (m := S0.length) (RS.out o1 o2) (by simp)
              rw [List.take_left' rfl] at h
              rw [← hS1]
              exact h
            have L1 := Lib.hid hl1
            clear hE hF hG RS hS1 hl1 h0
            go_wp2_with fail
            go_roundw
            case rel => exact ⟨k + 1, S1, nw, O, by omega, by have := L1.out; omega, by omega, by go_num, F2.out, G2.out, RT.out _ _, RO.out _ _, BB.out _ _⟩
            case measure => simp [RowKit.intOf]; omega
        · by_cases c3 : a0 = 3
          · have hE := FO_clip O S0 ⟨⟨r0, r1, r2, r3⟩, nn⟩ ⟨a0, a1, a2, a3, a4, a5, a6, a7, s⟩ (l.drop (k + 1)) c3
            rw [hF.out] at hE
            have n3 : (a0 == 3) = true := by simp [c3]
            have REC := Lib.hid (fun W => rect_c ⟨a0, a1, a2, a3, a4, a5, a6, a7, s⟩ W)
            have MEE := Lib.hid (fun W => meet_c ⟨r0, r1, r2, r3⟩ (rectR ⟨a0, a1, a2, a3, a4, a5, a6, a7, s⟩) W gr (rect_cut ⟨a0, a1, a2, a3, a4, a5, a6, a7, s⟩))
            unfold cmV lrV at REC
            unfold lrV at MEE
            have hgm : GoodS ⟨meetR ⟨r0, r1, r2, r3⟩ (rectR ⟨a0, a1, a2, a3, a4, a5, a6, a7, s⟩), nn⟩ := good_clip (s := ⟨⟨r0, r1, r2, r3⟩, nn⟩) (c := ⟨a0, a1, a2, a3, a4, a5, a6, a7, s⟩) ⟨gr, gn0, gn1⟩
            simp only at hE
            obtain ⟨m0, m1, m2, m3, hmm⟩ : ∃ m0 m1 m2 m3, meetR ⟨r0, r1, r2, r3⟩ (rectR ⟨a0, a1, a2, a3, a4, a5, a6, a7, s⟩) = ⟨m0, m1, m2, m3⟩ := ⟨_, _, _, _, rfl⟩
            rw [hmm] at hE hgm MEE
            simp only at MEE
            have G2 : Hid (∀ x, x ∈ (S0 ++ [⟨⟨r0, r1, r2, r3⟩, nn⟩]) ++ [⟨⟨m0, m1, m2, m3⟩, nn⟩] → GoodS x) := Lib.hid (fun x hx => by
              rcases List.mem_append.1 hx with hx | hx
              · exact hG.out x hx
              · rw [List.mem_singleton] at hx; subst hx; exact hgm)
            obtain ⟨m4, m5, m6, m7, hrr⟩ : ∃ m4 m5 m6 m7, rectR ⟨a0, a1, a2, a3, a4, a5, a6, a7, s⟩ = ⟨m4, m5, m6, m7⟩ := ⟨_, _, _, _, rfl⟩
            rw [hrr] at REC MEE
            simp only at REC MEE
            have F2 := Lib.hid hE
            clear hE hF hG c1 c3 c5 hgm hmm hrr
            go_wp2_with fail
            have hTw : Two wr.heap.size #[.int .i64 a0, .int .i64 a1, .int .i64 a2, .int .i64 a3, .int .i64 a4, .int .i64 a5, .int .i64 a6, .int .i64 a7, .string s] #[.int .i64 r0, .int .i64 r1, .int .i64 r2, .int .i64 r3, .int .i64 nn] ((wr.alloc (.cells #[.int .i64 a0, .int .i64 a1, .int .i64 a2, .int .i64 a3, .int .i64 a4, .int .i64 a5, .int .i64 a6, .int .i64 a7, .string s] 65)).alloc (.cells #[.int .i64 r0, .int .i64 r1, .int .i64 r2, .int .i64 r3, .int .i64 nn] 135)) := ⟨blk_alloc (blk_new wr _) _, by have := blk_new (wr.alloc (.cells #[.int .i64 a0, .int .i64 a1, .int .i64 a2, .int .i64 a3, .int .i64 a4, .int .i64 a5, .int .i64 a6, .int .i64 a7, .string s] 65)) (.cells #[.int .i64 r0, .int .i64 r1, .int .i64 r2, .int .i64 r3, .int .i64 nn] 135); rwa [World.size_alloc] at this⟩
            have hRS2 := RS.out (.cells #[.int .i64 a0, .int .i64 a1, .int .i64 a2, .int .i64 a3, .int .i64 a4, .int .i64 a5, .int .i64 a6, .int .i64 a7, .string s] 65) (.cells #[.int .i64 r0, .int .i64 r1, .int .i64 r2, .int .i64 r3, .int .i64 nn] 135)
            have hRO2 := RO.out (.cells #[.int .i64 a0, .int .i64 a1, .int .i64 a2, .int .i64 a3, .int .i64 a4, .int .i64 a5, .int .i64 a6, .int .i64 a7, .string s] 65) (.cells #[.int .i64 r0, .int .i64 r1, .int .i64 r2, .int .i64 r3, .int .i64 nn] 135)
            have hBB2 := BB.out (.cells #[.int .i64 a0, .int .i64 a1, .int .i64 a2, .int .i64 a3, .int .i64 a4, .int .i64 a5, .int .i64 a6, .int .i64 a7, .string s] 65) (.cells #[.int .i64 r0, .int .i64 r1, .int .i64 r2, .int .i64 r3, .int .i64 nn] 135)
            have hsz2 : ((wr.alloc (.cells #[.int .i64 a0, .int .i64 a1, .int .i64 a2, .int .i64 a3, .int .i64 a4, .int .i64 a5, .int .i64 a6, .int .i64 a7, .string s] 65)).alloc (.cells #[.int .i64 r0, .int .i64 r1, .int .i64 r2, .int .i64 r3, .int .i64 nn] 135)).heap.size = wr.heap.size + 1 + 1 := by simp
            clear RS RO BB x0 x1 x2 x3 x4 x5 x6 x7 x8 y0 y1 y2 y3 y4
            generalize (wr.alloc (.cells #[.int .i64 a0, .int .i64 a1, .int .i64 a2, .int .i64 a3, .int .i64 a4, .int .i64 a5, .int .i64 a6, .int .i64 a7, .string s] 65)).alloc (.cells #[.int .i64 r0, .int .i64 r1, .int .i64 r2, .int .i64 r3, .int .i64 nn] 135) = WW at *
            obtain ⟨bC, hbC⟩ : ∃ bC, wr.heap.size = bC := ⟨_, rfl⟩
            rw [hbC] at hTw hsz2 ⊢
            have RS := Lib.hid hRS2
            have RO := Lib.hid hRO2
            have BB := Lib.hid hBB2
            have TW := Lib.hid hTw
            have SZ := Lib.hid hsz2
            have HBC := Lib.hid hbC
            clear hRS2 hRO2 hBB2 hsz2 hbC hTw
            refine wp_region_held_drew (S := Two bC #[.int .i64 a0, .int .i64 a1, .int .i64 a2, .int .i64 a3, .int .i64 a4, .int .i64 a5, .int .i64 a6, .int .i64 a7, .string s] #[.int .i64 r0, .int .i64 r1, .int .i64 r2, .int .i64 r3, .int .i64 nn]) (by kernel_rfl) TW.out (fun hHeld => ?_)
            refine wpAnyH_take (i := 0) (v := .slice (some ⟨g, 0, none⟩) (S0.length + 1) cp) rfl (by kernel_rfl) (by kernel_rfl) (by kernel_rfl) (fun _ _ _ h => h) (y_move (by rfl) rfl rfl) hHeld ?_
            try simp only [Act.put, List.getElem_toArray, List.getElem_cons_succ, List.getElem_cons_zero, List.setIfInBounds_toArray, List.set_cons_zero, List.set_cons_succ]
            refine wpAnyH_take (i := 1) (v := .pointer (some ⟨bC + 1, 0, none⟩)) rfl (by kernel_rfl) (by kernel_rfl) (by kernel_rfl) (fun _ _ _ h => h) (y_field (by rfl) rfl rfl (fld_S_0 _)) hHeld ?_
            try simp only [Act.put, List.getElem_toArray, List.getElem_cons_succ, List.getElem_cons_zero, List.setIfInBounds_toArray, List.set_cons_zero, List.set_cons_succ]
            refine wpAnyH_take (i := 2) (v := .agg #[.int .i64 r0, .int .i64 r1, .int .i64 r2, .int .i64 r3]) rfl (by kernel_rfl) (by kernel_rfl) (by kernel_rfl) (fun _ _ _ h => h) (y_run (by rfl) (fun w h => by have c0 : w.cell? ⟨bC + 1, 0, none⟩ = some (.int .i64 r0) := blk_cell h.2 0; have c1 : w.cell? ⟨bC + 1, 1, none⟩ = some (.int .i64 r1) := blk_cell h.2 1; have c2 : w.cell? ⟨bC + 1, 2, none⟩ = some (.int .i64 r2) := blk_cell h.2 2; have c3 : w.cell? ⟨bC + 1, 3, none⟩ = some (.int .i64 r3) := blk_cell h.2 3; unfold execOp; go_simp)) hHeld ?_
            try simp only [Act.put, List.getElem_toArray, List.getElem_cons_succ, List.getElem_cons_zero, List.setIfInBounds_toArray, List.set_cons_zero, List.set_cons_succ]
            refine wpAnyH_take (i := 3) (v := .agg #[.int .i64 a0, .int .i64 a1, .int .i64 a2, .int .i64 a3, .int .i64 a4, .int .i64 a5, .int .i64 a6, .int .i64 a7, .string s]) rfl (by kernel_rfl) (by kernel_rfl) (by kernel_rfl) (fun _ _ _ h => h) (y_run (by rfl) (fun w h => by have c0 : w.cell? ⟨bC, 0, none⟩ = some (.int .i64 a0) := blk_cell h.1 0; have c1 : w.cell? ⟨bC, 1, none⟩ = some (.int .i64 a1) := blk_cell h.1 1; have c2 : w.cell? ⟨bC, 2, none⟩ = some (.int .i64 a2) := blk_cell h.1 2; have c3 : w.cell? ⟨bC, 3, none⟩ = some (.int .i64 a3) := blk_cell h.1 3; have c4 : w.cell? ⟨bC, 4, none⟩ = some (.int .i64 a4) := blk_cell h.1 4; have c5 : w.cell? ⟨bC, 5, none⟩ = some (.int .i64 a5) := blk_cell h.1 5; have c6 : w.cell? ⟨bC, 6, none⟩ = some (.int .i64 a6) := blk_cell h.1 6; have c7 : w.cell? ⟨bC, 7, none⟩ = some (.int .i64 a7) := blk_cell h.1 7; have c8 : w.cell? ⟨bC, 8, none⟩ = some (.string s) := blk_cell h.1 8; unfold execOp; go_simp)) hHeld ?_
            try simp only [Act.put, List.getElem_toArray, List.getElem_cons_succ, List.getElem_cons_zero, List.setIfInBounds_toArray, List.set_cons_zero, List.set_cons_succ]
            refine wpAnyH_take (i := 6) (v := .pointer (some ⟨bC + 1, 4, none⟩)) rfl (by kernel_rfl) (by kernel_rfl) (by kernel_rfl) (fun _ _ _ h => h) (y_field (by rfl) rfl rfl (fld_S_1 _)) hHeld ?_
            try simp only [Act.put, List.getElem_toArray, List.getElem_cons_succ, List.getElem_cons_zero, List.setIfInBounds_toArray, List.set_cons_zero, List.set_cons_succ]
            refine wpAnyH_take (i := 7) (v := .int .i64 nn) rfl (by kernel_rfl) (by kernel_rfl) (by kernel_rfl) (fun _ _ _ h => h) (y_load (by rfl) rfl rfl (fun _ h => blk_cell h.2 4)) hHeld ?_
            try simp only [Act.put, List.getElem_toArray, List.getElem_cons_succ, List.getElem_cons_zero, List.setIfInBounds_toArray, List.set_cons_zero, List.set_cons_succ]
            refine wpAnyH_ready (rs := [4]) (by kernel_rfl) (by simp) ?_
            refine AllReadyH.cons rfl (fun K hK => ?_) AllReadyH.nil
            try simp only [Act.put, List.getElem_toArray, List.getElem_cons_succ, List.getElem_cons_zero, List.setIfInBounds_toArray, List.set_cons_zero, List.set_cons_succ]
            try rw [if_pos (by rfl)]
            go_simp
            refine (REC.out _).mono ?_
            rintro e w3 ⟨rfl, h3⟩
            refine hK.out _ _ (two_below hHeld h3) (fun hHeld => ?_)
            clear hK K
            try simp only [Act.put, List.getElem_toArray, List.getElem_cons_succ, List.getElem_cons_zero, List.setIfInBounds_toArray, List.set_cons_zero, List.set_cons_succ]
            refine wpAnyH_ready (rs := [5]) (by kernel_rfl) (by simp) ?_
            refine AllReadyH.cons rfl (fun K hK => ?_) AllReadyH.nil
            try simp only [Act.put, List.getElem_toArray, List.getElem_cons_succ, List.getElem_cons_zero, List.setIfInBounds_toArray, List.set_cons_zero, List.set_cons_succ]
            try rw [if_pos (by rfl)]
            go_simp
            refine (MEE.out _).mono ?_
            rintro e w4 ⟨rfl, h4⟩
            refine hK.out _ _ (two_below hHeld h4) (fun hHeld => ?_)
            clear hK K
            try simp only [Act.put, List.getElem_toArray, List.getElem_cons_succ, List.getElem_cons_zero, List.setIfInBounds_toArray, List.set_cons_zero, List.set_cons_succ]
            have b34 : Below WW.drew.heap.size WW.drew w4 := below_then h3 h3.size h4
            have RS4 := Lib.hid (Kd.R_below (Kd.R_drew RS.out) b34)
            have RO4 := Lib.hid (Kd.R_below (Kd.R_drew RO.out) b34)
            have BB4 := Lib.hid (below_then BB.out.drew BB.out.drew.size b34)
            have HT4 := Lib.hid hHeld
            clear h3 h4 b34
            refine wpAnyH_take (i := 8) (v := .agg #[.int .i64 m0, .int .i64 m1, .int .i64 m2, .int .i64 m3, .int .i64 nn]) rfl (by kernel_rfl) (by kernel_rfl) (by kernel_rfl) (fun _ _ _ h => h) (y_run (by rfl) (fun w _ => by unfold execOp; go_simp)) hHeld ?_
            try simp only [Act.put, List.getElem_toArray, List.getElem_cons_succ, List.getElem_cons_zero, List.setIfInBounds_toArray, List.set_cons_zero, List.set_cons_succ]
            refine wpAnyH_ready (rs := [9]) (by kernel_rfl) (by simp) ?_
            refine AllReadyH.cons rfl (fun K hK => ?_) AllReadyH.nil
            try simp only [Act.put, List.getElem_toArray, List.getElem_cons_succ, List.getElem_cons_zero, List.setIfInBounds_toArray, List.set_cons_zero, List.set_cons_succ]
            try rw [if_pos (by rfl)]
            go_simp
            refine hK.out _ _ (two_below hHeld (below_alloc (Below.refl _ _) _)) (fun hHeld => ?_)
            clear hK K
            try simp only [Act.put, List.getElem_toArray, List.getElem_cons_succ, List.getElem_cons_zero, List.setIfInBounds_toArray, List.set_cons_zero, List.set_cons_succ]
            refine wpAnyH_ready (rs := [10]) (by kernel_rfl) (by simp) ?_
            refine AllReadyH.cons rfl (fun K hK => ?_) AllReadyH.nil
            try simp only [Act.put, List.getElem_toArray, List.getElem_cons_succ, List.getElem_cons_zero, List.setIfInBounds_toArray, List.set_cons_zero, List.set_cons_succ]
            rw [if_pos (by rfl)]
            have hxe : ((.slice (some ⟨w4.heap.size, 0, none⟩) 1 1 : Value)) = .slice (some ⟨w4.heap.size, 0, none⟩) 1 1 := rfl
            refine append_wp k135 (w0 := w) w.heap.size ?_ (.tmp 40) (.tmp 49) 136 135 _ 40 ?_ Try.underlying136 infoS rfl (by decide) (by decide) (.slice (some ⟨g, 0, none⟩) (S0.length + 1) cp) (S0 ++ [⟨⟨r0, r1, r2, r3⟩, nn⟩]) ⟨⟨m0, m1, m2, m3⟩, nn⟩ (stV ⟨⟨m0, m1, m2, m3⟩, nn⟩) (fun _ => True) (fun _ => False) ?_ ?_ (st_M _ _ _ _) (fun _ h => h.elim) (fun _ _ => trivial) RS4.out BB4.out BB4.out.size (by rw [hlen]; omega) ?_
            · rfl
            · rfl
            · rfl
            · rfl
            intro v1 w6 hO1 hB1 hG1
            have hgb2 : g < bC := by have := HBC.out; omega
            have hT6 := two_grown HT4.out hG1 (by simp [Value.ownBlock]; omega) (by simp [Value.ownBlock]; omega)
            have S6 := Lib.hid hO1
            have O6 := Lib.hid (Kd.R_over RO4.out RS4.out (by decide) hG1)
            have B6 := Lib.hid hB1
            clear hO1 hB1 hG1 hxe hgb2
            refine hK.out _ _ hT6 (fun hHeld => ?_)
            clear hK K
            try simp only [Act.put, List.getElem_toArray, List.getElem_cons_succ, List.getElem_cons_zero, List.setIfInBounds_toArray, List.set_cons_zero, List.set_cons_succ]
            clear hT6
            refine wpAnyH_take (i := 11) (v := v1) rfl (by kernel_rfl) (by kernel_rfl) (by kernel_rfl) (fun _ _ _ h => h) (y_assign (by rfl) rfl rfl) hHeld ?_
            try simp only [Act.put, List.getElem_toArray, List.getElem_cons_succ, List.getElem_cons_zero, List.setIfInBounds_toArray, List.set_cons_zero, List.set_cons_succ]
            refine wpAnyH_done (by kernel_rfl) ?_ _
            clear hHeld
            have hbC := HBC.out
            subst hbC
            clear HBC TW RS RO BB RS4 RO4 BB4 HT4
            go_wp2_with fail
            go_roundw
            case rel => exact ⟨k + 1, S0 ++ ([⟨⟨r0, r1, r2, r3⟩, nn⟩] : List St), ⟨⟨m0, m1, m2, m3⟩, nn⟩, O, by omega, by rw [hlen]; omega, by omega, by go_num, F2.out.symm, G2.out, S6.out, O6.out, B6.out⟩
            case measure => simp [RowKit.intOf]; omega
          · by_cases c4 : a0 = 4
            · have hE := FO_group O S0 ⟨⟨r0, r1, r2, r3⟩, nn⟩ ⟨a0, a1, a2, a3, a4, a5, a6, a7, s⟩ (l.drop (k + 1)) c4
              rw [hF.out] at hE
              have n3 : (a0 == 3) = false := by simp [c3]
              have n4 : (a0 == 4) = true := by simp [c4]
              have hpb := partP_bd a7
              have hgm : GoodS ⟨⟨r0, r1, r2, r3⟩, nn * partP a7 / 1000⟩ := good_group (s := ⟨⟨r0, r1, r2, r3⟩, nn⟩) (n := a7) ⟨gr, gn0, gn1⟩
              have PRT := Lib.hid (fun W => part_c a7 W)
              simp only at hE
              have q0 : 0 ≤ nn * partP a7 := Int.mul_nonneg gn0 hpb.1
              have q1 : nn * partP a7 ≤ 1000 * 1000 := Int.mul_le_mul gn1 hpb.2 hpb.1 (by omega)
              generalize partP a7 = pp at *
              have G2 : Hid (∀ x, x ∈ (S0 ++ [⟨⟨r0, r1, r2, r3⟩, nn⟩]) ++ [⟨⟨r0, r1, r2, r3⟩, nn * pp / 1000⟩] → GoodS x) := Lib.hid (fun x hx => by
                rcases List.mem_append.1 hx with hx | hx
                · exact hG.out x hx
                · rw [List.mem_singleton] at hx; subst hx; exact hgm)
              have F2 := Lib.hid hE
              clear hE hF hG c1 c3 c4 c5 hgm
              go_wp2_with fail
              have hTw : Two wr.heap.size #[.int .i64 a0, .int .i64 a1, .int .i64 a2, .int .i64 a3, .int .i64 a4, .int .i64 a5, .int .i64 a6, .int .i64 a7, .string s] #[.int .i64 r0, .int .i64 r1, .int .i64 r2, .int .i64 r3, .int .i64 nn] ((wr.alloc (.cells #[.int .i64 a0, .int .i64 a1, .int .i64 a2, .int .i64 a3, .int .i64 a4, .int .i64 a5, .int .i64 a6, .int .i64 a7, .string s] 65)).alloc (.cells #[.int .i64 r0, .int .i64 r1, .int .i64 r2, .int .i64 r3, .int .i64 nn] 135)) := ⟨blk_alloc (blk_new wr _) _, by have := blk_new (wr.alloc (.cells #[.int .i64 a0, .int .i64 a1, .int .i64 a2, .int .i64 a3, .int .i64 a4, .int .i64 a5, .int .i64 a6, .int .i64 a7, .string s] 65)) (.cells #[.int .i64 r0, .int .i64 r1, .int .i64 r2, .int .i64 r3, .int .i64 nn] 135); rwa [World.size_alloc] at this⟩
              have hRS2 := RS.out (.cells #[.int .i64 a0, .int .i64 a1, .int .i64 a2, .int .i64 a3, .int .i64 a4, .int .i64 a5, .int .i64 a6, .int .i64 a7, .string s] 65) (.cells #[.int .i64 r0, .int .i64 r1, .int .i64 r2, .int .i64 r3, .int .i64 nn] 135)
              have hRO2 := RO.out (.cells #[.int .i64 a0, .int .i64 a1, .int .i64 a2, .int .i64 a3, .int .i64 a4, .int .i64 a5, .int .i64 a6, .int .i64 a7, .string s] 65) (.cells #[.int .i64 r0, .int .i64 r1, .int .i64 r2, .int .i64 r3, .int .i64 nn] 135)
              have hBB2 := BB.out (.cells #[.int .i64 a0, .int .i64 a1, .int .i64 a2, .int .i64 a3, .int .i64 a4, .int .i64 a5, .int .i64 a6, .int .i64 a7, .string s] 65) (.cells #[.int .i64 r0, .int .i64 r1, .int .i64 r2, .int .i64 r3, .int .i64 nn] 135)
              have hsz2 : ((wr.alloc (.cells #[.int .i64 a0, .int .i64 a1, .int .i64 a2, .int .i64 a3, .int .i64 a4, .int .i64 a5, .int .i64 a6, .int .i64 a7, .string s] 65)).alloc (.cells #[.int .i64 r0, .int .i64 r1, .int .i64 r2, .int .i64 r3, .int .i64 nn] 135)).heap.size = wr.heap.size + 1 + 1 := by simp
              clear RS RO BB x0 x1 x2 x3 x4 x5 x6 x7 x8 y0 y1 y2 y3 y4
              generalize (wr.alloc (.cells #[.int .i64 a0, .int .i64 a1, .int .i64 a2, .int .i64 a3, .int .i64 a4, .int .i64 a5, .int .i64 a6, .int .i64 a7, .string s] 65)).alloc (.cells #[.int .i64 r0, .int .i64 r1, .int .i64 r2, .int .i64 r3, .int .i64 nn] 135) = WW at *
              obtain ⟨bC, hbC⟩ : ∃ bC, wr.heap.size = bC := ⟨_, rfl⟩
              rw [hbC] at hTw hsz2 ⊢
              have RS := Lib.hid hRS2
              have RO := Lib.hid hRO2
              have BB := Lib.hid hBB2
              have TW := Lib.hid hTw
              have SZ := Lib.hid hsz2
              have HBC := Lib.hid hbC
              clear hRS2 hRO2 hBB2 hsz2 hbC hTw
              refine wp_region_held_drew (S := Two bC #[.int .i64 a0, .int .i64 a1, .int .i64 a2, .int .i64 a3, .int .i64 a4, .int .i64 a5, .int .i64 a6, .int .i64 a7, .string s] #[.int .i64 r0, .int .i64 r1, .int .i64 r2, .int .i64 r3, .int .i64 nn]) (by kernel_rfl) TW.out (fun hHeld => ?_)
              refine wpAnyH_take (i := 0) (v := .slice (some ⟨g, 0, none⟩) (S0.length + 1) cp) rfl (by kernel_rfl) (by kernel_rfl) (by kernel_rfl) (fun _ _ _ h => h) (y_move (by rfl) rfl rfl) hHeld ?_
              try simp only [Act.put, List.getElem_toArray, List.getElem_cons_succ, List.getElem_cons_zero, List.setIfInBounds_toArray, List.set_cons_zero, List.set_cons_succ]
              refine wpAnyH_take (i := 1) (v := .pointer (some ⟨bC + 1, 0, none⟩)) rfl (by kernel_rfl) (by kernel_rfl) (by kernel_rfl) (fun _ _ _ h => h) (y_field (by rfl) rfl rfl (fld_S_0 _)) hHeld ?_
              try simp only [Act.put, List.getElem_toArray, List.getElem_cons_succ, List.getElem_cons_zero, List.setIfInBounds_toArray, List.set_cons_zero, List.set_cons_succ]
              refine wpAnyH_take (i := 2) (v := .agg #[.int .i64 r0, .int .i64 r1, .int .i64 r2, .int .i64 r3]) rfl (by kernel_rfl) (by kernel_rfl) (by kernel_rfl) (fun _ _ _ h => h) (y_run (by rfl) (fun w h => by have c0 : w.cell? ⟨bC + 1, 0, none⟩ = some (.int .i64 r0) := blk_cell h.2 0; have c1 : w.cell? ⟨bC + 1, 1, none⟩ = some (.int .i64 r1) := blk_cell h.2 1; have c2 : w.cell? ⟨bC + 1, 2, none⟩ = some (.int .i64 r2) := blk_cell h.2 2; have c3 : w.cell? ⟨bC + 1, 3, none⟩ = some (.int .i64 r3) := blk_cell h.2 3; unfold execOp; go_simp)) hHeld ?_
              try simp only [Act.put, List.getElem_toArray, List.getElem_cons_succ, List.getElem_cons_zero, List.setIfInBounds_toArray, List.set_cons_zero, List.set_cons_succ]
              refine wpAnyH_take (i := 3) (v := .pointer (some ⟨bC + 1, 4, none⟩)) rfl (by kernel_rfl) (by kernel_rfl) (by kernel_rfl) (fun _ _ _ h => h) (y_field (by rfl) rfl rfl (fld_S_1 _)) hHeld ?_
              try simp only [Act.put, List.getElem_toArray, List.getElem_cons_succ, List.getElem_cons_zero, List.setIfInBounds_toArray, List.set_cons_zero, List.set_cons_succ]
              refine wpAnyH_take (i := 4) (v := .int .i64 nn) rfl (by kernel_rfl) (by kernel_rfl) (by kernel_rfl) (fun _ _ _ h => h) (y_load (by rfl) rfl rfl (fun _ h => blk_cell h.2 4)) hHeld ?_
              try simp only [Act.put, List.getElem_toArray, List.getElem_cons_succ, List.getElem_cons_zero, List.setIfInBounds_toArray, List.set_cons_zero, List.set_cons_succ]
              refine wpAnyH_take (i := 5) (v := .pointer (some ⟨bC, 7, none⟩)) rfl (by kernel_rfl) (by kernel_rfl) (by kernel_rfl) (fun _ _ _ h => h) (y_field (by rfl) rfl rfl (fld_C_7 _)) hHeld ?_
              try simp only [Act.put, List.getElem_toArray, List.getElem_cons_succ, List.getElem_cons_zero, List.setIfInBounds_toArray, List.set_cons_zero, List.set_cons_succ]
              refine wpAnyH_take (i := 6) (v := .int .i64 a7) rfl (by kernel_rfl) (by kernel_rfl) (by kernel_rfl) (fun _ _ _ h => h) (y_load (by rfl) rfl rfl (fun _ h => blk_cell h.1 7)) hHeld ?_
              try simp only [Act.put, List.getElem_toArray, List.getElem_cons_succ, List.getElem_cons_zero, List.setIfInBounds_toArray, List.set_cons_zero, List.set_cons_succ]
              refine wpAnyH_ready (rs := [7]) (by kernel_rfl) (by simp) ?_
              refine AllReadyH.cons rfl (fun K hK => ?_) AllReadyH.nil
              try simp only [Act.put, List.getElem_toArray, List.getElem_cons_succ, List.getElem_cons_zero, List.setIfInBounds_toArray, List.set_cons_zero, List.set_cons_succ]
              try rw [if_pos (by rfl)]
              go_simp
              refine (PRT.out _).mono ?_
              rintro e w' ⟨rfl, rfl⟩
              refine hK.out _ _ hHeld (fun hHeld => ?_)
              clear hK K
              try simp only [Act.put, List.getElem_toArray, List.getElem_cons_succ, List.getElem_cons_zero, List.setIfInBounds_toArray, List.set_cons_zero, List.set_cons_succ]
              have RS4 := Lib.hid (Kd.R_drew RS.out)
              have RO4 := Lib.hid (Kd.R_drew RO.out)
              have BB4 := Lib.hid BB.out.drew
              have HT4 := Lib.hid hHeld
              refine wpAnyH_take (i := 8) (v := .int .i64 (nn * pp)) rfl (by kernel_rfl) (by kernel_rfl) (by kernel_rfl) (fun _ _ _ h => h) (y_run (by rfl) (fun w _ => by unfold execOp; go_simp; exact IntWalk.i64_in _ ⟨by omega, by omega⟩)) hHeld ?_
              try simp only [Act.put, List.getElem_toArray, List.getElem_cons_succ, List.getElem_cons_zero, List.setIfInBounds_toArray, List.set_cons_zero, List.set_cons_succ]
              refine wpAnyH_take (i := 9) (v := .int .i64 (nn * pp / 1000)) rfl (by kernel_rfl) (by kernel_rfl) (by kernel_rfl) (fun _ _ _ h => h) (y_run (by rfl) (fun w _ => by unfold execOp; go_simp; rw [Int.tdiv_eq_ediv_of_nonneg q0]; exact IntWalk.i64_in _ ⟨by omega, by omega⟩)) hHeld ?_
              try simp only [Act.put, List.getElem_toArray, List.getElem_cons_succ, List.getElem_cons_zero, List.setIfInBounds_toArray, List.set_cons_zero, List.set_cons_succ]
              refine wpAnyH_take (i := 10) (v := .agg #[.int .i64 r0, .int .i64 r1, .int .i64 r2, .int .i64 r3, .int .i64 (nn * pp / 1000)]) rfl (by kernel_rfl) (by kernel_rfl) (by kernel_rfl) (fun _ _ _ h => h) (y_run (by rfl) (fun w _ => by unfold execOp; go_simp)) hHeld ?_
              try simp only [Act.put, List.getElem_toArray, List.getElem_cons_succ, List.getElem_cons_zero, List.setIfInBounds_toArray, List.set_cons_zero, List.set_cons_succ]
              generalize nn * pp / 1000 = n5 at *
              refine wpAnyH_ready (rs := [11]) (by kernel_rfl) (by simp) ?_
              refine AllReadyH.cons rfl (fun K hK => ?_) AllReadyH.nil
              try simp only [Act.put, List.getElem_toArray, List.getElem_cons_succ, List.getElem_cons_zero, List.setIfInBounds_toArray, List.set_cons_zero, List.set_cons_succ]
              try rw [if_pos (by rfl)]
              go_simp
              refine hK.out _ _ (two_below hHeld (below_alloc (Below.refl _ _) _)) (fun hHeld => ?_)
              clear hK K
              try simp only [Act.put, List.getElem_toArray, List.getElem_cons_succ, List.getElem_cons_zero, List.setIfInBounds_toArray, List.set_cons_zero, List.set_cons_succ]
              refine wpAnyH_ready (rs := [12]) (by kernel_rfl) (by simp) ?_
              refine AllReadyH.cons rfl (fun K hK => ?_) AllReadyH.nil
              try simp only [Act.put, List.getElem_toArray, List.getElem_cons_succ, List.getElem_cons_zero, List.setIfInBounds_toArray, List.set_cons_zero, List.set_cons_succ]
              rw [if_pos (by rfl)]
              have hxe : ((.slice (some ⟨WW.drew.heap.size, 0, none⟩) 1 1 : Value)) = .slice (some ⟨WW.drew.heap.size, 0, none⟩) 1 1 := rfl
              refine append_wp k135 (w0 := w) w.heap.size ?_ (.tmp 53) (.tmp 64) 136 135 _ 40 ?_ Try.underlying136 infoS rfl (by decide) (by decide) (.slice (some ⟨g, 0, none⟩) (S0.length + 1) cp) (S0 ++ [⟨⟨r0, r1, r2, r3⟩, nn⟩]) ⟨⟨r0, r1, r2, r3⟩, n5⟩ (stV ⟨⟨r0, r1, r2, r3⟩, n5⟩) (fun _ => True) (fun _ => False) ?_ ?_ (st_M _ _ _ _) (fun _ h => h.elim) (fun _ _ => trivial) RS4.out BB4.out BB4.out.size (by rw [hlen]; omega) ?_
              · rfl
              · rfl
              · rfl
              · rfl
              intro v1 w6 hO1 hB1 hG1
              have hgb2 : g < bC := by have := HBC.out; omega
              have hT6 := two_grown HT4.out hG1 (by simp [Value.ownBlock]; omega) (by simp [Value.ownBlock]; omega)
              have S6 := Lib.hid hO1
              have O6 := Lib.hid (Kd.R_over RO4.out RS4.out (by decide) hG1)
              have B6 := Lib.hid hB1
              clear hO1 hB1 hG1 hxe hgb2
              refine hK.out _ _ hT6 (fun hHeld => ?_)
              clear hK K
              try simp only [Act.put, List.getElem_toArray, List.getElem_cons_succ, List.getElem_cons_zero, List.setIfInBounds_toArray, List.set_cons_zero, List.set_cons_succ]
              clear hT6
              refine wpAnyH_take (i := 13) (v := v1) rfl (by kernel_rfl) (by kernel_rfl) (by kernel_rfl) (fun _ _ _ h => h) (y_assign (by rfl) rfl rfl) hHeld ?_
              try simp only [Act.put, List.getElem_toArray, List.getElem_cons_succ, List.getElem_cons_zero, List.setIfInBounds_toArray, List.set_cons_zero, List.set_cons_succ]
              refine wpAnyH_done (by kernel_rfl) ?_ _
              clear hHeld
              have hbC := HBC.out
              subst hbC
              clear HBC TW RS RO BB RS4 RO4 BB4 HT4
              go_wp2_with fail
              go_roundw
              case rel => exact ⟨k + 1, S0 ++ ([⟨⟨r0, r1, r2, r3⟩, nn⟩] : List St), ⟨⟨r0, r1, r2, r3⟩, n5⟩, O, by omega, by rw [hlen]; omega, by omega, by go_num, F2.out.symm, G2.out, S6.out, O6.out, B6.out⟩
              case measure => simp [RowKit.intOf]; omega
            · have n3 : (a0 == 3) = false := by simp [c3]
              have n4 : (a0 == 4) = false := by simp [c4]
              have n5 : (a0 == 5) = false := by simp [c5]
              have hE := FO_kind O S0 ⟨⟨r0, r1, r2, r3⟩, nn⟩ ⟨a0, a1, a2, a3, a4, a5, a6, a7, s⟩ (l.drop (k + 1)) (by simpa using n1) (by simpa using n2) c3 c4 c5
              rw [hF.out] at hE
              have POST : Hid (∀ o1 o2, FlatPost l w (.returned (.tuple #[.slice none 0 0, .int .i64 7])) ((wr.alloc o1).alloc o2)) := Lib.hid fun o1 o2 => .inl ⟨7, hE, rfl, BB.out o1 o2, by decide⟩
              clear hE hF hG RS RO BB c1 c3 c4 c5
              go_wp2_with fail
              go_ret2
              exact POST.out _ _
    · obtain rfl : k = n := by omega
      have hdk : l.drop k = [] := List.drop_eq_nil_of_le (by rw [LN.out]; exact Nat.le_refl _)
      rw [hdk, FO_nil, hlen] at hF
      by_cases h0 : S0.length = 0
      · have hE : flatP l = .ok O := by rw [← hF.out, if_neg (by omega)]
        have nL : decide ((1 : Int) < (S0.length : Int) + 1) = false := decide_eq_false (by omega)
        have POST : Hid (FlatPost l w (.returned (.tuple #[u5, .int .i64 0])) wr) := Lib.hid (.inr ⟨O, u5, hE, rfl, hRO.out, hB.out⟩)
        clear hE hF hdk h0 hlen hCS
        go_wp2_with fail
        go_ret2
        exact POST.out
      · have hE : flatP l = .error 3 := by rw [← hF.out, if_pos (by omega)]
        have nL : decide ((1 : Int) < (S0.length : Int) + 1) = true := decide_eq_true (by omega)
        have POST : Hid (FlatPost l w (.returned (.tuple #[.slice none 0 0, .int .i64 3])) wr) := Lib.hid (.inl ⟨3, hE, rfl, hB.out, by decide⟩)
        clear hE hF hdk h0 hlen hCS
        go_wp2_with fail
        go_ret2
        exact POST.out
end Go.Proofs.Ytfkgpkkjiolfpaa.Ras
