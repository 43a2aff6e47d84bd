/- What is hidden paints nothing; and what has a background alone paints that. For every input. -/
import Derived.Test.YtfkgpkkjiolfpaaRows
import Derived.Test.YtfkgpkkjiolfpaaPaintFrag
import Derived.Test.YtfkgpkkjiolfpaaStyleRow
import Derived.ProofKit
import Derived.OpenShut
import Derived.ShutString
import Derived.ChangeOld
import Derived.Below
import Derived.SizedLaws
namespace Go.Proofs.Ytfkgpkkjiolfpaa.PaintHidden
open Go.RowKit Go.Proofs.Ytfkgpkkjiolfpaa.Rgn Go.Proofs.Ytfkgpkkjiolfpaa.Pl Go.Proofs.Ytfkgpkkjiolfpaa.Fx Go.Proofs.Ytfkgpkkjiolfpaa.Sty Go.Proofs.Ytfkgpkkjiolfpaa.Opn Go.Proofs.Ytfkgpkkjiolfpaa.Pnt Go.Proofs.YtfkgpkkjiolfpaaW.PrintWords Go.Proofs.YtfkgpkkjiolfpaaW.PrintLast Go.Proofs.YtfkgpkkjiolfpaaW.PrintMore
open Go.ChangeShapes Go.WideShapes Go.ChangeAt
set_option linter.unusedVariables false
set_option linter.unusedSimpArgs false
attribute [local go_sem] mx2 mn2 mx_two mn_two mx_three mn_three
/-! #### struct type 23 -/
structure S23 where
  f0 : Int
  f1 : Int
  f2 : Int
  f3 : Int
  f4 : Int
  f5 : Int
  f6 : Int
  f7 : ByteArray
def z23 : S23 := ⟨(0 : Int), (0 : Int), (0 : Int), (0 : Int), (0 : Int), (0 : Int), (0 : Int), (⟨#[]⟩ : ByteArray)⟩
def k23 : Kd S23 := Kd.iso (Kd.pair (Kd.int .i64) (Kd.pair (Kd.int .i64) (Kd.pair (Kd.int .i64) (Kd.pair (Kd.int .i64) (Kd.pair (Kd.int .i64) (Kd.pair (Kd.int .i64) (Kd.pair (Kd.int .i64) Kd.string))))))) (fun x : S23 => (x.f0, x.f1, x.f2, x.f3, x.f4, x.f5, x.f6, x.f7))
theorem k23_open {w : World} {x : S23} {cs : List Value} (h : k23.K w x cs) : cs = [.int .i64 x.f0, .int .i64 x.f1, .int .i64 x.f2, .int .i64 x.f3, .int .i64 x.f4, .int .i64 x.f5, .int .i64 x.f6, .string x.f7] := by
  obtain ⟨_, _, rfl, rfl, ⟨_, _, rfl, rfl, ⟨_, _, rfl, rfl, ⟨_, _, rfl, rfl, ⟨_, _, rfl, rfl, ⟨_, _, rfl, rfl, ⟨_, _, rfl, rfl, rfl⟩⟩⟩⟩⟩⟩⟩ := h
  exact rfl
theorem k23_openM {w : World} {base : Nat} {ok : Nat → Prop} {x : S23} {cs : List Value} (h : k23.M w base ok x cs) : cs = [.int .i64 x.f0, .int .i64 x.f1, .int .i64 x.f2, .int .i64 x.f3, .int .i64 x.f4, .int .i64 x.f5, .int .i64 x.f6, .string x.f7] := by
  obtain ⟨_, _, rfl, rfl, ⟨_, _, rfl, rfl, ⟨_, _, rfl, rfl, ⟨_, _, rfl, rfl, ⟨_, _, rfl, rfl, ⟨_, _, rfl, rfl, ⟨_, _, rfl, rfl, rfl⟩⟩⟩⟩⟩⟩⟩ := h
  exact rfl
theorem k23_mk (w : World) (x : S23)  : k23.K w x [.int .i64 x.f0, .int .i64 x.f1, .int .i64 x.f2, .int .i64 x.f3, .int .i64 x.f4, .int .i64 x.f5, .int .i64 x.f6, .string x.f7] := ⟨[.int .i64 x.f0], [.int .i64 x.f1, .int .i64 x.f2, .int .i64 x.f3, .int .i64 x.f4, .int .i64 x.f5, .int .i64 x.f6, .string x.f7], rfl, rfl, ⟨[.int .i64 x.f1], [.int .i64 x.f2, .int .i64 x.f3, .int .i64 x.f4, .int .i64 x.f5, .int .i64 x.f6, .string x.f7], rfl, rfl, ⟨[.int .i64 x.f2], [.int .i64 x.f3, .int .i64 x.f4, .int .i64 x.f5, .int .i64 x.f6, .string x.f7], rfl, rfl, ⟨[.int .i64 x.f3], [.int .i64 x.f4, .int .i64 x.f5, .int .i64 x.f6, .string x.f7], rfl, rfl, ⟨[.int .i64 x.f4], [.int .i64 x.f5, .int .i64 x.f6, .string x.f7], rfl, rfl, ⟨[.int .i64 x.f5], [.int .i64 x.f6, .string x.f7], rfl, rfl, ⟨[.int .i64 x.f6], [.string x.f7], rfl, rfl, rfl⟩⟩⟩⟩⟩⟩⟩
theorem k23_mkM (w : World) (base : Nat) (ok : Nat → Prop) (x : S23)  : k23.M w base ok x [.int .i64 x.f0, .int .i64 x.f1, .int .i64 x.f2, .int .i64 x.f3, .int .i64 x.f4, .int .i64 x.f5, .int .i64 x.f6, .string x.f7] := ⟨[.int .i64 x.f0], [.int .i64 x.f1, .int .i64 x.f2, .int .i64 x.f3, .int .i64 x.f4, .int .i64 x.f5, .int .i64 x.f6, .string x.f7], rfl, rfl, ⟨[.int .i64 x.f1], [.int .i64 x.f2, .int .i64 x.f3, .int .i64 x.f4, .int .i64 x.f5, .int .i64 x.f6, .string x.f7], rfl, rfl, ⟨[.int .i64 x.f2], [.int .i64 x.f3, .int .i64 x.f4, .int .i64 x.f5, .int .i64 x.f6, .string x.f7], rfl, rfl, ⟨[.int .i64 x.f3], [.int .i64 x.f4, .int .i64 x.f5, .int .i64 x.f6, .string x.f7], rfl, rfl, ⟨[.int .i64 x.f4], [.int .i64 x.f5, .int .i64 x.f6, .string x.f7], rfl, rfl, ⟨[.int .i64 x.f5], [.int .i64 x.f6, .string x.f7], rfl, rfl, ⟨[.int .i64 x.f6], [.string x.f7], rfl, rfl, rfl⟩⟩⟩⟩⟩⟩⟩
def rd_T23 (xs : List S23) (i : Int) : S23 := xs.getD i.toNat z23
theorem at_T23 {w : World} {A : Option Addr} {n : Nat} {xs : List S23} (h : Kd.C k23 w A n xs) (i : Int) (h0 : 0 ≤ i) (h1 : i < n) : ∃ ad , A = some ad ∧ w.cell? (ad.add (i.toNat * 8)) = some (.int .i64 (rd_T23 xs i).f0) ∧ w.cell? ⟨(ad.add (i.toNat * 8)).block, (ad.add (i.toNat * 8)).off + 1, none⟩ = some (.int .i64 (rd_T23 xs i).f1) ∧ w.cell? ⟨(ad.add (i.toNat * 8)).block, (ad.add (i.toNat * 8)).off + 2, none⟩ = some (.int .i64 (rd_T23 xs i).f2) ∧ w.cell? ⟨(ad.add (i.toNat * 8)).block, (ad.add (i.toNat * 8)).off + 3, none⟩ = some (.int .i64 (rd_T23 xs i).f3) ∧ w.cell? ⟨(ad.add (i.toNat * 8)).block, (ad.add (i.toNat * 8)).off + 4, none⟩ = some (.int .i64 (rd_T23 xs i).f4) ∧ w.cell? ⟨(ad.add (i.toNat * 8)).block, (ad.add (i.toNat * 8)).off + 5, none⟩ = some (.int .i64 (rd_T23 xs i).f5) ∧ w.cell? ⟨(ad.add (i.toNat * 8)).block, (ad.add (i.toNat * 8)).off + 6, none⟩ = some (.int .i64 (rd_T23 xs i).f6) ∧ w.cell? ⟨(ad.add (i.toNat * 8)).block, (ad.add (i.toNat * 8)).off + 7, none⟩ = some (.string (rd_T23 xs i).f7) := by
  obtain ⟨ad, c, e, _, hK, hc0⟩ := Kd.C_get h z23 i h0 h1
  have hc : ∀ j u, c[j]? = some u → w.cell? (ad.add (i.toNat * 8 + j)) = some u := hc0
  obtain rfl := k23_open hK
  exact ⟨ad, e, hc 0 _ rfl, by rw [← add_field _ _ 1 (by omega)]; exact hc 1 _ rfl, by rw [← add_field _ _ 2 (by omega)]; exact hc 2 _ rfl, by rw [← add_field _ _ 3 (by omega)]; exact hc 3 _ rfl, by rw [← add_field _ _ 4 (by omega)]; exact hc 4 _ rfl, by rw [← add_field _ _ 5 (by omega)]; exact hc 5 _ rfl, by rw [← add_field _ _ 6 (by omega)]; exact hc 6 _ rfl, by rw [← add_field _ _ 7 (by omega)]; exact hc 7 _ rfl⟩

theorem op_T23 : OpK k23 23 := by
  refine ⟨by kernel_rfl, fun {H enc w base spare held fuel cs x} h => ?_⟩
  obtain ⟨xs, n, -, -, hlen, hxs, hf⟩ := DataW.trod_struct Try.underlying23 h
  obtain ⟨a0, h0⟩ := seg_of hf hxs 0 _ rfl 0 rfl 3 rfl (op_int (t := 3) (by kernel_rfl) (by kernel_rfl))
  obtain ⟨a1, h1⟩ := seg_of hf hxs 1 _ rfl 1 rfl 3 rfl (op_int (t := 3) (by kernel_rfl) (by kernel_rfl))
  obtain ⟨a2, h2⟩ := seg_of hf hxs 2 _ rfl 2 rfl 3 rfl (op_int (t := 3) (by kernel_rfl) (by kernel_rfl))
  obtain ⟨a3, h3⟩ := seg_of hf hxs 3 _ rfl 3 rfl 3 rfl (op_int (t := 3) (by kernel_rfl) (by kernel_rfl))
  obtain ⟨a4, h4⟩ := seg_of hf hxs 4 _ rfl 4 rfl 3 rfl (op_int (t := 3) (by kernel_rfl) (by kernel_rfl))
  obtain ⟨a5, h5⟩ := seg_of hf hxs 5 _ rfl 5 rfl 3 rfl (op_int (t := 3) (by kernel_rfl) (by kernel_rfl))
  obtain ⟨a6, h6⟩ := seg_of hf hxs 6 _ rfl 6 rfl 3 rfl (op_int (t := 3) (by kernel_rfl) (by kernel_rfl))
  obtain ⟨a7, h7⟩ := seg_of hf hxs 7 _ rfl 7 rfl 9 rfl (op_string (t := 9) (by kernel_rfl) (by kernel_rfl))
  have hl : cs.length = 8 := hlen.trans (by kernel_rfl)
  have hcs : (cs.drop 0).take 8 = cs := by rw [List.drop_zero]; exact List.take_of_length_le (by omega)
  have hk := (seg_pair (o := 0) (x := (a0, (a1, (a2, (a3, (a4, (a5, (a6, a7)))))))) h0 (seg_pair (o := 1) (x := (a1, (a2, (a3, (a4, (a5, (a6, a7))))))) h1 (seg_pair (o := 2) (x := (a2, (a3, (a4, (a5, (a6, a7)))))) h2 (seg_pair (o := 3) (x := (a3, (a4, (a5, (a6, a7))))) h3 (seg_pair (o := 4) (x := (a4, (a5, (a6, a7)))) h4 (seg_pair (o := 5) (x := (a5, (a6, a7))) h5 (seg_pair (o := 6) (x := (a6, a7)) h6 h7)))))))
  refine ⟨⟨a0, a1, a2, a3, a4, a5, a6, a7⟩, ?_⟩
  rw [← hcs]
  exact hk
abbrev Fg := S23
/-- A frag as cells. -/
def fgV (f : Fg) : List Value := [.int .i64 f.f0, .int .i64 f.f1, .int .i64 f.f2, .int .i64 f.f3, .int .i64 f.f4, .int .i64 f.f5, .int .i64 f.f6, .string f.f7]
instance : Inhabited Fg := ⟨⟨0, 0, 0, 0, 0, 0, 0, ⟨#[]⟩⟩⟩
theorem frag_of {H : Type} {enc : TypeId × Value → H} {w : World} {base : Nat} {spare : Nat → Bool} {held : Bool} {fuel : Nat} {cs : List Value} {x : DataW H × List MemPlace}
    (h : DataW.trod enc Try.prog w base spare held fuel 23 cs = some x) : ∃ a : Fg, cs = fgV a := by
  obtain ⟨a, ha⟩ := op_T23.2 h
  exact ⟨a, k23_open ha⟩

theorem wpList_build {P : Program} {ops : Array Oper} {rest : List Oper} {op : Oper} {a : Act} {w : World} {Q : Exit → Act → World → Prop} (hgd : op.guard = none) (t : TypeId) (ps : List (Nat × Operand)) (ho : op.op = .build t ps.toArray)
    (vs : List (Nat × Value)) (hv : ps.map (fun p => (p.1, a.eval p.2)) = vs) (cells : Array Value) (hb : P.built t vs = some cells)
    (h : wpList P ops Q rest (a.put op.dst (.agg cells)) w) : wpList P ops Q (op :: rest) a w :=
  wpList_plain hgd fun _ hK => by
    subst hv
    have h2 := run_build (P := P) w t (ps.map (fun p => (p.1, a.eval p.2))).toArray cells hb
    unfold Oper.wp execOp
    simp only [ho, List.map_toArray, Sem.run_bind, Sem.run_pure, h2, Result.andThen_ok]
    exact hK _ _ h
theorem bg_built : Try.prog.built 27 [(36, .agg #[.int .i64 5, .int .i64 255])] = some (sv bg).toArray := by kernel_rfl
theorem sv_set (s : List Int) (i : Nat) (n : Int) : (sv s).toArray.setIfInBounds i (.int .i64 n) = (sv (s.set i n)).toArray := by
  rw [List.setIfInBounds_toArray]
  simp [sv, List.map_set]

set_option maxRecDepth 100000 in
set_option maxHeartbeats 1000000 in
theorem walk (f : Fg) (kind : Int) (s : List Int) (w : World) (hwf : (Lit.int .i64 kind).wf = true) (hs : s.length = 118) :
    Calls Try.prog 3 #[.agg (fgV f).toArray, .int .i64 kind, .agg (sv s).toArray] w fun e w' => e = .returned (.bool true) ∧ Below w.heap.size w w' := by
  have HS := Lib.hid hs
  obtain ⟨W, eW, hB, hsz, b0, b1⟩ := blk_two w (.cells (fgV f).toArray 23) (.cells (sv s).toArray 27)
  have EW := Lib.hid eW
  have HB := Lib.hid hB
  have SZ := Lib.hid hsz
  have B0 := Lib.hid b0
  have B1 := Lib.hid b1
  clear eW hB hsz b0 b1 hs hwf
  go_enter Try.func3, Try.ntmps3
  go_wp2_with (first
    | ((with_reducible refine gate_dst (N := 11) rfl ?_); refine wpList_build rfl 27 [(36, .tmp 10)] rfl [(36, .agg #[.int .i64 5, .int .i64 255])] rfl _ bg_built ?_))
  rw [EW.out]
  refine (one_c W).mono ?_
  rintro e w1 ⟨A, c, rfl, h1⟩
  have hlt1 : w.heap.size + 1 < W.heap.size := by have := SZ.out; omega
  have k0 := (h1.block w.heap.size (by omega)).trans B0.out
  have k1 := (h1.block (w.heap.size + 1) hlt1).trans B1.out
  have X1 := Lib.hid (below_then HB.out HB.out.size h1)
  obtain ⟨f0, f1, f2, f3, f4, f5, f6, f7⟩ := f
  have c67 := range_get (range_blk k1) 67 (by have := HS.out; omega)
  have fr67 := blk_frozen k1 67
  have R0 := Lib.hid (range_blk (blk_far k0 (p := ⟨w.heap.size + 1, 67, none⟩) (by show w.heap.size ≠ w.heap.size + 1; omega) (.int .i64 1)))
  have k2 := blk_set k1 67 (.int .i64 1)
  rw [sv_set] at k2
  have R2 := Lib.hid (range_blk k2)
  have X2 := Lib.hid (X1.out.setCell (p := ⟨w.heap.size + 1, 67, none⟩) (by show w.heap.size ≤ w.heap.size + 1; omega) (.int .i64 1))
  have hs2 : (s.set 67 1).length = 118 := by rw [List.length_set]; exact HS.out
  have IZ := Lib.hid (size27 hs2)
  have hg2 : (s.set 67 1).getD 67 0 = 1 := by
    have h67 : 67 < s.length := by have := HS.out; omega
    simp [List.getD_eq_getElem?_getD, h67]
  have HH := Lib.hid (fun W => hidden_c f0 f1 f2 f3 f4 f5 f6 f7 kind (s.set 67 1) W hs2 hg2)
  generalize s.getD 67 0 = v67 at *
  clear k0 k1 k2 h1 hs2 hg2 hlt1 EW B0 B1
  go_wp2_with (first
    | ((with_reducible refine gate_dst (N := 15) rfl ?_); refine wpList_load_mid rfl 23 (.tmp 3) rfl w.heap.size 0 rfl (fgV ⟨f0, f1, f2, f3, f4, f5, f6, f7⟩) _ R0.out Try.underlying23 rfl (by kernel_rfl) ?_)
    | ((with_reducible refine gate_dst (N := 17) rfl ?_); refine wpList_load_mid rfl 27 (.tmp 5) rfl (w.heap.size + 1) 0 rfl (sv (s.set 67 1)) _ R2.out Try.underlying27 rfl IZ.out ?_))
  refine (HH.out _).mono ?_
  rintro e w2 ⟨rfl, h2⟩
  have X3 := Lib.hid (below_then X2.out X2.out.size h2)
  clear h2 c67 fr67
  go_wp2_with fail
  go_ret
  exact ⟨rfl, X3.out⟩

theorem own : ownKnob Try.prog.godebug = none := by kernel_rfl
theorem laidOut : laidOutB Try.prog = true := by kernel_rfl
set_option maxRecDepth 100000 in
theorem lifted (os : Os) (started : os.Started) (H : Type) (enc : TypeId × Value → H) :
    ReturnsInHanded {} Try.checked os 3 .any (Rows.paintHiddenSpec.pre6 enc Try.prog Try.f3 Rows.paintHiddenRow.domain false) (Rows.paintHiddenSpec.post enc Try.prog Try.f3 false true false false) := by
  refine returnsInHanded_of_change_sized (C := Try.checked) own started (by kernel_rfl) Try.func3
    (ChangeSpec.witness6 (enc := enc) (C := Try.checked) false ⟨#[], #[.agg (fgV default).toArray, .int .i64 0, .agg (Go.Proofs.Ytfkgpkkjiolfpaa.Sty.sv (List.replicate 118 0)).toArray], []⟩ 8 (by kernel_rfl) (by kernel_rfl) (by kernel_rfl) (by kernel_rfl)) ?_
  intro W base args ds gs before hval0 hW hcnd hsz0 _
  have hsz : (DataW.weightsEach Try.prog (Try.f3.params.toList ++ Rows.paintHiddenSpec.plain.varTypes Try.prog) (ds ++ gs)).all (· ≤ reachBytes) = true := hsz0
  have hval : ∀ (j : Nat) t v, Try.f3.params[j]? = some t → args[j]? = some v → Value.okWide Try.prog W .any base t v := hval0
  have hW' := hW
  obtain ⟨p, q, hA0, hV, rfl, hfz, hnd⟩ := hW
  have hA : DataW.TrodAll enc Try.prog W 0 (fun _ => true) true Try.f3.params.toList args.toList ds p := hA0
  rw [Try.params3] at hA hval hsz
  obtain ⟨v0, vs0, d0, ds0, p0, q0, hargs, rfl, rfl, h0, r0⟩ := trodAll_cons hA
  obtain ⟨v1, vs1, d1, ds1, p1, q1, rfl, rfl, rfl, h1, r1⟩ := trodAll_cons r0
  obtain ⟨v2, vs2, d2, ds2, p2, q2, rfl, rfl, rfl, h2, r2⟩ := trodAll_cons r1
  obtain ⟨rfl, rfl, rfl⟩ := trodAll_nil r2
  obtain rfl : args = #[v0, v1, v2] := by cases args; simp_all
  obtain ⟨rfl, rfl⟩ := trodVars_none hV
  obtain ⟨c0, rfl⟩ := Go.Proofs.Ytfkgpkkjiolfpaa.Opn.okWide_rec Try.underlying23 (hval 0 23 v0 rfl rfl)
  have k0 := h0
  have lt0 : ∀ x ∈ p0, x.block < W.heap.size := by obtain ⟨m, hm⟩ := k0; exact DataW.trod_lt m _ _ _ hm
  obtain ⟨a0, e0⟩ : ∃ a, c0 = (fgV a).toArray := by
    obtain ⟨fuel, hf⟩ := h0
    obtain ⟨a, h2⟩ := frag_of hf
    exact ⟨a, by rw [← h2]; simp [Value.cells]⟩
  subst e0
  obtain ⟨a1, rfl, rfl, rfl, w1⟩ := open_int Try.underlying3 (hval 1 3 v1 rfl rfl) h1
  obtain ⟨c2, rfl⟩ := Go.Proofs.Ytfkgpkkjiolfpaa.Opn.okWide_row Try.underlying27 (hval 2 27 v2 rfl rfl)
  have k2 := h2
  have lt2 : ∀ x ∈ p2, x.block < W.heap.size := by obtain ⟨m, hm⟩ := k2; exact DataW.trod_lt m _ _ _ hm
  obtain ⟨a2, w2, e2⟩ : ∃ zs : List Int, zs.length = 118 ∧ c2 = (Go.Proofs.Ytfkgpkkjiolfpaa.Sty.sv zs).toArray := by
    obtain ⟨fuel, hf⟩ := h2
    obtain ⟨zs, h1, h2⟩ := Go.Proofs.Ytfkgpkkjiolfpaa.Opn.style_of hf
    exact ⟨zs, h1, by rw [← h2]; simp [Value.cells]⟩
  subst e2
  clear hA0 hval0 hsz0 hsz
  refine (walk a0 a1 a2 W w1 w2).mono fun e W' ⟨he, bel⟩ => ?_
  subst he
  exact ⟨_, rfl, _, _, _, [], _, [], hW', trodAll_mk1 (shut_bool Try.underlying4 _), (trodAll_cons_mk (Below.trod laidOut (by kernel_rfl) (of_decide_eq_true (by kernel_rfl)) k0 bel lt0) (trodAll_cons_mk (shut_int Try.underlying3 w1) (trodAll_cons_mk (Below.trod laidOut (by kernel_rfl) (of_decide_eq_true (by kernel_rfl)) k2 bel lt2) trodAll_mk0))), rfl, bel.frame _, fun h => by cases h⟩
theorem over : Rows.paintHiddenRow.holds Try.pinned (OpenSpec.ofChange Rows.paintHiddenSpec) :=
  OpenClaim.holds_of_wide 3 Try.f3 rfl rfl rfl rfl rfl rfl rfl ⟨rfl, rfl, rfl, rfl, rfl⟩ rfl rfl rfl rfl rfl (by kernel_rfl) Try.func3 (by kernel_rfl)
    (of_decide_eq_true (by kernel_rfl)) (by unfold Func.isWrapper; first | (rw [if_pos (by decide +kernel)]; kernel_rfl) | (rw [if_neg (by decide +kernel)]; exact ⟨rfl, rfl⟩))
    (fun os started H enc _ => lifted os started H enc)
theorem proved : Rows.PaintHiddenSaid := over
#print axioms proved
end Go.Proofs.Ytfkgpkkjiolfpaa.PaintHidden
