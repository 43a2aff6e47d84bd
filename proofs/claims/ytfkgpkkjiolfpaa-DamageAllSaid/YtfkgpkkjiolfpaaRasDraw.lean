/- Package raster: Draw. -/
import Derived.Test.YtfkgpkkjiolfpaaRasFlat
namespace Go.Proofs.Ytfkgpkkjiolfpaa.Ras
open Go.RowKit Go.Lib Go.Proofs.Ytfkgpkkjiolfpaa.Blk Go.Proofs.Ytfkgpkkjiolfpaa.Rgn Go.Proofs.Ytfkgpkkjiolfpaa.Pl Go.Proofs.Ytfkgpkkjiolfpaa.Fx Go.Proofs.Ytfkgpkkjiolfpaa.Fnt Go.Proofs.YtfkgpkkjiolfpaaW.PrintWords Go.Proofs.YtfkgpkkjiolfpaaW.PrintLast Go.Proofs.YtfkgpkkjiolfpaaW.PrintMore
set_option linter.unusedVariables false
set_option linter.unusedSimpArgs false
attribute [local go_sem] mx2 mn2 mx_two mn_two mx_three mn_three

theorem flat_len (l : List Cm) : ∀ (s : List St) (out : List LD), flatGo l s = .ok out → out.length ≤ l.length := by
  induction l with
  | nil =>
    intro s out h
    rw [flatGo] at h
    split at h
    · cases h
    · injection h with h; subst h; simp
  | cons c l ih =>
    intro s out h
    cases s with
    | nil => rw [flatGo] at h; cases h
    | cons now rest =>
      rw [flatGo] at h
      rw [List.length_cons]
      by_cases h1 : c.f0 = 1 ∨ c.f0 = 2
      · rw [if_pos h1] at h
        cases hg : flatGo l (now :: rest) with
        | error e => rw [hg] at h; cases h
        | ok o =>
          rw [hg] at h
          injection h with h
          subst h
          have := ih _ _ hg
          rw [List.length_cons]
          omega
      · rw [if_neg h1] at h
        by_cases h3 : c.f0 = 3
        · rw [if_pos h3] at h; have := ih _ _ h; omega
        · rw [if_neg h3] at h
          by_cases h4 : c.f0 = 4
          · rw [if_pos h4] at h; have := ih _ _ h; omega
          · rw [if_neg h4] at h
            by_cases h5 : c.f0 = 5
            · rw [if_pos h5] at h
              by_cases h0 : rest = []
              · rw [if_pos h0] at h; cases h
              · rw [if_neg h0] at h; have := ih _ _ h; omega
            · rw [if_neg h5] at h; cases h
def pxy (out : List LD) (W i : Nat) : Int := pixelP out ((i % W * 64 + 32 : Nat) : Int) ((i / W * 64 + 32 : Nat) : Int) 4294967295
/-- The pixels told so far. -/
def drawS (out : List LD) (W N k : Nat) : List Int := (List.range N).map fun i => if i < k then pxy out W i else 0
theorem drawS_zero (out : List LD) (W N : Nat) : drawS out W N 0 = List.replicate N 0 := by
  apply List.ext_getElem
  · simp [drawS]
  · intro i h1 h2; simp [drawS]
theorem drawS_all (out : List LD) (W H : Nat) : drawS out W (W * H) (W * H) = drawP out W H := by
  unfold drawS drawP
  apply List.map_congr_left
  intro j hj
  rw [if_pos (List.mem_range.1 hj)]
  rfl
theorem drawS_len (out : List LD) (W N k : Nat) : (drawS out W N k).length = N := by simp [drawS]
theorem drawS_set (out : List LD) (W N k : Nat) (hk : k < N) : (drawS out W N k).set k (pxy out W k) = drawS out W N (k + 1) := by
  apply List.ext_getElem
  · simp [drawS]
  · intro i h1 h2
    rw [List.getElem_set]
    simp only [drawS, List.getElem_map, List.getElem_range]
    by_cases e : k = i
    · subst e; simp
    · rw [if_neg e]
      by_cases h3 : i < k
      · rw [if_pos h3, if_pos (by omega)]
      · rw [if_neg h3, if_neg (by omega)]
def DrawPost (l : List Cm) (W H : Nat) (w : World) (e : Ending) (w' : World) : Prop :=
  (∃ k, flatP l = .error k ∧ k ≠ 0 ∧ e = .returned (.tuple #[.slice none 0 0, .int .i64 k]) ∧ Below w.heap.size w w') ∨
  (∃ out v, flatP l = .ok out ∧ e = .returned (.tuple #[v, .int .i64 0]) ∧ w'.ownsRow w.heap.size 3 1 v (W * H) (nums .i64 (drawP out W H)) ∧ Below w.heap.size w w')
theorem infoN : (Try.prog.info? 3).map (fun i => (i.zero, i.size, i.bytes)) = some (some (.int .i64 0), 1, 8) := by kernel_rfl
set_option maxRecDepth 100000 in
set_option maxHeartbeats 4000000 in
theorem Draw_c (A : Option Addr) (n c : Nat) (l : List Cm) (W H : Nat) (w : World) (hC : Kd.C k65 w A n l) (hn : n ≤ 1000) (ht : ∀ x, x ∈ l → x.f8.size ≤ 1000) (hW : 1 ≤ W ∧ W ≤ 64) (hH : 1 ≤ H ∧ H ≤ 64) :
    Calls Try.prog 31 #[.slice A n c, .int .i64 (W : Int), .int .i64 (H : Int)] w (DrawPost l W H w) := by
  have FL := Lib.hid (Flat_c A n c l w hC hn)
  have hln : l.length = n := hC.1
  have n1 : decide ((W : Int) < 1) = false := decide_eq_false (by omega)
  have n2 : decide ((64 : Int) < (W : Int)) = false := decide_eq_false (by omega)
  have n3 : decide ((H : Int) < 1) = false := decide_eq_false (by omega)
  have n4 : decide ((64 : Int) < (H : Int)) = false := decide_eq_false (by omega)
  have hp1 : W * H ≤ 64 * 64 := Nat.mul_le_mul hW.2 hH.2
  have hp0 : 0 < W * H := Nat.mul_pos hW.1 hH.1
  have hw0 := hW.1
  have hw1 := hW.2
  have hdv : ∀ k, k < W * H → k / W < 64 := fun k hk => by have := Nat.div_lt_of_lt_mul hk; omega
  have hmk := print_make (P := Try.prog) 33 3 .i64 8 Try.underlying33 infoN (by decide) (W * H) (by omega)
  rw [Int.natCast_mul] at hmk
  have i1 : (0 : Int) ≤ (W : Int) * (H : Int) ∧ (W : Int) * (H : Int) ≤ 4096 := by rw [← Int.natCast_mul]; omega
  have HT := Lib.hid ht
  have LN := Lib.hid hln
  have HDA := Lib.hid (fun out => drawS_all out W H)
  obtain ⟨N, hN⟩ : ∃ N, W * H = N := ⟨_, rfl⟩
  have hNI : (W : Int) * (H : Int) = (N : Int) := by rw [← hN, Int.natCast_mul]
  rw [hN] at hmk hp1 hp0 HDA hdv
  have DV := Lib.hid hdv
  have HN := Lib.hid hN
  have HNI := Lib.hid hNI
  clear hC hln ht hW hH hN hNI hdv
  go_enter Try.func31, Try.ntmps31
  go_wp2_with fail
  refine FL.out.mono ?_
  rintro e w1 (⟨k, hk, rfl, hb, h0⟩ | ⟨out, vf, hk, rfl, hR, hb⟩)
  · have nk : (k != 0) = true := by simp [h0]
    have POST : Hid (DrawPost l W H w (.returned (.tuple #[.slice none 0 0, .int .i64 k])) w1) := Lib.hid (.inl ⟨k, hk, h0, rfl, hb⟩)
    clear hk h0 hb hmk
    go_wp2_with fail
    go_ret2
    exact POST.out
  · obtain ⟨Af, cf, rfl, hcf, hCf⟩ := Kd.R_reads hR
    have hol : out.length ≤ n := by have := flat_len l _ _ hk; rw [LN.out] at this; exact this
    have htm : ∀ d, d ∈ out → TameD d := fun d hd => by
      obtain ⟨p1, p2, _⟩ := flat_tame l _ _ (fun x hx => by rw [List.mem_singleton] at hx; subst hx; exact good_all) hk d hd
      exact ⟨HT.out _ p1, p2⟩
    have HB1 := Lib.hid hb
    have HC := Lib.hid hCf
    have HK := Lib.hid hk
    have TM := Lib.hid htm
    have hOM := own_made w1 w1.heap.size 3 .i64 N (Nat.le_refl _) (by omega)
    rw [← drawS_zero out W N] at hOM
    have OM := Lib.hid hOM
    have BM := Lib.hid (below_alloc (Below.refl w1.heap.size w1) (.cells (madeCells #[.int .i64 0] N) 3))
    clear hk hb hR hCf htm hOM FL
    go_wp2_with fail
    generalize w1.alloc (.cells (madeCells #[.int .i64 0] N) 3) = W0 at *
    go_loopw [40] (fun i wr => ∃ k : Nat, k ≤ N ∧ i = .int .i64 k ∧ Hid (wr.ownsRow w1.heap.size 3 1 (.slice (some ⟨w1.heap.size, 0, none⟩) N N) N (nums .i64 (drawS out W N k))) ∧ Hid (Below w1.heap.size w1 wr)) (fun i _ => N - (RowKit.intOf i).toNat)
    case atStart => exact ⟨0, Nat.zero_le _, rfl, OM.out, BM.out⟩
    case round =>
      obtain ⟨k, hk, rfl, hO, hB⟩ := hrel
      by_cases hlt : k < N
      · obtain ⟨km, hkm⟩ : ∃ km, k % W = km := ⟨_, rfl⟩
        obtain ⟨kd, hkd⟩ : ∃ kd, k / W = kd := ⟨_, rfl⟩
        have b1 : km < 64 := by have := Nat.mod_lt k hw0; omega
        have b2 : kd < 64 := by rw [← hkd]; exact DV.out k hlt
        have E1 : Hid ((k : Int) % (W : Int) = (km : Int)) := Lib.hid (by rw [← hkm, Int.natCast_emod])
        have E2 : Hid ((k : Int) / (W : Int) = (kd : Int)) := Lib.hid (by rw [← hkd, Int.natCast_ediv])
        have NZ : Hid (¬ W = 0) := Lib.hid (by omega)
        have hpx : pxy out W k = pixelP out ((km : Int) * 64 + 32) ((kd : Int) * 64 + 32) 4294967295 := by
          unfold pxy
          rw [hkm, hkd, show ((km * 64 + 32 : Nat) : Int) = (km : Int) * 64 + 32 by omega, show ((kd * 64 + 32 : Nat) : Int) = (kd : Int) * 64 + 32 by omega]
        have PX := Lib.hid (fun WW hC => Pixel_c Af out.length cf out ((km : Int) * 64 + 32) ((kd : Int) * 64 + 32) 4294967295 WW hC (by omega) TM.out ⟨by omega, by omega⟩ ⟨by omega, by omega⟩)
        unfold PixPost at PX
        rw [← hpx] at PX
        have hset := drawS_set out W N k hlt
        have HS := Lib.hid hset
        clear hpx hkm hkd hset
        generalize pxy out W k = px at *
        go_wp2_with fail
        refine wp_region_held_drew (S := fun _ => True) (by kernel_rfl) trivial (fun hHeld => ?_)
        refine wpAnyH_take (i := 0) (v := .slice (some ⟨w1.heap.size, 0, none⟩) N N) rfl (by kernel_rfl) (by kernel_rfl) (by kernel_rfl) (fun _ _ _ h => h) (y_move (by rfl) rfl rfl) hHeld ?_
        try simp only [Act.put, List.getElem_toArray, List.getElem_cons_succ, List.getElem_cons_zero, List.setIfInBounds_toArray, List.set_cons_zero, List.set_cons_succ]
        refine wpAnyH_take (i := 1) (v := .int .i64 (k : Int)) rfl (by kernel_rfl) (by kernel_rfl) (by kernel_rfl) (fun _ _ _ h => h) (y_move (by rfl) rfl rfl) hHeld ?_
        try simp only [Act.put, List.getElem_toArray, List.getElem_cons_succ, List.getElem_cons_zero, List.setIfInBounds_toArray, List.set_cons_zero, List.set_cons_succ]
        refine wpAnyH_take (i := 2) (v := .slice Af out.length cf) rfl (by kernel_rfl) (by kernel_rfl) (by kernel_rfl) (fun _ _ _ h => h) (y_move (by rfl) rfl rfl) hHeld ?_
        try simp only [Act.put, List.getElem_toArray, List.getElem_cons_succ, List.getElem_cons_zero, List.setIfInBounds_toArray, List.set_cons_zero, List.set_cons_succ]
        refine wpAnyH_take (i := 3) (v := .int .i64 (k : Int)) rfl (by kernel_rfl) (by kernel_rfl) (by kernel_rfl) (fun _ _ _ h => h) (y_move (by rfl) rfl rfl) hHeld ?_
        try simp only [Act.put, List.getElem_toArray, List.getElem_cons_succ, List.getElem_cons_zero, List.setIfInBounds_toArray, List.set_cons_zero, List.set_cons_succ]
        refine wpAnyH_take (i := 4) (v := .int .i64 (W : Int)) rfl (by kernel_rfl) (by kernel_rfl) (by kernel_rfl) (fun _ _ _ h => h) (y_move (by rfl) rfl rfl) hHeld ?_
        try simp only [Act.put, List.getElem_toArray, List.getElem_cons_succ, List.getElem_cons_zero, List.setIfInBounds_toArray, List.set_cons_zero, List.set_cons_succ]
        refine wpAnyH_take (i := 5) (v := .int .i64 (km : Int)) rfl (by kernel_rfl) (by kernel_rfl) (by kernel_rfl) (fun _ _ _ h => h) (y_run (by rfl) (fun w _ => by have h1 := E1.out; have h2 := NZ.out; unfold execOp; go_simp; rw [Int.tmod_eq_emod_of_nonneg (by omega)]; exact h1)) hHeld ?_
        try simp only [Act.put, List.getElem_toArray, List.getElem_cons_succ, List.getElem_cons_zero, List.setIfInBounds_toArray, List.set_cons_zero, List.set_cons_succ]
        refine wpAnyH_take (i := 6) (v := .int .i64 ((km : Int) * 64)) rfl (by kernel_rfl) (by kernel_rfl) (by kernel_rfl) (fun _ _ _ h => h) (y_run (by rfl) (fun w _ => by unfold execOp; go_simp; exact IntWalk.i64_in _ ⟨by omega, by omega⟩)) hHeld ?_
        try simp only [Act.put, List.getElem_toArray, List.getElem_cons_succ, List.getElem_cons_zero, List.setIfInBounds_toArray, List.set_cons_zero, List.set_cons_succ]
        refine wpAnyH_take (i := 7) (v := .int .i64 ((km * 64 + 32 : Nat) : Int)) rfl (by kernel_rfl) (by kernel_rfl) (by kernel_rfl) (fun _ _ _ h => h) (y_add (by rfl) rfl rfl rfl (by omega) (by omega) (by omega)) hHeld ?_
        try simp only [Act.put, List.getElem_toArray, List.getElem_cons_succ, List.getElem_cons_zero, List.setIfInBounds_toArray, List.set_cons_zero, List.set_cons_succ]
        refine wpAnyH_take (i := 8) (v := .int .i64 (k : Int)) rfl (by kernel_rfl) (by kernel_rfl) (by kernel_rfl) (fun _ _ _ h => h) (y_move (by rfl) rfl rfl) hHeld ?_
        try simp only [Act.put, List.getElem_toArray, List.getElem_cons_succ, List.getElem_cons_zero, List.setIfInBounds_toArray, List.set_cons_zero, List.set_cons_succ]
        refine wpAnyH_take (i := 9) (v := .int .i64 (W : Int)) rfl (by kernel_rfl) (by kernel_rfl) (by kernel_rfl) (fun _ _ _ h => h) (y_move (by rfl) rfl rfl) hHeld ?_
        try simp only [Act.put, List.getElem_toArray, List.getElem_cons_succ, List.getElem_cons_zero, List.setIfInBounds_toArray, List.set_cons_zero, List.set_cons_succ]
        refine wpAnyH_take (i := 10) (v := .int .i64 (kd : Int)) rfl (by kernel_rfl) (by kernel_rfl) (by kernel_rfl) (fun _ _ _ h => h) (y_run (by rfl) (fun w _ => by have h1 := E2.out; have h2 := NZ.out; unfold execOp; go_simp; exact IntWalk.i64_in _ ⟨by omega, by omega⟩)) hHeld ?_
        try simp only [Act.put, List.getElem_toArray, List.getElem_cons_succ, List.getElem_cons_zero, List.setIfInBounds_toArray, List.set_cons_zero, List.set_cons_succ]
        refine wpAnyH_take (i := 11) (v := .int .i64 ((kd : Int) * 64)) rfl (by kernel_rfl) (by kernel_rfl) (by kernel_rfl) (fun _ _ _ h => h) (y_run (by rfl) (fun w _ => by unfold execOp; go_simp; exact IntWalk.i64_in _ ⟨by omega, by omega⟩)) hHeld ?_
        try simp only [Act.put, List.getElem_toArray, List.getElem_cons_succ, List.getElem_cons_zero, List.setIfInBounds_toArray, List.set_cons_zero, List.set_cons_succ]
        refine wpAnyH_take (i := 12) (v := .int .i64 ((kd * 64 + 32 : Nat) : Int)) rfl (by kernel_rfl) (by kernel_rfl) (by kernel_rfl) (fun _ _ _ h => h) (y_add (by rfl) rfl rfl rfl (by omega) (by omega) (by omega)) hHeld ?_
        try simp only [Act.put, List.getElem_toArray, List.getElem_cons_succ, List.getElem_cons_zero, List.setIfInBounds_toArray, List.set_cons_zero, List.set_cons_succ]
        refine wpAnyH_ready (rs := [13]) (by kernel_rfl) (by simp) ?_
        refine AllReadyH.cons rfl (fun K hK => ?_) AllReadyH.nil
        try simp only [Act.put, List.getElem_toArray, List.getElem_cons_succ, List.getElem_cons_zero, List.setIfInBounds_toArray, List.set_cons_zero, List.set_cons_succ]
        try rw [if_pos (by rfl)]
        go_simp
        refine (PX.out wr.drew (Kd.C_below HC.out hB.out.drew)).mono ?_
        rintro e w2 ⟨rfl, h2⟩
        have hO2 := pw_own_below hO.out.drew h2
        have hB2 := below_then hB.out.drew hB.out.drew.size h2
        obtain ⟨z1, z2⟩ := own_at hO2 (k : Int) (by omega) (by omega)
        rw [Int.toNat_natCast] at z1 z2
        have hst := (own_store hO2 (k : Int) px).1
        rw [Int.toNat_natCast, HS.out] at hst
        have ST := Lib.hid hst
        have SB := Lib.hid (hB2.setCell (p := ⟨w1.heap.size, k, none⟩) (Nat.le_refl _) (.int .i64 px))
        clear hO2 hB2 hst h2 PX
        refine hK.out _ _ trivial (fun hHeld => ?_)
        clear hK K
        try simp only [Act.put, List.getElem_toArray, List.getElem_cons_succ, List.getElem_cons_zero, List.setIfInBounds_toArray, List.set_cons_zero, List.set_cons_succ]
        refine wpAnyH_take (i := 14) (v := .pointer (some ⟨w1.heap.size, k, none⟩)) rfl (by kernel_rfl) (by kernel_rfl) (by kernel_rfl) (fun _ _ _ h => h) (y_run (by rfl) (fun w _ => by unfold execOp; go_simp)) hHeld ?_
        try simp only [Act.put, List.getElem_toArray, List.getElem_cons_succ, List.getElem_cons_zero, List.setIfInBounds_toArray, List.set_cons_zero, List.set_cons_succ]
        refine wpAnyH_ready (rs := [15]) (by kernel_rfl) (by simp) ?_
        refine AllReadyH.cons rfl (fun K hK => ?_) AllReadyH.nil
        try simp only [Act.put, List.getElem_toArray, List.getElem_cons_succ, List.getElem_cons_zero, List.setIfInBounds_toArray, List.set_cons_zero, List.set_cons_succ]
        try rw [if_pos (by rfl)]
        go_simp
        refine hK.out _ _ trivial (fun hHeld => ?_)
        clear hK K
        try simp only [Act.put, List.getElem_toArray, List.getElem_cons_succ, List.getElem_cons_zero, List.setIfInBounds_toArray, List.set_cons_zero, List.set_cons_succ]
        clear z1 z2
        refine wpAnyH_done (by kernel_rfl) ?_ _
        clear hHeld
        go_wp2_with fail
        go_roundw
        case rel => exact ⟨k + 1, by omega, by go_num, ST.out, SB.out⟩
        case measure => simp [RowKit.intOf]; omega
      · obtain rfl : k = N := by omega
        have POST : Hid (DrawPost l W H w (.returned (.tuple #[.slice (some ⟨w1.heap.size, 0, none⟩) k k, .int .i64 0])) wr) := Lib.hid (.inr ⟨out, _, HK.out, rfl, by rw [HN.out, ← HDA.out out]; exact own_weaken hO.out HB1.out.size, below_then HB1.out HB1.out.size hB.out⟩)
        go_wp2_with fail
        go_ret2
        exact POST.out
end Go.Proofs.Ytfkgpkkjiolfpaa.Ras
