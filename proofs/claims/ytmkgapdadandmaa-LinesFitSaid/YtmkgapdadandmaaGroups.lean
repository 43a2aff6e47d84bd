/- Package lines: groups of parts. -/
import Derived.Test.YtmkgapdadandmaaMayEnd
namespace Go.Proofs.Ytmkgapdadandmaa.Lin
open Go.RowKit Go.Lib Go.Proofs.Ytmkgapdadandmaa.Pl Go.Proofs.Ytmkgapdadandmaa.Fx Go.Proofs.Ytmkgapdadandmaa.Fnt Go.Proofs.Ytmkgapdadandmaa.Rgn Go.Proofs.YtmkgapdadandmaaW.PrintWords Go.Proofs.YtmkgapdadandmaaW.PrintLast Go.Proofs.YtmkgapdadandmaaW.PrintMore
set_option linter.unusedVariables false
set_option linter.unusedSimpArgs false
attribute [local go_sem] mx2 mn2 mx_two mn_two mx_three mn_three

/-- Does a group end ahead of part k? -/
def endG (l : List LI) (ps : List Pt) (k : Nat) : Bool := if k = ps.length then true else if kd l ps (k - 1) = 6 then true else mayP l ps k
/-- Where the group begins, and the groups so far, when k parts are over. -/
def gS (l : List LI) (ps : List Pt) : Nat → Nat × List (Nat × Nat)
  | 0 => (0, [])
  | k + 1 => if endG l ps (k + 1) = true then (k + 1, (gS l ps k).2 ++ [((gS l ps k).1, k + 1)]) else gS l ps k
def groupsP (l : List LI) (ps : List Pt) : List (Nat × Nat) := (gS l ps ps.length).2
theorem gS_step (l : List LI) (ps : List Pt) (k : Nat) : gS l ps (k + 1) = if endG l ps (k + 1) = true then (k + 1, (gS l ps k).2 ++ [((gS l ps k).1, k + 1)]) else gS l ps k := rfl
theorem gS_bd (l : List LI) (ps : List Pt) : ∀ k, (gS l ps k).1 ≤ k ∧ (gS l ps k).2.length ≤ k ∧ ∀ p, p ∈ (gS l ps k).2 → p.1 < p.2 ∧ p.2 ≤ k := by
  intro k
  induction k with
  | zero => exact ⟨Nat.le_refl _, Nat.le_refl _, fun p hp => by simp [gS] at hp⟩
  | succ k ih =>
    obtain ⟨h1, h2, h3⟩ := ih
    rw [gS_step]
    split
    · refine ⟨Nat.le_refl _, by rw [List.length_append, List.length_singleton]; omega, fun p hp => ?_⟩
      rcases List.mem_append.1 hp with hp | hp
      · have := h3 p hp; omega
      · rw [List.mem_singleton] at hp
        subst hp
        exact ⟨by show (gS l ps k).1 < k + 1; omega, Nat.le_refl _⟩
    · exact ⟨by omega, by omega, fun p hp => by have := h3 p hp; omega⟩
def grV (g : Addr) (c : Nat) (p : Nat × Nat) : Value := .slice (some (g.add (p.1 * 5))) (p.2 - p.1) (c - p.1)
def kGr (g : Addr) (c : Nat) : Kd (Nat × Nat) := Kd.scalar (grV g c) (fun _ => rfl)
theorem infoGr : (Try.prog.info? 57).map (fun i => (i.zero, i.size, i.bytes)) = some (some (.slice none 0 0), 1, 24) := by kernel_rfl
def GrPost (l : List LI) (ps : List Pt) (g : Addr) (c : Nat) (w : World) (e : Ending) (w' : World) : Prop := ∃ v, e = .returned v ∧ Kd.R (kGr g c) 57 w' w.heap.size (fun _ => True) v (groupsP l ps) ∧ Below w.heap.size w w'

set_option maxRecDepth 100000 in
set_option maxHeartbeats 4000000 in
theorem groups_c (ad g : Addr) (A : Option Addr) (n c nl : Nat) (l : List LI) (ps : List Pt) (w : World) (hP : Kd.C (kPt ad) w A n ps) (hA : n ≠ 0 → A = some g) (hL : Kd.C k27 w (some ad) nl l) (hok : OKP nl ps) (hn : n ≤ 100000) (hc : n ≤ c) :
    Calls Try.prog 21 #[.slice A n c] w (GrPost l ps g c w) := by
  have hln : ps.length = n := hP.1
  have HP := Lib.hid hP
  have HL := Lib.hid hL
  have OK := Lib.hid hok
  have LN := Lib.hid hln
  have HA := Lib.hid hA
  clear hP hL hok hln hA
  go_enter Try.func21, Try.ntmps21
  go_wp2_with fail
  go_loopw [3, 4, 5] (fun ov fv kv wr => ∃ k : Nat, k ≤ n ∧ kv = .int .i64 ((k : Int) + 1) ∧ fv = .int .i64 ((gS l ps k).1 : Int) ∧ Hid (Kd.R (kGr g c) 57 wr w.heap.size (fun _ => True) ov (gS l ps k).2) ∧ Hid (Below w.heap.size w wr)) (fun _ _ kv _ => n + 1 - (RowKit.intOf kv).toNat)
  case atStart => exact ⟨0, Nat.zero_le _, rfl, rfl, Kd.R_nil _ _ _ _ _, Below.refl _ _⟩
  case round =>
    obtain ⟨k, hk, rfl, hf, hR, hB⟩ := hrel
    by_cases hlt : k < n
    · obtain rfl : A = some g := HA.out (by omega)
      have hst := gS_step l ps k
      obtain ⟨hb1, hb2, -⟩ := gS_bd l ps k
      generalize gS l ps k = s at *
      obtain ⟨fr, O⟩ := s
      simp only at hf hR hst hb1 hb2
      subst hf
      have n1 : (k : Int) + 1 ≤ (n : Int) := by omega
      have hPw := Kd.C_below HP.out hB.out
      have hLw := Kd.C_below HL.out hB.out
      obtain ⟨q, x0, x1⟩ := kindAt hPw hLw OK.out k hlt
      have hrest : endG l ps (k + 1) = if k + 1 = n then true else if kd l ps k = 6 then true else mayP l ps (k + 1) := by unfold endG; rw [LN.out]; rfl
      have hmay : k + 1 < n → Calls Try.prog 33 #[.slice (some g) n c, .int .i64 ((k : Int) + 1)] wr fun e w' => e = .returned (.bool (mayP l ps (k + 1))) ∧ Below wr.heap.size wr w' := fun h => mayEnd_c ad g n c nl l ps wr hPw hLw OK.out hn (k + 1) (by omega) h
      have HRS := Lib.hid hrest
      have MAY := Lib.hid hmay
      have HST := Lib.hid hst
      have OB := Lib.hid hb2
      clear hPw hLw hrest hmay hst hb2
      generalize endG l ps (k + 1) = en at *
      generalize mayP l ps (k + 1) = mb at *
      generalize kd l ps k = kv at *
      obtain ⟨W0, rfl⟩ : ∃ W : World, W = wr := ⟨_, rfl⟩
      go_upto_region 6 with fail
      go_cut [32] from 6 to 40 (fun s32 wx => s32 = .bool en ∧ Hid (Below W0.heap.size W0 wx))
      case first =>
        by_cases e1 : k + 1 = n
        · have hE : en = true := by rw [HRS.out, if_pos e1]
          have z1 : ((k : Int) + 1 == (n : Int)) = true := by simp; omega
          subst hE
          clear e1 x0 x1
          go_wp2_with fail
          go_meet
          case rel => exact ⟨rfl, Below.refl _ _⟩
        · have z1 : ((k : Int) + 1 == (n : Int)) = false := by simp; omega
          by_cases e6 : kv = 6
          · have hE : en = true := by rw [HRS.out, if_neg e1, if_pos e6]
            have z6 : (kv == 6) = true := by simp [e6]
            subst hE
            clear e1 e6
            go_wp2_with fail
            go_meet
            case rel => exact ⟨rfl, Below.refl _ _⟩
          · have hE : en = mb := by rw [HRS.out, if_neg e1, if_neg e6]
            have z6 : (kv == 6) = false := by simp [e6]
            have M2 := Lib.hid (MAY.out (by omega))
            subst hE
            clear e1 e6 MAY HRS
            go_wp2_with (go_at_call 33; refine M2.out.mono ?_; rintro e w' ⟨rfl, hB1⟩; have B1 := Lib.hid hB1; clear hB1)
            go_meet
            case rel => exact ⟨rfl, B1.out⟩
      case rest =>
        obtain ⟨rfl, hBx⟩ := hcut
        have R2 := Lib.hid (Kd.R_below hR.out hBx.out)
        have B2 := Lib.hid (below_then hB.out hB.out.size hBx.out)
        clear hR hB hBx x0 x1 MAY HRS
        cases en with
        | true =>
          rw [if_pos rfl] at HST
          go_wp2_with (at_builtin; go_loud (refine Kd.R_append (kGr g c) (w0 := w) w.heap.size rfl (.tmp 33) (.tmp 38) 60 57 _ 24 rfl Try.underlying60 infoGr rfl (by show 0 < 1; omega) (by decide) _ O (fr, k + 1) [grV g c (fr, k + 1)] (fun _ => True) (fun _ => False) rfl (by show Value.slice (some ⟨wc.heap.size, 0, none⟩) 1 1 = _; rfl) rfl (fun _ h => h.elim) (fun _ _ => trivial) R2.out B2.out B2.out.size (by have := OB.out; omega) ?_); intro v1 w1 hO1 hB1 hG1 hat1; have O1 := Lib.hid hO1; have B1 := Lib.hid hB1; clear hO1 hB1 hG1 hat1)
          go_roundw
          case rel => exact ⟨k + 1, by omega, by go_num, by rw [HST.out]; go_num, by rw [HST.out]; exact O1.out, B1.out⟩
          case measure => simp [RowKit.intOf]; omega
        | false =>
          rw [if_neg (by decide)] at HST
          go_wp2_with fail
          go_roundw
          case rel => exact ⟨k + 1, by omega, by go_num, by rw [HST.out], by rw [HST.out]; exact R2.out, B2.out⟩
          case measure => simp [RowKit.intOf]; omega
    · obtain rfl : k = n := by omega
      have n1 : ¬ ((k : Int) + 1 ≤ (k : Int)) := by omega
      have hg : (gS l ps k).2 = groupsP l ps := by unfold groupsP; rw [LN.out]
      rw [hg] at hR
      clear hf hg
      go_wp2_with fail
      go_ret
      exact ⟨_, rfl, hR.out, hB.out⟩
end Go.Proofs.Ytmkgapdadandmaa.Lin
