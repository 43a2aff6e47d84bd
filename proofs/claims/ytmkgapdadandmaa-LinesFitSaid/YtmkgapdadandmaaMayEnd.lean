/- Package lines: mayEnd: may a line end between two parts? -/
import Derived.Test.YtmkgapdadandmaaParts
import Derived.Deep.CutBlock
namespace Go.Proofs.Ytmkgapdadandmaa.Lin
open Go.RowKit Go.Lib Go.Proofs.Ytmkgapdadandmaa.Pl Go.Proofs.Ytmkgapdadandmaa.Fx Go.Proofs.Ytmkgapdadandmaa.Fnt Go.Proofs.Ytmkgapdadandmaa.Rgn Go.Proofs.YtmkgapdadandmaaW.PrintWords Go.Proofs.YtmkgapdadandmaaW.PrintLast Go.Proofs.YtmkgapdadandmaaW.PrintMore
set_option linter.unusedVariables false
set_option linter.unusedSimpArgs false
attribute [local go_sem] mx2 mn2 mx_two mn_two mx_three mn_three

/-- The kind of part i. -/
def kd (l : List LI) (ps : List Pt) (i : Nat) : Int := (itm l (ps.getD i zPt)).f0
def skA (x : Int) : Prop := x = 3 ∨ x = 7 ∨ x = 5
def skB (x : Int) : Prop := x = 2 ∨ x = 7 ∨ x = 5
instance (x : Int) : Decidable (skA x) := by unfold skA; exact inferInstance
instance (x : Int) : Decidable (skB x) := by unfold skB; exact inferInstance
/-- How many parts are left, the last of which are skipped. -/
def downP (l : List LI) (ps : List Pt) : Nat → Nat
  | 0 => 0
  | a + 1 => if skA (kd l ps a) then downP l ps a else a + 1
def upP (l : List LI) (ps : List Pt) : Nat → Nat → Nat
  | 0, b => b
  | f + 1, b => if b < ps.length ∧ skB (kd l ps b) then upP l ps f (b + 1) else b
def mayB (l : List LI) (x y : Pt) : Bool :=
  if (itm l x).f0 = 4 ∨ (itm l y).f0 = 4 then true
  else (itm l x).f0 == 1 && (itm l y).f0 == 1 && (!x.last || (endsP l x && ((itm l x).f6 == 0 || (itm l x).f6 == 3)))
def mayP (l : List LI) (ps : List Pt) (k : Nat) : Bool :=
  if kd l ps (k - 1) = 2 ∨ kd l ps k = 3 then false
  else if downP l ps k = 0 ∨ upP l ps ps.length k = ps.length then false
  else mayB l (ps.getD (downP l ps k - 1) zPt) (ps.getD (upP l ps ps.length k) zPt)
theorem up_fuel (l : List LI) (ps : List Pt) : ∀ (f g b : Nat), ps.length ≤ b + f → ps.length ≤ b + g → upP l ps f b = upP l ps g b := by
  intro f
  induction f with
  | zero =>
    intro g b h1 h2
    cases g with
    | zero => rfl
    | succ g => unfold upP; rw [if_neg (by omega)]
  | succ f ih =>
    intro g b h1 h2
    cases g with
    | zero => unfold upP; rw [if_neg (by omega)]
    | succ g =>
      unfold upP
      by_cases hc : b < ps.length ∧ skB (kd l ps b)
      · rw [if_pos hc, if_pos hc]; exact ih g (b + 1) (by omega) (by omega)
      · rw [if_neg hc, if_neg hc]
/-- .. from b on. -/
def up (l : List LI) (ps : List Pt) (b : Nat) : Nat := upP l ps ps.length b
theorem up_yes {l : List LI} {ps : List Pt} {b : Nat} (h1 : b < ps.length) (h2 : skB (kd l ps b)) : up l ps b = up l ps (b + 1) := by
  unfold up
  rw [up_fuel l ps ps.length (ps.length + 1) b (by omega) (by omega)]
  show (if b < ps.length ∧ skB (kd l ps b) then upP l ps ps.length (b + 1) else b) = _
  rw [if_pos ⟨h1, h2⟩]
theorem up_no {l : List LI} {ps : List Pt} {b : Nat} (h : ¬ (b < ps.length ∧ skB (kd l ps b))) : up l ps b = b := by
  unfold up
  rw [up_fuel l ps ps.length (ps.length + 1) b (by omega) (by omega)]
  show (if b < ps.length ∧ skB (kd l ps b) then upP l ps ps.length (b + 1) else b) = _
  rw [if_neg h]
theorem down_le (l : List LI) (ps : List Pt) : ∀ k, downP l ps k ≤ k := by
  intro k
  induction k with
  | zero => exact Nat.le_refl _
  | succ k ih => unfold downP; split <;> omega
theorem upP_bd (l : List LI) (ps : List Pt) : ∀ (f b : Nat), b ≤ ps.length → b ≤ upP l ps f b ∧ upP l ps f b ≤ ps.length := by
  intro f
  induction f with
  | zero => intro b h; exact ⟨Nat.le_refl _, h⟩
  | succ f ih =>
    intro b h
    unfold upP
    by_cases hc : b < ps.length ∧ skB (kd l ps b)
    · rw [if_pos hc]
      have := ih (b + 1) hc.1
      exact ⟨by omega, this.2⟩
    · rw [if_neg hc]
      exact ⟨Nat.le_refl _, h⟩
theorem up_bd (l : List LI) (ps : List Pt) {b : Nat} (h : b ≤ ps.length) : b ≤ up l ps b ∧ up l ps b ≤ ps.length := upP_bd l ps _ b h
/-- What parts must be: of items that are there, of texts that are not too long. -/
def OKP (nl : Nat) (ps : List Pt) : Prop := ∀ p, p ∈ ps → p.at_ < nl ∧ p.text.size ≤ 1000
theorem okp_get {nl : Nat} {ps : List Pt} (h : OKP nl ps) {i : Nat} (hi : i < ps.length) : (ps.getD i zPt).at_ < nl ∧ (ps.getD i zPt).text.size ≤ 1000 :=
  h _ (by rw [List.getD_eq_getElem?_getD, List.getElem?_eq_getElem hi]; exact List.getElem_mem _)
/-- Where the kind of part i is read. -/
theorem kindAt {w : World} {ad : Addr} {g : Addr} {n nl : Nat} {ps : List Pt} {l : List LI} (hP : Kd.C (kPt ad) w (some g) n ps) (hL : Kd.C k27 w (some ad) nl l) (hok : OKP nl ps) (i : Nat) (hi : i < n) :
    ∃ q, w.cell? (g.add (i * 5)) = some (.pointer (some q)) ∧ w.cell? q = some (.int .i64 (kd l ps i)) := by
  have hln : ps.length = n := hP.1
  obtain ⟨g', e, x0, _⟩ := partAt hP i hi
  obtain rfl := Option.some.inj e
  exact ⟨_, x0, (itmAt hL rfl (ps.getD i zPt) (okp_get hok (by omega)).1).1⟩
/-- A place and how many are left of it. -/
def IV (d : Nat) (v : Value) : Prop := (d = 0 ∧ v = .int .i64 (-1)) ∨ ∃ d' : Nat, d = d' + 1 ∧ v = .int .i64 (d' : Int)
theorem iv_pred (d : Nat) : IV d (.int .i64 ((d : Int) - 1)) := by
  cases d with
  | zero => exact .inl ⟨rfl, rfl⟩
  | succ d => exact .inr ⟨d, rfl, by rw [show ((d + 1 : Nat) : Int) - 1 = (d : Int) by omega]⟩
theorem down_step (l : List LI) (ps : List Pt) (d : Nat) : downP l ps (d + 1) = if skA (kd l ps d) then downP l ps d else d + 1 := rfl
/-- Two new blocks, one behind the other. -/
theorem two1 (w : World) (a b : Array Value) (s t : Nat) : ((w.alloc (.cells a s)).alloc (.cells b t)).drew.heap[w.heap.size]? = some (.cells a s (0, 0)) :=
  blk_drew (blk_below (blk_new w _) (below_alloc (Below.refl _ _) _))
theorem two2 (w : World) (a b : Array Value) (s t : Nat) : ((w.alloc (.cells a s)).alloc (.cells b t)).drew.heap[w.heap.size + 1]? = some (.cells b t (0, 0)) := by
  have := blk_drew (blk_new (w.alloc (.cells a s)) (.cells b t))
  rw [World.size_alloc] at this
  exact this
theorem two3 (w : World) (o o' : Obj) : Below w.heap.size w ((w.alloc o).alloc o').drew := (below_alloc (below_alloc (Below.refl _ _) o) o').drew

set_option maxRecDepth 100000 in
set_option maxHeartbeats 4000000 in
theorem mayEnd_c (ad g : Addr) (n c nl : Nat) (l : List LI) (ps : List Pt) (w : World) (hP : Kd.C (kPt ad) w (some g) n ps) (hL : Kd.C k27 w (some ad) nl l) (hok : OKP nl ps) (hn : n ≤ 100000) (k : Nat) (hk0 : 0 < k) (hk : k < n) :
    Calls Try.prog 33 #[.slice (some g) n c, .int .i64 (k : Int)] w fun e w' => e = .returned (.bool (mayP l ps k)) ∧ Below w.heap.size w w' := by
  have hln : ps.length = n := hP.1
  obtain ⟨qa, a0, a1⟩ := kindAt hP hL hok (k - 1) (by omega)
  obtain ⟨qb, b0, b1⟩ := kindAt hP hL hok k hk
  obtain ⟨km, hkm⟩ : ∃ km, k - 1 = km := ⟨_, rfl⟩
  have ekm : (k : Int) - 1 = (km : Int) := by omega
  have hlt : km < n := by omega
  unfold mayP
  rw [hkm] at a0 a1 ⊢
  have HP := Lib.hid hP
  have HL := Lib.hid hL
  have OK := Lib.hid hok
  have LN := Lib.hid hln
  clear hP hL hok hln hkm
  generalize hva : kd l ps km = va at *
  generalize hvb : kd l ps k = vb at *
  clear hva hvb
  by_cases c1 : va = 2
  · rw [if_pos (.inl c1)]
    have z1 : (va == 2) = true := by simp [c1]
    clear c1
    go_enter Try.func33, Try.ntmps33
    go_wp2_with fail
    go_ret
    exact ⟨rfl, Below.refl _ _⟩
  · have z1 : (va == 2) = false := by simp [c1]
    by_cases c2 : vb = 3
    · rw [if_pos (.inr c2)]
      have z2 : (vb == 3) = true := by simp [c2]
      clear c1 c2
      go_enter Try.func33, Try.ntmps33
      go_wp2_with fail
      go_ret
      exact ⟨rfl, Below.refl _ _⟩
    · have z2 : (vb == 3) = false := by simp [c2]
      rw [if_neg (by omega)]
      clear c1 c2
      go_enter Try.func33, Try.ntmps33
      obtain ⟨dn, hdn⟩ : ∃ dn, downP l ps k = dn := ⟨_, rfl⟩
      obtain ⟨un, hun⟩ : ∃ un, up l ps k = un := ⟨_, rfl⟩
      have hdk : dn ≤ k := by rw [← hdn]; exact down_le l ps k
      rw [show upP l ps ps.length k = un from hun, hdn, LN.out]
      have DN := Lib.hid hdn
      have UN := Lib.hid hun
      clear hdn hun
      obtain ⟨r, hr⟩ : ∃ r, (if dn = 0 ∨ un = n then false else mayB l (ps.getD (dn - 1) zPt) (ps.getD un zPt)) = r := ⟨_, rfl⟩
      rw [hr]
      have HRR := Lib.hid hr
      clear hr
      go_upto_block 0 with fail
      go_cut [5] from 34 to 70 (fun s5 wx => wx = w ∧ IV dn s5)
      case first =>
        go_wp2_with fail
        go_loopw [5] (fun iv wr => ∃ d : Nat, d ≤ k ∧ wr = w ∧ IV d iv ∧ Hid (downP l ps d = dn)) (fun iv _ => (RowKit.intOf iv + 1).toNat)
        case atStart => exact ⟨k, Nat.le_refl _, rfl, by rw [← ekm]; exact iv_pred k, DN⟩
        case round =>
          obtain ⟨d, hd, rfl, hiv, hD⟩ := hrel
          rcases hiv with ⟨rfl, rfl⟩ | ⟨d', rfl, rfl⟩
          · have e0 : dn = 0 := hD.out.symm
            subst e0
            go_wp2_with fail
            go_meet
            case rel => exact ⟨rfl, .inl ⟨rfl, rfl⟩⟩
          · obtain ⟨q, x0, x1⟩ := kindAt HP.out HL.out OK.out d' (by omega)
            have hst := down_step l ps d'
            rw [hD.out] at hst
            generalize kd l ps d' = v at *
            have hg0 : (0 : Int) ≤ (d' : Int) := by omega
            by_cases s3 : v = 3
            · have z3 : (v == 3) = true := by simp [s3]
              rw [if_pos (.inl s3)] at hst
              have HST := Lib.hid hst
              clear hst s3
              go_wp2_with fail
              go_roundw
              case rel => exact ⟨d', by omega, trivial, iv_pred d', HST.out.symm⟩
              case measure => simp [RowKit.intOf]
            · have z3 : (v == 3) = false := by simp [s3]
              by_cases s7 : v = 7
              · have z7 : (v == 7) = true := by simp [s7]
                rw [if_pos (.inr (.inl s7))] at hst
                have HST := Lib.hid hst
                clear hst s3 s7
                go_wp2_with fail
                go_roundw
                case rel => exact ⟨d', by omega, trivial, iv_pred d', HST.out.symm⟩
                case measure => simp [RowKit.intOf]
              · have z7 : (v == 7) = false := by simp [s7]
                by_cases s5 : v = 5
                · have z5 : (v == 5) = true := by simp [s5]
                  rw [if_pos (.inr (.inr s5))] at hst
                  have HST := Lib.hid hst
                  clear hst s3 s7 s5
                  go_wp2_with fail
                  go_roundw
                  case rel => exact ⟨d', by omega, trivial, iv_pred d', HST.out.symm⟩
                  case measure => simp [RowKit.intOf]
                · have z5 : (v == 5) = false := by simp [s5]
                  rw [if_neg (by unfold skA; omega)] at hst
                  have HST := Lib.hid hst
                  clear hst s3 s7 s5
                  go_wp2_with fail
                  go_meet
                  case rel => exact ⟨rfl, .inr ⟨d', HST.out, rfl⟩⟩
      case rest =>
        obtain ⟨rfl, hiv⟩ := hcut
        have HIV := Lib.hid hiv
        clear hiv
        have hub : k ≤ un ∧ un ≤ n := by rw [← UN.out, ← LN.out]; exact up_bd l ps (by rw [LN.out]; omega)
        go_upto_block 2 with fail
        go_cut [6] from 71 to 109 (fun s6 wx => wx = wc ∧ s6 = .int .i64 (un : Int))
        case first =>
          go_wp2_with fail
          go_loopw [6] (fun iv wr => ∃ b : Nat, k ≤ b ∧ b ≤ n ∧ wr = wc ∧ iv = .int .i64 (b : Int) ∧ Hid (up l ps b = un)) (fun iv _ => n - (RowKit.intOf iv).toNat)
          case atStart => exact ⟨k, Nat.le_refl _, by omega, rfl, rfl, UN⟩
          case round =>
            obtain ⟨b, hb, hbn, rfl, rfl, hU⟩ := hrel
            by_cases hltb : b < n
            · obtain ⟨q, x0, x1⟩ := kindAt HP.out HL.out OK.out b hltb
              have hy := fun h => up_yes (l := l) (ps := ps) (b := b) (by rw [LN.out]; exact hltb) h
              have hx := fun (h : ¬ skB (kd l ps b)) => up_no (l := l) (ps := ps) (b := b) (fun h2 => h h2.2)
              rw [hU.out] at hx
              have HX := Lib.hid hx
              have HY := Lib.hid hy
              clear hx hy
              generalize kd l ps b = v at *
              by_cases s3 : v = 2
              · have z3 : (v == 2) = true := by simp [s3]
                have HST := Lib.hid (HY.out (.inl s3))
                clear s3
                go_wp2_with fail
                go_roundw
                case rel => exact ⟨b + 1, by omega, by omega, trivial, by go_num, by rw [← HST.out]; exact hU.out⟩
                case measure => simp [RowKit.intOf]; omega
              · have z3 : (v == 2) = false := by simp [s3]
                by_cases s7 : v = 7
                · have z7 : (v == 7) = true := by simp [s7]
                  have HST := Lib.hid (HY.out (.inr (.inl s7)))
                  clear s3 s7
                  go_wp2_with fail
                  go_roundw
                  case rel => exact ⟨b + 1, by omega, by omega, trivial, by go_num, by rw [← HST.out]; exact hU.out⟩
                  case measure => simp [RowKit.intOf]; omega
                · have z7 : (v == 7) = false := by simp [s7]
                  by_cases s5 : v = 5
                  · have z5 : (v == 5) = true := by simp [s5]
                    have HST := Lib.hid (HY.out (.inr (.inr s5)))
                    clear s3 s7 s5
                    go_wp2_with fail
                    go_roundw
                    case rel => exact ⟨b + 1, by omega, by omega, trivial, by go_num, by rw [← HST.out]; exact hU.out⟩
                    case measure => simp [RowKit.intOf]; omega
                  · have z5 : (v == 5) = false := by simp [s5]
                    have HST := Lib.hid (HX.out (by unfold skB; omega))
                    clear s3 s7 s5
                    go_wp2_with fail
                    go_meet
                    case rel => exact ⟨rfl, by rw [HST.out]⟩
            · have e := up_no (l := l) (ps := ps) (b := b) (fun h => hltb (by rw [← LN.out]; exact h.1))
              rw [hU.out] at e
              have HE := Lib.hid e
              have n1 : decide (b < n) = false := decide_eq_false hltb
              clear e
              go_wp2_with fail
              go_meet
              case rel => exact ⟨rfl, by rw [HE.out]⟩
        case rest =>
          obtain ⟨rfl, rfl⟩ := hcut
          by_cases e0 : dn = 0
          · have e2 : r = false := by rw [← HRR.out, if_pos (.inl e0)]
            have hv : u5 = .int .i64 (-1) := by
              rcases HIV.out with ⟨_, h⟩ | ⟨d', h, _⟩
              · exact h
              · omega
            subst hv e2
            clear HIV e0
            go_wp2_with fail
            go_ret
            exact ⟨rfl, Below.refl _ _⟩
          · obtain ⟨dm, hdm, hv⟩ : ∃ d' : Nat, dn = d' + 1 ∧ u5 = .int .i64 (d' : Int) := by
              rcases HIV.out with ⟨h, _⟩ | h
              · exact absurd h e0
              · exact h
            subst hv
            have hdm0 : ¬ (dm : Int) < 0 := by omega
            by_cases e1 : un = n
            · have e2 : r = false := by rw [← HRR.out, if_pos (.inr e1)]
              have z1 : ((un : Int) == (n : Int)) = true := by simp [e1]
              have z2 : (un == n) = true := by simp [e1]
              subst e2
              clear HIV e0 e1
              go_wp2_with fail
              go_ret
              exact ⟨rfl, Below.refl _ _⟩
            · have e2 : r = mayB l (ps.getD dm zPt) (ps.getD un zPt) := by rw [← HRR.out, if_neg (by omega), show dn - 1 = dm by omega]
              have z1 : ((un : Int) == (n : Int)) = false := by simp; omega
              have z2 : (un == n) = false := by simp; omega
              have hdmn : dm < n := by omega
              have hunn : un < n := by omega
              have hnl := LN.out
              obtain ⟨hxa, hxt⟩ := okp_get OK.out (i := dm) (by omega)
              obtain ⟨hya, hyt⟩ := okp_get OK.out (i := un) (by omega)
              have E2 := Lib.hid e2
              obtain ⟨g', eg, x0, x1, x2, x3, x4⟩ := partAt HP.out dm hdmn
              obtain rfl := Option.some.inj eg
              obtain ⟨g', eg2, y0, y1, y2, y3, y4⟩ := partAt HP.out un hunn
              obtain rfl := Option.some.inj eg2
              clear HIV e0 e1 DN UN hnl e2 eg eg2
              generalize ps.getD dm zPt = x at *
              generalize ps.getD un zPt = y at *
              obtain ⟨xa, xt, xw, xl⟩ := x
              obtain ⟨ya, yt, yw, yl⟩ := y
              simp only at x0 x1 x2 x3 x4 y0 y1 y2 y3 y4 hxa hxt hya hyt
              go_upto_region 10 with fail
              obtain ⟨W0, rfl⟩ : ∃ W : World, W = wc := ⟨_, rfl⟩
              go_cut [7, 8] from 118 to 125 (fun s7 s8 wx => ∃ b1 b2, s7 = .pointer (some ⟨b1, 0, none⟩) ∧ s8 = .pointer (some ⟨b2, 0, none⟩) ∧ Hid (wx.heap[b1]? = some (.cells (ptV ad ⟨xa, xt, xw, xl⟩).toArray 72 (0, 0))) ∧ Hid (wx.heap[b2]? = some (.cells (ptV ad ⟨ya, yt, yw, yl⟩).toArray 72 (0, 0))) ∧ Hid (Below W0.heap.size W0 wx))
              case first =>
                have xa0 := fun o => (World.cell?_alloc_lt W0 o _ (World.block_lt_of_cell? _ _ x0)).trans x0
                have xb0 := fun o o' => (World.cell?_alloc_lt (W0.alloc o) o' _ (World.block_lt_of_cell? _ _ (xa0 o))).trans (xa0 o)
                have xa1 := fun o => (World.cell?_alloc_lt W0 o _ (World.block_lt_of_cell? _ _ x1)).trans x1
                have xb1 := fun o o' => (World.cell?_alloc_lt (W0.alloc o) o' _ (World.block_lt_of_cell? _ _ (xa1 o))).trans (xa1 o)
                have xa2 := fun o => (World.cell?_alloc_lt W0 o _ (World.block_lt_of_cell? _ _ x2)).trans x2
                have xb2 := fun o o' => (World.cell?_alloc_lt (W0.alloc o) o' _ (World.block_lt_of_cell? _ _ (xa2 o))).trans (xa2 o)
                have xa3 := fun o => (World.cell?_alloc_lt W0 o _ (World.block_lt_of_cell? _ _ x3)).trans x3
                have xb3 := fun o o' => (World.cell?_alloc_lt (W0.alloc o) o' _ (World.block_lt_of_cell? _ _ (xa3 o))).trans (xa3 o)
                have xa4 := fun o => (World.cell?_alloc_lt W0 o _ (World.block_lt_of_cell? _ _ x4)).trans x4
                have xb4 := fun o o' => (World.cell?_alloc_lt (W0.alloc o) o' _ (World.block_lt_of_cell? _ _ (xa4 o))).trans (xa4 o)
                have ya0 := fun o => (World.cell?_alloc_lt W0 o _ (World.block_lt_of_cell? _ _ y0)).trans y0
                have yb0 := fun o o' => (World.cell?_alloc_lt (W0.alloc o) o' _ (World.block_lt_of_cell? _ _ (ya0 o))).trans (ya0 o)
                have ya1 := fun o => (World.cell?_alloc_lt W0 o _ (World.block_lt_of_cell? _ _ y1)).trans y1
                have yb1 := fun o o' => (World.cell?_alloc_lt (W0.alloc o) o' _ (World.block_lt_of_cell? _ _ (ya1 o))).trans (ya1 o)
                have ya2 := fun o => (World.cell?_alloc_lt W0 o _ (World.block_lt_of_cell? _ _ y2)).trans y2
                have yb2 := fun o o' => (World.cell?_alloc_lt (W0.alloc o) o' _ (World.block_lt_of_cell? _ _ (ya2 o))).trans (ya2 o)
                have ya3 := fun o => (World.cell?_alloc_lt W0 o _ (World.block_lt_of_cell? _ _ y3)).trans y3
                have yb3 := fun o o' => (World.cell?_alloc_lt (W0.alloc o) o' _ (World.block_lt_of_cell? _ _ (ya3 o))).trans (ya3 o)
                have ya4 := fun o => (World.cell?_alloc_lt W0 o _ (World.block_lt_of_cell? _ _ y4)).trans y4
                have yb4 := fun o o' => (World.cell?_alloc_lt (W0.alloc o) o' _ (World.block_lt_of_cell? _ _ (ya4 o))).trans (ya4 o)
                clear HP HL OK LN HRR E2
                go_region
                · go_wp2_with fail
                  go_meet
                  case rel => exact ⟨_, _, rfl, rfl, two1 W0 _ _ _ _, two2 W0 _ _ _ _, two3 W0 _ _⟩
                · go_wp2_with fail
                  go_meet
                  case rel => exact ⟨_, _, rfl, rfl, two2 W0 _ _ _ _, two1 W0 _ _ _ _, two3 W0 _ _⟩
              case rest =>
                obtain ⟨B1, B2, rfl, rfl, h1, h2, hB⟩ := hcut
                have p0 := blk_cell h1.out 0
                have p1 := blk_cell h1.out 1
                have p2 := blk_cell h1.out 2
                have p3 := blk_cell h1.out 3
                have p4 := blk_cell h1.out 4
                have q0 := blk_cell h2.out 0
                simp only [ptV, List.getElem?_toArray, List.getElem?_cons_zero, List.getElem?_cons_succ] at p0 p1 p2 p3 p4 q0
                have hL2 := Kd.C_below HL.out hB.out
                have END := Lib.hid (ends_c ad nl l ⟨xa, xt, xw, xl⟩ wc hL2 hxa hxt)
                obtain ⟨s0, g1, g2, g3, s6, g4⟩ := itmAt hL2 rfl ⟨xa, xt, xw, xl⟩ hxa
                obtain ⟨t0, g5⟩ := itmAt hL2 rfl ⟨ya, yt, yw, yl⟩ hya
                clear x0 x1 x2 x3 x4 y0 y1 y2 y3 y4 a0 a1 b0 b1 HP HL OK h1 h2 hL2 g1 g2 g3 g4 g5
                have e2 := E2.out
                unfold mayB at e2
                generalize (itm l ⟨xa, xt, xw, xl⟩).f0 = xf at *
                generalize (itm l ⟨xa, xt, xw, xl⟩).f6 = xm at *
                generalize (itm l ⟨ya, yt, yw, yl⟩).f0 = yf at *
                generalize endsP l ⟨xa, xt, xw, xl⟩ = en at *
                simp only at s0 s6 t0 e2
                have EE := Lib.hid e2
                clear e2 E2 HRR
                by_cases c4 : xf = 4
                · have z4 : (xf == 4) = true := by simp [c4]
                  have e3 : r = true := by rw [EE.out, if_pos (.inl c4)]
                  subst e3
                  clear c4 EE
                  go_wp2_with fail
                  go_ret
                  exact ⟨rfl, hB.out⟩
                · have z4 : (xf == 4) = false := by simp [c4]
                  by_cases d4 : yf = 4
                  · have y4 : (yf == 4) = true := by simp [d4]
                    have e3 : r = true := by rw [EE.out, if_pos (.inr d4)]
                    subst e3
                    clear c4 d4 EE
                    go_wp2_with fail
                    go_ret
                    exact ⟨rfl, hB.out⟩
                  · have y4 : (yf == 4) = false := by simp [d4]
                    have e3 := EE.out
                    rw [if_neg (by omega)] at e3
                    have E3 := Lib.hid e3
                    clear c4 d4 EE e3
                    simp only [ptV] at END
                    clear hdm0
                    cases xl
                    all_goals
                      go_wp2_with (go_at_call 49; refine END.out.mono ?_; rintro e w' ⟨rfl, hB1⟩; have B1 := Lib.hid (below_then hB.out hB.out.size hB1); clear hB1)
                    all_goals go_ret
                    all_goals first
                      | exact ⟨by rw [E3.out]; simp [*], hB.out⟩
                      | exact ⟨by rw [E3.out]; simp [*], B1.out⟩
end Go.Proofs.Ytmkgapdadandmaa.Lin
