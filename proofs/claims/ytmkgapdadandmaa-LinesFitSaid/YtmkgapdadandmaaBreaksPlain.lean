/- Where lines may end: plain facts of places in a text. -/
import Derived.Test.YtmkgapdadandmaaBreaks
import Derived.Laws.RangeAny
import Derived.Lib.OthersKept
import Derived.Lib.Hide
namespace Go.Proofs.Ytmkgapdadandmaa.Brk
open Go.RowKit Go.Proofs.YtmkgapdadandmaaW.PrintWords
set_option linter.unusedVariables false
/-! #### struct type 93 -/
structure S93 where
  f0 : Int
  f1 : Bool
def z93 : S93 := ⟨(0 : Int), false⟩
def k93 : Kd S93 := Kd.iso (Kd.pair (Kd.int .i64) Kd.bool) (fun x : S93 => (x.f0, x.f1))
theorem k93_open {w : World} {x : S93} {cs : List Value} (h : k93.K w x cs) : cs = [.int .i64 x.f0, .bool x.f1] := by
  obtain ⟨_, _, rfl, rfl, rfl⟩ := h
  exact rfl
theorem k93_openM {w : World} {base : Nat} {ok : Nat → Prop} {x : S93} {cs : List Value} (h : k93.M w base ok x cs) : cs = [.int .i64 x.f0, .bool x.f1] := by
  obtain ⟨_, _, rfl, rfl, rfl⟩ := h
  exact rfl
theorem k93_mk (w : World) (x : S93)  : k93.K w x [.int .i64 x.f0, .bool x.f1] := ⟨[.int .i64 x.f0], [.bool x.f1], rfl, rfl, rfl⟩
theorem k93_mkM (w : World) (base : Nat) (ok : Nat → Prop) (x : S93)  : k93.M w base ok x [.int .i64 x.f0, .bool x.f1] := ⟨[.int .i64 x.f0], [.bool x.f1], rfl, rfl, rfl⟩
def rd_T93 (xs : List S93) (i : Int) : S93 := xs.getD i.toNat z93
theorem at_T93 {w : World} {A : Option Addr} {n : Nat} {xs : List S93} (h : Kd.C k93 w A n xs) (i : Int) (h0 : 0 ≤ i) (h1 : i < n) : ∃ ad , A = some ad ∧ w.cell? (ad.add (i.toNat * 2)) = some (.int .i64 (rd_T93 xs i).f0) ∧ w.cell? ⟨(ad.add (i.toNat * 2)).block, (ad.add (i.toNat * 2)).off + 1, none⟩ = some (.bool (rd_T93 xs i).f1) := by
  obtain ⟨ad, c, e, _, hK, hc0⟩ := Kd.C_get h z93 i h0 h1
  have hc : ∀ j u, c[j]? = some u → w.cell? (ad.add (i.toNat * 2 + j)) = some u := hc0
  obtain rfl := k93_open hK
  exact ⟨ad, e, hc 0 _ rfl, by rw [← add_field _ _ 1 (by omega)]; exact hc 1 _ rfl⟩

abbrev Br := S93

def dec4 (b0 b1 b2 b3 : Nat) (r1 r2 r3 : Bool) : Nat × Nat :=
  if b0 < 0x80 then (b0, 1)
  else if b0 / 32 == 6 && (r1 && b1 / 64 == 2) then
    (if (b0 % 32) * 64 + b1 % 64 ≥ 0x80 then ((b0 % 32) * 64 + b1 % 64, 2) else (Utf8.runeError, 1))
  else if b0 / 16 == 14 && (r1 && b1 / 64 == 2) && (r2 && b2 / 64 == 2) then
    (if (b0 % 16) * 4096 + (b1 % 64) * 64 + b2 % 64 ≥ 0x800 && Utf8.valid ((b0 % 16) * 4096 + (b1 % 64) * 64 + b2 % 64) then ((b0 % 16) * 4096 + (b1 % 64) * 64 + b2 % 64, 3) else (Utf8.runeError, 1))
  else if b0 / 8 == 30 && (r1 && b1 / 64 == 2) && (r2 && b2 / 64 == 2) && (r3 && b3 / 64 == 2) then
    (if (b0 % 8) * 262144 + (b1 % 64) * 4096 + (b2 % 64) * 64 + b3 % 64 ≥ 0x10000 && Utf8.valid ((b0 % 8) * 262144 + (b1 % 64) * 4096 + (b2 % 64) * 64 + b3 % 64) then ((b0 % 8) * 262144 + (b1 % 64) * 4096 + (b2 % 64) * 64 + b3 % 64, 4) else (Utf8.runeError, 1))
  else (Utf8.runeError, 1)
theorem decode_dec4 (s : ByteArray) (i : Nat) : Utf8.decode s i = dec4 (s.get! (i + 0)).toNat (s.get! (i + 1)).toNat (s.get! (i + 2)).toNat (s.get! (i + 3)).toNat (decide (i + 1 < s.size)) (decide (i + 2 < s.size)) (decide (i + 3 < s.size)) := rfl
theorem dec4_facts (q0 q1 q2 q3 : Nat) (r1 r2 r3 : Bool) :
    ((dec4 q0 q1 q2 q3 r1 r2 r3).2 = 1 ∧ (((dec4 q0 q1 q2 q3 r1 r2 r3).1 = q0 ∧ q0 < 128) ∨ ((dec4 q0 q1 q2 q3 r1 r2 r3).1 = Utf8.runeError ∧ 128 ≤ q0))) ∨
    ((dec4 q0 q1 q2 q3 r1 r2 r3).2 = 2 ∧ r1 = true ∧ 128 ≤ (dec4 q0 q1 q2 q3 r1 r2 r3).1 ∧ 128 ≤ q0 ∧ 128 ≤ q1) ∨
    ((dec4 q0 q1 q2 q3 r1 r2 r3).2 = 3 ∧ r2 = true ∧ 128 ≤ (dec4 q0 q1 q2 q3 r1 r2 r3).1 ∧ 128 ≤ q0 ∧ 128 ≤ q1 ∧ 128 ≤ q2) ∨
    ((dec4 q0 q1 q2 q3 r1 r2 r3).2 = 4 ∧ r3 = true ∧ 128 ≤ (dec4 q0 q1 q2 q3 r1 r2 r3).1 ∧ 128 ≤ q0 ∧ 128 ≤ q1 ∧ 128 ≤ q2 ∧ 128 ≤ q3) := by
  unfold dec4
  by_cases c1 : q0 < 0x80
  · rw [if_pos c1]; exact .inl ⟨rfl, .inl ⟨rfl, c1⟩⟩
  rw [if_neg c1]
  have c1' : 128 ≤ q0 := by omega
  split
  · rename_i c2
    simp only [Bool.and_eq_true, beq_iff_eq] at c2
    obtain ⟨c2, c3, c4⟩ := c2
    split
    · rename_i c5
      exact .inr (.inl ⟨rfl, c3, c5, c1', by omega⟩)
    · exact .inl ⟨rfl, .inr ⟨rfl, c1'⟩⟩
  · split
    · rename_i c2
      simp only [Bool.and_eq_true, beq_iff_eq] at c2
      obtain ⟨⟨c2, c3, c4⟩, c6, c7⟩ := c2
      split
      · rename_i c5
        rw [Bool.and_eq_true, decide_eq_true_eq] at c5
        exact .inr (.inr (.inl ⟨rfl, c6, by have := c5.1; show 128 ≤ _ * 4096 + _ + _; omega, c1', by omega, by omega⟩))
      · exact .inl ⟨rfl, .inr ⟨rfl, c1'⟩⟩
    · split
      · rename_i c2
        simp only [Bool.and_eq_true, beq_iff_eq] at c2
        obtain ⟨⟨⟨c2, c3, c4⟩, c6, c7⟩, c8, c9⟩ := c2
        split
        · rename_i c5
          rw [Bool.and_eq_true, decide_eq_true_eq] at c5
          exact .inr (.inr (.inr ⟨rfl, c8, by have := c5.1; show 128 ≤ _ * 262144 + _ + _ + _; omega, c1', by omega, by omega, by omega⟩))
        · exact .inl ⟨rfl, .inr ⟨rfl, c1'⟩⟩
      · exact .inl ⟨rfl, .inr ⟨rfl, c1'⟩⟩
theorem dec_facts (s : ByteArray) (p : Nat) (h : p < s.size) :
    1 ≤ (Utf8.decode s p).2 ∧ p + (Utf8.decode s p).2 ≤ s.size ∧
    (((Utf8.decode s p).2 = 1 ∧ ((Utf8.decode s p).1 = 10 ↔ (s.get! p).toNat = 10)) ∨ (128 ≤ (Utf8.decode s p).1 ∧ ∀ k, k < (Utf8.decode s p).2 → 128 ≤ (s.get! (p + k)).toNat)) := by
  have f := dec4_facts (s.get! (p + 0)).toNat (s.get! (p + 1)).toNat (s.get! (p + 2)).toNat (s.get! (p + 3)).toNat (decide (p + 1 < s.size)) (decide (p + 2 < s.size)) (decide (p + 3 < s.size))
  rw [← decode_dec4] at f
  generalize Utf8.decode s p = d at *
  have e0 : s.get! (p + 0) = s.get! p := rfl
  rw [e0] at f
  rcases f with ⟨h2, ⟨h1, h3⟩ | ⟨h1, h3⟩⟩ | ⟨h2, r, h1, b0, b1⟩ | ⟨h2, r, h1, b0, b1, b2⟩ | ⟨h2, r, h1, b0, b1, b2, b3⟩
  · rw [h2, h1]; exact ⟨Nat.le_refl _, by omega, .inl ⟨rfl, Iff.rfl⟩⟩
  · rw [h2, h1]
    refine ⟨Nat.le_refl _, by omega, .inr ⟨by decide, fun k hk => ?_⟩⟩
    obtain rfl : k = 0 := by omega
    exact h3
  · rw [h2]
    refine ⟨by omega, by have := of_decide_eq_true r; omega, .inr ⟨h1, fun k hk => ?_⟩⟩
    obtain rfl | rfl : k = 0 ∨ k = 1 := by omega
    · exact b0
    · exact b1
  · rw [h2]
    refine ⟨by omega, by have := of_decide_eq_true r; omega, .inr ⟨h1, fun k hk => ?_⟩⟩
    obtain rfl | rfl | rfl : k = 0 ∨ k = 1 ∨ k = 2 := by omega
    · exact b0
    · exact b1
    · exact b2
  · rw [h2]
    refine ⟨by omega, by have := of_decide_eq_true r; omega, .inr ⟨h1, fun k hk => ?_⟩⟩
    obtain rfl | rfl | rfl | rfl : k = 0 ∨ k = 1 ∨ k = 2 ∨ k = 3 := by omega
    · exact b0
    · exact b1
    · exact b2
    · exact b3

/-- How many line feeds stand ahead of a place. -/
def nlc (s : ByteArray) (p : Nat) : Nat := ((List.range p).filter fun k => (s.get! k).toNat == 10).length
theorem nlc_succ (s : ByteArray) (p : Nat) : nlc s (p + 1) = nlc s p + (if (s.get! p).toNat = 10 then 1 else 0) := by
  unfold nlc
  rw [List.range_succ, List.filter_append, List.length_append]
  by_cases h : (s.get! p).toNat = 10 <;> simp [h]
theorem nlc_none (s : ByteArray) (p n : Nat) (h : ∀ k, k < n → 128 ≤ (s.get! (p + k)).toNat) : nlc s (p + n) = nlc s p := by
  induction n with
  | zero => rfl
  | succ n ih =>
    have := h n (by omega)
    rw [← Nat.add_assoc, nlc_succ, ih (fun k hk => h k (by omega)), if_neg (by omega), Nat.add_zero]

/-- The places told so far, where the round stands at p and the last sign was 'last'. -/
def Told (s : ByteArray) (kp : Bool) (p : Nat) (last : Int) (us : List Br) : Prop :=
  p ≤ s.size ∧ us.length ≤ p - 1 ∧ (p = 0 → last = 0) ∧ (0 < p → (last = 10 ↔ (s.get! (p - 1)).toNat = 10)) ∧
  us.Pairwise (fun a b => a.f0 < b.f0) ∧ (∀ u, u ∈ us → 1 ≤ u.f0 ∧ u.f0 < p ∧ (u.f1 = true → kp = true ∧ (s.get! (u.f0.toNat - 1)).toNat = 10)) ∧
  (kp = true → (us.filter fun u => u.f1).length + (if last = 10 then 1 else 0) = nlc s p)
theorem told_zero (s : ByteArray) (kp : Bool) : Told s kp 0 0 [] := by
  refine ⟨by omega, by simp, fun _ => rfl, fun h => by omega, List.Pairwise.nil, fun u hu => by simp at hu, fun _ => ?_⟩
  simp [nlc]
theorem told_step {s : ByteArray} {kp : Bool} {p : Nat} {last : Int} {us : List Br} (h : Told s kp p last us) (hp : p < s.size) (must c : Bool) (hm : must = (decide (0 < p) && kp && decide (last = 10))) (hc : must = true → c = true) (hc0 : c = true → 0 < p) :
    Told s kp (p + (Utf8.decode s p).2) ((Utf8.decode s p).1 : Int) (if c = true then us ++ [⟨(p : Int), must⟩] else us) := by
  obtain ⟨t1, t2, t3, t4, t5, t6, t7⟩ := h
  obtain ⟨d1, d2, d3⟩ := dec_facts s p hp
  have hlast : ((Utf8.decode s p).1 : Int) = 10 ↔ (s.get! (p + (Utf8.decode s p).2 - 1)).toNat = 10 := by
    rcases d3 with ⟨e1, e2⟩ | ⟨e1, e2⟩
    · rw [e1, Nat.add_sub_cancel]; omega
    · have := e2 ((Utf8.decode s p).2 - 1) (by omega)
      rw [show p + ((Utf8.decode s p).2 - 1) = p + (Utf8.decode s p).2 - 1 by omega] at this
      omega
  have hcount : nlc s (p + (Utf8.decode s p).2) = nlc s p + (if ((Utf8.decode s p).1 : Int) = 10 then 1 else 0) := by
    rcases d3 with ⟨e1, e2⟩ | ⟨e1, e2⟩
    · rw [e1, nlc_succ]
      congr 1
      by_cases h : (s.get! p).toNat = 10
      · rw [if_pos h, if_pos (by omega)]
      · rw [if_neg h, if_neg (by omega)]
    · rw [nlc_none _ _ _ e2, if_neg (by omega), Nat.add_zero]
  have hmem : ∀ u, u ∈ us → 1 ≤ u.f0 ∧ u.f0 < ((p + (Utf8.decode s p).2 : Nat) : Int) ∧ (u.f1 = true → kp = true ∧ (s.get! (u.f0.toNat - 1)).toNat = 10) := fun u hu => by
    obtain ⟨a, b, c⟩ := t6 u hu
    exact ⟨a, by omega, c⟩
  refine ⟨d2, ?_, fun h => by omega, fun _ => hlast, ?_, ?_, ?_⟩
  · split
    · rename_i hct
      have := hc0 hct
      rw [List.length_append, List.length_singleton]; omega
    · omega
  · split
    · rw [List.pairwise_append]
      exact ⟨t5, List.pairwise_singleton _ _, fun a ha b hb => by rw [List.mem_singleton] at hb; subst hb; exact (t6 a ha).2.1⟩
    · exact t5
  · split
    · rename_i hct
      intro u hu
      rcases List.mem_append.1 hu with hu | hu
      · exact hmem u hu
      · rw [List.mem_singleton] at hu
        subst hu
        have hp0 := hc0 hct
        refine ⟨by show 1 ≤ (p : Int); omega, by show (p : Int) < _; omega, fun hmu => ?_⟩
        have hmu' : must = true := hmu
        rw [hmu'] at hm
        have hm := hm.symm
        simp only [Bool.and_eq_true, decide_eq_true_eq] at hm
        exact ⟨hm.1.2, by show (s.get! ((p : Int).toNat - 1)).toNat = 10; rw [Int.toNat_natCast]; exact (t4 hp0).1 hm.2⟩
    · exact hmem
  · intro hk
    have := t7 hk
    rw [hcount]
    have hnew : (List.filter (fun u => u.f1) (if c = true then us ++ [(⟨(p : Int), must⟩ : Br)] else us)).length = (us.filter fun u => u.f1).length + (if last = 10 then 1 else 0) := by
      by_cases hct : c = true
      · rw [if_pos hct, List.filter_append, List.length_append]
        congr 1
        have hp0 := hc0 hct
        have : must = decide (last = 10) := by rw [hm, hk]; simp [hp0]
        rw [this]
        by_cases hl : last = 10 <;> simp [hl]
      · rw [if_neg hct]
        have hmf : must = false := by cases hm' : must with | true => exact absurd (hc hm') hct | false => rfl
        have hl : ¬ last = 10 := by
          intro hl
          rw [hmf] at hm
          by_cases hp0 : 0 < p
          · simp [hp0, hk, hl] at hm
          · have := t3 (by omega); omega
        rw [if_neg hl]; rfl
    rw [hnew]; omega

/-- All places of a text. -/
def Places (s : ByteArray) (kp : Bool) (us : List Br) : Prop :=
  us.length ≤ s.size ∧ us.Pairwise (fun a b => a.f0 < b.f0) ∧ (∀ u, u ∈ us → 1 ≤ u.f0 ∧ u.f0 ≤ s.size ∧ (u.f1 = true → kp = true ∧ (s.get! (u.f0.toNat - 1)).toNat = 10)) ∧
  (kp = true → (us.filter fun u => u.f1).length = nlc s s.size)
theorem told_end {s : ByteArray} {kp : Bool} {p : Nat} {last : Int} {us : List Br} (h : Told s kp p last us) (hp : ¬ p < s.size) : us.length ≤ s.size ∧ (¬ (kp = true ∧ last = 10) → Places s kp us) ∧ (kp = true ∧ last = 10 → Places s kp (us ++ [⟨(s.size : Int), true⟩])) := by
  obtain ⟨t1, t2, t3, t4, t5, t6, t7⟩ := h
  obtain rfl : p = s.size := by omega
  refine ⟨by omega, fun hn => ⟨by omega, t5, fun u hu => ?_, fun hk => ?_⟩, fun hy => ⟨?_, ?_, ?_, ?_⟩⟩
  · obtain ⟨a, b, c⟩ := t6 u hu; exact ⟨a, by omega, c⟩
  · have := t7 hk
    rw [if_neg (fun hl => hn ⟨hk, hl⟩)] at this; omega
  · rw [List.length_append, List.length_singleton]
    rcases Nat.eq_zero_or_pos s.size with h0 | h0
    · have := t3 h0; omega
    · omega
  · rw [List.pairwise_append]
    exact ⟨t5, List.pairwise_singleton _ _, fun a ha b hb => by rw [List.mem_singleton] at hb; subst hb; exact (t6 a ha).2.1⟩
  · intro u hu
    rcases List.mem_append.1 hu with hu | hu
    · obtain ⟨a, b, c⟩ := t6 u hu; exact ⟨a, by omega, c⟩
    · rw [List.mem_singleton] at hu
      subst hu
      have hp0 : 0 < s.size := by
        rcases Nat.eq_zero_or_pos s.size with h0 | h0
        · have := t3 h0; omega
        · exact h0
      refine ⟨by show 1 ≤ (s.size : Int); omega, by show (s.size : Int) ≤ _; omega, fun _ => ⟨hy.1, ?_⟩⟩
      show (s.get! ((s.size : Int).toNat - 1)).toNat = 10
      rw [Int.toNat_natCast]
      exact (t4 hp0).1 hy.2
  · intro hk
    have := t7 hk
    rw [if_pos hy.2] at this
    rw [List.filter_append, List.length_append]
    simpa using this
end Go.Proofs.Ytmkgapdadandmaa.Brk
