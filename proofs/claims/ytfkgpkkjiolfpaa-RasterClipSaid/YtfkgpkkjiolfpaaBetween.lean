/- One color over another: what it comes to, byte by byte. Plain. -/
import Derived.Test.YtfkgpkkjiolfpaaRasOver
import Derived.Laws.BitsAllLaws
namespace Go.Proofs.Ytfkgpkkjiolfpaa.Ras
open Go.RowKit Go.Proofs.Ytfkgpkkjiolfpaa.Pl Go.Proofs.Ytfkgpkkjiolfpaa.Fnt
set_option linter.unusedVariables false

theorem wrap64_id {n : Int} (h0 : -9223372036854775808 ≤ n) (h1 : n ≤ 9223372036854775807) : IntKind.i64.wrap n = n := IntWalk.i64_in _ ⟨h0, h1⟩
theorem ofInt_nat (y : Int) : (BitVec.ofInt 64 y).toNat = (y % 18446744073709551616).toNat := by
  rw [BitVec.toNat_ofInt]; rfl
theorem wrap_is (n : Int) : IntKind.i64.wrap n = wrap64 n := by
  unfold wrap64
  simp [IntKind.wrap, IntKind.bits, IntKind.signed]
  try omega
theorem ofInt_wrap (v : BitVec 64) : BitVec.ofInt 64 (IntKind.i64.wrap (v.toNat : Int)) = v := by
  apply BitVec.eq_of_toNat_eq
  rw [ofInt_nat]
  have h : v.toNat < 18446744073709551616 := v.isLt
  have hw : IntKind.i64.wrap (v.toNat : Int) = wrap64 (v.toNat : Int) := wrap_is _
  rw [hw]
  unfold wrap64
  omega
theorem and255 (y : Int) : Go.bits .and .i64 y 255 = y % 256 := by
  have h : Go.bits .and .i64 y 255 = IntKind.i64.wrap ((BitVec.ofInt 64 y &&& BitVec.ofInt 64 255).toNat : Int) := rfl
  have h2 : (BitVec.ofInt 64 y &&& BitVec.ofInt 64 255).toNat = (y % 18446744073709551616).toNat % 256 := by
    rw [BitVec.toNat_and, ofInt_nat]
    exact Nat.and_two_pow_sub_one_eq_mod _ 8
  rw [h, h2, wrap64_id (by omega) (by omega)]
  omega
theorem or_i64 (a b : Nat) (ha : a < 9223372036854775808) (hb : b < 9223372036854775808) : Go.bits .or .i64 (a : Int) (b : Int) = ((a ||| b : Nat) : Int) := by
  have h : Go.bits .or .i64 (a : Int) (b : Int) = IntKind.i64.wrap ((BitVec.ofInt 64 (a : Int) ||| BitVec.ofInt 64 (b : Int)).toNat : Int) := rfl
  have hx : a ||| b < 2 ^ 63 := Nat.or_lt_two_pow (by omega) (by omega)
  have e1 : (BitVec.ofInt 64 (a : Int)).toNat = a := by rw [ofInt_nat]; omega
  have e2 : (BitVec.ofInt 64 (b : Int)).toNat = b := by rw [ofInt_nat]; omega
  rw [h, BitVec.toNat_or, e1, e2]
  exact wrap64_id (by omega) (by omega)
theorem or255 (t : Int) (h0 : -9223372036854775808 ≤ t) (h1 : t ≤ 9223372036854775807) : Go.bits .or .i64 t 255 = t / 256 * 256 + 255 := by
  have h : Go.bits .or .i64 t 255 = IntKind.i64.wrap ((BitVec.ofInt 64 t ||| BitVec.ofInt 64 255).toNat : Int) := rfl
  have e2 : (BitVec.ofInt 64 255).toNat = 255 := rfl
  obtain ⟨N, hN⟩ : ∃ N, (t % 18446744073709551616).toNat = N := ⟨_, rfl⟩
  have hor : N ||| 255 = N / 256 * 256 + 255 := by
    have a1 : N = N / 256 * 256 ||| N % 256 := by
      rw [nat_join 8 (N / 256 * 256) (N % 256) (by omega) (by omega)]
      omega
    have a2 : N % 256 ||| 255 = 255 := by
      apply Nat.eq_of_testBit_eq
      intro i
      rw [Nat.testBit_or]
      by_cases hi : i < 8
      · have : Nat.testBit 255 i = true := by
          have := Nat.testBit_two_pow_sub_one 8 i
          rw [show 2 ^ 8 - 1 = 255 from rfl] at this
          rw [this]; simpa using hi
        rw [this]; simp
      · have h3 : Nat.testBit (N % 256) i = false := Nat.testBit_lt_two_pow (Nat.lt_of_lt_of_le (Nat.mod_lt _ (by omega)) (by have := Nat.pow_le_pow_right (n := 2) (by omega) (show 8 ≤ i by omega); omega))
        rw [h3]; simp
    calc N ||| 255 = (N / 256 * 256 ||| N % 256) ||| 255 := by rw [← a1]
      _ = N / 256 * 256 ||| (N % 256 ||| 255) := Nat.or_assoc _ _ _
      _ = N / 256 * 256 ||| 255 := by rw [a2]
      _ = N / 256 * 256 + 255 := nat_join 8 _ _ (by omega) (by omega)
  rw [h, BitVec.toNat_or, ofInt_nat, e2, hN, hor]
  have hw : IntKind.i64.wrap ((N / 256 * 256 + 255 : Nat) : Int) = wrap64 ((N / 256 * 256 + 255 : Nat) : Int) := wrap_is _
  rw [hw]
  unfold wrap64
  omega
theorem andNot255 (t : Int) : Go.bits .and .i64 (Go.bits .andNot .i64 t 255) 255 = 0 := by
  have h : Go.bits .andNot .i64 t 255 = IntKind.i64.wrap ((BitVec.ofInt 64 t &&& ~~~ BitVec.ofInt 64 255).toNat : Int) := rfl
  have h2 : Go.bits .and .i64 (Go.bits .andNot .i64 t 255) 255 = IntKind.i64.wrap ((BitVec.ofInt 64 (Go.bits .andNot .i64 t 255) &&& BitVec.ofInt 64 255).toNat : Int) := rfl
  rw [h2, h, ofInt_wrap, BitVec.and_assoc, BitVec.and_comm (~~~ _), BitVec.and_not_self]
  simp
  rfl
theorem byteP_eq (v : Int) (k : Nat) : byteP v k = v / 2 ^ k % 256 := and255 _
theorem byteP_bd (v : Int) (k : Nat) : 0 ≤ byteP v k ∧ byteP v k ≤ 255 := by rw [byteP_eq]; omega
/-- What is mixed lies between. -/
theorem mix_mid {b c al : Int} (hal : 0 ≤ al ∧ al ≤ 255) (hbc : b ≤ c) (hb : 0 ≤ b) : b ≤ (b * al + c * (255 - al) + 127) / 255 ∧ (b * al + c * (255 - al) + 127) / 255 ≤ c ∧ b ≤ (c * al + b * (255 - al) + 127) / 255 ∧ (c * al + b * (255 - al) + 127) / 255 ≤ c := by
  have e1 : b * (255 - al) ≤ c * (255 - al) := Int.mul_le_mul_of_nonneg_right hbc (by omega)
  have e2 : b * al ≤ c * al := Int.mul_le_mul_of_nonneg_right hbc hal.1
  have e3 : b * (255 - al) = b * 255 - b * al := Int.mul_sub _ _ _
  have e4 : c * (255 - al) = c * 255 - c * al := Int.mul_sub _ _ _
  generalize b * al = x at *
  generalize c * al = y at *
  generalize b * (255 - al) = z at *
  generalize c * (255 - al) = v at *
  omega
theorem mixP_bd (top under al : Int) (k : Nat) (hal : 0 ≤ al ∧ al ≤ 255) : 0 ≤ mixP top under al k ∧ mixP top under al k ≤ 255 ∧ min (byteP top k) (byteP under k) ≤ mixP top under al k ∧ mixP top under al k ≤ max (byteP top k) (byteP under k) := by
  have b := byteP_bd top k
  have c := byteP_bd under k
  unfold mixP
  rcases Int.le_total (byteP top k) (byteP under k) with h | h
  · obtain ⟨a1, a2, _, _⟩ := mix_mid hal h b.1
    omega
  · obtain ⟨_, _, a3, a4⟩ := mix_mid hal h c.1
    omega
theorem mixP_full (top under : Int) (k : Nat) : mixP top under 255 k = byteP top k := by
  have b := byteP_bd top k
  unfold mixP
  omega
theorem mixP_none (top under : Int) (k : Nat) : mixP top under 0 k = byteP under k := by
  have c := byteP_bd under k
  unfold mixP
  omega
theorem overP_sum (top under n : Int) : overP top under n = 255 + mixP top under (alphaP top n) 8 * 256 + mixP top under (alphaP top n) 16 * 65536 + mixP top under (alphaP top n) 24 * 16777216 := by
  have hal := alpha_bd top n
  obtain ⟨a0, a1, _, _⟩ := mixP_bd top under (alphaP top n) 8 hal
  obtain ⟨b0, b1, _, _⟩ := mixP_bd top under (alphaP top n) 16 hal
  obtain ⟨c0, c1, _, _⟩ := mixP_bd top under (alphaP top n) 24 hal
  unfold overP
  generalize mixP top under (alphaP top n) 8 = A at *
  generalize mixP top under (alphaP top n) 16 = B at *
  generalize mixP top under (alphaP top n) 24 = C at *
  obtain ⟨a, rfl⟩ : ∃ a : Nat, A = (a : Int) := ⟨A.toNat, by omega⟩
  obtain ⟨b, rfl⟩ : ∃ b : Nat, B = (b : Int) := ⟨B.toNat, by omega⟩
  obtain ⟨c, rfl⟩ : ∃ c : Nat, C = (c : Int) := ⟨C.toNat, by omega⟩
  have s1 : Go.bits .or .i64 255 ((a : Int) * 2 ^ 8) = ((255 + a * 256 : Nat) : Int) := by
    have := or_i64 255 (a * 256) (by omega) (by omega)
    rw [show ((a * 256 : Nat) : Int) = (a : Int) * 2 ^ 8 by omega] at this
    rw [show (255 : Int) = ((255 : Nat) : Int) from rfl, this, Nat.or_comm, nat_join 8 _ _ (by omega) (by omega)]
    omega
  have s2 : Go.bits .or .i64 ((255 + a * 256 : Nat) : Int) ((b : Int) * 2 ^ 16) = ((255 + a * 256 + b * 65536 : Nat) : Int) := by
    have := or_i64 (255 + a * 256) (b * 65536) (by omega) (by omega)
    rw [show ((b * 65536 : Nat) : Int) = (b : Int) * 2 ^ 16 by omega] at this
    rw [this, Nat.or_comm, nat_join 16 _ _ (by omega) (by omega)]
    omega
  have s3 : Go.bits .or .i64 ((255 + a * 256 + b * 65536 : Nat) : Int) ((c : Int) * 2 ^ 24) = ((255 + a * 256 + b * 65536 + c * 16777216 : Nat) : Int) := by
    have := or_i64 (255 + a * 256 + b * 65536) (c * 16777216) (by omega) (by omega)
    rw [show ((c * 16777216 : Nat) : Int) = (c : Int) * 2 ^ 24 by omega] at this
    rw [this, Nat.or_comm, nat_join 24 _ _ (by omega) (by omega)]
    omega
  rw [s1, s2, s3]
  omega
theorem bytes32 (v : Int) (h : v % 256 = 255) : 255 + v / 2 ^ 8 % 256 * 256 + v / 2 ^ 16 % 256 * 65536 + v / 2 ^ 24 % 256 * 16777216 = v % 4294967296 := by
  omega
/-- What is opaque hides. -/
theorem over_full (top under : Int) (h0 : -9223372036854775808 ≤ top) (h1 : top ≤ 9223372036854775807) : overP (Go.bits .or .i64 top 255) under 1000 = Go.bits .or .i64 top 255 % 4294967296 := by
  have hv := or255 top h0 h1
  have ha : alphaP (Go.bits .or .i64 top 255) 1000 = 255 := by
    unfold alphaP
    rw [and255, hv]
    have : partP 1000 = 1000 := by decide
    rw [this]
    omega
  rw [overP_sum, ha, mixP_full, mixP_full, mixP_full, byteP_eq, byteP_eq, byteP_eq]
  exact bytes32 _ (by omega)
/-- What is clear shows. -/
theorem over_none (top under n : Int) (hz : alphaP top n = 0) (hu : under % 256 = 255) : overP top under n = under % 4294967296 := by
  rw [overP_sum, hz, mixP_none, mixP_none, mixP_none, byteP_eq, byteP_eq, byteP_eq]
  exact bytes32 _ hu
theorem alpha_zero (top : Int) : alphaP top 0 = 0 := by
  unfold alphaP
  rw [show partP 0 = 0 by decide]
  simp
theorem alpha_clear (top n : Int) : alphaP (Go.bits .andNot .i64 top 255) n = 0 := by
  unfold alphaP
  rw [andNot255]
  simp
theorem over_byte (top under n : Int) (k : Nat) (hk : k = 8 ∨ k = 16 ∨ k = 24) : byteP (overP top under n) k = mixP top under (alphaP top n) k := by
  have hal := alpha_bd top n
  have h8 := mixP_bd top under (alphaP top n) 8 hal
  have h16 := mixP_bd top under (alphaP top n) 16 hal
  have h24 := mixP_bd top under (alphaP top n) 24 hal
  rw [byteP_eq, overP_sum]
  rcases hk with rfl | rfl | rfl <;> omega
end Go.Proofs.Ytfkgpkkjiolfpaa.Ras
