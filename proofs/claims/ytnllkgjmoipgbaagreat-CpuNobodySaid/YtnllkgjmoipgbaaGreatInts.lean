/- Plain laws on Go's int operations '&', '|', '&^', '<<', '>>', without any program. -/
import Derived.WalkKit
namespace Go.Proofs.YtnllkgjmoipgbaaGreat
open Go Go.RowKit

theorem w64_in {n : Int} (h : -9223372036854775808 ≤ n ∧ n ≤ 9223372036854775807) : wrap64 n = n := by unfold wrap64; omega
theorem w64_mod (n k : Int) (hk : k ∣ 18446744073709551616) : wrap64 n % k = n % k := by
  unfold wrap64
  have e : (n + 9223372036854775808) % 18446744073709551616 = (n + 9223372036854775808) - 18446744073709551616 * ((n + 9223372036854775808) / 18446744073709551616) := by omega
  rw [e]
  obtain ⟨c, hc⟩ := hk
  rw [show n + 9223372036854775808 - 18446744073709551616 * ((n + 9223372036854775808) / 18446744073709551616) - 9223372036854775808 = n - k * (c * ((n + 9223372036854775808) / 18446744073709551616)) from by rw [hc, Int.mul_assoc]; omega]
  exact Int.sub_mul_emod_self_left ..
theorem w64_range (n : Int) : -9223372036854775808 ≤ wrap64 n ∧ wrap64 n ≤ 9223372036854775807 := by unfold wrap64; omega

theorem ofInt64_toNat (a : Int) (h0 : 0 ≤ a) (h1 : a < 18446744073709551616) : (BitVec.ofInt 64 a).toNat = a.toNat := by
  rw [BitVec.toNat_ofInt]; congr 1; omega

theorem and_mask (k : Nat) (hk : k ≤ 62) (n m : Int) (hm : m = 2 ^ k - 1) : bits .and .i64 n m = n % 2 ^ k := by
  subst hm
  have hp : (2 : Nat) ^ k ≤ 2 ^ 62 := Nat.pow_le_pow_right (by omega) hk
  have hp1 : 0 < (2 : Nat) ^ k := Nat.pos_of_ne_zero (by simp)
  have cst : ((2 : Int) ^ k) = ((2 ^ k : Nat) : Int) := by simp
  have h127 : (BitVec.ofInt 64 ((2 : Int) ^ k - 1)).toNat = 2 ^ k - 1 := by
    rw [cst, ofInt64_toNat _ (by omega) (by omega)]; omega
  have key : (BitVec.ofInt 64 n &&& BitVec.ofInt 64 ((2 : Int) ^ k - 1)).toNat = (n % ((2 ^ 64 : Nat) : Int)).toNat % 2 ^ k := by
    rw [BitVec.toNat_and, BitVec.toNat_ofInt, h127, Nat.and_two_pow_sub_one_eq_mod]
  show IntKind.i64.wrap ((BitVec.ofInt 64 n &&& BitVec.ofInt 64 ((2 : Int) ^ k - 1)).toNat : Nat) = n % 2 ^ k
  rw [key, IntKind.wrap_i64]
  have hlt : (n % ((2 ^ 64 : Nat) : Int)).toNat % 2 ^ k < 2 ^ k := Nat.mod_lt _ hp1
  have e2 : (((n % ((2 ^ 64 : Nat) : Int)).toNat % 2 ^ k : Nat) : Int) = n % 2 ^ k := by
    rw [Int.natCast_emod, Int.toNat_of_nonneg (Int.emod_nonneg _ (by decide)), ← cst]
    rw [Int.emod_emod_of_dvd]
    have : (2 : Int) ^ 64 = 2 ^ k * 2 ^ (64 - k) := by rw [← Int.pow_add]; congr 1; omega
    exact ⟨2 ^ (64 - k), by simpa using this⟩
  rw [← e2]
  omega

theorem and_1 (n : Int) : bits .and .i64 n 1 = n % 2 := and_mask 1 (by omega) n 1 (by decide)
theorem and_3 (n : Int) : bits .and .i64 n 3 = n % 4 := and_mask 2 (by omega) n 3 (by decide)
theorem and_7 (n : Int) : bits .and .i64 n 7 = n % 8 := and_mask 3 (by omega) n 7 (by decide)
theorem and_15 (n : Int) : bits .and .i64 n 15 = n % 16 := and_mask 4 (by omega) n 15 (by decide)
theorem and_31 (n : Int) : bits .and .i64 n 31 = n % 32 := and_mask 5 (by omega) n 31 (by decide)
theorem and_63 (n : Int) : bits .and .i64 n 63 = n % 64 := and_mask 6 (by omega) n 63 (by decide)
theorem and_127 (n : Int) : bits .and .i64 n 127 = n % 128 := and_mask 7 (by omega) n 127 (by decide)
theorem and_255 (n : Int) : bits .and .i64 n 255 = n % 256 := and_mask 8 (by omega) n 255 (by decide)
theorem and_511 (n : Int) : bits .and .i64 n 511 = n % 512 := and_mask 9 (by omega) n 511 (by decide)
theorem and_1023 (n : Int) : bits .and .i64 n 1023 = n % 1024 := and_mask 10 (by omega) n 1023 (by decide)
theorem and_2047 (n : Int) : bits .and .i64 n 2047 = n % 2048 := and_mask 11 (by omega) n 2047 (by decide)
theorem and_4095 (n : Int) : bits .and .i64 n 4095 = n % 4096 := and_mask 12 (by omega) n 4095 (by decide)
theorem and_8191 (n : Int) : bits .and .i64 n 8191 = n % 8192 := and_mask 13 (by omega) n 8191 (by decide)
theorem and_16383 (n : Int) : bits .and .i64 n 16383 = n % 16384 := and_mask 14 (by omega) n 16383 (by decide)
theorem and_32767 (n : Int) : bits .and .i64 n 32767 = n % 32768 := and_mask 15 (by omega) n 32767 (by decide)
theorem and_65535 (n : Int) : bits .and .i64 n 65535 = n % 65536 := and_mask 16 (by omega) n 65535 (by decide)

attribute [go_sem] and_1 and_3 and_7 and_15 and_31 and_63 and_127 and_255 and_511 and_1023 and_2047 and_4095 and_8191 and_16383 and_32767 and_65535

/-- Of numbers from 0 on: as natural numbers. -/
theorem bits_nat (a b : Int) (ha0 : 0 ≤ a) (ha : a < 9223372036854775808) (hb0 : 0 ≤ b) (hb : b < 9223372036854775808) :
    bits .and .i64 a b = ((a.toNat &&& b.toNat : Nat) : Int) ∧ bits .or .i64 a b = ((a.toNat ||| b.toNat : Nat) : Int) ∧ bits .xor .i64 a b = ((a.toNat ^^^ b.toNat : Nat) : Int) := by
  have h1 := ofInt64_toNat a ha0 (by omega)
  have h2 := ofInt64_toNat b hb0 (by omega)
  have e1 : a.toNat < 2 ^ 63 := by omega
  have e2 : b.toNat < 2 ^ 63 := by omega
  refine ⟨?_, ?_, ?_⟩
  · show IntKind.i64.wrap ((BitVec.ofInt 64 a &&& BitVec.ofInt 64 b).toNat : Nat) = _
    rw [BitVec.toNat_and, h1, h2, IntKind.wrap_i64]
    have : a.toNat &&& b.toNat < 2 ^ 63 := Nat.and_lt_two_pow _ e2
    omega
  · show IntKind.i64.wrap ((BitVec.ofInt 64 a ||| BitVec.ofInt 64 b).toNat : Nat) = _
    rw [BitVec.toNat_or, h1, h2, IntKind.wrap_i64]
    have : a.toNat ||| b.toNat < 2 ^ 63 := Nat.or_lt_two_pow e1 e2
    omega
  · show IntKind.i64.wrap ((BitVec.ofInt 64 a ^^^ BitVec.ofInt 64 b).toNat : Nat) = _
    rw [BitVec.toNat_xor, h1, h2, IntKind.wrap_i64]
    have : a.toNat ^^^ b.toNat < 2 ^ 63 := Nat.xor_lt_two_pow e1 e2
    omega

theorem and_range (n m : Int) (h0 : 0 ≤ m) (h1 : m < 9223372036854775808) : 0 ≤ bits .and .i64 n m ∧ bits .and .i64 n m ≤ m := by
  have h2 := ofInt64_toNat m h0 (by omega)
  have e : bits .and .i64 n m = IntKind.i64.wrap ((BitVec.ofInt 64 n &&& BitVec.ofInt 64 m).toNat : Nat) := rfl
  have hle : (BitVec.ofInt 64 n &&& BitVec.ofInt 64 m).toNat ≤ m.toNat := by
    rw [BitVec.toNat_and, h2]; exact Nat.and_le_right
  rw [e, IntKind.wrap_i64]
  omega

theorem or_comm64 (a b : Int) : bits .or .i64 a b = bits .or .i64 b a := by simp only [bits, BitVec.or_comm]
theorem or_zero64 (a : Int) (h : -9223372036854775808 ≤ a ∧ a ≤ 9223372036854775807) : bits .or .i64 a 0 = a := by
  show IntKind.i64.wrap ((BitVec.ofInt 64 a ||| BitVec.ofInt 64 0).toNat : Nat) = _
  rw [show BitVec.ofInt 64 0 = 0#64 from rfl, BitVec.or_zero, BitVec.toNat_ofInt, IntKind.wrap_i64]
  omega

/-- What ends in k bits of 0, or less than 2^k: their sum. -/
theorem or_join64 (k : Nat) (a b : Int) (ha0 : 0 ≤ a) (ha : a < 9223372036854775808) (hb0 : 0 ≤ b) (hb : b < 2 ^ k) (hk : k ≤ 62) (hd : a % 2 ^ k = 0) : bits .or .i64 a b = a + b := by
  have hp : (2 : Nat) ^ k ≤ 2 ^ 62 := Nat.pow_le_pow_right (by omega) hk
  have cst : ((2 : Int) ^ k) = ((2 ^ k : Nat) : Int) := by simp
  rw [cst] at hb hd
  rw [(bits_nat a b ha0 ha hb0 (by omega)).2.1]
  obtain ⟨x, rfl⟩ := Int.eq_ofNat_of_zero_le ha0
  obtain ⟨y, rfl⟩ := Int.eq_ofNat_of_zero_le hb0
  simp only [Int.toNat_natCast]
  rw [nat_join k x y (by exact_mod_cast hd) (by exact_mod_cast hb)]
  simp

end Go.Proofs.YtnllkgjmoipgbaaGreat
