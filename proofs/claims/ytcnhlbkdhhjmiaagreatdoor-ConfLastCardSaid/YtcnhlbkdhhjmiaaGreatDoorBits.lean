/- Plain facts on the bits of integers. -/
import Derived.Test.YtcnhlbkdhhjmiaaGreatDoorBase
namespace Go
theorem wrapk_i64 (n : Int) (h0 : 0 ≤ n) (h1 : n < 2 ^ 63) : IntKind.i64.wrap n = n := by rw [IntKind.wrap_i64]; omega
theorem wrapk_u64 (n : Int) (h0 : 0 ≤ n) (h1 : n < 2 ^ 64) : IntKind.u64.wrap n = n := by rw [IntKind.wrap_u64]; omega
theorem wrapk_u32 (n : Int) (h0 : 0 ≤ n) (h1 : n < 2 ^ 32) : IntKind.u32.wrap n = n := by rw [IntKind.wrap_u32]; omega
theorem wrapk_u16 (n : Int) (h0 : 0 ≤ n) (h1 : n < 2 ^ 16) : IntKind.u16.wrap n = n := by rw [IntKind.wrap_u16]; omega
theorem wrapk_u8 (n : Int) (h0 : 0 ≤ n) (h1 : n < 2 ^ 8) : IntKind.u8.wrap n = n := by rw [IntKind.wrap_u8]; omega
theorem and_i64_1 (x : Int) (h0 : 0 ≤ x) (h1 : x < 9223372036854775808) : bits .and .i64 x 1 = x % 2 := bits_mask .i64 63 (by decide) wrapk_i64 1 (by decide) x h0 (by simpa using h1)
theorem and_i64_2 (x : Int) (h0 : 0 ≤ x) (h1 : x < 9223372036854775808) : bits .and .i64 x 3 = x % 4 := bits_mask .i64 63 (by decide) wrapk_i64 2 (by decide) x h0 (by simpa using h1)
theorem and_i64_4 (x : Int) (h0 : 0 ≤ x) (h1 : x < 9223372036854775808) : bits .and .i64 x 15 = x % 16 := bits_mask .i64 63 (by decide) wrapk_i64 4 (by decide) x h0 (by simpa using h1)
theorem and_i64_8 (x : Int) (h0 : 0 ≤ x) (h1 : x < 9223372036854775808) : bits .and .i64 x 255 = x % 256 := bits_mask .i64 63 (by decide) wrapk_i64 8 (by decide) x h0 (by simpa using h1)
theorem and_i64_13 (x : Int) (h0 : 0 ≤ x) (h1 : x < 9223372036854775808) : bits .and .i64 x 8191 = x % 8192 := bits_mask .i64 63 (by decide) wrapk_i64 13 (by decide) x h0 (by simpa using h1)
theorem and_i64_14 (x : Int) (h0 : 0 ≤ x) (h1 : x < 9223372036854775808) : bits .and .i64 x 16383 = x % 16384 := bits_mask .i64 63 (by decide) wrapk_i64 14 (by decide) x h0 (by simpa using h1)
theorem and_i64_15 (x : Int) (h0 : 0 ≤ x) (h1 : x < 9223372036854775808) : bits .and .i64 x 32767 = x % 32768 := bits_mask .i64 63 (by decide) wrapk_i64 15 (by decide) x h0 (by simpa using h1)
theorem and_i64_16 (x : Int) (h0 : 0 ≤ x) (h1 : x < 9223372036854775808) : bits .and .i64 x 65535 = x % 65536 := bits_mask .i64 63 (by decide) wrapk_i64 16 (by decide) x h0 (by simpa using h1)
theorem and_u64_1 (x : Int) (h0 : 0 ≤ x) (h1 : x < 18446744073709551616) : bits .and .u64 x 1 = x % 2 := bits_mask .u64 64 (by decide) wrapk_u64 1 (by decide) x h0 (by simpa using h1)
theorem and_u64_2 (x : Int) (h0 : 0 ≤ x) (h1 : x < 18446744073709551616) : bits .and .u64 x 3 = x % 4 := bits_mask .u64 64 (by decide) wrapk_u64 2 (by decide) x h0 (by simpa using h1)
theorem and_u64_4 (x : Int) (h0 : 0 ≤ x) (h1 : x < 18446744073709551616) : bits .and .u64 x 15 = x % 16 := bits_mask .u64 64 (by decide) wrapk_u64 4 (by decide) x h0 (by simpa using h1)
theorem and_u64_8 (x : Int) (h0 : 0 ≤ x) (h1 : x < 18446744073709551616) : bits .and .u64 x 255 = x % 256 := bits_mask .u64 64 (by decide) wrapk_u64 8 (by decide) x h0 (by simpa using h1)
theorem and_u64_13 (x : Int) (h0 : 0 ≤ x) (h1 : x < 18446744073709551616) : bits .and .u64 x 8191 = x % 8192 := bits_mask .u64 64 (by decide) wrapk_u64 13 (by decide) x h0 (by simpa using h1)
theorem and_u64_14 (x : Int) (h0 : 0 ≤ x) (h1 : x < 18446744073709551616) : bits .and .u64 x 16383 = x % 16384 := bits_mask .u64 64 (by decide) wrapk_u64 14 (by decide) x h0 (by simpa using h1)
theorem and_u64_15 (x : Int) (h0 : 0 ≤ x) (h1 : x < 18446744073709551616) : bits .and .u64 x 32767 = x % 32768 := bits_mask .u64 64 (by decide) wrapk_u64 15 (by decide) x h0 (by simpa using h1)
theorem and_u64_16 (x : Int) (h0 : 0 ≤ x) (h1 : x < 18446744073709551616) : bits .and .u64 x 65535 = x % 65536 := bits_mask .u64 64 (by decide) wrapk_u64 16 (by decide) x h0 (by simpa using h1)
theorem and_u32_1 (x : Int) (h0 : 0 ≤ x) (h1 : x < 4294967296) : bits .and .u32 x 1 = x % 2 := bits_mask .u32 32 (by decide) wrapk_u32 1 (by decide) x h0 (by simpa using h1)
theorem and_u32_2 (x : Int) (h0 : 0 ≤ x) (h1 : x < 4294967296) : bits .and .u32 x 3 = x % 4 := bits_mask .u32 32 (by decide) wrapk_u32 2 (by decide) x h0 (by simpa using h1)
theorem and_u32_4 (x : Int) (h0 : 0 ≤ x) (h1 : x < 4294967296) : bits .and .u32 x 15 = x % 16 := bits_mask .u32 32 (by decide) wrapk_u32 4 (by decide) x h0 (by simpa using h1)
theorem and_u32_8 (x : Int) (h0 : 0 ≤ x) (h1 : x < 4294967296) : bits .and .u32 x 255 = x % 256 := bits_mask .u32 32 (by decide) wrapk_u32 8 (by decide) x h0 (by simpa using h1)
theorem and_u32_13 (x : Int) (h0 : 0 ≤ x) (h1 : x < 4294967296) : bits .and .u32 x 8191 = x % 8192 := bits_mask .u32 32 (by decide) wrapk_u32 13 (by decide) x h0 (by simpa using h1)
theorem and_u32_14 (x : Int) (h0 : 0 ≤ x) (h1 : x < 4294967296) : bits .and .u32 x 16383 = x % 16384 := bits_mask .u32 32 (by decide) wrapk_u32 14 (by decide) x h0 (by simpa using h1)
theorem and_u32_15 (x : Int) (h0 : 0 ≤ x) (h1 : x < 4294967296) : bits .and .u32 x 32767 = x % 32768 := bits_mask .u32 32 (by decide) wrapk_u32 15 (by decide) x h0 (by simpa using h1)
theorem and_u32_16 (x : Int) (h0 : 0 ≤ x) (h1 : x < 4294967296) : bits .and .u32 x 65535 = x % 65536 := bits_mask .u32 32 (by decide) wrapk_u32 16 (by decide) x h0 (by simpa using h1)
theorem and_u16_1 (x : Int) (h0 : 0 ≤ x) (h1 : x < 65536) : bits .and .u16 x 1 = x % 2 := bits_mask .u16 16 (by decide) wrapk_u16 1 (by decide) x h0 (by simpa using h1)
theorem and_u16_2 (x : Int) (h0 : 0 ≤ x) (h1 : x < 65536) : bits .and .u16 x 3 = x % 4 := bits_mask .u16 16 (by decide) wrapk_u16 2 (by decide) x h0 (by simpa using h1)
theorem and_u16_4 (x : Int) (h0 : 0 ≤ x) (h1 : x < 65536) : bits .and .u16 x 15 = x % 16 := bits_mask .u16 16 (by decide) wrapk_u16 4 (by decide) x h0 (by simpa using h1)
theorem and_u16_8 (x : Int) (h0 : 0 ≤ x) (h1 : x < 65536) : bits .and .u16 x 255 = x % 256 := bits_mask .u16 16 (by decide) wrapk_u16 8 (by decide) x h0 (by simpa using h1)
theorem and_u16_13 (x : Int) (h0 : 0 ≤ x) (h1 : x < 65536) : bits .and .u16 x 8191 = x % 8192 := bits_mask .u16 16 (by decide) wrapk_u16 13 (by decide) x h0 (by simpa using h1)
theorem and_u16_14 (x : Int) (h0 : 0 ≤ x) (h1 : x < 65536) : bits .and .u16 x 16383 = x % 16384 := bits_mask .u16 16 (by decide) wrapk_u16 14 (by decide) x h0 (by simpa using h1)
theorem and_u16_15 (x : Int) (h0 : 0 ≤ x) (h1 : x < 65536) : bits .and .u16 x 32767 = x % 32768 := bits_mask .u16 16 (by decide) wrapk_u16 15 (by decide) x h0 (by simpa using h1)
theorem and_u8_1 (x : Int) (h0 : 0 ≤ x) (h1 : x < 256) : bits .and .u8 x 1 = x % 2 := bits_mask .u8 8 (by decide) wrapk_u8 1 (by decide) x h0 (by simpa using h1)
theorem and_u8_2 (x : Int) (h0 : 0 ≤ x) (h1 : x < 256) : bits .and .u8 x 3 = x % 4 := bits_mask .u8 8 (by decide) wrapk_u8 2 (by decide) x h0 (by simpa using h1)
theorem and_u8_4 (x : Int) (h0 : 0 ≤ x) (h1 : x < 256) : bits .and .u8 x 15 = x % 16 := bits_mask .u8 8 (by decide) wrapk_u8 4 (by decide) x h0 (by simpa using h1)
/-- The one bit. -/
theorem and_bit (i : Nat) (hi : i < 63) (x : Int) (h0 : 0 ≤ x) (h1 : x < 9223372036854775808) : bits .and .i64 x (2 ^ i) = x / 2 ^ i % 2 * 2 ^ i := by
  obtain ⟨a, rfl⟩ := Int.eq_ofNat_of_zero_le h0
  have ha : a < 2 ^ 63 := by have : (2 : Nat) ^ 63 = 9223372036854775808 := by decide
                             omega
  have hb : 2 ^ i < 2 ^ 63 := Nat.pow_lt_pow_right (by decide) hi
  have e : ((2 : Int) ^ i) = ((2 ^ i : Nat) : Int) := by simp
  rw [e, (bits_nat .i64 63 (by decide) wrapk_i64 a _ ha hb).1, nat_bit]
  simp
theorem bit_i64_13 (x : Int) (h0 : 0 ≤ x) (h1 : x < 9223372036854775808) : bits .and .i64 x 8192 = x / 8192 % 2 * 8192 := and_bit 13 (by decide) x h0 h1
theorem bit_i64_14 (x : Int) (h0 : 0 ≤ x) (h1 : x < 9223372036854775808) : bits .and .i64 x 16384 = x / 16384 % 2 * 16384 := and_bit 14 (by decide) x h0 h1
theorem or_i64 (i : Nat) (x y : Int) (hx0 : 0 ≤ x) (hx : x % 2 ^ i = 0) (hx1 : x < 9223372036854775808) (hy0 : 0 ≤ y) (hy : y < 2 ^ i) (hy1 : y < 9223372036854775808) : bits .or .i64 x y = x + y :=
  bits_join .i64 63 (by decide) wrapk_i64 i x y hx0 hx (by simpa using hx1) hy0 hy (by simpa using hy1)
theorem or_u64 (i : Nat) (x y : Int) (hx0 : 0 ≤ x) (hx : x % 2 ^ i = 0) (hx1 : x < 18446744073709551616) (hy0 : 0 ≤ y) (hy : y < 2 ^ i) (hy1 : y < 18446744073709551616) : bits .or .u64 x y = x + y :=
  bits_join .u64 64 (by decide) wrapk_u64 i x y hx0 hx (by simpa using hx1) hy0 hy (by simpa using hy1)
theorem or_u32 (i : Nat) (x y : Int) (hx0 : 0 ≤ x) (hx : x % 2 ^ i = 0) (hx1 : x < 4294967296) (hy0 : 0 ≤ y) (hy : y < 2 ^ i) (hy1 : y < 4294967296) : bits .or .u32 x y = x + y :=
  bits_join .u32 32 (by decide) wrapk_u32 i x y hx0 hx (by simpa using hx1) hy0 hy (by simpa using hy1)
theorem or_u16 (i : Nat) (x y : Int) (hx0 : 0 ≤ x) (hx : x % 2 ^ i = 0) (hx1 : x < 65536) (hy0 : 0 ≤ y) (hy : y < 2 ^ i) (hy1 : y < 65536) : bits .or .u16 x y = x + y :=
  bits_join .u16 16 (by decide) wrapk_u16 i x y hx0 hx (by simpa using hx1) hy0 hy (by simpa using hy1)
theorem or_u8 (i : Nat) (x y : Int) (hx0 : 0 ≤ x) (hx : x % 2 ^ i = 0) (hx1 : x < 256) (hy0 : 0 ≤ y) (hy : y < 2 ^ i) (hy1 : y < 256) : bits .or .u8 x y = x + y :=
  bits_join .u8 8 (by decide) wrapk_u8 i x y hx0 hx (by simpa using hx1) hy0 hy (by simpa using hy1)
theorem xor_u16 (x : Int) (h0 : 0 ≤ x) (h1 : x < 65536) : bits .xor .u16 65535 x = 65535 - x := by
  obtain ⟨a, rfl⟩ := Int.eq_ofNat_of_zero_le h0
  have ha : a < 65536 := by omega
  have := u16_xor_nat 65535 a (by decide) ha
  have e : (65535 ^^^ a : Nat) = 65535 - a := by
    have h := BitVec.toNat_not (x := BitVec.ofNat 16 a)
    have h2 : ~~~ (BitVec.ofNat 16 a) = BitVec.allOnes 16 ^^^ BitVec.ofNat 16 a := by rw [BitVec.allOnes_xor]
    rw [h2, BitVec.toNat_xor] at h
    have h3 : (BitVec.ofNat 16 a).toNat = a := by simp; omega
    rw [h3] at h
    exact h
  rw [show ((65535 : Int)) = ((65535 : Nat) : Int) from rfl, this, e]
  omega
end Go
