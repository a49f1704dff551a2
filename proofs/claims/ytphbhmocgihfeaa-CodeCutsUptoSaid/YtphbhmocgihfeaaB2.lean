/- Bits of whole numbers, again: signed numbers. -/
import Derived.Test.YtphbhmocgihfeaaB1
namespace Go.Almanac
open Go.RowKit Go.Abs

theorem ibits_xor_i64_0 {a : Int} (h0 : -9223372036854775808 ≤ a) (h1 : a ≤ 9223372036854775807) : ibits .xor .i64 a 0 = a := by
  show IntKind.i64.wrap ((BitVec.ofInt 64 a ^^^ BitVec.ofInt 64 0).toNat : Int) = _
  have e : BitVec.ofInt 64 a ^^^ BitVec.ofInt 64 0 = BitVec.ofInt 64 a := by simp
  rw [e, BitVec.toNat_ofInt]
  simp only [IntKind.wrap, IntKind.signed, IntKind.bits]
  simp
  (first | omega | (split <;> omega))
theorem ibits_xor_i64_1 {a : Int} (h0 : -9223372036854775808 ≤ a) (h1 : a ≤ 9223372036854775807) : ibits .xor .i64 a (-1) = -a - 1 := by
  show IntKind.i64.wrap ((BitVec.ofInt 64 a ^^^ BitVec.ofInt 64 (-1)).toNat : Int) = _
  have e : BitVec.ofInt 64 a ^^^ BitVec.ofInt 64 (-1) = ~~~ BitVec.ofInt 64 a := by
    rw [show BitVec.ofInt 64 (-1) = BitVec.allOnes 64 from by decide, BitVec.xor_allOnes]
  rw [e, BitVec.toNat_not, BitVec.toNat_ofInt]
  simp only [IntKind.wrap, IntKind.signed, IntKind.bits]
  simp
  (first | omega | (split <;> omega))
theorem and1_u64 {c : Nat} (h : c < 2 ^ 64) : ibits .and .u64 (c : Int) 1 = ((c % 2 : Nat) : Int) := by
  rw [← and_1]; exact (ibits_u64 (a := c) (b := 1) (by omega) (by omega)).1
theorem and1_u32 {c : Nat} (h : c < 2 ^ 32) : ibits .and .u32 (c : Int) 1 = ((c % 2 : Nat) : Int) := by
  rw [← and_1]; exact (ibits_u32 (a := c) (b := 1) (by omega) (by omega)).1
theorem or128_u8 {c : Nat} (h : c < 128) : ibits .or .u8 (c : Int) 128 = ((c + 128 : Nat) : Int) := by
  have := or_high (n := c) (i := 7) (by omega) 1
  rw [show (1 * 2 ^ 7 : Nat) = 128 from rfl] at this
  rw [← this]; exact (ibits_u8 (a := c) (b := 128) (by omega) (by omega)).2.1
theorem shr7_u64 (n : Nat) : (n : Int).fdiv (2 ^ min (Int.toNat 7) 64) = ((n / 128 : Nat) : Int) := by
  rw [show (2 : Int) ^ min (Int.toNat 7) 64 = 128 from rfl, Int.fdiv_eq_ediv_of_nonneg _ (by omega)]; omega
theorem shr1_u64 {n : Nat} (_ : n < 2 ^ 64) : (n : Int).fdiv 2 = ((n / 2 : Nat) : Int) := by
  rw [Int.fdiv_eq_ediv_of_nonneg _ (by omega)]; omega
end Go.Almanac
