/- Bits of whole numbers. -/
import Derived.Test.YtphbhmocgihfeaaA19
namespace Go.Almanac
open Go.RowKit Go.Abs

theorem wrap_nat_u64 {n : Nat} (h : n < 2 ^ 64) : IntKind.u64.wrap (n : Int) = n := w_u64 (by omega) (by omega)
theorem wrap_nat_u32 {n : Nat} (h : n < 2 ^ 32) : IntKind.u32.wrap (n : Int) = n := w_u32 (by omega) (by omega)
theorem wrap_nat_u8 {n : Nat} (h : n < 2 ^ 8) : IntKind.u8.wrap (n : Int) = n := w_u8 (by omega) (by omega)

theorem ibits_u64 {a b : Nat} (ha : a < 2 ^ 64) (hb : b < 2 ^ 64) :
    ibits .and .u64 a b = ((a &&& b : Nat) : Int) ∧ ibits .or .u64 a b = ((a ||| b : Nat) : Int) ∧ ibits .xor .u64 a b = ((a ^^^ b : Nat) : Int) := by
  have h1 : (BitVec.ofInt 64 (a : Int)).toNat = a := by simp [BitVec.ofInt_natCast]; omega
  have h2 : (BitVec.ofInt 64 (b : Int)).toNat = b := by simp [BitVec.ofInt_natCast]; omega
  refine ⟨?_, ?_, ?_⟩
  · show IntKind.u64.wrap ((BitVec.ofInt 64 (a : Int) &&& BitVec.ofInt 64 (b : Int)).toNat : Int) = _
    rw [BitVec.toNat_and, h1, h2]; exact wrap_nat_u64 (Nat.and_lt_two_pow _ hb)
  · show IntKind.u64.wrap ((BitVec.ofInt 64 (a : Int) ||| BitVec.ofInt 64 (b : Int)).toNat : Int) = _
    rw [BitVec.toNat_or, h1, h2]; exact wrap_nat_u64 (Nat.or_lt_two_pow ha hb)
  · show IntKind.u64.wrap ((BitVec.ofInt 64 (a : Int) ^^^ BitVec.ofInt 64 (b : Int)).toNat : Int) = _
    rw [BitVec.toNat_xor, h1, h2]; exact wrap_nat_u64 (Nat.xor_lt_two_pow ha hb)
theorem ibits_u32 {a b : Nat} (ha : a < 2 ^ 32) (hb : b < 2 ^ 32) :
    ibits .and .u32 a b = ((a &&& b : Nat) : Int) ∧ ibits .or .u32 a b = ((a ||| b : Nat) : Int) ∧ ibits .xor .u32 a b = ((a ^^^ b : Nat) : Int) := by
  have h1 : (BitVec.ofInt 32 (a : Int)).toNat = a := by simp [BitVec.ofInt_natCast]; omega
  have h2 : (BitVec.ofInt 32 (b : Int)).toNat = b := by simp [BitVec.ofInt_natCast]; omega
  refine ⟨?_, ?_, ?_⟩
  · show IntKind.u32.wrap ((BitVec.ofInt 32 (a : Int) &&& BitVec.ofInt 32 (b : Int)).toNat : Int) = _
    rw [BitVec.toNat_and, h1, h2]; exact wrap_nat_u32 (Nat.and_lt_two_pow _ hb)
  · show IntKind.u32.wrap ((BitVec.ofInt 32 (a : Int) ||| BitVec.ofInt 32 (b : Int)).toNat : Int) = _
    rw [BitVec.toNat_or, h1, h2]; exact wrap_nat_u32 (Nat.or_lt_two_pow ha hb)
  · show IntKind.u32.wrap ((BitVec.ofInt 32 (a : Int) ^^^ BitVec.ofInt 32 (b : Int)).toNat : Int) = _
    rw [BitVec.toNat_xor, h1, h2]; exact wrap_nat_u32 (Nat.xor_lt_two_pow ha hb)
theorem ibits_u8 {a b : Nat} (ha : a < 2 ^ 8) (hb : b < 2 ^ 8) :
    ibits .and .u8 a b = ((a &&& b : Nat) : Int) ∧ ibits .or .u8 a b = ((a ||| b : Nat) : Int) ∧ ibits .xor .u8 a b = ((a ^^^ b : Nat) : Int) := by
  have h1 : (BitVec.ofInt 8 (a : Int)).toNat = a := by simp [BitVec.ofInt_natCast]; omega
  have h2 : (BitVec.ofInt 8 (b : Int)).toNat = b := by simp [BitVec.ofInt_natCast]; omega
  refine ⟨?_, ?_, ?_⟩
  · show IntKind.u8.wrap ((BitVec.ofInt 8 (a : Int) &&& BitVec.ofInt 8 (b : Int)).toNat : Int) = _
    rw [BitVec.toNat_and, h1, h2]; exact wrap_nat_u8 (Nat.and_lt_two_pow _ hb)
  · show IntKind.u8.wrap ((BitVec.ofInt 8 (a : Int) ||| BitVec.ofInt 8 (b : Int)).toNat : Int) = _
    rw [BitVec.toNat_or, h1, h2]; exact wrap_nat_u8 (Nat.or_lt_two_pow ha hb)
  · show IntKind.u8.wrap ((BitVec.ofInt 8 (a : Int) ^^^ BitVec.ofInt 8 (b : Int)).toNat : Int) = _
    rw [BitVec.toNat_xor, h1, h2]; exact wrap_nat_u8 (Nat.xor_lt_two_pow ha hb)

theorem and_127 (a : Nat) : a &&& 127 = a % 128 := Nat.and_two_pow_sub_one_eq_mod a 7
theorem and_1 (a : Nat) : a &&& 1 = a % 2 := Nat.and_two_pow_sub_one_eq_mod a 1
theorem or_high {n i : Nat} (h : n < 2 ^ i) (m : Nat) : n ||| m * 2 ^ i = n + m * 2 ^ i := by
  rw [Nat.or_comm, Nat.mul_comm, ← Nat.two_pow_add_eq_or_of_lt h]; omega

theorem and127_u8 {c : Nat} (h : c < 256) : ibits .and .u8 (c : Int) 127 = ((c % 128 : Nat) : Int) := by
  rw [← and_127]; exact (ibits_u8 (a := c) (b := 127) (by omega) (by omega)).1
theorem and127_u64 {c : Nat} (h : c < 2 ^ 64) : ibits .and .u64 (c : Int) 127 = ((c % 128 : Nat) : Int) := by
  rw [← and_127]; exact (ibits_u64 (a := c) (b := 127) (by omega) (by omega)).1
theorem or_high_u64 {n i m : Nat} (h : n < 2 ^ i) (hm : n + m * 2 ^ i < 2 ^ 64) : ibits .or .u64 (n : Int) ((m * 2 ^ i : Nat) : Int) = ((n + m * 2 ^ i : Nat) : Int) := by
  rw [← or_high h]; exact (ibits_u64 (by omega) (by omega)).2.1

end Go.Almanac
