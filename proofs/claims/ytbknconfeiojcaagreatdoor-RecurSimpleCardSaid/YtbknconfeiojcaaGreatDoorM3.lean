/- THE ABSTRACT MEMORY (part 30): the rounds of 'for .. := range f', seen from f: what is handed to it. -/
import Derived.Test.YtbknconfeiojcaaGreatDoorM2
set_option linter.unusedSimpArgs false
set_option linter.unusedVariables false
set_option linter.unusedSectionVars false
set_option maxRecDepth 10000
set_option maxHeartbeats 1000000
/- THE ABSTRACT MEMORY (part 27): drawn regions with a barrier, reckoned; unsafe.SliceData and unsafe.String in them. -/
namespace Go.Abs
open Go.RowKit
section
variable {E : Env} {r : Option Nat} {Q : APost} {ops : Array Oper}
def FxBC (E : Env) (r : Option Nat) (ops : Array Oper) (Q : APost) (n : Nat) (Kn : ANext) : List Nat → AA → St → Prop
  | [], a, st => Kn a st
  | i :: rest, a, st =>
    match ops[i]? with
    | none => False
    | some o =>
      match o.guard with
      | none =>
        match pureOp E a o.op with
        | some (c, v) => c ∧ FxBC E r ops Q n Kn rest (a.put o.dst v) st
        | none => FxB E r ops Q n Kn (i :: rest) a st
      | some _ => FxB E r ops Q n Kn (i :: rest) a st
theorem FxB.fixed {n : Nat} {Kn : ANext} {i : Nat} {rest : List Nat} {a : AA} {st : St} {v : AV} (h : Fixed E r ops Q i v a st) (hk : FxB E r ops Q n Kn rest (a.put ((ops[i]?).bind (·.dst)) v) st) : FxB E r ops Q n Kn (i :: rest) a st := .inl ⟨v, h, hk⟩
attribute [go_sem] FxBC
end
end Go.Abs

/- THE ABSTRACT MEMORY (part 28): unsafe.SliceData and unsafe.String of nothing. -/
namespace Go.Abs
open Go.RowKit
section
variable {E : Env} {r : Option Nat} {Q : APost} {ops : Array Oper}
theorem Fixed.pv {i : Nat} {o : Oper} {a : AA} {st : St} {v : AV} (hi : ops[i]? = some o) (hg : o.guard = none) (h : ∀ a', Same ops o a' a → PureV E o a' v) : Fixed E r ops Q i v a st :=
  ⟨o, hi, fun a' rest hs hk => AOps.cons hi hg (AOp.pure (h a' hs) hk)⟩
theorem AOps.guard_call {i : Nat} {rest : List Nat} {o : Oper} {v : AV} {a : AA} {st : St} {x : Operand} {f : FuncId} {fi ca : List AV} {args : Array Operand} {tys : Array TypeId} {j d : Nat} {want g : Bool} (hi : ops[i]? = some o) (hg : o.guard = some (j, want)) (hd : (ops[j]?).bind (·.dst) = some d) (hy : agd (a.get d) want = some g)
    (ho : o.op = .call { callee := .value x, args := args, argTypes := tys }) (hx : g = true → evU E a x = .clo (.func f) fi ca) (hcs : g = true → evCs E a (x :: args.toList)) (hb : hasBody E.P f = true)
    (h : g = true → ACalls E f (fi ++ args.toList.map (evU E a) ++ ca) st fun e st' => st' = st ∧ e = .ret v) (hk : AOps E r ops Q rest (a.put ((ops[i]?).bind (·.dst)) (.opt g v)) st) : AOps E r ops Q (i :: rest) a st := by
  rw [hi] at hk
  obtain ⟨o', ho', h1⟩ := Fixed.guard_call (Q := Q) (r := r) hi hg hd hy ho hx hcs hb h
  rw [hi] at ho'; cases ho'
  exact h1 a rest (fun _ _ => rfl) hk
end
end Go.Abs

/- THE ABSTRACT MEMORY (part 29): bits of whole numbers. -/
namespace Go.Abs
open Go.RowKit
attribute [go_sem] true_or List.getElem_toArray List.getElem_cons_succ List.getElem_cons_zero
theorem tmodp {a b : Int} (h : 0 ≤ a) : a.tmod b = a % b := Int.tmod_eq_emod_of_nonneg h
theorem tdivp {a b : Int} (h : 0 ≤ a) : a.tdiv b = a / b := Int.tdiv_eq_ediv_of_nonneg h
theorem shr_nat {a b : Nat} : (a : Int).fdiv (2 ^ b) = ((a / 2 ^ b : Nat) : Int) := by
  have : ((2 : Int) ^ b) = ((2 ^ b : Nat) : Int) := by simp
  rw [Int.fdiv_eq_ediv_of_nonneg _ (by rw [this]; exact Int.natCast_nonneg _), this]; rfl
theorem fdivp {a b : Int} (h : 0 < b) : a.fdiv b = a / b := Int.fdiv_eq_ediv_of_nonneg _ (by omega)
theorem ibn_u8 {a b : Nat} (ha : (a : Int) ≤ 255) (hb : (b : Int) ≤ 255) : ibits .and .u8 a b = ((a &&& b : Nat) : Int) ∧ ibits .or .u8 a b = ((a ||| b : Nat) : Int) ∧ ibits .xor .u8 a b = ((a ^^^ b : Nat) : Int) := by
  have h1 : (BitVec.ofInt 8 (a : Int)).toNat = a := by simp [BitVec.ofInt_natCast]; omega
  have h2 : (BitVec.ofInt 8 (b : Int)).toNat = b := by simp [BitVec.ofInt_natCast]; omega
  have ha' : a < 2 ^ 8 := by omega
  have hb' : b < 2 ^ 8 := by omega
  refine ⟨?_, ?_, ?_⟩
  · show IntKind.u8.wrap ((BitVec.ofInt 8 (a : Int) &&& BitVec.ofInt 8 (b : Int)).toNat : Int) = _
    rw [BitVec.toNat_and, h1, h2]; have := Nat.and_lt_two_pow a hb'; exact w_u8 (by omega) (by omega)
  · show IntKind.u8.wrap ((BitVec.ofInt 8 (a : Int) ||| BitVec.ofInt 8 (b : Int)).toNat : Int) = _
    rw [BitVec.toNat_or, h1, h2]; have := Nat.or_lt_two_pow ha' hb'; exact w_u8 (by omega) (by omega)
  · show IntKind.u8.wrap ((BitVec.ofInt 8 (a : Int) ^^^ BitVec.ofInt 8 (b : Int)).toNat : Int) = _
    rw [BitVec.toNat_xor, h1, h2]; have := Nat.xor_lt_two_pow ha' hb'; exact w_u8 (by omega) (by omega)
theorem mask_u8 {a : Int} (h0 : 0 ≤ a) (h1 : a ≤ 255) (n : Nat) (hn : n ≤ 8) : ibits .and .u8 a (2 ^ n - 1) = a % 2 ^ n := by
  obtain ⟨m, rfl⟩ : ∃ m : Nat, a = m := ⟨a.toNat, by omega⟩
  have hp : 2 ^ n ≤ 2 ^ 8 := Nat.pow_le_pow_right (by omega) hn
  have hq : 0 < 2 ^ n := Nat.two_pow_pos n
  have e : ((2 : Int) ^ n - 1) = ((2 ^ n - 1 : Nat) : Int) := by
    rw [Int.natCast_sub (by omega)]; simp
  rw [e, (ibn_u8 h1 (by omega)).1, Nat.and_two_pow_sub_one_eq_mod]
  simp
theorem and_3_u8 {a : Int} (h0 : 0 ≤ a) (h1 : a ≤ 255) : ibits .and .u8 a 3 = a % 4 := mask_u8 h0 h1 2 (by omega)
theorem and_1_u8 {a : Int} (h0 : 0 ≤ a) (h1 : a ≤ 255) : ibits .and .u8 a 1 = a % 2 := mask_u8 h0 h1 1 (by omega)
theorem and_7_u8 {a : Int} (h0 : 0 ≤ a) (h1 : a ≤ 255) : ibits .and .u8 a 7 = a % 8 := mask_u8 h0 h1 3 (by omega)
theorem and_15_u8 {a : Int} (h0 : 0 ≤ a) (h1 : a ≤ 255) : ibits .and .u8 a 15 = a % 16 := mask_u8 h0 h1 4 (by omega)
theorem and_31_u8 {a : Int} (h0 : 0 ≤ a) (h1 : a ≤ 255) : ibits .and .u8 a 31 = a % 32 := mask_u8 h0 h1 5 (by omega)
theorem and_63_u8 {a : Int} (h0 : 0 ≤ a) (h1 : a ≤ 255) : ibits .and .u8 a 63 = a % 64 := mask_u8 h0 h1 6 (by omega)
theorem and_127_u8 {a : Int} (h0 : 0 ≤ a) (h1 : a ≤ 255) : ibits .and .u8 a 127 = a % 128 := mask_u8 h0 h1 7 (by omega)
theorem ibn_u32 {a b : Nat} (ha : (a : Int) ≤ 4294967295) (hb : (b : Int) ≤ 4294967295) : ibits .and .u32 a b = ((a &&& b : Nat) : Int) ∧ ibits .or .u32 a b = ((a ||| b : Nat) : Int) ∧ ibits .xor .u32 a b = ((a ^^^ b : Nat) : Int) := by
  have h1 : (BitVec.ofInt 32 (a : Int)).toNat = a := by simp [BitVec.ofInt_natCast]; omega
  have h2 : (BitVec.ofInt 32 (b : Int)).toNat = b := by simp [BitVec.ofInt_natCast]; omega
  have ha' : a < 2 ^ 32 := by omega
  have hb' : b < 2 ^ 32 := by omega
  refine ⟨?_, ?_, ?_⟩
  · show IntKind.u32.wrap ((BitVec.ofInt 32 (a : Int) &&& BitVec.ofInt 32 (b : Int)).toNat : Int) = _
    rw [BitVec.toNat_and, h1, h2]; have := Nat.and_lt_two_pow a hb'; exact w_u32 (by omega) (by omega)
  · show IntKind.u32.wrap ((BitVec.ofInt 32 (a : Int) ||| BitVec.ofInt 32 (b : Int)).toNat : Int) = _
    rw [BitVec.toNat_or, h1, h2]; have := Nat.or_lt_two_pow ha' hb'; exact w_u32 (by omega) (by omega)
  · show IntKind.u32.wrap ((BitVec.ofInt 32 (a : Int) ^^^ BitVec.ofInt 32 (b : Int)).toNat : Int) = _
    rw [BitVec.toNat_xor, h1, h2]; have := Nat.xor_lt_two_pow ha' hb'; exact w_u32 (by omega) (by omega)
theorem mask_u32 {a : Int} (h0 : 0 ≤ a) (h1 : a ≤ 4294967295) (n : Nat) (hn : n ≤ 32) : ibits .and .u32 a (2 ^ n - 1) = a % 2 ^ n := by
  obtain ⟨m, rfl⟩ : ∃ m : Nat, a = m := ⟨a.toNat, by omega⟩
  have hp : 2 ^ n ≤ 2 ^ 32 := Nat.pow_le_pow_right (by omega) hn
  have hq : 0 < 2 ^ n := Nat.two_pow_pos n
  have e : ((2 : Int) ^ n - 1) = ((2 ^ n - 1 : Nat) : Int) := by
    rw [Int.natCast_sub (by omega)]; simp
  rw [e, (ibn_u32 h1 (by omega)).1, Nat.and_two_pow_sub_one_eq_mod]
  simp
theorem and_3_u32 {a : Int} (h0 : 0 ≤ a) (h1 : a ≤ 4294967295) : ibits .and .u32 a 3 = a % 4 := mask_u32 h0 h1 2 (by omega)
theorem and_1_u32 {a : Int} (h0 : 0 ≤ a) (h1 : a ≤ 4294967295) : ibits .and .u32 a 1 = a % 2 := mask_u32 h0 h1 1 (by omega)
theorem and_7_u32 {a : Int} (h0 : 0 ≤ a) (h1 : a ≤ 4294967295) : ibits .and .u32 a 7 = a % 8 := mask_u32 h0 h1 3 (by omega)
theorem and_15_u32 {a : Int} (h0 : 0 ≤ a) (h1 : a ≤ 4294967295) : ibits .and .u32 a 15 = a % 16 := mask_u32 h0 h1 4 (by omega)
theorem and_31_u32 {a : Int} (h0 : 0 ≤ a) (h1 : a ≤ 4294967295) : ibits .and .u32 a 31 = a % 32 := mask_u32 h0 h1 5 (by omega)
theorem and_63_u32 {a : Int} (h0 : 0 ≤ a) (h1 : a ≤ 4294967295) : ibits .and .u32 a 63 = a % 64 := mask_u32 h0 h1 6 (by omega)
theorem and_127_u32 {a : Int} (h0 : 0 ≤ a) (h1 : a ≤ 4294967295) : ibits .and .u32 a 127 = a % 128 := mask_u32 h0 h1 7 (by omega)
theorem ibn_u64 {a b : Nat} (ha : (a : Int) ≤ 18446744073709551615) (hb : (b : Int) ≤ 18446744073709551615) : ibits .and .u64 a b = ((a &&& b : Nat) : Int) ∧ ibits .or .u64 a b = ((a ||| b : Nat) : Int) ∧ ibits .xor .u64 a b = ((a ^^^ b : Nat) : Int) := by
  have h1 : (BitVec.ofInt 64 (a : Int)).toNat = a := by simp [BitVec.ofInt_natCast]; omega
  have h2 : (BitVec.ofInt 64 (b : Int)).toNat = b := by simp [BitVec.ofInt_natCast]; omega
  have ha' : a < 2 ^ 64 := by omega
  have hb' : b < 2 ^ 64 := by omega
  refine ⟨?_, ?_, ?_⟩
  · show IntKind.u64.wrap ((BitVec.ofInt 64 (a : Int) &&& BitVec.ofInt 64 (b : Int)).toNat : Int) = _
    rw [BitVec.toNat_and, h1, h2]; have := Nat.and_lt_two_pow a hb'; exact w_u64 (by omega) (by omega)
  · show IntKind.u64.wrap ((BitVec.ofInt 64 (a : Int) ||| BitVec.ofInt 64 (b : Int)).toNat : Int) = _
    rw [BitVec.toNat_or, h1, h2]; have := Nat.or_lt_two_pow ha' hb'; exact w_u64 (by omega) (by omega)
  · show IntKind.u64.wrap ((BitVec.ofInt 64 (a : Int) ^^^ BitVec.ofInt 64 (b : Int)).toNat : Int) = _
    rw [BitVec.toNat_xor, h1, h2]; have := Nat.xor_lt_two_pow ha' hb'; exact w_u64 (by omega) (by omega)
theorem mask_u64 {a : Int} (h0 : 0 ≤ a) (h1 : a ≤ 18446744073709551615) (n : Nat) (hn : n ≤ 64) : ibits .and .u64 a (2 ^ n - 1) = a % 2 ^ n := by
  obtain ⟨m, rfl⟩ : ∃ m : Nat, a = m := ⟨a.toNat, by omega⟩
  have hp : 2 ^ n ≤ 2 ^ 64 := Nat.pow_le_pow_right (by omega) hn
  have hq : 0 < 2 ^ n := Nat.two_pow_pos n
  have e : ((2 : Int) ^ n - 1) = ((2 ^ n - 1 : Nat) : Int) := by
    rw [Int.natCast_sub (by omega)]; simp
  rw [e, (ibn_u64 h1 (by omega)).1, Nat.and_two_pow_sub_one_eq_mod]
  simp
theorem and_3_u64 {a : Int} (h0 : 0 ≤ a) (h1 : a ≤ 18446744073709551615) : ibits .and .u64 a 3 = a % 4 := mask_u64 h0 h1 2 (by omega)
theorem and_1_u64 {a : Int} (h0 : 0 ≤ a) (h1 : a ≤ 18446744073709551615) : ibits .and .u64 a 1 = a % 2 := mask_u64 h0 h1 1 (by omega)
theorem and_7_u64 {a : Int} (h0 : 0 ≤ a) (h1 : a ≤ 18446744073709551615) : ibits .and .u64 a 7 = a % 8 := mask_u64 h0 h1 3 (by omega)
theorem and_15_u64 {a : Int} (h0 : 0 ≤ a) (h1 : a ≤ 18446744073709551615) : ibits .and .u64 a 15 = a % 16 := mask_u64 h0 h1 4 (by omega)
theorem and_31_u64 {a : Int} (h0 : 0 ≤ a) (h1 : a ≤ 18446744073709551615) : ibits .and .u64 a 31 = a % 32 := mask_u64 h0 h1 5 (by omega)
theorem and_63_u64 {a : Int} (h0 : 0 ≤ a) (h1 : a ≤ 18446744073709551615) : ibits .and .u64 a 63 = a % 64 := mask_u64 h0 h1 6 (by omega)
theorem and_127_u64 {a : Int} (h0 : 0 ≤ a) (h1 : a ≤ 18446744073709551615) : ibits .and .u64 a 127 = a % 128 := mask_u64 h0 h1 7 (by omega)
theorem ibn_i32 {a b : Nat} (ha : (a : Int) ≤ 2147483647) (hb : (b : Int) ≤ 2147483647) : ibits .and .i32 a b = ((a &&& b : Nat) : Int) ∧ ibits .or .i32 a b = ((a ||| b : Nat) : Int) ∧ ibits .xor .i32 a b = ((a ^^^ b : Nat) : Int) := by
  have h1 : (BitVec.ofInt 32 (a : Int)).toNat = a := by simp [BitVec.ofInt_natCast]; omega
  have h2 : (BitVec.ofInt 32 (b : Int)).toNat = b := by simp [BitVec.ofInt_natCast]; omega
  have ha' : a < 2 ^ 31 := by omega
  have hb' : b < 2 ^ 31 := by omega
  refine ⟨?_, ?_, ?_⟩
  · show IntKind.i32.wrap ((BitVec.ofInt 32 (a : Int) &&& BitVec.ofInt 32 (b : Int)).toNat : Int) = _
    rw [BitVec.toNat_and, h1, h2]; have := Nat.and_lt_two_pow a hb'; exact w_i32 (by omega) (by omega)
  · show IntKind.i32.wrap ((BitVec.ofInt 32 (a : Int) ||| BitVec.ofInt 32 (b : Int)).toNat : Int) = _
    rw [BitVec.toNat_or, h1, h2]; have := Nat.or_lt_two_pow ha' hb'; exact w_i32 (by omega) (by omega)
  · show IntKind.i32.wrap ((BitVec.ofInt 32 (a : Int) ^^^ BitVec.ofInt 32 (b : Int)).toNat : Int) = _
    rw [BitVec.toNat_xor, h1, h2]; have := Nat.xor_lt_two_pow ha' hb'; exact w_i32 (by omega) (by omega)
theorem mask_i32 {a : Int} (h0 : 0 ≤ a) (h1 : a ≤ 2147483647) (n : Nat) (hn : n ≤ 31) : ibits .and .i32 a (2 ^ n - 1) = a % 2 ^ n := by
  obtain ⟨m, rfl⟩ : ∃ m : Nat, a = m := ⟨a.toNat, by omega⟩
  have hp : 2 ^ n ≤ 2 ^ 31 := Nat.pow_le_pow_right (by omega) hn
  have hq : 0 < 2 ^ n := Nat.two_pow_pos n
  have e : ((2 : Int) ^ n - 1) = ((2 ^ n - 1 : Nat) : Int) := by
    rw [Int.natCast_sub (by omega)]; simp
  rw [e, (ibn_i32 h1 (by omega)).1, Nat.and_two_pow_sub_one_eq_mod]
  simp
theorem and_3_i32 {a : Int} (h0 : 0 ≤ a) (h1 : a ≤ 2147483647) : ibits .and .i32 a 3 = a % 4 := mask_i32 h0 h1 2 (by omega)
theorem and_1_i32 {a : Int} (h0 : 0 ≤ a) (h1 : a ≤ 2147483647) : ibits .and .i32 a 1 = a % 2 := mask_i32 h0 h1 1 (by omega)
theorem and_7_i32 {a : Int} (h0 : 0 ≤ a) (h1 : a ≤ 2147483647) : ibits .and .i32 a 7 = a % 8 := mask_i32 h0 h1 3 (by omega)
theorem and_15_i32 {a : Int} (h0 : 0 ≤ a) (h1 : a ≤ 2147483647) : ibits .and .i32 a 15 = a % 16 := mask_i32 h0 h1 4 (by omega)
theorem and_31_i32 {a : Int} (h0 : 0 ≤ a) (h1 : a ≤ 2147483647) : ibits .and .i32 a 31 = a % 32 := mask_i32 h0 h1 5 (by omega)
theorem and_63_i32 {a : Int} (h0 : 0 ≤ a) (h1 : a ≤ 2147483647) : ibits .and .i32 a 63 = a % 64 := mask_i32 h0 h1 6 (by omega)
theorem and_127_i32 {a : Int} (h0 : 0 ≤ a) (h1 : a ≤ 2147483647) : ibits .and .i32 a 127 = a % 128 := mask_i32 h0 h1 7 (by omega)
theorem ibn_i64 {a b : Nat} (ha : (a : Int) ≤ 9223372036854775807) (hb : (b : Int) ≤ 9223372036854775807) : ibits .and .i64 a b = ((a &&& b : Nat) : Int) ∧ ibits .or .i64 a b = ((a ||| b : Nat) : Int) ∧ ibits .xor .i64 a b = ((a ^^^ b : Nat) : Int) := by
  have h1 : (BitVec.ofInt 64 (a : Int)).toNat = a := by simp [BitVec.ofInt_natCast]; omega
  have h2 : (BitVec.ofInt 64 (b : Int)).toNat = b := by simp [BitVec.ofInt_natCast]; omega
  have ha' : a < 2 ^ 63 := by omega
  have hb' : b < 2 ^ 63 := by omega
  refine ⟨?_, ?_, ?_⟩
  · show IntKind.i64.wrap ((BitVec.ofInt 64 (a : Int) &&& BitVec.ofInt 64 (b : Int)).toNat : Int) = _
    rw [BitVec.toNat_and, h1, h2]; have := Nat.and_lt_two_pow a hb'; exact w_i64 (by omega) (by omega)
  · show IntKind.i64.wrap ((BitVec.ofInt 64 (a : Int) ||| BitVec.ofInt 64 (b : Int)).toNat : Int) = _
    rw [BitVec.toNat_or, h1, h2]; have := Nat.or_lt_two_pow ha' hb'; exact w_i64 (by omega) (by omega)
  · show IntKind.i64.wrap ((BitVec.ofInt 64 (a : Int) ^^^ BitVec.ofInt 64 (b : Int)).toNat : Int) = _
    rw [BitVec.toNat_xor, h1, h2]; have := Nat.xor_lt_two_pow ha' hb'; exact w_i64 (by omega) (by omega)
theorem mask_i64 {a : Int} (h0 : 0 ≤ a) (h1 : a ≤ 9223372036854775807) (n : Nat) (hn : n ≤ 63) : ibits .and .i64 a (2 ^ n - 1) = a % 2 ^ n := by
  obtain ⟨m, rfl⟩ : ∃ m : Nat, a = m := ⟨a.toNat, by omega⟩
  have hp : 2 ^ n ≤ 2 ^ 63 := Nat.pow_le_pow_right (by omega) hn
  have hq : 0 < 2 ^ n := Nat.two_pow_pos n
  have e : ((2 : Int) ^ n - 1) = ((2 ^ n - 1 : Nat) : Int) := by
    rw [Int.natCast_sub (by omega)]; simp
  rw [e, (ibn_i64 h1 (by omega)).1, Nat.and_two_pow_sub_one_eq_mod]
  simp
theorem and_3_i64 {a : Int} (h0 : 0 ≤ a) (h1 : a ≤ 9223372036854775807) : ibits .and .i64 a 3 = a % 4 := mask_i64 h0 h1 2 (by omega)
theorem and_1_i64 {a : Int} (h0 : 0 ≤ a) (h1 : a ≤ 9223372036854775807) : ibits .and .i64 a 1 = a % 2 := mask_i64 h0 h1 1 (by omega)
theorem and_7_i64 {a : Int} (h0 : 0 ≤ a) (h1 : a ≤ 9223372036854775807) : ibits .and .i64 a 7 = a % 8 := mask_i64 h0 h1 3 (by omega)
theorem and_15_i64 {a : Int} (h0 : 0 ≤ a) (h1 : a ≤ 9223372036854775807) : ibits .and .i64 a 15 = a % 16 := mask_i64 h0 h1 4 (by omega)
theorem and_31_i64 {a : Int} (h0 : 0 ≤ a) (h1 : a ≤ 9223372036854775807) : ibits .and .i64 a 31 = a % 32 := mask_i64 h0 h1 5 (by omega)
theorem and_63_i64 {a : Int} (h0 : 0 ≤ a) (h1 : a ≤ 9223372036854775807) : ibits .and .i64 a 63 = a % 64 := mask_i64 h0 h1 6 (by omega)
theorem and_127_i64 {a : Int} (h0 : 0 ≤ a) (h1 : a ≤ 9223372036854775807) : ibits .and .i64 a 127 = a % 128 := mask_i64 h0 h1 7 (by omega)
end Go.Abs

/- THE ABSTRACT MEMORY (part 31): a walk that owns a slice. -/
namespace Go.Abs
open Go.RowKit
structure SW (β : St) (t : TypeId) (sz : Nat) (v : AV) (σ : St) (es : List (List AV)) : Prop where
  own : OwnS σ t sz v es (fun i => β i = none)
  keep : ∀ i, β i ≠ none → σ i = β i
section
variable {β σ : St} {t : TypeId} {sz : Nat} {v : AV} {es : List (List AV)}
theorem SW.new (β : St) (t : TypeId) (sz : Nat) : SW β t sz .nils β [] := ⟨.inl ⟨rfl, rfl⟩, fun _ _ => rfl⟩
theorem SW.fresh (h : SW β t sz v σ es) : ∀ i, σ i = none → β i = none := fun i hi => by
  cases hx : β i with
  | none => rfl
  | some B => have := h.keep i (by simp [hx]); rw [hi, hx] at this; cases this
theorem SW.set (h : SW β t sz v σ es) {id : Nat} (hid : σ id = none) (B : Blk) : SW β t sz v (σ.set id B) es := by
  refine ⟨?_, fun i hi => ?_⟩
  · rcases h.own with q | ⟨ia, g, e1, e2, e3⟩
    · exact .inl q
    · have n : ia ≠ id := fun e => by subst e; rw [e2] at hid; cases hid
      exact .inr ⟨ia, g, e1, by rw [St.set_ne _ _ n, e2], e3⟩
  · have n : i ≠ id := fun e => hi (e ▸ h.fresh id hid)
    rw [St.set_ne _ _ n]; exact h.keep i hi
theorem SW.rebase (h : SW β t sz v σ es) {id : Nat} (hid : σ id = none) (B : Blk) : SW (β.set id B) t sz v (σ.set id B) es := by
  refine ⟨?_, fun i hi => ?_⟩
  · rcases h.own with q | ⟨ia, g, e1, e2, e3⟩
    · exact .inl q
    · have n : ia ≠ id := fun e => by subst e; rw [e2] at hid; cases hid
      exact .inr ⟨ia, g, e1, by rw [St.set_ne _ _ n, e2], (St.set_ne β B n).trans e3⟩
  · by_cases n : i = id
    · subst n; simp
    · rw [St.set_ne _ _ n] at hi ⊢; rw [St.set_ne _ _ n]; exact h.keep i hi
theorem SW.del (h : SW β t sz v σ es) {l : Nat} (hl : β l ≠ none) : SW (β.del l) t sz v (σ.del l) es := by
  refine ⟨?_, fun i hi => ?_⟩
  · rcases h.own with q | ⟨ia, g, e1, e2, e3⟩
    · exact .inl q
    · have n : ia ≠ l := fun e => hl (e ▸ e3)
      exact .inr ⟨ia, g, e1, by rw [St.del_ne _ n, e2], (St.del_ne β n).trans e3⟩
  · by_cases n : i = l
    · subst n; simp [St.del] at hi
    · rw [St.del_ne _ n] at hi ⊢; rw [St.del_ne _ n]; exact h.keep i hi
theorem SW.put (h : SW β t sz v σ es) {l : Nat} (hl : β l ≠ none) (B : Blk) : SW (β.set l B) t sz v (σ.set l B) es := by
  refine ⟨?_, fun i hi => ?_⟩
  · rcases h.own with q | ⟨ia, g, e1, e2, e3⟩
    · exact .inl q
    · have n : ia ≠ l := fun e => hl (e ▸ e3)
      exact .inr ⟨ia, g, e1, by rw [St.set_ne _ _ n, e2], (St.set_ne β B n).trans e3⟩
  · by_cases n : i = l
    · subst n; simp
    · rw [St.set_ne _ _ n] at hi ⊢; rw [St.set_ne _ _ n]; exact h.keep i hi
theorem SW.plain (h : SW β t sz v σ es) : unO v = v ∧ (unC v = True) := by
  rcases h.own with ⟨rfl, _⟩ | ⟨_, _, rfl, _⟩ <;> simp [unO, unC]
theorem SW.sub {st : St} (hs : st.sub β) (h : SW β t sz v σ es) : st.sub σ := fun i B hi => by
  have h0 := hs i B hi
  rw [h.keep i (by simp [h0]), h0]
end
section
variable {E : Env} {a : AA} {r : Option Nat} {Q : APost} {Kn : ANext} {o : Oper} {β σ : St} {v : AV} {es : List (List AV)}
theorem AOp.appendW {t e : TypeId} {x y : Operand} {sz by_ : Nat} {xs : List (List AV)} (ho : o.op = .call { callee := .builtin .append, args := #[x, y], argTypes := #[t, t] })
    (hs : evU E a x = v) (hcs : evC E a y) (hcx : evC E a x) (ht : E.P.underlying t = some (.slice e)) (hz : tsz E.P e = some sz) (hzz : hasZero E.P e = some sz) (hb : tby E.P e = some by_) (hpos : 0 < sz)
    (h : SW β e sz v σ es) (hy : aElems σ (evU E a y) = some xs) (hys : aSz (evU E a y) = some sz) (hone : ∀ e ∈ xs, ∀ c ∈ e, isCell c = true)
    (hlim : (es.length + xs.length) * by_ ≤ 140737488355328) (hlim2 : es.length + xs.length ≤ maxLen) (hne : xs ≠ [])
    (hk : ∀ v' σ', SW β e sz v' σ' (es ++ xs) → Kn (a.put o.dst v') σ') : AOp E r o Kn Q a σ := by
  refine AOp.appendO (ok := fun i => β i = none) ho ⟨hcx, hcs, trivial⟩ ht hz hzz hb hpos hs h.own hy hys hone hlim hlim2 h.fresh (fun v' id B hid hv' hown => ?_) hne
  have hn : β id = none := by exact hid.elim (h.fresh id) fun q => q
  refine hk _ _ ⟨hown, fun i hi => ?_⟩
  have n : i ≠ id := fun e => hi (e ▸ hn)
  rw [St.set_ne _ _ n]; exact h.keep i hi
theorem AOp.appendE {t e : TypeId} {x y : Operand} {sz by_ it : Nat} {xs : List (List AV)} {n : Nat} (ho : o.op = .call { callee := .builtin .append, args := #[x, y], argTypes := #[t, t] })
    (hs : a.ev E x = v) (hye : a.ev E y = .arr it 0 sz 0 n) (ht : E.P.underlying t = some (.slice e)) (hz : tsz E.P e = some sz) (hzz : hasZero E.P e = some sz) (hb : tby E.P e = some by_) (hpos : 0 < sz)
    (h : SW β e sz v σ es) (hit : σ it = none) (hn : xs.length = n) (hone : ∀ e ∈ xs, ∀ c ∈ e, isCell c = true)
    (hlim : (es.length + n) * by_ ≤ 140737488355328) (hlim2 : es.length + n ≤ maxLen) (hne : xs ≠ [])
    (hk : ∀ v' σ', SW β e sz v' σ' (es ++ xs) → Kn (a.put o.dst v') σ') : AOp E r o Kn Q a (σ.set it (.cells e 0 sz xs)) := by
  subst hn
  have hp := h.plain
  refine AOp.appendW ho (by rw [evU, hs, hp.1]) (by rw [evC, hye]; trivial) (by rw [evC, hs, hp.2]; trivial) ht hz hzz hb hpos (h.set hit _) (xs := xs) ?_ (by rw [evU, hye]; rfl) hone hlim hlim2 hne hk
  rw [evU, hye]
  simp [unO, aElems]
end
end Go.Abs

/- THE ABSTRACT MEMORY (part 33): drawn regions with operations that change memory (each ahead of or behind the others that do), while some that only reckon may wait. -/
namespace Go.Abs
open Go.RowKit
def ahead (ops : Array Oper) (n b x : Nat) : Bool := b == x || (if x < b then (clos ops n b).contains x else (clos ops n x).contains b)
def late (ops : Array Oper) (n : Nat) (B : List Nat) (x : Nat) : Bool := B.any fun b => !ahead ops n b x
def ordM (ops : Array Oper) (n : Nat) (B : List Nat) : Bool :=
  B.all fun b => B.all (fun c => ahead ops n b c) && (List.range ops.size).all fun x => ahead ops n b x || decide (x < b)
section
variable {E : Env} {r : Option Nat} {Q : APost} {ops : Array Oper}
def Moves (E : Env) (r : Option Nat) (ops : Array Oper) (Q : APost) (i : Nat) (R : AV → St → Prop) (a : AA) (st : St) : Prop :=
  ∃ o, ops[i]? = some o ∧ ∀ a' rest, Same ops o a' a → (∀ v st', R v st' → AOps E r ops Q rest (a'.put o.dst v) st') → AOps E r ops Q (i :: rest) a' st
theorem Moves.congr {i : Nat} {R : AV → St → Prop} {a b : AA} {st : St} {o : Oper} (ho : ops[i]? = some o) (h : Moves E r ops Q i R a st) (hs : Same ops o b a) : Moves E r ops Q i R b st := by
  obtain ⟨o', ho', h⟩ := h
  rw [ho] at ho'; cases ho'
  exact ⟨o, ho, fun a' rest hs' hk => h a' rest (fun t ht => (hs' t ht).trans (hs t ht)) hk⟩
def FxM (E : Env) (r : Option Nat) (ops : Array Oper) (Q : APost) (n : Nat) (B : List Nat) (Kn : ANext) : List Nat → AA → St → Prop
  | [], a, st => Kn a st
  | i :: l, a, st =>
    (B.contains i = false ∧ ∃ v, Fixed E r ops Q i v a st ∧ (late ops n B i = true → ∀ st', Fixed E r ops Q i v a st') ∧ FxM E r ops Q n B Kn l (a.put ((ops[i]?).bind (·.dst)) v) st) ∨
    (B.contains i = true ∧ ∃ R, Moves E r ops Q i R a st ∧ ∀ v st', R v st' → FxM E r ops Q n B Kn l (a.put ((ops[i]?).bind (·.dst)) v) st')
theorem FxM.front {n : Nat} {B : List Nat} {Kn : ANext} {i : Nat} {oi : Oper} (hi : ops[i]? = some oi) (hiB : B.contains i = false) : ∀ (xs ys : List Nat) (a : AA) (st : St), FxM E r ops Q n B Kn (xs ++ i :: ys) a st → (∀ x ∈ xs, ∀ o, ops[x]? = some o → o.apart ops oi = true) → (∀ x ∈ xs, B.contains x = false) →
    ∃ v, Fixed E r ops Q i v a st ∧ (late ops n B i = true → ∀ st', Fixed E r ops Q i v a st') ∧ FxM E r ops Q n B Kn (xs ++ ys) (a.put oi.dst v) st
  | [], ys, a, st, h, _, _ => by
    rcases h with ⟨_, v, h1, h2, h3⟩ | ⟨hb, _⟩
    · rw [hi] at h3; exact ⟨v, h1, h2, h3⟩
    · rw [hiB] at hb; cases hb
  | x :: xs, ys, a, st, h, hx, hxb => by
    rcases h with ⟨hxB, u, h1, h1l, h2⟩ | ⟨hb, _⟩
    · have h1' := h1
      obtain ⟨ox, hox, _⟩ := h1'
      obtain ⟨p1, p2, p3⟩ := Oper.apart_spec (hx x (by simp) ox hox)
      rw [hox] at h2
      obtain ⟨v, g1, g1l, g2⟩ := FxM.front hi hiB xs ys _ st h2 (fun y hy => hx y (by simp [hy])) (fun y hy => hxb y (by simp [hy]))
      have s1 : ∀ t ∈ oi.looksAt ops, a.get t = (a.put ((some ox).bind (·.dst)) u).get t := fun t ht => (get_put_ne fun d hd e => p1 d hd (e ▸ ht)).symm
      have s2 : ∀ t ∈ ox.looksAt ops, (a.put oi.dst v).get t = a.get t := fun t ht => get_put_ne fun d hd e => p3 d hd (e ▸ ht)
      refine ⟨v, g1.congr hi s1, fun hl st' => (g1l hl st').congr hi s1, .inl ⟨hxB, u, h1.congr hox s2, fun hl st' => (h1l hl st').congr hox s2, ?_⟩⟩
      rw [hox]
      show FxM E r ops Q n B Kn (xs ++ ys) ((a.put oi.dst v).put ox.dst u) st
      rw [← put_comm a u v p2]
      exact g2
    · rw [hxb x (by simp)] at hb; cases hb
theorem FxM.frontM {n : Nat} {B : List Nat} {Kn : ANext} {i : Nat} {oi : Oper} (hi : ops[i]? = some oi) (hiB : B.contains i = true) : ∀ (xs ys : List Nat) (a : AA) (st : St), FxM E r ops Q n B Kn (xs ++ i :: ys) a st → (∀ x ∈ xs, ∀ o, ops[x]? = some o → o.apart ops oi = true) → (∀ x ∈ xs, B.contains x = false) → (∀ x ∈ xs, late ops n B x = true) →
    ∃ R, Moves E r ops Q i R a st ∧ ∀ v st', R v st' → FxM E r ops Q n B Kn (xs ++ ys) (a.put oi.dst v) st'
  | [], ys, a, st, h, _, _, _ => by
    rcases h with ⟨hb, _⟩ | ⟨_, R, h1, h2⟩
    · rw [hiB] at hb; cases hb
    · rw [hi] at h2; exact ⟨R, h1, h2⟩
  | x :: xs, ys, a, st, h, hx, hxb, hxl => by
    rcases h with ⟨hxB, u, h1, h1l, h2⟩ | ⟨hb, _⟩
    · have h1' := h1
      obtain ⟨ox, hox, _⟩ := h1'
      obtain ⟨p1, p2, p3⟩ := Oper.apart_spec (hx x (by simp) ox hox)
      rw [hox] at h2
      obtain ⟨R, g1, g2⟩ := FxM.frontM hi hiB xs ys _ st h2 (fun y hy => hx y (by simp [hy])) (fun y hy => hxb y (by simp [hy])) (fun y hy => hxl y (by simp [hy]))
      have s1 : ∀ t ∈ oi.looksAt ops, a.get t = (a.put ((some ox).bind (·.dst)) u).get t := fun t ht => (get_put_ne fun d hd e => p1 d hd (e ▸ ht)).symm
      refine ⟨R, g1.congr hi s1, fun v st' hR => .inl ⟨hxB, u, ?_, fun hl st'' => ?_, ?_⟩⟩
      · exact (h1l (hxl x (by simp)) st').congr hox fun t ht => get_put_ne fun d hd e => p3 d hd (e ▸ ht)
      · exact (h1l hl st'').congr hox fun t ht => get_put_ne fun d hd e => p3 d hd (e ▸ ht)
      · rw [hox]
        show FxM E r ops Q n B Kn (xs ++ ys) ((a.put oi.dst v).put ox.dst u) st'
        rw [← put_comm a u v p2]
        exact g2 v st' hR
    · rw [hxb x (by simp)] at hb; cases hb
theorem AOps.drawnM {md : Region.Mode} {n : Nat} {B : List Nat} {Kn : ANext} (hB : ordM ops n B = true) (hK : ∀ a st, Kn a st → Q .normal a st) (hl : Live md ops) (ho : Ordered ops) : ∀ (fuel t : Nat) (listed : Array Bool) (a : AA) (st : St), listed.size = ops.size → Down ops listed → (left listed ops.size).length ≤ fuel →
    FxM E r ops Q n B Kn (left listed ops.size) a st → AOps E r ops Q (Region.linearise.go md ops fuel t listed []) a st
  | 0, t, listed, a, st, hs, hdn, hf, h => by
    have : left listed ops.size = [] := List.eq_nil_of_length_eq_zero (by omega)
    rw [this] at h
    exact AOps.nil (hK _ _ h)
  | fuel + 1, t, listed, a, st, hs, hdn, hf, h => by
    have hdone : Region.ready md ops listed = [] → left listed ops.size = [] := fun hr => by
      apply List.eq_nil_iff_forall_not_mem.2
      intro i hi
      simp only [left, List.mem_filter, Bool.not_eq_true'] at hi
      exact hl listed hs ⟨i, hi.2⟩ hr
    have hgo : Region.linearise.go md ops (fuel + 1) t listed [] = match (Region.ready md ops listed)[t % (Region.ready md ops listed).length]? with
        | some i => i :: Region.linearise.go md ops fuel (t / (Region.ready md ops listed).length) (listed.setIfInBounds i true) []
        | .none => [] := by
      simp only [Region.linearise.go, Region.ready]
      split
      · rename_i heq
        rw [linearise_go_acc, heq]; rfl
      · rename_i heq
        rw [heq]; rfl
    rw [hgo]
    split
    · rename_i i hi
      have hmem := List.mem_of_getElem? hi
      obtain ⟨hn, oi, hoi, hed⟩ := mem_ready.1 hmem
      have hlt : i < ops.size := (Array.getElem?_eq_some_iff.1 hoi).1
      obtain ⟨xs, ys, e1, e2, e3⟩ := filter_split (p := fun i => !listed.getD i true) (l := List.range ops.size) List.pairwise_lt_range (List.mem_range.2 hlt) (by simp [hn])
      have e4 : left (listed.setIfInBounds i true) ops.size = xs ++ ys := by
        rw [← e3, left]
        refine List.filter_congr fun j hj => ?_
        by_cases hji : j = i
        · subst hji; simp [hs, hlt]
        · rw [getD_set_ne true (Ne.symm hji)]; simp [hji]
      have hdir : ∀ j ∈ direct ops i, listed.getD j false = true := fun j hj => by
        simp only [direct, hoi, List.mem_map, List.mem_filter] at hj
        obtain ⟨e, ⟨he, hb⟩, rfl⟩ := hj
        exact hed e (by simpa using he) (binds_any hb)
      have hdn' : Down ops (listed.setIfInBounds i true) := fun k hk j hj => by
        by_cases hki : k = i
        · subst hki; exact getD_set_true (hdir j hj)
        · rw [getD_set_ne false (Ne.symm hki)] at hk
          exact getD_set_true (hdn k hk j hj)
      have hun : ∀ x ∈ xs, listed.getD x false = false := fun x hx => by
        have h2 := (e2 x hx).2
        have : x < listed.size := by rw [hs]; have := (e2 x hx).1; omega
        simpa [this] using h2
      have hclos : ∀ x ∈ xs, (clos ops n i).contains x = false := fun x hx => by
        cases hc : (clos ops n i).contains x with
        | false => rfl
        | true =>
          have := clos_listed hdn n i hdir x (by simpa using hc)
          rw [hun x hx] at this; cases this
      rw [left, e1] at h
      have hlen' : (xs ++ ys).length ≤ fuel := by
        rw [left, e1] at hf
        simp only [List.length_append, List.length_cons] at hf ⊢
        omega
      have hapart : ∀ x ∈ xs, ∀ o, ops[x]? = some o → o.apart ops oi = true := fun x hx o hox => by
        rcases ho x i o oi (e2 x hx).1 hox hoi with q | ⟨e, he, rfl, hb⟩
        · exact q
        · have := hed e he (binds_any hb)
          rw [hun e.on hx] at this; cases this
      have hxB : ∀ x ∈ xs, B.contains x = false := fun x hx => by
        cases hb : B.contains x with
        | false => rfl
        | true =>
          exfalso
          have h1 := List.all_eq_true.1 hB x (by simpa using hb)
          rw [Bool.and_eq_true] at h1
          have h2 := List.all_eq_true.1 h1.2 i (List.mem_range.2 hlt)
          have hxi := (e2 x hx).1
          have h3 := (Bool.or_eq_true _ _).mp h2
          rcases h3 with h3 | h3
          · rw [ahead, if_neg (by omega), hclos x hx, Bool.or_false, beq_iff_eq] at h3; omega
          · have := of_decide_eq_true h3; omega
      cases hiB : B.contains i with
      | false =>
        obtain ⟨v, g1, _, g2⟩ := FxM.front hoi hiB xs ys a st h hapart hxB
        obtain ⟨o', ho', g1⟩ := g1
        rw [hoi] at ho'; cases ho'
        exact g1 a _ (fun _ _ => rfl) (AOps.drawnM hB hK hl ho fuel _ _ _ _ (by simpa using hs) hdn' (by rw [e4]; exact hlen') (by rw [e4]; exact g2))
      | true =>
        have hlate : ∀ x ∈ xs, late ops n B x = true := fun x hx => by
          refine List.any_eq_true.2 ⟨i, by simpa using hiB, ?_⟩
          have hxi := (e2 x hx).1
          have : (i == x) = false := by simp; omega
          simp only [ahead, this, Bool.false_or, if_pos hxi, hclos x hx, Bool.not_false]
        obtain ⟨R, g1, g2⟩ := FxM.frontM hoi hiB xs ys a st h hapart hxB hlate
        obtain ⟨o', ho', g1⟩ := g1
        rw [hoi] at ho'; cases ho'
        exact g1 a _ (fun _ _ => rfl) fun v st' hR => AOps.drawnM hB hK hl ho fuel _ _ _ _ (by simpa using hs) hdn' (by rw [e4]; exact hlen') (by rw [e4]; exact g2 v st' hR)
    · rename_i hnone
      have hr : Region.ready md ops listed = [] := by
        cases hc : Region.ready md ops listed with
        | nil => rfl
        | cons x l =>
          exfalso
          rw [hc] at hnone
          have : t % (x :: l).length < (x :: l).length := Nat.mod_lt _ (by simp)
          rw [List.getElem?_eq_getElem this] at hnone
          first | exact hnone _ rfl | cases hnone
      rw [hdone hr] at h
      exact AOps.nil (hK _ _ h)
theorem AW.drawnM {id : Nat} {a : AA} {st : St} (n : Nat) (B p : List Nat) (hb : (Go.Abs.drawnB ops p && ordM ops n B) = true)
    (h : ∀ (Q' : APost) (Kn : ANext), (∀ x a st, Q x a st → Q' x a st) → (∀ a st, Q .normal a st → Kn a st) → (∀ a st, Kn a st → Q' .normal a st) → FxM E r ops Q' n B Kn (List.range ops.size) a st) : AW E r (.region id ops true) Q a st := by
  rw [Bool.and_eq_true] at hb
  obtain ⟨hb, hB⟩ := hb
  simp only [Go.Abs.drawnB, Bool.and_eq_true] at hb
  obtain ⟨⟨⟨⟨b1, b2⟩, b3⟩, b4⟩, b5⟩ := hb
  have hr : (List.range ops.size).all (fun i => (List.range ops.size).contains i) = true := by simp
  have hl : ∀ md, Live md ops := fun md => by
    cases md
    · exact live_of _ b2 hr
    · exact live_of _ b3 b4
    · exact live_of _ b1 hr
  have h0 := h Q (Q .normal) (fun _ _ _ h => h) (fun _ _ h => h) (fun _ _ h => h)
  have hleft : left (Array.replicate ops.size false) ops.size = List.range ops.size := by
    rw [left, List.filter_eq_self]
    intro i hi
    simp [List.mem_range.1 hi]
  have hgo : ∀ md t, AOps E r ops Q (Region.linearise md ops t) a st := fun md t =>
    AOps.drawnM hB (fun _ _ h => h) (hl md) (ordered_of b5) ops.size t _ a st (by simp) (fun k hk => by exfalso; by_cases hk2 : k < ops.size <;> simp [Array.getElem?_replicate, hk2] at hk) (by rw [hleft]; simp) (by rw [hleft]; exact h0)
  refine AW.region_draw fun t => ?_
  unfold Region.schedule
  split
  · exact hgo _ _
  · exact hgo _ _
def FxMC (E : Env) (r : Option Nat) (ops : Array Oper) (Q : APost) (n : Nat) (B : List Nat) (Kn : ANext) : List Nat → AA → St → Prop
  | [], a, st => Kn a st
  | i :: rest, a, st =>
    match ops[i]? with
    | none => False
    | some o =>
      match o.guard with
      | none =>
        match pureOp E a o.op with
        | some (c, v) => c ∧ FxMC E r ops Q n B Kn rest (a.put o.dst v) st
        | none => FxM E r ops Q n B Kn (i :: rest) a st
      | some _ => FxM E r ops Q n B Kn (i :: rest) a st
theorem FxMC_ok {n : Nat} {B : List Nat} {Kn : ANext} (hno : ∀ i ∈ B, ∀ a o, ops[i]? = some o → pureOp E a o.op = none) : ∀ (l : List Nat) (a : AA) (st : St), FxMC E r ops Q n B Kn l a st → FxM E r ops Q n B Kn l a st
  | [], a, st, h => h
  | i :: rest, a, st, h => by
    simp only [FxMC] at h
    split at h
    · exact h.elim
    · rename_i o ho
      have hdst : (ops[i]?).bind (·.dst) = o.dst := by rw [ho]; rfl
      split at h
      · rename_i hg
        split at h
        · rename_i c v hp
          have hiB : B.contains i = false := by
            cases hb : B.contains i with
            | false => rfl
            | true => rw [hno i (by simpa using hb) a o ho] at hp; cases hp
          exact .inl ⟨hiB, v, Fixed.pure ho hg hp h.1, fun _ _ => Fixed.pure ho hg hp h.1, by rw [hdst]; exact FxMC_ok hno rest _ st h.2⟩
        · exact h
      · exact h
theorem FxM.fixed {n : Nat} {B : List Nat} {Kn : ANext} {i : Nat} {rest : List Nat} {a : AA} {st : St} {v : AV} (hb : (!B.contains i && !late ops n B i) = true) (h : Fixed E r ops Q i v a st) (hk : FxM E r ops Q n B Kn rest (a.put ((ops[i]?).bind (·.dst)) v) st) : FxM E r ops Q n B Kn (i :: rest) a st := by
  simp only [Bool.and_eq_true, Bool.not_eq_true'] at hb
  exact .inl ⟨hb.1, v, h, fun hl => (by rw [hb.2] at hl; cases hl), hk⟩
theorem FxM.moves {n : Nat} {B : List Nat} {Kn : ANext} {i : Nat} {rest : List Nat} {a : AA} {st : St} {R : AV → St → Prop} (hb : B.contains i = true) (h : Moves E r ops Q i R a st) (hk : ∀ v st', R v st' → FxM E r ops Q n B Kn rest (a.put ((ops[i]?).bind (·.dst)) v) st') : FxM E r ops Q n B Kn (i :: rest) a st := .inr ⟨hb, R, h, hk⟩
theorem Moves.of {i : Nat} {o : Oper} {R : AV → St → Prop} {a : AA} {st : St} (hi : ops[i]? = some o) (hg : o.guard = none) (h : ∀ a' (Kn : ANext), Same ops o a' a → (∀ v st', R v st' → Kn (a'.put o.dst v) st') → AOp E r o Kn Q a' st) : Moves E r ops Q i R a st :=
  ⟨o, hi, fun a' rest hs hk => AOps.cons hi hg (h a' _ hs hk)⟩
theorem aParts_congr {a a' : AA} : ∀ {l : List (Nat × Operand)} {k : Nat}, (∀ p ∈ l, a'.ev E p.2 = a.ev E p.2) → aParts E a' k l = aParts E a k l ∧ (partsC E a l → partsC E a' l)
  | [], k, _ => ⟨rfl, fun h => h⟩
  | (i, x) :: rest, k, h => by
    have h1 := h (i, x) (by simp)
    obtain ⟨h2, h3⟩ := aParts_congr (a := a) (a' := a') (l := rest) (k := k + 1) fun p hp => h p (by simp [hp])
    simp only [aParts, evU, h1, h2, partsC, evC]
    exact ⟨trivial, fun q => ⟨q.1, h3 q.2⟩⟩
theorem Moves.buildSlice {i : Nat} {o : Oper} {a : AA} {st : St} {t e : TypeId} {len sz : Nat} {parts : Array (Nat × Operand)} {es : List (List AV)} (hi : ops[i]? = some o) (hg : o.guard = none) (ho : o.op = .buildSlice t len parts) (ht : E.P.underlying t = some (.slice e)) (hz : tsz E.P e = some sz) (hzz : hasZero E.P e = some sz)
    (hc : partsC E a parts.toList) (hp : aParts E a 0 parts.toList = some es) (hes : ∀ e ∈ es, e.length = sz) (hlen : es.length = len) (hpos : 0 < sz) (hlim : len * sz ≤ 16777216) :
    Moves E r ops Q i (fun v st' => ∃ id, st id = none ∧ v = .arr id 0 sz 0 len ∧ st' = st.set id (.cells e 0 sz es)) a st :=
  Moves.of hi hg fun a' Kn hs hk => by
    obtain ⟨h1, h2⟩ := aParts_congr (E := E) (a := a) (a' := a') (l := parts.toList) (k := 0) fun p hp => same_get hs p.2 (by rw [ho]; simp only [Op.operands, Array.toList_map, List.mem_map]; exact ⟨p, hp, rfl⟩)
    exact AOp.buildSlice ho ht hz hzz (h2 hc) (by rw [h1]; exact hp) hes hlen hpos hlim fun id hid => hk _ _ ⟨id, hid, rfl, rfl⟩
theorem Moves.appendE {i : Nat} {o : Oper} {a : AA} {β σ : St} {v : AV} {es : List (List AV)} {t e : TypeId} {x y : Operand} {sz by_ it : Nat} {xs : List (List AV)} {n : Nat} (hi : ops[i]? = some o) (hg : o.guard = none) (ho : o.op = .call { callee := .builtin .append, args := #[x, y], argTypes := #[t, t] })
    (hs : a.ev E x = v) (hye : a.ev E y = .arr it 0 sz 0 n) (ht : E.P.underlying t = some (.slice e)) (hz : tsz E.P e = some sz) (hzz : hasZero E.P e = some sz) (hb : tby E.P e = some by_) (hpos : 0 < sz)
    (h : SW β e sz v σ es) (hit : σ it = none) (hn : xs.length = n) (hone : ∀ e ∈ xs, ∀ c ∈ e, isCell c = true)
    (hlim : (es.length + n) * by_ ≤ 140737488355328) (hlim2 : es.length + n ≤ maxLen) (hne : xs ≠ []) : Moves E r ops Q i (fun v' σ' => SW β e sz v' σ' (es ++ xs)) a (σ.set it (.cells e 0 sz xs)) :=
  Moves.of hi hg fun a' Kn hsm hk => by
    have hx := same_get (E := E) hsm x (by rw [ho]; simp [Op.operands, Call.operands])
    have hy := same_get (E := E) hsm y (by rw [ho]; simp [Op.operands, Call.operands])
    exact AOp.appendE ho (by rw [hx]; exact hs) (by rw [hy]; exact hye) ht hz hzz hb hpos h hit hn hone hlim hlim2 hne hk
theorem Moves.call {i : Nat} {o : Oper} {a : AA} {st : St} {R : AV → St → Prop} {x : Operand} {f : FuncId} {fi ca : List AV} {args : Array Operand} {tys : Array TypeId} (hi : ops[i]? = some o) (hg : o.guard = none)
    (ho : o.op = .call { callee := .value x, args := args, argTypes := tys }) (hx : evU E a x = .clo (.func f) fi ca) (hcs : evCs E a (x :: args.toList)) (hb : hasBody E.P f = true)
    (h : ACalls E f (fi ++ args.toList.map (evU E a) ++ ca) st fun e st' => ∃ v, e = .ret v ∧ R v st') : Moves E r ops Q i R a st :=
  Moves.of hi hg fun a' Kn hs hk => by
    obtain ⟨e1, e2, e3⟩ := ev_congr (E := E) hs ho
    refine AOp.call ho (by rw [e1, hx]) (e3 hcs) hb (ACalls.mono (by rw [e2]; exact h) ?_)
    rintro e st' ⟨v, rfl, hR⟩
    exact hk v st' hR
attribute [go_sem] FxMC
end
end Go.Abs

/- THE ABSTRACT MEMORY (part 34): a guarded load, in the text's order. -/
namespace Go.Abs
open Go.RowKit
section
variable {E : Env} {r : Option Nat} {Q : APost} {ops : Array Oper}
theorem AOps.guard_loadCell {i : Nat} {rest : List Nat} {o : Oper} {a : AA} {st : St} {t t0 : TypeId} {x : Operand} {id g sz k f : Nat} {es : List (List AV)} {j d : Nat} {want gg : Bool} (hi : ops[i]? = some o) (hg : o.guard = some (j, want)) (hd : (ops[j]?).bind (·.dst) = some d) (hy : agd (a.get d) want = some gg)
    (ho : o.op = .load t x) (hx : gg = true → evU E a x = .ptr id g k f) (hcs : gg = true → evC E a x) (hst : st id = some (.cells t0 g sz es)) (hag : aggT E.P t = some false) (hk : gg = true → k < es.length) (hf : f < sz)
    (hk' : AOps E r ops Q rest (a.put ((ops[i]?).bind (·.dst)) (.opt gg ((es.getD k []).getD f .junk))) st) : AOps E r ops Q (i :: rest) a st := by
  rw [hi] at hk'
  refine AOps.guard hi hg hd hy (fun e => ?_) (fun e => by subst e; exact AOps.putMono (fun κ cv h => VR_opt_false h) hk')
  subst e
  exact AOp.loadCell ho (hx rfl) (hcs rfl) hst hag (hk rfl) hf (AOps.putMono (fun κ cv h => VR_opt_true h) hk')
end
end Go.Abs

/- THE ABSTRACT MEMORY (part 32): what variables of the library hold; contracts that read them. -/
namespace Go.Abs
open Go.RowKit
section
variable {E : Env} {κ : K} {st : St} {w : World}
theorem ACalls.of_callsR {f : FuncId} {args : List AV} {cargs : Array Value} {v : AV} {cv : Value} (hargs : ∀ κ c, VRs κ args c → c = cargs.toList) (hv : ∀ κ, VR κ v cv)
    (h : ∀ κ w, Rel E κ st w → Calls E.P f cargs w fun e w' => e = .returned cv ∧ Below w.heap.size w w') : ACalls E f args st fun e st' => st' = st ∧ e = .ret v := by
  intro κ w cs hR ha
  have e : cs = cargs := by
    have := hargs κ _ ha
    exact Array.toList_inj.1 this
  subst e
  refine CallsIn.mono (callsIn_wide.2 (h κ w hR)) ?_
  rintro e w' ⟨rfl, hb⟩
  exact ⟨κ, .ret v, st, K.Le.refl κ, hR.below hb, ⟨cv, rfl, hv κ⟩, rfl, rfl⟩
end
end Go.Abs

/- THE ABSTRACT MEMORY (part 30): the rounds of 'for .. := range f', seen from f: what is handed to it. -/
namespace Go.Abs
open Go.RowKit
def YieldsTo (E : Env) (l : Nat) (args : List AV) (st : St) (R : AV → St → Prop) : Prop :=
  ∃ s pend fn tm ps assign body d, st l = some (.loop s pend fn tm ps assign body d) ∧ args.length = ps.size ∧
    AW E (some l) assign (AThen (fun a1 st1 => ∃ pend fn tm ps assign' body' d, st1 l = some (.loop .ready pend fn tm ps assign' body' d) ∧
        AW E (some l) body (ARound l R) a1 (st1.set l (.loop .busy pend fn tm ps assign' body' d))) (fun _ _ _ => False))
      { tm := bindTm tm ps.toList args, ds := [] } st
section
variable {E : Env} {st : St} {a : AA} {r : Option Nat} {Q : APost} {Kn : ANext} {o : Oper}
theorem AOp.yields {x : Operand} {args : Array Operand} {tys : Array TypeId} {l : Nat} {vs : List AV} {R : AV → St → Prop}
    (ho : o.op = .call { callee := .value x, args := args, argTypes := tys }) (hx : evU E a x = .yld l) (hcs : evCs E a (x :: args.toList)) (hv : args.toList.map (evU E a) = vs) (h : YieldsTo E l vs st R)
    (hk : ∀ v st', R v st' → Kn (a.put o.dst v) st') : AOp E r o Kn Q a st := by
  obtain ⟨s, pend, fn, tm, ps, assign, body, d, h1, h2, h3⟩ := h
  subst hv
  exact AOp.yieldI R ho hx hcs h1 (by simpa using h2) hk h3
structure Taker (E : Env) (l : Nat) {α : Type} (enc : α → List AV) (adm : α → Prop) (lim : Nat) (own : Nat → Prop) (J : St → List α → St → Prop) : Prop where
  keep : ∀ {β d σ}, J β d σ → ∀ i, β i ≠ none → ¬ own i → σ i = β i
  fresh : ∀ {β d σ}, J β d σ → ∀ i, σ i = none → β i = none ∧ ¬ own i
  base : ∀ {β d σ}, J β d σ → ∀ id, σ id = none → ∀ B, J (β.set id B) d (σ.set id B)
  take : ∀ {β d σ}, J β d σ → d.length < lim → ∀ x, adm x → YieldsTo E l (enc x) σ fun v σ' => v = .bool true ∧ J β (d ++ [x]) σ'
end
end Go.Abs
