/- Numbers and texts as bytes: signed numbers, texts, the check sum. -/
import Derived.Test.YtphbhmocgihfeaaC3
import Derived.Test.YtphbhmocgihfeaaC4
namespace Go.Almanac
open Go.RowKit Go.Proofs Go.Abs

set_option linter.unusedSimpArgs false
set_option linter.unusedVariables false
set_option linter.unusedSectionVars false
set_option maxRecDepth 10000

def uns (x : Int) : Nat := if x < 0 then (-2 * x - 1).toNat else (2 * x).toNat
theorem uns_bits {x : Int} (h0 : -9223372036854775808 ≤ x) (h1 : x ≤ 9223372036854775807) :
    IntKind.u64.wrap (ibits .xor .i64 (IntKind.i64.wrap (x * 2 ^ min (Int.toNat 1) 64)) (x.fdiv (2 ^ min (Int.toNat 63) 64))) = (uns x : Int) := by
  rw [show (2 : Int) ^ min (Int.toNat 1) 64 = 2 from rfl, show (2 : Int) ^ min (Int.toNat 63) 64 = 9223372036854775808 from rfl, Int.fdiv_eq_ediv_of_nonneg _ (by omega), uns]
  have hb : -9223372036854775808 ≤ IntKind.i64.wrap (x * 2) ∧ IntKind.i64.wrap (x * 2) ≤ 9223372036854775807 ∧ (IntKind.i64.wrap (x * 2) = x * 2 ∨ IntKind.i64.wrap (x * 2) = x * 2 - 18446744073709551616 ∨ IntKind.i64.wrap (x * 2) = x * 2 + 18446744073709551616) := by
    simp only [IntKind.wrap, IntKind.signed, IntKind.bits]; simp; split <;> omega
  obtain ⟨b1, b2, b3⟩ := hb
  split
  · rename_i h
    rw [show x / 9223372036854775808 = -1 from by omega, ibits_xor_i64_1 b1 b2]
    simp only [IntKind.wrap, IntKind.signed, IntKind.bits] at b1 b2 b3 ⊢; simp at b1 b2 b3 ⊢; omega
  · rename_i h
    rw [show x / 9223372036854775808 = 0 from by omega, ibits_xor_i64_0 b1 b2]
    simp only [IntKind.wrap, IntKind.signed, IntKind.bits] at b1 b2 b3 ⊢; simp at b1 b2 b3 ⊢; omega
theorem uns_lt {x : Int} (h0 : -9223372036854775808 ≤ x) (h1 : x ≤ 9223372036854775807) : uns x < 2 ^ 64 := by
  unfold uns; split <;> omega

theorem code_Signed (x : Int) (h0 : -9223372036854775808 ≤ x) (h1 : x ≤ 9223372036854775807) (st : St) : ACalls Ev 9 [.int .i64 x] st (fun e st' => st' = st ∧ e = .ret (.str (num (uns x)))) := by
  refine ACalls.of_body Try.func9 rfl ?_
  rw [Try.ntmps9]
  simp only [List.length_cons, List.length_nil, Nat.reduceAdd, Nat.reduceSub, List.replicate_succ, List.replicate_zero, List.cons_append, List.nil_append]
  (repeat' (first | refine AW.seq ?_ | refine AW.scope ?_ | refine AW.label ?_ | refine AW.block ?_ | refine AW.skip ?_ | refine AW.exit ?_ | refine AW.ret ?_ | (refine AW.regionC fun Q' Kn hQ hK hK' => ?_; simp (disch := omega) only [go_sem, Nat.reduceAdd, w_i64, w_u64, w_u8, w_u32, w_i32]; (try simp (disch := omega) only [go_sem, Nat.reduceAdd, w_i64, w_u64, w_u8, w_u32, w_i32]); (repeat' refine And.intro ?_ ?_); (try any_goals (first | (refine hK _ _ ?_; clear hK' hQ hK Q' Kn) | (simp; done) | omega | (simp only [List.length_append, List.length_cons, List.length_nil]; omega)))) | (refine AW.cond (by simp (disch := omega) only [go_sem, Nat.reduceAdd, w_i64, w_u64, w_u8, w_u32, w_i32]; rfl) (fun hb => ?_) (fun hb => ?_) <;> (try simp only [Bool.or_eq_true, Bool.and_eq_true, Bool.or_eq_false_iff, Bool.and_eq_false_iff, decide_eq_true_eq, decide_eq_false_iff_not, beq_iff_eq, bne_iff_ne, Bool.not_eq_true', beq_eq_false_iff_ne, bne_eq_false_iff_eq, ne_eq, Bool.not_eq_false', Bool.true_eq_false, Bool.false_eq_true, Bool.false_or, Bool.true_or, Bool.false_and, Bool.true_and, false_or, or_false, true_and, and_true] at hb))))
  refine AOp.call rfl (by simp only [go_sem]; rfl) (by simp [go_sem]) rfl (ACalls.mono (by simp only [go_sem]; rw [uns_bits h0 h1]; exact code_Number (uns x) (uns_lt h0 h1) st) ?_)
  rintro e st' ⟨rfl, rfl⟩
  (refine AOpsC_ok hK' _ _ _ ?_; simp (disch := omega) only [go_sem, Nat.reduceAdd, w_i64, w_u64, w_u8, w_u32, w_i32]; (try simp (disch := omega) only [go_sem, Nat.reduceAdd, w_i64, w_u64, w_u8, w_u32, w_i32]); (repeat' refine And.intro ?_ ?_); (try any_goals (first | (refine hK _ _ ?_; clear hK' hQ hK Q' Kn) | (simp; done) | omega | (simp only [List.length_append, List.length_cons, List.length_nil]; omega))))
  (repeat' (first | refine AW.seq ?_ | refine AW.scope ?_ | refine AW.label ?_ | refine AW.block ?_ | refine AW.skip ?_ | refine AW.exit ?_ | refine AW.ret ?_ | (refine AW.regionC fun Q' Kn hQ hK hK' => ?_; simp (disch := omega) only [go_sem, Nat.reduceAdd, w_i64, w_u64, w_u8, w_u32, w_i32]; (try simp (disch := omega) only [go_sem, Nat.reduceAdd, w_i64, w_u64, w_u8, w_u32, w_i32]); (repeat' refine And.intro ?_ ?_); (try any_goals (first | (refine hK _ _ ?_; clear hK' hQ hK Q' Kn) | (simp; done) | omega | (simp only [List.length_append, List.length_cons, List.length_nil]; omega)))) | (refine AW.cond (by simp (disch := omega) only [go_sem, Nat.reduceAdd, w_i64, w_u64, w_u8, w_u32, w_i32]; rfl) (fun hb => ?_) (fun hb => ?_) <;> (try simp only [Bool.or_eq_true, Bool.and_eq_true, Bool.or_eq_false_iff, Bool.and_eq_false_iff, decide_eq_true_eq, decide_eq_false_iff_not, beq_iff_eq, bne_iff_ne, Bool.not_eq_true', beq_eq_false_iff_ne, bne_eq_false_iff_eq, ne_eq, Bool.not_eq_false', Bool.true_eq_false, Bool.false_eq_true, Bool.false_or, Bool.true_or, Bool.false_and, Bool.true_and, false_or, or_false, true_and, and_true] at hb))))
  (refine ⟨_, _, rfl, by simp, ?_⟩; simp only [aTup, AA.get, List.getD_cons_zero, List.getD_cons_succ, true_and])

theorem code_Text (s : List UInt8) (hs : s.length ≤ 9223372036854775000) (st : St) : ACalls Ev 11 [.str s] st (fun e st' => st' = st ∧ e = .ret (.str (num s.length ++ s))) := by
  have hl := num_length 10 s.length (by omega) (by omega)
  refine ACalls.of_body Try.func11 rfl ?_
  rw [Try.ntmps11]
  simp only [List.length_cons, List.length_nil, Nat.reduceAdd, Nat.reduceSub, List.replicate_succ, List.replicate_zero, List.cons_append, List.nil_append]
  (repeat' (first | refine AW.seq ?_ | refine AW.scope ?_ | refine AW.label ?_ | refine AW.block ?_ | refine AW.skip ?_ | refine AW.exit ?_ | refine AW.ret ?_ | (refine AW.regionC fun Q' Kn hQ hK hK' => ?_; simp (disch := omega) only [go_sem, Nat.reduceAdd, w_i64, w_u64, w_u8, w_u32, w_i32]; (try simp (disch := omega) only [go_sem, Nat.reduceAdd, w_i64, w_u64, w_u8, w_u32, w_i32]); (repeat' refine And.intro ?_ ?_); (try any_goals (first | (refine hK _ _ ?_; clear hK' hQ hK Q' Kn) | (simp; done) | omega | (simp only [List.length_append, List.length_cons, List.length_nil]; omega)))) | (refine AW.cond (by simp (disch := omega) only [go_sem, Nat.reduceAdd, w_i64, w_u64, w_u8, w_u32, w_i32]; rfl) (fun hb => ?_) (fun hb => ?_) <;> (try simp only [Bool.or_eq_true, Bool.and_eq_true, Bool.or_eq_false_iff, Bool.and_eq_false_iff, decide_eq_true_eq, decide_eq_false_iff_not, beq_iff_eq, bne_iff_ne, Bool.not_eq_true', beq_eq_false_iff_ne, bne_eq_false_iff_eq, ne_eq, Bool.not_eq_false', Bool.true_eq_false, Bool.false_eq_true, Bool.false_or, Bool.true_or, Bool.false_and, Bool.true_and, false_or, or_false, true_and, and_true] at hb))))
  refine AOp.call rfl (by simp only [go_sem]; rfl) (by simp [go_sem]) rfl (ACalls.mono (by simp only [go_sem]; exact code_Number s.length (by omega) st) ?_)
  rintro e st' ⟨rfl, rfl⟩
  (refine AOpsC_ok hK' _ _ _ ?_; simp (disch := omega) only [go_sem, Nat.reduceAdd, w_i64, w_u64, w_u8, w_u32, w_i32]; (try simp (disch := omega) only [go_sem, Nat.reduceAdd, w_i64, w_u64, w_u8, w_u32, w_i32]); (repeat' refine And.intro ?_ ?_); (try any_goals (first | (refine hK _ _ ?_; clear hK' hQ hK Q' Kn) | (simp; done) | omega | (simp only [List.length_append, List.length_cons, List.length_nil]; omega))))
  (repeat' (first | refine AW.seq ?_ | refine AW.scope ?_ | refine AW.label ?_ | refine AW.block ?_ | refine AW.skip ?_ | refine AW.exit ?_ | refine AW.ret ?_ | (refine AW.regionC fun Q' Kn hQ hK hK' => ?_; simp (disch := omega) only [go_sem, Nat.reduceAdd, w_i64, w_u64, w_u8, w_u32, w_i32]; (try simp (disch := omega) only [go_sem, Nat.reduceAdd, w_i64, w_u64, w_u8, w_u32, w_i32]); (repeat' refine And.intro ?_ ?_); (try any_goals (first | (refine hK _ _ ?_; clear hK' hQ hK Q' Kn) | (simp; done) | omega | (simp only [List.length_append, List.length_cons, List.length_nil]; omega)))) | (refine AW.cond (by simp (disch := omega) only [go_sem, Nat.reduceAdd, w_i64, w_u64, w_u8, w_u32, w_i32]; rfl) (fun hb => ?_) (fun hb => ?_) <;> (try simp only [Bool.or_eq_true, Bool.and_eq_true, Bool.or_eq_false_iff, Bool.and_eq_false_iff, decide_eq_true_eq, decide_eq_false_iff_not, beq_iff_eq, bne_iff_ne, Bool.not_eq_true', beq_eq_false_iff_ne, bne_eq_false_iff_eq, ne_eq, Bool.not_eq_false', Bool.true_eq_false, Bool.false_eq_true, Bool.false_or, Bool.true_or, Bool.false_and, Bool.true_and, false_or, or_false, true_and, and_true] at hb))))
  (refine ⟨_, _, rfl, by simp, ?_⟩; simp only [aTup, AA.get, List.getD_cons_zero, List.getD_cons_succ, true_and])

def c1 (c : Nat) : Nat := (c / 2) ^^^ (3988292384 * (c % 2))
def cN : Nat → Nat → Nat | 0, c => c | k + 1, c => cN k (c1 c)
def crcL : List UInt8 → Nat → Nat | [], c => c | x :: xs, c => crcL xs (cN 8 (c ^^^ x.toNat))
def crc (s : List UInt8) : Nat := 4294967295 ^^^ crcL s 4294967295

theorem c1_lt {c : Nat} (h : c < 2 ^ 32) : c1 c < 2 ^ 32 := Nat.xor_lt_two_pow (by omega) (by omega)
theorem c1_bits {c : Nat} (h : c < 2 ^ 32) : ibits .xor .u32 ((c : Int).fdiv (2 ^ min (Int.toNat 1) 32)) (IntKind.u32.wrap (3988292384 * ibits .and .u32 (c : Int) 1)) = ((c1 c : Nat) : Int) := by
  rw [and1_u32 h, show (2 : Int) ^ min (Int.toNat 1) 32 = 2 from rfl, Int.fdiv_eq_ediv_of_nonneg _ (by omega), w_u32 (by omega) (by omega)]
  have := (ibits_u32 (a := c / 2) (b := 3988292384 * (c % 2)) (by omega) (by omega)).2.2
  rw [c1, ← this]; congr 1 
theorem cx_bits {c : Nat} (h : c < 2 ^ 32) (x : UInt8) : ibits .xor .u32 (c : Int) (x.toNat : Int) = ((c ^^^ x.toNat : Nat) : Int) ∧ c ^^^ x.toNat < 2 ^ 32 := by
  have : x.toNat < 256 := UInt8.toNat_lt _
  exact ⟨(ibits_u32 h (by omega)).2.2, Nat.xor_lt_two_pow h (by omega)⟩

theorem code_Crc (s : List UInt8) (hs : s.length ≤ 4611686018427387904) (st : St) : ACalls Ev 13 [.str s] st (fun e st' => st' = st ∧ e = .ret (.int .u32 (crc s))) := by
  refine ACalls.thaw (R' := fun e st' => st.sub st' ∧ e = .ret (.int .u32 (crc s))) ?_ (fun x st1 h => ⟨1, st, h.1, rfl, by rw [h.2]; rfl⟩)
  refine ACalls.of_body Try.func13 rfl ?_
  rw [Try.ntmps13]
  simp only [List.length_cons, List.length_nil, Nat.reduceAdd, Nat.reduceSub, List.replicate_succ, List.replicate_zero, List.cons_append, List.nil_append]
  (repeat' (first | refine AW.seq ?_ | refine AW.scope ?_ | refine AW.label ?_ | refine AW.block ?_ | refine AW.skip ?_ | refine AW.exit ?_ | refine AW.ret ?_ | (refine AW.regionC fun Q' Kn hQ hK hK' => ?_; simp (disch := omega) only [go_sem, Nat.reduceAdd, w_i64, w_u64, w_u8, w_u32, w_i32]; (try simp (disch := omega) only [go_sem, Nat.reduceAdd, w_i64, w_u64, w_u8, w_u32, w_i32]); (repeat' refine And.intro ?_ ?_); (try any_goals (first | (refine hK _ _ ?_; clear hK' hQ hK Q' Kn) | (simp; done) | omega | (simp only [List.length_append, List.length_cons, List.length_nil]; omega)))) | (refine AW.cond (by simp (disch := omega) only [go_sem, Nat.reduceAdd, w_i64, w_u64, w_u8, w_u32, w_i32]; rfl) (fun hb => ?_) (fun hb => ?_) <;> (try simp only [Bool.or_eq_true, Bool.and_eq_true, Bool.or_eq_false_iff, Bool.and_eq_false_iff, decide_eq_true_eq, decide_eq_false_iff_not, beq_iff_eq, bne_iff_ne, Bool.not_eq_true', beq_eq_false_iff_ne, bne_eq_false_iff_eq, ne_eq, Bool.not_eq_false', Bool.true_eq_false, Bool.false_eq_true, Bool.false_or, Bool.true_or, Bool.false_and, Bool.true_and, false_or, or_false, true_and, and_true] at hb))))
  refine AOp.toBytes (s := s) (e := 5) (by rfl) (by simp [go_sem]) (by rfl) (by rfl) (by rfl) (by simp only [go_sem]) (by simp only [maxLen]; omega) fun ib hib => ?_
  (refine AOpsC_ok hK' _ _ _ ?_; simp (disch := omega) only [go_sem, Nat.reduceAdd, w_i64, w_u64, w_u8, w_u32, w_i32]; (try simp (disch := omega) only [go_sem, Nat.reduceAdd, w_i64, w_u64, w_u8, w_u32, w_i32]); (repeat' refine And.intro ?_ ?_); (try any_goals (first | (refine hK _ _ ?_; clear hK' hQ hK Q' Kn) | (simp; done) | omega | (simp only [List.length_append, List.length_cons, List.length_nil]; omega))))
  (repeat' (first | refine AW.seq ?_ | refine AW.scope ?_ | refine AW.label ?_ | refine AW.block ?_ | refine AW.skip ?_ | refine AW.exit ?_ | refine AW.ret ?_ | (refine AW.regionC fun Q' Kn hQ hK hK' => ?_; simp (disch := omega) only [go_sem, Nat.reduceAdd, w_i64, w_u64, w_u8, w_u32, w_i32]; (try simp (disch := omega) only [go_sem, Nat.reduceAdd, w_i64, w_u64, w_u8, w_u32, w_i32]); (repeat' refine And.intro ?_ ?_); (try any_goals (first | (refine hK _ _ ?_; clear hK' hQ hK Q' Kn) | (simp; done) | omega | (simp only [List.length_append, List.length_cons, List.length_nil]; omega)))) | (refine AW.cond (by simp (disch := omega) only [go_sem, Nat.reduceAdd, w_i64, w_u64, w_u8, w_u32, w_i32]; rfl) (fun hb => ?_) (fun hb => ?_) <;> (try simp only [Bool.or_eq_true, Bool.and_eq_true, Bool.or_eq_false_iff, Bool.and_eq_false_iff, decide_eq_true_eq, decide_eq_false_iff_not, beq_iff_eq, bne_iff_ne, Bool.not_eq_true', beq_eq_false_iff_ne, bne_eq_false_iff_eq, ne_eq, Bool.not_eq_false', Bool.true_eq_false, Bool.false_eq_true, Bool.false_or, Bool.true_or, Bool.false_and, Bool.true_and, false_or, or_false, true_and, and_true] at hb))))
  refine AW.loopF (fun x : Nat × Nat => [.junk, .junk, .junk, .int .u32 x.2, .junk, .junk, .junk, .arr ib 0 1 0 s.length, .int .i64 s.length, .int .i64 x.1, .junk, .junk, .junk, .junk, .junk, .junk, .junk, .junk, .junk, .junk, .junk, .junk, .junk, .junk, .junk, .junk, .junk, .junk, .junk]) (fun _ => st.set ib (.cells 0 1 (bytesE s)))
    (fun x => x.1 ≤ s.length ∧ x.2 < 2 ^ 32 ∧ crcL (s.drop x.1) x.2 = crcL s 4294967295) (fun x => s.length - x.1) (0, 4294967295) ?_ rfl ?_ ?_
  · (repeat (first | exact Weak.nil | refine Weak.junk _ ?_ | refine Weak.same _ ?_ | refine Weak.eqv (by (congr 1; omega)) ?_))
  · exact ⟨by simp, by simp, by simp⟩
  rintro ⟨i, c⟩ ⟨h1, h2, h3⟩
  dsimp only at h1 h2 h3 ⊢
  (repeat' (first | refine AW.seq ?_ | refine AW.scope ?_ | refine AW.label ?_ | refine AW.block ?_ | refine AW.skip ?_ | refine AW.exit ?_ | refine AW.ret ?_ | (refine AW.regionC fun Q' Kn hQ hK hK' => ?_; simp (disch := omega) only [go_sem, Nat.reduceAdd, w_i64, w_u64, w_u8, w_u32, w_i32]; (try simp (disch := omega) only [go_sem, Nat.reduceAdd, w_i64, w_u64, w_u8, w_u32, w_i32]); (repeat' refine And.intro ?_ ?_); (try any_goals (first | (refine hK _ _ ?_; clear hK' hQ hK Q' Kn) | (simp; done) | omega | (simp only [List.length_append, List.length_cons, List.length_nil]; omega)))) | (refine AW.cond (by simp (disch := omega) only [go_sem, Nat.reduceAdd, w_i64, w_u64, w_u8, w_u32, w_i32]; rfl) (fun hb => ?_) (fun hb => ?_) <;> (try simp only [Bool.or_eq_true, Bool.and_eq_true, Bool.or_eq_false_iff, Bool.and_eq_false_iff, decide_eq_true_eq, decide_eq_false_iff_not, beq_iff_eq, bne_iff_ne, Bool.not_eq_true', beq_eq_false_iff_ne, bne_eq_false_iff_eq, ne_eq, Bool.not_eq_false', Bool.true_eq_false, Bool.false_eq_true, Bool.false_or, Bool.true_or, Bool.false_and, Bool.true_and, false_or, or_false, true_and, and_true] at hb))))
  · refine AOp.loadCell rfl (by simp only [go_sem]; rfl) (by simp [go_sem]) (St.set_same _ _ _) rfl (by simp; omega) (by decide) ?_
    have hg : ((bytesE s).getD (0 + ((i : Int)).toNat) []).getD 0 AV.junk = .int .u8 ((s.getD i 0).toNat : Int) := by
      rw [Int.toNat_natCast, Nat.zero_add]
      simp [bytesE, List.getD, List.getElem?_eq_getElem (show i < s.length from by omega)]
    rw [hg]
    have hx := cx_bits h2 (s.getD i 0)
    have hb8 : (s.getD i 0).toNat < 256 := UInt8.toNat_lt _
    (refine AOpsC_ok hK' _ _ _ ?_; simp (disch := omega) only [go_sem, Nat.reduceAdd, w_i64, w_u64, w_u8, w_u32, w_i32]; (try simp (disch := omega) only [go_sem, Nat.reduceAdd, w_i64, w_u64, w_u8, w_u32, w_i32]); (repeat' refine And.intro ?_ ?_); (try any_goals (first | (refine hK _ _ ?_; clear hK' hQ hK Q' Kn) | (simp; done) | omega | (simp only [List.length_append, List.length_cons, List.length_nil]; omega))))
    (repeat' (first | refine AW.seq ?_ | refine AW.scope ?_ | refine AW.label ?_ | refine AW.block ?_ | refine AW.skip ?_ | refine AW.exit ?_ | refine AW.ret ?_ | (refine AW.regionC fun Q' Kn hQ hK hK' => ?_; simp (disch := omega) only [go_sem, Nat.reduceAdd, w_i64, w_u64, w_u8, w_u32, w_i32]; (try simp (disch := omega) only [go_sem, Nat.reduceAdd, w_i64, w_u64, w_u8, w_u32, w_i32]); (repeat' refine And.intro ?_ ?_); (try any_goals (first | (refine hK _ _ ?_; clear hK' hQ hK Q' Kn) | (simp; done) | omega | (simp only [List.length_append, List.length_cons, List.length_nil]; omega)))) | (refine AW.cond (by simp (disch := omega) only [go_sem, Nat.reduceAdd, w_i64, w_u64, w_u8, w_u32, w_i32]; rfl) (fun hb => ?_) (fun hb => ?_) <;> (try simp only [Bool.or_eq_true, Bool.and_eq_true, Bool.or_eq_false_iff, Bool.and_eq_false_iff, decide_eq_true_eq, decide_eq_false_iff_not, beq_iff_eq, bne_iff_ne, Bool.not_eq_true', beq_eq_false_iff_ne, bne_eq_false_iff_eq, ne_eq, Bool.not_eq_false', Bool.true_eq_false, Bool.false_eq_true, Bool.false_or, Bool.true_or, Bool.false_and, Bool.true_and, false_or, or_false, true_and, and_true] at hb))))
    rw [hx.1]
    refine AW.loopF (fun x : Nat × Nat => [.junk, .junk, .junk, .int .u32 x.2, .junk, .junk, .junk, .arr ib 0 1 0 s.length, .int .i64 s.length, .int .i64 i, .junk, .junk, .junk, .junk, .junk, .junk, .junk, .int .i64 x.1, .junk, .junk, .junk, .junk, .junk, .junk, .junk, .junk, .junk, .junk, .junk]) (fun _ => st.set ib (.cells 0 1 (bytesE s)))
      (fun x => x.1 ≤ 8 ∧ x.2 < 2 ^ 32 ∧ cN (8 - x.1) x.2 = cN 8 (c ^^^ (s.getD i 0).toNat)) (fun x => 8 - x.1) (0, c ^^^ (s.getD i 0).toNat) ?_ rfl ?_ ?_
    · (repeat (first | exact Weak.nil | refine Weak.junk _ ?_ | refine Weak.same _ ?_ | refine Weak.eqv (by (congr 1; omega)) ?_))
    · exact ⟨by simp, hx.2, by simp⟩
    rintro ⟨k, e⟩ ⟨g1, g2, g3⟩
    dsimp only at g1 g2 g3 ⊢
    (repeat' (first | refine AW.seq ?_ | refine AW.scope ?_ | refine AW.label ?_ | refine AW.block ?_ | refine AW.skip ?_ | refine AW.exit ?_ | refine AW.ret ?_ | (refine AW.regionC fun Q' Kn hQ hK hK' => ?_; simp (disch := omega) only [go_sem, Nat.reduceAdd, w_i64, w_u64, w_u8, w_u32, w_i32]; (try simp (disch := omega) only [go_sem, Nat.reduceAdd, w_i64, w_u64, w_u8, w_u32, w_i32]); (repeat' refine And.intro ?_ ?_); (try any_goals (first | (refine hK _ _ ?_; clear hK' hQ hK Q' Kn) | (simp; done) | omega | (simp only [List.length_append, List.length_cons, List.length_nil]; omega)))) | (refine AW.cond (by simp (disch := omega) only [go_sem, Nat.reduceAdd, w_i64, w_u64, w_u8, w_u32, w_i32]; rfl) (fun hb => ?_) (fun hb => ?_) <;> (try simp only [Bool.or_eq_true, Bool.and_eq_true, Bool.or_eq_false_iff, Bool.and_eq_false_iff, decide_eq_true_eq, decide_eq_false_iff_not, beq_iff_eq, bne_iff_ne, Bool.not_eq_true', beq_eq_false_iff_ne, bne_eq_false_iff_eq, ne_eq, Bool.not_eq_false', Bool.true_eq_false, Bool.false_eq_true, Bool.false_or, Bool.true_or, Bool.false_and, Bool.true_and, false_or, or_false, true_and, and_true] at hb))))
    · rw [c1_bits g2]
      refine ⟨(k + 1, c1 e), ⟨by omega, c1_lt g2, ?_⟩, by dsimp only; omega, ?_, rfl, rfl⟩
      · rw [← g3]
        obtain ⟨j, hj⟩ : ∃ j, 8 - k = j + 1 := ⟨7 - k, by omega⟩
        dsimp only
        rw [hj, show 8 - (k + 1) = j from by omega, cN]
      · dsimp only
        (repeat (first | exact Weak.nil | refine Weak.junk _ ?_ | refine Weak.same _ ?_ | refine Weak.eqv (by (congr 1; omega)) ?_))
    · have hk : k = 8 := by omega
      subst hk
      refine ⟨(i + 1, e), ⟨by omega, g2, ?_⟩, by dsimp only; omega, ?_, rfl, rfl⟩
      · dsimp only
        rw [← h3, drop_cons (s := s) (n := i) (by omega), crcL, ← g3]
        rfl
      · dsimp only
        (repeat (first | exact Weak.nil | refine Weak.junk _ ?_ | refine Weak.same _ ?_ | refine Weak.eqv (by (congr 1; omega)) ?_))
  · have hi : i = s.length := by omega
    subst hi
    (refine ⟨_, _, rfl, by simp, ?_⟩; simp only [aTup, AA.get, List.getD_cons_zero, List.getD_cons_succ, true_and])
    refine ⟨St.sub_set (St.sub_refl st) hib _, ?_⟩
    have := (ibits_u32 (a := 4294967295) (b := c) (by omega) h2).2.2
    rw [List.drop_length, crcL] at h3
    rw [crc, ← h3, ← this]
    rfl

end Go.Almanac
