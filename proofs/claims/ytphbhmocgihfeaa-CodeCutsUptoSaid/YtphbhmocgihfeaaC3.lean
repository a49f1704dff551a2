/- Numbers and texts as bytes: reading signed numbers and texts. -/
import Derived.Test.YtphbhmocgihfeaaB2
import Derived.Test.YtphbhmocgihfeaaC2
namespace Go.Almanac
open Go.RowKit Go.Proofs Go.Abs

set_option linter.unusedSimpArgs false
set_option linter.unusedVariables false
set_option linter.unusedSectionVars false
set_option maxRecDepth 10000

theorem rdn_end : ∀ (cs : List UInt8) (k n : Nat), k ≤ 9 → n < 2 ^ (7 * k) → (rdn cs k n).1 < 2 ^ 64 ∧ (rdn cs k n).2.1 ≤ cs.length + k
  | [], k, n, _, _ => by simp [rdn]
  | c :: cs, k, n, hk, hn => by
    unfold rdn
    split
    · simp
    · rename_i h9
      have hb8 : c.toNat < 256 := UInt8.toNat_lt _
      split
      · have hg := group (m := c.toNat % 128) hn hk (by omega) (by omega)
        have hk8 : k ≤ 8 := by omega
        have := rdn_end cs (k + 1) (n + c.toNat % 128 * 2 ^ (7 * k)) (by omega) (hg.2.2 hk8)
        simp only [List.length_cons]; omega
      · split
        · simp
        · have hg := group (m := c.toNat % 128) hn hk (by omega) (by omega)
          simp only [List.length_cons]; omega

theorem readNumber_end (s : List UInt8) (i : Int) : (readNumber s i).1 < 2 ^ 64 ∧ ((readNumber s i).2.2 = 0 → 0 ≤ i ∧ i ≤ (readNumber s i).2.1) ∧ 0 ≤ (readNumber s i).2.1 ∧ (readNumber s i).2.1 ≤ s.length ∧ ((readNumber s i).2.2 ≠ 0 → (readNumber s i).1 = 0 ∧ (readNumber s i).2.1 = 0) ∧ (readNumber s i).2.2 ≤ 15 := by
  unfold readNumber
  have h := rdn_end (s.drop i.toNat) 0 0 (by omega) (by simp)
  split
  · simp
  · split
    · rename_i h2
      simp only [List.length_drop] at h
      refine ⟨h.1, fun _ => ⟨by omega, by dsimp only; omega⟩, ?_, ?_, fun h => absurd rfl h, by simp⟩ <;> dsimp only <;> omega
    · refine ⟨by simp, fun h => absurd h ‹_›, by simp, by simp, fun _ => ⟨rfl, rfl⟩, ?_⟩
      have : ∀ (cs : List UInt8) (k n : Nat), (rdn cs k n).2.2 ≤ 15 := by
        intro cs
        induction cs with
        | nil => intro k n; simp [rdn]
        | cons c cs ih => intro k n; unfold rdn; split <;> (try split) <;> (try split) <;> simp [ih]
      exact this _ _ _

/-- What ReadText answers. -/
def readText (s : List UInt8) (i : Int) : List UInt8 × Int × Nat :=
  if (readNumber s i).2.2 ≠ 0 then ([], 0, (readNumber s i).2.2)
  else if ((readNumber s i).1 : Int) > s.length - (readNumber s i).2.1 then ([], 0, 11)
  else ((s.drop (readNumber s i).2.1.toNat).take (readNumber s i).1, (readNumber s i).2.1 + (readNumber s i).1, 0)

/-- What ReadSigned answers. -/
def sgn (n : Nat) : Int := if n % 2 = 1 then -(n / 2 : Nat) - 1 else (n / 2 : Nat)
def readSigned (s : List UInt8) (i : Int) : Int × Int × Nat := (sgn (readNumber s i).1, (readNumber s i).2)

theorem code_ReadText (s : List UInt8) (i : Int) (hs : s.length ≤ 9223372036854775807) (st : St) : ACalls Ev 16 [.str s, .int .i64 i] st (fun e st' => st' = st ∧ e = .ret (.tup [.str (readText s i).1, .int .i64 (readText s i).2.1, .int .i64 (readText s i).2.2])) := by
  refine ACalls.of_body Try.func16 rfl ?_
  rw [Try.ntmps16]
  simp only [List.length_cons, List.length_nil, Nat.reduceAdd, Nat.reduceSub, List.replicate_succ, List.replicate_zero, List.cons_append, List.nil_append]
  (repeat' (first | refine AW.seq ?_ | refine AW.scope ?_ | refine AW.label ?_ | refine AW.block ?_ | refine AW.skip ?_ | refine AW.exit ?_ | refine AW.ret ?_ | (refine AW.regionC fun Q' Kn hQ hK hK' => ?_; simp (disch := omega) only [go_sem, Nat.reduceAdd, w_i64, w_u64, w_u8, w_u32, w_i32]; (try simp (disch := omega) only [go_sem, Nat.reduceAdd, w_i64, w_u64, w_u8, w_u32, w_i32]); (repeat' refine And.intro ?_ ?_); (try any_goals (first | (refine hK _ _ ?_; clear hK' hQ hK Q' Kn) | (simp; done) | omega | (simp only [List.length_append, List.length_cons, List.length_nil]; omega)))) | (refine AW.cond (by simp (disch := omega) only [go_sem, Nat.reduceAdd, w_i64, w_u64, w_u8, w_u32, w_i32]; rfl) (fun hb => ?_) (fun hb => ?_) <;> (try simp only [Bool.or_eq_true, Bool.and_eq_true, Bool.or_eq_false_iff, Bool.and_eq_false_iff, decide_eq_true_eq, decide_eq_false_iff_not, beq_iff_eq, bne_iff_ne, Bool.not_eq_true', beq_eq_false_iff_ne, bne_eq_false_iff_eq, ne_eq, Bool.not_eq_false', Bool.true_eq_false, Bool.false_eq_true, Bool.false_or, Bool.true_or, Bool.false_and, Bool.true_and, false_or, or_false, true_and, and_true] at hb))))
  refine AOp.call rfl (by simp only [go_sem]; rfl) (by simp [go_sem]) rfl (ACalls.mono (by simp only [go_sem]; exact code_ReadNumber s i hs st) ?_)
  rintro e st' ⟨rfl, rfl⟩
  have hE := readNumber_end s i
  (refine AOpsC_ok hK' _ _ _ ?_; simp (disch := omega) only [go_sem, Nat.reduceAdd, w_i64, w_u64, w_u8, w_u32, w_i32]; (try simp (disch := omega) only [go_sem, Nat.reduceAdd, w_i64, w_u64, w_u8, w_u32, w_i32]); (repeat' refine And.intro ?_ ?_); (try any_goals (first | (refine hK _ _ ?_; clear hK' hQ hK Q' Kn) | (simp; done) | omega | (simp only [List.length_append, List.length_cons, List.length_nil]; omega))))
  (repeat' (first | refine AW.seq ?_ | refine AW.scope ?_ | refine AW.label ?_ | refine AW.block ?_ | refine AW.skip ?_ | refine AW.exit ?_ | refine AW.ret ?_ | (refine AW.regionC fun Q' Kn hQ hK hK' => ?_; simp (disch := omega) only [go_sem, Nat.reduceAdd, w_i64, w_u64, w_u8, w_u32, w_i32]; (try simp (disch := omega) only [go_sem, Nat.reduceAdd, w_i64, w_u64, w_u8, w_u32, w_i32]); (repeat' refine And.intro ?_ ?_); (try any_goals (first | (refine hK _ _ ?_; clear hK' hQ hK Q' Kn) | (simp; done) | omega | (simp only [List.length_append, List.length_cons, List.length_nil]; omega)))) | (refine AW.cond (by simp (disch := omega) only [go_sem, Nat.reduceAdd, w_i64, w_u64, w_u8, w_u32, w_i32]; rfl) (fun hb => ?_) (fun hb => ?_) <;> (try simp only [Bool.or_eq_true, Bool.and_eq_true, Bool.or_eq_false_iff, Bool.and_eq_false_iff, decide_eq_true_eq, decide_eq_false_iff_not, beq_iff_eq, bne_iff_ne, Bool.not_eq_true', beq_eq_false_iff_ne, bne_eq_false_iff_eq, ne_eq, Bool.not_eq_false', Bool.true_eq_false, Bool.false_eq_true, Bool.false_or, Bool.true_or, Bool.false_and, Bool.true_and, false_or, or_false, true_and, and_true] at hb))))
  · (refine ⟨_, _, rfl, by simp, ?_⟩; simp only [aTup, AA.get, List.getD_cons_zero, List.getD_cons_succ, true_and])
    rw [readText, if_pos (by omega)]
  · (refine ⟨_, _, rfl, by simp, ?_⟩; simp only [aTup, AA.get, List.getD_cons_zero, List.getD_cons_succ, true_and])
    rw [readText, if_neg (by omega), if_pos (by omega)]; rfl
  · (refine ⟨_, _, rfl, by simp, ?_⟩; simp only [aTup, AA.get, List.getD_cons_zero, List.getD_cons_succ, true_and])
    rw [readText, if_neg (by omega), if_neg (by omega)]
    rw [show ((readNumber s i).2.1 + ((readNumber s i).1 : Int)).toNat - (readNumber s i).2.1.toNat = (readNumber s i).1 from by omega]
    rfl

theorem sgn_bits {n : Nat} (h : n < 2 ^ 64) : ibits .xor .i64 (IntKind.i64.wrap ((n : Int).fdiv 2)) (IntKind.i64.wrap (-IntKind.i64.wrap (ibits .and .u64 (n : Int) 1))) = sgn n := by
  rw [and1_u64 h, shr1_u64 h, w_i64 (n := ((n / 2 : Nat) : Int)) (by omega) (by omega), w_i64 (n := ((n % 2 : Nat) : Int)) (by omega) (by omega), w_i64 (by omega) (by omega), sgn]
  split
  · rw [show -((n % 2 : Nat) : Int) = -1 from by omega, ibits_xor_i64_1 (by omega) (by omega)]
  · rw [show -((n % 2 : Nat) : Int) = 0 from by omega, ibits_xor_i64_0 (by omega) (by omega)]

theorem code_ReadSigned (s : List UInt8) (i : Int) (hs : s.length ≤ 9223372036854775807) (st : St) : ACalls Ev 19 [.str s, .int .i64 i] st (fun e st' => st' = st ∧ e = .ret (.tup [.int .i64 (readSigned s i).1, .int .i64 (readSigned s i).2.1, .int .i64 (readSigned s i).2.2])) := by
  refine ACalls.of_body Try.func19 rfl ?_
  rw [Try.ntmps19]
  simp only [List.length_cons, List.length_nil, Nat.reduceAdd, Nat.reduceSub, List.replicate_succ, List.replicate_zero, List.cons_append, List.nil_append]
  (repeat' (first | refine AW.seq ?_ | refine AW.scope ?_ | refine AW.label ?_ | refine AW.block ?_ | refine AW.skip ?_ | refine AW.exit ?_ | refine AW.ret ?_ | (refine AW.regionC fun Q' Kn hQ hK hK' => ?_; simp (disch := omega) only [go_sem, Nat.reduceAdd, w_i64, w_u64, w_u8, w_u32, w_i32]; (try simp (disch := omega) only [go_sem, Nat.reduceAdd, w_i64, w_u64, w_u8, w_u32, w_i32]); (repeat' refine And.intro ?_ ?_); (try any_goals (first | (refine hK _ _ ?_; clear hK' hQ hK Q' Kn) | (simp; done) | omega | (simp only [List.length_append, List.length_cons, List.length_nil]; omega)))) | (refine AW.cond (by simp (disch := omega) only [go_sem, Nat.reduceAdd, w_i64, w_u64, w_u8, w_u32, w_i32]; rfl) (fun hb => ?_) (fun hb => ?_) <;> (try simp only [Bool.or_eq_true, Bool.and_eq_true, Bool.or_eq_false_iff, Bool.and_eq_false_iff, decide_eq_true_eq, decide_eq_false_iff_not, beq_iff_eq, bne_iff_ne, Bool.not_eq_true', beq_eq_false_iff_ne, bne_eq_false_iff_eq, ne_eq, Bool.not_eq_false', Bool.true_eq_false, Bool.false_eq_true, Bool.false_or, Bool.true_or, Bool.false_and, Bool.true_and, false_or, or_false, true_and, and_true] at hb))))
  refine AOp.call rfl (by simp only [go_sem]; rfl) (by simp [go_sem]) rfl (ACalls.mono (by simp only [go_sem]; exact code_ReadNumber s i hs st) ?_)
  rintro e st' ⟨rfl, rfl⟩
  have hE := readNumber_end s i
  (refine AOpsC_ok hK' _ _ _ ?_; simp (disch := omega) only [go_sem, Nat.reduceAdd, w_i64, w_u64, w_u8, w_u32, w_i32]; (try simp (disch := omega) only [go_sem, Nat.reduceAdd, w_i64, w_u64, w_u8, w_u32, w_i32]); (repeat' refine And.intro ?_ ?_); (try any_goals (first | (refine hK _ _ ?_; clear hK' hQ hK Q' Kn) | (simp; done) | omega | (simp only [List.length_append, List.length_cons, List.length_nil]; omega))))
  (repeat' (first | refine AW.seq ?_ | refine AW.scope ?_ | refine AW.label ?_ | refine AW.block ?_ | refine AW.skip ?_ | refine AW.exit ?_ | refine AW.ret ?_ | (refine AW.regionC fun Q' Kn hQ hK hK' => ?_; simp (disch := omega) only [go_sem, Nat.reduceAdd, w_i64, w_u64, w_u8, w_u32, w_i32]; (try simp (disch := omega) only [go_sem, Nat.reduceAdd, w_i64, w_u64, w_u8, w_u32, w_i32]); (repeat' refine And.intro ?_ ?_); (try any_goals (first | (refine hK _ _ ?_; clear hK' hQ hK Q' Kn) | (simp; done) | omega | (simp only [List.length_append, List.length_cons, List.length_nil]; omega)))) | (refine AW.cond (by simp (disch := omega) only [go_sem, Nat.reduceAdd, w_i64, w_u64, w_u8, w_u32, w_i32]; rfl) (fun hb => ?_) (fun hb => ?_) <;> (try simp only [Bool.or_eq_true, Bool.and_eq_true, Bool.or_eq_false_iff, Bool.and_eq_false_iff, decide_eq_true_eq, decide_eq_false_iff_not, beq_iff_eq, bne_iff_ne, Bool.not_eq_true', beq_eq_false_iff_ne, bne_eq_false_iff_eq, ne_eq, Bool.not_eq_false', Bool.true_eq_false, Bool.false_eq_true, Bool.false_or, Bool.true_or, Bool.false_and, Bool.true_and, false_or, or_false, true_and, and_true] at hb))))
  (refine ⟨_, _, rfl, by simp, ?_⟩; simp only [aTup, AA.get, List.getD_cons_zero, List.getD_cons_succ, true_and])
  simp only [readSigned]
  rw [show (2 : Int) ^ min (Int.toNat 1) 64 = 2 from rfl, Int.zero_sub, sgn_bits hE.1]
end Go.Almanac
