/- Numbers and texts as bytes: the document's reading. -/
import Derived.Test.YtphbhmocgihfeaaC7
namespace Go.Almanac
open Go.RowKit Go.Proofs Go.Abs

set_option linter.unusedSimpArgs false
set_option linter.unusedVariables false
set_option linter.unusedSectionVars false
set_option maxRecDepth 10000

theorem tmod_128 (c : Nat) : (c : Int).tmod 128 = ((c % 128 : Nat) : Int) := by
  rw [show (128 : Int) = ((128 : Nat) : Int) from rfl, ← Int.ofNat_tmod]
theorem tmod_2 (c : Nat) : (c : Int).tmod 2 = ((c % 2 : Nat) : Int) := by
  rw [show (2 : Int) = ((2 : Nat) : Int) from rfl, ← Int.ofNat_tmod]
attribute [local go_sem] tmod_128 tmod_2

theorem group2 {n k m : Nat} (hn : n < 2 ^ (7 * k)) (hk : k ≤ 9) (hm : m < 128) (h9 : k = 9 → m ≤ 1) :
    IntKind.u64.wrap ((n : Int) + IntKind.u64.wrap (((m : Nat) : Int) * 2 ^ (min ((7 * (k : Int)).toNat) 64))) = ((n + m * 2 ^ (7 * k) : Nat) : Int) := by
  have hg := (group hn hk hm h9).2.1
  rw [show (7 * (k : Int)).toNat = 7 * k from by omega, show min (7 * k) 64 = 7 * k from by omega]
  have e : (m : Int) * 2 ^ (7 * k) = ((m * 2 ^ (7 * k) : Nat) : Int) := by simp
  rw [e]
  generalize m * 2 ^ (7 * k) = z at hg ⊢
  rw [w_u64 (n := (z : Int)) (by omega) (by omega), w_u64 (by omega) (by omega)]
  simp

theorem ref_ReadNumber (s : List UInt8) (i : Int) (hs : s.length ≤ 9223372036854775807) (st : St) : ACalls Ev 18 [.str s, .int .i64 i] st (fun e st' => st' = st ∧ e = .ret (.tup [.int .u64 (readNumber s i).1, .int .i64 (readNumber s i).2.1, .int .i64 (readNumber s i).2.2])) := by
  refine ACalls.of_body Try.func18 rfl ?_
  rw [Try.ntmps18]
  simp only [List.length_cons, List.length_nil, Nat.reduceAdd, Nat.reduceSub, List.replicate_succ, List.replicate_zero, List.cons_append, List.nil_append]
  by_cases hi : i < 0 ∨ i > s.length
  · (repeat' (first | refine AW.seq ?_ | refine AW.scope ?_ | refine AW.label ?_ | refine AW.block ?_ | refine AW.skip ?_ | refine AW.exit ?_ | refine AW.ret ?_ | (refine AW.regionC fun Q' Kn hQ hK hK' => ?_; simp (disch := omega) only [go_sem, Nat.reduceAdd, w_i64, w_u64, w_u8, w_u32, w_i32]; (try simp (disch := omega) only [go_sem, Nat.reduceAdd, w_i64, w_u64, w_u8, w_u32, w_i32]); (repeat' refine And.intro ?_ ?_); (try any_goals (first | (refine hK _ _ ?_; clear hK' hQ hK Q' Kn) | (simp; done) | omega | (simp only [List.length_append, List.length_cons, List.length_nil]; omega)))) | (refine AW.cond (by simp (disch := omega) only [go_sem, Nat.reduceAdd, w_i64, w_u64, w_u8, w_u32, w_i32]; rfl) (fun hb => ?_) (fun hb => ?_) <;> (try simp only [Bool.or_eq_true, Bool.and_eq_true, Bool.or_eq_false_iff, Bool.and_eq_false_iff, decide_eq_true_eq, decide_eq_false_iff_not, beq_iff_eq, bne_iff_ne, Bool.not_eq_true', beq_eq_false_iff_ne, bne_eq_false_iff_eq, ne_eq, Bool.not_eq_false', Bool.true_eq_false, Bool.false_eq_true, Bool.false_or, Bool.true_or, Bool.false_and, Bool.true_and, false_or, or_false, true_and, and_true] at hb))))
    · (refine ⟨_, _, rfl, by simp, ?_⟩; simp only [aTup, AA.get, List.getD_cons_zero, List.getD_cons_succ, true_and])
      simp [readNumber, hi]
    · exfalso; omega
  obtain ⟨j, rfl⟩ : ∃ j : Nat, i = j := ⟨i.toNat, by omega⟩
  have hj : j ≤ s.length := by omega
  clear hi
  (repeat' (first | refine AW.seq ?_ | refine AW.scope ?_ | refine AW.label ?_ | refine AW.block ?_ | refine AW.skip ?_ | refine AW.exit ?_ | refine AW.ret ?_ | (refine AW.regionC fun Q' Kn hQ hK hK' => ?_; simp (disch := omega) only [go_sem, Nat.reduceAdd, w_i64, w_u64, w_u8, w_u32, w_i32]; (try simp (disch := omega) only [go_sem, Nat.reduceAdd, w_i64, w_u64, w_u8, w_u32, w_i32]); (repeat' refine And.intro ?_ ?_); (try any_goals (first | (refine hK _ _ ?_; clear hK' hQ hK Q' Kn) | (simp; done) | omega | (simp only [List.length_append, List.length_cons, List.length_nil]; omega)))) | (refine AW.cond (by simp (disch := omega) only [go_sem, Nat.reduceAdd, w_i64, w_u64, w_u8, w_u32, w_i32]; rfl) (fun hb => ?_) (fun hb => ?_) <;> (try simp only [Bool.or_eq_true, Bool.and_eq_true, Bool.or_eq_false_iff, Bool.and_eq_false_iff, decide_eq_true_eq, decide_eq_false_iff_not, beq_iff_eq, bne_iff_ne, Bool.not_eq_true', beq_eq_false_iff_ne, bne_eq_false_iff_eq, ne_eq, Bool.not_eq_false', Bool.true_eq_false, Bool.false_eq_true, Bool.false_or, Bool.true_or, Bool.false_and, Bool.true_and, false_or, or_false, true_and, and_true] at hb))))
  · exfalso; omega
  · refine AW.loopF (fun (x : Nat × Nat) => [.str s, .int .i64 j, .junk, .junk, .junk, .junk, .junk, .int .u64 x.2, .int .i64 x.1, .junk, .junk, .junk, .junk, .junk, .junk, .junk, .junk, .junk, .junk, .junk, .junk, .junk, .junk, .junk, .junk, .junk, .junk, .junk, .junk, .junk, .junk, .junk, .junk, .junk, .junk, .junk, .junk, .junk, .junk, .junk, .junk, .junk, .junk, .junk, .junk, .junk, .junk, .junk, .junk, .junk, .junk, .junk, .junk, .junk, .junk, .junk, .junk, .junk])
      (fun _ => st) (fun x => x.1 ≤ 9 ∧ j + x.1 ≤ s.length ∧ x.2 < 2 ^ (7 * x.1) ∧ rdn (s.drop j) 0 0 = rdn (s.drop (j + x.1)) x.1 x.2) (fun x => s.length - (j + x.1)) (0, 0) ?_ rfl ?_ ?_
    · simp only [Nat.mul_zero, Int.add_zero, Int.natCast_zero]
      (repeat (first | exact Weak.nil | refine Weak.junk _ ?_ | refine Weak.same _ ?_ | refine Weak.eqv (by (congr 1; omega)) ?_))
    · exact ⟨by omega, by simpa using hj, by simp, by simp⟩
    · rintro ⟨k, n⟩ ⟨h1, h2, h3, h4⟩
      dsimp only at h1 h2 h3 h4 ⊢
      (repeat' (first | refine AW.seq ?_ | refine AW.scope ?_ | refine AW.label ?_ | refine AW.block ?_ | refine AW.skip ?_ | refine AW.exit ?_ | refine AW.ret ?_ | (refine AW.regionC fun Q' Kn hQ hK hK' => ?_; simp (disch := omega) only [go_sem, Nat.reduceAdd, w_i64, w_u64, w_u8, w_u32, w_i32]; (try simp (disch := omega) only [go_sem, Nat.reduceAdd, w_i64, w_u64, w_u8, w_u32, w_i32]); (repeat' refine And.intro ?_ ?_); (try any_goals (first | (refine hK _ _ ?_; clear hK' hQ hK Q' Kn) | (simp; done) | omega | (simp only [List.length_append, List.length_cons, List.length_nil]; omega)))) | (refine AW.cond (by simp (disch := omega) only [go_sem, Nat.reduceAdd, w_i64, w_u64, w_u8, w_u32, w_i32]; rfl) (fun hb => ?_) (fun hb => ?_) <;> (try simp only [Bool.or_eq_true, Bool.and_eq_true, Bool.or_eq_false_iff, Bool.and_eq_false_iff, decide_eq_true_eq, decide_eq_false_iff_not, beq_iff_eq, bne_iff_ne, Bool.not_eq_true', beq_eq_false_iff_ne, bne_eq_false_iff_eq, ne_eq, Bool.not_eq_false', Bool.true_eq_false, Bool.false_eq_true, Bool.false_or, Bool.true_or, Bool.false_and, Bool.true_and, false_or, or_false, true_and, and_true] at hb))))
      · (refine ⟨_, _, rfl, by simp, ?_⟩; simp only [aTup, AA.get, List.getD_cons_zero, List.getD_cons_succ, true_and])
        have hr : rdn (s.drop j) 0 0 = (0, 0, 11) := by
          rw [h4, List.drop_of_length_le (by omega), rdn]
        rw [readNumber_in hj hr]; rfl
      · (refine ⟨_, _, rfl, by simp, ?_⟩; simp only [aTup, AA.get, List.getD_cons_zero, List.getD_cons_succ, true_and])
        rw [getD_nat] at *
        have hr : rdn (s.drop j) 0 0 = (0, 0, 10) := by
          rw [h4, drop_cons (by omega), rdn, if_pos (by omega)]
        rw [readNumber_in hj hr]; rfl
      · (refine ⟨_, _, rfl, by simp, ?_⟩; simp only [aTup, AA.get, List.getD_cons_zero, List.getD_cons_succ, true_and])
        rw [getD_nat] at *
        have hr : rdn (s.drop j) 0 0 = (0, 0, 10) := by
          rw [h4, drop_cons (by omega), rdn, if_neg (by omega), if_neg (by omega), if_pos (by omega)]
        rw [readNumber_in hj hr]; rfl
      · (refine ⟨_, _, rfl, by simp, ?_⟩; simp only [aTup, AA.get, List.getD_cons_zero, List.getD_cons_succ, true_and])
        rw [getD_nat] at *
        have hb8 : (s.getD (j + k) 0).toNat < 256 := UInt8.toNat_lt _
        have hr : rdn (s.drop j) 0 0 = (n + (s.getD (j + k) 0).toNat % 128 * 2 ^ (7 * k), k + 1, 0) := by
          rw [h4, drop_cons (by omega), rdn, if_neg (by omega), if_neg (by omega), if_neg (by omega)]
        have hg2 := group2 (m := (s.getD (j + k) 0).toNat % 128) h3 h1 (by omega) (by omega)
        rw [readNumber_in hj hr, hg2]
        simp; omega
      · rw [getD_nat] at *
        have hb8 : (s.getD (j + k) 0).toNat < 256 := UInt8.toNat_lt _
        have hg := group (m := (s.getD (j + k) 0).toNat % 128) h3 h1 (by omega) (by omega)
        have hg2 := group2 (m := (s.getD (j + k) 0).toNat % 128) h3 h1 (by omega) (by omega)
        refine ⟨(k + 1, n + (s.getD (j + k) 0).toNat % 128 * 2 ^ (7 * k)), ⟨by omega, by omega, hg.2.2 (by omega), ?_⟩, by omega, ?_, rfl, rfl⟩
        · rw [h4, drop_cons (by omega), rdn, if_neg (by omega), if_pos (by omega)]
          rfl
        · rw [hg2]
          dsimp only
          (repeat (first | exact Weak.nil | refine Weak.junk _ ?_ | refine Weak.same _ ?_ | refine Weak.eqv (by (congr 1; omega)) ?_))

theorem sgn_half {n : Nat} (hn : n < 2 ^ 64) : sgn n = if n % 2 = 1 then IntKind.i64.wrap (IntKind.i64.wrap (0 - IntKind.i64.wrap ((n : Int).fdiv (2 ^ min (Int.toNat 1) 64))) - 1) else IntKind.i64.wrap ((n : Int).fdiv (2 ^ min (Int.toNat 1) 64)) := by
  rw [show (2 : Int) ^ min (Int.toNat 1) 64 = 2 from rfl, shr1_u64 hn, w_i64 (n := ((n / 2 : Nat) : Int)) (by omega) (by omega), w_i64 (n := 0 - ((n / 2 : Nat) : Int)) (by omega) (by omega), w_i64 (by omega) (by omega), sgn]
  split <;> omega

theorem ref_ReadSigned (s : List UInt8) (i : Int) (hs : s.length ≤ 9223372036854775807) (st : St) : ACalls Ev 20 [.str s, .int .i64 i] st (fun e st' => st' = st ∧ e = .ret (.tup [.int .i64 (readSigned s i).1, .int .i64 (readSigned s i).2.1, .int .i64 (readSigned s i).2.2])) := by
  have hE := readNumber_end s i
  have hh := sgn_half hE.1
  refine ACalls.of_body Try.func20 rfl ?_
  rw [Try.ntmps20]
  simp only [List.length_cons, List.length_nil, Nat.reduceAdd, Nat.reduceSub, List.replicate_succ, List.replicate_zero, List.cons_append, List.nil_append]
  (repeat' (first | refine AW.seq ?_ | refine AW.scope ?_ | refine AW.label ?_ | refine AW.block ?_ | refine AW.skip ?_ | refine AW.exit ?_ | refine AW.ret ?_ | (refine AW.regionC fun Q' Kn hQ hK hK' => ?_; simp (disch := omega) only [go_sem, Nat.reduceAdd, w_i64, w_u64, w_u8, w_u32, w_i32]; (try simp (disch := omega) only [go_sem, Nat.reduceAdd, w_i64, w_u64, w_u8, w_u32, w_i32]); (repeat' refine And.intro ?_ ?_); (try any_goals (first | (refine hK _ _ ?_; clear hK' hQ hK Q' Kn) | (simp; done) | omega | (simp only [List.length_append, List.length_cons, List.length_nil]; omega)))) | (refine AW.cond (by simp (disch := omega) only [go_sem, Nat.reduceAdd, w_i64, w_u64, w_u8, w_u32, w_i32]; rfl) (fun hb => ?_) (fun hb => ?_) <;> (try simp only [Bool.or_eq_true, Bool.and_eq_true, Bool.or_eq_false_iff, Bool.and_eq_false_iff, decide_eq_true_eq, decide_eq_false_iff_not, beq_iff_eq, bne_iff_ne, Bool.not_eq_true', beq_eq_false_iff_ne, bne_eq_false_iff_eq, ne_eq, Bool.not_eq_false', Bool.true_eq_false, Bool.false_eq_true, Bool.false_or, Bool.true_or, Bool.false_and, Bool.true_and, false_or, or_false, true_and, and_true] at hb))))
  refine AOp.call rfl (by simp only [go_sem]; rfl) (by simp [go_sem]) rfl (ACalls.mono (by simp only [go_sem]; exact ref_ReadNumber s i hs st) ?_)
  rintro e st' ⟨rfl, rfl⟩
  (refine AOpsC_ok hK' _ _ _ ?_; simp (disch := omega) only [go_sem, Nat.reduceAdd, w_i64, w_u64, w_u8, w_u32, w_i32]; (try simp (disch := omega) only [go_sem, Nat.reduceAdd, w_i64, w_u64, w_u8, w_u32, w_i32]); (repeat' refine And.intro ?_ ?_); (try any_goals (first | (refine hK _ _ ?_; clear hK' hQ hK Q' Kn) | (simp; done) | omega | (simp only [List.length_append, List.length_cons, List.length_nil]; omega))))
  (repeat' (first | refine AW.seq ?_ | refine AW.scope ?_ | refine AW.label ?_ | refine AW.block ?_ | refine AW.skip ?_ | refine AW.exit ?_ | refine AW.ret ?_ | (refine AW.regionC fun Q' Kn hQ hK hK' => ?_; simp (disch := omega) only [go_sem, Nat.reduceAdd, w_i64, w_u64, w_u8, w_u32, w_i32]; (try simp (disch := omega) only [go_sem, Nat.reduceAdd, w_i64, w_u64, w_u8, w_u32, w_i32]); (repeat' refine And.intro ?_ ?_); (try any_goals (first | (refine hK _ _ ?_; clear hK' hQ hK Q' Kn) | (simp; done) | omega | (simp only [List.length_append, List.length_cons, List.length_nil]; omega)))) | (refine AW.cond (by simp (disch := omega) only [go_sem, Nat.reduceAdd, w_i64, w_u64, w_u8, w_u32, w_i32]; rfl) (fun hb => ?_) (fun hb => ?_) <;> (try simp only [Bool.or_eq_true, Bool.and_eq_true, Bool.or_eq_false_iff, Bool.and_eq_false_iff, decide_eq_true_eq, decide_eq_false_iff_not, beq_iff_eq, bne_iff_ne, Bool.not_eq_true', beq_eq_false_iff_ne, bne_eq_false_iff_eq, ne_eq, Bool.not_eq_false', Bool.true_eq_false, Bool.false_eq_true, Bool.false_or, Bool.true_or, Bool.false_and, Bool.true_and, false_or, or_false, true_and, and_true] at hb))))
  · (refine ⟨_, _, rfl, by simp, ?_⟩; simp only [aTup, AA.get, List.getD_cons_zero, List.getD_cons_succ, true_and])
    have h0 : (readNumber s i).1 = 0 ∧ (readNumber s i).2.1 = 0 := hE.2.2.2.2.1 (by omega)
    simp only [readSigned, h0.1, h0.2]
    rfl
  · (refine ⟨_, _, rfl, by simp, ?_⟩; simp only [aTup, AA.get, List.getD_cons_zero, List.getD_cons_succ, true_and])
    simp only [readSigned]
    rw [hh, if_pos (by omega)]
    simp; omega
  · (refine ⟨_, _, rfl, by simp, ?_⟩; simp only [aTup, AA.get, List.getD_cons_zero, List.getD_cons_succ, true_and])
    simp only [readSigned]
    rw [hh, if_neg (by omega)]
    simp [*]

theorem ref_ReadText (s : List UInt8) (i : Int) (hs : s.length ≤ 9223372036854775807) (st : St) : ACalls Ev 21 [.str s, .int .i64 i] st (fun e st' => st' = st ∧ e = .ret (.tup [.str (readText s i).1, .int .i64 (readText s i).2.1, .int .i64 (readText s i).2.2])) := by
  refine ACalls.of_body Try.func21 rfl ?_
  rw [Try.ntmps21]
  simp only [List.length_cons, List.length_nil, Nat.reduceAdd, Nat.reduceSub, List.replicate_succ, List.replicate_zero, List.cons_append, List.nil_append]
  (repeat' (first | refine AW.seq ?_ | refine AW.scope ?_ | refine AW.label ?_ | refine AW.block ?_ | refine AW.skip ?_ | refine AW.exit ?_ | refine AW.ret ?_ | (refine AW.regionC fun Q' Kn hQ hK hK' => ?_; simp (disch := omega) only [go_sem, Nat.reduceAdd, w_i64, w_u64, w_u8, w_u32, w_i32]; (try simp (disch := omega) only [go_sem, Nat.reduceAdd, w_i64, w_u64, w_u8, w_u32, w_i32]); (repeat' refine And.intro ?_ ?_); (try any_goals (first | (refine hK _ _ ?_; clear hK' hQ hK Q' Kn) | (simp; done) | omega | (simp only [List.length_append, List.length_cons, List.length_nil]; omega)))) | (refine AW.cond (by simp (disch := omega) only [go_sem, Nat.reduceAdd, w_i64, w_u64, w_u8, w_u32, w_i32]; rfl) (fun hb => ?_) (fun hb => ?_) <;> (try simp only [Bool.or_eq_true, Bool.and_eq_true, Bool.or_eq_false_iff, Bool.and_eq_false_iff, decide_eq_true_eq, decide_eq_false_iff_not, beq_iff_eq, bne_iff_ne, Bool.not_eq_true', beq_eq_false_iff_ne, bne_eq_false_iff_eq, ne_eq, Bool.not_eq_false', Bool.true_eq_false, Bool.false_eq_true, Bool.false_or, Bool.true_or, Bool.false_and, Bool.true_and, false_or, or_false, true_and, and_true] at hb))))
  refine AOp.call rfl (by simp only [go_sem]; rfl) (by simp [go_sem]) rfl (ACalls.mono (by simp only [go_sem]; exact ref_ReadNumber s i hs st) ?_)
  rintro e st' ⟨rfl, rfl⟩
  have hE := readNumber_end s i
  (refine AOpsC_ok hK' _ _ _ ?_; simp (disch := omega) only [go_sem, Nat.reduceAdd, w_i64, w_u64, w_u8, w_u32, w_i32]; (try simp (disch := omega) only [go_sem, Nat.reduceAdd, w_i64, w_u64, w_u8, w_u32, w_i32]); (repeat' refine And.intro ?_ ?_); (try any_goals (first | (refine hK _ _ ?_; clear hK' hQ hK Q' Kn) | (simp; done) | omega | (simp only [List.length_append, List.length_cons, List.length_nil]; omega))))
  (repeat' (first | refine AW.seq ?_ | refine AW.scope ?_ | refine AW.label ?_ | refine AW.block ?_ | refine AW.skip ?_ | refine AW.exit ?_ | refine AW.ret ?_ | (refine AW.regionC fun Q' Kn hQ hK hK' => ?_; simp (disch := omega) only [go_sem, Nat.reduceAdd, w_i64, w_u64, w_u8, w_u32, w_i32]; (try simp (disch := omega) only [go_sem, Nat.reduceAdd, w_i64, w_u64, w_u8, w_u32, w_i32]); (repeat' refine And.intro ?_ ?_); (try any_goals (first | (refine hK _ _ ?_; clear hK' hQ hK Q' Kn) | (simp; done) | omega | (simp only [List.length_append, List.length_cons, List.length_nil]; omega)))) | (refine AW.cond (by simp (disch := omega) only [go_sem, Nat.reduceAdd, w_i64, w_u64, w_u8, w_u32, w_i32]; rfl) (fun hb => ?_) (fun hb => ?_) <;> (try simp only [Bool.or_eq_true, Bool.and_eq_true, Bool.or_eq_false_iff, Bool.and_eq_false_iff, decide_eq_true_eq, decide_eq_false_iff_not, beq_iff_eq, bne_iff_ne, Bool.not_eq_true', beq_eq_false_iff_ne, bne_eq_false_iff_eq, ne_eq, Bool.not_eq_false', Bool.true_eq_false, Bool.false_eq_true, Bool.false_or, Bool.true_or, Bool.false_and, Bool.true_and, false_or, or_false, true_and, and_true] at hb))))
  · (refine ⟨_, _, rfl, by simp, ?_⟩; simp only [aTup, AA.get, List.getD_cons_zero, List.getD_cons_succ, true_and])
    rw [readText, if_pos (by omega)]
  · (refine ⟨_, _, rfl, by simp, ?_⟩; simp only [aTup, AA.get, List.getD_cons_zero, List.getD_cons_succ, true_and])
    rw [readText, if_neg (by omega), if_pos (by omega)]; rfl
  · (refine ⟨_, _, rfl, by simp, ?_⟩; simp only [aTup, AA.get, List.getD_cons_zero, List.getD_cons_succ, true_and])
    rw [readText, if_neg (by omega), if_neg (by omega)]
    rw [show ((readNumber s i).2.1 + ((readNumber s i).1 : Int)).toNat - (readNumber s i).2.1.toNat = (readNumber s i).1 from by omega]
    rfl
end Go.Almanac
