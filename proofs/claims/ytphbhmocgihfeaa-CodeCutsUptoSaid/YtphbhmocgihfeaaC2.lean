/- Numbers and texts as bytes: the walks. -/
import Derived.Test.YtphbhmocgihfeaaB1
import Derived.Test.YtphbhmocgihfeaaC1
import Derived.Test.YtphbhmocgihfeaaU
namespace Go.Almanac
open Go.RowKit Go.Proofs Go.Abs

noncomputable def Ev : Env := ⟨Try.prog, fun _ => .fptr []⟩
@[go_sem] theorem Ev_P : Ev.P = Try.prog := rfl

set_option linter.unusedSimpArgs false
set_option linter.unusedVariables false
set_option linter.unusedSectionVars false
set_option maxRecDepth 10000

/-- What ReadNumber answers. -/
def readNumber (s : List UInt8) (i : Int) : Nat × Int × Nat :=
  if i < 0 ∨ i > s.length then (0, 0, 15)
  else if (rdn (s.drop i.toNat) 0 0).2.2 = 0 then ((rdn (s.drop i.toNat) 0 0).1, i + (rdn (s.drop i.toNat) 0 0).2.1, 0) else (0, 0, (rdn (s.drop i.toNat) 0 0).2.2)

theorem readNumber_in {s : List UInt8} {j : Nat} (h : j ≤ s.length) {r : Nat × Nat × Nat} (hr : rdn (s.drop j) 0 0 = r) : readNumber s j = if r.2.2 = 0 then (r.1, (j : Int) + r.2.1, 0) else (0, 0, r.2.2) := by
  unfold readNumber
  rw [if_neg (by omega), show (j : Int).toNat = j from by omega, hr]

theorem getD_nat (s : List UInt8) (j k : Nat) : s.getD ((j : Int) + k).toNat 0 = s.getD (j + k) 0 := by congr 1

theorem drop_cons {s : List UInt8} {n : Nat} (h : n < s.length) : s.drop n = s.getD n 0 :: s.drop (n + 1) := by
  rw [List.drop_eq_getElem_cons h]; simp [List.getD, List.getElem?_eq_getElem h]

theorem pow7 {k : Nat} (h : k ≤ 8) : 2 ^ (7 * (k + 1)) ≤ 2 ^ 63 := Nat.pow_le_pow_right (by omega) (by omega)

/-- One group more. -/
theorem group {n k m : Nat} (hn : n < 2 ^ (7 * k)) (hk : k ≤ 9) (hm : m < 128) (h9 : k = 9 → m ≤ 1) :
    ibits .or .u64 (n : Int) (IntKind.u64.wrap (IntKind.u64.wrap ((m : Nat) : Int) * 2 ^ (min (((7 * k : Nat) : Int)).toNat 64))) = ((n + m * 2 ^ (7 * k) : Nat) : Int) ∧ n + m * 2 ^ (7 * k) < 2 ^ 64 ∧ (k ≤ 8 → n + m * 2 ^ (7 * k) < 2 ^ (7 * (k + 1))) := by
  have hp : 2 ^ (7 * (k + 1)) = 128 * 2 ^ (7 * k) := by rw [Nat.mul_add, Nat.pow_add]; omega
  have hmul : m * 2 ^ (7 * k) ≤ 127 * 2 ^ (7 * k) := Nat.mul_le_mul_right _ (by omega)
  have hlt : n + m * 2 ^ (7 * k) < 2 ^ 64 := by
    by_cases h : k = 9
    · subst h
      have := h9 rfl
      have : m * 2 ^ (7 * 9) ≤ 1 * 2 ^ (7 * 9) := Nat.mul_le_mul_right _ this
      omega
    · have := pow7 (k := k) (by omega)
      omega
  refine ⟨?_, hlt, fun _ => by omega⟩
  have e0 : IntKind.u64.wrap ((m : Nat) : Int) = m := w_u64 (by omega) (by omega)
  rw [e0, show (((7 * k : Nat) : Int)).toNat = 7 * k from by omega, show min (7 * k) 64 = 7 * k from by omega]
  have e : (m : Int) * 2 ^ (7 * k) = ((m * 2 ^ (7 * k) : Nat) : Int) := by simp
  rw [e, w_u64 (by omega) (by omega)]
  exact or_high_u64 hn hlt

theorem code_ReadNumber (s : List UInt8) (i : Int) (hs : s.length ≤ 9223372036854775807) (st : St) : ACalls Ev 17 [.str s, .int .i64 i] st (fun e st' => st' = st ∧ e = .ret (.tup [.int .u64 (readNumber s i).1, .int .i64 (readNumber s i).2.1, .int .i64 (readNumber s i).2.2])) := by
  refine ACalls.of_body Try.func17 rfl ?_
  rw [Try.ntmps17]
  simp only [List.length_cons, List.length_nil, Nat.reduceAdd, Nat.reduceSub, List.replicate_succ, List.replicate_zero, List.cons_append, List.nil_append]
  by_cases hi : i < 0 ∨ i > s.length
  · (repeat' (first | refine AW.seq ?_ | refine AW.scope ?_ | refine AW.label ?_ | refine AW.block ?_ | refine AW.skip ?_ | refine AW.exit ?_ | refine AW.ret ?_ | (refine AW.regionC fun Q' Kn hQ hK hK' => ?_; simp (disch := omega) only [go_sem, Nat.reduceAdd, w_i64, w_u64, w_u8, w_u32, w_i32]; (try simp (disch := omega) only [go_sem, Nat.reduceAdd, w_i64, w_u64, w_u8, w_u32, w_i32]); (repeat' refine And.intro ?_ ?_); (try any_goals (first | (refine hK _ _ ?_; clear hK' hQ hK Q' Kn) | (simp; done) | omega | (simp only [List.length_append, List.length_cons, List.length_nil]; omega)))) | (refine AW.cond (by simp (disch := omega) only [go_sem, Nat.reduceAdd, w_i64, w_u64, w_u8, w_u32, w_i32]; rfl) (fun hb => ?_) (fun hb => ?_) <;> (try simp only [Bool.or_eq_true, Bool.and_eq_true, Bool.or_eq_false_iff, Bool.and_eq_false_iff, decide_eq_true_eq, decide_eq_false_iff_not, beq_iff_eq, bne_iff_ne, Bool.not_eq_true', beq_eq_false_iff_ne, bne_eq_false_iff_eq, ne_eq, Bool.not_eq_false', Bool.true_eq_false, Bool.false_eq_true, Bool.false_or, Bool.true_or, Bool.false_and, Bool.true_and, false_or, or_false, true_and, and_true] at hb))))
    · (refine ⟨_, _, rfl, by simp, ?_⟩; simp only [aTup, AA.get, List.getD_cons_zero, List.getD_cons_succ, true_and])
      simp [readNumber, hi]
    · exfalso; omega
  obtain ⟨j, rfl⟩ : ∃ j : Nat, i = j := ⟨i.toNat, by omega⟩
  have hj : j ≤ s.length := by omega
  clear hi
  (repeat' (first | refine AW.seq ?_ | refine AW.scope ?_ | refine AW.label ?_ | refine AW.block ?_ | refine AW.skip ?_ | refine AW.exit ?_ | refine AW.ret ?_ | (refine AW.regionC fun Q' Kn hQ hK hK' => ?_; simp (disch := omega) only [go_sem, Nat.reduceAdd, w_i64, w_u64, w_u8, w_u32, w_i32]; (try simp (disch := omega) only [go_sem, Nat.reduceAdd, w_i64, w_u64, w_u8, w_u32, w_i32]); (repeat' refine And.intro ?_ ?_); (try any_goals (first | (refine hK _ _ ?_; clear hK' hQ hK Q' Kn) | (simp; done) | omega | (simp only [List.length_append, List.length_cons, List.length_nil]; omega)))) | (refine AW.cond (by simp (disch := omega) only [go_sem, Nat.reduceAdd, w_i64, w_u64, w_u8, w_u32, w_i32]; rfl) (fun hb => ?_) (fun hb => ?_) <;> (try simp only [Bool.or_eq_true, Bool.and_eq_true, Bool.or_eq_false_iff, Bool.and_eq_false_iff, decide_eq_true_eq, decide_eq_false_iff_not, beq_iff_eq, bne_iff_ne, Bool.not_eq_true', beq_eq_false_iff_ne, bne_eq_false_iff_eq, ne_eq, Bool.not_eq_false', Bool.true_eq_false, Bool.false_eq_true, Bool.false_or, Bool.true_or, Bool.false_and, Bool.true_and, false_or, or_false, true_and, and_true] at hb))))
  · exfalso; omega
  · refine AW.loopF (fun (x : Nat × Nat) => [.str s, .int .i64 j, .junk, .junk, .junk, .junk, .junk, .int .u64 x.2, .int .i64 (7 * x.1 : Nat), .int .i64 ((j : Int) + x.1), .junk, .junk, .junk, .junk, .junk, .junk, .junk, .junk, .junk, .junk, .junk, .junk, .junk, .junk, .junk, .junk, .junk, .junk, .junk, .junk, .junk, .junk, .junk, .junk, .junk, .junk, .junk, .junk, .junk, .junk, .junk, .junk, .junk, .junk, .junk, .junk, .junk, .junk, .junk, .junk, .junk, .junk, .junk, .junk, .junk, .junk])
      (fun _ => st) (fun x => x.1 ≤ 9 ∧ j + x.1 ≤ s.length ∧ x.2 < 2 ^ (7 * x.1) ∧ rdn (s.drop j) 0 0 = rdn (s.drop (j + x.1)) x.1 x.2) (fun x => s.length - (j + x.1)) (0, 0) ?_ rfl ?_ ?_
    · simp only [Nat.mul_zero, Int.add_zero, Int.natCast_zero]
      (repeat (first | exact Weak.nil | refine Weak.junk _ ?_ | refine Weak.same _ ?_ | refine Weak.eqv (by (congr 1; omega)) ?_))
    · exact ⟨by omega, by simpa using hj, by simp, by simp⟩
    · rintro ⟨k, n⟩ ⟨h1, h2, h3, h4⟩
      dsimp only at h1 h2 h3 h4 ⊢
      (repeat' (first | refine AW.seq ?_ | refine AW.scope ?_ | refine AW.label ?_ | refine AW.block ?_ | refine AW.skip ?_ | refine AW.exit ?_ | refine AW.ret ?_ | (refine AW.regionC fun Q' Kn hQ hK hK' => ?_; simp (disch := omega) only [go_sem, Nat.reduceAdd, w_i64, w_u64, w_u8, w_u32, w_i32]; (try simp (disch := omega) only [go_sem, Nat.reduceAdd, w_i64, w_u64, w_u8, w_u32, w_i32]); (repeat' refine And.intro ?_ ?_); (try any_goals (first | (refine hK _ _ ?_; clear hK' hQ hK Q' Kn) | (simp; done) | omega | (simp only [List.length_append, List.length_cons, List.length_nil]; omega)))) | (refine AW.cond (by simp (disch := omega) only [go_sem, Nat.reduceAdd, w_i64, w_u64, w_u8, w_u32, w_i32]; rfl) (fun hb => ?_) (fun hb => ?_) <;> (try simp only [Bool.or_eq_true, Bool.and_eq_true, Bool.or_eq_false_iff, Bool.and_eq_false_iff, decide_eq_true_eq, decide_eq_false_iff_not, beq_iff_eq, bne_iff_ne, Bool.not_eq_true', beq_eq_false_iff_ne, bne_eq_false_iff_eq, ne_eq, Bool.not_eq_false', Bool.true_eq_false, Bool.false_eq_true, Bool.false_or, Bool.true_or, Bool.false_and, Bool.true_and, false_or, or_false, true_and, and_true] at hb))))
      · (refine ⟨_, _, rfl, by simp, ?_⟩; simp only [aTup, AA.get, List.getD_cons_zero, List.getD_cons_succ, true_and])
        rw [getD_nat] at hb
        have hr : rdn (s.drop j) 0 0 = (0, 0, 10) := by
          rw [h4, drop_cons (by omega), rdn, if_pos (by omega)]
        rw [readNumber_in hj hr]; rfl
      · rename_i hc _ _
        rw [getD_nat] at *
        have hb8 : (s.getD (j + k) 0).toNat < 256 := UInt8.toNat_lt _
        have hg := group (m := (s.getD (j + k) 0).toNat % 128) h3 h1 (by omega) (by omega)
        refine ⟨(k + 1, n + (s.getD (j + k) 0).toNat % 128 * 2 ^ (7 * k)), ⟨by omega, by omega, hg.2.2 (by omega), ?_⟩, by omega, ?_, rfl, rfl⟩
        · rw [h4, drop_cons (by omega), rdn, if_neg (by omega), if_pos (by omega)]
          rfl
        · rw [and127_u8 (by omega), hg.1]
          dsimp only
          (repeat (first | exact Weak.nil | refine Weak.junk _ ?_ | refine Weak.same _ ?_ | refine Weak.eqv (by (congr 1; omega)) ?_))
      · (refine ⟨_, _, rfl, by simp, ?_⟩; simp only [aTup, AA.get, List.getD_cons_zero, List.getD_cons_succ, true_and])
        rw [getD_nat] at *
        have hr : rdn (s.drop j) 0 0 = (0, 0, 10) := by
          rw [h4, drop_cons (by omega), rdn, if_neg (by omega), if_neg (by omega), if_pos (by omega)]
        rw [readNumber_in hj hr]; rfl
      · (refine ⟨_, _, rfl, by simp, ?_⟩; simp only [aTup, AA.get, List.getD_cons_zero, List.getD_cons_succ, true_and])
        rw [getD_nat] at *
        have hb8 : (s.getD (j + k) 0).toNat < 256 := UInt8.toNat_lt _
        have hg := group (m := (s.getD (j + k) 0).toNat % 128) h3 h1 (by omega) (by omega)
        have hr : rdn (s.drop j) 0 0 = (n + (s.getD (j + k) 0).toNat % 128 * 2 ^ (7 * k), k + 1, 0) := by
          rw [h4, drop_cons (by omega), rdn, if_neg (by omega), if_neg (by omega), if_neg (by omega)]
        rw [readNumber_in hj hr, and127_u8 (by omega), hg.1]
        simp; omega
      · (refine ⟨_, _, rfl, by simp, ?_⟩; simp only [aTup, AA.get, List.getD_cons_zero, List.getD_cons_succ, true_and])
        have hr : rdn (s.drop j) 0 0 = (0, 0, 11) := by
          rw [h4, List.drop_of_length_le (by omega), rdn]
        rw [readNumber_in hj hr]; rfl
end Go.Almanac
