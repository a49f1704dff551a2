/- Recurrence: what a rule means, as plain functions. -/
import Derived.Test.YtbknconfeiojcaaGreatDoorM6
import Derived.Test.YtbknconfeiojcaaGreatDoorM5
import Derived.Test.YtbknconfeiojcaaGreatDoorM4
set_option linter.unusedSimpArgs false
set_option linter.unusedVariables false
set_option linter.unusedSectionVars false
set_option maxRecDepth 10000
set_option maxHeartbeats 1000000
/- Dates: seconds as texts, both ways. -/
namespace Go.Almanac
open Go.RowKit Go.Proofs Go.Abs
def inT (t : Int) : Bool := decide (-62135596800 ≤ t) && decide (t ≤ 253402300799)
noncomputable def stampF (t : Int) : List UInt8 := if inT t then dayF (t / 86400) ++ [84] ++ clockT (t % 86400) [] else []
theorem dayF_length (n : Int) : (dayF n).length ≤ 8 := by unfold dayF; split <;> simp
theorem clockT_length (t : Int) (s : List UInt8) : (clockT t s).length = 6 + 2 * s.length := by simp [clockT]; omega
theorem t_Stamp (G : Nat → AV) (t : Int) (h0 : -9223372036854775808 ≤ t) (h1 : t ≤ 9223372036854775807) (st : St) : ACalls (Ev G) 42 [.int .i64 t] st (fun e st' => st' = st ∧ (inT t = true → CivOk (t / 86400)) ∧ e = .ret (.str (stampF t))) := by
  refine ACalls.of_body Tryz.func42 rfl ?_
  rw [Tryz.ntmps42]
  simp only [List.length_cons, List.length_nil, Nat.reduceAdd, Nat.reduceSub, List.replicate_succ, List.replicate_zero, List.cons_append, List.nil_append]
  (repeat' (first | refine AW.seq ?_ | refine AW.scope ?_ | refine AW.label ?_ | refine AW.block ?_ | refine AW.skip ?_ | refine AW.exit ?_ | refine AW.ret ?_ | (refine AW.regionC fun Q' Kn hQ hK hK' => ?_; (repeat simp (disch := omega) only [go_sem, redN, Nat.reduceAdd, Int.reduceToNat, Int.reducePow]); (repeat' apply And.intro); (try any_goals (first | (refine hK _ _ ?_; clear hK' hQ hK Q' Kn) | (simp; done) | omega | (simp only [redL]; omega) | (simp; omega)))) | (refine AW.cond (by simp (disch := omega) only [go_sem, redN, Nat.reduceAdd, Int.reduceToNat, Int.reducePow]; rfl) (fun hb => ?_) (fun hb => ?_) <;> (try simp only [redB] at hb))))
  refine AOp.call rfl (by simp only [go_sem]; rfl) (by simp [go_sem]) rfl (ACalls.mono (by simp only [go_sem]; exact t_In G t _) ?_)
  rintro e st' ⟨rfl, rfl⟩
  rw [show (decide (-62135596800 ≤ t) && decide (t ≤ 253402300799)) = inT t from rfl]
  (refine AOpsC_ok hK' _ _ _ ?_; (repeat simp (disch := omega) only [go_sem, redN, Nat.reduceAdd, Int.reduceToNat, Int.reducePow]); (repeat' apply And.intro); (try any_goals (first | (refine hK _ _ ?_; clear hK' hQ hK Q' Kn) | (simp; done) | omega | (simp only [redL]; omega) | (simp; omega))))
  (repeat' (first | refine AW.seq ?_ | refine AW.scope ?_ | refine AW.label ?_ | refine AW.block ?_ | refine AW.skip ?_ | refine AW.exit ?_ | refine AW.ret ?_ | (refine AW.regionC fun Q' Kn hQ hK hK' => ?_; (repeat simp (disch := omega) only [go_sem, redN, Nat.reduceAdd, Int.reduceToNat, Int.reducePow]); (repeat' apply And.intro); (try any_goals (first | (refine hK _ _ ?_; clear hK' hQ hK Q' Kn) | (simp; done) | omega | (simp only [redL]; omega) | (simp; omega)))) | (refine AW.cond (by simp (disch := omega) only [go_sem, redN, Nat.reduceAdd, Int.reduceToNat, Int.reducePow]; rfl) (fun hb => ?_) (fun hb => ?_) <;> (try simp only [redB] at hb))))
  · (refine ⟨_, _, rfl, by simp, ?_⟩; simp only [aTup, AA.get, List.getD_cons_zero, List.getD_cons_succ, true_and])
    exact ⟨fun h => by simp [h] at hb, by simp [stampF, hb]⟩
  have hin : inT t = true := by simpa using hb
  have hi2 : -62135596800 ≤ t ∧ t ≤ 253402300799 := by simpa [inT] using hin
  refine AOp.call rfl (by simp only [go_sem]; rfl) (by simp [go_sem]) rfl (ACalls.mono (by simp only [go_sem]; exact t_Parts G t h0 h1 _) ?_)
  rintro e st' ⟨rfl, rfl⟩
  (refine AOpsC_ok hK' _ _ _ ?_; (repeat simp (disch := omega) only [go_sem, redN, Nat.reduceAdd, Int.reduceToNat, Int.reducePow]); (repeat' apply And.intro); (try any_goals (first | (refine hK _ _ ?_; clear hK' hQ hK Q' Kn) | (simp; done) | omega | (simp only [redL]; omega) | (simp; omega))))
  (repeat' (first | refine AW.seq ?_ | refine AW.scope ?_ | refine AW.label ?_ | refine AW.block ?_ | refine AW.skip ?_ | refine AW.exit ?_ | refine AW.ret ?_ | (refine AW.regionC fun Q' Kn hQ hK hK' => ?_; (repeat simp (disch := omega) only [go_sem, redN, Nat.reduceAdd, Int.reduceToNat, Int.reducePow]); (repeat' apply And.intro); (try any_goals (first | (refine hK _ _ ?_; clear hK' hQ hK Q' Kn) | (simp; done) | omega | (simp only [redL]; omega) | (simp; omega)))) | (refine AW.cond (by simp (disch := omega) only [go_sem, redN, Nat.reduceAdd, Int.reduceToNat, Int.reducePow]; rfl) (fun hb => ?_) (fun hb => ?_) <;> (try simp only [redB] at hb))))
  refine AOp.call rfl (by simp only [go_sem]; rfl) (by simp [go_sem]) rfl (ACalls.mono (by simp only [go_sem]; exact t_Day G (t / 86400) (by omega) (by omega) _) ?_)
  rintro e st' ⟨rfl, hc, rfl⟩
  have hdl := dayF_length (t / 86400)
  (refine AOpsC_ok hK' _ _ _ ?_; (repeat simp (disch := omega) only [go_sem, redN, Nat.reduceAdd, Int.reduceToNat, Int.reducePow]); (repeat' apply And.intro); (try any_goals (first | (refine hK _ _ ?_; clear hK' hQ hK Q' Kn) | (simp; done) | omega | (simp only [redL]; omega) | (simp; omega))))
  refine AOp.call rfl (by simp only [go_sem]; rfl) (by simp [go_sem]) rfl (ACalls.mono (by simp only [go_sem]; exact t_clock G (t % 86400) [] (by simp) (by omega) (by omega) _) ?_)
  rintro e st' ⟨rfl, rfl⟩
  have hcl : (clockT (t % 86400) []).length = 6 := by rw [clockT_length]; rfl
  (refine AOpsC_ok hK' _ _ _ ?_; (repeat simp (disch := omega) only [go_sem, redN, Nat.reduceAdd, Int.reduceToNat, Int.reducePow]); (repeat' apply And.intro); (try any_goals (first | (refine hK _ _ ?_; clear hK' hQ hK Q' Kn) | (simp; done) | omega | (simp only [redL]; omega) | (simp; omega))))
  (repeat' (first | refine AW.seq ?_ | refine AW.scope ?_ | refine AW.label ?_ | refine AW.block ?_ | refine AW.skip ?_ | refine AW.exit ?_ | refine AW.ret ?_ | (refine AW.regionC fun Q' Kn hQ hK hK' => ?_; (repeat simp (disch := omega) only [go_sem, redN, Nat.reduceAdd, Int.reduceToNat, Int.reducePow]); (repeat' apply And.intro); (try any_goals (first | (refine hK _ _ ?_; clear hK' hQ hK Q' Kn) | (simp; done) | omega | (simp only [redL]; omega) | (simp; omega)))) | (refine AW.cond (by simp (disch := omega) only [go_sem, redN, Nat.reduceAdd, Int.reduceToNat, Int.reducePow]; rfl) (fun hb => ?_) (fun hb => ?_) <;> (try simp only [redB] at hb))))
  (refine ⟨_, _, rfl, by simp, ?_⟩; simp only [aTup, AA.get, List.getD_cons_zero, List.getD_cons_succ, true_and])
  exact ⟨fun _ => hc, by simp [stampF, hin]⟩
theorem r_Stamp (G : Nat → AV) (t : Int) (h0 : -9223372036854775808 ≤ t) (h1 : t ≤ 9223372036854775807) (st : St) : ACalls (Ev G) 47 [.int .i64 t] st (fun e st' => st' = st ∧ (inT t = true → CivOk (t / 86400)) ∧ e = .ret (.str (stampF t))) := by
  refine ACalls.of_body Tryz.func47 rfl ?_
  rw [Tryz.ntmps47]
  simp only [List.length_cons, List.length_nil, Nat.reduceAdd, Nat.reduceSub, List.replicate_succ, List.replicate_zero, List.cons_append, List.nil_append]
  (repeat' (first | refine AW.seq ?_ | refine AW.scope ?_ | refine AW.label ?_ | refine AW.block ?_ | refine AW.skip ?_ | refine AW.exit ?_ | refine AW.ret ?_ | (refine AW.regionC fun Q' Kn hQ hK hK' => ?_; (repeat simp (disch := omega) only [go_sem, redN, Nat.reduceAdd, Int.reduceToNat, Int.reducePow]); (repeat' apply And.intro); (try any_goals (first | (refine hK _ _ ?_; clear hK' hQ hK Q' Kn) | (simp; done) | omega | (simp only [redL]; omega) | (simp; omega)))) | (refine AW.cond (by simp (disch := omega) only [go_sem, redN, Nat.reduceAdd, Int.reduceToNat, Int.reducePow]; rfl) (fun hb => ?_) (fun hb => ?_) <;> (try simp only [redB] at hb))))
  refine AOp.call rfl (by simp only [go_sem]; rfl) (by simp [go_sem]) rfl (ACalls.mono (by simp only [go_sem]; exact r_In G t _) ?_)
  rintro e st' ⟨rfl, rfl⟩
  rw [show (decide (-62135596800 ≤ t) && decide (t ≤ 253402300799)) = inT t from rfl]
  (refine AOpsC_ok hK' _ _ _ ?_; (repeat simp (disch := omega) only [go_sem, redN, Nat.reduceAdd, Int.reduceToNat, Int.reducePow]); (repeat' apply And.intro); (try any_goals (first | (refine hK _ _ ?_; clear hK' hQ hK Q' Kn) | (simp; done) | omega | (simp only [redL]; omega) | (simp; omega))))
  (repeat' (first | refine AW.seq ?_ | refine AW.scope ?_ | refine AW.label ?_ | refine AW.block ?_ | refine AW.skip ?_ | refine AW.exit ?_ | refine AW.ret ?_ | (refine AW.regionC fun Q' Kn hQ hK hK' => ?_; (repeat simp (disch := omega) only [go_sem, redN, Nat.reduceAdd, Int.reduceToNat, Int.reducePow]); (repeat' apply And.intro); (try any_goals (first | (refine hK _ _ ?_; clear hK' hQ hK Q' Kn) | (simp; done) | omega | (simp only [redL]; omega) | (simp; omega)))) | (refine AW.cond (by simp (disch := omega) only [go_sem, redN, Nat.reduceAdd, Int.reduceToNat, Int.reducePow]; rfl) (fun hb => ?_) (fun hb => ?_) <;> (try simp only [redB] at hb))))
  · (refine ⟨_, _, rfl, by simp, ?_⟩; simp only [aTup, AA.get, List.getD_cons_zero, List.getD_cons_succ, true_and])
    exact ⟨fun h => by simp [h] at hb, by simp [stampF, hb]⟩
  have hin : inT t = true := by simpa using hb
  have hi2 : -62135596800 ≤ t ∧ t ≤ 253402300799 := by simpa [inT] using hin
  refine AOp.call rfl (by simp only [go_sem]; rfl) (by simp [go_sem]) rfl (ACalls.mono (by simp only [go_sem]; exact r_Parts G t h0 h1 _) ?_)
  rintro e st' ⟨rfl, rfl⟩
  (refine AOpsC_ok hK' _ _ _ ?_; (repeat simp (disch := omega) only [go_sem, redN, Nat.reduceAdd, Int.reduceToNat, Int.reducePow]); (repeat' apply And.intro); (try any_goals (first | (refine hK _ _ ?_; clear hK' hQ hK Q' Kn) | (simp; done) | omega | (simp only [redL]; omega) | (simp; omega))))
  (repeat' (first | refine AW.seq ?_ | refine AW.scope ?_ | refine AW.label ?_ | refine AW.block ?_ | refine AW.skip ?_ | refine AW.exit ?_ | refine AW.ret ?_ | (refine AW.regionC fun Q' Kn hQ hK hK' => ?_; (repeat simp (disch := omega) only [go_sem, redN, Nat.reduceAdd, Int.reduceToNat, Int.reducePow]); (repeat' apply And.intro); (try any_goals (first | (refine hK _ _ ?_; clear hK' hQ hK Q' Kn) | (simp; done) | omega | (simp only [redL]; omega) | (simp; omega)))) | (refine AW.cond (by simp (disch := omega) only [go_sem, redN, Nat.reduceAdd, Int.reduceToNat, Int.reducePow]; rfl) (fun hb => ?_) (fun hb => ?_) <;> (try simp only [redB] at hb))))
  refine AOp.call rfl (by simp only [go_sem]; rfl) (by simp [go_sem]) rfl (ACalls.mono (by simp only [go_sem]; exact r_Day G (t / 86400) (by omega) (by omega) _) ?_)
  rintro e st' ⟨rfl, hc, rfl⟩
  have hdl := dayF_length (t / 86400)
  (refine AOpsC_ok hK' _ _ _ ?_; (repeat simp (disch := omega) only [go_sem, redN, Nat.reduceAdd, Int.reduceToNat, Int.reducePow]); (repeat' apply And.intro); (try any_goals (first | (refine hK _ _ ?_; clear hK' hQ hK Q' Kn) | (simp; done) | omega | (simp only [redL]; omega) | (simp; omega))))
  refine AOp.call rfl (by simp only [go_sem]; rfl) (by simp [go_sem]) rfl (ACalls.mono (by simp only [go_sem]; exact r_PadI G (t % 86400 / 3600) 2 (by omega) (by omega) (by omega) _) ?_)
  rintro e st' ⟨rfl, rfl⟩
  (refine AOpsC_ok hK' _ _ _ ?_; (repeat simp (disch := omega) only [go_sem, redN, Nat.reduceAdd, Int.reduceToNat, Int.reducePow]); (repeat' apply And.intro); (try any_goals (first | (refine hK _ _ ?_; clear hK' hQ hK Q' Kn) | (simp; done) | omega | (simp only [redL]; omega) | (simp; omega))))
  refine AOp.call rfl (by simp only [go_sem]; rfl) (by simp [go_sem]) rfl (ACalls.mono (by simp only [go_sem]; exact r_PadI G (t % 86400 / 60 % 60) 2 (by omega) (by omega) (by omega) _) ?_)
  rintro e st' ⟨rfl, rfl⟩
  (refine AOpsC_ok hK' _ _ _ ?_; (repeat simp (disch := omega) only [go_sem, redN, Nat.reduceAdd, Int.reduceToNat, Int.reducePow]); (repeat' apply And.intro); (try any_goals (first | (refine hK _ _ ?_; clear hK' hQ hK Q' Kn) | (simp; done) | omega | (simp only [redL]; omega) | (simp; omega))))
  refine AOp.call rfl (by simp only [go_sem]; rfl) (by simp [go_sem]) rfl (ACalls.mono (by simp only [go_sem]; exact r_PadI G (t % 86400 % 60) 2 (by omega) (by omega) (by omega) _) ?_)
  rintro e st' ⟨rfl, rfl⟩
  (refine AOpsC_ok hK' _ _ _ ?_; (repeat simp (disch := omega) only [go_sem, redN, Nat.reduceAdd, Int.reduceToNat, Int.reducePow]); (repeat' apply And.intro); (try any_goals (first | (refine hK _ _ ?_; clear hK' hQ hK Q' Kn) | (simp; done) | omega | (simp only [redL]; omega) | (simp; omega))))
  (repeat' (first | refine AW.seq ?_ | refine AW.scope ?_ | refine AW.label ?_ | refine AW.block ?_ | refine AW.skip ?_ | refine AW.exit ?_ | refine AW.ret ?_ | (refine AW.regionC fun Q' Kn hQ hK hK' => ?_; (repeat simp (disch := omega) only [go_sem, redN, Nat.reduceAdd, Int.reduceToNat, Int.reducePow]); (repeat' apply And.intro); (try any_goals (first | (refine hK _ _ ?_; clear hK' hQ hK Q' Kn) | (simp; done) | omega | (simp only [redL]; omega) | (simp; omega)))) | (refine AW.cond (by simp (disch := omega) only [go_sem, redN, Nat.reduceAdd, Int.reduceToNat, Int.reducePow]; rfl) (fun hb => ?_) (fun hb => ?_) <;> (try simp only [redB] at hb))))
  (refine ⟨_, _, rfl, by simp, ?_⟩; simp only [aTup, AA.get, List.getD_cons_zero, List.getD_cons_succ, true_and])
  exact ⟨fun _ => hc, by simp [stampF, hin, clockT]⟩
def fieldN (s : List UInt8) (a n : Nat) : Int := if (number ((s.drop a).take n) 9999).2 then (number ((s.drop a).take n) 9999).1 else -1
theorem t_field (G : Nat → AV) (s : List UInt8) (a n : Nat) (ha : a + n ≤ s.length) (hs : s.length ≤ 1000) (st : St) : ACalls (Ev G) 41 [.str s, .int .i64 a, .int .i64 n] st (fun e st' => st' = st ∧ e = .ret (.int .i64 (fieldN s a n))) := by
  refine ACalls.of_body Tryz.func41 rfl ?_
  rw [Tryz.ntmps41]
  simp only [List.length_cons, List.length_nil, Nat.reduceAdd, Nat.reduceSub, List.replicate_succ, List.replicate_zero, List.cons_append, List.nil_append]
  (repeat' (first | refine AW.seq ?_ | refine AW.scope ?_ | refine AW.label ?_ | refine AW.block ?_ | refine AW.skip ?_ | refine AW.exit ?_ | refine AW.ret ?_ | (refine AW.regionC fun Q' Kn hQ hK hK' => ?_; (repeat simp (disch := omega) only [go_sem, redN, Nat.reduceAdd, Int.reduceToNat, Int.reducePow]); (repeat' apply And.intro); (try any_goals (first | (refine hK _ _ ?_; clear hK' hQ hK Q' Kn) | (simp; done) | omega | (simp only [redL]; omega) | (simp; omega)))) | (refine AW.cond (by simp (disch := omega) only [go_sem, redN, Nat.reduceAdd, Int.reduceToNat, Int.reducePow]; rfl) (fun hb => ?_) (fun hb => ?_) <;> (try simp only [redB] at hb))))
  rw [show ((a : Int) + (n : Int)).toNat - a = n from by omega]
  refine AOp.call rfl (by simp only [go_sem]; rfl) (by simp [go_sem]) rfl (ACalls.mono (by simp only [go_sem]; exact t_Number G ((s.drop a).take n) 9999 (by simp; omega) _) ?_)
  rintro e st' ⟨rfl, rfl⟩
  (refine AOpsC_ok hK' _ _ _ ?_; (repeat simp (disch := omega) only [go_sem, redN, Nat.reduceAdd, Int.reduceToNat, Int.reducePow]); (repeat' apply And.intro); (try any_goals (first | (refine hK _ _ ?_; clear hK' hQ hK Q' Kn) | (simp; done) | omega | (simp only [redL]; omega) | (simp; omega))))
  (repeat' (first | refine AW.seq ?_ | refine AW.scope ?_ | refine AW.label ?_ | refine AW.block ?_ | refine AW.skip ?_ | refine AW.exit ?_ | refine AW.ret ?_ | (refine AW.regionC fun Q' Kn hQ hK hK' => ?_; (repeat simp (disch := omega) only [go_sem, redN, Nat.reduceAdd, Int.reduceToNat, Int.reducePow]); (repeat' apply And.intro); (try any_goals (first | (refine hK _ _ ?_; clear hK' hQ hK Q' Kn) | (simp; done) | omega | (simp only [redL]; omega) | (simp; omega)))) | (refine AW.cond (by simp (disch := omega) only [go_sem, redN, Nat.reduceAdd, Int.reduceToNat, Int.reducePow]; rfl) (fun hb => ?_) (fun hb => ?_) <;> (try simp only [redB] at hb))))
  · (refine ⟨_, _, rfl, by simp, ?_⟩; simp only [aTup, AA.get, List.getD_cons_zero, List.getD_cons_succ, true_and])
    simp [fieldN, hb]
  · (refine ⟨_, _, rfl, by simp, ?_⟩; simp only [aTup, AA.get, List.getD_cons_zero, List.getD_cons_succ, true_and])
    simp [fieldN, hb]
theorem numL_bound : ∀ (s : List UInt8) (a x : Nat), numL s a = some x → x < (a + 1) * 10 ^ s.length
  | [], a, x, h => by simp only [numL, Option.some.injEq] at h; subst h; simp
  | c :: cs, a, x, h => by
    have hb8 : c.toNat < 256 := UInt8.toNat_lt _
    rw [numL] at h
    split at h
    · cases h
    · have := numL_bound cs _ _ h
      refine Nat.lt_of_lt_of_le this ?_
      rw [List.length_cons, Nat.pow_succ, Nat.mul_comm (10 ^ cs.length), ← Nat.mul_assoc]
      exact Nat.mul_le_mul_right _ (by omega)
theorem number_nonneg (s : List UInt8) (m : Int) : 0 ≤ (number s m).1 := by
  unfold number
  split
  · simp
  · split
    · simp
    · split <;> simp
theorem number_lt (s : List UInt8) (m : Int) : (number s m).1 < 10 ^ s.length := by
  have hp : (0 : Int) < 10 ^ s.length := Int.pow_pos (by omega)
  unfold number
  split
  · exact hp
  · split
    · exact hp
    · rename_i n hn
      have := numL_bound _ _ _ hn
      split
      · exact hp
      · have h2 : ((n : Nat) : Int) < ((10 ^ s.length : Nat) : Int) := by exact_mod_cast (by simpa using this)
        simpa using h2
theorem fieldN_bounds (s : List UInt8) (a n : Nat) : -1 ≤ fieldN s a n ∧ fieldN s a n < 10 ^ n := by
  have h1 := number_nonneg ((s.drop a).take n) 9999
  have h2 := number_lt ((s.drop a).take n) 9999
  have h3 : (10 : Int) ^ ((s.drop a).take n).length ≤ 10 ^ n := by
    have : (10 : Nat) ^ ((s.drop a).take n).length ≤ 10 ^ n := Nat.pow_le_pow_right (by omega) (List.length_take_le _ _)
    have h4 : ((10 ^ ((s.drop a).take n).length : Nat) : Int) ≤ ((10 ^ n : Nat) : Int) := by exact_mod_cast this
    simpa using h4
  have hp : (0 : Int) < 10 ^ n := Int.pow_pos (by omega)
  unfold fieldN
  split <;> omega
def readDay (s : List UInt8) : Int × Int := if s.length = 8 then (if (days (fieldN s 0 4) (fieldN s 4 2) (fieldN s 6 2)).2 then ((days (fieldN s 0 4) (fieldN s 4 2) (fieldN s 6 2)).1, 0) else (0, 10)) else (0, 10)
theorem t_ReadDay (G : Nat → AV) (s : List UInt8) (st : St) : ACalls (Ev G) 40 [.str s] st (fun e st' => st' = st ∧ e = .ret (.tup [.int .i64 (readDay s).1, .int .i64 (readDay s).2])) := by
  refine ACalls.of_body Tryz.func40 rfl ?_
  rw [Tryz.ntmps40]
  simp only [List.length_cons, List.length_nil, Nat.reduceAdd, Nat.reduceSub, List.replicate_succ, List.replicate_zero, List.cons_append, List.nil_append]
  (repeat' (first | refine AW.seq ?_ | refine AW.scope ?_ | refine AW.label ?_ | refine AW.block ?_ | refine AW.skip ?_ | refine AW.exit ?_ | refine AW.ret ?_ | (refine AW.regionC fun Q' Kn hQ hK hK' => ?_; (repeat simp (disch := omega) only [go_sem, redN, Nat.reduceAdd, Int.reduceToNat, Int.reducePow]); (repeat' apply And.intro); (try any_goals (first | (refine hK _ _ ?_; clear hK' hQ hK Q' Kn) | (simp; done) | omega | (simp only [redL]; omega) | (simp; omega)))) | (refine AW.cond (by simp (disch := omega) only [go_sem, redN, Nat.reduceAdd, Int.reduceToNat, Int.reducePow]; rfl) (fun hb => ?_) (fun hb => ?_) <;> (try simp only [redB] at hb))))
  · (refine ⟨_, _, rfl, by simp, ?_⟩; simp only [aTup, AA.get, List.getD_cons_zero, List.getD_cons_succ, true_and])
    rw [readDay, if_neg (by omega)]
  have h8 : s.length = 8 := by omega
  have f1 := fieldN_bounds s 0 4
  have f2 := fieldN_bounds s 4 2
  have f3 := fieldN_bounds s 6 2
  refine AOp.call rfl (by simp only [go_sem]; rfl) (by simp [go_sem]) rfl (ACalls.mono (by simp only [go_sem]; exact t_field G s 0 4 (by omega) (by omega) _) ?_)
  rintro e st' ⟨rfl, rfl⟩
  (refine AOpsC_ok hK' _ _ _ ?_; (repeat simp (disch := omega) only [go_sem, redN, Nat.reduceAdd, Int.reduceToNat, Int.reducePow]); (repeat' apply And.intro); (try any_goals (first | (refine hK _ _ ?_; clear hK' hQ hK Q' Kn) | (simp; done) | omega | (simp only [redL]; omega) | (simp; omega))))
  refine AOp.call rfl (by simp only [go_sem]; rfl) (by simp [go_sem]) rfl (ACalls.mono (by simp only [go_sem]; exact t_field G s 4 2 (by omega) (by omega) _) ?_)
  rintro e st' ⟨rfl, rfl⟩
  (refine AOpsC_ok hK' _ _ _ ?_; (repeat simp (disch := omega) only [go_sem, redN, Nat.reduceAdd, Int.reduceToNat, Int.reducePow]); (repeat' apply And.intro); (try any_goals (first | (refine hK _ _ ?_; clear hK' hQ hK Q' Kn) | (simp; done) | omega | (simp only [redL]; omega) | (simp; omega))))
  refine AOp.call rfl (by simp only [go_sem]; rfl) (by simp [go_sem]) rfl (ACalls.mono (by simp only [go_sem]; exact t_field G s 6 2 (by omega) (by omega) _) ?_)
  rintro e st' ⟨rfl, rfl⟩
  (refine AOpsC_ok hK' _ _ _ ?_; (repeat simp (disch := omega) only [go_sem, redN, Nat.reduceAdd, Int.reduceToNat, Int.reducePow]); (repeat' apply And.intro); (try any_goals (first | (refine hK _ _ ?_; clear hK' hQ hK Q' Kn) | (simp; done) | omega | (simp only [redL]; omega) | (simp; omega))))
  refine AOp.call rfl (by simp only [go_sem]; rfl) (by simp [go_sem]) rfl (ACalls.mono (by simp only [go_sem]; exact t_Days G (fieldN s 0 4) (fieldN s 4 2) (fieldN s 6 2) (by omega) (by omega) _) ?_)
  rintro e st' ⟨rfl, rfl⟩
  (refine AOpsC_ok hK' _ _ _ ?_; (repeat simp (disch := omega) only [go_sem, redN, Nat.reduceAdd, Int.reduceToNat, Int.reducePow]); (repeat' apply And.intro); (try any_goals (first | (refine hK _ _ ?_; clear hK' hQ hK Q' Kn) | (simp; done) | omega | (simp only [redL]; omega) | (simp; omega))))
  (repeat' (first | refine AW.seq ?_ | refine AW.scope ?_ | refine AW.label ?_ | refine AW.block ?_ | refine AW.skip ?_ | refine AW.exit ?_ | refine AW.ret ?_ | (refine AW.regionC fun Q' Kn hQ hK hK' => ?_; (repeat simp (disch := omega) only [go_sem, redN, Nat.reduceAdd, Int.reduceToNat, Int.reducePow]); (repeat' apply And.intro); (try any_goals (first | (refine hK _ _ ?_; clear hK' hQ hK Q' Kn) | (simp; done) | omega | (simp only [redL]; omega) | (simp; omega)))) | (refine AW.cond (by simp (disch := omega) only [go_sem, redN, Nat.reduceAdd, Int.reduceToNat, Int.reducePow]; rfl) (fun hb => ?_) (fun hb => ?_) <;> (try simp only [redB] at hb))))
  · (refine ⟨_, _, rfl, by simp, ?_⟩; simp only [aTup, AA.get, List.getD_cons_zero, List.getD_cons_succ, true_and])
    rw [readDay, if_pos h8, if_neg (by simp [hb])]
  · (refine ⟨_, _, rfl, by simp, ?_⟩; simp only [aTup, AA.get, List.getD_cons_zero, List.getD_cons_succ, true_and])
    rw [readDay, if_pos h8, if_pos (by simpa using hb)]
end Go.Almanac

/- Dates, plain: numerals and what is read of them. -/
namespace Go.Almanac
open Go.RowKit Go.Proofs Go.Abs
theorem padN_app (a : Nat) : ∀ (b n : Nat), padN (a + b) n = padN a (n / 10 ^ b) ++ padN b n
  | 0, n => by simp [padN]
  | b + 1, n => by
    rw [show a + (b + 1) = (a + b) + 1 from by omega, padN, padN_app a b, padN, List.append_assoc, Nat.div_div_eq_div_mul, Nat.pow_succ, Nat.mul_comm (10 ^ b)]
theorem padN_mod : ∀ (b a r : Nat), padN b (a * 10 ^ b + r) = padN b r
  | 0, a, r => rfl
  | b + 1, a, r => by
    have h1 : (a * 10 ^ (b + 1) + r) / 10 = a * 10 ^ b + r / 10 := by rw [Nat.pow_succ, ← Nat.mul_assoc]; omega
    have h2 : (a * 10 ^ (b + 1) + r) % 10 = r % 10 := by rw [Nat.pow_succ, ← Nat.mul_assoc]; omega
    rw [padN, padN, h1, h2, padN_mod b]
theorem padN_mod' (b n : Nat) : padN b (n % 10 ^ b) = padN b n := by
  have := padN_mod b (n / 10 ^ b) (n % 10 ^ b)
  rw [← this, Nat.mul_comm, Nat.div_add_mod]
theorem numL_app : ∀ (s t : List UInt8) (n : Nat), numL (s ++ t) n = (numL s n).bind (numL t)
  | [], t, n => rfl
  | c :: s, t, n => by
    rw [List.cons_append, numL, numL]
    split
    · rfl
    · exact numL_app s t _
theorem numL_pad : ∀ (w x n : Nat), numL (padN w x) n = some (n * 10 ^ w + x % 10 ^ w)
  | 0, x, n => by simp [padN, numL, Nat.mod_one]
  | w + 1, x, n => by
    have hd : (UInt8.ofNat (48 + x % 10)).toNat = 48 + x % 10 := by simp only [UInt8.toNat_ofNat']; omega
    have hm : x % 10 ^ (w + 1) = x / 10 % 10 ^ w * 10 + x % 10 := by
      rw [Nat.pow_succ, Nat.mul_comm, Nat.mod_mul]; omega
    rw [padN, numL_app, numL_pad w]
    simp only [Option.bind_some, numL, hd]
    rw [if_neg (by omega), hm, Nat.pow_succ, Nat.add_mul, Nat.mul_assoc]
    congr 1
    omega
theorem numL_inv : ∀ (s : List UInt8) (n v : Nat), numL s n = some v → ∃ r, r < 10 ^ s.length ∧ v = n * 10 ^ s.length + r ∧ s = padN s.length r
  | [], n, v, h => ⟨0, by simp, by simp only [numL, Option.some.injEq] at h; simp [h], rfl⟩
  | c :: s, n, v, h => by
    rw [numL] at h
    split at h
    · cases h
    · obtain ⟨r, h1, h2, h3⟩ := numL_inv s _ v h
      have hp : 0 < 10 ^ s.length := Nat.pow_pos (by omega)
      refine ⟨(c.toNat - 48) * 10 ^ s.length + r, ?_, ?_, ?_⟩
      · rw [List.length_cons, Nat.pow_succ]
        have : (c.toNat - 48) * 10 ^ s.length ≤ 9 * 10 ^ s.length := Nat.mul_le_mul_right _ (by omega)
        omega
      · rw [h2, List.length_cons, Nat.pow_succ, Nat.add_mul, Nat.mul_assoc, Nat.mul_comm 10 (10 ^ s.length)]; omega
      · rw [List.length_cons, padN_front, padN_mod, ← h3, Nat.add_comm _ r, Nat.add_mul_div_right _ _ hp, Nat.div_eq_of_lt h1, Nat.zero_add, Nat.mod_eq_of_lt (by omega), show 48 + (c.toNat - 48) = c.toNat from by omega]
        simp
theorem number_pad (w x : Nat) (most : Int) (hw : 1 ≤ w) (hw2 : w ≤ 18) (hx : x < 10 ^ w) (hm : (x : Int) ≤ most) : number (padN w x) most = ((x : Int), true) := by
  have hn : padN w x ≠ [] := fun e => by have := padN_length w x; rw [e] at this; simp at this; omega
  rw [number, if_neg (by rw [padN_length]; omega), numL_pad, Nat.zero_mul, Nat.zero_add, Nat.mod_eq_of_lt hx]
  dsimp only
  rw [if_neg (by rintro (h | h); exact hn h; omega)]
theorem number_some {s : List UInt8} (most : Int) (h : (number s most).2 = true) : ∃ x, x < 10 ^ s.length ∧ s = padN s.length x ∧ (number s most).1 = x ∧ (x : Int) ≤ most ∧ s ≠ [] ∧ s.length ≤ 18 := by
  unfold number at h ⊢
  split at h
  · cases h
  · rename_i hl
    rw [if_neg hl]
    split at h
    · cases h
    · rename_i n hn
      obtain ⟨r, h1, h2, h3⟩ := numL_inv _ _ _ hn
      rw [Nat.zero_mul, Nat.zero_add] at h2
      subst h2
      split at h
      · cases h
      · rename_i hc
        rw [if_neg hc]
        exact ⟨n, h1, h3, rfl, by omega, fun e => hc (.inl e), by omega⟩
theorem fieldN_pad {s : List UInt8} {a n x : Nat} (hn : 1 ≤ n) (hn4 : n ≤ 4) (hx : x < 10 ^ n) (h : (s.drop a).take n = padN n x) : fieldN s a n = x := by
  have hx2 : (x : Int) ≤ 9999 := by
    have : 10 ^ n ≤ 10 ^ 4 := Nat.pow_le_pow_right (by omega) hn4
    omega
  rw [fieldN, h, number_pad n x 9999 hn (by omega) hx hx2]; rfl
theorem fieldN_some {s : List UInt8} {a n : Nat} (hl : a + n ≤ s.length) (h : 0 ≤ fieldN s a n) : ∃ x : Nat, x < 10 ^ n ∧ (s.drop a).take n = padN n x ∧ fieldN s a n = x := by
  have hlen : ((s.drop a).take n).length = n := by simp; omega
  unfold fieldN at h ⊢
  split at h
  · rename_i hb
    obtain ⟨x, h1, h2, h3, _⟩ := number_some 9999 hb
    rw [hlen] at h1 h2
    rw [if_pos hb]
    exact ⟨x, h1, h2, h3⟩
  · omega
def readDayR (s : List UInt8) : Int × Int := if s.length = 8 ∧ (number s 99999999).2 = true ∧ (days ((number s 99999999).1 / 10000) ((number s 99999999).1 / 100 % 100) ((number s 99999999).1 % 100)).2 = true then ((days ((number s 99999999).1 / 10000) ((number s 99999999).1 / 100 % 100) ((number s 99999999).1 % 100)).1, 0) else (0, 10)
theorem days_ok {y m d : Int} (h : (days y m d).2 = true) : 1 ≤ y ∧ y ≤ 9999 ∧ 1 ≤ m ∧ m ≤ 12 ∧ 1 ≤ d ∧ d ≤ mlen y m ∧ (days y m d).1 = first y + psum y (m - 1).toNat + d - 1 := by
  unfold days at h ⊢
  split at h
  · cases h
  · rename_i hc
    have := mlen_pos (y := y) (m := m) (by omega)
    rw [if_neg hc]
    exact ⟨by omega, by omega, by omega, by omega, by omega, by omega, rfl⟩
theorem pieces8 {s : List UInt8} {x y z : Nat} (h : s.length = 8) (h1 : (s.drop 0).take 4 = padN 4 x) (h2 : (s.drop 4).take 2 = padN 2 y) (h3 : (s.drop 6).take 2 = padN 2 z) : s = padN 4 x ++ padN 2 y ++ padN 2 z := by
  rw [← h1, ← h2, ← h3]
  have e1 : s = s.take 4 ++ s.drop 4 := (List.take_append_drop 4 s).symm
  have e2 : s.drop 4 = (s.drop 4).take 2 ++ (s.drop 4).drop 2 := (List.take_append_drop 2 _).symm
  have e3 : (s.drop 6).take 2 = s.drop 6 := List.take_of_length_le (by simp; omega)
  rw [e3, List.drop_zero, List.append_assoc]
  rw [List.drop_drop] at e2
  rw [← e2, ← e1]
end Go.Almanac

/- Dates: the document's reading of days and stamps; the program's reading of stamps. -/
namespace Go.Almanac
open Go.RowKit Go.Proofs Go.Abs
def clockN (h m s : Int) : Int := if h > 23 ∨ m > 59 ∨ s > 59 then -1 else h * 3600 + m * 60 + s
def stampN (s : List UInt8) : Int := (readDay (s.take 8)).1 * 86400 + fieldN s 9 2 * 3600 + fieldN s 11 2 * 60 + fieldN s 13 2
noncomputable def readStamp (s : List UInt8) : Int × Int := if s.length = 15 ∧ (readDay (s.take 8)).2 = 0 ∧ stampF (stampN s) = s then (stampN s, 0) else (0, 10)
theorem readDay_bounds (s : List UInt8) : -719162 ≤ (readDay s).1 ∧ (readDay s).1 ≤ 2932927 := by
  unfold readDay
  split
  · split
    · rename_i h
      obtain ⟨q1, q2, q3, q4, q5, q6, q7⟩ := days_ok h
      have hf := first_bounds q1 (by omega)
      have hp := psum_mono (fieldN s 0 4) (j := (fieldN s 4 2 - 1).toNat + 1) (k := 12) (by omega)
      rw [psum, ← mlen_get (by omega) ⟨q3, q4⟩] at hp
      have hpb := psum_bounds (fieldN s 0 4) (fieldN s 4 2 - 1).toNat
      have hn := first_next q1
      have hf2 := first_bounds (y := fieldN s 0 4 + 1) (by omega) (by omega)
      dsimp only
      rw [q7]
      omega
    · simp
  · simp
theorem t_ReadStamp (G : Nat → AV) (s : List UInt8) (st : St) : ACalls (Ev G) 21 [.str s] st (fun e st' => st' = st ∧ e = .ret (.tup [.int .i64 (readStamp s).1, .int .i64 (readStamp s).2])) := by
  have hrb := readDay_bounds (s.take 8)
  have f1 := fieldN_bounds s 9 2
  have f2 := fieldN_bounds s 11 2
  have f3 := fieldN_bounds s 13 2
  refine ACalls.of_body Tryz.func21 rfl ?_
  rw [Tryz.ntmps21]
  simp only [List.length_cons, List.length_nil, Nat.reduceAdd, Nat.reduceSub, List.replicate_succ, List.replicate_zero, List.cons_append, List.nil_append]
  (repeat' (first | refine AW.seq ?_ | refine AW.scope ?_ | refine AW.label ?_ | refine AW.block ?_ | refine AW.skip ?_ | refine AW.exit ?_ | refine AW.ret ?_ | (refine AW.regionC fun Q' Kn hQ hK hK' => ?_; (repeat simp (disch := omega) only [go_sem, redN, Nat.reduceAdd, Int.reduceToNat, Int.reducePow]); (repeat' apply And.intro); (try any_goals (first | (refine hK _ _ ?_; clear hK' hQ hK Q' Kn) | (simp; done) | omega | (simp only [redL]; omega) | (simp; omega)))) | (refine AW.cond (by simp (disch := omega) only [go_sem, redN, Nat.reduceAdd, Int.reduceToNat, Int.reducePow]; rfl) (fun hb => ?_) (fun hb => ?_) <;> (try simp only [redB] at hb))))
  · (refine ⟨_, _, rfl, by simp, ?_⟩; simp only [aTup, AA.get, List.getD_cons_zero, List.getD_cons_succ, true_and])
    rw [readStamp, if_neg (fun h => by omega)]
  have h15 : s.length = 15 := by omega
  refine AOp.call rfl (by simp only [go_sem]; rfl) (by simp [go_sem]) rfl (ACalls.mono (by simp only [go_sem]; exact t_ReadDay G (s.take 8) _) ?_)
  rintro e st' ⟨rfl, rfl⟩
  (refine AOpsC_ok hK' _ _ _ ?_; (repeat simp (disch := omega) only [go_sem, redN, Nat.reduceAdd, Int.reduceToNat, Int.reducePow]); (repeat' apply And.intro); (try any_goals (first | (refine hK _ _ ?_; clear hK' hQ hK Q' Kn) | (simp; done) | omega | (simp only [redL]; omega) | (simp; omega))))
  (repeat' (first | refine AW.seq ?_ | refine AW.scope ?_ | refine AW.label ?_ | refine AW.block ?_ | refine AW.skip ?_ | refine AW.exit ?_ | refine AW.ret ?_ | (refine AW.regionC fun Q' Kn hQ hK hK' => ?_; (repeat simp (disch := omega) only [go_sem, redN, Nat.reduceAdd, Int.reduceToNat, Int.reducePow]); (repeat' apply And.intro); (try any_goals (first | (refine hK _ _ ?_; clear hK' hQ hK Q' Kn) | (simp; done) | omega | (simp only [redL]; omega) | (simp; omega)))) | (refine AW.cond (by simp (disch := omega) only [go_sem, redN, Nat.reduceAdd, Int.reduceToNat, Int.reducePow]; rfl) (fun hb => ?_) (fun hb => ?_) <;> (try simp only [redB] at hb))))
  refine AOp.call rfl (by simp only [go_sem]; rfl) (by simp [go_sem]) rfl (ACalls.mono (by simp only [go_sem]; exact t_field G s 9 2 (by omega) (by omega) _) ?_)
  rintro e st' ⟨rfl, rfl⟩
  (refine AOpsC_ok hK' _ _ _ ?_; (repeat simp (disch := omega) only [go_sem, redN, Nat.reduceAdd, Int.reduceToNat, Int.reducePow]); (repeat' apply And.intro); (try any_goals (first | (refine hK _ _ ?_; clear hK' hQ hK Q' Kn) | (simp; done) | omega | (simp only [redL]; omega) | (simp; omega))))
  refine AOp.call rfl (by simp only [go_sem]; rfl) (by simp [go_sem]) rfl (ACalls.mono (by simp only [go_sem]; exact t_field G s 11 2 (by omega) (by omega) _) ?_)
  rintro e st' ⟨rfl, rfl⟩
  (refine AOpsC_ok hK' _ _ _ ?_; (repeat simp (disch := omega) only [go_sem, redN, Nat.reduceAdd, Int.reduceToNat, Int.reducePow]); (repeat' apply And.intro); (try any_goals (first | (refine hK _ _ ?_; clear hK' hQ hK Q' Kn) | (simp; done) | omega | (simp only [redL]; omega) | (simp; omega))))
  refine AOp.call rfl (by simp only [go_sem]; rfl) (by simp [go_sem]) rfl (ACalls.mono (by simp only [go_sem]; exact t_field G s 13 2 (by omega) (by omega) _) ?_)
  rintro e st' ⟨rfl, rfl⟩
  (refine AOpsC_ok hK' _ _ _ ?_; (repeat simp (disch := omega) only [go_sem, redN, Nat.reduceAdd, Int.reduceToNat, Int.reducePow]); (repeat' apply And.intro); (try any_goals (first | (refine hK _ _ ?_; clear hK' hQ hK Q' Kn) | (simp; done) | omega | (simp only [redL]; omega) | (simp; omega))))
  (repeat' (first | refine AW.seq ?_ | refine AW.scope ?_ | refine AW.label ?_ | refine AW.block ?_ | refine AW.skip ?_ | refine AW.exit ?_ | refine AW.ret ?_ | (refine AW.regionC fun Q' Kn hQ hK hK' => ?_; (repeat simp (disch := omega) only [go_sem, redN, Nat.reduceAdd, Int.reduceToNat, Int.reducePow]); (repeat' apply And.intro); (try any_goals (first | (refine hK _ _ ?_; clear hK' hQ hK Q' Kn) | (simp; done) | omega | (simp only [redL]; omega) | (simp; omega)))) | (refine AW.cond (by simp (disch := omega) only [go_sem, redN, Nat.reduceAdd, Int.reduceToNat, Int.reducePow]; rfl) (fun hb => ?_) (fun hb => ?_) <;> (try simp only [redB] at hb))))
  refine AOps.guard_call (f := 42) (v := .str (stampF (stampN s))) rfl rfl rfl rfl rfl (fun _ => (by simp only [go_sem] <;> rfl)) (fun h => by simpa [go_sem] using h) rfl (fun _ => by simp only [go_sem]; exact ACalls.mono (t_Stamp G (stampN s) (by unfold stampN; omega) (by unfold stampN; omega) _) (fun x st1 h => ⟨h.1, h.2.2⟩)) ?_
  (refine AOpsC_ok hK' _ _ _ ?_; (repeat simp (disch := omega) only [go_sem, redN, Nat.reduceAdd, Int.reduceToNat, Int.reducePow]); (repeat' apply And.intro); (try any_goals (first | (refine hK _ _ ?_; clear hK' hQ hK Q' Kn) | (simp; done) | omega | (simp only [redL]; omega) | (simp; omega))))
  (repeat' (first | refine AW.seq ?_ | refine AW.scope ?_ | refine AW.label ?_ | refine AW.block ?_ | refine AW.skip ?_ | refine AW.exit ?_ | refine AW.ret ?_ | (refine AW.regionC fun Q' Kn hQ hK hK' => ?_; (repeat simp (disch := omega) only [go_sem, redN, Nat.reduceAdd, Int.reduceToNat, Int.reducePow]); (repeat' apply And.intro); (try any_goals (first | (refine hK _ _ ?_; clear hK' hQ hK Q' Kn) | (simp; done) | omega | (simp only [redL]; omega) | (simp; omega)))) | (refine AW.cond (by simp (disch := omega) only [go_sem, redN, Nat.reduceAdd, Int.reduceToNat, Int.reducePow]; rfl) (fun hb => ?_) (fun hb => ?_) <;> (try simp only [redB] at hb))))
  · (refine ⟨_, _, rfl, by simp, ?_⟩; simp only [aTup, AA.get, List.getD_cons_zero, List.getD_cons_succ, true_and])
    rw [readStamp, if_neg (fun h => by rcases hb with hb | hb; exact hb h.2.1; exact hb h.2.2)]
  · (refine ⟨_, _, rfl, by simp, ?_⟩; simp only [aTup, AA.get, List.getD_cons_zero, List.getD_cons_succ, true_and])
    rw [readStamp, if_pos ⟨h15, hb⟩]; rfl
def readStampR (s : List UInt8) : Int × Int :=
  if s.length = 15 ∧ s.getD 8 0 = 84 ∧ (readDay (s.take 8)).2 = 0 ∧ (number (s.drop 9) 999999).2 = true ∧ 0 ≤ clockN ((number (s.drop 9) 999999).1 / 10000) ((number (s.drop 9) 999999).1 / 100 % 100) ((number (s.drop 9) 999999).1 % 100)
  then ((readDay (s.take 8)).1 * 86400 + clockN ((number (s.drop 9) 999999).1 / 10000) ((number (s.drop 9) 999999).1 / 100 % 100) ((number (s.drop 9) 999999).1 % 100), 0) else (0, 10)
end Go.Almanac

/- Dates, plain: what is written is read as it was. -/
namespace Go.Almanac
open Go.RowKit Go.Proofs Go.Abs
theorem civ_ok {n : Int} (h : (civ n).2.2.2 = true) : CivOk n := by
  unfold civ at h
  split at h
  · rename_i hx
    have e : civ n = hx.choose := by rw [civ, dif_pos hx]
    rw [CivOk, e]; exact hx.choose_spec
  · cases h
theorem days_civil {n y m d : Int} (h : IsCivil n y m d) : days y m d = (n, true) := by
  obtain ⟨h1, h2, h3, h4, h5, h6, h7⟩ := h
  rw [days, if_neg (by omega), h7]
theorem civil_of_days {y m d : Int} (h : (days y m d).2 = true) : -719162 ≤ (days y m d).1 ∧ (days y m d).1 ≤ 2932896 ∧ IsCivil (days y m d).1 y m d := by
  obtain ⟨q1, q2, q3, q4, q5, q6, q7⟩ := days_ok h
  have hic : IsCivil (days y m d).1 y m d := ⟨q1, q2, q3, q4, q5, q6, q7.symm⟩
  obtain ⟨w1, w2⟩ := isCivil_year hic
  have f1 := first_bounds q1 (by omega)
  have f2 := first_bounds (y := y + 1) (by omega) (by omega)
  exact ⟨by omega, by omega, hic⟩
theorem civ_of_days {y m d : Int} (h : (days y m d).2 = true) : civ (days y m d).1 = (y, m, d, true) := by
  obtain ⟨h1, h2, h3⟩ := civil_of_days h
  exact civ_eq (.inr ⟨rfl, h1, h2, h3⟩)
theorem readDay_dayF {n : Int} (h : (civ n).2.2.2 = true) : readDay (dayF n) = (n, 0) := by
  obtain ⟨q1, q2, q3⟩ := civ_in (civ_ok h) h
  have hb := civ_bounds (civ_ok h) h
  have hd := days_civil q3
  rw [dayF, if_pos h]
  have f1 : fieldN (pad 4 (civ n).1 ++ pad 2 (civ n).2.1 ++ pad 2 (civ n).2.2.1) 0 4 = ((civ n).1.toNat : Int) := fieldN_pad (by omega) (by omega) (by omega) (by rw [List.drop_zero, List.append_assoc]; exact List.take_left' (pad_length _ _))
  have f2 : fieldN (pad 4 (civ n).1 ++ pad 2 (civ n).2.1 ++ pad 2 (civ n).2.2.1) 4 2 = ((civ n).2.1.toNat : Int) := fieldN_pad (by omega) (by omega) (by omega) (by rw [List.append_assoc, List.drop_left' (pad_length _ _)]; exact List.take_left' (pad_length _ _))
  have f3 : fieldN (pad 4 (civ n).1 ++ pad 2 (civ n).2.1 ++ pad 2 (civ n).2.2.1) 6 2 = ((civ n).2.2.1.toNat : Int) := fieldN_pad (by omega) (by omega) (by omega) (by rw [List.drop_left' (by simp)]; exact List.take_of_length_le (by simp))
  rw [readDay, if_pos (by simp), f1, f2, f3, Int.toNat_of_nonneg (by omega), Int.toNat_of_nonneg (by omega), Int.toNat_of_nonneg (by omega), hd]
  rfl
theorem dayF_len {n : Int} (h : (civ n).2.2.2 = true) : (dayF n).length = 8 := by rw [dayF, if_pos h]; simp
theorem readDay_inv {s : List UInt8} (h : (readDay s).2 = 0) : s.length = 8 ∧ (civ (readDay s).1).2.2.2 = true ∧ dayF (readDay s).1 = s ∧ -719162 ≤ (readDay s).1 ∧ (readDay s).1 ≤ 2932896 := by
  unfold readDay at h ⊢
  split at h
  · rename_i h8
    split at h
    · rename_i hd
      rw [if_pos h8, if_pos hd]
      dsimp only
      obtain ⟨q1, q2, q3, q4, q5, q6, _⟩ := days_ok hd
      have b1 := fieldN_bounds s 0 4
      have b2 := fieldN_bounds s 4 2
      have b3 := fieldN_bounds s 6 2
      obtain ⟨x, x1, x2, x3⟩ := fieldN_some (s := s) (a := 0) (n := 4) (by omega) (by omega)
      obtain ⟨y, y1, y2, y3⟩ := fieldN_some (s := s) (a := 4) (n := 2) (by omega) (by omega)
      obtain ⟨z, z1, z2, z3⟩ := fieldN_some (s := s) (a := 6) (n := 2) (by omega) (by omega)
      have hc := civ_of_days hd
      obtain ⟨w1, w2, _⟩ := civil_of_days hd
      refine ⟨h8, by rw [hc], ?_, w1, w2⟩
      rw [dayF, hc, if_pos rfl]
      dsimp only
      rw [x3, y3, z3, pad, pad, pad, Int.toNat_natCast, Int.toNat_natCast, Int.toNat_natCast]
      exact (pieces8 h8 x2 y2 z2).symm
    · cases h
  · cases h
theorem clock6 {r : Int} (h0 : 0 ≤ r) (h1 : r < 86400) : clockT r [] = padN 6 ((r / 3600 * 10000 + r / 60 % 60 * 100 + r % 60).toNat) := by
  rw [padN_app 4 2, padN_app 2 2, clockT, List.append_nil, List.append_nil, pad, pad, pad]
  have e1 : (r / 3600 * 10000 + r / 60 % 60 * 100 + r % 60).toNat = ((r / 3600).toNat * 100 + (r / 60 % 60).toNat) * 10 ^ 2 + (r % 60).toNat := by omega
  have e2 : (((r / 3600).toNat * 100 + (r / 60 % 60).toNat) * 10 ^ 2 + (r % 60).toNat) / 10 ^ 2 = (r / 3600).toNat * 10 ^ 2 + (r / 60 % 60).toNat := by omega
  have e3 : ((r / 3600).toNat * 10 ^ 2 + (r / 60 % 60).toNat) / 10 ^ 2 = (r / 3600).toNat := by omega
  rw [e1, padN_mod 2, e2, padN_mod 2, e3]
theorem stamp_split {s d c : List UInt8} (h : s = d ++ [84] ++ c) (hd : d.length = 8) : s.take 8 = d ∧ s.getD 8 0 = 84 ∧ s.drop 9 = c := by
  subst h
  refine ⟨by rw [List.append_assoc]; exact List.take_left' hd, ?_, List.drop_left' (by simp [hd])⟩
  simp [List.getD, List.getElem?_append, hd]
theorem stamp_join {s : List UInt8} (h : s.length = 15) (h8 : s.getD 8 0 = 84) : s = s.take 8 ++ [84] ++ s.drop 9 := by
  have e1 : s = s.take 8 ++ s.drop 8 := (List.take_append_drop 8 s).symm
  have e2 : s.drop 8 = s.getD 8 0 :: s.drop 9 := drop_cons (by omega)
  rw [h8] at e2
  rw [e2] at e1
  rw [List.append_assoc]; exact e1
theorem clock_fields {s d c : List UInt8} {N : Nat} (h : s = d ++ [84] ++ c) (hd : d.length = 8) (hc : c = padN 6 N) (hN : N < 1000000) : fieldN s 9 2 = ((N / 10000 : Nat) : Int) ∧ fieldN s 11 2 = ((N / 100 % 100 : Nat) : Int) ∧ fieldN s 13 2 = ((N % 100 : Nat) : Int) := by
  have e1 : padN 6 N = padN 2 (N / 10000) ++ (padN 2 (N / 100 % 100) ++ padN 2 (N % 100)) := by
    have a1 := padN_mod' 2 N
    have a2 := padN_mod' 2 (N / 100)
    rw [show (10 : Nat) ^ 2 = 100 from rfl] at a1 a2
    rw [padN_app 4 2, padN_app 2 2, List.append_assoc, a1, a2, show N / 10 ^ 2 / 10 ^ 2 = N / 10000 from by omega]
  have ed : s.drop 9 = c := (stamp_split h hd).2.2
  rw [hc, e1] at ed
  have ed2 : s.drop 11 = padN 2 (N / 100 % 100) ++ padN 2 (N % 100) := by
    rw [show 11 = 9 + 2 from rfl, ← List.drop_drop, ed]; exact List.drop_left' (padN_length _ _)
  have ed3 : s.drop 13 = padN 2 (N % 100) := by
    rw [show 13 = 11 + 2 from rfl, ← List.drop_drop, ed2]; exact List.drop_left' (padN_length _ _)
  exact ⟨fieldN_pad (by omega) (by omega) (by omega) (by rw [ed]; exact List.take_left' (padN_length _ _)), fieldN_pad (by omega) (by omega) (by omega) (by rw [ed2]; exact List.take_left' (padN_length _ _)), fieldN_pad (by omega) (by omega) (by omega) (by rw [ed3]; exact List.take_of_length_le (by simp))⟩
theorem readStamp_both {t : Int} (hi : inT t = true) (hc : (civ (t / 86400)).2.2.2 = true) : readStamp (stampF t) = (t, 0) ∧ readStampR (stampF t) = (t, 0) := by
  have hs : stampF t = dayF (t / 86400) ++ [84] ++ clockT (t % 86400) [] := by rw [stampF, if_pos hi]
  have hd := dayF_len hc
  have hck := clock6 (r := t % 86400) (by omega) (by omega)
  have hN : (t % 86400 / 3600 * 10000 + t % 86400 / 60 % 60 * 100 + t % 86400 % 60).toNat < 1000000 := by omega
  obtain ⟨g1, g2, g3⟩ := clock_fields hs hd hck hN
  obtain ⟨k1, k2, k3⟩ := stamp_split hs hd
  have hl : (stampF t).length = 15 := by rw [hs]; simp [hd, clockT]
  have hr := readDay_dayF hc
  have hst : stampN (stampF t) = t := by
    rw [stampN, k1, hr, g1, g2, g3]
    dsimp only
    omega
  have hnum : number ((stampF t).drop 9) 999999 = ((((t % 86400 / 3600 * 10000 + t % 86400 / 60 % 60 * 100 + t % 86400 % 60).toNat : Nat) : Int), true) := by
    rw [k3, hck]
    exact number_pad 6 _ 999999 (by omega) (by omega) hN (by omega)
  have hcl : clockN ((((t % 86400 / 3600 * 10000 + t % 86400 / 60 % 60 * 100 + t % 86400 % 60).toNat : Nat) : Int) / 10000) ((((t % 86400 / 3600 * 10000 + t % 86400 / 60 % 60 * 100 + t % 86400 % 60).toNat : Nat) : Int) / 100 % 100) ((((t % 86400 / 3600 * 10000 + t % 86400 / 60 % 60 * 100 + t % 86400 % 60).toNat : Nat) : Int) % 100) = t % 86400 := by
    rw [clockN, if_neg (by omega)]; omega
  constructor
  · rw [readStamp, hst, if_pos ⟨hl, by rw [k1, hr], rfl⟩]
  · rw [readStampR, hnum]
    dsimp only
    rw [hcl, k1, hr, if_pos ⟨hl, k2, rfl, rfl, by omega⟩]
    dsimp only
    rw [show t / 86400 * 86400 + t % 86400 = t from by omega]
theorem readStamp_eq (s : List UInt8) : readStampR s = readStamp s := by
  by_cases h : s.length = 15 ∧ (readDay (s.take 8)).2 = 0 ∧ stampF (stampN s) = s
  · obtain ⟨h1, h2, h3⟩ := h
    have hi : inT (stampN s) = true := by
      cases hi : inT (stampN s) with
      | true => rfl
      | false => rw [stampF, hi] at h3; rw [← h3] at h1; simp at h1
    have hc : (civ (stampN s / 86400)).2.2.2 = true := by
      cases hc : (civ (stampN s / 86400)).2.2.2 with
      | true => rfl
      | false =>
        rw [stampF, if_pos hi, dayF, hc] at h3
        rw [← h3] at h1; simp [clockT] at h1
    have := readStamp_both hi hc
    rw [h3] at this
    rw [this.1, this.2]
  · rw [readStamp, if_neg h, readStampR]
    refine if_neg ?_
    rintro ⟨h1, h2, h3, h4, h5⟩
    refine h ⟨h1, h3, ?_⟩
    obtain ⟨w1, w2, w3, w4, w5⟩ := readDay_inv h3
    obtain ⟨N, n1, n2, n3, _⟩ := number_some _ h4
    have hdl : (s.drop 9).length = 6 := by simp; omega
    rw [hdl] at n1 n2
    rw [n3] at h5
    have hj := stamp_join h1 h2
    obtain ⟨g1, g2, g3⟩ := clock_fields hj w1 n2 (by omega)
    unfold clockN at h5
    split at h5
    · omega
    · rename_i hc
      have hsn : stampN s = (readDay (s.take 8)).1 * 86400 + ((N / 10000 : Nat) : Int) * 3600 + ((N / 100 % 100 : Nat) : Int) * 60 + ((N % 100 : Nat) : Int) := by rw [stampN, g1, g2, g3]
      have ht1 : stampN s / 86400 = (readDay (s.take 8)).1 := by omega
      have ht2 : stampN s % 86400 = ((N / 10000 : Nat) : Int) * 3600 + ((N / 100 % 100 : Nat) : Int) * 60 + ((N % 100 : Nat) : Int) := by omega
      have hin : inT (stampN s) = true := by
        simp only [inT, Bool.and_eq_true, decide_eq_true_eq]; omega
      rw [stampF, if_pos hin, ht1, w3, clock6 (by omega) (by omega)]
      have hN : (stampN s % 86400 / 3600 * 10000 + stampN s % 86400 / 60 % 60 * 100 + stampN s % 86400 % 60).toNat = N := by omega
      rw [hN, ← n2]
      exact hj.symm
end Go.Almanac

/- Values: times are written (as X4, upon what a seat without durations has). -/
namespace Go.Almanac
open Go.RowKit Go.Proofs Go.Abs
theorem year_ofJ (n : Int) (h0 : -719162 ≤ n) : ∀ k : Nat, n < first ((k : Int) + 1) → ∃ y : Int, 1 ≤ y ∧ y ≤ k ∧ first y ≤ n ∧ n < first (y + 1)
  | 0, h1 => by exfalso; simp only [first] at h1; omega
  | k + 1, h1 => by
    have e : ((k + 1 : Nat) : Int) = k + 1 := by omega
    rw [e] at h1
    by_cases h : n < first ((k : Int) + 1)
    · obtain ⟨y, y1, y2, y3, y4⟩ := year_ofJ n h0 k h
      exact ⟨y, y1, by omega, y3, y4⟩
    · refine ⟨(k : Int) + 1, by omega, by omega, by omega, ?_⟩
      exact h1
theorem month_ofJ (y : Int) : ∀ (k : Nat) (L : Int), 0 ≤ L → L < psum y k → ∃ j, j < k ∧ psum y j ≤ L ∧ L < psum y (j + 1)
  | 0, L, h0, h1 => by simp only [psum] at h1; omega
  | k + 1, L, h0, h1 => by
    by_cases h : L < psum y k
    · obtain ⟨j, j1, j2, j3⟩ := month_ofJ y k L h0 h
      exact ⟨j, by omega, j2, j3⟩
    · exact ⟨k, by omega, by omega, h1⟩
theorem civ_allJ (n : Int) : CivOk n := by
  by_cases hr : -719162 ≤ n ∧ n ≤ 2932896
  · obtain ⟨y, y1, y2, y3, y4⟩ := year_ofJ n hr.1 9999 (by rw [show (((9999 : Nat) : Int) + 1) = 10000 from rfl, show first 10000 = 2932897 from rfl]; omega)
    have hn := first_next y1
    obtain ⟨j, j1, j2, j3⟩ := month_ofJ y 12 (n - first y) (by omega) (by omega)
    rw [psum] at j3
    have h : CivilR n y (j + 1) (n - first y - psum y j + 1) true := by
      refine .inr ⟨rfl, hr.1, hr.2, y1, by omega, by omega, by omega, by omega, ?_, ?_⟩
      · rw [mlen_get (by omega) (by omega), show ((j : Int) + 1 - 1).toNat = j from by omega]; omega
      · rw [show ((j : Int) + 1 - 1).toNat = j from by omega]; omega
    rw [CivOk, civ_eq h]; exact h
  · have h : CivilR n 0 0 0 false := .inl ⟨rfl, rfl, rfl, rfl, by omega⟩
    rw [CivOk, civ_eq h]; exact h
theorem civ_inTJ {t : Int} (h : inT t = true) : (civ (t / 86400)).2.2.2 = true := by
  have hi2 : -62135596800 ≤ t ∧ t ≤ 253402300799 := by simpa [inT] using h
  exact civ_true (civ_allJ _) (by omega) (by omega)
def whenE (w : Int × Bool × Bool) : List AV := [.int .i64 w.1, .bool w.2.1, .bool w.2.2]
noncomputable def timeT (w : Int × Bool × Bool) : List UInt8 :=
  if inT w.1 = false ∨ w.2.2 = true ∧ (w.2.1 = true ∨ ¬ w.1 % 86400 = 0) then []
  else if w.2.2 = true then dayF (w.1 / 86400) else if w.2.1 = true then stampF w.1 ++ [90] else stampF w.1
theorem dayF_out {t : Int} (h : inT t = false) : dayF (t / 86400) = [] := by
  unfold dayF
  split
  · rename_i hc
    obtain ⟨c1, c2, _⟩ := civ_in (civ_ok hc) hc
    simp only [inT, Bool.and_eq_false_iff, decide_eq_false_iff_not] at h
    exfalso
    omega
  · rfl
theorem stampF_out {t : Int} (h : inT t = false) : stampF t = [] := by simp [stampF, h]
theorem stampF_len (t : Int) : (stampF t).length ≤ 15 := by
  have := dayF_length (t / 86400)
  unfold stampF
  split
  · simp [clockT_length]; omega
  · simp
theorem not_bad {t : Int} {u d : Bool} (hA : d = false ∨ u = false ∧ t % 86400 = 0) : ¬ (d = true ∧ (u = true ∨ ¬ t % 86400 = 0)) := by
  rintro ⟨rfl, h⟩
  rcases hA with h2 | ⟨rfl, h2⟩
  · cases h2
  · rcases h with h | h
    · cases h
    · exact h h2
attribute [local go_sem] whenE List.drop_zero
theorem t_TimeText (G : Nat → AV) (w : Int × Bool × Bool) (h0 : -9223372036854775808 ≤ w.1) (h1 : w.1 ≤ 9223372036854775807) (st : St) : ACalls (Ev G) 26 [.agg (whenE w)] st (fun e st' => st' = st ∧ e = .ret (.str (timeT w))) := by
  obtain ⟨t, u, d⟩ := w
  dsimp only at h0 h1
  have hs15 := stampF_len t
  refine ACalls.of_body Tryz.func26 rfl ?_
  rw [Tryz.ntmps26]
  simp only [List.length_cons, List.length_nil, Nat.reduceAdd, Nat.reduceSub, List.replicate_succ, List.replicate_zero, List.cons_append, List.nil_append]
  (repeat' (first | refine AW.seq ?_ | refine AW.scope ?_ | refine AW.label ?_ | refine AW.block ?_ | refine AW.skip ?_ | refine AW.exit ?_ | refine AW.ret ?_))
  refine AW.regionC fun Q' Kn hQ hK hK' => ?_
  simp (disch := omega) only [go_sem, redN, Nat.reduceAdd, Int.reduceToNat, Int.reducePow]
  refine AOp.box rfl (by simp [go_sem]) (by simp only [go_sem]; rfl) fun b hb0 => ?_
  (refine AOpsC_ok hK' _ _ _ ?_; (repeat simp (disch := omega) only [go_sem, redN, Nat.reduceAdd, Int.reduceToNat, Int.reducePow]); (repeat' apply And.intro); (try any_goals (first | (refine hK _ _ ?_; clear hK' hQ hK Q' Kn) | (intro q; refine ⟨q, ?_⟩; simp only [redB] at q; omega) | (intro q; refine ⟨q, fun p => ?_⟩; rw [q, p]; rfl) | (simp; done) | omega | (simp only [redL]; omega) | (simp; omega) | (intros; (repeat' apply And.intro) <;> (first | assumption | omega | (simp; done))))))
  refine AW.freeze 1 rfl (St.set_same _ _ _) ?_
  rw [St.del_set _ _ hb0]
  (repeat' (first | refine AW.seq ?_ | refine AW.scope ?_ | refine AW.label ?_ | refine AW.block ?_ | refine AW.skip ?_ | refine AW.exit ?_ | refine AW.ret ?_))
  (refine AW.regionC fun Q' Kn hQ hK hK' => ?_; (repeat simp (disch := omega) only [go_sem, redN, Nat.reduceAdd, Int.reduceToNat, Int.reducePow]); (repeat' apply And.intro); (try any_goals (first | (refine hK _ _ ?_; clear hK' hQ hK Q' Kn) | (intro q; refine ⟨q, ?_⟩; simp only [redB] at q; omega) | (intro q; refine ⟨q, fun p => ?_⟩; rw [q, p]; rfl) | (simp; done) | omega | (simp only [redL]; omega) | (simp; omega) | (intros; (repeat' apply And.intro) <;> (first | assumption | omega | (simp; done))))))
  refine AOp.call rfl (by simp only [go_sem]; rfl) (by simp [go_sem]) rfl (ACalls.mono (by simp only [go_sem]; exact t_Parts G t h0 h1 _) ?_)
  rintro e st' ⟨rfl, rfl⟩
  (refine AOpsC_ok hK' _ _ _ ?_; (repeat simp (disch := omega) only [go_sem, redN, Nat.reduceAdd, Int.reduceToNat, Int.reducePow]); (repeat' apply And.intro); (try any_goals (first | (refine hK _ _ ?_; clear hK' hQ hK Q' Kn) | (intro q; refine ⟨q, ?_⟩; simp only [redB] at q; omega) | (intro q; refine ⟨q, fun p => ?_⟩; rw [q, p]; rfl) | (simp; done) | omega | (simp only [redL]; omega) | (simp; omega) | (intros; (repeat' apply And.intro) <;> (first | assumption | omega | (simp; done))))))
  (repeat' (first | refine AW.seq ?_ | refine AW.scope ?_ | refine AW.label ?_ | refine AW.block ?_ | refine AW.skip ?_ | refine AW.exit ?_ | refine AW.ret ?_))
  (refine AW.regionC fun Q' Kn hQ hK hK' => ?_; (repeat simp (disch := omega) only [go_sem, redN, Nat.reduceAdd, Int.reduceToNat, Int.reducePow]); (repeat' apply And.intro); (try any_goals (first | (refine hK _ _ ?_; clear hK' hQ hK Q' Kn) | (intro q; refine ⟨q, ?_⟩; simp only [redB] at q; omega) | (intro q; refine ⟨q, fun p => ?_⟩; rw [q, p]; rfl) | (simp; done) | omega | (simp only [redL]; omega) | (simp; omega) | (intros; (repeat' apply And.intro) <;> (first | assumption | omega | (simp; done))))))
  (repeat' (first | refine AW.seq ?_ | refine AW.scope ?_ | refine AW.label ?_ | refine AW.block ?_ | refine AW.skip ?_ | refine AW.exit ?_ | refine AW.ret ?_))
  (refine AW.cond (by simp (disch := omega) only [go_sem, redN, Nat.reduceAdd, Int.reduceToNat, Int.reducePow]; rfl) (fun hb => ?_) (fun hb => ?_) <;> (try simp only [redB] at hb))
  · (repeat' (first | refine AW.seq ?_ | refine AW.scope ?_ | refine AW.label ?_ | refine AW.block ?_ | refine AW.skip ?_ | refine AW.exit ?_ | refine AW.ret ?_))
    (refine AW.regionC fun Q' Kn hQ hK hK' => ?_; (repeat simp (disch := omega) only [go_sem, redN, Nat.reduceAdd, Int.reduceToNat, Int.reducePow]); (repeat' apply And.intro); (try any_goals (first | (refine hK _ _ ?_; clear hK' hQ hK Q' Kn) | (intro q; refine ⟨q, ?_⟩; simp only [redB] at q; omega) | (intro q; refine ⟨q, fun p => ?_⟩; rw [q, p]; rfl) | (simp; done) | omega | (simp only [redL]; omega) | (simp; omega) | (intros; (repeat' apply And.intro) <;> (first | assumption | omega | (simp; done))))))
    (repeat' (first | refine AW.seq ?_ | refine AW.scope ?_ | refine AW.label ?_ | refine AW.block ?_ | refine AW.skip ?_ | refine AW.exit ?_ | refine AW.ret ?_))
    (refine ⟨_, _, rfl, by simp, ?_⟩; simp only [aTup, AA.get, List.getD_cons_zero, List.getD_cons_succ, true_and])
    rw [timeT, if_pos (.inr hb)]
  have hA := hb
  (repeat' (first | refine AW.seq ?_ | refine AW.scope ?_ | refine AW.label ?_ | refine AW.block ?_ | refine AW.skip ?_ | refine AW.exit ?_ | refine AW.ret ?_))
  (refine AW.regionC fun Q' Kn hQ hK hK' => ?_; (repeat simp (disch := omega) only [go_sem, redN, Nat.reduceAdd, Int.reduceToNat, Int.reducePow]); (repeat' apply And.intro); (try any_goals (first | (refine hK _ _ ?_; clear hK' hQ hK Q' Kn) | (intro q; refine ⟨q, ?_⟩; simp only [redB] at q; omega) | (intro q; refine ⟨q, fun p => ?_⟩; rw [q, p]; rfl) | (simp; done) | omega | (simp only [redL]; omega) | (simp; omega) | (intros; (repeat' apply And.intro) <;> (first | assumption | omega | (simp; done))))))
  (repeat' (first | refine AW.seq ?_ | refine AW.scope ?_ | refine AW.label ?_ | refine AW.block ?_ | refine AW.skip ?_ | refine AW.exit ?_ | refine AW.ret ?_))
  (refine AW.cond (by simp (disch := omega) only [go_sem, redN, Nat.reduceAdd, Int.reduceToNat, Int.reducePow]; rfl) (fun hb => ?_) (fun hb => ?_) <;> (try simp only [redB] at hb))
  · (repeat' (first | refine AW.seq ?_ | refine AW.scope ?_ | refine AW.label ?_ | refine AW.block ?_ | refine AW.skip ?_ | refine AW.exit ?_ | refine AW.ret ?_))
    (refine AW.regionC fun Q' Kn hQ hK hK' => ?_; (repeat simp (disch := omega) only [go_sem, redN, Nat.reduceAdd, Int.reduceToNat, Int.reducePow]); (repeat' apply And.intro); (try any_goals (first | (refine hK _ _ ?_; clear hK' hQ hK Q' Kn) | (intro q; refine ⟨q, ?_⟩; simp only [redB] at q; omega) | (intro q; refine ⟨q, fun p => ?_⟩; rw [q, p]; rfl) | (simp; done) | omega | (simp only [redL]; omega) | (simp; omega) | (intros; (repeat' apply And.intro) <;> (first | assumption | omega | (simp; done))))))
    refine AOp.call rfl (by simp only [go_sem]; rfl) (by simp [go_sem]) rfl (ACalls.mono (by simp only [go_sem]; exact t_Day G (t / 86400) (by omega) (by omega) _) ?_)
    rintro e st' ⟨rfl, _, rfl⟩
    (refine AOpsC_ok hK' _ _ _ ?_; (repeat simp (disch := omega) only [go_sem, redN, Nat.reduceAdd, Int.reduceToNat, Int.reducePow]); (repeat' apply And.intro); (try any_goals (first | (refine hK _ _ ?_; clear hK' hQ hK Q' Kn) | (intro q; refine ⟨q, ?_⟩; simp only [redB] at q; omega) | (intro q; refine ⟨q, fun p => ?_⟩; rw [q, p]; rfl) | (simp; done) | omega | (simp only [redL]; omega) | (simp; omega) | (intros; (repeat' apply And.intro) <;> (first | assumption | omega | (simp; done))))))
    (repeat' (first | refine AW.seq ?_ | refine AW.scope ?_ | refine AW.label ?_ | refine AW.block ?_ | refine AW.skip ?_ | refine AW.exit ?_ | refine AW.ret ?_))
    (refine ⟨_, _, rfl, by simp, ?_⟩; simp only [aTup, AA.get, List.getD_cons_zero, List.getD_cons_succ, true_and])
    by_cases hi : inT t = false
    · rw [timeT, if_pos (.inl hi), dayF_out hi]
    · rw [timeT, if_neg (fun h => h.elim hi (not_bad hA)), if_pos hb]
  have hD := hb
  (repeat' (first | refine AW.seq ?_ | refine AW.scope ?_ | refine AW.label ?_ | refine AW.block ?_ | refine AW.skip ?_ | refine AW.exit ?_ | refine AW.ret ?_))
  (refine AW.regionC fun Q' Kn hQ hK hK' => ?_; (repeat simp (disch := omega) only [go_sem, redN, Nat.reduceAdd, Int.reduceToNat, Int.reducePow]); (repeat' apply And.intro); (try any_goals (first | (refine hK _ _ ?_; clear hK' hQ hK Q' Kn) | (intro q; refine ⟨q, ?_⟩; simp only [redB] at q; omega) | (intro q; refine ⟨q, fun p => ?_⟩; rw [q, p]; rfl) | (simp; done) | omega | (simp only [redL]; omega) | (simp; omega) | (intros; (repeat' apply And.intro) <;> (first | assumption | omega | (simp; done))))))
  refine AOps.guard_call (f := 13) (v := .bool (inT t)) rfl rfl rfl rfl rfl (fun _ => (by simp only [go_sem] <;> rfl)) (fun h => by first | (simp [go_sem]; done) | simpa [go_sem] using h) rfl (fun hg => by simp only [go_sem]; exact t_In G t _) ?_
  (refine AOpsC_ok hK' _ _ _ ?_; (repeat simp (disch := omega) only [go_sem, redN, Nat.reduceAdd, Int.reduceToNat, Int.reducePow]); (repeat' apply And.intro); (try any_goals (first | (refine hK _ _ ?_; clear hK' hQ hK Q' Kn) | (intro q; refine ⟨q, ?_⟩; simp only [redB] at q; omega) | (intro q; refine ⟨q, fun p => ?_⟩; rw [q, p]; rfl) | (simp; done) | omega | (simp only [redL]; omega) | (simp; omega) | (intros; (repeat' apply And.intro) <;> (first | assumption | omega | (simp; done))))))
  (repeat' (first | refine AW.seq ?_ | refine AW.scope ?_ | refine AW.label ?_ | refine AW.block ?_ | refine AW.skip ?_ | refine AW.exit ?_ | refine AW.ret ?_))
  (refine AW.cond (by simp (disch := omega) only [go_sem, redN, Nat.reduceAdd, Int.reduceToNat, Int.reducePow]; rfl) (fun hb => ?_) (fun hb => ?_) <;> (try simp only [redB] at hb))
  · (repeat' (first | refine AW.seq ?_ | refine AW.scope ?_ | refine AW.label ?_ | refine AW.block ?_ | refine AW.skip ?_ | refine AW.exit ?_ | refine AW.ret ?_))
    (refine AW.regionC fun Q' Kn hQ hK hK' => ?_; (repeat simp (disch := omega) only [go_sem, redN, Nat.reduceAdd, Int.reduceToNat, Int.reducePow]); (repeat' apply And.intro); (try any_goals (first | (refine hK _ _ ?_; clear hK' hQ hK Q' Kn) | (intro q; refine ⟨q, ?_⟩; simp only [redB] at q; omega) | (intro q; refine ⟨q, fun p => ?_⟩; rw [q, p]; rfl) | (simp; done) | omega | (simp only [redL]; omega) | (simp; omega) | (intros; (repeat' apply And.intro) <;> (first | assumption | omega | (simp; done))))))
    refine AOp.call rfl (by simp only [go_sem]; rfl) (by simp [go_sem]) rfl (ACalls.mono (by simp only [go_sem]; exact t_Stamp G t h0 h1 _) ?_)
    rintro e st' ⟨rfl, _, rfl⟩
    (refine AOpsC_ok hK' _ _ _ ?_; (repeat simp (disch := omega) only [go_sem, redN, Nat.reduceAdd, Int.reduceToNat, Int.reducePow]); (repeat' apply And.intro); (try any_goals (first | (refine hK _ _ ?_; clear hK' hQ hK Q' Kn) | (intro q; refine ⟨q, ?_⟩; simp only [redB] at q; omega) | (intro q; refine ⟨q, fun p => ?_⟩; rw [q, p]; rfl) | (simp; done) | omega | (simp only [redL]; omega) | (simp; omega) | (intros; (repeat' apply And.intro) <;> (first | assumption | omega | (simp; done))))))
    (repeat' (first | refine AW.seq ?_ | refine AW.scope ?_ | refine AW.label ?_ | refine AW.block ?_ | refine AW.skip ?_ | refine AW.exit ?_ | refine AW.ret ?_))
    (refine ⟨_, _, rfl, by simp, ?_⟩; simp only [aTup, AA.get, List.getD_cons_zero, List.getD_cons_succ, true_and])
    rw [timeT, if_neg (fun h => h.elim (fun h => by rw [hb.2] at h; cases h) (not_bad hA)), if_neg (by simp [hD]), if_pos hb.1]
  have hU := hb
  (repeat' (first | refine AW.seq ?_ | refine AW.scope ?_ | refine AW.label ?_ | refine AW.block ?_ | refine AW.skip ?_ | refine AW.exit ?_ | refine AW.ret ?_))
  (refine AW.regionC fun Q' Kn hQ hK hK' => ?_; (repeat simp (disch := omega) only [go_sem, redN, Nat.reduceAdd, Int.reduceToNat, Int.reducePow]); (repeat' apply And.intro); (try any_goals (first | (refine hK _ _ ?_; clear hK' hQ hK Q' Kn) | (intro q; refine ⟨q, ?_⟩; simp only [redB] at q; omega) | (intro q; refine ⟨q, fun p => ?_⟩; rw [q, p]; rfl) | (simp; done) | omega | (simp only [redL]; omega) | (simp; omega) | (intros; (repeat' apply And.intro) <;> (first | assumption | omega | (simp; done))))))
  refine AOp.call rfl (by simp only [go_sem]; rfl) (by simp [go_sem]) rfl (ACalls.mono (by simp only [go_sem]; exact t_Stamp G t h0 h1 _) ?_)
  rintro e st' ⟨rfl, _, rfl⟩
  (refine AOpsC_ok hK' _ _ _ ?_; (repeat simp (disch := omega) only [go_sem, redN, Nat.reduceAdd, Int.reduceToNat, Int.reducePow]); (repeat' apply And.intro); (try any_goals (first | (refine hK _ _ ?_; clear hK' hQ hK Q' Kn) | (intro q; refine ⟨q, ?_⟩; simp only [redB] at q; omega) | (intro q; refine ⟨q, fun p => ?_⟩; rw [q, p]; rfl) | (simp; done) | omega | (simp only [redL]; omega) | (simp; omega) | (intros; (repeat' apply And.intro) <;> (first | assumption | omega | (simp; done))))))
  (repeat' (first | refine AW.seq ?_ | refine AW.scope ?_ | refine AW.label ?_ | refine AW.block ?_ | refine AW.skip ?_ | refine AW.exit ?_ | refine AW.ret ?_))
  (refine ⟨_, _, rfl, by simp, ?_⟩; simp only [aTup, AA.get, List.getD_cons_zero, List.getD_cons_succ, true_and])
  by_cases hi : inT t = false
  · rw [timeT, if_pos (.inl hi), stampF_out hi]
  · rw [timeT, if_neg (fun h => h.elim hi (not_bad hA)), if_neg (by simp [hD]), if_neg (fun h => hU.elim (fun q => Bool.noConfusion (h.symm.trans q)) hi)]
theorem r_TimeText (G : Nat → AV) (w : Int × Bool × Bool) (h0 : -9223372036854775808 ≤ w.1) (h1 : w.1 ≤ 9223372036854775807) (st : St) : ACalls (Ev G) 23 [.agg (whenE w)] st (fun e st' => st' = st ∧ e = .ret (.str (timeT w))) := by
  obtain ⟨t, u, d⟩ := w
  dsimp only at h0 h1
  have hs15 := stampF_len t
  refine ACalls.of_body Tryz.func23 rfl ?_
  rw [Tryz.ntmps23]
  simp only [List.length_cons, List.length_nil, Nat.reduceAdd, Nat.reduceSub, List.replicate_succ, List.replicate_zero, List.cons_append, List.nil_append]
  (repeat' (first | refine AW.seq ?_ | refine AW.scope ?_ | refine AW.label ?_ | refine AW.block ?_ | refine AW.skip ?_ | refine AW.exit ?_ | refine AW.ret ?_))
  refine AW.regionC fun Q' Kn hQ hK hK' => ?_
  simp (disch := omega) only [go_sem, redN, Nat.reduceAdd, Int.reduceToNat, Int.reducePow]
  refine AOp.box rfl (by simp [go_sem]) (by simp only [go_sem]; rfl) fun b hb0 => ?_
  (refine AOpsC_ok hK' _ _ _ ?_; (repeat simp (disch := omega) only [go_sem, redN, Nat.reduceAdd, Int.reduceToNat, Int.reducePow]); (repeat' apply And.intro); (try any_goals (first | (refine hK _ _ ?_; clear hK' hQ hK Q' Kn) | (intro q; refine ⟨q, ?_⟩; simp only [redB] at q; omega) | (intro q; refine ⟨q, fun p => ?_⟩; rw [q, p]; rfl) | (simp; done) | omega | (simp only [redL]; omega) | (simp; omega) | (intros; (repeat' apply And.intro) <;> (first | assumption | omega | (simp; done))))))
  refine AW.freeze 1 rfl (St.set_same _ _ _) ?_
  rw [St.del_set _ _ hb0]
  (repeat' (first | refine AW.seq ?_ | refine AW.scope ?_ | refine AW.label ?_ | refine AW.block ?_ | refine AW.skip ?_ | refine AW.exit ?_ | refine AW.ret ?_))
  (refine AW.regionC fun Q' Kn hQ hK hK' => ?_; (repeat simp (disch := omega) only [go_sem, redN, Nat.reduceAdd, Int.reduceToNat, Int.reducePow]); (repeat' apply And.intro); (try any_goals (first | (refine hK _ _ ?_; clear hK' hQ hK Q' Kn) | (intro q; refine ⟨q, ?_⟩; simp only [redB] at q; omega) | (intro q; refine ⟨q, fun p => ?_⟩; rw [q, p]; rfl) | (simp; done) | omega | (simp only [redL]; omega) | (simp; omega) | (intros; (repeat' apply And.intro) <;> (first | assumption | omega | (simp; done))))))
  refine AOp.call rfl (by simp only [go_sem]; rfl) (by simp [go_sem]) rfl (ACalls.mono (by simp only [go_sem]; exact r_Parts G t h0 h1 _) ?_)
  rintro e st' ⟨rfl, rfl⟩
  (refine AOpsC_ok hK' _ _ _ ?_; (repeat simp (disch := omega) only [go_sem, redN, Nat.reduceAdd, Int.reduceToNat, Int.reducePow]); (repeat' apply And.intro); (try any_goals (first | (refine hK _ _ ?_; clear hK' hQ hK Q' Kn) | (intro q; refine ⟨q, ?_⟩; simp only [redB] at q; omega) | (intro q; refine ⟨q, fun p => ?_⟩; rw [q, p]; rfl) | (simp; done) | omega | (simp only [redL]; omega) | (simp; omega) | (intros; (repeat' apply And.intro) <;> (first | assumption | omega | (simp; done))))))
  (repeat' (first | refine AW.seq ?_ | refine AW.scope ?_ | refine AW.label ?_ | refine AW.block ?_ | refine AW.skip ?_ | refine AW.exit ?_ | refine AW.ret ?_))
  (refine AW.regionC fun Q' Kn hQ hK hK' => ?_; (repeat simp (disch := omega) only [go_sem, redN, Nat.reduceAdd, Int.reduceToNat, Int.reducePow]); (repeat' apply And.intro); (try any_goals (first | (refine hK _ _ ?_; clear hK' hQ hK Q' Kn) | (intro q; refine ⟨q, ?_⟩; simp only [redB] at q; omega) | (intro q; refine ⟨q, fun p => ?_⟩; rw [q, p]; rfl) | (simp; done) | omega | (simp only [redL]; omega) | (simp; omega) | (intros; (repeat' apply And.intro) <;> (first | assumption | omega | (simp; done))))))
  refine AOp.call rfl (by simp only [go_sem]; rfl) (by simp [go_sem]) rfl (ACalls.mono (by simp only [go_sem]; exact r_In G t _) ?_)
  rintro e st' ⟨rfl, rfl⟩
  (refine AOpsC_ok hK' _ _ _ ?_; (repeat simp (disch := omega) only [go_sem, redN, Nat.reduceAdd, Int.reduceToNat, Int.reducePow]); (repeat' apply And.intro); (try any_goals (first | (refine hK _ _ ?_; clear hK' hQ hK Q' Kn) | (intro q; refine ⟨q, ?_⟩; simp only [redB] at q; omega) | (intro q; refine ⟨q, fun p => ?_⟩; rw [q, p]; rfl) | (simp; done) | omega | (simp only [redL]; omega) | (simp; omega) | (intros; (repeat' apply And.intro) <;> (first | assumption | omega | (simp; done))))))
  rw [show (decide (-62135596800 ≤ t) && decide (t ≤ 253402300799)) = inT t from rfl]
  (repeat' (first | refine AW.seq ?_ | refine AW.scope ?_ | refine AW.label ?_ | refine AW.block ?_ | refine AW.skip ?_ | refine AW.exit ?_ | refine AW.ret ?_))
  (refine AW.cond (by simp (disch := omega) only [go_sem, redN, Nat.reduceAdd, Int.reduceToNat, Int.reducePow]; rfl) (fun hb => ?_) (fun hb => ?_) <;> (try simp only [redB] at hb))
  · (repeat' (first | refine AW.seq ?_ | refine AW.scope ?_ | refine AW.label ?_ | refine AW.block ?_ | refine AW.skip ?_ | refine AW.exit ?_ | refine AW.ret ?_))
    (refine AW.regionC fun Q' Kn hQ hK hK' => ?_; (repeat simp (disch := omega) only [go_sem, redN, Nat.reduceAdd, Int.reduceToNat, Int.reducePow]); (repeat' apply And.intro); (try any_goals (first | (refine hK _ _ ?_; clear hK' hQ hK Q' Kn) | (intro q; refine ⟨q, ?_⟩; simp only [redB] at q; omega) | (intro q; refine ⟨q, fun p => ?_⟩; rw [q, p]; rfl) | (simp; done) | omega | (simp only [redL]; omega) | (simp; omega) | (intros; (repeat' apply And.intro) <;> (first | assumption | omega | (simp; done))))))
    (repeat' (first | refine AW.seq ?_ | refine AW.scope ?_ | refine AW.label ?_ | refine AW.block ?_ | refine AW.skip ?_ | refine AW.exit ?_ | refine AW.ret ?_))
    (refine ⟨_, _, rfl, by simp, ?_⟩; simp only [aTup, AA.get, List.getD_cons_zero, List.getD_cons_succ, true_and])
    rw [timeT, if_pos hb]
  have hA : ¬ (inT t = false ∨ d = true ∧ (u = true ∨ ¬ t % 86400 = 0)) := fun h => h.elim (fun h => Bool.noConfusion (h.symm.trans hb.1)) (not_bad hb.2)
  (repeat' (first | refine AW.seq ?_ | refine AW.scope ?_ | refine AW.label ?_ | refine AW.block ?_ | refine AW.skip ?_ | refine AW.exit ?_ | refine AW.ret ?_))
  (refine AW.regionC fun Q' Kn hQ hK hK' => ?_; (repeat simp (disch := omega) only [go_sem, redN, Nat.reduceAdd, Int.reduceToNat, Int.reducePow]); (repeat' apply And.intro); (try any_goals (first | (refine hK _ _ ?_; clear hK' hQ hK Q' Kn) | (intro q; refine ⟨q, ?_⟩; simp only [redB] at q; omega) | (intro q; refine ⟨q, fun p => ?_⟩; rw [q, p]; rfl) | (simp; done) | omega | (simp only [redL]; omega) | (simp; omega) | (intros; (repeat' apply And.intro) <;> (first | assumption | omega | (simp; done))))))
  (repeat' (first | refine AW.seq ?_ | refine AW.scope ?_ | refine AW.label ?_ | refine AW.block ?_ | refine AW.skip ?_ | refine AW.exit ?_ | refine AW.ret ?_))
  (refine AW.cond (by simp (disch := omega) only [go_sem, redN, Nat.reduceAdd, Int.reduceToNat, Int.reducePow]; rfl) (fun hb => ?_) (fun hb => ?_) <;> (try simp only [redB] at hb))
  · (repeat' (first | refine AW.seq ?_ | refine AW.scope ?_ | refine AW.label ?_ | refine AW.block ?_ | refine AW.skip ?_ | refine AW.exit ?_ | refine AW.ret ?_))
    (refine AW.regionC fun Q' Kn hQ hK hK' => ?_; (repeat simp (disch := omega) only [go_sem, redN, Nat.reduceAdd, Int.reduceToNat, Int.reducePow]); (repeat' apply And.intro); (try any_goals (first | (refine hK _ _ ?_; clear hK' hQ hK Q' Kn) | (intro q; refine ⟨q, ?_⟩; simp only [redB] at q; omega) | (intro q; refine ⟨q, fun p => ?_⟩; rw [q, p]; rfl) | (simp; done) | omega | (simp only [redL]; omega) | (simp; omega) | (intros; (repeat' apply And.intro) <;> (first | assumption | omega | (simp; done))))))
    refine AOp.call rfl (by simp only [go_sem]; rfl) (by simp [go_sem]) rfl (ACalls.mono (by simp only [go_sem]; exact r_Day G (t / 86400) (by omega) (by omega) _) ?_)
    rintro e st' ⟨rfl, _, rfl⟩
    (refine AOpsC_ok hK' _ _ _ ?_; (repeat simp (disch := omega) only [go_sem, redN, Nat.reduceAdd, Int.reduceToNat, Int.reducePow]); (repeat' apply And.intro); (try any_goals (first | (refine hK _ _ ?_; clear hK' hQ hK Q' Kn) | (intro q; refine ⟨q, ?_⟩; simp only [redB] at q; omega) | (intro q; refine ⟨q, fun p => ?_⟩; rw [q, p]; rfl) | (simp; done) | omega | (simp only [redL]; omega) | (simp; omega) | (intros; (repeat' apply And.intro) <;> (first | assumption | omega | (simp; done))))))
    (repeat' (first | refine AW.seq ?_ | refine AW.scope ?_ | refine AW.label ?_ | refine AW.block ?_ | refine AW.skip ?_ | refine AW.exit ?_ | refine AW.ret ?_))
    (refine ⟨_, _, rfl, by simp, ?_⟩; simp only [aTup, AA.get, List.getD_cons_zero, List.getD_cons_succ, true_and])
    rw [timeT, if_neg hA, if_pos hb]
  have hD := hb
  (repeat' (first | refine AW.seq ?_ | refine AW.scope ?_ | refine AW.label ?_ | refine AW.block ?_ | refine AW.skip ?_ | refine AW.exit ?_ | refine AW.ret ?_))
  (refine AW.regionC fun Q' Kn hQ hK hK' => ?_; (repeat simp (disch := omega) only [go_sem, redN, Nat.reduceAdd, Int.reduceToNat, Int.reducePow]); (repeat' apply And.intro); (try any_goals (first | (refine hK _ _ ?_; clear hK' hQ hK Q' Kn) | (intro q; refine ⟨q, ?_⟩; simp only [redB] at q; omega) | (intro q; refine ⟨q, fun p => ?_⟩; rw [q, p]; rfl) | (simp; done) | omega | (simp only [redL]; omega) | (simp; omega) | (intros; (repeat' apply And.intro) <;> (first | assumption | omega | (simp; done))))))
  (repeat' (first | refine AW.seq ?_ | refine AW.scope ?_ | refine AW.label ?_ | refine AW.block ?_ | refine AW.skip ?_ | refine AW.exit ?_ | refine AW.ret ?_))
  (refine AW.cond (by simp (disch := omega) only [go_sem, redN, Nat.reduceAdd, Int.reduceToNat, Int.reducePow]; rfl) (fun hb => ?_) (fun hb => ?_) <;> (try simp only [redB] at hb))
  · (repeat' (first | refine AW.seq ?_ | refine AW.scope ?_ | refine AW.label ?_ | refine AW.block ?_ | refine AW.skip ?_ | refine AW.exit ?_ | refine AW.ret ?_))
    (refine AW.regionC fun Q' Kn hQ hK hK' => ?_; (repeat simp (disch := omega) only [go_sem, redN, Nat.reduceAdd, Int.reduceToNat, Int.reducePow]); (repeat' apply And.intro); (try any_goals (first | (refine hK _ _ ?_; clear hK' hQ hK Q' Kn) | (intro q; refine ⟨q, ?_⟩; simp only [redB] at q; omega) | (intro q; refine ⟨q, fun p => ?_⟩; rw [q, p]; rfl) | (simp; done) | omega | (simp only [redL]; omega) | (simp; omega) | (intros; (repeat' apply And.intro) <;> (first | assumption | omega | (simp; done))))))
    refine AOp.call rfl (by simp only [go_sem]; rfl) (by simp [go_sem]) rfl (ACalls.mono (by simp only [go_sem]; exact r_Stamp G t h0 h1 _) ?_)
    rintro e st' ⟨rfl, _, rfl⟩
    (refine AOpsC_ok hK' _ _ _ ?_; (repeat simp (disch := omega) only [go_sem, redN, Nat.reduceAdd, Int.reduceToNat, Int.reducePow]); (repeat' apply And.intro); (try any_goals (first | (refine hK _ _ ?_; clear hK' hQ hK Q' Kn) | (intro q; refine ⟨q, ?_⟩; simp only [redB] at q; omega) | (intro q; refine ⟨q, fun p => ?_⟩; rw [q, p]; rfl) | (simp; done) | omega | (simp only [redL]; omega) | (simp; omega) | (intros; (repeat' apply And.intro) <;> (first | assumption | omega | (simp; done))))))
    (repeat' (first | refine AW.seq ?_ | refine AW.scope ?_ | refine AW.label ?_ | refine AW.block ?_ | refine AW.skip ?_ | refine AW.exit ?_ | refine AW.ret ?_))
    (refine ⟨_, _, rfl, by simp, ?_⟩; simp only [aTup, AA.get, List.getD_cons_zero, List.getD_cons_succ, true_and])
    rw [timeT, if_neg hA, if_neg (by simp [hD]), if_pos hb]
  have hU := hb
  (repeat' (first | refine AW.seq ?_ | refine AW.scope ?_ | refine AW.label ?_ | refine AW.block ?_ | refine AW.skip ?_ | refine AW.exit ?_ | refine AW.ret ?_))
  (refine AW.regionC fun Q' Kn hQ hK hK' => ?_; (repeat simp (disch := omega) only [go_sem, redN, Nat.reduceAdd, Int.reduceToNat, Int.reducePow]); (repeat' apply And.intro); (try any_goals (first | (refine hK _ _ ?_; clear hK' hQ hK Q' Kn) | (intro q; refine ⟨q, ?_⟩; simp only [redB] at q; omega) | (intro q; refine ⟨q, fun p => ?_⟩; rw [q, p]; rfl) | (simp; done) | omega | (simp only [redL]; omega) | (simp; omega) | (intros; (repeat' apply And.intro) <;> (first | assumption | omega | (simp; done))))))
  refine AOp.call rfl (by simp only [go_sem]; rfl) (by simp [go_sem]) rfl (ACalls.mono (by simp only [go_sem]; exact r_Stamp G t h0 h1 _) ?_)
  rintro e st' ⟨rfl, _, rfl⟩
  (refine AOpsC_ok hK' _ _ _ ?_; (repeat simp (disch := omega) only [go_sem, redN, Nat.reduceAdd, Int.reduceToNat, Int.reducePow]); (repeat' apply And.intro); (try any_goals (first | (refine hK _ _ ?_; clear hK' hQ hK Q' Kn) | (intro q; refine ⟨q, ?_⟩; simp only [redB] at q; omega) | (intro q; refine ⟨q, fun p => ?_⟩; rw [q, p]; rfl) | (simp; done) | omega | (simp only [redL]; omega) | (simp; omega) | (intros; (repeat' apply And.intro) <;> (first | assumption | omega | (simp; done))))))
  (repeat' (first | refine AW.seq ?_ | refine AW.scope ?_ | refine AW.label ?_ | refine AW.block ?_ | refine AW.skip ?_ | refine AW.exit ?_ | refine AW.ret ?_))
  (refine ⟨_, _, rfl, by simp, ?_⟩; simp only [aTup, AA.get, List.getD_cons_zero, List.getD_cons_succ, true_and])
  rw [timeT, if_neg hA, if_neg (by simp [hD]), if_neg (by simp [hU])]
end Go.Almanac

/- Recurrence: what a rule means, as plain functions. -/
namespace Go.Almanac
open Go.RowKit Go.Proofs Go.Abs
def intsE (l : List Int) : List (List AV) := l.map fun n => [.int .i64 n]
@[simp] theorem intsE_length (l : List Int) : (intsE l).length = l.length := by simp [intsE]
theorem intsE_getD {l : List Int} {i : Nat} (h : i < l.length) : (intsE l).getD i [] = [.int .i64 (l.getD i 0)] := by
  simp [intsE, List.getD, List.getElem?_eq_getElem h]
def wdsE (l : List (Int × Int)) : List (List AV) := l.map fun d => [.int .i64 d.1, .int .i64 d.2]
@[simp] theorem wdsE_length (l : List (Int × Int)) : (wdsE l).length = l.length := by simp [wdsE]
theorem wdsE_getD {l : List (Int × Int)} {i : Nat} (h : i < l.length) : (wdsE l).getD i [] = [.int .i64 (l.getD i (0, 0)).1, .int .i64 (l.getD i (0, 0)).2] := by
  simp [wdsE, List.getD, List.getElem?_eq_getElem h]
attribute [go_sem] intsE_getD intsE_length wdsE_getD wdsE_length
structure RuleD where
  freq : Int
  interval : Int
  count : Int
  has : Bool
  secs : Int
  utc : Bool
  date : Bool
  byMonth : List Int
  byMonthDay : List Int
  byDay : List (Int × Int)
  bySetPos : List Int
  wkst : Int
def encR (R : RuleD) : List AV := [.int .i64 R.freq, .int .i64 R.interval, .int .i64 R.count, .bool R.has, .int .i64 R.secs, .bool R.utc, .bool R.date, .tree 1 (intsE R.byMonth), .tree 1 (intsE R.byMonthDay), .tree 2 (wdsE R.byDay), .tree 1 (intsE R.bySetPos), .int .i64 R.wkst]
def wday (n : Int) : Int := (n + 3) % 7
def inY (d : Int) : Bool := decide (-719162 ≤ d) && decide (d ≤ 2932896)
def withinF (l : List Int) (lo hi : Int) : Bool := decide (l.length ≤ 24) && !l.any fun n => decide (n = 0) || decide (n < lo) || decide (n > hi)
noncomputable def untilF (R : RuleD) : Bool := if R.has then decide (timeT (R.secs, R.utc, R.date) ≠ []) && decide (R.count = 0) else decide (R.secs = 0) && decide (R.utc = false) && decide (R.date = false)
def badDay (R : RuleD) (d : Int × Int) : Bool := decide (d.2 < 0) || decide (d.2 > 6) || decide (d.1 < -53) || decide (d.1 > 53) || decide (d.1 ≠ 0) && decide (R.freq < 3)
noncomputable def fitR (R : RuleD) : Bool :=
  (decide (1 ≤ R.freq) && decide (R.freq < 5) && decide (1 ≤ R.interval) && decide (R.interval ≤ 1000) && decide (0 ≤ R.count) && decide (R.count ≤ 1000) && decide (0 ≤ R.wkst) && decide (R.wkst ≤ 6)) && untilF R &&
  (withinF R.byMonth 1 12 && withinF R.byMonthDay (-31) 31 && withinF R.bySetPos (-366) 366 && decide (R.byDay.length ≤ 24) && !R.byDay.any (badDay R)) &&
  (decide (R.freq ≠ 2) || decide (R.byMonthDay.length = 0)) && (decide (R.byMonth.length + R.byMonthDay.length + R.byDay.length > 0) || decide (R.bySetPos.length = 0))
def countsF (l : List Int) (n all : Int) : Bool := l.contains n || l.contains (n - all - 1)
def periodF (R : RuleD) (f y m k : Int) : Int × Int × Bool :=
  if R.freq = 1 then (f + k * R.interval, 1, inY (f + k * R.interval))
  else if R.freq = 2 then (f - (wday f - R.wkst + 7) % 7 + 7 * (k * R.interval), 7, decide (k = 0) || inY (f - (wday f - R.wkst + 7) % 7 + 7 * (k * R.interval)))
  else if R.freq = 3 then ((days ((y * 12 + m - 1 + k * R.interval) / 12) ((y * 12 + m - 1 + k * R.interval) % 12 + 1) 1).1, mlen ((y * 12 + m - 1 + k * R.interval) / 12) ((y * 12 + m - 1 + k * R.interval) % 12 + 1), (days ((y * 12 + m - 1 + k * R.interval) / 12) ((y * 12 + m - 1 + k * R.interval) % 12 + 1) 1).2)
  else ((days (y + k * R.interval) 1 1).1, (days (y + k * R.interval) 12 31).1 - (days (y + k * R.interval) 1 1).1 + 1, (days (y + k * R.interval) 1 1).2)
def lateF (R : RuleD) (t : Int) : Bool := R.has && decide (t > (if R.date then R.secs + 86399 else R.secs))
def placeF (R : RuleD) (d y m k : Int) : Int × Int := if R.freq = 4 ∧ R.byMonth = [] then (d - (days y 1 1).1 + 1, (days y 12 31).1 - (days y 1 1).1 + 1) else (k, mlen y m)
def onF (R : RuleD) (d y m k : Int) : Bool :=
  R.byDay.any fun b => decide (b.2 = wday d) && (decide (b.1 = 0) || decide (b.1 = ((placeF R d y m k).1 - 1) / 7 + 1) || decide (b.1 = -(((placeF R d y m k).2 - (placeF R d y m k).1) / 7) - 1))
noncomputable def goodF (R : RuleD) (f m0 d0 d : Int) : Bool :=
  let c := civ d
  if ¬ c.2.2.2 = true then false
  else if R.byMonth ≠ [] ∧ R.byMonth.contains c.2.1 = false then false
  else if R.byMonthDay ≠ [] ∧ countsF R.byMonthDay c.2.2.1 (mlen c.1 c.2.1) = false then false
  else if R.byDay ≠ [] then onF R d c.1 c.2.1 c.2.2.1
  else if R.freq = 2 then decide (wday d = wday f)
  else if R.freq = 1 ∨ R.byMonthDay ≠ [] then true
  else decide (c.2.2.1 = d0) && (decide (R.freq = 3) || decide (R.byMonth ≠ []) || decide (c.2.1 = m0))
noncomputable def poolF (R : RuleD) (f m0 d0 s : Int) (n : Nat) : List Int := ((List.range n).map fun i : Nat => s + (i : Int)).filter (goodF R f m0 d0)
def pickF (R : RuleD) (l : List Int) : List Int := ((List.range l.length).filter fun i : Nat => decide (R.bySetPos = []) || countsF R.bySetPos ((i : Int) + 1) l.length).map fun i => l.getD i 0
def fullF (R : RuleD) (l : List Int) : Bool := decide (0 < R.count) && decide (R.count ≤ l.length)
def roundF (R : RuleD) (start secs : Int) : List Int → List Int → List Int × Bool
  | [], l => (l, false)
  | d :: ds, l => if d * 86400 + secs ≤ start ∨ fullF R l = true then roundF R start secs ds l else if lateF R (d * 86400 + secs) = true then (l, true) else roundF R start secs ds (l ++ [d * 86400 + secs])
noncomputable def goF (R : RuleD) (start upto f secs y m d0 : Int) : Nat → Int → List Int → List Int × Bool
  | 0, k, l => if fullF R l = true ∨ ¬ (periodF R f y m k).2.2 = true ∨ upto ≤ (periodF R f y m k).1 * 86400 ∨ 0 < k ∧ lateF R ((periodF R f y m k).1 * 86400) = true then (l, true) else (l, false)
  | n + 1, k, l => if fullF R l = true ∨ ¬ (periodF R f y m k).2.2 = true ∨ upto ≤ (periodF R f y m k).1 * 86400 ∨ 0 < k ∧ lateF R ((periodF R f y m k).1 * 86400) = true then (l, true)
    else if (roundF R start secs (pickF R (poolF R f m d0 (periodF R f y m k).1 (periodF R f y m k).2.1.toNat)) l).2 = true then ((roundF R start secs (pickF R (poolF R f m d0 (periodF R f y m k).1 (periodF R f y m k).2.1.toNat)) l).1, true)
    else goF R start upto f secs y m d0 n (k + 1) (roundF R start secs (pickF R (poolF R f m d0 (periodF R f y m k).1 (periodF R f y m k).2.1.toNat)) l).1
noncomputable def allF (R : RuleD) (start upto : Int) : List Int × Bool :=
  goF R start upto (start / 86400) (start % 86400) (civ (start / 86400)).1 (civ (start / 86400)).2.1 (civ (start / 86400)).2.2.1 4000 0 [start]
end Go.Almanac
