/- Dates: seconds as texts, both ways. -/
import Derived.Test.YtojkdncegglceaaDoorM6
import Derived.Test.YtojkdncegglceaaDoorM5
/- Dates: seconds as texts, both ways. -/
namespace Go.Almanac
open Go.RowKit Go.Proofs Go.Abs

set_option linter.unusedSimpArgs false
set_option linter.unusedVariables false
set_option linter.unusedSectionVars false
set_option maxRecDepth 10000
set_option maxHeartbeats 1000000

/-- Can this second be written? -/
def inT (t : Int) : Bool := decide (-62135596800 ≤ t) && decide (t ≤ 253402300799)
/-- A second as a text. -/
noncomputable def stampF (t : Int) : List UInt8 := if inT t then dayF (t / 86400) ++ [84] ++ clockT (t % 86400) [] else []

theorem dayF_length (n : Int) : (dayF n).length ≤ 8 := by unfold dayF; split <;> simp
theorem clockT_length (t : Int) (s : List UInt8) : (clockT t s).length = 6 + 2 * s.length := by simp [clockT]; omega

theorem t_Stamp (G : Nat → AV) (t : Int) (h0 : -9223372036854775808 ≤ t) (h1 : t ≤ 9223372036854775807) (st : St) : ACalls (Ev G) 20 [.int .i64 t] st (fun e st' => st' = st ∧ (inT t = true → CivOk (t / 86400)) ∧ e = .ret (.str (stampF t))) := by
  refine ACalls.of_body Tryd.func20 rfl ?_
  rw [Tryd.ntmps20]
  simp only [List.length_cons, List.length_nil, Nat.reduceAdd, Nat.reduceSub, List.replicate_succ, List.replicate_zero, List.cons_append, List.nil_append]
  (repeat' (first | refine AW.seq ?_ | refine AW.scope ?_ | refine AW.label ?_ | refine AW.block ?_ | refine AW.skip ?_ | refine AW.exit ?_ | refine AW.ret ?_ | (refine AW.regionC fun Q' Kn hQ hK hK' => ?_; (repeat simp (disch := omega) only [go_sem, redN, Nat.reduceAdd, Int.reduceToNat, Int.reducePow]); (repeat' refine And.intro ?_ ?_); (try any_goals (first | (refine hK _ _ ?_; clear hK' hQ hK Q' Kn) | (simp; done) | omega | (simp only [redL]; omega) | (simp; omega)))) | (refine AW.cond (by simp (disch := omega) only [go_sem, redN, Nat.reduceAdd, Int.reduceToNat, Int.reducePow]; rfl) (fun hb => ?_) (fun hb => ?_) <;> (try simp only [redB] at hb))))
  refine AOp.call rfl (by simp only [go_sem]; rfl) (by simp [go_sem]) rfl (ACalls.mono (by simp only [go_sem]; exact t_In G t _) ?_)
  rintro e st' ⟨rfl, rfl⟩
  rw [show (decide (-62135596800 ≤ t) && decide (t ≤ 253402300799)) = inT t from rfl]
  (refine AOpsC_ok hK' _ _ _ ?_; (repeat simp (disch := omega) only [go_sem, redN, Nat.reduceAdd, Int.reduceToNat, Int.reducePow]); (repeat' refine And.intro ?_ ?_); (try any_goals (first | (refine hK _ _ ?_; clear hK' hQ hK Q' Kn) | (simp; done) | omega | (simp only [redL]; omega) | (simp; omega))))
  (repeat' (first | refine AW.seq ?_ | refine AW.scope ?_ | refine AW.label ?_ | refine AW.block ?_ | refine AW.skip ?_ | refine AW.exit ?_ | refine AW.ret ?_ | (refine AW.regionC fun Q' Kn hQ hK hK' => ?_; (repeat simp (disch := omega) only [go_sem, redN, Nat.reduceAdd, Int.reduceToNat, Int.reducePow]); (repeat' refine And.intro ?_ ?_); (try any_goals (first | (refine hK _ _ ?_; clear hK' hQ hK Q' Kn) | (simp; done) | omega | (simp only [redL]; omega) | (simp; omega)))) | (refine AW.cond (by simp (disch := omega) only [go_sem, redN, Nat.reduceAdd, Int.reduceToNat, Int.reducePow]; rfl) (fun hb => ?_) (fun hb => ?_) <;> (try simp only [redB] at hb))))
  · (refine ⟨_, _, rfl, by simp, ?_⟩; simp only [aTup, AA.get, List.getD_cons_zero, List.getD_cons_succ, true_and])
    exact ⟨fun h => by simp [h] at hb, by simp [stampF, hb]⟩
  have hin : inT t = true := by simpa using hb
  have hi2 : -62135596800 ≤ t ∧ t ≤ 253402300799 := by simpa [inT] using hin
  refine AOp.call rfl (by simp only [go_sem]; rfl) (by simp [go_sem]) rfl (ACalls.mono (by simp only [go_sem]; exact t_Parts G t h0 h1 _) ?_)
  rintro e st' ⟨rfl, rfl⟩
  (refine AOpsC_ok hK' _ _ _ ?_; (repeat simp (disch := omega) only [go_sem, redN, Nat.reduceAdd, Int.reduceToNat, Int.reducePow]); (repeat' refine And.intro ?_ ?_); (try any_goals (first | (refine hK _ _ ?_; clear hK' hQ hK Q' Kn) | (simp; done) | omega | (simp only [redL]; omega) | (simp; omega))))
  (repeat' (first | refine AW.seq ?_ | refine AW.scope ?_ | refine AW.label ?_ | refine AW.block ?_ | refine AW.skip ?_ | refine AW.exit ?_ | refine AW.ret ?_ | (refine AW.regionC fun Q' Kn hQ hK hK' => ?_; (repeat simp (disch := omega) only [go_sem, redN, Nat.reduceAdd, Int.reduceToNat, Int.reducePow]); (repeat' refine And.intro ?_ ?_); (try any_goals (first | (refine hK _ _ ?_; clear hK' hQ hK Q' Kn) | (simp; done) | omega | (simp only [redL]; omega) | (simp; omega)))) | (refine AW.cond (by simp (disch := omega) only [go_sem, redN, Nat.reduceAdd, Int.reduceToNat, Int.reducePow]; rfl) (fun hb => ?_) (fun hb => ?_) <;> (try simp only [redB] at hb))))
  refine AOp.call rfl (by simp only [go_sem]; rfl) (by simp [go_sem]) rfl (ACalls.mono (by simp only [go_sem]; exact t_Day G (t / 86400) (by omega) (by omega) _) ?_)
  rintro e st' ⟨rfl, hc, rfl⟩
  have hdl := dayF_length (t / 86400)
  (refine AOpsC_ok hK' _ _ _ ?_; (repeat simp (disch := omega) only [go_sem, redN, Nat.reduceAdd, Int.reduceToNat, Int.reducePow]); (repeat' refine And.intro ?_ ?_); (try any_goals (first | (refine hK _ _ ?_; clear hK' hQ hK Q' Kn) | (simp; done) | omega | (simp only [redL]; omega) | (simp; omega))))
  refine AOp.call rfl (by simp only [go_sem]; rfl) (by simp [go_sem]) rfl (ACalls.mono (by simp only [go_sem]; exact t_clock G (t % 86400) [] (by simp) (by omega) (by omega) _) ?_)
  rintro e st' ⟨rfl, rfl⟩
  have hcl : (clockT (t % 86400) []).length = 6 := by rw [clockT_length]; rfl
  (refine AOpsC_ok hK' _ _ _ ?_; (repeat simp (disch := omega) only [go_sem, redN, Nat.reduceAdd, Int.reduceToNat, Int.reducePow]); (repeat' refine And.intro ?_ ?_); (try any_goals (first | (refine hK _ _ ?_; clear hK' hQ hK Q' Kn) | (simp; done) | omega | (simp only [redL]; omega) | (simp; omega))))
  (repeat' (first | refine AW.seq ?_ | refine AW.scope ?_ | refine AW.label ?_ | refine AW.block ?_ | refine AW.skip ?_ | refine AW.exit ?_ | refine AW.ret ?_ | (refine AW.regionC fun Q' Kn hQ hK hK' => ?_; (repeat simp (disch := omega) only [go_sem, redN, Nat.reduceAdd, Int.reduceToNat, Int.reducePow]); (repeat' refine And.intro ?_ ?_); (try any_goals (first | (refine hK _ _ ?_; clear hK' hQ hK Q' Kn) | (simp; done) | omega | (simp only [redL]; omega) | (simp; omega)))) | (refine AW.cond (by simp (disch := omega) only [go_sem, redN, Nat.reduceAdd, Int.reduceToNat, Int.reducePow]; rfl) (fun hb => ?_) (fun hb => ?_) <;> (try simp only [redB] at hb))))
  (refine ⟨_, _, rfl, by simp, ?_⟩; simp only [aTup, AA.get, List.getD_cons_zero, List.getD_cons_succ, true_and])
  exact ⟨fun _ => hc, by simp [stampF, hin]⟩

theorem r_Stamp (G : Nat → AV) (t : Int) (h0 : -9223372036854775808 ≤ t) (h1 : t ≤ 9223372036854775807) (st : St) : ACalls (Ev G) 23 [.int .i64 t] st (fun e st' => st' = st ∧ (inT t = true → CivOk (t / 86400)) ∧ e = .ret (.str (stampF t))) := by
  refine ACalls.of_body Tryd.func23 rfl ?_
  rw [Tryd.ntmps23]
  simp only [List.length_cons, List.length_nil, Nat.reduceAdd, Nat.reduceSub, List.replicate_succ, List.replicate_zero, List.cons_append, List.nil_append]
  (repeat' (first | refine AW.seq ?_ | refine AW.scope ?_ | refine AW.label ?_ | refine AW.block ?_ | refine AW.skip ?_ | refine AW.exit ?_ | refine AW.ret ?_ | (refine AW.regionC fun Q' Kn hQ hK hK' => ?_; (repeat simp (disch := omega) only [go_sem, redN, Nat.reduceAdd, Int.reduceToNat, Int.reducePow]); (repeat' refine And.intro ?_ ?_); (try any_goals (first | (refine hK _ _ ?_; clear hK' hQ hK Q' Kn) | (simp; done) | omega | (simp only [redL]; omega) | (simp; omega)))) | (refine AW.cond (by simp (disch := omega) only [go_sem, redN, Nat.reduceAdd, Int.reduceToNat, Int.reducePow]; rfl) (fun hb => ?_) (fun hb => ?_) <;> (try simp only [redB] at hb))))
  refine AOp.call rfl (by simp only [go_sem]; rfl) (by simp [go_sem]) rfl (ACalls.mono (by simp only [go_sem]; exact r_In G t _) ?_)
  rintro e st' ⟨rfl, rfl⟩
  rw [show (decide (-62135596800 ≤ t) && decide (t ≤ 253402300799)) = inT t from rfl]
  (refine AOpsC_ok hK' _ _ _ ?_; (repeat simp (disch := omega) only [go_sem, redN, Nat.reduceAdd, Int.reduceToNat, Int.reducePow]); (repeat' refine And.intro ?_ ?_); (try any_goals (first | (refine hK _ _ ?_; clear hK' hQ hK Q' Kn) | (simp; done) | omega | (simp only [redL]; omega) | (simp; omega))))
  (repeat' (first | refine AW.seq ?_ | refine AW.scope ?_ | refine AW.label ?_ | refine AW.block ?_ | refine AW.skip ?_ | refine AW.exit ?_ | refine AW.ret ?_ | (refine AW.regionC fun Q' Kn hQ hK hK' => ?_; (repeat simp (disch := omega) only [go_sem, redN, Nat.reduceAdd, Int.reduceToNat, Int.reducePow]); (repeat' refine And.intro ?_ ?_); (try any_goals (first | (refine hK _ _ ?_; clear hK' hQ hK Q' Kn) | (simp; done) | omega | (simp only [redL]; omega) | (simp; omega)))) | (refine AW.cond (by simp (disch := omega) only [go_sem, redN, Nat.reduceAdd, Int.reduceToNat, Int.reducePow]; rfl) (fun hb => ?_) (fun hb => ?_) <;> (try simp only [redB] at hb))))
  · (refine ⟨_, _, rfl, by simp, ?_⟩; simp only [aTup, AA.get, List.getD_cons_zero, List.getD_cons_succ, true_and])
    exact ⟨fun h => by simp [h] at hb, by simp [stampF, hb]⟩
  have hin : inT t = true := by simpa using hb
  have hi2 : -62135596800 ≤ t ∧ t ≤ 253402300799 := by simpa [inT] using hin
  refine AOp.call rfl (by simp only [go_sem]; rfl) (by simp [go_sem]) rfl (ACalls.mono (by simp only [go_sem]; exact r_Parts G t h0 h1 _) ?_)
  rintro e st' ⟨rfl, rfl⟩
  (refine AOpsC_ok hK' _ _ _ ?_; (repeat simp (disch := omega) only [go_sem, redN, Nat.reduceAdd, Int.reduceToNat, Int.reducePow]); (repeat' refine And.intro ?_ ?_); (try any_goals (first | (refine hK _ _ ?_; clear hK' hQ hK Q' Kn) | (simp; done) | omega | (simp only [redL]; omega) | (simp; omega))))
  (repeat' (first | refine AW.seq ?_ | refine AW.scope ?_ | refine AW.label ?_ | refine AW.block ?_ | refine AW.skip ?_ | refine AW.exit ?_ | refine AW.ret ?_ | (refine AW.regionC fun Q' Kn hQ hK hK' => ?_; (repeat simp (disch := omega) only [go_sem, redN, Nat.reduceAdd, Int.reduceToNat, Int.reducePow]); (repeat' refine And.intro ?_ ?_); (try any_goals (first | (refine hK _ _ ?_; clear hK' hQ hK Q' Kn) | (simp; done) | omega | (simp only [redL]; omega) | (simp; omega)))) | (refine AW.cond (by simp (disch := omega) only [go_sem, redN, Nat.reduceAdd, Int.reduceToNat, Int.reducePow]; rfl) (fun hb => ?_) (fun hb => ?_) <;> (try simp only [redB] at hb))))
  refine AOp.call rfl (by simp only [go_sem]; rfl) (by simp [go_sem]) rfl (ACalls.mono (by simp only [go_sem]; exact r_Day G (t / 86400) (by omega) (by omega) _) ?_)
  rintro e st' ⟨rfl, hc, rfl⟩
  have hdl := dayF_length (t / 86400)
  (refine AOpsC_ok hK' _ _ _ ?_; (repeat simp (disch := omega) only [go_sem, redN, Nat.reduceAdd, Int.reduceToNat, Int.reducePow]); (repeat' refine And.intro ?_ ?_); (try any_goals (first | (refine hK _ _ ?_; clear hK' hQ hK Q' Kn) | (simp; done) | omega | (simp only [redL]; omega) | (simp; omega))))
  refine AOp.call rfl (by simp only [go_sem]; rfl) (by simp [go_sem]) rfl (ACalls.mono (by simp only [go_sem]; exact r_PadI G (t % 86400 / 3600) 2 (by omega) (by omega) (by omega) _) ?_)
  rintro e st' ⟨rfl, rfl⟩
  (refine AOpsC_ok hK' _ _ _ ?_; (repeat simp (disch := omega) only [go_sem, redN, Nat.reduceAdd, Int.reduceToNat, Int.reducePow]); (repeat' refine And.intro ?_ ?_); (try any_goals (first | (refine hK _ _ ?_; clear hK' hQ hK Q' Kn) | (simp; done) | omega | (simp only [redL]; omega) | (simp; omega))))
  refine AOp.call rfl (by simp only [go_sem]; rfl) (by simp [go_sem]) rfl (ACalls.mono (by simp only [go_sem]; exact r_PadI G (t % 86400 / 60 % 60) 2 (by omega) (by omega) (by omega) _) ?_)
  rintro e st' ⟨rfl, rfl⟩
  (refine AOpsC_ok hK' _ _ _ ?_; (repeat simp (disch := omega) only [go_sem, redN, Nat.reduceAdd, Int.reduceToNat, Int.reducePow]); (repeat' refine And.intro ?_ ?_); (try any_goals (first | (refine hK _ _ ?_; clear hK' hQ hK Q' Kn) | (simp; done) | omega | (simp only [redL]; omega) | (simp; omega))))
  refine AOp.call rfl (by simp only [go_sem]; rfl) (by simp [go_sem]) rfl (ACalls.mono (by simp only [go_sem]; exact r_PadI G (t % 86400 % 60) 2 (by omega) (by omega) (by omega) _) ?_)
  rintro e st' ⟨rfl, rfl⟩
  (refine AOpsC_ok hK' _ _ _ ?_; (repeat simp (disch := omega) only [go_sem, redN, Nat.reduceAdd, Int.reduceToNat, Int.reducePow]); (repeat' refine And.intro ?_ ?_); (try any_goals (first | (refine hK _ _ ?_; clear hK' hQ hK Q' Kn) | (simp; done) | omega | (simp only [redL]; omega) | (simp; omega))))
  (repeat' (first | refine AW.seq ?_ | refine AW.scope ?_ | refine AW.label ?_ | refine AW.block ?_ | refine AW.skip ?_ | refine AW.exit ?_ | refine AW.ret ?_ | (refine AW.regionC fun Q' Kn hQ hK hK' => ?_; (repeat simp (disch := omega) only [go_sem, redN, Nat.reduceAdd, Int.reduceToNat, Int.reducePow]); (repeat' refine And.intro ?_ ?_); (try any_goals (first | (refine hK _ _ ?_; clear hK' hQ hK Q' Kn) | (simp; done) | omega | (simp only [redL]; omega) | (simp; omega)))) | (refine AW.cond (by simp (disch := omega) only [go_sem, redN, Nat.reduceAdd, Int.reduceToNat, Int.reducePow]; rfl) (fun hb => ?_) (fun hb => ?_) <;> (try simp only [redB] at hb))))
  (refine ⟨_, _, rfl, by simp, ?_⟩; simp only [aTup, AA.get, List.getD_cons_zero, List.getD_cons_succ, true_and])
  exact ⟨fun _ => hc, by simp [stampF, hin, clockT]⟩

/-- The number in a piece of a text, or -1. -/
def fieldN (s : List UInt8) (a n : Nat) : Int := if (number ((s.drop a).take n) 9999).2 then (number ((s.drop a).take n) 9999).1 else -1
theorem numL_bound : ∀ (s : List UInt8) (a x : Nat), numL s a = some x → x < (a + 1) * 10 ^ s.length
  | [], a, x, h => by simp only [numL, Option.some.injEq] at h; subst h; simp
  | c :: cs, a, x, h => by
    have hb8 : c.toNat < 256 := UInt8.toNat_lt _
    rw [numL] at h
    split at h
    · cases h
    · have := numL_bound cs _ _ h
      refine Nat.lt_of_lt_of_le this ?_
      rw [List.length_cons, Nat.pow_succ, Nat.mul_comm (10 ^ cs.length), ← Nat.mul_assoc]
      exact Nat.mul_le_mul_right _ (by omega)
theorem number_nonneg (s : List UInt8) (m : Int) : 0 ≤ (number s m).1 := by
  unfold number
  split
  · simp
  · split
    · simp
    · split <;> simp
theorem number_lt (s : List UInt8) (m : Int) : (number s m).1 < 10 ^ s.length := by
  have hp : (0 : Int) < 10 ^ s.length := Int.pow_pos (by omega)
  unfold number
  split
  · exact hp
  · split
    · exact hp
    · rename_i n hn
      have := numL_bound _ _ _ hn
      split
      · exact hp
      · have h2 : ((n : Nat) : Int) < ((10 ^ s.length : Nat) : Int) := by exact_mod_cast (by simpa using this)
        simpa using h2
theorem fieldN_bounds (s : List UInt8) (a n : Nat) : -1 ≤ fieldN s a n ∧ fieldN s a n < 10 ^ n := by
  have h1 := number_nonneg ((s.drop a).take n) 9999
  have h2 := number_lt ((s.drop a).take n) 9999
  have h3 : (10 : Int) ^ ((s.drop a).take n).length ≤ 10 ^ n := by
    have : (10 : Nat) ^ ((s.drop a).take n).length ≤ 10 ^ n := Nat.pow_le_pow_right (by omega) (List.length_take_le _ _)
    have h4 : ((10 ^ ((s.drop a).take n).length : Nat) : Int) ≤ ((10 ^ n : Nat) : Int) := by exact_mod_cast this
    simpa using h4
  have hp : (0 : Int) < 10 ^ n := Int.pow_pos (by omega)
  unfold fieldN
  split <;> omega

/-- A day read. -/
def readDay (s : List UInt8) : Int × Int := if s.length = 8 then (if (days (fieldN s 0 4) (fieldN s 4 2) (fieldN s 6 2)).2 then ((days (fieldN s 0 4) (fieldN s 4 2) (fieldN s 6 2)).1, 0) else (0, 10)) else (0, 10)
end Go.Almanac
