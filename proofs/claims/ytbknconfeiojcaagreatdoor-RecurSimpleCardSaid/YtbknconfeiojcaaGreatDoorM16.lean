/- Recurrence: the law of RecurSimple, walked through. -/
import Derived.Test.YtbknconfeiojcaaGreatDoorM15
import Derived.Test.YtbknconfeiojcaaGreatDoorM12
import Derived.Test.YtbknconfeiojcaaGreatDoorM13
set_option linter.unusedSimpArgs false
set_option linter.unusedVariables false
set_option linter.unusedSectionVars false
set_option maxRecDepth 10000
set_option maxHeartbeats 1000000
/- Recurrence: the last occurrence, both sides. -/
/-STEPS-/
namespace Go.Almanac
open Go.RowKit Go.Proofs Go.Abs
def endF (b1 b2 : Bool) (R : RuleD) (la : List Int) (oka : Bool) : Int × Bool :=
  if (b1 = false ∨ b2 = false) ∨ R.count = 0 ∧ R.has = false then (0, false) else if oka = false then (0, false) else (la.getD (la.length - 1) 0, true)
noncomputable def lastF (R : RuleD) (start : Int) : Int × Bool := endF (inT start) (fitR R) R (allF R start 4611686018427387904).1 (allF R start 4611686018427387904).2
theorem t_allL (G : Nat → AV) (R : RuleD) (start f secs y m d upto : Int) (hf0 : -719162 ≤ f) (hf1 : f ≤ 2932896) (hy0 : 1 ≤ y) (hy1 : y ≤ 9999) (hm0 : 1 ≤ m) (hm1 : m ≤ 12) (hw0 : 0 ≤ R.wkst) (hw1 : R.wkst ≤ 6) (hc0 : 0 ≤ secs) (hc1 : secs < 86400)
    (hi0 : 1 ≤ R.interval) (hi1 : R.interval ≤ 1000) (hs0 : -1000000000000000 ≤ R.secs) (hs1 : R.secs ≤ 1000000000000000) (hlm : R.byMonth.length ≤ 1000000) (hld : R.byMonthDay.length ≤ 1000000) (hlw : R.byDay.length ≤ 1000000) (hls : R.bySetPos.length ≤ 1000000)
    (la : List Int) (oka : Bool) (hA : goF R start upto f secs y m d 4000 0 [start] = (la, oka)) (st : St) :
    ACalls (Ev G) 16 [.fptr (planE R start f secs y m d), .int .i64 upto] st (fun e st' => st' = st ∧ la ≠ [] ∧ la.length ≤ 10000000 ∧ e = .ret (.tup [.tree 1 (intsE la), .bool oka])) := by
  refine ACalls.thawL (t_all G R start f secs y m d upto hf0 hf1 hy0 hy1 hm0 hm1 hw0 hw1 hc0 hc1 hi0 hi1 hs0 hs1 hlm hld hlw hls la oka hA st) ?_
  rintro x st1 ⟨v, h1, h2, h3, rfl⟩
  exact ⟨2, st, _, _, rfl, h1.sub (St.sub_refl st), VLe.tup (LLe.cons (h1.thL (St.sub_refl st) 0 (by intro e he c hc; rfl)) (LLe.cons (VLe.of_eq (th_bool _ _ _ _)) LLe.nil)), rfl, h2, h3, rfl⟩
theorem t_LastW (G : Nat → AV) (R : RuleD) (start f secs y m d : Int) (la : List Int) (oka b2 : Bool)
    (hft : ∀ σ, ACalls (Ev G) 14 [.agg (encR R)] σ (fun e st' => st' = σ ∧ e = .ret (.bool b2)))
    (hp : inT start = true → b2 = true → ∀ σ, ACalls (Ev G) 15 [.int .i64 start, .agg (encR R)] σ (fun e st' => st' = σ ∧ e = .ret (.fptr (planE R start f secs y m d))))
    (ha : inT start = true → b2 = true → ∀ σ, ACalls (Ev G) 16 [.fptr (planE R start f secs y m d), .int .i64 4611686018427387904] σ (fun e st' => st' = σ ∧ la ≠ [] ∧ la.length ≤ 10000000 ∧ e = .ret (.tup [.tree 1 (intsE la), .bool oka]))) (st : St) :
    ACalls (Ev G) 7 [.int .i64 start, .agg (encR R)] st (fun e st' => st' = st ∧ e = .ret (.tup [.int .i64 (endF (inT start) b2 R la oka).1, .bool (endF (inT start) b2 R la oka).2])) := by
  refine ACalls.of_body Tryz.func7 rfl ?_
  rw [Tryz.ntmps7]
  simp only [List.length_cons, List.length_nil, Nat.reduceAdd, Nat.reduceSub, List.replicate_succ, List.replicate_zero, List.cons_append, List.nil_append]
  (repeat' (first | refine AW.seq ?_ | refine AW.scope ?_ | refine AW.label ?_ | refine AW.block ?_ | refine AW.skip ?_ | refine AW.exit ?_ | refine AW.ret ?_))
  (refine AW.regionC fun Q' Kn hQ hK hK' => ?_; (repeat simp (maxSteps := 4000000) (disch := omega) only [go_sem, redN, Nat.reduceAdd, Int.reduceToNat, Int.reducePow]); (repeat' apply And.intro); (try any_goals (first | (refine hK _ _ ?_; clear hK' hQ hK Q' Kn) | (intro q; refine ⟨q, ?_⟩; simp only [redB] at q; omega) | (intro q; refine ⟨q, fun p => ?_⟩; rw [q, p]; rfl) | (simp; done) | omega | (simp only [redL, intsE_length, wdsE_length]; omega) | (simp; omega) | (intros; (repeat' apply And.intro) <;> (first | assumption | omega | (simp; done))))))
  refine AOp.box rfl (by simp [go_sem]) (by simp only [go_sem]; rfl) fun b3 hb3 => ?_
  (refine AOpsC_ok hK' _ _ _ ?_; (repeat simp (maxSteps := 4000000) (disch := omega) only [go_sem, redN, Nat.reduceAdd, Int.reduceToNat, Int.reducePow]); (repeat' apply And.intro); (try any_goals (first | (refine hK _ _ ?_; clear hK' hQ hK Q' Kn) | (intro q; refine ⟨q, ?_⟩; simp only [redB] at q; omega) | (intro q; refine ⟨q, fun p => ?_⟩; rw [q, p]; rfl) | (simp; done) | omega | (simp only [redL, intsE_length, wdsE_length]; omega) | (simp; omega) | (intros; (repeat' apply And.intro) <;> (first | assumption | omega | (simp; done))))))
  refine AW.freeze 3 rfl (St.set_same _ _ _) ?_
  rw [St.del_set _ _ hb3]
  (repeat' (first | refine AW.seq ?_ | refine AW.scope ?_ | refine AW.label ?_ | refine AW.block ?_ | refine AW.skip ?_ | refine AW.exit ?_ | refine AW.ret ?_))
  (refine AW.regionC fun Q' Kn hQ hK hK' => ?_; (repeat simp (maxSteps := 4000000) (disch := omega) only [go_sem, redN, Nat.reduceAdd, Int.reduceToNat, Int.reducePow]); (repeat' apply And.intro); (try any_goals (first | (refine hK _ _ ?_; clear hK' hQ hK Q' Kn) | (intro q; refine ⟨q, ?_⟩; simp only [redB] at q; omega) | (intro q; refine ⟨q, fun p => ?_⟩; rw [q, p]; rfl) | (simp; done) | omega | (simp only [redL, intsE_length, wdsE_length]; omega) | (simp; omega) | (intros; (repeat' apply And.intro) <;> (first | assumption | omega | (simp; done))))))
  refine AOp.call rfl (by simp only [go_sem]; rfl) (by simp [go_sem]) rfl (ACalls.mono (by simp only [go_sem]; exact t_In G start _) ?_)
  rintro e σ7 ⟨h7, rfl⟩; subst σ7
  (refine AOpsC_ok hK' _ _ _ ?_; (repeat simp (maxSteps := 4000000) (disch := omega) only [go_sem, redN, Nat.reduceAdd, Int.reduceToNat, Int.reducePow]); (repeat' apply And.intro); (try any_goals (first | (refine hK _ _ ?_; clear hK' hQ hK Q' Kn) | (intro q; refine ⟨q, ?_⟩; simp only [redB] at q; omega) | (intro q; refine ⟨q, fun p => ?_⟩; rw [q, p]; rfl) | (simp; done) | omega | (simp only [redL, intsE_length, wdsE_length]; omega) | (simp; omega) | (intros; (repeat' apply And.intro) <;> (first | assumption | omega | (simp; done))))))
  rw [show (decide (-62135596800 ≤ start) && decide (start ≤ 253402300799)) = inT start from rfl]
  refine AOps.guard_call (f := 14) (v := .bool b2) rfl rfl rfl rfl rfl (fun _ => (by simp only [go_sem] <;> rfl)) (fun h => by first | (simp [go_sem]; done) | simpa [go_sem] using h) rfl (fun hg => by simp only [go_sem]; exact hft _) ?_
  (refine AOpsC_ok hK' _ _ _ ?_; (repeat simp (maxSteps := 4000000) (disch := omega) only [go_sem, redN, Nat.reduceAdd, Int.reduceToNat, Int.reducePow]); (repeat' apply And.intro); (try any_goals (first | (refine hK _ _ ?_; clear hK' hQ hK Q' Kn) | (intro q; refine ⟨q, ?_⟩; simp only [redB] at q; omega) | (intro q; refine ⟨q, fun p => ?_⟩; rw [q, p]; rfl) | (simp; done) | omega | (simp only [redL, intsE_length, wdsE_length]; omega) | (simp; omega) | (intros; (repeat' apply And.intro) <;> (first | assumption | omega | (simp; done))))))
  (repeat' (first | refine AW.seq ?_ | refine AW.scope ?_ | refine AW.label ?_ | refine AW.block ?_ | refine AW.skip ?_ | refine AW.exit ?_ | refine AW.ret ?_))
  (refine AW.cond (by simp (maxSteps := 4000000) (disch := omega) only [go_sem, redN, Nat.reduceAdd, Int.reduceToNat, Int.reducePow]; rfl) (fun hb => ?_) (fun hb => ?_) <;> (try simp only [redB] at hb))
  · (repeat' (first | refine AW.seq ?_ | refine AW.scope ?_ | refine AW.label ?_ | refine AW.block ?_ | refine AW.skip ?_ | refine AW.exit ?_ | refine AW.ret ?_))
    (refine AW.regionC fun Q' Kn hQ hK hK' => ?_; (repeat simp (maxSteps := 4000000) (disch := omega) only [go_sem, redN, Nat.reduceAdd, Int.reduceToNat, Int.reducePow]); (repeat' apply And.intro); (try any_goals (first | (refine hK _ _ ?_; clear hK' hQ hK Q' Kn) | (intro q; refine ⟨q, ?_⟩; simp only [redB] at q; omega) | (intro q; refine ⟨q, fun p => ?_⟩; rw [q, p]; rfl) | (simp; done) | omega | (simp only [redL, intsE_length, wdsE_length]; omega) | (simp; omega) | (intros; (repeat' apply And.intro) <;> (first | assumption | omega | (simp; done))))))
    (repeat' (first | refine AW.seq ?_ | refine AW.scope ?_ | refine AW.label ?_ | refine AW.block ?_ | refine AW.skip ?_ | refine AW.exit ?_ | refine AW.ret ?_))
    (refine ⟨_, _, rfl, by simp, ?_⟩; simp only [aTup, AA.get, List.getD_cons_zero, List.getD_cons_succ, true_and])
    rw [endF, if_pos (by simpa using hb)]
  have hin : inT start = true := by
    cases hx : inT start with
    | true => rfl
    | false => rw [hx] at hb; simp at hb
  have hfit : b2 = true := by
    cases hx : b2 with
    | true => rfl
    | false => rw [hx] at hb; simp at hb
  have he : endF (inT start) b2 R la oka = if oka = false then (0, false) else (la.getD (la.length - 1) 0, true) := by
    unfold endF
    rw [if_neg]
    rintro ((h | h) | ⟨h1, h2⟩)
    · rw [hin] at h; cases h
    · rw [hfit] at h; cases h
    · rcases hb.2 with h | h
      · exact h h1
      · rw [h] at h2; cases h2
  rw [he]
  clear hb he
  (repeat' (first | refine AW.seq ?_ | refine AW.scope ?_ | refine AW.label ?_ | refine AW.block ?_ | refine AW.skip ?_ | refine AW.exit ?_ | refine AW.ret ?_))
  (refine AW.regionC fun Q' Kn hQ hK hK' => ?_; (repeat simp (maxSteps := 4000000) (disch := omega) only [go_sem, redN, Nat.reduceAdd, Int.reduceToNat, Int.reducePow]); (repeat' apply And.intro); (try any_goals (first | (refine hK _ _ ?_; clear hK' hQ hK Q' Kn) | (intro q; refine ⟨q, ?_⟩; simp only [redB] at q; omega) | (intro q; refine ⟨q, fun p => ?_⟩; rw [q, p]; rfl) | (simp; done) | omega | (simp only [redL, intsE_length, wdsE_length]; omega) | (simp; omega) | (intros; (repeat' apply And.intro) <;> (first | assumption | omega | (simp; done))))))
  refine AOp.call rfl (by simp only [go_sem]; rfl) (by simp [go_sem]) rfl (ACalls.mono (by simp only [go_sem]; exact hp hin hfit _) ?_)
  rintro e σ7 ⟨h7, rfl⟩; subst σ7
  (refine AOpsC_ok hK' _ _ _ ?_; (repeat simp (maxSteps := 4000000) (disch := omega) only [go_sem, redN, Nat.reduceAdd, Int.reduceToNat, Int.reducePow]); (repeat' apply And.intro); (try any_goals (first | (refine hK _ _ ?_; clear hK' hQ hK Q' Kn) | (intro q; refine ⟨q, ?_⟩; simp only [redB] at q; omega) | (intro q; refine ⟨q, fun p => ?_⟩; rw [q, p]; rfl) | (simp; done) | omega | (simp only [redL, intsE_length, wdsE_length]; omega) | (simp; omega) | (intros; (repeat' apply And.intro) <;> (first | assumption | omega | (simp; done))))))
  refine AOp.call rfl (by simp only [go_sem]; rfl) (by simp [go_sem]) rfl (ACalls.mono (by simp only [go_sem]; exact ha hin hfit _) ?_)
  rintro e σ7 ⟨h7, hne, hln, rfl⟩; subst σ7
  (refine AOpsC_ok hK' _ _ _ ?_; (repeat simp (maxSteps := 4000000) (disch := omega) only [go_sem, redN, Nat.reduceAdd, Int.reduceToNat, Int.reducePow]); (repeat' apply And.intro); (try any_goals (first | (refine hK _ _ ?_; clear hK' hQ hK Q' Kn) | (intro q; refine ⟨q, ?_⟩; simp only [redB] at q; omega) | (intro q; refine ⟨q, fun p => ?_⟩; rw [q, p]; rfl) | (simp; done) | omega | (simp only [redL, intsE_length, wdsE_length]; omega) | (simp; omega) | (intros; (repeat' apply And.intro) <;> (first | assumption | omega | (simp; done))))))
  have hlp : 0 < la.length := List.length_pos_iff.2 hne
  (repeat' (first | refine AW.seq ?_ | refine AW.scope ?_ | refine AW.label ?_ | refine AW.block ?_ | refine AW.skip ?_ | refine AW.exit ?_ | refine AW.ret ?_))
  (refine AW.regionC fun Q' Kn hQ hK hK' => ?_; (repeat simp (maxSteps := 4000000) (disch := omega) only [go_sem, redN, Nat.reduceAdd, Int.reduceToNat, Int.reducePow]); (repeat' apply And.intro); (try any_goals (first | (refine hK _ _ ?_; clear hK' hQ hK Q' Kn) | (intro q; refine ⟨q, ?_⟩; simp only [redB] at q; omega) | (intro q; refine ⟨q, fun p => ?_⟩; rw [q, p]; rfl) | (simp; done) | omega | (simp only [redL, intsE_length, wdsE_length]; omega) | (simp; omega) | (intros; (repeat' apply And.intro) <;> (first | assumption | omega | (simp; done))))))
  (repeat' (first | refine AW.seq ?_ | refine AW.scope ?_ | refine AW.label ?_ | refine AW.block ?_ | refine AW.skip ?_ | refine AW.exit ?_ | refine AW.ret ?_))
  (refine AW.cond (by simp (maxSteps := 4000000) (disch := omega) only [go_sem, redN, Nat.reduceAdd, Int.reduceToNat, Int.reducePow]; rfl) (fun hb => ?_) (fun hb => ?_) <;> (try simp only [redB] at hb))
  · (repeat' (first | refine AW.seq ?_ | refine AW.scope ?_ | refine AW.label ?_ | refine AW.block ?_ | refine AW.skip ?_ | refine AW.exit ?_ | refine AW.ret ?_))
    (refine AW.regionC fun Q' Kn hQ hK hK' => ?_; (repeat simp (maxSteps := 4000000) (disch := omega) only [go_sem, redN, Nat.reduceAdd, Int.reduceToNat, Int.reducePow]); (repeat' apply And.intro); (try any_goals (first | (refine hK _ _ ?_; clear hK' hQ hK Q' Kn) | (intro q; refine ⟨q, ?_⟩; simp only [redB] at q; omega) | (intro q; refine ⟨q, fun p => ?_⟩; rw [q, p]; rfl) | (simp; done) | omega | (simp only [redL, intsE_length, wdsE_length]; omega) | (simp; omega) | (intros; (repeat' apply And.intro) <;> (first | assumption | omega | (simp; done))))))
    (repeat' (first | refine AW.seq ?_ | refine AW.scope ?_ | refine AW.label ?_ | refine AW.block ?_ | refine AW.skip ?_ | refine AW.exit ?_ | refine AW.ret ?_))
    (refine ⟨_, _, rfl, by simp, ?_⟩; simp only [aTup, AA.get, List.getD_cons_zero, List.getD_cons_succ, true_and])
    rw [if_pos hb]
  (repeat' (first | refine AW.seq ?_ | refine AW.scope ?_ | refine AW.label ?_ | refine AW.block ?_ | refine AW.skip ?_ | refine AW.exit ?_ | refine AW.ret ?_))
  (refine AW.regionC fun Q' Kn hQ hK hK' => ?_; (repeat simp (maxSteps := 4000000) (disch := omega) only [go_sem, redN, Nat.reduceAdd, Int.reduceToNat, Int.reducePow]); (repeat' apply And.intro); (try any_goals (first | (refine hK _ _ ?_; clear hK' hQ hK Q' Kn) | (intro q; refine ⟨q, ?_⟩; simp only [redB] at q; omega) | (intro q; refine ⟨q, fun p => ?_⟩; rw [q, p]; rfl) | (simp; done) | omega | (simp only [redL, intsE_length, wdsE_length]; omega) | (simp; omega) | (intros; (repeat' apply And.intro) <;> (first | assumption | omega | (simp; done))))))
  (repeat' (first | refine AW.seq ?_ | refine AW.scope ?_ | refine AW.label ?_ | refine AW.block ?_ | refine AW.skip ?_ | refine AW.exit ?_ | refine AW.ret ?_))
  (refine ⟨_, _, rfl, by simp, ?_⟩; simp only [aTup, AA.get, List.getD_cons_zero, List.getD_cons_succ, true_and])
  rw [if_neg (by rw [hb]; decide), show ((la.length : Int) - 1).toNat = la.length - 1 by omega]
theorem t_Last (G : Nat → AV) (R : RuleD) (start : Int) (h0 : -9223372036854775808 ≤ start) (h1 : start ≤ 9223372036854775807) (hs0 : -9223372036854775808 ≤ R.secs) (hs1 : R.secs ≤ 9223372036854775807)
    (hlm : R.byMonth.length ≤ 9223372036854775807) (hld : R.byMonthDay.length ≤ 9223372036854775807) (hlw : R.byDay.length ≤ 9223372036854775807) (hls : R.bySetPos.length ≤ 9223372036854775807) (st : St) :
    ACalls (Ev G) 7 [.int .i64 start, .agg (encR R)] st (fun e st' => st' = st ∧ e = .ret (.tup [.int .i64 (lastF R start).1, .bool (lastF R start).2])) := by
  refine t_LastW G R start (start / 86400) (start % 86400) (civ (start / 86400)).1 (civ (start / 86400)).2.1 (civ (start / 86400)).2.2.1 _ _ (fitR R) (fun σ => t_Fit G R hs0 hs1 hlm hld hlw hls σ) (fun _ _ σ => t_begin G R start h0 h1 σ) (fun hin hfit σ => ?_) st
  obtain ⟨f1, f2, f3, f4, f5, f6, f7, f8, f9, _⟩ := fit_all hfit
  have hi2 : -62135596800 ≤ start ∧ start ≤ 253402300799 := by simpa [inT] using hin
  obtain ⟨_, _, c1, c2, c3, c4, _⟩ := civ_in (civ_allJ (start / 86400)) (civ_inTJ hin)
  exact t_allL G R start _ _ _ _ _ _ (by omega) (by omega) c1 c2 c3 c4 f1 f2 (by omega) (by omega) f3 f4 f5.1 f5.2 (by omega) (by omega) (by omega) (by omega) _ _ rfl σ
end Go.Almanac

/- Recurrence: what a plain daily rule tells, and what the last occurrence is. -/
namespace Go.Almanac
open Go.RowKit Go.Proofs Go.Abs
def dailyR : RuleD := ⟨1, 1, 0, false, 0, false, false, [], [], [], [], 0⟩
theorem daily_period (f y m k : Int) : periodF dailyR f y m k = (f + k, 1, inY (f + k)) := by
  unfold periodF
  rw [if_pos (show dailyR.freq = 1 from rfl), show k * dailyR.interval = k from Int.mul_one k]
theorem daily_pick (f m0 d0 d : Int) (h0 : -719162 ≤ d) (h1 : d ≤ 2932896) : pickF dailyR (poolF dailyR f m0 d0 d 1) = [d] := by
  have hg : goodF dailyR f m0 d0 d = true := by
    have hc : (civ d).2.2.2 = true := civ_true (civ_allJ d) h0 h1
    unfold goodF
    dsimp only
    rw [if_neg (by rw [hc]; decide), if_neg (fun h => h.1 rfl), if_neg (fun h => h.1 rfl), if_neg (fun h => h rfl), if_neg (by decide), if_pos (.inl rfl)]
  have hp : poolF dailyR f m0 d0 d 1 = [d] := by
    unfold poolF
    simp [List.range_succ, hg]
  rw [hp]
  rfl
theorem daily_late (t : Int) : lateF dailyR t = false := rfl
theorem go_daily (start f secs y m d0 : Int) (n : Nat) (hs : start = f * 86400 + secs) (hs0 : 0 ≤ secs) (hs1 : secs < 86400) (hf0 : -719162 ≤ f) (hf1 : f + 400 ≤ 2932896) (hn : n < 400) :
    ∀ (q k : Nat), 1 ≤ k → k ≤ n + 1 → n + 2 ≤ q + k → ∃ K, n ≤ K ∧ k ≤ K ∧ goF dailyR start (start + n * 86400) f secs y m d0 q k ((List.range k).map fun i : Nat => start + i * 86400) = ((List.range K).map fun i : Nat => start + i * 86400, true)
  | 0, k, _, h2, h3 => by omega
  | q + 1, k, h1, h2, h3 => by
    have hok : inY (f + (k : Int)) = true := by unfold inY; simp; omega
    by_cases hst : start + n * 86400 ≤ (f + (k : Int)) * 86400
    · refine ⟨k, by omega, Nat.le_refl _, ?_⟩
      exact goF_stop dailyR start _ f secs y m d0 (.inr (by unfold stopF; rw [daily_period]; simp; exact .inl (.inr hst))) _
    · have hns : ¬ (fullF dailyR ((List.range k).map fun i : Nat => start + i * 86400) = true ∨ stopF dailyR f y m (start + n * 86400) k = true) := by
        rintro (h | h)
        · cases h
        · unfold stopF at h
          rw [daily_period] at h
          simp only [Bool.or_eq_true, Bool.and_eq_true, decide_eq_true_eq, Bool.not_eq_true', daily_late] at h
          rcases h with (h | h) | h
          · rw [hok] at h; cases h
          · exact hst h
          · cases h.2
      rw [goF_next dailyR start _ f secs y m d0 hns, daily_period]
      dsimp only
      rw [show (1 : Int).toNat = 1 from rfl, daily_pick _ _ _ _ (by omega) (by omega)]
      have hr : roundF dailyR start secs [f + (k : Int)] ((List.range k).map fun i : Nat => start + i * 86400) = ((List.range (k + 1)).map fun i : Nat => start + i * 86400, false) := by
        rw [roundF, if_neg (by
          rintro (h | h)
          · omega
          · cases h), if_neg (by rw [daily_late]; decide), roundF]
        rw [List.range_succ, List.map_append]
        refine congrArg (fun x => (x, false)) (congrArg _ ?_)
        simp
        omega
      rw [hr, if_neg (fun h => by cases h)]
      obtain ⟨K, g1, g2, g3⟩ := go_daily start f secs y m d0 n hs hs0 hs1 hf0 hf1 hn q (k + 1) (by omega) (by omega) (by omega)
      exact ⟨K, g1, by omega, by simpa using g3⟩
theorem all_daily (start : Int) (n : Nat) (h0 : -62135596800 ≤ start) (h1 : start ≤ 253367740799) (hn : n < 400) : ∃ K, n ≤ K ∧ 1 ≤ K ∧ allF dailyR start (start + n * 86400) = ((List.range K).map fun i : Nat => start + i * 86400, true) := by
  unfold allF
  have hl : [start] = (List.range 1).map fun i : Nat => start + i * 86400 := by simp
  generalize (civ (start / 86400)).1 = y
  generalize (civ (start / 86400)).2.1 = m
  generalize (civ (start / 86400)).2.2.1 = d0
  by_cases hst : start + n * 86400 ≤ start / 86400 * 86400
  · refine ⟨1, by omega, Nat.le_refl _, ?_⟩
    rw [goF_stop dailyR start _ _ _ y m d0 (.inr (by unfold stopF; rw [daily_period]; simp; exact .inr hst)) _, hl]
  · have hns : ¬ (fullF dailyR [start] = true ∨ stopF dailyR (start / 86400) y m (start + n * 86400) 0 = true) := by
      rintro (h | h)
      · cases h
      · unfold stopF at h
        rw [daily_period] at h
        simp only [Bool.or_eq_true, Bool.and_eq_true, decide_eq_true_eq, Bool.not_eq_true', daily_late] at h
        rcases h with (h | h) | h
        · unfold inY at h; simp at h; omega
        · rw [Int.add_zero] at h; exact hst h
        · cases h.2
    rw [show (4000 : Nat) = 3999 + 1 from rfl, goF_next dailyR start _ _ _ y m d0 hns, daily_period]
    dsimp only
    have hr : roundF dailyR start (start % 86400) [start / 86400 + 0] [start] = ([start], false) := by
      rw [roundF, if_pos (.inl (by omega)), roundF]
    rw [show (1 : Int).toNat = 1 from rfl, daily_pick _ _ _ _ (by omega) (by omega), hr, if_neg (fun h => by cases h)]
    obtain ⟨K, g1, g2, g3⟩ := go_daily start (start / 86400) (start % 86400) y m d0 n (by omega) (by omega) (by omega) (by omega) (by omega) hn 3999 1 (Nat.le_refl _) (by omega) (by omega)
    exact ⟨K, g1, g2, by rw [hl]; simpa using g3⟩
theorem daily_fit : fitR dailyR = true := by decide +kernel
theorem times_daily (start : Int) (n : Nat) (h0 : -62135596800 ≤ start) (h1 : start ≤ 253367740799) (hn : n < 400) : timesF dailyR start start (start + n * 86400) 400 = ((List.range n).map fun i : Nat => start + i * 86400, 0) := by
  obtain ⟨K, g1, g2, g3⟩ := all_daily start n h0 h1 hn
  have hc : cutF start (start + n * 86400) ((List.range K).map fun i : Nat => start + i * 86400) = (List.range n).map fun i : Nat => start + i * 86400 := by
    obtain ⟨r, rfl⟩ : ∃ r, K = n + r := ⟨K - n, by omega⟩
    rw [List.range_add, List.map_append]
    unfold cutF
    rw [List.filter_append, List.filter_eq_self.2, List.filter_eq_nil_iff.2, List.append_nil]
    · intro x hx
      simp only [List.mem_map, List.mem_range] at hx
      obtain ⟨_, ⟨i, hi, rfl⟩, rfl⟩ := hx
      unfold outF; simp; omega
    · intro x hx
      simp only [List.mem_map, List.mem_range] at hx
      obtain ⟨i, hi, rfl⟩ := hx
      unfold outF; simp; omega
  unfold timesF
  rw [g3, if_neg (by unfold inT; simp; omega), if_neg (by rw [daily_fit]; decide)]
  dsimp only
  rw [hc, if_neg]
  rintro (h | h)
  · cases h
  · rw [List.length_map, List.length_range] at h
    rw [if_neg (by decide)] at h
    omega
end Go.Almanac

/- Recurrence: what the last occurrence is. -/
namespace Go.Almanac
open Go.RowKit Go.Proofs Go.Abs
theorem round_mem (R : RuleD) (start secs : Int) : ∀ (ds l : List Int), ∀ x ∈ (roundF R start secs ds l).1, x ∈ l ∨ lateF R x = false ∧ ∃ d ∈ ds, x = d * 86400 + secs
  | [], l, x, hx => .inl hx
  | d :: ds, l, x, hx => by
    rw [roundF] at hx
    split at hx
    · rcases round_mem R start secs ds l x hx with h | ⟨h1, d', h2, h3⟩
      · exact .inl h
      · exact .inr ⟨h1, d', by simp [h2], h3⟩
    · split at hx
      · exact .inl hx
      · rename_i hl
        rcases round_mem R start secs ds _ x hx with h | ⟨h1, d', h2, h3⟩
        · rcases List.mem_append.1 h with h | h
          · exact .inl h
          · have : x = d * 86400 + secs := by simpa using h
            subst this
            exact .inr ⟨by simpa using hl, d, by simp, rfl⟩
        · exact .inr ⟨h1, d', by simp [h2], h3⟩
theorem round_count {R : RuleD} (hc : 0 < R.count) (start secs : Int) : ∀ (ds l : List Int), (l.length : Int) ≤ R.count → ((roundF R start secs ds l).1.length : Int) ≤ R.count
  | [], l, h => h
  | d :: ds, l, h => by
    rw [roundF]
    split
    · exact round_count hc start secs ds l h
    · rename_i hf
      split
      · exact h
      · refine round_count hc start secs ds _ ?_
        have : ¬ fullF R l = true := fun e => hf (.inr e)
        unfold fullF at this
        simp only [Bool.and_eq_true, decide_eq_true_eq] at this
        simp only [List.length_append, List.length_cons, List.length_nil]
        omega
theorem pick_good {R : RuleD} {f m0 d0 s : Int} {n : Nat} {x : Int} (h : x ∈ pickF R (poolF R f m0 d0 s n)) : x ≤ 2932896 := by
  unfold pickF at h
  obtain ⟨i, hi, rfl⟩ := List.mem_map.1 h
  have hi2 := List.mem_range.1 (List.mem_filter.1 hi).1
  have hm := getD_memJ (d := (0 : Int)) hi2
  generalize (poolF R f m0 d0 s n).getD i 0 = d at hm ⊢
  unfold poolF at hm
  have hg := (List.mem_filter.1 hm).2
  have hc : (civ d).2.2.2 = true := by
    cases hx : (civ d).2.2.2 with
    | true => rfl
    | false =>
      unfold goodF at hg
      dsimp only at hg
      rw [if_pos (by rw [hx]; decide)] at hg
      cases hg
  exact (civ_in (civ_allJ d) hc).2.1
section
variable (R : RuleD) (start f secs y m d0 : Int)
theorem go_mem (hs : secs < 86400) (upto : Int) : ∀ (n : Nat) (k : Int) (l : List Int), ∀ x ∈ (goF R start upto f secs y m d0 n k l).1, x ∈ l ∨ lateF R x = false ∧ x ≤ 253402300799
  | n, k, l, x, hx => by
    by_cases h : fullF R l = true ∨ stopF R f y m upto k = true
    · rw [goF_stop R start upto f secs y m d0 h] at hx; exact .inl hx
    · cases n with
      | zero => rw [goF_end R start upto f secs y m d0 h] at hx; exact .inl hx
      | succ n =>
        rw [goF_next R start upto f secs y m d0 h] at hx
        have hr : ∀ z ∈ (roundF R start secs (pickF R (poolF R f m d0 (periodF R f y m k).1 (periodF R f y m k).2.1.toNat)) l).1, z ∈ l ∨ lateF R z = false ∧ z ≤ 253402300799 := fun z hz => by
          rcases round_mem R start secs _ _ z hz with h | ⟨h1, d, h2, h3⟩
          · exact .inl h
          · have := pick_good h2
            exact .inr ⟨h1, by omega⟩
        split at hx
        · exact hr x hx
        · rcases go_mem hs upto n _ _ x hx with h | h
          · exact hr x h
          · exact .inr h
theorem go_count (hc : 0 < R.count) (upto : Int) : ∀ (n : Nat) (k : Int) (l : List Int), (l.length : Int) ≤ R.count → ((goF R start upto f secs y m d0 n k l).1.length : Int) ≤ R.count
  | n, k, l, hl => by
    by_cases h : fullF R l = true ∨ stopF R f y m upto k = true
    · rw [goF_stop R start upto f secs y m d0 h]; exact hl
    · cases n with
      | zero => rw [goF_end R start upto f secs y m d0 h]; exact hl
      | succ n =>
        rw [goF_next R start upto f secs y m d0 h]
        have hr := round_count hc start secs (pickF R (poolF R f m d0 (periodF R f y m k).1 (periodF R f y m k).2.1.toNat)) l hl
        split
        · exact hr
        · exact go_count hc upto n _ _ hr
theorem period_top {R : RuleD} {f y m k : Int} (hf : f ≤ 2932896) (hw : 0 ≤ R.wkst) (hok : (periodF R f y m k).2.2 = true) : (periodF R f y m k).1 ≤ 2933000 := by
  unfold periodF at hok ⊢
  split at hok
  · rename_i h; rw [if_pos h]; dsimp only at hok ⊢
    unfold inY at hok; simp at hok; omega
  · rename_i h; rw [if_neg h]
    split at hok
    · rename_i h2; rw [if_pos h2]; dsimp only at hok ⊢
      by_cases hk : k = 0
      · subst hk
        rw [Int.zero_mul]
        omega
      · unfold inY at hok; simp [hk] at hok; omega
    · rename_i h2; rw [if_neg h2]
      split at hok
      · rename_i h3; rw [if_pos h3]; dsimp only
        have := days_bounds ((y * 12 + m - 1 + k * R.interval) / 12) ((y * 12 + m - 1 + k * R.interval) % 12 + 1) 1
        omega
      · rename_i h3; rw [if_neg h3]; dsimp only
        have := days_bounds (y + k * R.interval) 1 1
        omega
theorem stop_far {u1 u2 : Int} (h1 : 1000000000000 ≤ u1) (h2 : 1000000000000 ≤ u2) (hf : f ≤ 2932896) (hw : 0 ≤ R.wkst) (k : Int) : stopF R f y m u1 k = stopF R f y m u2 k := by
  unfold stopF
  cases hok : (periodF R f y m k).2.2 with
  | false => rfl
  | true =>
    have := period_top hf hw hok
    rw [show decide (u1 ≤ (periodF R f y m k).1 * 86400) = false from decide_eq_false (by omega), show decide (u2 ≤ (periodF R f y m k).1 * 86400) = false from decide_eq_false (by omega)]
theorem go_far {u1 u2 : Int} (h1 : 1000000000000 ≤ u1) (h2 : 1000000000000 ≤ u2) (hf : f ≤ 2932896) (hw : 0 ≤ R.wkst) : ∀ (n : Nat) (k : Int) (l : List Int), goF R start u1 f secs y m d0 n k l = goF R start u2 f secs y m d0 n k l
  | n, k, l => by
    have hst := stop_far R f y m h1 h2 hf hw k
    by_cases h : fullF R l = true ∨ stopF R f y m u1 k = true
    · rw [goF_stop R start u1 f secs y m d0 h, goF_stop R start u2 f secs y m d0 (by rw [← hst]; exact h)]
    · have h' : ¬ (fullF R l = true ∨ stopF R f y m u2 k = true) := by rw [← hst]; exact h
      cases n with
      | zero => rw [goF_end R start u1 f secs y m d0 h, goF_end R start u2 f secs y m d0 h']
      | succ n =>
        rw [goF_next R start u1 f secs y m d0 h, goF_next R start u2 f secs y m d0 h']
        split
        · rfl
        · exact go_far h1 h2 hf hw n _ _
end
theorem last_memK {l : List Int} (h : l ≠ []) : l.getD (l.length - 1) 0 ∈ l := getD_memJ (by have := List.length_pos_iff.2 h; omega)
theorem far_law {R : RuleD} {start : Int} (hin : inT start = true) (hfit : fitR R = true) :
    allF R start 4611686018427387904 = allF R start 1152921504606846976 ∧
    timesF R start start 1152921504606846976 1099511627776 = (if (allF R start 1152921504606846976).2 = false then ([], 27) else ((allF R start 1152921504606846976).1, 0)) ∧
    (allF R start 1152921504606846976).1 ≠ [] ∧ (allF R start 1152921504606846976).1.length ≤ 1600001 ∧ (0 < R.count → ((allF R start 1152921504606846976).1.length : Int) ≤ R.count) ∧
    (R.has = true → ∀ x ∈ (allF R start 1152921504606846976).1, x = start ∨ x < R.secs + 86400) := by
  have hi2 : -62135596800 ≤ start ∧ start ≤ 253402300799 := by simpa [inT] using hin
  obtain ⟨f1, f2, hi, _⟩ := fit_all hfit
  have e1 : allF R start 4611686018427387904 = allF R start 1152921504606846976 := go_far R start _ _ _ _ _ (by decide) (by decide) (by omega) f1 _ _ _
  obtain ⟨more, e2, e3, _⟩ := all_app R start 1152921504606846976 hi
  have hlen := allF_len R start 1152921504606846976
  have hmem : ∀ x ∈ (allF R start 1152921504606846976).1, x ∈ [start] ∨ lateF R x = false ∧ x ≤ 253402300799 := go_mem R start (start / 86400) (start % 86400) _ _ _ (by omega) _ _ _ _
  have hcut : cutF start 1152921504606846976 (allF R start 1152921504606846976).1 = (allF R start 1152921504606846976).1 := by
    unfold cutF
    rw [List.filter_eq_self]
    intro x hx
    have h1 : start ≤ x := by
      rw [e2] at hx
      rcases List.mem_cons.1 hx with rfl | h
      · exact Int.le_refl _
      · exact Int.le_of_lt ((List.pairwise_cons.1 e3).1 x h)
    have h2 : x ≤ 253402300799 := by
      rcases hmem x hx with h | h
      · have : x = start := by simpa using h
        omega
      · exact h.2
    unfold outF; simp; omega
  refine ⟨e1, ?_, by rw [e2]; simp, hlen, fun hc => ?_, fun hh x hx => ?_⟩
  · unfold timesF
    rw [if_neg (by rw [hin]; decide), if_neg (by rw [hfit]; decide), hcut, if_neg (show ¬ (1099511627776 : Int) < 0 by decide)]
    by_cases h : (allF R start 1152921504606846976).2 = false
    · rw [if_pos h, if_pos (.inl h)]
    · rw [if_neg h, if_neg (by rintro (h2 | h2); exact h h2; omega)]
  · exact go_count R start _ _ _ _ _ hc _ _ _ _ (by simp; omega)
  · rcases hmem x hx with h | ⟨h, _⟩
    · exact .inl (by simpa using h)
    · refine .inr ?_
      unfold lateF at h
      rw [hh, Bool.true_and, decide_eq_false_iff_not] at h
      split at h <;> omega
end Go.Almanac

/- Recurrence: the law of RecurSimple, walked through. -/
/-STEPS-/
namespace Go.Almanac
open Go.RowKit Go.Proofs Go.Abs
theorem simple_law {R : RuleD} {start : Int} (hin : inT start = true) {m : List Int} {e z1 : Int} {z2 : Bool} (hT : timesF R start start 1152921504606846976 1099511627776 = (m, e)) (hz : lastF R start = (z1, z2)) :
    m.length ≤ 1600001 ∧ (fitR R = false ∨ R.count = 0 ∧ R.has = false → z2 = false) ∧ (¬ (fitR R = false ∨ R.count = 0 ∧ R.has = false) → ¬ e = 0 → e = 27 ∧ z2 = false) ∧
    (¬ (fitR R = false ∨ R.count = 0 ∧ R.has = false) → e = 0 → z2 = true ∧ m ≠ [] ∧ m.getD (m.length - 1) 0 = z1 ∧ (0 < R.count → (m.length : Int) ≤ R.count) ∧ (R.has = true → z1 = start ∨ z1 < R.secs + 86400)) := by
  unfold lastF endF at hz
  rw [hin] at hz
  by_cases hA : fitR R = false ∨ R.count = 0 ∧ R.has = false
  · rw [if_pos (by
      rcases hA with h | h
      · exact .inl (.inr h)
      · exact .inr h)] at hz
    cases hz
    refine ⟨?_, fun _ => rfl, fun h => absurd hA h, fun h => absurd hA h⟩
    by_cases hf : fitR R = false
    · unfold timesF at hT
      rw [if_neg (by rw [hin]; decide), if_pos hf] at hT
      cases hT; simp
    · obtain ⟨_, h2, _, h4, _⟩ := far_law hin (by simpa using hf)
      rw [h2] at hT
      split at hT
      · cases hT; simp
      · cases hT; exact h4
  · have hf : fitR R = true := by
      cases hx : fitR R with
      | true => rfl
      | false => exact absurd (.inl hx) hA
    obtain ⟨h1, h2, h3, h4, h5, h6⟩ := far_law hin hf
    rw [if_neg (by
      rintro ((h | h) | h)
      · cases h
      · exact hA (.inl h)
      · exact hA (.inr h)), h1] at hz
    rw [h2] at hT
    generalize allF R start 1152921504606846976 = P at *
    obtain ⟨l, ok⟩ := P
    dsimp only at *
    cases ok with
    | false =>
      rw [if_pos rfl] at hT hz
      cases hT; cases hz
      exact ⟨by simp, fun _ => rfl, fun _ _ => ⟨rfl, rfl⟩, fun _ h => by cases h⟩
    | true =>
      rw [if_neg (fun h => by cases h)] at hT hz
      cases hT; cases hz
      exact ⟨h4, fun h => absurd h hA, fun _ h => absurd rfl h, fun _ _ => ⟨rfl, h3, rfl, h5, fun hh => h6 hh _ (last_memK h3)⟩⟩
set_option maxHeartbeats 8000000 in
theorem l_RecurSimple (G : Nat → AV) (R : RuleD) (start n : Int) (h0 : -9223372036854775808 ≤ start) (h1 : start ≤ 9223372036854775807) (hn0 : -9223372036854775808 ≤ n) (hn1 : n ≤ 9223372036854775807) (hs0 : -9223372036854775808 ≤ R.secs) (hs1 : R.secs ≤ 9223372036854775807)
    (hlm : R.byMonth.length ≤ 9223372036854775807) (hld : R.byMonthDay.length ≤ 9223372036854775807) (hlw : R.byDay.length ≤ 9223372036854775807) (hls : R.bySetPos.length ≤ 9223372036854775807) (st : St) :
    ACalls (Ev G) 4 [.int .i64 start, .int .i64 n, .agg (encR R)] st (fun e st' => e = .ret (.bool true)) := by
  refine ACalls.of_body Tryz.func4 rfl ?_
  rw [Tryz.ntmps4]
  simp only [List.length_cons, List.length_nil, Nat.reduceAdd, Nat.reduceSub, List.replicate_succ, List.replicate_zero, List.cons_append, List.nil_append]
  (repeat' (first | refine AW.seq ?_ | refine AW.scope ?_ | refine AW.label ?_ | refine AW.block ?_ | refine AW.skip ?_ | refine AW.exit ?_ | refine AW.ret ?_))
  (refine AW.regionC fun Q' Kn hQ hK hK' => ?_; (repeat simp (maxSteps := 4000000) (disch := omega) only [go_sem, redN, Nat.reduceAdd, Int.reduceToNat, Int.reducePow]); (repeat' apply And.intro); (try any_goals (first | (refine hK _ _ ?_; clear hK' hQ hK Q' Kn) | (intro q; refine ⟨q, ?_⟩; simp only [redB] at q; omega) | (intro q; refine ⟨q, fun p => ?_⟩; rw [q, p]; rfl) | (simp; done) | omega | (simp only [redL, intsE_length, wdsE_length]; omega) | (simp; omega) | (intros; (repeat' apply And.intro) <;> (first | assumption | omega | (simp; done))))))
  refine AOp.box rfl (by simp [go_sem]) (by simp only [go_sem]; rfl) fun b5 hb5 => ?_
  (refine AOpsC_ok hK' _ _ _ ?_; (repeat simp (maxSteps := 4000000) (disch := omega) only [go_sem, redN, Nat.reduceAdd, Int.reduceToNat, Int.reducePow]); (repeat' apply And.intro); (try any_goals (first | (refine hK _ _ ?_; clear hK' hQ hK Q' Kn) | (intro q; refine ⟨q, ?_⟩; simp only [redB] at q; omega) | (intro q; refine ⟨q, fun p => ?_⟩; rw [q, p]; rfl) | (simp; done) | omega | (simp only [redL, intsE_length, wdsE_length]; omega) | (simp; omega) | (intros; (repeat' apply And.intro) <;> (first | assumption | omega | (simp; done))))))
  refine AW.freeze 5 rfl (St.set_same _ _ _) ?_
  rw [St.del_set _ _ hb5]
  (repeat' (first | refine AW.seq ?_ | refine AW.scope ?_ | refine AW.label ?_ | refine AW.block ?_ | refine AW.skip ?_ | refine AW.exit ?_ | refine AW.ret ?_))
  (refine AW.regionC fun Q' Kn hQ hK hK' => ?_; (repeat simp (maxSteps := 4000000) (disch := omega) only [go_sem, redN, Nat.reduceAdd, Int.reduceToNat, Int.reducePow]); (repeat' apply And.intro); (try any_goals (first | (refine hK _ _ ?_; clear hK' hQ hK Q' Kn) | (intro q; refine ⟨q, ?_⟩; simp only [redB] at q; omega) | (intro q; refine ⟨q, fun p => ?_⟩; rw [q, p]; rfl) | (simp; done) | omega | (simp only [redL, intsE_length, wdsE_length]; omega) | (simp; omega) | (intros; (repeat' apply And.intro) <;> (first | assumption | omega | (simp; done))))))
  obtain ⟨k, hk, hk4⟩ : ∃ k : Nat, IntKind.i64.wrap ((IntKind.u64.wrap n).tmod 400) = k ∧ k < 400 := by
    have hu : 0 ≤ IntKind.u64.wrap n := by simp [IntKind.wrap, IntKind.bits, IntKind.signed]; omega
    have ht := Int.tmod_eq_emod_of_nonneg (b := 400) hu
    rw [ht, w_i64 (by omega) (by omega)]
    exact ⟨(IntKind.u64.wrap n % 400).toNat, by omega, by omega⟩
  rw [hk]
  (repeat' (first | refine AW.seq ?_ | refine AW.scope ?_ | refine AW.label ?_ | refine AW.block ?_ | refine AW.skip ?_ | refine AW.exit ?_ | refine AW.ret ?_))
  (refine AW.regionC fun Q' Kn hQ hK hK' => ?_; (repeat simp (maxSteps := 4000000) (disch := omega) only [go_sem, redN, Nat.reduceAdd, Int.reduceToNat, Int.reducePow]); (repeat' apply And.intro); (try any_goals (first | (refine hK _ _ ?_; clear hK' hQ hK Q' Kn) | (intro q; refine ⟨q, ?_⟩; simp only [redB] at q; omega) | (intro q; refine ⟨q, fun p => ?_⟩; rw [q, p]; rfl) | (simp; done) | omega | (simp only [redL, intsE_length, wdsE_length]; omega) | (simp; omega) | (intros; (repeat' apply And.intro) <;> (first | assumption | omega | (simp; done))))))
  refine AOp.call rfl (by simp only [go_sem]; rfl) (by simp [go_sem]) rfl (ACalls.mono (by simp only [go_sem]; exact r_In G start _) ?_)
  rintro e σ7 ⟨h7, rfl⟩; subst σ7
  (refine AOpsC_ok hK' _ _ _ ?_; (repeat simp (maxSteps := 4000000) (disch := omega) only [go_sem, redN, Nat.reduceAdd, Int.reduceToNat, Int.reducePow]); (repeat' apply And.intro); (try any_goals (first | (refine hK _ _ ?_; clear hK' hQ hK Q' Kn) | (intro q; refine ⟨q, ?_⟩; simp only [redB] at q; omega) | (intro q; refine ⟨q, fun p => ?_⟩; rw [q, p]; rfl) | (simp; done) | omega | (simp only [redL, intsE_length, wdsE_length]; omega) | (simp; omega) | (intros; (repeat' apply And.intro) <;> (first | assumption | omega | (simp; done))))))
  rw [show (decide (-62135596800 ≤ start) && decide (start ≤ 253402300799)) = inT start from rfl]
  (repeat' (first | refine AW.seq ?_ | refine AW.scope ?_ | refine AW.label ?_ | refine AW.block ?_ | refine AW.skip ?_ | refine AW.exit ?_ | refine AW.ret ?_))
  (refine AW.cond (by simp (maxSteps := 4000000) (disch := omega) only [go_sem, redN, Nat.reduceAdd, Int.reduceToNat, Int.reducePow]; rfl) (fun hb => ?_) (fun hb => ?_) <;> (try simp only [redB] at hb))
  · (repeat' (first | refine AW.seq ?_ | refine AW.scope ?_ | refine AW.label ?_ | refine AW.block ?_ | refine AW.skip ?_ | refine AW.exit ?_ | refine AW.ret ?_))
    (refine AW.regionC fun Q' Kn hQ hK hK' => ?_; (repeat simp (maxSteps := 4000000) (disch := omega) only [go_sem, redN, Nat.reduceAdd, Int.reduceToNat, Int.reducePow]); (repeat' apply And.intro); (try any_goals (first | (refine hK _ _ ?_; clear hK' hQ hK Q' Kn) | (intro q; refine ⟨q, ?_⟩; simp only [redB] at q; omega) | (intro q; refine ⟨q, fun p => ?_⟩; rw [q, p]; rfl) | (simp; done) | omega | (simp only [redL, intsE_length, wdsE_length]; omega) | (simp; omega) | (intros; (repeat' apply And.intro) <;> (first | assumption | omega | (simp; done))))))
    refine AOp.call rfl (by simp only [go_sem]; rfl) (by simp [go_sem]) rfl (ACalls.mono (by simp only [go_sem]; exact l_awake G _) ?_)
    rintro e σ7 ⟨h7, rfl⟩; subst σ7
    (refine AOpsC_ok hK' _ _ _ ?_; (repeat simp (maxSteps := 4000000) (disch := omega) only [go_sem, redN, Nat.reduceAdd, Int.reduceToNat, Int.reducePow]); (repeat' apply And.intro); (try any_goals (first | (refine hK _ _ ?_; clear hK' hQ hK Q' Kn) | (intro q; refine ⟨q, ?_⟩; simp only [redB] at q; omega) | (intro q; refine ⟨q, fun p => ?_⟩; rw [q, p]; rfl) | (simp; done) | omega | (simp only [redL, intsE_length, wdsE_length]; omega) | (simp; omega) | (intros; (repeat' apply And.intro) <;> (first | assumption | omega | (simp; done))))))
    (repeat' (first | refine AW.seq ?_ | refine AW.scope ?_ | refine AW.label ?_ | refine AW.block ?_ | refine AW.skip ?_ | refine AW.exit ?_ | refine AW.ret ?_))
    (refine ⟨_, _, rfl, by simp, ?_⟩; simp only [aTup, AA.get, List.getD_cons_zero, List.getD_cons_succ, true_and])
  obtain ⟨hin, hst⟩ := hb
  have hi2 : -62135596800 ≤ start ∧ start ≤ 253402300799 := by simpa [inT] using hin
  obtain ⟨l, hl, hlen, hget⟩ : ∃ l : List Int, timesF dailyR start start (start + k * 86400) 400 = (l, 0) ∧ l.length = k ∧ ∀ i, i < k → l.getD i 0 = start + i * 86400 :=
    ⟨_, times_daily start k hi2.1 (by omega) hk4, by simp, fun i hi => by simp [List.getD, hi]⟩
  (repeat' (first | refine AW.seq ?_ | refine AW.scope ?_ | refine AW.label ?_ | refine AW.block ?_ | refine AW.skip ?_ | refine AW.exit ?_ | refine AW.ret ?_))
  (refine AW.regionC fun Q' Kn hQ hK hK' => ?_; (repeat simp (maxSteps := 4000000) (disch := omega) only [go_sem, redN, Nat.reduceAdd, Int.reduceToNat, Int.reducePow]); (repeat' apply And.intro); (try any_goals (first | (refine hK _ _ ?_; clear hK' hQ hK Q' Kn) | (intro q; refine ⟨q, ?_⟩; simp only [redB] at q; omega) | (intro q; refine ⟨q, fun p => ?_⟩; rw [q, p]; rfl) | (simp; done) | omega | (simp only [redL, intsE_length, wdsE_length]; omega) | (simp; omega) | (intros; (repeat' apply And.intro) <;> (first | assumption | omega | (simp; done))))))
  refine AOp.call rfl (by simp only [go_sem]; rfl) (by simp [go_sem]) rfl (ACalls.mono (by simp only [go_sem]; exact t_TimesN G 1 0 start start (start + k * 86400) 400 h0 h1 l 0 hl _) ?_)
  rintro e σ7 ⟨h7, rfl⟩; subst σ7
  (refine AOpsC_ok hK' _ _ _ ?_; (repeat simp (maxSteps := 4000000) (disch := omega) only [go_sem, redN, Nat.reduceAdd, Int.reduceToNat, Int.reducePow]); (repeat' apply And.intro); (try any_goals (first | (refine hK _ _ ?_; clear hK' hQ hK Q' Kn) | (intro q; refine ⟨q, ?_⟩; simp only [redB] at q; omega) | (intro q; refine ⟨q, fun p => ?_⟩; rw [q, p]; rfl) | (simp; done) | omega | (simp only [redL, intsE_length, wdsE_length]; omega) | (simp; omega) | (intros; (repeat' apply And.intro) <;> (first | assumption | omega | (simp; done))))))
  (repeat' (first | refine AW.seq ?_ | refine AW.scope ?_ | refine AW.label ?_ | refine AW.block ?_ | refine AW.skip ?_ | refine AW.exit ?_ | refine AW.ret ?_))
  (refine AW.regionC fun Q' Kn hQ hK hK' => ?_; (repeat simp (maxSteps := 4000000) (disch := omega) only [go_sem, redN, Nat.reduceAdd, Int.reduceToNat, Int.reducePow]); (repeat' apply And.intro); (try any_goals (first | (refine hK _ _ ?_; clear hK' hQ hK Q' Kn) | (intro q; refine ⟨q, ?_⟩; simp only [redB] at q; omega) | (intro q; refine ⟨q, fun p => ?_⟩; rw [q, p]; rfl) | (simp; done) | omega | (simp only [redL, intsE_length, wdsE_length]; omega) | (simp; omega) | (intros; (repeat' apply And.intro) <;> (first | assumption | omega | (simp; done))))))
  (repeat' (first | refine AW.seq ?_ | refine AW.scope ?_ | refine AW.label ?_ | refine AW.block ?_ | refine AW.skip ?_ | refine AW.exit ?_ | refine AW.ret ?_))
  (refine AW.cond (by simp (maxSteps := 4000000) (disch := omega) only [go_sem, redN, Nat.reduceAdd, Int.reduceToNat, Int.reducePow]; rfl) (fun hb => ?_) (fun hb => ?_) <;> (try simp only [redB] at hb))
  · exfalso
    simp [hlen] at hb
  clear hb
  (repeat' (first | refine AW.seq ?_ | refine AW.scope ?_ | refine AW.label ?_ | refine AW.block ?_ | refine AW.skip ?_ | refine AW.exit ?_ | refine AW.ret ?_))
  (refine AW.regionC fun Q' Kn hQ hK hK' => ?_; (repeat simp (maxSteps := 4000000) (disch := omega) only [go_sem, redN, Nat.reduceAdd, Int.reduceToNat, Int.reducePow]); (repeat' apply And.intro); (try any_goals (first | (refine hK _ _ ?_; clear hK' hQ hK Q' Kn) | (intro q; refine ⟨q, ?_⟩; simp only [redB] at q; omega) | (intro q; refine ⟨q, fun p => ?_⟩; rw [q, p]; rfl) | (simp; done) | omega | (simp only [redL, intsE_length, wdsE_length]; omega) | (simp; omega) | (intros; (repeat' apply And.intro) <;> (first | assumption | omega | (simp; done))))))
  (repeat' (first | refine AW.seq ?_ | refine AW.scope ?_ | refine AW.label ?_ | refine AW.block ?_ | refine AW.skip ?_ | refine AW.exit ?_ | refine AW.ret ?_))
  refine AW.loopF (fun i : Nat => [.int .i64 start, .junk, .junk, .junk, .junk, .fptr (encR R), .bool false, .junk, .junk, .junk, .junk, .junk, .junk, .junk, .junk, .junk, .junk, .junk, .junk, .junk, .junk, .junk, .junk, .junk, .junk, .junk, .junk, .junk, .junk, .junk, .junk, .junk, .junk, .junk, .junk, .junk, .junk, .junk, .junk, .junk, .junk, .junk, .junk, .junk, .junk, .tree 1 (intsE l), .int .i64 l.length, .int .i64 i, .junk, .junk, .junk, .junk, .junk, .junk, .junk, .junk, .junk, .junk, .junk, .junk, .junk, .junk, .junk, .junk, .junk, .junk, .junk, .junk, .junk, .junk, .junk, .junk, .junk, .junk, .junk, .junk, .junk, .junk, .junk, .junk, .junk, .junk, .junk, .junk, .junk, .junk, .junk, .junk, .junk, .junk, .junk, .junk, .junk, .junk, .junk, .junk, .junk, .junk, .junk, .junk, .junk, .junk, .junk, .junk, .junk, .junk, .junk, .junk, .junk, .junk, .junk, .junk, .junk, .junk, .junk, .junk, .junk, .junk, .junk, .junk, .junk, .junk, .junk, .junk, .junk, .junk, .junk, .junk, .junk, .junk, .junk, .junk, .junk, .junk, .junk, .junk, .junk, .junk, .junk, .junk, .junk, .junk, .junk, .junk, .junk, .junk, .junk, .junk, .junk]) (fun _ => st) (fun i => i ≤ l.length) (fun i => l.length - i) 0 ?_ rfl ?_ ?_
  · (repeat (first | exact Weak.nil | refine Weak.junk _ ?_ | refine Weak.same _ ?_ | refine Weak.eqv (by (congr 1; first | omega | (simp; done) | exact w_i64 (by omega) (by omega))) ?_))
  · simp
  intro i hi0
  (repeat' (first | refine AW.seq ?_ | refine AW.scope ?_ | refine AW.label ?_ | refine AW.block ?_ | refine AW.skip ?_ | refine AW.exit ?_ | refine AW.ret ?_))
  (refine AW.regionC fun Q' Kn hQ hK hK' => ?_; (repeat simp (maxSteps := 4000000) (disch := omega) only [go_sem, redN, Nat.reduceAdd, Int.reduceToNat, Int.reducePow]); (repeat' apply And.intro); (try any_goals (first | (refine hK _ _ ?_; clear hK' hQ hK Q' Kn) | (intro q; refine ⟨q, ?_⟩; simp only [redB] at q; omega) | (intro q; refine ⟨q, fun p => ?_⟩; rw [q, p]; rfl) | (simp; done) | omega | (simp only [redL, intsE_length, wdsE_length]; omega) | (simp; omega) | (intros; (repeat' apply And.intro) <;> (first | assumption | omega | (simp; done))))))
  (repeat' (first | refine AW.seq ?_ | refine AW.scope ?_ | refine AW.label ?_ | refine AW.block ?_ | refine AW.skip ?_ | refine AW.exit ?_ | refine AW.ret ?_))
  (refine AW.cond (by simp (maxSteps := 4000000) (disch := omega) only [go_sem, redN, Nat.reduceAdd, Int.reduceToNat, Int.reducePow]; rfl) (fun hb => ?_) (fun hb => ?_) <;> (try simp only [redB] at hb))
  · have hi : i < l.length := by omega
    have hg := hget i (by omega)
    (repeat' (first | refine AW.seq ?_ | refine AW.scope ?_ | refine AW.label ?_ | refine AW.block ?_ | refine AW.skip ?_ | refine AW.exit ?_ | refine AW.ret ?_))
    (refine AW.regionC fun Q' Kn hQ hK hK' => ?_; (repeat simp (maxSteps := 4000000) (disch := omega) only [go_sem, redN, Nat.reduceAdd, Int.reduceToNat, Int.reducePow]); (repeat' apply And.intro); (try any_goals (first | (refine hK _ _ ?_; clear hK' hQ hK Q' Kn) | (intro q; refine ⟨q, ?_⟩; simp only [redB] at q; omega) | (intro q; refine ⟨q, fun p => ?_⟩; rw [q, p]; rfl) | (simp; done) | omega | (simp only [redL, intsE_length, wdsE_length]; omega) | (simp; omega) | (intros; (repeat' apply And.intro) <;> (first | assumption | omega | (simp; done))))))
    (try simp only [Int.toNat_natCast, hg])
    (repeat' (first | refine AW.seq ?_ | refine AW.scope ?_ | refine AW.label ?_ | refine AW.block ?_ | refine AW.skip ?_ | refine AW.exit ?_ | refine AW.ret ?_))
    (refine AW.regionC fun Q' Kn hQ hK hK' => ?_; (repeat simp (maxSteps := 4000000) (disch := omega) only [go_sem, redN, Nat.reduceAdd, Int.reduceToNat, Int.reducePow]); (repeat' apply And.intro); (try any_goals (first | (refine hK _ _ ?_; clear hK' hQ hK Q' Kn) | (intro q; refine ⟨q, ?_⟩; simp only [redB] at q; omega) | (intro q; refine ⟨q, fun p => ?_⟩; rw [q, p]; rfl) | (simp; done) | omega | (simp only [redL, intsE_length, wdsE_length]; omega) | (simp; omega) | (intros; (repeat' apply And.intro) <;> (first | assumption | omega | (simp; done))))))
    (repeat' (first | refine AW.seq ?_ | refine AW.scope ?_ | refine AW.label ?_ | refine AW.block ?_ | refine AW.skip ?_ | refine AW.exit ?_ | refine AW.ret ?_))
    (refine AW.cond (by simp (maxSteps := 4000000) (disch := omega) only [go_sem, redN, Nat.reduceAdd, Int.reduceToNat, Int.reducePow]; rfl) (fun hb => ?_) (fun hb => ?_) <;> (try simp only [redB] at hb))
    · exact absurd trivial hb
    (repeat' (first | refine AW.seq ?_ | refine AW.scope ?_ | refine AW.label ?_ | refine AW.block ?_ | refine AW.skip ?_ | refine AW.exit ?_ | refine AW.ret ?_))
    (refine AW.regionC fun Q' Kn hQ hK hK' => ?_; (repeat simp (maxSteps := 4000000) (disch := omega) only [go_sem, redN, Nat.reduceAdd, Int.reduceToNat, Int.reducePow]); (repeat' apply And.intro); (try any_goals (first | (refine hK _ _ ?_; clear hK' hQ hK Q' Kn) | (intro q; refine ⟨q, ?_⟩; simp only [redB] at q; omega) | (intro q; refine ⟨q, fun p => ?_⟩; rw [q, p]; rfl) | (simp; done) | omega | (simp only [redL, intsE_length, wdsE_length]; omega) | (simp; omega) | (intros; (repeat' apply And.intro) <;> (first | assumption | omega | (simp; done))))))
    refine ⟨i + 1, by omega, by omega, ?_, rfl, rfl⟩
    (repeat (first | exact Weak.nil | refine Weak.junk _ ?_ | refine Weak.same _ ?_ | refine Weak.eqv (by (congr 1; first | omega | (simp; done) | exact w_i64 (by omega) (by omega))) ?_))
  clear hb hi0 hget hlen hl
  obtain ⟨⟨m, e⟩, hT⟩ : ∃ p, timesF R start start 1152921504606846976 1099511627776 = p := ⟨_, rfl⟩
  obtain ⟨⟨z1, z2⟩, hz⟩ : ∃ p, lastF R start = p := ⟨_, rfl⟩
  obtain ⟨hml, hA, hB, hC⟩ := simple_law hin hT hz
  have hL := fun σ => t_Last G R start h0 h1 hs0 hs1 hlm hld hlw hls σ
  rw [hz] at hL
  dsimp only at hL
  (repeat' (first | refine AW.seq ?_ | refine AW.scope ?_ | refine AW.label ?_ | refine AW.block ?_ | refine AW.skip ?_ | refine AW.exit ?_ | refine AW.ret ?_))
  (refine AW.regionC fun Q' Kn hQ hK hK' => ?_; (repeat simp (maxSteps := 4000000) (disch := omega) only [go_sem, redN, Nat.reduceAdd, Int.reduceToNat, Int.reducePow]); (repeat' apply And.intro); (try any_goals (first | (refine hK _ _ ?_; clear hK' hQ hK Q' Kn) | (intro q; refine ⟨q, ?_⟩; simp only [redB] at q; omega) | (intro q; refine ⟨q, fun p => ?_⟩; rw [q, p]; rfl) | (simp; done) | omega | (simp only [redL, intsE_length, wdsE_length]; omega) | (simp; omega) | (intros; (repeat' apply And.intro) <;> (first | assumption | omega | (simp; done))))))
  refine AOp.call rfl (by simp only [go_sem]; rfl) (by simp [go_sem]) rfl (ACalls.mono (by simp only [go_sem]; exact hL _) ?_)
  rintro e σ7 ⟨h7, rfl⟩; subst σ7
  (refine AOpsC_ok hK' _ _ _ ?_; (repeat simp (maxSteps := 4000000) (disch := omega) only [go_sem, redN, Nat.reduceAdd, Int.reduceToNat, Int.reducePow]); (repeat' apply And.intro); (try any_goals (first | (refine hK _ _ ?_; clear hK' hQ hK Q' Kn) | (intro q; refine ⟨q, ?_⟩; simp only [redB] at q; omega) | (intro q; refine ⟨q, fun p => ?_⟩; rw [q, p]; rfl) | (simp; done) | omega | (simp only [redL, intsE_length, wdsE_length]; omega) | (simp; omega) | (intros; (repeat' apply And.intro) <;> (first | assumption | omega | (simp; done))))))
  (repeat' (first | refine AW.seq ?_ | refine AW.scope ?_ | refine AW.label ?_ | refine AW.block ?_ | refine AW.skip ?_ | refine AW.exit ?_ | refine AW.ret ?_))
  (refine AW.regionC fun Q' Kn hQ hK hK' => ?_; (repeat simp (maxSteps := 4000000) (disch := omega) only [go_sem, redN, Nat.reduceAdd, Int.reduceToNat, Int.reducePow]); (repeat' apply And.intro); (try any_goals (first | (refine hK _ _ ?_; clear hK' hQ hK Q' Kn) | (intro q; refine ⟨q, ?_⟩; simp only [redB] at q; omega) | (intro q; refine ⟨q, fun p => ?_⟩; rw [q, p]; rfl) | (simp; done) | omega | (simp only [redL, intsE_length, wdsE_length]; omega) | (simp; omega) | (intros; (repeat' apply And.intro) <;> (first | assumption | omega | (simp; done))))))
  refine AOp.call rfl (by simp only [go_sem]; rfl) (by simp [go_sem]) rfl (ACalls.mono (by simp only [go_sem]; exact t_TimesL G R start start 1152921504606846976 1099511627776 h0 h1 hs0 hs1 hlm hld hlw hls m e hT _) ?_)
  rintro e σ7 ⟨h7, rfl⟩; subst σ7
  (refine AOpsC_ok hK' _ _ _ ?_; (repeat simp (maxSteps := 4000000) (disch := omega) only [go_sem, redN, Nat.reduceAdd, Int.reduceToNat, Int.reducePow]); (repeat' apply And.intro); (try any_goals (first | (refine hK _ _ ?_; clear hK' hQ hK Q' Kn) | (intro q; refine ⟨q, ?_⟩; simp only [redB] at q; omega) | (intro q; refine ⟨q, fun p => ?_⟩; rw [q, p]; rfl) | (simp; done) | omega | (simp only [redL, intsE_length, wdsE_length]; omega) | (simp; omega) | (intros; (repeat' apply And.intro) <;> (first | assumption | omega | (simp; done))))))
  (repeat' (first | refine AW.seq ?_ | refine AW.scope ?_ | refine AW.label ?_ | refine AW.block ?_ | refine AW.skip ?_ | refine AW.exit ?_ | refine AW.ret ?_))
  (refine AW.regionC fun Q' Kn hQ hK hK' => ?_; (repeat simp (maxSteps := 4000000) (disch := omega) only [go_sem, redN, Nat.reduceAdd, Int.reduceToNat, Int.reducePow]); (repeat' apply And.intro); (try any_goals (first | (refine hK _ _ ?_; clear hK' hQ hK Q' Kn) | (intro q; refine ⟨q, ?_⟩; simp only [redB] at q; omega) | (intro q; refine ⟨q, fun p => ?_⟩; rw [q, p]; rfl) | (simp; done) | omega | (simp only [redL, intsE_length, wdsE_length]; omega) | (simp; omega) | (intros; (repeat' apply And.intro) <;> (first | assumption | omega | (simp; done))))))
  refine AOp.call rfl (by simp only [go_sem]; rfl) (by simp [go_sem]) rfl (ACalls.mono (by simp only [go_sem]; exact r_Fit G R hs0 hs1 hlm hld hlw hls _) ?_)
  rintro e σ7 ⟨h7, rfl⟩; subst σ7
  (refine AOpsC_ok hK' _ _ _ ?_; (repeat simp (maxSteps := 4000000) (disch := omega) only [go_sem, redN, Nat.reduceAdd, Int.reduceToNat, Int.reducePow]); (repeat' apply And.intro); (try any_goals (first | (refine hK _ _ ?_; clear hK' hQ hK Q' Kn) | (intro q; refine ⟨q, ?_⟩; simp only [redB] at q; omega) | (intro q; refine ⟨q, fun p => ?_⟩; rw [q, p]; rfl) | (simp; done) | omega | (simp only [redL, intsE_length, wdsE_length]; omega) | (simp; omega) | (intros; (repeat' apply And.intro) <;> (first | assumption | omega | (simp; done))))))
  generalize hb2 : fitR R = b2 at hA hB hC
  (repeat' (first | refine AW.seq ?_ | refine AW.scope ?_ | refine AW.label ?_ | refine AW.block ?_ | refine AW.skip ?_ | refine AW.exit ?_ | refine AW.ret ?_))
  (refine AW.cond (by simp (maxSteps := 4000000) (disch := omega) only [go_sem, redN, Nat.reduceAdd, Int.reduceToNat, Int.reducePow]; rfl) (fun hb => ?_) (fun hb => ?_) <;> (try simp only [redB] at hb))
  · obtain rfl := hA hb
    (repeat' (first | refine AW.seq ?_ | refine AW.scope ?_ | refine AW.label ?_ | refine AW.block ?_ | refine AW.skip ?_ | refine AW.exit ?_ | refine AW.ret ?_))
    (refine AW.regionC fun Q' Kn hQ hK hK' => ?_; (repeat simp (maxSteps := 4000000) (disch := omega) only [go_sem, redN, Nat.reduceAdd, Int.reduceToNat, Int.reducePow]); (repeat' apply And.intro); (try any_goals (first | (refine hK _ _ ?_; clear hK' hQ hK Q' Kn) | (intro q; refine ⟨q, ?_⟩; simp only [redB] at q; omega) | (intro q; refine ⟨q, fun p => ?_⟩; rw [q, p]; rfl) | (simp; done) | omega | (simp only [redL, intsE_length, wdsE_length]; omega) | (simp; omega) | (intros; (repeat' apply And.intro) <;> (first | assumption | omega | (simp; done))))))
    refine AOps.guard_call (f := 10) (v := .bool true) rfl rfl rfl rfl rfl (fun _ => (by simp only [go_sem] <;> rfl)) (fun h => by first | (simp [go_sem]; done) | simpa [go_sem] using h) rfl (fun hg => by simp only [go_sem]; exact l_awake G _) ?_
    (refine AOpsC_ok hK' _ _ _ ?_; (repeat simp (maxSteps := 4000000) (disch := omega) only [go_sem, redN, Nat.reduceAdd, Int.reduceToNat, Int.reducePow]); (repeat' apply And.intro); (try any_goals (first | (refine hK _ _ ?_; clear hK' hQ hK Q' Kn) | (intro q; refine ⟨q, ?_⟩; simp only [redB] at q; omega) | (intro q; refine ⟨q, fun p => ?_⟩; rw [q, p]; rfl) | (simp; done) | omega | (simp only [redL, intsE_length, wdsE_length]; omega) | (simp; omega) | (intros; (repeat' apply And.intro) <;> (first | assumption | omega | (simp; done))))))
    (repeat' (first | refine AW.seq ?_ | refine AW.scope ?_ | refine AW.label ?_ | refine AW.block ?_ | refine AW.skip ?_ | refine AW.exit ?_ | refine AW.ret ?_))
    (refine ⟨_, _, rfl, by simp, ?_⟩; simp only [aTup, AA.get, List.getD_cons_zero, List.getD_cons_succ, true_and])
  have hnA : ¬ (b2 = false ∨ R.count = 0 ∧ R.has = false) := by
    rintro (h | ⟨h1, h2⟩)
    · rw [hb.1] at h; cases h
    · rcases hb.2 with h | h
      · exact h h1
      · rw [h2] at h; cases h
  have hf : fitR R = true := by rw [hb2]; exact hb.1
  obtain ⟨_, _, _, _, f5, _, _, _, _, _, _, f12, _⟩ := fit_all hf
  clear hb
  (repeat' (first | refine AW.seq ?_ | refine AW.scope ?_ | refine AW.label ?_ | refine AW.block ?_ | refine AW.skip ?_ | refine AW.exit ?_ | refine AW.ret ?_))
  (refine AW.regionC fun Q' Kn hQ hK hK' => ?_; (repeat simp (maxSteps := 4000000) (disch := omega) only [go_sem, redN, Nat.reduceAdd, Int.reduceToNat, Int.reducePow]); (repeat' apply And.intro); (try any_goals (first | (refine hK _ _ ?_; clear hK' hQ hK Q' Kn) | (intro q; refine ⟨q, ?_⟩; simp only [redB] at q; omega) | (intro q; refine ⟨q, fun p => ?_⟩; rw [q, p]; rfl) | (simp; done) | omega | (simp only [redL, intsE_length, wdsE_length]; omega) | (simp; omega) | (intros; (repeat' apply And.intro) <;> (first | assumption | omega | (simp; done))))))
  (repeat' (first | refine AW.seq ?_ | refine AW.scope ?_ | refine AW.label ?_ | refine AW.block ?_ | refine AW.skip ?_ | refine AW.exit ?_ | refine AW.ret ?_))
  (refine AW.cond (by simp (maxSteps := 4000000) (disch := omega) only [go_sem, redN, Nat.reduceAdd, Int.reduceToNat, Int.reducePow]; rfl) (fun hb => ?_) (fun hb => ?_) <;> (try simp only [redB] at hb))
  · obtain ⟨rfl, rfl⟩ := hB hnA hb
    (repeat' (first | refine AW.seq ?_ | refine AW.scope ?_ | refine AW.label ?_ | refine AW.block ?_ | refine AW.skip ?_ | refine AW.exit ?_ | refine AW.ret ?_))
    (refine AW.regionC fun Q' Kn hQ hK hK' => ?_; (repeat simp (maxSteps := 4000000) (disch := omega) only [go_sem, redN, Nat.reduceAdd, Int.reduceToNat, Int.reducePow]); (repeat' apply And.intro); (try any_goals (first | (refine hK _ _ ?_; clear hK' hQ hK Q' Kn) | (intro q; refine ⟨q, ?_⟩; simp only [redB] at q; omega) | (intro q; refine ⟨q, fun p => ?_⟩; rw [q, p]; rfl) | (simp; done) | omega | (simp only [redL, intsE_length, wdsE_length]; omega) | (simp; omega) | (intros; (repeat' apply And.intro) <;> (first | assumption | omega | (simp; done))))))
    refine AOps.guard_call (f := 10) (v := .bool true) rfl rfl rfl rfl rfl (fun _ => (by simp only [go_sem] <;> rfl)) (fun h => by first | (simp [go_sem]; done) | simpa [go_sem] using h) rfl (fun hg => by simp only [go_sem]; exact l_awake G _) ?_
    (refine AOpsC_ok hK' _ _ _ ?_; (repeat simp (maxSteps := 4000000) (disch := omega) only [go_sem, redN, Nat.reduceAdd, Int.reduceToNat, Int.reducePow]); (repeat' apply And.intro); (try any_goals (first | (refine hK _ _ ?_; clear hK' hQ hK Q' Kn) | (intro q; refine ⟨q, ?_⟩; simp only [redB] at q; omega) | (intro q; refine ⟨q, fun p => ?_⟩; rw [q, p]; rfl) | (simp; done) | omega | (simp only [redL, intsE_length, wdsE_length]; omega) | (simp; omega) | (intros; (repeat' apply And.intro) <;> (first | assumption | omega | (simp; done))))))
    (repeat' (first | refine AW.seq ?_ | refine AW.scope ?_ | refine AW.label ?_ | refine AW.block ?_ | refine AW.skip ?_ | refine AW.exit ?_ | refine AW.ret ?_))
    (refine ⟨_, _, rfl, by simp, ?_⟩; simp only [aTup, AA.get, List.getD_cons_zero, List.getD_cons_succ, true_and])
    rfl
  obtain ⟨rfl, c1, c2, c3, c4⟩ := hC hnA hb
  have hmp : 0 < m.length := List.length_pos_iff.2 c1
  clear hb
  (repeat' (first | refine AW.seq ?_ | refine AW.scope ?_ | refine AW.label ?_ | refine AW.block ?_ | refine AW.skip ?_ | refine AW.exit ?_ | refine AW.ret ?_))
  (refine AW.regionC fun Q' Kn hQ hK hK' => ?_; (repeat simp (maxSteps := 4000000) (disch := omega) only [go_sem, redN, Nat.reduceAdd, Int.reduceToNat, Int.reducePow]); (repeat' apply And.intro); (try any_goals (first | (refine hK _ _ ?_; clear hK' hQ hK Q' Kn) | (intro q; refine ⟨q, ?_⟩; simp only [redB] at q; omega) | (intro q; refine ⟨q, fun p => ?_⟩; rw [q, p]; rfl) | (simp; done) | omega | (simp only [redL, intsE_length, wdsE_length]; omega) | (simp; omega) | (intros; (repeat' apply And.intro) <;> (first | assumption | omega | (simp; done))))))
  (try rw [show ((m.length : Int) - 1).toNat = m.length - 1 by omega, c2])
  (repeat' (first | refine AW.seq ?_ | refine AW.scope ?_ | refine AW.label ?_ | refine AW.block ?_ | refine AW.skip ?_ | refine AW.exit ?_ | refine AW.ret ?_))
  (refine AW.cond (by simp (maxSteps := 4000000) (disch := omega) only [go_sem, redN, Nat.reduceAdd, Int.reduceToNat, Int.reducePow]; rfl) (fun hb => ?_) (fun hb => ?_) <;> (try simp only [redB] at hb))
  · exfalso
    rcases hb with (h | h) | ⟨h, h'⟩
    · omega
    · exact h trivial
    · have := c3 h
      omega
  clear hb
  (repeat' (first | refine AW.seq ?_ | refine AW.scope ?_ | refine AW.label ?_ | refine AW.block ?_ | refine AW.skip ?_ | refine AW.exit ?_ | refine AW.ret ?_))
  (refine AW.regionC fun Q' Kn hQ hK hK' => ?_; (repeat simp (maxSteps := 4000000) (disch := omega) only [go_sem, redN, Nat.reduceAdd, Int.reduceToNat, Int.reducePow]); (repeat' apply And.intro); (try any_goals (first | (refine hK _ _ ?_; clear hK' hQ hK Q' Kn) | (intro q; refine ⟨q, ?_⟩; simp only [redB] at q; omega) | (intro q; refine ⟨q, fun p => ?_⟩; rw [q, p]; rfl) | (simp; done) | omega | (simp only [redL, intsE_length, wdsE_length]; omega) | (simp; omega) | (intros; (repeat' apply And.intro) <;> (first | assumption | omega | (simp; done))))))
  refine AOps.guard_call (f := 10) (v := .bool true) rfl rfl rfl rfl rfl (fun _ => (by simp only [go_sem] <;> rfl)) (fun h => by first | (simp [go_sem]; done) | simpa [go_sem] using h) rfl (fun hg => by simp only [go_sem]; exact l_awake G _) ?_
  (refine AOpsC_ok hK' _ _ _ ?_; (repeat simp (maxSteps := 4000000) (disch := omega) only [go_sem, redN, Nat.reduceAdd, Int.reduceToNat, Int.reducePow]); (repeat' apply And.intro); (try any_goals (first | (refine hK _ _ ?_; clear hK' hQ hK Q' Kn) | (intro q; refine ⟨q, ?_⟩; simp only [redB] at q; omega) | (intro q; refine ⟨q, fun p => ?_⟩; rw [q, p]; rfl) | (simp; done) | omega | (simp only [redL, intsE_length, wdsE_length]; omega) | (simp; omega) | (intros; (repeat' apply And.intro) <;> (first | assumption | omega | (simp; done))))))
  (repeat' (first | refine AW.seq ?_ | refine AW.scope ?_ | refine AW.label ?_ | refine AW.block ?_ | refine AW.skip ?_ | refine AW.exit ?_ | refine AW.ret ?_))
  (refine ⟨_, _, rfl, by simp, ?_⟩; simp only [aTup, AA.get, List.getD_cons_zero, List.getD_cons_succ, true_and])
  refine congrArg AEnd.ret (congrArg AV.bool ?_)
  cases hh : R.has with
  | false => rfl
  | true =>
    rcases c4 hh with h | h
    · subst h; simp
    · rw [show decide (z1 < R.secs + 86400) = true from decide_eq_true h]; simp
end Go.Almanac
