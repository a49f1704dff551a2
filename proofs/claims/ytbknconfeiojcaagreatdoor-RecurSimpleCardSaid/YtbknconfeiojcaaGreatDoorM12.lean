/- Recurrence: the chapter's examples, walked through. -/
import Derived.Test.YtbknconfeiojcaaGreatDoorM9
import Derived.Test.YtbknconfeiojcaaGreatDoorM4
import Derived.Test.YtbknconfeiojcaaGreatDoorM11
set_option linter.unusedSimpArgs false
set_option linter.unusedVariables false
set_option linter.unusedSectionVars false
set_option maxRecDepth 10000
set_option maxHeartbeats 1000000
/- Recurrence: the N-th weekday of a month. -/
/-STEPS-/
namespace Go.Almanac
open Go.RowKit Go.Proofs Go.Abs
def wdN (y m w : Int) : Nat := ((mlen y m - (w - wday (days y m 1).1 + 7) % 7 + 6) / 7).toNat
def wdA (y m w : Int) : Int := (days y m 1).1 + (w - wday (days y m 1).1 + 7) % 7
def wdL (y m w : Int) (k : Nat) : List Int := (List.range k).map fun i : Nat => wdA y m w + 7 * (i : Int)
theorem wdN_le (y m w : Int) : wdN y m w ≤ 5 := by
  have := mlen_le y m
  simp only [wdN]; omega
theorem days_ok1 (y m : Int) : (days y m 1).2 = decide (1 ≤ mlen y m) := by
  unfold days
  split
  · rename_i h; exact (decide_eq_false (by omega)).symm
  · rename_i h; exact (decide_eq_true (by omega)).symm
theorem t_weekdays (G : Nat → AV) (y m w : Int) (st : St) : ACalls (Ev G) 44 [.int .i64 y, .int .i64 m, .int .i64 w] st
    (fun e st' => st' = st ∧ e = .ret (.clo (.func 70) [] [.fptr [.int .i64 y], .fptr [.int .i64 m], .fptr [.int .i64 w]])) := by
  refine ACalls.thaw (R' := fun e st' => st.sub st' ∧ e = .ret (.clo (.func 70) [] [.fptr [.int .i64 y], .fptr [.int .i64 m], .fptr [.int .i64 w]])) ?_ (fun x st1 h => ⟨2, st, h.1, rfl, by rw [h.2]; rfl⟩)
  refine ACalls.of_body Tryz.func44 rfl ?_
  rw [Tryz.ntmps44]
  simp only [List.length_cons, List.length_nil, Nat.reduceAdd, Nat.reduceSub, List.replicate_succ, List.replicate_zero, List.cons_append, List.nil_append]
  (repeat' (first | refine AW.seq ?_ | refine AW.scope ?_ | refine AW.label ?_ | refine AW.block ?_ | refine AW.skip ?_ | refine AW.exit ?_ | refine AW.ret ?_))
  refine AW.regionC fun Q' Kn hQ hK hK' => ?_
  simp (maxSteps := 4000000) (disch := omega) only [go_sem, redN, Nat.reduceAdd, Int.reduceToNat, Int.reducePow]
  refine AOp.box rfl (by simp [go_sem]) (by simp only [go_sem]; rfl) fun b3 hb3 => ?_
  (refine AOpsC_ok hK' _ _ _ ?_; (repeat simp (maxSteps := 4000000) (disch := omega) only [go_sem, redN, Nat.reduceAdd, Int.reduceToNat, Int.reducePow]); (repeat' apply And.intro); (try any_goals (first | (refine hK _ _ ?_; clear hK' hQ hK Q' Kn) | (intro q; refine ⟨q, ?_⟩; simp only [redB] at q; omega) | (intro q; refine ⟨q, fun p => ?_⟩; rw [q, p]; rfl) | (simp; done) | omega | (simp only [redL, intsE_length, wdsE_length]; omega) | (simp; omega) | (intros; (repeat' apply And.intro) <;> (first | assumption | omega | (simp; done))))))
  refine AOp.box rfl (by simp [go_sem]) (by simp only [go_sem]; rfl) fun b4 hb4 => ?_
  (refine AOpsC_ok hK' _ _ _ ?_; (repeat simp (maxSteps := 4000000) (disch := omega) only [go_sem, redN, Nat.reduceAdd, Int.reduceToNat, Int.reducePow]); (repeat' apply And.intro); (try any_goals (first | (refine hK _ _ ?_; clear hK' hQ hK Q' Kn) | (intro q; refine ⟨q, ?_⟩; simp only [redB] at q; omega) | (intro q; refine ⟨q, fun p => ?_⟩; rw [q, p]; rfl) | (simp; done) | omega | (simp only [redL, intsE_length, wdsE_length]; omega) | (simp; omega) | (intros; (repeat' apply And.intro) <;> (first | assumption | omega | (simp; done))))))
  refine AOp.box rfl (by simp [go_sem]) (by simp only [go_sem]; rfl) fun b5 hb5 => ?_
  (refine AOpsC_ok hK' _ _ _ ?_; (repeat simp (maxSteps := 4000000) (disch := omega) only [go_sem, redN, Nat.reduceAdd, Int.reduceToNat, Int.reducePow]); (repeat' apply And.intro); (try any_goals (first | (refine hK _ _ ?_; clear hK' hQ hK Q' Kn) | (intro q; refine ⟨q, ?_⟩; simp only [redB] at q; omega) | (intro q; refine ⟨q, fun p => ?_⟩; rw [q, p]; rfl) | (simp; done) | omega | (simp only [redL, intsE_length, wdsE_length]; omega) | (simp; omega) | (intros; (repeat' apply And.intro) <;> (first | assumption | omega | (simp; done))))))
  have m1 := (((MM.nil st).new hb3 (.cells 3 0 1 [[.int .i64 y]])).new hb4 (.cells 3 0 1 [[.int .i64 m]])).new hb5 (.cells 3 0 1 [[.int .i64 w]])
  generalize St.set (St.set (St.set st b3 _) b4 _) b5 _ = σ at m1 ⊢
  refine AW.freeze 3 rfl (m1.get 2 rfl) ?_
  have m2 := m1.del 2 rfl
  generalize σ.del b3 = σ2 at m2 ⊢
  refine AW.freeze 4 rfl (m2.get 1 rfl) ?_
  have m3 := m2.del 1 rfl
  generalize σ2.del b4 = σ3 at m3 ⊢
  refine AW.freeze 5 rfl (m3.get 0 rfl) ?_
  have m4 := m3.del 0 rfl
  (repeat' (first | refine AW.seq ?_ | refine AW.scope ?_ | refine AW.label ?_ | refine AW.block ?_ | refine AW.skip ?_ | refine AW.exit ?_ | refine AW.ret ?_))
  (refine AW.regionC fun Q' Kn hQ hK hK' => ?_; (repeat simp (maxSteps := 4000000) (disch := omega) only [go_sem, redN, Nat.reduceAdd, Int.reduceToNat, Int.reducePow]); (repeat' apply And.intro); (try any_goals (first | (refine hK _ _ ?_; clear hK' hQ hK Q' Kn) | (intro q; refine ⟨q, ?_⟩; simp only [redB] at q; omega) | (intro q; refine ⟨q, fun p => ?_⟩; rw [q, p]; rfl) | (simp; done) | omega | (simp only [redL, intsE_length, wdsE_length]; omega) | (simp; omega) | (intros; (repeat' apply And.intro) <;> (first | assumption | omega | (simp; done))))))
  (repeat' (first | refine AW.seq ?_ | refine AW.scope ?_ | refine AW.label ?_ | refine AW.block ?_ | refine AW.skip ?_ | refine AW.exit ?_ | refine AW.ret ?_))
  (refine ⟨_, _, rfl, by simp, ?_⟩; simp only [aTup, AA.get, List.getD_cons_zero, List.getD_cons_succ, true_and])
  exact ⟨m4.sub, trivial⟩
set_option maxHeartbeats 8000000 in
theorem t_weekdaysW (G : Nat → AV) (y m w first n : Int) (ok : Bool) (l0 : Nat) (hd : ∀ σ, ACalls (Ev G) 66 [.int .i64 y, .int .i64 m, .int .i64 1] σ (fun e st' => st' = σ ∧ e = .ret (.tup [.int .i64 first, .bool ok])))
    (hl : ∀ σ, ACalls (Ev G) 72 [.int .i64 y, .int .i64 m] σ (fun e st' => st' = σ ∧ e = .ret (.int .i64 n))) (hok : ok = decide (1 ≤ n)) (hf0 : -100000000 ≤ first) (hf1 : first ≤ 100000000) (hn0 : 0 ≤ n) (hn1 : n ≤ 31) (hw0 : 0 ≤ w) (hw1 : w ≤ 6)
    (J : Nat → St → Prop) (σ0 : St) (hJ : J 0 σ0)
    (take : ∀ (k : Nat) σ, (k : Int) < (n - (w - wday first + 7) % 7 + 6) / 7 → J k σ → YieldsTo (Ev G) l0 [.int .i64 (first + (w - wday first + 7) % 7 + 7 * (k : Int))] σ fun v σ' => v = .bool true ∧ J (k + 1) σ') :
    ACalls (Ev G) 70 [.yld l0, .fptr [.int .i64 y], .fptr [.int .i64 m], .fptr [.int .i64 w]] σ0 (fun e st' => e = .ret (.tup []) ∧ J ((n - (w - wday first + 7) % 7 + 6) / 7).toNat st') := by
  obtain ⟨b, hb9⟩ : ∃ b, (w - wday first + 7) % 7 = b := ⟨_, rfl⟩
  have hb91 : 0 ≤ b ∧ b ≤ 6 := by omega
  have hb92 : (w - (first + 3) % 7 + 7) % 7 = b := hb9
  rw [hb9] at take ⊢
  refine ACalls.of_body Tryz.func70 rfl ?_
  rw [Tryz.ntmps70]
  simp only [List.length_cons, List.length_nil, Nat.reduceAdd, Nat.reduceSub, List.replicate_succ, List.replicate_zero, List.cons_append, List.nil_append]
  (repeat' (first | refine AW.seq ?_ | refine AW.scope ?_ | refine AW.label ?_ | refine AW.block ?_ | refine AW.skip ?_ | refine AW.exit ?_ | refine AW.ret ?_))
  (refine AW.regionC fun Q' Kn hQ hK hK' => ?_; (repeat simp (maxSteps := 4000000) (disch := omega) only [go_sem, redN, Nat.reduceAdd, Int.reduceToNat, Int.reducePow]); (repeat' apply And.intro); (try any_goals (first | (refine hK _ _ ?_; clear hK' hQ hK Q' Kn) | (intro q; refine ⟨q, ?_⟩; simp only [redB] at q; omega) | (intro q; refine ⟨q, fun p => ?_⟩; rw [q, p]; rfl) | (simp; done) | omega | (simp only [redL, intsE_length, wdsE_length]; omega) | (simp; omega) | (intros; (repeat' apply And.intro) <;> (first | assumption | omega | (simp; done))))))
  refine AOp.call rfl (by simp only [go_sem]; rfl) (by simp [go_sem]) rfl (ACalls.mono (by simp only [go_sem]; exact hd _) ?_)
  rintro e σ7 ⟨h7, rfl⟩; subst σ7
  (refine AOpsC_ok hK' _ _ _ ?_; (repeat simp (maxSteps := 4000000) (disch := omega) only [go_sem, redN, Nat.reduceAdd, Int.reduceToNat, Int.reducePow]); (repeat' apply And.intro); (try any_goals (first | (refine hK _ _ ?_; clear hK' hQ hK Q' Kn) | (intro q; refine ⟨q, ?_⟩; simp only [redB] at q; omega) | (intro q; refine ⟨q, fun p => ?_⟩; rw [q, p]; rfl) | (simp; done) | omega | (simp only [redL, intsE_length, wdsE_length]; omega) | (simp; omega) | (intros; (repeat' apply And.intro) <;> (first | assumption | omega | (simp; done))))))
  (repeat' (first | refine AW.seq ?_ | refine AW.scope ?_ | refine AW.label ?_ | refine AW.block ?_ | refine AW.skip ?_ | refine AW.exit ?_ | refine AW.ret ?_))
  (refine AW.regionC fun Q' Kn hQ hK hK' => ?_; (repeat simp (maxSteps := 4000000) (disch := omega) only [go_sem, redN, Nat.reduceAdd, Int.reduceToNat, Int.reducePow]); (repeat' apply And.intro); (try any_goals (first | (refine hK _ _ ?_; clear hK' hQ hK Q' Kn) | (intro q; refine ⟨q, ?_⟩; simp only [redB] at q; omega) | (intro q; refine ⟨q, fun p => ?_⟩; rw [q, p]; rfl) | (simp; done) | omega | (simp only [redL, intsE_length, wdsE_length]; omega) | (simp; omega) | (intros; (repeat' apply And.intro) <;> (first | assumption | omega | (simp; done))))))
  (repeat' (first | refine AW.seq ?_ | refine AW.scope ?_ | refine AW.label ?_ | refine AW.block ?_ | refine AW.skip ?_ | refine AW.exit ?_ | refine AW.ret ?_))
  (refine AW.cond (by simp (maxSteps := 4000000) (disch := omega) only [go_sem, redN, Nat.reduceAdd, Int.reduceToNat, Int.reducePow]; rfl) (fun hb => ?_) (fun hb => ?_) <;> (try simp only [redB] at hb))
  · have : n = 0 := by rw [hok] at hb; simp at hb; omega
    (repeat' (first | refine AW.seq ?_ | refine AW.scope ?_ | refine AW.label ?_ | refine AW.block ?_ | refine AW.skip ?_ | refine AW.exit ?_ | refine AW.ret ?_))
    (refine ⟨_, _, rfl, by simp, ?_⟩; simp only [aTup, AA.get, List.getD_cons_zero, List.getD_cons_succ, true_and])
    rw [show ((n - b + 6) / 7).toNat = 0 by omega]
    exact hJ
  (repeat' (first | refine AW.seq ?_ | refine AW.scope ?_ | refine AW.label ?_ | refine AW.block ?_ | refine AW.skip ?_ | refine AW.exit ?_ | refine AW.ret ?_))
  refine AW.drawn (List.range 9) (by decide +kernel) fun Q' Kn hQ hK hK' => ?_
  refine FxC_ok _ _ _ ?_; (repeat simp (maxSteps := 4000000) (disch := omega) only [go_sem, redN, Nat.reduceAdd, Int.reduceToNat, Int.reducePow]); (repeat' apply And.intro); (try any_goals (first | (refine hK _ _ ?_; clear hK' hQ hK Q' Kn) | (intro q; refine ⟨q, ?_⟩; simp only [redB] at q; omega) | (intro q; refine ⟨q, fun p => ?_⟩; rw [q, p]; rfl) | (simp; done) | omega | (simp only [redL, intsE_length, wdsE_length]; omega) | (simp; omega) | (intros; (repeat' apply And.intro) <;> (first | assumption | omega | (simp; done)))))
  refine ⟨_, Fixed.call (f := 71) (v := .int .i64 ((first + 3) % 7)) rfl rfl rfl (by simp only [go_sem] <;> rfl) (by simp [go_sem]) rfl (by simp only [go_sem]; exact t_Weekday G first (by omega) (by omega) _), ?_⟩
  refine FxC_ok _ _ _ ?_; (repeat simp (maxSteps := 4000000) (disch := omega) only [go_sem, redN, Nat.reduceAdd, Int.reduceToNat, Int.reducePow]); (repeat' apply And.intro); (try any_goals (first | (refine hK _ _ ?_; clear hK' hQ hK Q' Kn) | (intro q; refine ⟨q, ?_⟩; simp only [redB] at q; omega) | (intro q; refine ⟨q, fun p => ?_⟩; rw [q, p]; rfl) | (simp; done) | omega | (simp only [redL, intsE_length, wdsE_length]; omega) | (simp; omega) | (intros; (repeat' apply And.intro) <;> (first | assumption | omega | (simp; done)))))
  rw [hb92]
  have hn2 : 1 ≤ n := by rw [hok] at hb; simpa using hb
  (repeat' (first | refine AW.seq ?_ | refine AW.scope ?_ | refine AW.label ?_ | refine AW.block ?_ | refine AW.skip ?_ | refine AW.exit ?_ | refine AW.ret ?_))
  refine AW.loopF (fun x : Nat × St => [.yld l0, .fptr [.int .i64 y], .fptr [.int .i64 m], .junk, .junk, .int .i64 first, .junk, .int .i64 (first + b + 7 * (x.1 : Int)), .junk, .junk, .junk, .junk, .junk, .junk, .junk, .junk, .junk, .junk, .junk, .junk, .junk, .junk, .junk, .junk, .junk, .junk, .junk, .junk, .junk, .junk, .junk, .junk, .junk, .junk, .junk, .junk, .junk]) (fun x => x.2)
    (fun x => x.1 ≤ ((n - b + 6) / 7).toNat ∧ J x.1 x.2) (fun x => ((n - b + 6) / 7).toNat - x.1) (0, σ0) ?_ rfl ?_ ?_
  · (repeat (first | exact Weak.nil | refine Weak.junk _ ?_ | refine Weak.same _ ?_ | refine Weak.eqv (by (congr 1; first | omega | (simp; done) | exact w_i64 (by omega) (by omega))) ?_))
  · exact ⟨by simp, hJ⟩
  rintro ⟨k, σ⟩ ⟨k1, k2⟩
  dsimp only at k1 k2 ⊢
  (repeat' (first | refine AW.seq ?_ | refine AW.scope ?_ | refine AW.label ?_ | refine AW.block ?_ | refine AW.skip ?_ | refine AW.exit ?_ | refine AW.ret ?_))
  (refine AW.regionC fun Q' Kn hQ hK hK' => ?_; (repeat simp (maxSteps := 4000000) (disch := omega) only [go_sem, redN, Nat.reduceAdd, Int.reduceToNat, Int.reducePow]); (repeat' apply And.intro); (try any_goals (first | (refine hK _ _ ?_; clear hK' hQ hK Q' Kn) | (intro q; refine ⟨q, ?_⟩; simp only [redB] at q; omega) | (intro q; refine ⟨q, fun p => ?_⟩; rw [q, p]; rfl) | (simp; done) | omega | (simp only [redL, intsE_length, wdsE_length]; omega) | (simp; omega) | (intros; (repeat' apply And.intro) <;> (first | assumption | omega | (simp; done))))))
  refine AOp.call rfl (by simp only [go_sem]; rfl) (by simp [go_sem]) rfl (ACalls.mono (by simp only [go_sem]; exact hl _) ?_)
  rintro e σ7 ⟨h7, rfl⟩; subst σ7
  (refine AOpsC_ok hK' _ _ _ ?_; (repeat simp (maxSteps := 4000000) (disch := omega) only [go_sem, redN, Nat.reduceAdd, Int.reduceToNat, Int.reducePow]); (repeat' apply And.intro); (try any_goals (first | (refine hK _ _ ?_; clear hK' hQ hK Q' Kn) | (intro q; refine ⟨q, ?_⟩; simp only [redB] at q; omega) | (intro q; refine ⟨q, fun p => ?_⟩; rw [q, p]; rfl) | (simp; done) | omega | (simp only [redL, intsE_length, wdsE_length]; omega) | (simp; omega) | (intros; (repeat' apply And.intro) <;> (first | assumption | omega | (simp; done))))))
  (repeat' (first | refine AW.seq ?_ | refine AW.scope ?_ | refine AW.label ?_ | refine AW.block ?_ | refine AW.skip ?_ | refine AW.exit ?_ | refine AW.ret ?_))
  (refine AW.cond (by simp (maxSteps := 4000000) (disch := omega) only [go_sem, redN, Nat.reduceAdd, Int.reduceToNat, Int.reducePow]; rfl) (fun hb => ?_) (fun hb => ?_) <;> (try simp only [redB] at hb))
  · (repeat' (first | refine AW.seq ?_ | refine AW.scope ?_ | refine AW.label ?_ | refine AW.block ?_ | refine AW.skip ?_ | refine AW.exit ?_ | refine AW.ret ?_))
    (refine AW.regionC fun Q' Kn hQ hK hK' => ?_; (repeat simp (maxSteps := 4000000) (disch := omega) only [go_sem, redN, Nat.reduceAdd, Int.reduceToNat, Int.reducePow]); (repeat' apply And.intro); (try any_goals (first | (refine hK _ _ ?_; clear hK' hQ hK Q' Kn) | (intro q; refine ⟨q, ?_⟩; simp only [redB] at q; omega) | (intro q; refine ⟨q, fun p => ?_⟩; rw [q, p]; rfl) | (simp; done) | omega | (simp only [redL, intsE_length, wdsE_length]; omega) | (simp; omega) | (intros; (repeat' apply And.intro) <;> (first | assumption | omega | (simp; done))))))
    refine AOp.yields (vs := [.int .i64 (first + b + 7 * (k : Int))]) rfl (by simp only [go_sem] <;> rfl) (by simp [go_sem]) (by simp only [go_sem]; done) (take k σ (by omega) k2) ?_
    rintro v σ' ⟨rfl, k3⟩
    (refine AOpsC_ok hK' _ _ _ ?_; (repeat simp (maxSteps := 4000000) (disch := omega) only [go_sem, redN, Nat.reduceAdd, Int.reduceToNat, Int.reducePow]); (repeat' apply And.intro); (try any_goals (first | (refine hK _ _ ?_; clear hK' hQ hK Q' Kn) | (intro q; refine ⟨q, ?_⟩; simp only [redB] at q; omega) | (intro q; refine ⟨q, fun p => ?_⟩; rw [q, p]; rfl) | (simp; done) | omega | (simp only [redL, intsE_length, wdsE_length]; omega) | (simp; omega) | (intros; (repeat' apply And.intro) <;> (first | assumption | omega | (simp; done))))))
    (repeat' (first | refine AW.seq ?_ | refine AW.scope ?_ | refine AW.label ?_ | refine AW.block ?_ | refine AW.skip ?_ | refine AW.exit ?_ | refine AW.ret ?_))
    (refine AW.cond (by simp (maxSteps := 4000000) (disch := omega) only [go_sem, redN, Nat.reduceAdd, Int.reduceToNat, Int.reducePow]; rfl) (fun hb => ?_) (fun hb => ?_) <;> (try simp only [redB] at hb))
    (repeat' (first | refine AW.seq ?_ | refine AW.scope ?_ | refine AW.label ?_ | refine AW.block ?_ | refine AW.skip ?_ | refine AW.exit ?_ | refine AW.ret ?_))
    (refine AW.regionC fun Q' Kn hQ hK hK' => ?_; (repeat simp (maxSteps := 4000000) (disch := omega) only [go_sem, redN, Nat.reduceAdd, Int.reduceToNat, Int.reducePow]); (repeat' apply And.intro); (try any_goals (first | (refine hK _ _ ?_; clear hK' hQ hK Q' Kn) | (intro q; refine ⟨q, ?_⟩; simp only [redB] at q; omega) | (intro q; refine ⟨q, fun p => ?_⟩; rw [q, p]; rfl) | (simp; done) | omega | (simp only [redL, intsE_length, wdsE_length]; omega) | (simp; omega) | (intros; (repeat' apply And.intro) <;> (first | assumption | omega | (simp; done))))))
    refine ⟨(k + 1, σ'), ⟨by dsimp only; omega, k3⟩, by dsimp only; omega, ?_, rfl, rfl⟩
    dsimp only
    (repeat (first | exact Weak.nil | refine Weak.junk _ ?_ | refine Weak.same _ ?_ | refine Weak.eqv (by (congr 1; first | omega | (simp; done) | exact w_i64 (by omega) (by omega))) ?_))
  · (repeat' (first | refine AW.seq ?_ | refine AW.scope ?_ | refine AW.label ?_ | refine AW.block ?_ | refine AW.skip ?_ | refine AW.exit ?_ | refine AW.ret ?_))
    (refine ⟨_, _, rfl, by simp, ?_⟩; simp only [aTup, AA.get, List.getD_cons_zero, List.getD_cons_succ, true_and])
    rw [show ((n - b + 6) / 7).toNat = k by omega]
    exact k2
def HandsJ (G : Nat → AV) (f : FuncId) (ca : List AV) (n : Nat) (xs : Nat → Int) : Prop := ∀ (l0 : Nat) (J : Nat → St → Prop) (σ0 : St), J 0 σ0 →
  (∀ (k : Nat) σ, k < n → J k σ → YieldsTo (Ev G) l0 [.int .i64 (xs k)] σ fun v σ' => v = .bool true ∧ J (k + 1) σ') → ACalls (Ev G) f (.yld l0 :: ca) σ0 (fun e st' => e = .ret (.tup []) ∧ J n st')
def upToJ (xs : Nat → Int) (k : Nat) : List Int := (List.range k).map xs
theorem upToJ_succ (xs : Nat → Int) (k : Nat) : upToJ xs (k + 1) = upToJ xs k ++ [xs k] := by simp [upToJ, List.range_succ]
theorem upToJ_length (xs : Nat → Int) (k : Nat) : (upToJ xs k).length = k := by simp [upToJ]
theorem intsE_snocJ (l : List Int) (x : Int) : intsE l ++ [[.int .i64 x]] = intsE (l ++ [x]) := by simp [intsE]
set_option maxHeartbeats 8000000 in
theorem t_AppendSeq (G : Nat → AV) (f : FuncId) (ca : List AV) (n : Nat) (xs : Nat → Int) (hn : n ≤ 1000000) (hbd : hasBody Tryz.prog f = true) (hh : HandsJ G f ca n xs) (st : St) :
    ACalls (Ev G) 69 [.nils, .clo (.func f) [] ca] st (fun e st' => st' = st ∧ e = .ret (.tree 1 (intsE (upToJ xs n)))) := by
  refine ACalls.thawL (R' := fun e st' => ∃ v, SW st 2 1 v st' (intsE (upToJ xs n)) ∧ e = .ret v) ?_ ?_
  · refine ACalls.of_body Tryz.func69 rfl ?_
    rw [Tryz.ntmps69]
    simp only [List.length_cons, List.length_nil, Nat.reduceAdd, Nat.reduceSub, List.replicate_succ, List.replicate_zero, List.cons_append, List.nil_append]
    (repeat' (first | refine AW.seq ?_ | refine AW.scope ?_ | refine AW.label ?_ | refine AW.block ?_ | refine AW.skip ?_ | refine AW.exit ?_ | refine AW.ret ?_))
    (refine AW.regionC fun Q' Kn hQ hK hK' => ?_; (repeat simp (maxSteps := 4000000) (disch := omega) only [go_sem, redN, Nat.reduceAdd, Int.reduceToNat, Int.reducePow]); (repeat' apply And.intro); (try any_goals (first | (refine hK _ _ ?_; clear hK' hQ hK Q' Kn) | (intro q; refine ⟨q, ?_⟩; simp only [redB] at q; omega) | (intro q; refine ⟨q, fun p => ?_⟩; rw [q, p]; rfl) | (simp; done) | omega | (simp only [redL, intsE_length, wdsE_length]; omega) | (simp; omega) | (intros; (repeat' apply And.intro) <;> (first | assumption | omega | (simp; done))))))
    refine AOp.box rfl (by simp [go_sem]) (by simp only [go_sem]; rfl) fun b2 hb2 => ?_
    (refine AOpsC_ok hK' _ _ _ ?_; (repeat simp (maxSteps := 4000000) (disch := omega) only [go_sem, redN, Nat.reduceAdd, Int.reduceToNat, Int.reducePow]); (repeat' apply And.intro); (try any_goals (first | (refine hK _ _ ?_; clear hK' hQ hK Q' Kn) | (intro q; refine ⟨q, ?_⟩; simp only [redB] at q; omega) | (intro q; refine ⟨q, fun p => ?_⟩; rw [q, p]; rfl) | (simp; done) | omega | (simp only [redL, intsE_length, wdsE_length]; omega) | (simp; omega) | (intros; (repeat' apply And.intro) <;> (first | assumption | omega | (simp; done))))))
    have o0 : MO st [(b2, .cells 28 0 1 [[.nils]])] .nils (St.set st b2 (.cells 28 0 1 [[.nils]])) [] := MO.new (ps := []) ⟨st, by simpa [intsE] using SW.new st 2 1, MM.nil st⟩ hb2 _
    generalize St.set st b2 _ = σ1 at o0 ⊢
    (repeat' (first | refine AW.seq ?_ | refine AW.scope ?_ | refine AW.label ?_ | refine AW.block ?_ | refine AW.skip ?_ | refine AW.exit ?_ | refine AW.ret ?_))
    (refine AW.regionC fun Q' Kn hQ hK hK' => ?_; (repeat simp (maxSteps := 4000000) (disch := omega) only [go_sem, redN, Nat.reduceAdd, Int.reduceToNat, Int.reducePow]); (repeat' apply And.intro); (try any_goals (first | (refine hK _ _ ?_; clear hK' hQ hK Q' Kn) | (intro q; refine ⟨q, ?_⟩; simp only [redB] at q; omega) | (intro q; refine ⟨q, fun p => ?_⟩; rw [q, p]; rfl) | (simp; done) | omega | (simp only [redL, intsE_length, wdsE_length]; omega) | (simp; omega) | (intros; (repeat' apply And.intro) <;> (first | assumption | omega | (simp; done))))))
    (repeat' (first | refine AW.seq ?_ | refine AW.scope ?_ | refine AW.label ?_ | refine AW.block ?_ | refine AW.skip ?_ | refine AW.exit ?_ | refine AW.ret ?_))
    refine AW.rangeFunc (f := f) (by simp only [go_sem] <;> rfl) (by simp [go_sem]) hbd fun bd bl fn hd hl hlbd => ?_
    have o6 := (o0.new hd (.dfr true))
    generalize hB : Blk.loop _ _ _ _ _ _ _ _ = B
    have o7 := o6.new (show (St.set σ1 bd (.dfr true)) bl = none by rw [St.set_ne _ _ hlbd]; exact hl) B
    generalize St.set (St.set σ1 bd _) bl B = β at o7 ⊢
    refine ACalls.mono (hh bl (fun k σ => ∃ v, MO st [(bl, B), (bd, .dfr true), (b2, .cells 28 0 1 [[v]])] v σ (upToJ xs k)) β ⟨_, by simpa [upToJ] using o7⟩ ?_) ?_
    · rintro k σ hk ⟨v, g1⟩
      have hll := g1.get 0 rfl
      subst hB
      refine ⟨_, _, _, _, _, _, _, _, hll, rfl, ?_⟩
      simp only [go_sem, bindTm]
      (repeat' (first | refine AW.seq ?_ | refine AW.scope ?_ | refine AW.label ?_ | refine AW.block ?_ | refine AW.skip ?_ | refine AW.exit ?_ | refine AW.ret ?_))
      (refine AW.regionC fun Q' Kn hQ hK hK' => ?_; (repeat simp (maxSteps := 4000000) (disch := omega) only [go_sem, redN, Nat.reduceAdd, Int.reduceToNat, Int.reducePow]); (repeat' apply And.intro); (try any_goals (first | (refine hK _ _ ?_; clear hK' hQ hK Q' Kn) | (intro q; refine ⟨q, ?_⟩; simp only [redB] at q; omega) | (intro q; refine ⟨q, fun p => ?_⟩; rw [q, p]; rfl) | (simp; done) | omega | (simp only [redL, intsE_length, wdsE_length]; omega) | (simp; omega) | (intros; (repeat' apply And.intro) <;> (first | assumption | omega | (simp; done))))))
      simp only [AThen]
      refine ⟨_, _, _, _, _, _, _, hll, ?_⟩
      generalize hBb : Blk.loop LoopState.busy _ _ _ _ _ _ _ = Bb
      have g2 := g1.put 0 rfl Bb
      generalize St.set σ bl Bb = σ3 at g2 ⊢
      obtain ⟨βq, s1, s2⟩ := g2
      have g3 : MO st [(bl, Bb), (bd, .dfr true), (b2, .cells 28 0 1 [[v]])] v σ3 (upToJ xs k) := ⟨βq, s1, s2⟩
      have hul := upToJ_length xs k
      rcases s1.own with ⟨rfl, _⟩ | ⟨i1, g1, rfl, _⟩
      all_goals
        (try rw [intsE_length] at s1 g3)
        (repeat' (first | refine AW.seq ?_ | refine AW.scope ?_ | refine AW.label ?_ | refine AW.block ?_ | refine AW.skip ?_ | refine AW.exit ?_ | refine AW.ret ?_))
        (refine AW.regionC fun Q' Kn hQ hK hK' => ?_; (repeat simp (maxSteps := 4000000) (disch := omega) only [go_sem, redN, Nat.reduceAdd, Int.reduceToNat, Int.reducePow]); (repeat' apply And.intro); (try any_goals (first | (refine hK _ _ ?_; clear hK' hQ hK Q' Kn) | (intro q; refine ⟨q, ?_⟩; simp only [redB] at q; omega) | (intro q; refine ⟨q, fun p => ?_⟩; rw [q, p]; rfl) | (simp; done) | omega | (simp only [redL, intsE_length, wdsE_length]; omega) | (simp; omega) | (intros; (repeat' apply And.intro) <;> (first | assumption | omega | (simp; done))))))
        refine AOp.loadCell rfl (by simp only [go_sem] <;> rfl) (by simp [go_sem]) (g3.get 2 rfl) rfl (by simp) (by simp) ?_
        (refine AOpsC_ok hK' _ _ _ ?_; (repeat simp (maxSteps := 4000000) (disch := omega) only [go_sem, redN, Nat.reduceAdd, Int.reduceToNat, Int.reducePow]); (repeat' apply And.intro); (try any_goals (first | (refine hK _ _ ?_; clear hK' hQ hK Q' Kn) | (intro q; refine ⟨q, ?_⟩; simp only [redB] at q; omega) | (intro q; refine ⟨q, fun p => ?_⟩; rw [q, p]; rfl) | (simp; done) | omega | (simp only [redL, intsE_length, wdsE_length]; omega) | (simp; omega) | (intros; (repeat' apply And.intro) <;> (first | assumption | omega | (simp; done))))))
        refine AOp.buildSlice (e := 2) (sz := 1) (es := [[.int .i64 (xs k)]]) rfl rfl rfl rfl (by simp [partsC, go_sem]) (by simp [aParts, go_sem]) (by simp) rfl (by decide) (by decide) fun it2 hit2 => ?_
        (refine AOpsC_ok hK' _ _ _ ?_; (repeat simp (maxSteps := 4000000) (disch := omega) only [go_sem, redN, Nat.reduceAdd, Int.reduceToNat, Int.reducePow]); (repeat' apply And.intro); (try any_goals (first | (refine hK _ _ ?_; clear hK' hQ hK Q' Kn) | (intro q; refine ⟨q, ?_⟩; simp only [redB] at q; omega) | (intro q; refine ⟨q, fun p => ?_⟩; rw [q, p]; rfl) | (simp; done) | omega | (simp only [redL, intsE_length, wdsE_length]; omega) | (simp; omega) | (intros; (repeat' apply And.intro) <;> (first | assumption | omega | (simp; done))))))
        refine AOp.appendE (e := 2) (sz := 1) (by_ := 8) (es := intsE (upToJ xs k)) (xs := [[.int .i64 (xs k)]]) rfl rfl rfl rfl rfl rfl rfl (by decide) s1 hit2 rfl (by simp [isCell]) (by simp only [intsE_length]; omega) (by simp only [intsE_length, maxLen]; omega) (by simp) fun v' σ' h9 => ?_
        (refine AOpsC_ok hK' _ _ _ ?_; (repeat simp (maxSteps := 4000000) (disch := omega) only [go_sem, redN, Nat.reduceAdd, Int.reduceToNat, Int.reducePow]); (repeat' apply And.intro); (try any_goals (first | (refine hK _ _ ?_; clear hK' hQ hK Q' Kn) | (intro q; refine ⟨q, ?_⟩; simp only [redB] at q; omega) | (intro q; refine ⟨q, fun p => ?_⟩; rw [q, p]; rfl) | (simp; done) | omega | (simp only [redL, intsE_length, wdsE_length]; omega) | (simp; omega) | (intros; (repeat' apply And.intro) <;> (first | assumption | omega | (simp; done))))))
        rw [intsE_snocJ, ← upToJ_succ] at h9
        have p8 : MO st [(bl, Bb), (bd, .dfr true), (b2, .cells 28 0 1 [[_]])] v' σ' (upToJ xs (k + 1)) := ⟨βq, h9, s2⟩
        obtain ⟨ia3, gg3, rfl⟩ := p8.arr (by rw [upToJ_succ]; simp)
        refine AOp.store (cs := [.arr ia3 gg3 1 0 (upToJ xs (k + 1)).length]) rfl (by simp only [go_sem] <;> rfl) (by simp [go_sem]) (p8.get 2 rfl) (by first | (simp only [go_sem]; done) | (simp [go_sem]; done) | (simp [go_sem]; omega)) rfl rfl (by simp) (by simp) ?_
        (refine AOpsC_ok hK' _ _ _ ?_; (repeat simp (maxSteps := 4000000) (disch := omega) only [go_sem, redN, Nat.reduceAdd, Int.reduceToNat, Int.reducePow]); (repeat' apply And.intro); (try any_goals (first | (refine hK _ _ ?_; clear hK' hQ hK Q' Kn) | (intro q; refine ⟨q, ?_⟩; simp only [redB] at q; omega) | (intro q; refine ⟨q, fun p => ?_⟩; rw [q, p]; rfl) | (simp; done) | omega | (simp only [redL, intsE_length, wdsE_length]; omega) | (simp; omega) | (intros; (repeat' apply And.intro) <;> (first | assumption | omega | (simp; done))))))
        have p9 := p8.put 2 rfl (.cells 28 0 1 [[.arr ia3 gg3 1 0 (upToJ xs (k + 1)).length]])
        generalize St.set σ' b2 _ = σ4 at p9 ⊢
        (repeat' (first | refine AW.seq ?_ | refine AW.scope ?_ | refine AW.label ?_ | refine AW.block ?_ | refine AW.skip ?_ | refine AW.exit ?_ | refine AW.ret ?_))
        simp only [AInBlock]
        refine ARound.normal (l := bl) ((p9.get 0 rfl).trans (congrArg some hBb.symm)) ?_
        exact ⟨rfl, _, p9.put 0 rfl _⟩
    · rintro e σ ⟨rfl, v, g1⟩
      have hll := g1.get 0 rfl
      subst hB
      simp only [ARange, hll]
      refine ⟨by simp, ?_⟩
      have h5 : MO st [(bd, .dfr true), (b2, .cells 28 0 1 [[v]])] v (σ.del bl) (upToJ xs n) := g1.del 0 rfl
      generalize σ.del bl = σ9 at h5 ⊢
      rcases h5.sw.own with ⟨rfl, _⟩ | ⟨i1, g1, rfl, _⟩
      all_goals
        (try rw [intsE_length] at h5)
        (repeat' (first | refine AW.seq ?_ | refine AW.scope ?_ | refine AW.label ?_ | refine AW.block ?_ | refine AW.skip ?_ | refine AW.exit ?_ | refine AW.ret ?_))
        (refine AW.regionC fun Q' Kn hQ hK hK' => ?_; (repeat simp (maxSteps := 4000000) (disch := omega) only [go_sem, redN, Nat.reduceAdd, Int.reduceToNat, Int.reducePow]); (repeat' apply And.intro); (try any_goals (first | (refine hK _ _ ?_; clear hK' hQ hK Q' Kn) | (intro q; refine ⟨q, ?_⟩; simp only [redB] at q; omega) | (intro q; refine ⟨q, fun p => ?_⟩; rw [q, p]; rfl) | (simp; done) | omega | (simp only [redL, intsE_length, wdsE_length]; omega) | (simp; omega) | (intros; (repeat' apply And.intro) <;> (first | assumption | omega | (simp; done))))))
        refine AOp.loadCell rfl (by simp only [go_sem] <;> rfl) (by simp [go_sem]) (h5.get 1 rfl) rfl (by simp) (by simp) ?_
        (refine AOpsC_ok hK' _ _ _ ?_; (repeat simp (maxSteps := 4000000) (disch := omega) only [go_sem, redN, Nat.reduceAdd, Int.reduceToNat, Int.reducePow]); (repeat' apply And.intro); (try any_goals (first | (refine hK _ _ ?_; clear hK' hQ hK Q' Kn) | (intro q; refine ⟨q, ?_⟩; simp only [redB] at q; omega) | (intro q; refine ⟨q, fun p => ?_⟩; rw [q, p]; rfl) | (simp; done) | omega | (simp only [redL, intsE_length, wdsE_length]; omega) | (simp; omega) | (intros; (repeat' apply And.intro) <;> (first | assumption | omega | (simp; done))))))
        (repeat' (first | refine AW.seq ?_ | refine AW.scope ?_ | refine AW.label ?_ | refine AW.block ?_ | refine AW.skip ?_ | refine AW.exit ?_ | refine AW.ret ?_))
        refine ⟨?_, ?_⟩
        · exact h5.get 0 rfl
        (refine ⟨_, _, rfl, by simp, ?_⟩; simp only [aTup, AA.get, List.getD_cons_zero, List.getD_cons_succ, true_and])
        exact ⟨_, (h5.put 0 rfl _).sw, rfl⟩
  · rintro x st1 ⟨v, h1, rfl⟩
    exact ⟨2, st, v, _, rfl, h1.sub (St.sub_refl st), h1.thL (St.sub_refl st) 1 (by
      intro e he c hc
      obtain ⟨y, _, rfl⟩ := List.mem_map.1 he
      simp at hc; subst hc; exact th_int _ _ _ _ _), rfl, rfl⟩
theorem t_Collect (G : Nat → AV) (f : FuncId) (ca : List AV) (n : Nat) (xs : Nat → Int) (hn : n ≤ 1000000) (hbd : hasBody Tryz.prog f = true) (hh : HandsJ G f ca n xs) (st : St) :
    ACalls (Ev G) 43 [.clo (.func f) [] ca] st (fun e st' => st' = st ∧ e = .ret (.tree 1 (intsE (upToJ xs n)))) := by
  refine ACalls.of_body Tryz.func43 rfl ?_
  rw [Tryz.ntmps43]
  simp only [List.length_cons, List.length_nil, Nat.reduceAdd, Nat.reduceSub, List.replicate_succ, List.replicate_zero, List.cons_append, List.nil_append]
  (repeat' (first | refine AW.seq ?_ | refine AW.scope ?_ | refine AW.label ?_ | refine AW.block ?_ | refine AW.skip ?_ | refine AW.exit ?_ | refine AW.ret ?_))
  (refine AW.regionC fun Q' Kn hQ hK hK' => ?_; (repeat simp (maxSteps := 4000000) (disch := omega) only [go_sem, redN, Nat.reduceAdd, Int.reduceToNat, Int.reducePow]); (repeat' apply And.intro); (try any_goals (first | (refine hK _ _ ?_; clear hK' hQ hK Q' Kn) | (intro q; refine ⟨q, ?_⟩; simp only [redB] at q; omega) | (intro q; refine ⟨q, fun p => ?_⟩; rw [q, p]; rfl) | (simp; done) | omega | (simp only [redL, intsE_length, wdsE_length]; omega) | (simp; omega) | (intros; (repeat' apply And.intro) <;> (first | assumption | omega | (simp; done))))))
  (repeat' (first | refine AW.seq ?_ | refine AW.scope ?_ | refine AW.label ?_ | refine AW.block ?_ | refine AW.skip ?_ | refine AW.exit ?_ | refine AW.ret ?_))
  (refine AW.regionC fun Q' Kn hQ hK hK' => ?_; (repeat simp (maxSteps := 4000000) (disch := omega) only [go_sem, redN, Nat.reduceAdd, Int.reduceToNat, Int.reducePow]); (repeat' apply And.intro); (try any_goals (first | (refine hK _ _ ?_; clear hK' hQ hK Q' Kn) | (intro q; refine ⟨q, ?_⟩; simp only [redB] at q; omega) | (intro q; refine ⟨q, fun p => ?_⟩; rw [q, p]; rfl) | (simp; done) | omega | (simp only [redL, intsE_length, wdsE_length]; omega) | (simp; omega) | (intros; (repeat' apply And.intro) <;> (first | assumption | omega | (simp; done))))))
  refine AOp.call rfl (by simp only [go_sem]; rfl) (by simp [go_sem]) rfl (ACalls.mono (by simp only [go_sem]; exact t_AppendSeq G f ca n xs hn hbd hh _) ?_)
  rintro e σ7 ⟨h7, rfl⟩; subst σ7
  (refine AOpsC_ok hK' _ _ _ ?_; (repeat simp (maxSteps := 4000000) (disch := omega) only [go_sem, redN, Nat.reduceAdd, Int.reduceToNat, Int.reducePow]); (repeat' apply And.intro); (try any_goals (first | (refine hK _ _ ?_; clear hK' hQ hK Q' Kn) | (intro q; refine ⟨q, ?_⟩; simp only [redB] at q; omega) | (intro q; refine ⟨q, fun p => ?_⟩; rw [q, p]; rfl) | (simp; done) | omega | (simp only [redL, intsE_length, wdsE_length]; omega) | (simp; omega) | (intros; (repeat' apply And.intro) <;> (first | assumption | omega | (simp; done))))))
  (repeat' (first | refine AW.seq ?_ | refine AW.scope ?_ | refine AW.label ?_ | refine AW.block ?_ | refine AW.skip ?_ | refine AW.exit ?_ | refine AW.ret ?_))
  (refine ⟨_, _, rfl, by simp, ?_⟩; simp only [aTup, AA.get, List.getD_cons_zero, List.getD_cons_succ, true_and])
def nthF (y m n w : Int) : Int × Bool :=
  if w < 0 ∨ w > 6 ∨ n = 0 then (0, false)
  else if (if n < 0 then (wdN y m w : Int) + n else n - 1) < 0 ∨ (if n < 0 then (wdN y m w : Int) + n else n - 1) ≥ wdN y m w then (0, false)
  else (wdA y m w + 7 * (if n < 0 then (wdN y m w : Int) + n else n - 1), true)
theorem weekdays_hands (G : Nat → AV) (y m w : Int) (hw0 : 0 ≤ w) (hw1 : w ≤ 6) : HandsJ G 70 [.fptr [.int .i64 y], .fptr [.int .i64 m], .fptr [.int .i64 w]] (wdN y m w) (fun k => wdA y m w + 7 * (k : Int)) := by
  intro l0 J σ0 hJ take
  have hml := mlen_le y m
  have hdb := days_bounds y m 1
  refine t_weekdaysW G y m w (days y m 1).1 (mlen y m) (days y m 1).2 l0 (fun σ => t_Days G y m 1 (by omega) (by omega) σ) (fun σ => t_Length G y m σ) (days_ok1 y m) (by omega) (by omega) (by omega) (by omega) hw0 hw1 J σ0 hJ (fun k σ hk hj => ?_)
  exact take k σ (by simp only [wdN]; omega) hj
set_option maxHeartbeats 8000000 in
theorem t_NthW (G : Nat → AV) (y m n w a : Int) (c : Nat) (f : FuncId) (ca : List AV) (hc : c ≤ 5) (ha0 : -1000000000 ≤ a) (ha1 : a ≤ 1000000000) (hn0 : -9223372036854775808 ≤ n) (hn1 : n ≤ 9223372036854775807) (hbd : hasBody Tryz.prog f = true) (hw : 0 ≤ w → w ≤ 6 → HandsJ G f ca c (fun k => a + 7 * (k : Int)))
    (hk : ∀ σ, ACalls (Ev G) 44 [.int .i64 y, .int .i64 m, .int .i64 w] σ (fun e st' => st' = σ ∧ e = .ret (.clo (.func f) [] ca))) (st : St) :
    ACalls (Ev G) 22 [.int .i64 y, .int .i64 m, .agg [.int .i64 n, .int .i64 w]] st (fun e st' => st' = st ∧ ∃ p : Int × Bool, e = .ret (.tup [.int .i64 p.1, .bool p.2]) ∧
      p = if w < 0 ∨ w > 6 ∨ n = 0 then (0, false) else if (if n < 0 then (c : Int) + n else n - 1) < 0 ∨ (if n < 0 then (c : Int) + n else n - 1) ≥ c then (0, false) else (a + 7 * (if n < 0 then (c : Int) + n else n - 1), true)) := by
  refine ACalls.thaw (R' := fun e st' => st.sub st' ∧ ∃ p : Int × Bool, e = .ret (.tup [.int .i64 p.1, .bool p.2]) ∧
      p = if w < 0 ∨ w > 6 ∨ n = 0 then (0, false) else if (if n < 0 then (c : Int) + n else n - 1) < 0 ∨ (if n < 0 then (c : Int) + n else n - 1) ≥ c then (0, false) else (a + 7 * (if n < 0 then (c : Int) + n else n - 1), true)) ?_ (fun x st1 h => ⟨2, st, h.1, rfl, by obtain ⟨p, h1, h2⟩ := h.2; exact ⟨p, by rw [h1]; rfl, h2⟩⟩)
  refine ACalls.of_body Tryz.func22 rfl ?_
  rw [Tryz.ntmps22]
  simp only [List.length_cons, List.length_nil, Nat.reduceAdd, Nat.reduceSub, List.replicate_succ, List.replicate_zero, List.cons_append, List.nil_append]
  (repeat' (first | refine AW.seq ?_ | refine AW.scope ?_ | refine AW.label ?_ | refine AW.block ?_ | refine AW.skip ?_ | refine AW.exit ?_ | refine AW.ret ?_))
  (refine AW.regionC fun Q' Kn hQ hK hK' => ?_; (repeat simp (maxSteps := 4000000) (disch := omega) only [go_sem, redN, Nat.reduceAdd, Int.reduceToNat, Int.reducePow]); (repeat' apply And.intro); (try any_goals (first | (refine hK _ _ ?_; clear hK' hQ hK Q' Kn) | (intro q; refine ⟨q, ?_⟩; simp only [redB] at q; omega) | (intro q; refine ⟨q, fun p => ?_⟩; rw [q, p]; rfl) | (simp; done) | omega | (simp only [redL, intsE_length, wdsE_length]; omega) | (simp; omega) | (intros; (repeat' apply And.intro) <;> (first | assumption | omega | (simp; done))))))
  refine AOp.box rfl (by simp [go_sem]) (by simp only [go_sem]; rfl) fun b5 hb5 => ?_
  (refine AOpsC_ok hK' _ _ _ ?_; (repeat simp (maxSteps := 4000000) (disch := omega) only [go_sem, redN, Nat.reduceAdd, Int.reduceToNat, Int.reducePow]); (repeat' apply And.intro); (try any_goals (first | (refine hK _ _ ?_; clear hK' hQ hK Q' Kn) | (intro q; refine ⟨q, ?_⟩; simp only [redB] at q; omega) | (intro q; refine ⟨q, fun p => ?_⟩; rw [q, p]; rfl) | (simp; done) | omega | (simp only [redL, intsE_length, wdsE_length]; omega) | (simp; omega) | (intros; (repeat' apply And.intro) <;> (first | assumption | omega | (simp; done))))))
  have hsub := (((MM.nil st).new hb5 (.cells 53 0 2 [[.int .i64 n, .int .i64 w]])).del 0 rfl).sub
  refine AW.freeze 5 rfl (St.set_same _ _ _) ?_
  generalize St.del (St.set st b5 _) b5 = σ at hsub ⊢
  (repeat' (first | refine AW.seq ?_ | refine AW.scope ?_ | refine AW.label ?_ | refine AW.block ?_ | refine AW.skip ?_ | refine AW.exit ?_ | refine AW.ret ?_))
  (refine AW.regionC fun Q' Kn hQ hK hK' => ?_; (repeat simp (maxSteps := 4000000) (disch := omega) only [go_sem, redN, Nat.reduceAdd, Int.reduceToNat, Int.reducePow]); (repeat' apply And.intro); (try any_goals (first | (refine hK _ _ ?_; clear hK' hQ hK Q' Kn) | (intro q; refine ⟨q, ?_⟩; simp only [redB] at q; omega) | (intro q; refine ⟨q, fun p => ?_⟩; rw [q, p]; rfl) | (simp; done) | omega | (simp only [redL, intsE_length, wdsE_length]; omega) | (simp; omega) | (intros; (repeat' apply And.intro) <;> (first | assumption | omega | (simp; done))))))
  (repeat' (first | refine AW.seq ?_ | refine AW.scope ?_ | refine AW.label ?_ | refine AW.block ?_ | refine AW.skip ?_ | refine AW.exit ?_ | refine AW.ret ?_))
  (refine AW.cond (by simp (maxSteps := 4000000) (disch := omega) only [go_sem, redN, Nat.reduceAdd, Int.reduceToNat, Int.reducePow]; rfl) (fun hb => ?_) (fun hb => ?_) <;> (try simp only [redB] at hb))
  · (repeat' (first | refine AW.seq ?_ | refine AW.scope ?_ | refine AW.label ?_ | refine AW.block ?_ | refine AW.skip ?_ | refine AW.exit ?_ | refine AW.ret ?_))
    (refine AW.regionC fun Q' Kn hQ hK hK' => ?_; (repeat simp (maxSteps := 4000000) (disch := omega) only [go_sem, redN, Nat.reduceAdd, Int.reduceToNat, Int.reducePow]); (repeat' apply And.intro); (try any_goals (first | (refine hK _ _ ?_; clear hK' hQ hK Q' Kn) | (intro q; refine ⟨q, ?_⟩; simp only [redB] at q; omega) | (intro q; refine ⟨q, fun p => ?_⟩; rw [q, p]; rfl) | (simp; done) | omega | (simp only [redL, intsE_length, wdsE_length]; omega) | (simp; omega) | (intros; (repeat' apply And.intro) <;> (first | assumption | omega | (simp; done))))))
    (repeat' (first | refine AW.seq ?_ | refine AW.scope ?_ | refine AW.label ?_ | refine AW.block ?_ | refine AW.skip ?_ | refine AW.exit ?_ | refine AW.ret ?_))
    (refine ⟨_, _, rfl, by simp, ?_⟩; simp only [aTup, AA.get, List.getD_cons_zero, List.getD_cons_succ, true_and])
    refine ⟨hsub, (0, false), rfl, ?_⟩
    rw [if_pos (by omega)]
  have hb1 := hb
  (repeat' (first | refine AW.seq ?_ | refine AW.scope ?_ | refine AW.label ?_ | refine AW.block ?_ | refine AW.skip ?_ | refine AW.exit ?_ | refine AW.ret ?_))
  (refine AW.regionC fun Q' Kn hQ hK hK' => ?_; (repeat simp (maxSteps := 4000000) (disch := omega) only [go_sem, redN, Nat.reduceAdd, Int.reduceToNat, Int.reducePow]); (repeat' apply And.intro); (try any_goals (first | (refine hK _ _ ?_; clear hK' hQ hK Q' Kn) | (intro q; refine ⟨q, ?_⟩; simp only [redB] at q; omega) | (intro q; refine ⟨q, fun p => ?_⟩; rw [q, p]; rfl) | (simp; done) | omega | (simp only [redL, intsE_length, wdsE_length]; omega) | (simp; omega) | (intros; (repeat' apply And.intro) <;> (first | assumption | omega | (simp; done))))))
  refine AOp.call rfl (by simp only [go_sem]; rfl) (by simp [go_sem]) rfl (ACalls.mono (by simp only [go_sem]; exact hk _) ?_)
  rintro e σ7 ⟨h7, rfl⟩; subst σ7
  (refine AOpsC_ok hK' _ _ _ ?_; (repeat simp (maxSteps := 4000000) (disch := omega) only [go_sem, redN, Nat.reduceAdd, Int.reduceToNat, Int.reducePow]); (repeat' apply And.intro); (try any_goals (first | (refine hK _ _ ?_; clear hK' hQ hK Q' Kn) | (intro q; refine ⟨q, ?_⟩; simp only [redB] at q; omega) | (intro q; refine ⟨q, fun p => ?_⟩; rw [q, p]; rfl) | (simp; done) | omega | (simp only [redL, intsE_length, wdsE_length]; omega) | (simp; omega) | (intros; (repeat' apply And.intro) <;> (first | assumption | omega | (simp; done))))))
  refine AOp.call rfl (by simp only [go_sem]; rfl) (by simp [go_sem]) rfl (ACalls.mono (by simp only [go_sem]; exact t_Collect G f ca c _ (by omega) hbd (hw (by omega) (by omega)) _) ?_)
  rintro e σ7 ⟨h7, rfl⟩; subst σ7
  (refine AOpsC_ok hK' _ _ _ ?_; (repeat simp (maxSteps := 4000000) (disch := omega) only [go_sem, redN, Nat.reduceAdd, Int.reduceToNat, Int.reducePow]); (repeat' apply And.intro); (try any_goals (first | (refine hK _ _ ?_; clear hK' hQ hK Q' Kn) | (intro q; refine ⟨q, ?_⟩; simp only [redB] at q; omega) | (intro q; refine ⟨q, fun p => ?_⟩; rw [q, p]; rfl) | (simp; done) | omega | (simp only [redL, intsE_length, wdsE_length]; omega) | (simp; omega) | (intros; (repeat' apply And.intro) <;> (first | assumption | omega | (simp; done))))))
  have hLl := upToJ_length (fun k => a + 7 * (k : Int)) c
  have hLg : ∀ i, i < c → (upToJ (fun k => a + 7 * (k : Int)) c).getD i 0 = a + 7 * (i : Int) := fun i hi => by simp [upToJ, List.getD, hi]
  generalize upToJ (fun k => a + 7 * (k : Int)) c = L at hLl hLg ⊢
  by_cases hn : n < 0
  · have hif : (if n < 0 then (c : Int) + n else n - 1) = c + n := if_pos hn
    rw [hif]
    (repeat' (first | refine AW.seq ?_ | refine AW.scope ?_ | refine AW.label ?_ | refine AW.block ?_ | refine AW.skip ?_ | refine AW.exit ?_ | refine AW.ret ?_))
    (refine AW.regionC fun Q' Kn hQ hK hK' => ?_; (repeat simp (maxSteps := 4000000) (disch := omega) only [go_sem, redN, Nat.reduceAdd, Int.reduceToNat, Int.reducePow]); (repeat' apply And.intro); (try any_goals (first | (refine hK _ _ ?_; clear hK' hQ hK Q' Kn) | (intro q; refine ⟨q, ?_⟩; simp only [redB] at q; omega) | (intro q; refine ⟨q, fun p => ?_⟩; rw [q, p]; rfl) | (simp; done) | omega | (simp only [redL, intsE_length, wdsE_length]; omega) | (simp; omega) | (intros; (repeat' apply And.intro) <;> (first | assumption | omega | (simp; done))))))
    (repeat' (first | refine AW.seq ?_ | refine AW.scope ?_ | refine AW.label ?_ | refine AW.block ?_ | refine AW.skip ?_ | refine AW.exit ?_ | refine AW.ret ?_))
    (refine AW.regionC fun Q' Kn hQ hK hK' => ?_; (repeat simp (maxSteps := 4000000) (disch := omega) only [go_sem, redN, Nat.reduceAdd, Int.reduceToNat, Int.reducePow]); (repeat' apply And.intro); (try any_goals (first | (refine hK _ _ ?_; clear hK' hQ hK Q' Kn) | (intro q; refine ⟨q, ?_⟩; simp only [redB] at q; omega) | (intro q; refine ⟨q, fun p => ?_⟩; rw [q, p]; rfl) | (simp; done) | omega | (simp only [redL, intsE_length, wdsE_length]; omega) | (simp; omega) | (intros; (repeat' apply And.intro) <;> (first | assumption | omega | (simp; done))))))
    (repeat' (first | refine AW.seq ?_ | refine AW.scope ?_ | refine AW.label ?_ | refine AW.block ?_ | refine AW.skip ?_ | refine AW.exit ?_ | refine AW.ret ?_))
    (refine AW.cond (by simp (maxSteps := 4000000) (disch := omega) only [go_sem, redN, Nat.reduceAdd, Int.reduceToNat, Int.reducePow]; rfl) (fun hb => ?_) (fun hb => ?_) <;> (try simp only [redB] at hb))
    rotate_left
    · exact absurd hn hb
    (repeat' (first | refine AW.seq ?_ | refine AW.scope ?_ | refine AW.label ?_ | refine AW.block ?_ | refine AW.skip ?_ | refine AW.exit ?_ | refine AW.ret ?_))
    (refine AW.regionC fun Q' Kn hQ hK hK' => ?_; (repeat simp (maxSteps := 4000000) (disch := omega) only [go_sem, redN, Nat.reduceAdd, Int.reduceToNat, Int.reducePow]); (repeat' apply And.intro); (try any_goals (first | (refine hK _ _ ?_; clear hK' hQ hK Q' Kn) | (intro q; refine ⟨q, ?_⟩; simp only [redB] at q; omega) | (intro q; refine ⟨q, fun p => ?_⟩; rw [q, p]; rfl) | (simp; done) | omega | (simp only [redL, intsE_length, wdsE_length]; omega) | (simp; omega) | (intros; (repeat' apply And.intro) <;> (first | assumption | omega | (simp; done))))))
    rw [hLl]
    (repeat' (first | refine AW.seq ?_ | refine AW.scope ?_ | refine AW.label ?_ | refine AW.block ?_ | refine AW.skip ?_ | refine AW.exit ?_ | refine AW.ret ?_))
    (refine AW.regionC fun Q' Kn hQ hK hK' => ?_; (repeat simp (maxSteps := 4000000) (disch := omega) only [go_sem, redN, Nat.reduceAdd, Int.reduceToNat, Int.reducePow]); (repeat' apply And.intro); (try any_goals (first | (refine hK _ _ ?_; clear hK' hQ hK Q' Kn) | (intro q; refine ⟨q, ?_⟩; simp only [redB] at q; omega) | (intro q; refine ⟨q, fun p => ?_⟩; rw [q, p]; rfl) | (simp; done) | omega | (simp only [redL, intsE_length, wdsE_length]; omega) | (simp; omega) | (intros; (repeat' apply And.intro) <;> (first | assumption | omega | (simp; done))))))
    (repeat' (first | refine AW.seq ?_ | refine AW.scope ?_ | refine AW.label ?_ | refine AW.block ?_ | refine AW.skip ?_ | refine AW.exit ?_ | refine AW.ret ?_))
    (refine AW.cond (by simp (maxSteps := 4000000) (disch := omega) only [go_sem, redN, Nat.reduceAdd, Int.reduceToNat, Int.reducePow]; rfl) (fun hb => ?_) (fun hb => ?_) <;> (try simp only [redB] at hb))
    · (repeat' (first | refine AW.seq ?_ | refine AW.scope ?_ | refine AW.label ?_ | refine AW.block ?_ | refine AW.skip ?_ | refine AW.exit ?_ | refine AW.ret ?_))
      (refine AW.regionC fun Q' Kn hQ hK hK' => ?_; (repeat simp (maxSteps := 4000000) (disch := omega) only [go_sem, redN, Nat.reduceAdd, Int.reduceToNat, Int.reducePow]); (repeat' apply And.intro); (try any_goals (first | (refine hK _ _ ?_; clear hK' hQ hK Q' Kn) | (intro q; refine ⟨q, ?_⟩; simp only [redB] at q; omega) | (intro q; refine ⟨q, fun p => ?_⟩; rw [q, p]; rfl) | (simp; done) | omega | (simp only [redL, intsE_length, wdsE_length]; omega) | (simp; omega) | (intros; (repeat' apply And.intro) <;> (first | assumption | omega | (simp; done))))))
      (repeat' (first | refine AW.seq ?_ | refine AW.scope ?_ | refine AW.label ?_ | refine AW.block ?_ | refine AW.skip ?_ | refine AW.exit ?_ | refine AW.ret ?_))
      (refine ⟨_, _, rfl, by simp, ?_⟩; simp only [aTup, AA.get, List.getD_cons_zero, List.getD_cons_succ, true_and])
      refine ⟨hsub, (0, false), rfl, ?_⟩
      rw [if_neg (by omega), if_pos (by omega)]
    have hb4 := hb
    obtain ⟨i, hi⟩ : ∃ i : Nat, (c : Int) + n = i := ⟨((c : Int) + n).toNat, by omega⟩
    have hic : i < c := by omega
    have hgi := hLg i hic
    rw [hi]
    (repeat' (first | refine AW.seq ?_ | refine AW.scope ?_ | refine AW.label ?_ | refine AW.block ?_ | refine AW.skip ?_ | refine AW.exit ?_ | refine AW.ret ?_))
    (refine AW.regionC fun Q' Kn hQ hK hK' => ?_; (repeat simp (maxSteps := 4000000) (disch := omega) only [go_sem, redN, Nat.reduceAdd, Int.reduceToNat, Int.reducePow]); (repeat' apply And.intro); (try any_goals (first | (refine hK _ _ ?_; clear hK' hQ hK Q' Kn) | (intro q; refine ⟨q, ?_⟩; simp only [redB] at q; omega) | (intro q; refine ⟨q, fun p => ?_⟩; rw [q, p]; rfl) | (simp; done) | omega | (simp only [redL, intsE_length, wdsE_length]; omega) | (simp; omega) | (intros; (repeat' apply And.intro) <;> (first | assumption | omega | (simp; done))))))
    try simp only [Int.toNat_natCast, hgi]
    (repeat' (first | refine AW.seq ?_ | refine AW.scope ?_ | refine AW.label ?_ | refine AW.block ?_ | refine AW.skip ?_ | refine AW.exit ?_ | refine AW.ret ?_))
    (refine ⟨_, _, rfl, by simp, ?_⟩; simp only [aTup, AA.get, List.getD_cons_zero, List.getD_cons_succ, true_and])
    refine ⟨hsub, (a + 7 * (i : Int), true), ?_, ?_⟩
    · first | rfl | (simp only [Int.toNat_natCast, hgi])
    rw [if_neg (by omega), if_neg (by omega)]
  · have hif : (if n < 0 then (c : Int) + n else n - 1) = n - 1 := if_neg hn
    rw [hif]
    (repeat' (first | refine AW.seq ?_ | refine AW.scope ?_ | refine AW.label ?_ | refine AW.block ?_ | refine AW.skip ?_ | refine AW.exit ?_ | refine AW.ret ?_))
    (refine AW.regionC fun Q' Kn hQ hK hK' => ?_; (repeat simp (maxSteps := 4000000) (disch := omega) only [go_sem, redN, Nat.reduceAdd, Int.reduceToNat, Int.reducePow]); (repeat' apply And.intro); (try any_goals (first | (refine hK _ _ ?_; clear hK' hQ hK Q' Kn) | (intro q; refine ⟨q, ?_⟩; simp only [redB] at q; omega) | (intro q; refine ⟨q, fun p => ?_⟩; rw [q, p]; rfl) | (simp; done) | omega | (simp only [redL, intsE_length, wdsE_length]; omega) | (simp; omega) | (intros; (repeat' apply And.intro) <;> (first | assumption | omega | (simp; done))))))
    (repeat' (first | refine AW.seq ?_ | refine AW.scope ?_ | refine AW.label ?_ | refine AW.block ?_ | refine AW.skip ?_ | refine AW.exit ?_ | refine AW.ret ?_))
    (refine AW.regionC fun Q' Kn hQ hK hK' => ?_; (repeat simp (maxSteps := 4000000) (disch := omega) only [go_sem, redN, Nat.reduceAdd, Int.reduceToNat, Int.reducePow]); (repeat' apply And.intro); (try any_goals (first | (refine hK _ _ ?_; clear hK' hQ hK Q' Kn) | (intro q; refine ⟨q, ?_⟩; simp only [redB] at q; omega) | (intro q; refine ⟨q, fun p => ?_⟩; rw [q, p]; rfl) | (simp; done) | omega | (simp only [redL, intsE_length, wdsE_length]; omega) | (simp; omega) | (intros; (repeat' apply And.intro) <;> (first | assumption | omega | (simp; done))))))
    (repeat' (first | refine AW.seq ?_ | refine AW.scope ?_ | refine AW.label ?_ | refine AW.block ?_ | refine AW.skip ?_ | refine AW.exit ?_ | refine AW.ret ?_))
    (refine AW.cond (by simp (maxSteps := 4000000) (disch := omega) only [go_sem, redN, Nat.reduceAdd, Int.reduceToNat, Int.reducePow]; rfl) (fun hb => ?_) (fun hb => ?_) <;> (try simp only [redB] at hb))
    · exact absurd hb hn
    (repeat' (first | refine AW.seq ?_ | refine AW.scope ?_ | refine AW.label ?_ | refine AW.block ?_ | refine AW.skip ?_ | refine AW.exit ?_ | refine AW.ret ?_))
    (repeat' (first | refine AW.seq ?_ | refine AW.scope ?_ | refine AW.label ?_ | refine AW.block ?_ | refine AW.skip ?_ | refine AW.exit ?_ | refine AW.ret ?_))
    (refine AW.regionC fun Q' Kn hQ hK hK' => ?_; (repeat simp (maxSteps := 4000000) (disch := omega) only [go_sem, redN, Nat.reduceAdd, Int.reduceToNat, Int.reducePow]); (repeat' apply And.intro); (try any_goals (first | (refine hK _ _ ?_; clear hK' hQ hK Q' Kn) | (intro q; refine ⟨q, ?_⟩; simp only [redB] at q; omega) | (intro q; refine ⟨q, fun p => ?_⟩; rw [q, p]; rfl) | (simp; done) | omega | (simp only [redL, intsE_length, wdsE_length]; omega) | (simp; omega) | (intros; (repeat' apply And.intro) <;> (first | assumption | omega | (simp; done))))))
    (repeat' (first | refine AW.seq ?_ | refine AW.scope ?_ | refine AW.label ?_ | refine AW.block ?_ | refine AW.skip ?_ | refine AW.exit ?_ | refine AW.ret ?_))
    (refine AW.cond (by simp (maxSteps := 4000000) (disch := omega) only [go_sem, redN, Nat.reduceAdd, Int.reduceToNat, Int.reducePow]; rfl) (fun hb => ?_) (fun hb => ?_) <;> (try simp only [redB] at hb))
    · (repeat' (first | refine AW.seq ?_ | refine AW.scope ?_ | refine AW.label ?_ | refine AW.block ?_ | refine AW.skip ?_ | refine AW.exit ?_ | refine AW.ret ?_))
      (refine AW.regionC fun Q' Kn hQ hK hK' => ?_; (repeat simp (maxSteps := 4000000) (disch := omega) only [go_sem, redN, Nat.reduceAdd, Int.reduceToNat, Int.reducePow]); (repeat' apply And.intro); (try any_goals (first | (refine hK _ _ ?_; clear hK' hQ hK Q' Kn) | (intro q; refine ⟨q, ?_⟩; simp only [redB] at q; omega) | (intro q; refine ⟨q, fun p => ?_⟩; rw [q, p]; rfl) | (simp; done) | omega | (simp only [redL, intsE_length, wdsE_length]; omega) | (simp; omega) | (intros; (repeat' apply And.intro) <;> (first | assumption | omega | (simp; done))))))
      (repeat' (first | refine AW.seq ?_ | refine AW.scope ?_ | refine AW.label ?_ | refine AW.block ?_ | refine AW.skip ?_ | refine AW.exit ?_ | refine AW.ret ?_))
      (refine ⟨_, _, rfl, by simp, ?_⟩; simp only [aTup, AA.get, List.getD_cons_zero, List.getD_cons_succ, true_and])
      refine ⟨hsub, (0, false), rfl, ?_⟩
      rw [if_neg (by omega), if_pos (by omega)]
    have hb4 := hb
    obtain ⟨i, hi⟩ : ∃ i : Nat, n - 1 = i := ⟨(n - 1).toNat, by omega⟩
    have hic : i < c := by omega
    have hgi := hLg i hic
    rw [hi]
    (repeat' (first | refine AW.seq ?_ | refine AW.scope ?_ | refine AW.label ?_ | refine AW.block ?_ | refine AW.skip ?_ | refine AW.exit ?_ | refine AW.ret ?_))
    (refine AW.regionC fun Q' Kn hQ hK hK' => ?_; (repeat simp (maxSteps := 4000000) (disch := omega) only [go_sem, redN, Nat.reduceAdd, Int.reduceToNat, Int.reducePow]); (repeat' apply And.intro); (try any_goals (first | (refine hK _ _ ?_; clear hK' hQ hK Q' Kn) | (intro q; refine ⟨q, ?_⟩; simp only [redB] at q; omega) | (intro q; refine ⟨q, fun p => ?_⟩; rw [q, p]; rfl) | (simp; done) | omega | (simp only [redL, intsE_length, wdsE_length]; omega) | (simp; omega) | (intros; (repeat' apply And.intro) <;> (first | assumption | omega | (simp; done))))))
    try simp only [Int.toNat_natCast, hgi]
    (repeat' (first | refine AW.seq ?_ | refine AW.scope ?_ | refine AW.label ?_ | refine AW.block ?_ | refine AW.skip ?_ | refine AW.exit ?_ | refine AW.ret ?_))
    (refine ⟨_, _, rfl, by simp, ?_⟩; simp only [aTup, AA.get, List.getD_cons_zero, List.getD_cons_succ, true_and])
    refine ⟨hsub, (a + 7 * (i : Int), true), ?_, ?_⟩
    · first | rfl | (simp only [Int.toNat_natCast, hgi])
    rw [if_neg (by omega), if_neg (by omega)]
theorem t_Nth (G : Nat → AV) (y m n w : Int) (hn0 : -9223372036854775808 ≤ n) (hn1 : n ≤ 9223372036854775807) (st : St) :
    ACalls (Ev G) 22 [.int .i64 y, .int .i64 m, .agg [.int .i64 n, .int .i64 w]] st (fun e st' => st' = st ∧ e = .ret (.tup [.int .i64 (nthF y m n w).1, .bool (nthF y m n w).2])) := by
  have hdb := days_bounds y m 1
  refine ACalls.mono (t_NthW G y m n w (wdA y m w) (wdN y m w) _ _ (wdN_le y m w) (by simp only [wdA]; omega) (by simp only [wdA]; omega) hn0 hn1 rfl (weekdays_hands G y m w) (fun σ => t_weekdays G y m w σ) st) ?_
  rintro e st' ⟨rfl, p, rfl, hp⟩
  have : p = nthF y m n w := hp
  exact ⟨rfl, by rw [this]⟩
end Go.Almanac

/- Recurrence: what the chapter's examples tell, reckoned. -/
namespace Go.Almanac
open Go.RowKit Go.Proofs Go.Abs
def yearUp : Nat → Int → Int → Int
  | 0, y, _ => y
  | f + 1, y, n => if first (y + 1) ≤ n then yearUp f (y + 1) n else y
theorem yearUp_ok : ∀ (f : Nat) (y n : Int), first y ≤ n → n < first (y + f + 1) → first (yearUp f y n) ≤ n ∧ n < first (yearUp f y n + 1) ∧ y ≤ yearUp f y n ∧ yearUp f y n ≤ y + f
  | 0, y, n, h1, h2 => by simp only [yearUp]; rw [show y + ((0 : Nat) : Int) + 1 = y + 1 by omega] at h2; exact ⟨h1, h2, by omega, by omega⟩
  | f + 1, y, n, h1, h2 => by
    simp only [yearUp]
    split
    · rename_i h
      obtain ⟨a, b, c, d⟩ := yearUp_ok f (y + 1) n h (by rw [show y + 1 + (f : Int) + 1 = y + ((f + 1 : Nat) : Int) + 1 by omega]; exact h2)
      exact ⟨a, b, by omega, by omega⟩
    · exact ⟨h1, by omega, by omega, by omega⟩
def monthUp (y r : Int) : Nat → Nat → Nat
  | 0, j => j
  | f + 1, j => if psum y (j + 1) ≤ r then monthUp y r f (j + 1) else j
theorem monthUp_ok (y r : Int) : ∀ (f j : Nat), psum y j ≤ r → r < psum y (j + f + 1) → psum y (monthUp y r f j) ≤ r ∧ r < psum y (monthUp y r f j + 1) ∧ monthUp y r f j ≤ j + f
  | 0, j, h1, h2 => ⟨h1, h2, Nat.le_refl _⟩
  | f + 1, j, h1, h2 => by
    simp only [monthUp]
    split
    · rename_i h
      obtain ⟨a, b, c⟩ := monthUp_ok y r f (j + 1) h (by rw [show j + 1 + f + 1 = j + (f + 1) + 1 by omega]; exact h2)
      exact ⟨a, b, by omega⟩
    · exact ⟨h1, by omega, by omega⟩
def civC (n : Int) : Int × Int × Int × Bool :=
  if -719162 ≤ n ∧ n ≤ 2932896 then
    let y := yearUp 30 ((n + 719162) / 366 + 1) n
    let j := monthUp y (n - first y) 11 0
    (y, (j : Int) + 1, n - first y - psum y j + 1, true)
  else (0, 0, 0, false)
theorem civC_eq (n : Int) : civC n = civ n := by
  unfold civC
  split
  · rename_i hr
    dsimp only
    obtain ⟨y1, y2, y3, y4⟩ := yearUp_ok 30 ((n + 719162) / 366 + 1) n (by simp only [first]; omega) (by simp only [first]; omega)
    generalize yearUp 30 ((n + 719162) / 366 + 1) n = y at *
    have hy1 : 1 ≤ y := by omega
    have hy9 : y ≤ 9999 := by
      simp only [first] at y1; omega
    have hn := first_next hy1
    obtain ⟨j1, j2, j3⟩ := monthUp_ok y (n - first y) 11 0 (by simp only [psum]; omega) (by rw [show (0 + 11 + 1) = 12 from rfl]; omega)
    generalize monthUp y (n - first y) 11 0 = j at *
    rw [psum] at j2
    refine (civ_eq (.inr ⟨rfl, hr.1, hr.2, hy1, hy9, by omega, by omega, by omega, ?_, ?_⟩)).symm
    · rw [mlen_get (by omega) (by omega), show ((j : Int) + 1 - 1).toNat = j from by omega]; omega
    · rw [show ((j : Int) + 1 - 1).toNat = j from by omega]; omega
  · rename_i hr
    exact (civ_eq (.inl ⟨rfl, rfl, rfl, rfl, by omega⟩)).symm
def goodC (R : RuleD) (f m0 d0 d : Int) : Bool :=
  let c := civC d
  if ¬ c.2.2.2 = true then false
  else if R.byMonth ≠ [] ∧ R.byMonth.contains c.2.1 = false then false
  else if R.byMonthDay ≠ [] ∧ countsF R.byMonthDay c.2.2.1 (mlen c.1 c.2.1) = false then false
  else if R.byDay ≠ [] then onF R d c.1 c.2.1 c.2.2.1
  else if R.freq = 2 then decide (wday d = wday f)
  else if R.freq = 1 ∨ R.byMonthDay ≠ [] then true
  else decide (c.2.2.1 = d0) && (decide (R.freq = 3) || decide (R.byMonth ≠ []) || decide (c.2.1 = m0))
theorem goodC_eq : goodC = goodF := by
  funext R f m0 d0 d
  unfold goodC goodF
  rw [civC_eq]
def poolC (R : RuleD) (f m0 d0 s : Int) (n : Nat) : List Int := ((List.range n).map fun i : Nat => s + (i : Int)).filter (goodC R f m0 d0)
theorem poolC_eq : poolC = poolF := by
  funext R f m0 d0 s n
  unfold poolC poolF
  rw [goodC_eq]
def goC (R : RuleD) (start upto f secs y m d0 : Int) : Nat → Int → List Int → List Int × Bool
  | 0, k, l => let p := periodF R f y m k; if fullF R l = true ∨ ¬ p.2.2 = true ∨ upto ≤ p.1 * 86400 ∨ 0 < k ∧ lateF R (p.1 * 86400) = true then (l, true) else (l, false)
  | n + 1, k, l => let p := periodF R f y m k; if fullF R l = true ∨ ¬ p.2.2 = true ∨ upto ≤ p.1 * 86400 ∨ 0 < k ∧ lateF R (p.1 * 86400) = true then (l, true)
    else let q := roundF R start secs (pickF R (poolC R f m d0 p.1 p.2.1.toNat)) l; if q.2 = true then (q.1, true) else goC R start upto f secs y m d0 n (k + 1) q.1
theorem goC_eq (R : RuleD) (start upto f secs y m d0 : Int) : ∀ (n : Nat) (k : Int) (l : List Int), goC R start upto f secs y m d0 n k l = goF R start upto f secs y m d0 n k l
  | 0, k, l => rfl
  | n + 1, k, l => by
    simp only [goC, goF, poolC_eq]
    rw [goC_eq]
def allC (R : RuleD) (start upto : Int) : List Int × Bool := let c := civC (start / 86400); goC R start upto (start / 86400) (start % 86400) c.1 c.2.1 c.2.2.1 4000 0 [start]
theorem allC_eq (R : RuleD) (start upto : Int) : allC R start upto = allF R start upto := by
  simp only [allC, allF, civC_eq, goC_eq]
theorem timesF_of {R : RuleD} {start from_ upto most : Int} {l k : List Int} {ok : Bool} {e : Int} (h1 : inT start = true) (h2 : fitR R = true) (h3 : allC R start upto = (l, ok)) (h4 : (if ok = false ∨ (if most < 0 then 0 else most) < ((cutF from_ upto l).length : Int) then ([], (27 : Int)) else (cutF from_ upto l, 0)) = (k, e)) : timesF R start from_ upto most = (k, e) := by
  rw [timesF, if_neg (by rw [h1]; decide), if_neg (by rw [h2]; decide), ← allC_eq, h3]; exact h4
def exR1 : RuleD := ⟨3, 1, 0, false, 0, false, false, [], [], [], [], 0⟩
def exR2 : RuleD := ⟨3, 1, 3, false, 0, false, false, [], [], [(-1, 4)], [], 0⟩
def exR3 : RuleD := ⟨1, 1, 0, false, 0, false, false, [], [], [], [], 0⟩
theorem ex_f1 : fitR exR1 = true := by decide +kernel
theorem ex_f2 : fitR exR2 = true := by decide +kernel
theorem ex_f3 : fitR exR3 = true := by decide +kernel
theorem ex_t1 : timesF exR1 1738314000 0 1748768400 9 = ([1738314000, 1743411600, 1748682000], 0) := timesF_of (l := [1738314000, 1743411600, 1748682000]) (ok := true) (by decide) ex_f1 (by decide +kernel) (by decide +kernel)
theorem ex_t2 : timesF exR2 1738314000 0 1152921504606846976 9 = ([1738314000, 1740733200, 1743152400], 0) := timesF_of (l := [1738314000, 1740733200, 1743152400]) (ok := true) (by decide) ex_f2 (by decide +kernel) (by decide +kernel)
theorem ex_t3 : timesF exR3 0 0 864000 9 = ([], 27) := timesF_of (l := [0, 86400, 172800, 259200, 345600, 432000, 518400, 604800, 691200, 777600]) (ok := true) (by decide) ex_f3 (by decide +kernel) (by decide +kernel)
theorem ex_n : nthF 2025 2 (-1) 4 = (20147, true) := by decide +kernel
end Go.Almanac

/- Recurrence: the chapter's examples, walked through. -/
/-STEPS-/
namespace Go.Almanac
open Go.RowKit Go.Proofs Go.Abs
theorem t_TimesL (G : Nat → AV) (R : RuleD) (start from_ upto most : Int) (h0 : -9223372036854775808 ≤ start) (h1 : start ≤ 9223372036854775807) (hs0 : -9223372036854775808 ≤ R.secs) (hs1 : R.secs ≤ 9223372036854775807)
    (hlm : R.byMonth.length ≤ 9223372036854775807) (hld : R.byMonthDay.length ≤ 9223372036854775807) (hlw : R.byDay.length ≤ 9223372036854775807) (hls : R.bySetPos.length ≤ 9223372036854775807) (l : List Int) (er : Int) (hT : timesF R start from_ upto most = (l, er)) (st : St) :
    ACalls (Ev G) 5 [.int .i64 start, .agg (encR R), .int .i64 from_, .int .i64 upto, .int .i64 most] st (fun e st' => st' = st ∧ e = .ret (.tup [.tree 1 (intsE l), .int .i64 er])) := by
  refine ACalls.thawL (t_Times G R start from_ upto most h0 h1 hs0 hs1 hlm hld hlw hls st) ?_
  rintro x st1 ⟨v, hH, rfl⟩
  rw [hT] at hH ⊢
  refine ⟨2, st, _, _, rfl, hH.1, ?_, rfl, rfl⟩
  show VLe (.tup [Go.Abs.th st1 st 1 v, Go.Abs.th st1 st 1 (.int .i64 er)]) _
  exact VLe.tup (LLe.cons (hH.th 0) (LLe.cons (VLe.of_eq (th_int _ _ _ _ _)) LLe.nil))
theorem t_Longs (G : Nat → AV) (a b : List Int) (ha : a.length ≤ 9223372036854775807) (hb9 : b.length ≤ 9223372036854775807) (st : St) : ACalls (Ev G) 9 [.tree 1 (intsE a), .tree 1 (intsE b)] st (fun e st' => st' = st ∧ e = .ret (.bool (decide (a = b)))) := by
  refine ACalls.of_body Tryz.func9 rfl ?_
  rw [Tryz.ntmps9]
  simp only [List.length_cons, List.length_nil, Nat.reduceAdd, Nat.reduceSub, List.replicate_succ, List.replicate_zero, List.cons_append, List.nil_append]
  (repeat' (first | refine AW.seq ?_ | refine AW.scope ?_ | refine AW.label ?_ | refine AW.block ?_ | refine AW.skip ?_ | refine AW.exit ?_ | refine AW.ret ?_))
  (refine AW.regionC fun Q' Kn hQ hK hK' => ?_; (repeat simp (maxSteps := 4000000) (disch := omega) only [go_sem, redN, Nat.reduceAdd, Int.reduceToNat, Int.reducePow]); (repeat' apply And.intro); (try any_goals (first | (refine hK _ _ ?_; clear hK' hQ hK Q' Kn) | (intro q; refine ⟨q, ?_⟩; simp only [redB] at q; omega) | (intro q; refine ⟨q, fun p => ?_⟩; rw [q, p]; rfl) | (simp; done) | omega | (simp only [redL, intsE_length, wdsE_length]; omega) | (simp; omega) | (intros; (repeat' apply And.intro) <;> (first | assumption | omega | (simp; done))))))
  (repeat' (first | refine AW.seq ?_ | refine AW.scope ?_ | refine AW.label ?_ | refine AW.block ?_ | refine AW.skip ?_ | refine AW.exit ?_ | refine AW.ret ?_))
  (refine AW.regionC fun Q' Kn hQ hK hK' => ?_; (repeat simp (maxSteps := 4000000) (disch := omega) only [go_sem, redN, Nat.reduceAdd, Int.reduceToNat, Int.reducePow]); (repeat' apply And.intro); (try any_goals (first | (refine hK _ _ ?_; clear hK' hQ hK Q' Kn) | (intro q; refine ⟨q, ?_⟩; simp only [redB] at q; omega) | (intro q; refine ⟨q, fun p => ?_⟩; rw [q, p]; rfl) | (simp; done) | omega | (simp only [redL, intsE_length, wdsE_length]; omega) | (simp; omega) | (intros; (repeat' apply And.intro) <;> (first | assumption | omega | (simp; done))))))
  (repeat' (first | refine AW.seq ?_ | refine AW.scope ?_ | refine AW.label ?_ | refine AW.block ?_ | refine AW.skip ?_ | refine AW.exit ?_ | refine AW.ret ?_))
  (refine AW.cond (by simp (maxSteps := 4000000) (disch := omega) only [go_sem, redN, Nat.reduceAdd, Int.reduceToNat, Int.reducePow]; rfl) (fun hb => ?_) (fun hb => ?_) <;> (try simp only [redB] at hb))
  · (repeat' (first | refine AW.seq ?_ | refine AW.scope ?_ | refine AW.label ?_ | refine AW.block ?_ | refine AW.skip ?_ | refine AW.exit ?_ | refine AW.ret ?_))
    (refine AW.regionC fun Q' Kn hQ hK hK' => ?_; (repeat simp (maxSteps := 4000000) (disch := omega) only [go_sem, redN, Nat.reduceAdd, Int.reduceToNat, Int.reducePow]); (repeat' apply And.intro); (try any_goals (first | (refine hK _ _ ?_; clear hK' hQ hK Q' Kn) | (intro q; refine ⟨q, ?_⟩; simp only [redB] at q; omega) | (intro q; refine ⟨q, fun p => ?_⟩; rw [q, p]; rfl) | (simp; done) | omega | (simp only [redL, intsE_length, wdsE_length]; omega) | (simp; omega) | (intros; (repeat' apply And.intro) <;> (first | assumption | omega | (simp; done))))))
    (repeat' (first | refine AW.seq ?_ | refine AW.scope ?_ | refine AW.label ?_ | refine AW.block ?_ | refine AW.skip ?_ | refine AW.exit ?_ | refine AW.ret ?_))
    (refine ⟨_, _, rfl, by simp, ?_⟩; simp only [aTup, AA.get, List.getD_cons_zero, List.getD_cons_succ, true_and])
    rw [decide_eq_false]
    intro h; rw [h] at hb; exact hb rfl
  have hlen : a.length = b.length := by omega
  (repeat' (first | refine AW.seq ?_ | refine AW.scope ?_ | refine AW.label ?_ | refine AW.block ?_ | refine AW.skip ?_ | refine AW.exit ?_ | refine AW.ret ?_))
  (refine AW.regionC fun Q' Kn hQ hK hK' => ?_; (repeat simp (maxSteps := 4000000) (disch := omega) only [go_sem, redN, Nat.reduceAdd, Int.reduceToNat, Int.reducePow]); (repeat' apply And.intro); (try any_goals (first | (refine hK _ _ ?_; clear hK' hQ hK Q' Kn) | (intro q; refine ⟨q, ?_⟩; simp only [redB] at q; omega) | (intro q; refine ⟨q, fun p => ?_⟩; rw [q, p]; rfl) | (simp; done) | omega | (simp only [redL, intsE_length, wdsE_length]; omega) | (simp; omega) | (intros; (repeat' apply And.intro) <;> (first | assumption | omega | (simp; done))))))
  (repeat' (first | refine AW.seq ?_ | refine AW.scope ?_ | refine AW.label ?_ | refine AW.block ?_ | refine AW.skip ?_ | refine AW.exit ?_ | refine AW.ret ?_))
  refine AW.loopF (fun k : Nat => [.tree 1 (intsE a), .tree 1 (intsE b), .junk, .junk, .junk, .int .i64 k, .junk, .junk, .junk, .junk, .junk, .junk, .junk, .junk, .junk, .junk, .junk, .junk, .junk, .junk, .junk, .junk, .junk, .junk, .junk, .junk]) (fun _ => st) (fun k => k ≤ a.length ∧ a.take k = b.take k) (fun k => a.length - k) 0 ?_ rfl ?_ ?_
  · (repeat (first | exact Weak.nil | refine Weak.junk _ ?_ | refine Weak.same _ ?_ | refine Weak.eqv (by (congr 1; first | omega | (simp; done) | exact w_i64 (by omega) (by omega))) ?_))
  · simp
  rintro k ⟨h1, h2⟩
  (repeat' (first | refine AW.seq ?_ | refine AW.scope ?_ | refine AW.label ?_ | refine AW.block ?_ | refine AW.skip ?_ | refine AW.exit ?_ | refine AW.ret ?_))
  (refine AW.regionC fun Q' Kn hQ hK hK' => ?_; (repeat simp (maxSteps := 4000000) (disch := omega) only [go_sem, redN, Nat.reduceAdd, Int.reduceToNat, Int.reducePow]); (repeat' apply And.intro); (try any_goals (first | (refine hK _ _ ?_; clear hK' hQ hK Q' Kn) | (intro q; refine ⟨q, ?_⟩; simp only [redB] at q; omega) | (intro q; refine ⟨q, fun p => ?_⟩; rw [q, p]; rfl) | (simp; done) | omega | (simp only [redL, intsE_length, wdsE_length]; omega) | (simp; omega) | (intros; (repeat' apply And.intro) <;> (first | assumption | omega | (simp; done))))))
  (repeat' (first | refine AW.seq ?_ | refine AW.scope ?_ | refine AW.label ?_ | refine AW.block ?_ | refine AW.skip ?_ | refine AW.exit ?_ | refine AW.ret ?_))
  (refine AW.cond (by simp (maxSteps := 4000000) (disch := omega) only [go_sem, redN, Nat.reduceAdd, Int.reduceToNat, Int.reducePow]; rfl) (fun hb => ?_) (fun hb => ?_) <;> (try simp only [redB] at hb))
  · have hk : k < a.length := by omega
    have hk2 : k < b.length := by omega
    have e1 : a.getD k 0 = a[k] := by simp [List.getD, List.getElem?_eq_getElem hk]
    have e2 : b.getD k 0 = b[k] := by simp [List.getD, List.getElem?_eq_getElem hk2]
    (repeat' (first | refine AW.seq ?_ | refine AW.scope ?_ | refine AW.label ?_ | refine AW.block ?_ | refine AW.skip ?_ | refine AW.exit ?_ | refine AW.ret ?_))
    refine AW.drawn (List.range 9) (by decide +kernel) fun Q' Kn hQ hK hK' => ?_
    refine FxC_ok _ _ _ ?_; (repeat simp (maxSteps := 4000000) (disch := omega) only [go_sem, redN, Nat.reduceAdd, Int.reduceToNat, Int.reducePow]); (repeat' apply And.intro); (try any_goals (first | (refine hK _ _ ?_; clear hK' hQ hK Q' Kn) | (intro q; refine ⟨q, ?_⟩; simp only [redB] at q; omega) | (intro q; refine ⟨q, fun p => ?_⟩; rw [q, p]; rfl) | (simp; done) | omega | (simp only [redL, intsE_length, wdsE_length]; omega) | (simp; omega) | (intros; (repeat' apply And.intro) <;> (first | assumption | omega | (simp; done)))))
    (repeat' (first | refine AW.seq ?_ | refine AW.scope ?_ | refine AW.label ?_ | refine AW.block ?_ | refine AW.skip ?_ | refine AW.exit ?_ | refine AW.ret ?_))
    (refine AW.cond (by simp (maxSteps := 4000000) (disch := omega) only [go_sem, redN, Nat.reduceAdd, Int.reduceToNat, Int.reducePow]; rfl) (fun hb => ?_) (fun hb => ?_) <;> (try simp only [redB] at hb))
    · (repeat' (first | refine AW.seq ?_ | refine AW.scope ?_ | refine AW.label ?_ | refine AW.block ?_ | refine AW.skip ?_ | refine AW.exit ?_ | refine AW.ret ?_))
      (refine AW.regionC fun Q' Kn hQ hK hK' => ?_; (repeat simp (maxSteps := 4000000) (disch := omega) only [go_sem, redN, Nat.reduceAdd, Int.reduceToNat, Int.reducePow]); (repeat' apply And.intro); (try any_goals (first | (refine hK _ _ ?_; clear hK' hQ hK Q' Kn) | (intro q; refine ⟨q, ?_⟩; simp only [redB] at q; omega) | (intro q; refine ⟨q, fun p => ?_⟩; rw [q, p]; rfl) | (simp; done) | omega | (simp only [redL, intsE_length, wdsE_length]; omega) | (simp; omega) | (intros; (repeat' apply And.intro) <;> (first | assumption | omega | (simp; done))))))
      (repeat' (first | refine AW.seq ?_ | refine AW.scope ?_ | refine AW.label ?_ | refine AW.block ?_ | refine AW.skip ?_ | refine AW.exit ?_ | refine AW.ret ?_))
      (refine ⟨_, _, rfl, by simp, ?_⟩; simp only [aTup, AA.get, List.getD_cons_zero, List.getD_cons_succ, true_and])
      rw [decide_eq_false]
      intro h; subst h
      exact hb rfl
    · (repeat' (first | refine AW.seq ?_ | refine AW.scope ?_ | refine AW.label ?_ | refine AW.block ?_ | refine AW.skip ?_ | refine AW.exit ?_ | refine AW.ret ?_))
      (refine AW.regionC fun Q' Kn hQ hK hK' => ?_; (repeat simp (maxSteps := 4000000) (disch := omega) only [go_sem, redN, Nat.reduceAdd, Int.reduceToNat, Int.reducePow]); (repeat' apply And.intro); (try any_goals (first | (refine hK _ _ ?_; clear hK' hQ hK Q' Kn) | (intro q; refine ⟨q, ?_⟩; simp only [redB] at q; omega) | (intro q; refine ⟨q, fun p => ?_⟩; rw [q, p]; rfl) | (simp; done) | omega | (simp only [redL, intsE_length, wdsE_length]; omega) | (simp; omega) | (intros; (repeat' apply And.intro) <;> (first | assumption | omega | (simp; done))))))
      refine ⟨k + 1, ⟨by omega, ?_⟩, by omega, ?_, rfl, rfl⟩
      · rw [List.take_succ_eq_append_getElem hk, List.take_succ_eq_append_getElem hk2, h2, ← e1, ← e2]
        rw [show a.getD k 0 = b.getD k 0 by simpa using hb]
      (repeat (first | exact Weak.nil | refine Weak.junk _ ?_ | refine Weak.same _ ?_ | refine Weak.eqv (by (congr 1; first | omega | (simp; done) | exact w_i64 (by omega) (by omega))) ?_))
  · (repeat' (first | refine AW.seq ?_ | refine AW.scope ?_ | refine AW.label ?_ | refine AW.block ?_ | refine AW.skip ?_ | refine AW.exit ?_ | refine AW.ret ?_))
    (refine AW.regionC fun Q' Kn hQ hK hK' => ?_; (repeat simp (maxSteps := 4000000) (disch := omega) only [go_sem, redN, Nat.reduceAdd, Int.reduceToNat, Int.reducePow]); (repeat' apply And.intro); (try any_goals (first | (refine hK _ _ ?_; clear hK' hQ hK Q' Kn) | (intro q; refine ⟨q, ?_⟩; simp only [redB] at q; omega) | (intro q; refine ⟨q, fun p => ?_⟩; rw [q, p]; rfl) | (simp; done) | omega | (simp only [redL, intsE_length, wdsE_length]; omega) | (simp; omega) | (intros; (repeat' apply And.intro) <;> (first | assumption | omega | (simp; done))))))
    (repeat' (first | refine AW.seq ?_ | refine AW.scope ?_ | refine AW.label ?_ | refine AW.block ?_ | refine AW.skip ?_ | refine AW.exit ?_ | refine AW.ret ?_))
    (refine ⟨_, _, rfl, by simp, ?_⟩; simp only [aTup, AA.get, List.getD_cons_zero, List.getD_cons_succ, true_and])
    have : k = a.length := by omega
    subst this
    rw [List.take_length, hlen, List.take_length] at h2
    rw [decide_eq_true h2]
def t09 : List UInt8 := [84, 48, 57, 48, 48, 48, 48]
theorem t_awake1 (G : Nat → AV) (s : List UInt8) (hs : s.length ≤ 1000) (n : Int) (hn : readStampR (s ++ t09) = (n, 0)) (st : St) : ACalls (Ev G) 20 [.str s] st (fun e st' => st' = st ∧ e = .ret (.int .i64 n)) := by
  refine ACalls.of_body Tryz.func20 rfl ?_
  rw [Tryz.ntmps20]
  simp only [List.length_cons, List.length_nil, Nat.reduceAdd, Nat.reduceSub, List.replicate_succ, List.replicate_zero, List.cons_append, List.nil_append]
  (repeat' (first | refine AW.seq ?_ | refine AW.scope ?_ | refine AW.label ?_ | refine AW.block ?_ | refine AW.skip ?_ | refine AW.exit ?_ | refine AW.ret ?_))
  (refine AW.regionC fun Q' Kn hQ hK hK' => ?_; (repeat simp (maxSteps := 4000000) (disch := omega) only [go_sem, redN, Nat.reduceAdd, Int.reduceToNat, Int.reducePow]); (repeat' apply And.intro); (try any_goals (first | (refine hK _ _ ?_; clear hK' hQ hK Q' Kn) | (intro q; refine ⟨q, ?_⟩; simp only [redB] at q; omega) | (intro q; refine ⟨q, fun p => ?_⟩; rw [q, p]; rfl) | (simp; done) | omega | (simp only [redL, intsE_length, wdsE_length]; omega) | (simp; omega) | (intros; (repeat' apply And.intro) <;> (first | assumption | omega | (simp; done))))))
  (repeat' (first | refine AW.seq ?_ | refine AW.scope ?_ | refine AW.label ?_ | refine AW.block ?_ | refine AW.skip ?_ | refine AW.exit ?_ | refine AW.ret ?_))
  (refine AW.regionC fun Q' Kn hQ hK hK' => ?_; (repeat simp (maxSteps := 4000000) (disch := omega) only [go_sem, redN, Nat.reduceAdd, Int.reduceToNat, Int.reducePow]); (repeat' apply And.intro); (try any_goals (first | (refine hK _ _ ?_; clear hK' hQ hK Q' Kn) | (intro q; refine ⟨q, ?_⟩; simp only [redB] at q; omega) | (intro q; refine ⟨q, fun p => ?_⟩; rw [q, p]; rfl) | (simp; done) | omega | (simp only [redL, intsE_length, wdsE_length]; omega) | (simp; omega) | (intros; (repeat' apply And.intro) <;> (first | assumption | omega | (simp; done))))))
  refine AOp.call rfl (by simp only [go_sem]; rfl) (by simp [go_sem]) rfl (ACalls.mono (by simp only [go_sem]; exact t_ReadStamp G _ _) ?_)
  rintro e σ7 ⟨h7, rfl⟩; subst σ7
  (refine AOpsC_ok hK' _ _ _ ?_; (repeat simp (maxSteps := 4000000) (disch := omega) only [go_sem, redN, Nat.reduceAdd, Int.reduceToNat, Int.reducePow]); (repeat' apply And.intro); (try any_goals (first | (refine hK _ _ ?_; clear hK' hQ hK Q' Kn) | (intro q; refine ⟨q, ?_⟩; simp only [redB] at q; omega) | (intro q; refine ⟨q, fun p => ?_⟩; rw [q, p]; rfl) | (simp; done) | omega | (simp only [redL, intsE_length, wdsE_length]; omega) | (simp; omega) | (intros; (repeat' apply And.intro) <;> (first | assumption | omega | (simp; done))))))
  rw [show readStamp (s ++ [84, 48, 57, 48, 48, 48, 48]) = (n, 0) from (readStamp_eq _).symm.trans hn]
  (repeat' (first | refine AW.seq ?_ | refine AW.scope ?_ | refine AW.label ?_ | refine AW.block ?_ | refine AW.skip ?_ | refine AW.exit ?_ | refine AW.ret ?_))
  (refine AW.regionC fun Q' Kn hQ hK hK' => ?_; (repeat simp (maxSteps := 4000000) (disch := omega) only [go_sem, redN, Nat.reduceAdd, Int.reduceToNat, Int.reducePow]); (repeat' apply And.intro); (try any_goals (first | (refine hK _ _ ?_; clear hK' hQ hK Q' Kn) | (intro q; refine ⟨q, ?_⟩; simp only [redB] at q; omega) | (intro q; refine ⟨q, fun p => ?_⟩; rw [q, p]; rfl) | (simp; done) | omega | (simp only [redL, intsE_length, wdsE_length]; omega) | (simp; omega) | (intros; (repeat' apply And.intro) <;> (first | assumption | omega | (simp; done))))))
  (repeat' (first | refine AW.seq ?_ | refine AW.scope ?_ | refine AW.label ?_ | refine AW.block ?_ | refine AW.skip ?_ | refine AW.exit ?_ | refine AW.ret ?_))
  (refine ⟨_, _, rfl, by simp, ?_⟩; simp only [aTup, AA.get, List.getD_cons_zero, List.getD_cons_succ, true_and])
def d0131 : List UInt8 := [50, 48, 50, 53, 48, 49, 51, 49]
def d0601 : List UInt8 := [50, 48, 50, 53, 48, 54, 48, 49]
def d0331 : List UInt8 := [50, 48, 50, 53, 48, 51, 51, 49]
def d0531 : List UInt8 := [50, 48, 50, 53, 48, 53, 51, 49]
def d0228 : List UInt8 := [50, 48, 50, 53, 48, 50, 50, 56]
def d0328 : List UInt8 := [50, 48, 50, 53, 48, 51, 50, 56]
theorem ex_d0131 : readStampR (d0131 ++ t09) = (1738314000, 0) := by decide +kernel
theorem ex_d0601 : readStampR (d0601 ++ t09) = (1748768400, 0) := by decide +kernel
theorem ex_d0331 : readStampR (d0331 ++ t09) = (1743411600, 0) := by decide +kernel
theorem ex_d0531 : readStampR (d0531 ++ t09) = (1748682000, 0) := by decide +kernel
theorem ex_d0228 : readStampR (d0228 ++ t09) = (1740733200, 0) := by decide +kernel
theorem ex_d0328 : readStampR (d0328 ++ t09) = (1743152400, 0) := by decide +kernel
theorem t_TimesN (G : Nat → AV) (fr co start from_ upto most : Int) (h0 : -9223372036854775808 ≤ start) (h1 : start ≤ 9223372036854775807) (l : List Int) (er : Int) (hT : timesF ⟨fr, 1, co, false, 0, false, false, [], [], [], [], 0⟩ start from_ upto most = (l, er)) (st : St) :
    ACalls (Ev G) 5 [.int .i64 start, .agg [.int .i64 fr, .int .i64 1, .int .i64 co, .bool false, .int .i64 0, .bool false, .bool false, .nils, .nils, .nils, .nils, .int .i64 0], .int .i64 from_, .int .i64 upto, .int .i64 most] st (fun e st' => st' = st ∧ e = .ret (.tup [.tree 1 (intsE l), .int .i64 er])) := by
  refine ACalls.argsLe (args' := [.int .i64 start, .agg (encR ⟨fr, 1, co, false, 0, false, false, [], [], [], [], 0⟩), .int .i64 from_, .int .i64 upto, .int .i64 most]) ?_ (t_TimesL G _ start from_ upto most h0 h1 (by dsimp only; omega) (by dsimp only; omega) (by simp) (by simp) (by simp) (by simp) l er hT st)
  refine LLe.cons (VLe.refl _) (LLe.cons (VLe.agg ?_) (LLe.refl _))
  repeat (first | exact LLe.nil | refine LLe.cons (VLe.refl _) ?_ | refine LLe.cons (VLe.nil _) ?_)
theorem t_TimesN2 (G : Nat → AV) (start from_ upto most : Int) (h0 : -9223372036854775808 ≤ start) (h1 : start ≤ 9223372036854775807) (l : List Int) (er : Int) (hT : timesF exR2 start from_ upto most = (l, er)) (st : St) :
    ACalls (Ev G) 5 [.int .i64 start, .agg [.int .i64 3, .int .i64 1, .int .i64 3, .bool false, .int .i64 0, .bool false, .bool false, .nils, .nils, .tree 2 (wdsE [(-1, 4)]), .nils, .int .i64 0], .int .i64 from_, .int .i64 upto, .int .i64 most] st (fun e st' => st' = st ∧ e = .ret (.tup [.tree 1 (intsE l), .int .i64 er])) := by
  refine ACalls.argsLe (args' := [.int .i64 start, .agg (encR exR2), .int .i64 from_, .int .i64 upto, .int .i64 most]) ?_ (t_TimesL G _ start from_ upto most h0 h1 (by simp only [exR2]; omega) (by simp only [exR2]; omega) (by simp [exR2]) (by simp [exR2]) (by simp [exR2]) (by simp [exR2]) l er hT st)
  refine LLe.cons (VLe.refl _) (LLe.cons (VLe.agg ?_) (LLe.refl _))
  repeat (first | exact LLe.nil | refine LLe.cons (VLe.refl _) ?_ | refine LLe.cons (VLe.nil _) ?_)
set_option maxHeartbeats 8000000 in
theorem l_awake (G : Nat → AV) (st : St) : ACalls (Ev G) 10 [] st (fun e st' => st' = st ∧ e = .ret (.bool true)) := by
  refine ACalls.of_body Tryz.func10 rfl ?_
  rw [Tryz.ntmps10]
  simp only [List.length_cons, List.length_nil, Nat.reduceAdd, Nat.reduceSub, List.replicate_succ, List.replicate_zero, List.cons_append, List.nil_append]
  (repeat' (first | refine AW.seq ?_ | refine AW.scope ?_ | refine AW.label ?_ | refine AW.block ?_ | refine AW.skip ?_ | refine AW.exit ?_ | refine AW.ret ?_))
  (refine AW.regionC fun Q' Kn hQ hK hK' => ?_; (repeat simp (maxSteps := 4000000) (disch := omega) only [go_sem, redN, Nat.reduceAdd, Int.reduceToNat, Int.reducePow]); (repeat' apply And.intro); (try any_goals (first | (refine hK _ _ ?_; clear hK' hQ hK Q' Kn) | (intro q; refine ⟨q, ?_⟩; simp only [redB] at q; omega) | (intro q; refine ⟨q, fun p => ?_⟩; rw [q, p]; rfl) | (simp; done) | omega | (simp only [redL, intsE_length, wdsE_length]; omega) | (simp; omega) | (intros; (repeat' apply And.intro) <;> (first | assumption | omega | (simp; done))))))
  (repeat' (first | refine AW.seq ?_ | refine AW.scope ?_ | refine AW.label ?_ | refine AW.block ?_ | refine AW.skip ?_ | refine AW.exit ?_ | refine AW.ret ?_))
  (refine AW.regionC fun Q' Kn hQ hK hK' => ?_; (repeat simp (maxSteps := 4000000) (disch := omega) only [go_sem, redN, Nat.reduceAdd, Int.reduceToNat, Int.reducePow]); (repeat' apply And.intro); (try any_goals (first | (refine hK _ _ ?_; clear hK' hQ hK Q' Kn) | (intro q; refine ⟨q, ?_⟩; simp only [redB] at q; omega) | (intro q; refine ⟨q, fun p => ?_⟩; rw [q, p]; rfl) | (simp; done) | omega | (simp only [redL, intsE_length, wdsE_length]; omega) | (simp; omega) | (intros; (repeat' apply And.intro) <;> (first | assumption | omega | (simp; done))))))
  (repeat' (first | refine AW.seq ?_ | refine AW.scope ?_ | refine AW.label ?_ | refine AW.block ?_ | refine AW.skip ?_ | refine AW.exit ?_ | refine AW.ret ?_))
  (refine AW.regionC fun Q' Kn hQ hK hK' => ?_; (repeat simp (maxSteps := 4000000) (disch := omega) only [go_sem, redN, Nat.reduceAdd, Int.reduceToNat, Int.reducePow]); (repeat' apply And.intro); (try any_goals (first | (refine hK _ _ ?_; clear hK' hQ hK Q' Kn) | (intro q; refine ⟨q, ?_⟩; simp only [redB] at q; omega) | (intro q; refine ⟨q, fun p => ?_⟩; rw [q, p]; rfl) | (simp; done) | omega | (simp only [redL, intsE_length, wdsE_length]; omega) | (simp; omega) | (intros; (repeat' apply And.intro) <;> (first | assumption | omega | (simp; done))))))
  refine AOp.call rfl (by simp only [go_sem]; rfl) (by simp [go_sem]) rfl (ACalls.mono (by simp only [go_sem]; exact t_awake1 G d0131 (by decide) _ ex_d0131 _) ?_)
  rintro e σ7 ⟨h7, rfl⟩; subst σ7
  (refine AOpsC_ok hK' _ _ _ ?_; (repeat simp (maxSteps := 4000000) (disch := omega) only [go_sem, redN, Nat.reduceAdd, Int.reduceToNat, Int.reducePow]); (repeat' apply And.intro); (try any_goals (first | (refine hK _ _ ?_; clear hK' hQ hK Q' Kn) | (intro q; refine ⟨q, ?_⟩; simp only [redB] at q; omega) | (intro q; refine ⟨q, fun p => ?_⟩; rw [q, p]; rfl) | (simp; done) | omega | (simp only [redL, intsE_length, wdsE_length]; omega) | (simp; omega) | (intros; (repeat' apply And.intro) <;> (first | assumption | omega | (simp; done))))))
  refine AOp.call rfl (by simp only [go_sem]; rfl) (by simp [go_sem]) rfl (ACalls.mono (by simp only [go_sem]; exact t_awake1 G d0601 (by decide) _ ex_d0601 _) ?_)
  rintro e σ7 ⟨h7, rfl⟩; subst σ7
  (refine AOpsC_ok hK' _ _ _ ?_; (repeat simp (maxSteps := 4000000) (disch := omega) only [go_sem, redN, Nat.reduceAdd, Int.reduceToNat, Int.reducePow]); (repeat' apply And.intro); (try any_goals (first | (refine hK _ _ ?_; clear hK' hQ hK Q' Kn) | (intro q; refine ⟨q, ?_⟩; simp only [redB] at q; omega) | (intro q; refine ⟨q, fun p => ?_⟩; rw [q, p]; rfl) | (simp; done) | omega | (simp only [redL, intsE_length, wdsE_length]; omega) | (simp; omega) | (intros; (repeat' apply And.intro) <;> (first | assumption | omega | (simp; done))))))
  refine AOp.call rfl (by simp only [go_sem]; rfl) (by simp [go_sem]) rfl (ACalls.mono (by simp only [go_sem]; exact t_TimesN G _ _ _ _ _ _ (by omega) (by omega) _ _ ex_t1 _) ?_)
  rintro e σ7 ⟨h7, rfl⟩; subst σ7
  (refine AOpsC_ok hK' _ _ _ ?_; (repeat simp (maxSteps := 4000000) (disch := omega) only [go_sem, redN, Nat.reduceAdd, Int.reduceToNat, Int.reducePow]); (repeat' apply And.intro); (try any_goals (first | (refine hK _ _ ?_; clear hK' hQ hK Q' Kn) | (intro q; refine ⟨q, ?_⟩; simp only [redB] at q; omega) | (intro q; refine ⟨q, fun p => ?_⟩; rw [q, p]; rfl) | (simp; done) | omega | (simp only [redL, intsE_length, wdsE_length]; omega) | (simp; omega) | (intros; (repeat' apply And.intro) <;> (first | assumption | omega | (simp; done))))))
  (repeat' (first | refine AW.seq ?_ | refine AW.scope ?_ | refine AW.label ?_ | refine AW.block ?_ | refine AW.skip ?_ | refine AW.exit ?_ | refine AW.ret ?_))
  (refine AW.regionC fun Q' Kn hQ hK hK' => ?_; (repeat simp (maxSteps := 4000000) (disch := omega) only [go_sem, redN, Nat.reduceAdd, Int.reduceToNat, Int.reducePow]); (repeat' apply And.intro); (try any_goals (first | (refine hK _ _ ?_; clear hK' hQ hK Q' Kn) | (intro q; refine ⟨q, ?_⟩; simp only [redB] at q; omega) | (intro q; refine ⟨q, fun p => ?_⟩; rw [q, p]; rfl) | (simp; done) | omega | (simp only [redL, intsE_length, wdsE_length]; omega) | (simp; omega) | (intros; (repeat' apply And.intro) <;> (first | assumption | omega | (simp; done))))))
  refine AOp.call rfl (by simp only [go_sem]; rfl) (by simp [go_sem]) rfl (ACalls.mono (by simp only [go_sem]; exact t_awake1 G d0131 (by decide) _ ex_d0131 _) ?_)
  rintro e σ7 ⟨h7, rfl⟩; subst σ7
  (refine AOpsC_ok hK' _ _ _ ?_; (repeat simp (maxSteps := 4000000) (disch := omega) only [go_sem, redN, Nat.reduceAdd, Int.reduceToNat, Int.reducePow]); (repeat' apply And.intro); (try any_goals (first | (refine hK _ _ ?_; clear hK' hQ hK Q' Kn) | (intro q; refine ⟨q, ?_⟩; simp only [redB] at q; omega) | (intro q; refine ⟨q, fun p => ?_⟩; rw [q, p]; rfl) | (simp; done) | omega | (simp only [redL, intsE_length, wdsE_length]; omega) | (simp; omega) | (intros; (repeat' apply And.intro) <;> (first | assumption | omega | (simp; done))))))
  refine AOp.buildSliceF (e := 53) (sz := 2) (es := wdsE [(-1, 4)]) rfl rfl rfl rfl (by simp [partsC, go_sem]) (by simp [aParts, go_sem, wdsE]) (by simp [wdsE]) rfl (by decide) (by decide) ?_
  (refine AOpsC_ok hK' _ _ _ ?_; (repeat simp (maxSteps := 4000000) (disch := omega) only [go_sem, redN, Nat.reduceAdd, Int.reduceToNat, Int.reducePow]); (repeat' apply And.intro); (try any_goals (first | (refine hK _ _ ?_; clear hK' hQ hK Q' Kn) | (intro q; refine ⟨q, ?_⟩; simp only [redB] at q; omega) | (intro q; refine ⟨q, fun p => ?_⟩; rw [q, p]; rfl) | (simp; done) | omega | (simp only [redL, intsE_length, wdsE_length]; omega) | (simp; omega) | (intros; (repeat' apply And.intro) <;> (first | assumption | omega | (simp; done))))))
  refine AOp.call rfl (by simp only [go_sem]; rfl) (by simp [go_sem]) rfl (ACalls.mono (by simp only [go_sem]; exact t_TimesN2 G _ _ _ _ (by omega) (by omega) _ _ ex_t2 _) ?_)
  rintro e σ7 ⟨h7, rfl⟩; subst σ7
  (refine AOpsC_ok hK' _ _ _ ?_; (repeat simp (maxSteps := 4000000) (disch := omega) only [go_sem, redN, Nat.reduceAdd, Int.reduceToNat, Int.reducePow]); (repeat' apply And.intro); (try any_goals (first | (refine hK _ _ ?_; clear hK' hQ hK Q' Kn) | (intro q; refine ⟨q, ?_⟩; simp only [redB] at q; omega) | (intro q; refine ⟨q, fun p => ?_⟩; rw [q, p]; rfl) | (simp; done) | omega | (simp only [redL, intsE_length, wdsE_length]; omega) | (simp; omega) | (intros; (repeat' apply And.intro) <;> (first | assumption | omega | (simp; done))))))
  (repeat' (first | refine AW.seq ?_ | refine AW.scope ?_ | refine AW.label ?_ | refine AW.block ?_ | refine AW.skip ?_ | refine AW.exit ?_ | refine AW.ret ?_))
  (refine AW.regionC fun Q' Kn hQ hK hK' => ?_; (repeat simp (maxSteps := 4000000) (disch := omega) only [go_sem, redN, Nat.reduceAdd, Int.reduceToNat, Int.reducePow]); (repeat' apply And.intro); (try any_goals (first | (refine hK _ _ ?_; clear hK' hQ hK Q' Kn) | (intro q; refine ⟨q, ?_⟩; simp only [redB] at q; omega) | (intro q; refine ⟨q, fun p => ?_⟩; rw [q, p]; rfl) | (simp; done) | omega | (simp only [redL, intsE_length, wdsE_length]; omega) | (simp; omega) | (intros; (repeat' apply And.intro) <;> (first | assumption | omega | (simp; done))))))
  refine AOp.call rfl (by simp only [go_sem]; rfl) (by simp [go_sem]) rfl (ACalls.mono (by simp only [go_sem]; exact t_Nth G 2025 2 (-1) 4 (by omega) (by omega) _) ?_)
  rintro e σ7 ⟨h7, rfl⟩; subst σ7
  (refine AOpsC_ok hK' _ _ _ ?_; (repeat simp (maxSteps := 4000000) (disch := omega) only [go_sem, redN, Nat.reduceAdd, Int.reduceToNat, Int.reducePow]); (repeat' apply And.intro); (try any_goals (first | (refine hK _ _ ?_; clear hK' hQ hK Q' Kn) | (intro q; refine ⟨q, ?_⟩; simp only [redB] at q; omega) | (intro q; refine ⟨q, fun p => ?_⟩; rw [q, p]; rfl) | (simp; done) | omega | (simp only [redL, intsE_length, wdsE_length]; omega) | (simp; omega) | (intros; (repeat' apply And.intro) <;> (first | assumption | omega | (simp; done))))))
  rw [ex_n]
  (repeat' (first | refine AW.seq ?_ | refine AW.scope ?_ | refine AW.label ?_ | refine AW.block ?_ | refine AW.skip ?_ | refine AW.exit ?_ | refine AW.ret ?_))
  (refine AW.regionC fun Q' Kn hQ hK hK' => ?_; (repeat simp (maxSteps := 4000000) (disch := omega) only [go_sem, redN, Nat.reduceAdd, Int.reduceToNat, Int.reducePow]); (repeat' apply And.intro); (try any_goals (first | (refine hK _ _ ?_; clear hK' hQ hK Q' Kn) | (intro q; refine ⟨q, ?_⟩; simp only [redB] at q; omega) | (intro q; refine ⟨q, fun p => ?_⟩; rw [q, p]; rfl) | (simp; done) | omega | (simp only [redL, intsE_length, wdsE_length]; omega) | (simp; omega) | (intros; (repeat' apply And.intro) <;> (first | assumption | omega | (simp; done))))))
  refine AOp.call rfl (by simp only [go_sem]; rfl) (by simp [go_sem]) rfl (ACalls.mono (by simp only [go_sem]; exact t_TimesN G _ _ _ _ _ _ (by omega) (by omega) _ _ ex_t3 _) ?_)
  rintro e σ7 ⟨h7, rfl⟩; subst σ7
  (refine AOpsC_ok hK' _ _ _ ?_; (repeat simp (maxSteps := 4000000) (disch := omega) only [go_sem, redN, Nat.reduceAdd, Int.reduceToNat, Int.reducePow]); (repeat' apply And.intro); (try any_goals (first | (refine hK _ _ ?_; clear hK' hQ hK Q' Kn) | (intro q; refine ⟨q, ?_⟩; simp only [redB] at q; omega) | (intro q; refine ⟨q, fun p => ?_⟩; rw [q, p]; rfl) | (simp; done) | omega | (simp only [redL, intsE_length, wdsE_length]; omega) | (simp; omega) | (intros; (repeat' apply And.intro) <;> (first | assumption | omega | (simp; done))))))
  (repeat' (first | refine AW.seq ?_ | refine AW.scope ?_ | refine AW.label ?_ | refine AW.block ?_ | refine AW.skip ?_ | refine AW.exit ?_ | refine AW.ret ?_))
  (refine AW.regionC fun Q' Kn hQ hK hK' => ?_; (repeat simp (maxSteps := 4000000) (disch := omega) only [go_sem, redN, Nat.reduceAdd, Int.reduceToNat, Int.reducePow]); (repeat' apply And.intro); (try any_goals (first | (refine hK _ _ ?_; clear hK' hQ hK Q' Kn) | (intro q; refine ⟨q, ?_⟩; simp only [redB] at q; omega) | (intro q; refine ⟨q, fun p => ?_⟩; rw [q, p]; rfl) | (simp; done) | omega | (simp only [redL, intsE_length, wdsE_length]; omega) | (simp; omega) | (intros; (repeat' apply And.intro) <;> (first | assumption | omega | (simp; done))))))
  refine AOps.guard_call (f := 20) (v := .int .i64 1738314000) rfl rfl rfl rfl rfl (fun _ => (by simp only [go_sem] <;> rfl)) (fun h => by first | (simp [go_sem]; done) | simpa [go_sem] using h) rfl (fun hg => by simp only [go_sem]; exact t_awake1 G d0131 (by decide) _ ex_d0131 _) ?_
  (refine AOpsC_ok hK' _ _ _ ?_; (repeat simp (maxSteps := 4000000) (disch := omega) only [go_sem, redN, Nat.reduceAdd, Int.reduceToNat, Int.reducePow]); (repeat' apply And.intro); (try any_goals (first | (refine hK _ _ ?_; clear hK' hQ hK Q' Kn) | (intro q; refine ⟨q, ?_⟩; simp only [redB] at q; omega) | (intro q; refine ⟨q, fun p => ?_⟩; rw [q, p]; rfl) | (simp; done) | omega | (simp only [redL, intsE_length, wdsE_length]; omega) | (simp; omega) | (intros; (repeat' apply And.intro) <;> (first | assumption | omega | (simp; done))))))
  refine AOps.guard_call (f := 20) (v := .int .i64 1743411600) rfl rfl rfl rfl rfl (fun _ => (by simp only [go_sem] <;> rfl)) (fun h => by first | (simp [go_sem]; done) | simpa [go_sem] using h) rfl (fun hg => by simp only [go_sem]; exact t_awake1 G d0331 (by decide) _ ex_d0331 _) ?_
  (refine AOpsC_ok hK' _ _ _ ?_; (repeat simp (maxSteps := 4000000) (disch := omega) only [go_sem, redN, Nat.reduceAdd, Int.reduceToNat, Int.reducePow]); (repeat' apply And.intro); (try any_goals (first | (refine hK _ _ ?_; clear hK' hQ hK Q' Kn) | (intro q; refine ⟨q, ?_⟩; simp only [redB] at q; omega) | (intro q; refine ⟨q, fun p => ?_⟩; rw [q, p]; rfl) | (simp; done) | omega | (simp only [redL, intsE_length, wdsE_length]; omega) | (simp; omega) | (intros; (repeat' apply And.intro) <;> (first | assumption | omega | (simp; done))))))
  refine AOps.guard_call (f := 20) (v := .int .i64 1748682000) rfl rfl rfl rfl rfl (fun _ => (by simp only [go_sem] <;> rfl)) (fun h => by first | (simp [go_sem]; done) | simpa [go_sem] using h) rfl (fun hg => by simp only [go_sem]; exact t_awake1 G d0531 (by decide) _ ex_d0531 _) ?_
  (refine AOpsC_ok hK' _ _ _ ?_; (repeat simp (maxSteps := 4000000) (disch := omega) only [go_sem, redN, Nat.reduceAdd, Int.reduceToNat, Int.reducePow]); (repeat' apply And.intro); (try any_goals (first | (refine hK _ _ ?_; clear hK' hQ hK Q' Kn) | (intro q; refine ⟨q, ?_⟩; simp only [redB] at q; omega) | (intro q; refine ⟨q, fun p => ?_⟩; rw [q, p]; rfl) | (simp; done) | omega | (simp only [redL, intsE_length, wdsE_length]; omega) | (simp; omega) | (intros; (repeat' apply And.intro) <;> (first | assumption | omega | (simp; done))))))
  refine AOps.guard_buildSliceF (e := 2) (sz := 1) (es := intsE [1738314000, 1743411600, 1748682000]) rfl rfl rfl rfl rfl rfl rfl rfl (fun _ => by simp [partsC, go_sem]) (fun _ => by simp [aParts, go_sem, intsE]) (by simp [intsE]) rfl (by decide) (by decide) ?_
  (refine AOpsC_ok hK' _ _ _ ?_; (repeat simp (maxSteps := 4000000) (disch := omega) only [go_sem, redN, Nat.reduceAdd, Int.reduceToNat, Int.reducePow]); (repeat' apply And.intro); (try any_goals (first | (refine hK _ _ ?_; clear hK' hQ hK Q' Kn) | (intro q; refine ⟨q, ?_⟩; simp only [redB] at q; omega) | (intro q; refine ⟨q, fun p => ?_⟩; rw [q, p]; rfl) | (simp; done) | omega | (simp only [redL, intsE_length, wdsE_length]; omega) | (simp; omega) | (intros; (repeat' apply And.intro) <;> (first | assumption | omega | (simp; done))))))
  refine AOps.guard_call (f := 9) (v := .bool true) rfl rfl rfl rfl rfl (fun _ => (by simp only [go_sem] <;> rfl)) (fun h => by first | (simp [go_sem]; done) | simpa [go_sem] using h) rfl (fun hg => by simp only [go_sem]; exact t_Longs G [1738314000, 1743411600, 1748682000] [1738314000, 1743411600, 1748682000] (by decide) (by decide) _) ?_
  (refine AOpsC_ok hK' _ _ _ ?_; (repeat simp (maxSteps := 4000000) (disch := omega) only [go_sem, redN, Nat.reduceAdd, Int.reduceToNat, Int.reducePow]); (repeat' apply And.intro); (try any_goals (first | (refine hK _ _ ?_; clear hK' hQ hK Q' Kn) | (intro q; refine ⟨q, ?_⟩; simp only [redB] at q; omega) | (intro q; refine ⟨q, fun p => ?_⟩; rw [q, p]; rfl) | (simp; done) | omega | (simp only [redL, intsE_length, wdsE_length]; omega) | (simp; omega) | (intros; (repeat' apply And.intro) <;> (first | assumption | omega | (simp; done))))))
  refine AOps.guard_call (f := 20) (v := .int .i64 1738314000) rfl rfl rfl rfl rfl (fun _ => (by simp only [go_sem] <;> rfl)) (fun h => by first | (simp [go_sem]; done) | simpa [go_sem] using h) rfl (fun hg => by simp only [go_sem]; exact t_awake1 G d0131 (by decide) _ ex_d0131 _) ?_
  (refine AOpsC_ok hK' _ _ _ ?_; (repeat simp (maxSteps := 4000000) (disch := omega) only [go_sem, redN, Nat.reduceAdd, Int.reduceToNat, Int.reducePow]); (repeat' apply And.intro); (try any_goals (first | (refine hK _ _ ?_; clear hK' hQ hK Q' Kn) | (intro q; refine ⟨q, ?_⟩; simp only [redB] at q; omega) | (intro q; refine ⟨q, fun p => ?_⟩; rw [q, p]; rfl) | (simp; done) | omega | (simp only [redL, intsE_length, wdsE_length]; omega) | (simp; omega) | (intros; (repeat' apply And.intro) <;> (first | assumption | omega | (simp; done))))))
  refine AOps.guard_call (f := 20) (v := .int .i64 1740733200) rfl rfl rfl rfl rfl (fun _ => (by simp only [go_sem] <;> rfl)) (fun h => by first | (simp [go_sem]; done) | simpa [go_sem] using h) rfl (fun hg => by simp only [go_sem]; exact t_awake1 G d0228 (by decide) _ ex_d0228 _) ?_
  (refine AOpsC_ok hK' _ _ _ ?_; (repeat simp (maxSteps := 4000000) (disch := omega) only [go_sem, redN, Nat.reduceAdd, Int.reduceToNat, Int.reducePow]); (repeat' apply And.intro); (try any_goals (first | (refine hK _ _ ?_; clear hK' hQ hK Q' Kn) | (intro q; refine ⟨q, ?_⟩; simp only [redB] at q; omega) | (intro q; refine ⟨q, fun p => ?_⟩; rw [q, p]; rfl) | (simp; done) | omega | (simp only [redL, intsE_length, wdsE_length]; omega) | (simp; omega) | (intros; (repeat' apply And.intro) <;> (first | assumption | omega | (simp; done))))))
  refine AOps.guard_call (f := 20) (v := .int .i64 1743152400) rfl rfl rfl rfl rfl (fun _ => (by simp only [go_sem] <;> rfl)) (fun h => by first | (simp [go_sem]; done) | simpa [go_sem] using h) rfl (fun hg => by simp only [go_sem]; exact t_awake1 G d0328 (by decide) _ ex_d0328 _) ?_
  (refine AOpsC_ok hK' _ _ _ ?_; (repeat simp (maxSteps := 4000000) (disch := omega) only [go_sem, redN, Nat.reduceAdd, Int.reduceToNat, Int.reducePow]); (repeat' apply And.intro); (try any_goals (first | (refine hK _ _ ?_; clear hK' hQ hK Q' Kn) | (intro q; refine ⟨q, ?_⟩; simp only [redB] at q; omega) | (intro q; refine ⟨q, fun p => ?_⟩; rw [q, p]; rfl) | (simp; done) | omega | (simp only [redL, intsE_length, wdsE_length]; omega) | (simp; omega) | (intros; (repeat' apply And.intro) <;> (first | assumption | omega | (simp; done))))))
  refine AOps.guard_buildSliceF (e := 2) (sz := 1) (es := intsE [1738314000, 1740733200, 1743152400]) rfl rfl rfl rfl rfl rfl rfl rfl (fun _ => by simp [partsC, go_sem]) (fun _ => by simp [aParts, go_sem, intsE]) (by simp [intsE]) rfl (by decide) (by decide) ?_
  (refine AOpsC_ok hK' _ _ _ ?_; (repeat simp (maxSteps := 4000000) (disch := omega) only [go_sem, redN, Nat.reduceAdd, Int.reduceToNat, Int.reducePow]); (repeat' apply And.intro); (try any_goals (first | (refine hK _ _ ?_; clear hK' hQ hK Q' Kn) | (intro q; refine ⟨q, ?_⟩; simp only [redB] at q; omega) | (intro q; refine ⟨q, fun p => ?_⟩; rw [q, p]; rfl) | (simp; done) | omega | (simp only [redL, intsE_length, wdsE_length]; omega) | (simp; omega) | (intros; (repeat' apply And.intro) <;> (first | assumption | omega | (simp; done))))))
  refine AOps.guard_call (f := 9) (v := .bool true) rfl rfl rfl rfl rfl (fun _ => (by simp only [go_sem] <;> rfl)) (fun h => by first | (simp [go_sem]; done) | simpa [go_sem] using h) rfl (fun hg => by simp only [go_sem]; exact t_Longs G [1738314000, 1740733200, 1743152400] [1738314000, 1740733200, 1743152400] (by decide) (by decide) _) ?_
  (refine AOpsC_ok hK' _ _ _ ?_; (repeat simp (maxSteps := 4000000) (disch := omega) only [go_sem, redN, Nat.reduceAdd, Int.reduceToNat, Int.reducePow]); (repeat' apply And.intro); (try any_goals (first | (refine hK _ _ ?_; clear hK' hQ hK Q' Kn) | (intro q; refine ⟨q, ?_⟩; simp only [redB] at q; omega) | (intro q; refine ⟨q, fun p => ?_⟩; rw [q, p]; rfl) | (simp; done) | omega | (simp only [redL, intsE_length, wdsE_length]; omega) | (simp; omega) | (intros; (repeat' apply And.intro) <;> (first | assumption | omega | (simp; done))))))
  (repeat' (first | refine AW.seq ?_ | refine AW.scope ?_ | refine AW.label ?_ | refine AW.block ?_ | refine AW.skip ?_ | refine AW.exit ?_ | refine AW.ret ?_))
  (refine ⟨_, _, rfl, by simp, ?_⟩; simp only [aTup, AA.get, List.getD_cons_zero, List.getD_cons_succ, true_and])
  rfl
end Go.Almanac
