/- Recurrence: places and an owned slice; closures of the walk over all periods. -/
import Derived.Test.YtbknconfeiojcaaGreatDoorM8
import Derived.Test.YtbknconfeiojcaaGreatDoorM4
set_option linter.unusedSimpArgs false
set_option linter.unusedVariables false
set_option linter.unusedSectionVars false
set_option maxRecDepth 10000
set_option maxHeartbeats 1000000
/- Recurrence: the days of a period, handed out. -/
/-STEPS-/
namespace Go.Almanac
open Go.RowKit Go.Proofs Go.Abs
noncomputable def poolTo (R : RuleD) (f m0 d0 s : Int) (k : Nat) : List Int := ((List.range k).map fun i : Nat => s + (i : Int)).filter (goodF R f m0 d0)
theorem poolTo_succ (R : RuleD) (f m0 d0 s : Int) (k : Nat) : poolTo R f m0 d0 s (k + 1) = poolTo R f m0 d0 s k ++ (if goodF R f m0 d0 (s + k) = true then [s + (k : Int)] else []) := by
  simp only [poolTo, List.range_succ, List.map_append, List.filter_append, List.map_cons, List.map_nil]
  congr 1
  by_cases h : goodF R f m0 d0 (s + k) = true
  · rw [if_pos h, List.filter_cons, if_pos h]; rfl
  · rw [if_neg h, List.filter_cons, if_neg h]; rfl
theorem poolTo_len (R : RuleD) (f m0 d0 s : Int) (k : Nat) : (poolTo R f m0 d0 s k).length ≤ k := by
  unfold poolTo
  exact Nat.le_trans (List.length_filter_le _ _) (by simp)
def okPos (R : RuleD) (l : List Int) (i : Nat) : Bool := decide (R.bySetPos = []) || countsF R.bySetPos ((i : Int) + 1) l.length
def pickTo (R : RuleD) (l : List Int) (k : Nat) : List Int := ((List.range k).filter (okPos R l)).map fun i => l.getD i 0
theorem pickTo_succ (R : RuleD) (l : List Int) (k : Nat) : pickTo R l (k + 1) = pickTo R l k ++ (if okPos R l k = true then [l.getD k 0] else []) := by
  simp only [pickTo, List.range_succ, List.filter_append, List.map_append]
  congr 1
  by_cases h : okPos R l k = true
  · rw [if_pos h, List.filter_cons, if_pos h]; rfl
  · rw [if_neg h, List.filter_cons, if_neg h]; rfl
theorem pickF_eq (R : RuleD) (l : List Int) : pickF R l = pickTo R l l.length := rfl
theorem pickTo_split (R : RuleD) (l : List Int) {k n : Nat} (h : k ≤ n) : ∃ r, pickTo R l n = pickTo R l k ++ r := by
  induction h with
  | refl => exact ⟨[], by simp⟩
  | step h ih =>
    obtain ⟨r, hr⟩ := ih
    exact ⟨r ++ (if okPos R l _ = true then [l.getD _ 0] else []), by rw [pickTo_succ, hr, List.append_assoc]⟩
theorem intsE_snoc (l : List Int) (x : Int) : intsE l ++ [[.int .i64 x]] = intsE (l ++ [x]) := by simp [intsE]
set_option maxHeartbeats 8000000 in
theorem t_days1 (G : Nat → AV) (R : RuleD) (start f secs y0 m0 d0 s : Int) (n l0 : Nat) (hlm : R.byMonth.length ≤ 1000000) (hld : R.byMonthDay.length ≤ 1000000) (hlw : R.byDay.length ≤ 1000000) (hls : R.bySetPos.length ≤ 1000000)
    (hs0 : -100000000 ≤ s) (hs1 : s ≤ 100000000) (hn : n ≤ 1000) (hf0 : -1000000000 ≤ f) (hf1 : f ≤ 1000000000) (J : List Int → St → Prop) (Z : St → Prop) (σ0 : St) (hJ : J [] σ0)
    (take : ∀ pre x rest σ, pickF R (poolF R f m0 d0 s n) = pre ++ x :: rest → J pre σ → YieldsTo (Ev G) l0 [.int .i64 x] σ fun v σ' => ∃ b, v = .bool b ∧ ((b = true ∧ J (pre ++ [x]) σ') ∨ (b = false ∧ Z σ'))) :
    ACalls (Ev G) 57 [.yld l0, .fptr [.int .i64 s, .int .i64 n], .fptr [.fptr (planE R start f secs y0 m0 d0)]] σ0 (fun e st' => e = .ret (.tup []) ∧ (J (pickF R (poolF R f m0 d0 s n)) st' ∨ Z st')) := by
  refine ACalls.of_body Tryz.func57 rfl ?_
  rw [Tryz.ntmps57]
  simp only [List.length_cons, List.length_nil, Nat.reduceAdd, Nat.reduceSub, List.replicate_succ, List.replicate_zero, List.cons_append, List.nil_append]
  (repeat' (first | refine AW.seq ?_ | refine AW.scope ?_ | refine AW.label ?_ | refine AW.block ?_ | refine AW.skip ?_ | refine AW.exit ?_ | refine AW.ret ?_))
  (refine AW.regionC fun Q' Kn hQ hK hK' => ?_; (repeat simp (maxSteps := 4000000) (disch := omega) only [go_sem, redN, Nat.reduceAdd, Int.reduceToNat, Int.reducePow]); (repeat' apply And.intro); (try any_goals (first | (refine hK _ _ ?_; clear hK' hQ hK Q' Kn) | (intro q; refine ⟨q, ?_⟩; simp only [redB] at q; omega) | (intro q; refine ⟨q, fun p => ?_⟩; rw [q, p]; rfl) | (simp; done) | omega | (simp only [redL, intsE_length, wdsE_length]; omega) | (simp; omega) | (intros; (repeat' apply And.intro) <;> (first | assumption | omega | (simp; done))))))
  (repeat' (first | refine AW.seq ?_ | refine AW.scope ?_ | refine AW.label ?_ | refine AW.block ?_ | refine AW.skip ?_ | refine AW.exit ?_ | refine AW.ret ?_))
  (refine AW.regionC fun Q' Kn hQ hK hK' => ?_; (repeat simp (maxSteps := 4000000) (disch := omega) only [go_sem, redN, Nat.reduceAdd, Int.reduceToNat, Int.reducePow]); (repeat' apply And.intro); (try any_goals (first | (refine hK _ _ ?_; clear hK' hQ hK Q' Kn) | (intro q; refine ⟨q, ?_⟩; simp only [redB] at q; omega) | (intro q; refine ⟨q, fun p => ?_⟩; rw [q, p]; rfl) | (simp; done) | omega | (simp only [redL, intsE_length, wdsE_length]; omega) | (simp; omega) | (intros; (repeat' apply And.intro) <;> (first | assumption | omega | (simp; done))))))
  (repeat' (first | refine AW.seq ?_ | refine AW.scope ?_ | refine AW.label ?_ | refine AW.block ?_ | refine AW.skip ?_ | refine AW.exit ?_ | refine AW.ret ?_))
  refine AW.loopF (fun x : Nat × AV × St => [.yld l0, .fptr [.int .i64 s, .int .i64 n], .fptr [.fptr (planE R start f secs y0 m0 d0)], .junk, x.2.1, .junk, .junk, .junk, .junk, .junk, .int .i64 n, .int .i64 x.1, .junk, .junk, .junk, .junk, .junk, .junk, .junk, .junk, .junk, .junk, .junk, .junk, .junk, .junk, .junk, .junk, .junk, .junk, .junk, .junk, .junk, .junk, .junk, .junk, .junk, .junk, .junk, .junk, .junk, .junk, .junk, .junk, .junk, .junk, .junk, .junk, .junk, .junk, .junk, .junk, .junk, .junk, .junk, .junk, .junk, .junk, .junk]) (fun x => x.2.2)
    (fun x => x.1 ≤ n ∧ SW σ0 2 1 x.2.1 x.2.2 (intsE (poolTo R f m0 d0 s x.1))) (fun x => n - x.1) (0, .nils, σ0) ?_ rfl ?_ ?_
  · (repeat (first | exact Weak.nil | refine Weak.junk _ ?_ | refine Weak.same _ ?_ | refine Weak.eqv (by (congr 1; first | omega | (simp; done) | exact w_i64 (by omega) (by omega))) ?_))
  · exact ⟨by simp, by simpa [poolTo, intsE] using SW.new σ0 2 1⟩
  rintro ⟨k, v, σ⟩ ⟨k1, k2⟩
  dsimp only at k1 k2 ⊢
  have hpl := poolTo_len R f m0 d0 s k
  (repeat' (first | refine AW.seq ?_ | refine AW.scope ?_ | refine AW.label ?_ | refine AW.block ?_ | refine AW.skip ?_ | refine AW.exit ?_ | refine AW.ret ?_))
  (refine AW.regionC fun Q' Kn hQ hK hK' => ?_; (repeat simp (maxSteps := 4000000) (disch := omega) only [go_sem, redN, Nat.reduceAdd, Int.reduceToNat, Int.reducePow]); (repeat' apply And.intro); (try any_goals (first | (refine hK _ _ ?_; clear hK' hQ hK Q' Kn) | (intro q; refine ⟨q, ?_⟩; simp only [redB] at q; omega) | (intro q; refine ⟨q, fun p => ?_⟩; rw [q, p]; rfl) | (simp; done) | omega | (simp only [redL, intsE_length, wdsE_length]; omega) | (simp; omega) | (intros; (repeat' apply And.intro) <;> (first | assumption | omega | (simp; done))))))
  (repeat' (first | refine AW.seq ?_ | refine AW.scope ?_ | refine AW.label ?_ | refine AW.block ?_ | refine AW.skip ?_ | refine AW.exit ?_ | refine AW.ret ?_))
  (refine AW.cond (by simp (maxSteps := 4000000) (disch := omega) only [go_sem, redN, Nat.reduceAdd, Int.reduceToNat, Int.reducePow]; rfl) (fun hb => ?_) (fun hb => ?_) <;> (try simp only [redB] at hb))
  · have hsucc := poolTo_succ R f m0 d0 s k
    rcases k2.own with ⟨rfl, _⟩ | ⟨i1, g1, rfl, _⟩
    all_goals
      (try rw [intsE_length] at k2)
      (repeat' (first | refine AW.seq ?_ | refine AW.scope ?_ | refine AW.label ?_ | refine AW.block ?_ | refine AW.skip ?_ | refine AW.exit ?_ | refine AW.ret ?_))
      (refine AW.regionC fun Q' Kn hQ hK hK' => ?_; (repeat simp (maxSteps := 4000000) (disch := omega) only [go_sem, redN, Nat.reduceAdd, Int.reduceToNat, Int.reducePow]); (repeat' apply And.intro); (try any_goals (first | (refine hK _ _ ?_; clear hK' hQ hK Q' Kn) | (intro q; refine ⟨q, ?_⟩; simp only [redB] at q; omega) | (intro q; refine ⟨q, fun p => ?_⟩; rw [q, p]; rfl) | (simp; done) | omega | (simp only [redL, intsE_length, wdsE_length]; omega) | (simp; omega) | (intros; (repeat' apply And.intro) <;> (first | assumption | omega | (simp; done))))))
      (repeat' (first | refine AW.seq ?_ | refine AW.scope ?_ | refine AW.label ?_ | refine AW.block ?_ | refine AW.skip ?_ | refine AW.exit ?_ | refine AW.ret ?_))
      (refine AW.regionC fun Q' Kn hQ hK hK' => ?_; (repeat simp (maxSteps := 4000000) (disch := omega) only [go_sem, redN, Nat.reduceAdd, Int.reduceToNat, Int.reducePow]); (repeat' apply And.intro); (try any_goals (first | (refine hK _ _ ?_; clear hK' hQ hK Q' Kn) | (intro q; refine ⟨q, ?_⟩; simp only [redB] at q; omega) | (intro q; refine ⟨q, fun p => ?_⟩; rw [q, p]; rfl) | (simp; done) | omega | (simp only [redL, intsE_length, wdsE_length]; omega) | (simp; omega) | (intros; (repeat' apply And.intro) <;> (first | assumption | omega | (simp; done))))))
      (repeat' (first | refine AW.seq ?_ | refine AW.scope ?_ | refine AW.label ?_ | refine AW.block ?_ | refine AW.skip ?_ | refine AW.exit ?_ | refine AW.ret ?_))
      (refine AW.regionC fun Q' Kn hQ hK hK' => ?_; (repeat simp (maxSteps := 4000000) (disch := omega) only [go_sem, redN, Nat.reduceAdd, Int.reduceToNat, Int.reducePow]); (repeat' apply And.intro); (try any_goals (first | (refine hK _ _ ?_; clear hK' hQ hK Q' Kn) | (intro q; refine ⟨q, ?_⟩; simp only [redB] at q; omega) | (intro q; refine ⟨q, fun p => ?_⟩; rw [q, p]; rfl) | (simp; done) | omega | (simp only [redL, intsE_length, wdsE_length]; omega) | (simp; omega) | (intros; (repeat' apply And.intro) <;> (first | assumption | omega | (simp; done))))))
      refine AOp.call rfl (by simp only [go_sem]; rfl) (by simp [go_sem]) rfl (ACalls.mono (by simp only [go_sem]; exact t_has G R start f secs y0 m0 d0 (s + k) hlm hld hlw (by omega) (by omega) hf0 hf1 _) ?_)
      rintro e σ7 ⟨h7, rfl⟩; subst σ7
      (refine AOpsC_ok hK' _ _ _ ?_; (repeat simp (maxSteps := 4000000) (disch := omega) only [go_sem, redN, Nat.reduceAdd, Int.reduceToNat, Int.reducePow]); (repeat' apply And.intro); (try any_goals (first | (refine hK _ _ ?_; clear hK' hQ hK Q' Kn) | (intro q; refine ⟨q, ?_⟩; simp only [redB] at q; omega) | (intro q; refine ⟨q, fun p => ?_⟩; rw [q, p]; rfl) | (simp; done) | omega | (simp only [redL, intsE_length, wdsE_length]; omega) | (simp; omega) | (intros; (repeat' apply And.intro) <;> (first | assumption | omega | (simp; done))))))
      (repeat' (first | refine AW.seq ?_ | refine AW.scope ?_ | refine AW.label ?_ | refine AW.block ?_ | refine AW.skip ?_ | refine AW.exit ?_ | refine AW.ret ?_))
      refine AW.cutB (fun x : AV × St => [.yld l0, .fptr [.int .i64 s, .int .i64 n], .fptr [.fptr (planE R start f secs y0 m0 d0)], .junk, x.1, .junk, .junk, .junk, .junk, .junk, .int .i64 n, .int .i64 k, .junk, .junk, .junk, .junk, .junk, .junk, .junk, .junk, .junk, .junk, .junk, .junk, .junk, .junk, .junk, .junk, .junk, .junk, .junk, .junk, .junk, .junk, .junk, .junk, .junk, .junk, .junk, .junk, .junk, .junk, .junk, .junk, .junk, .junk, .junk, .junk, .junk, .junk, .junk, .junk, .junk, .junk, .junk, .junk, .junk, .junk, .junk]) (fun x => x.2) (fun x => SW σ0 2 1 x.1 x.2 (intsE (poolTo R f m0 d0 s (k + 1)))) ?_ ?_
      · (refine AW.cond (by simp (maxSteps := 4000000) (disch := omega) only [go_sem, redN, Nat.reduceAdd, Int.reduceToNat, Int.reducePow]; rfl) (fun hb => ?_) (fun hb => ?_) <;> (try simp only [redB] at hb))
        · rw [if_pos hb] at hsucc
          (repeat' (first | refine AW.seq ?_ | refine AW.scope ?_ | refine AW.label ?_ | refine AW.block ?_ | refine AW.skip ?_ | refine AW.exit ?_ | refine AW.ret ?_))
          (refine AW.regionC fun Q' Kn hQ hK hK' => ?_; (repeat simp (maxSteps := 4000000) (disch := omega) only [go_sem, redN, Nat.reduceAdd, Int.reduceToNat, Int.reducePow]); (repeat' apply And.intro); (try any_goals (first | (refine hK _ _ ?_; clear hK' hQ hK Q' Kn) | (intro q; refine ⟨q, ?_⟩; simp only [redB] at q; omega) | (intro q; refine ⟨q, fun p => ?_⟩; rw [q, p]; rfl) | (simp; done) | omega | (simp only [redL, intsE_length, wdsE_length]; omega) | (simp; omega) | (intros; (repeat' apply And.intro) <;> (first | assumption | omega | (simp; done))))))
          refine AOp.buildSlice (e := 2) (sz := 1) (es := [[.int .i64 (s + k)]]) rfl rfl rfl rfl (by simp [partsC, go_sem]) (by simp [aParts, go_sem]) (by simp) rfl (by decide) (by decide) fun it2 hit2 => ?_
          (refine AOpsC_ok hK' _ _ _ ?_; (repeat simp (maxSteps := 4000000) (disch := omega) only [go_sem, redN, Nat.reduceAdd, Int.reduceToNat, Int.reducePow]); (repeat' apply And.intro); (try any_goals (first | (refine hK _ _ ?_; clear hK' hQ hK Q' Kn) | (intro q; refine ⟨q, ?_⟩; simp only [redB] at q; omega) | (intro q; refine ⟨q, fun p => ?_⟩; rw [q, p]; rfl) | (simp; done) | omega | (simp only [redL, intsE_length, wdsE_length]; omega) | (simp; omega) | (intros; (repeat' apply And.intro) <;> (first | assumption | omega | (simp; done))))))
          refine AOp.appendE (e := 2) (sz := 1) (by_ := 8) (es := intsE (poolTo R f m0 d0 s k)) (xs := [[.int .i64 (s + k)]]) rfl rfl rfl rfl rfl rfl rfl (by decide) k2 hit2 rfl (by simp [isCell]) (by simp only [intsE_length]; omega) (by simp only [intsE_length, maxLen]; omega) (by simp) fun v' σ' h9 => ?_
          (refine AOpsC_ok hK' _ _ _ ?_; (repeat simp (maxSteps := 4000000) (disch := omega) only [go_sem, redN, Nat.reduceAdd, Int.reduceToNat, Int.reducePow]); (repeat' apply And.intro); (try any_goals (first | (refine hK _ _ ?_; clear hK' hQ hK Q' Kn) | (intro q; refine ⟨q, ?_⟩; simp only [redB] at q; omega) | (intro q; refine ⟨q, fun p => ?_⟩; rw [q, p]; rfl) | (simp; done) | omega | (simp only [redL, intsE_length, wdsE_length]; omega) | (simp; omega) | (intros; (repeat' apply And.intro) <;> (first | assumption | omega | (simp; done))))))
          rw [intsE_snoc, ← hsucc] at h9
          (repeat' (first | refine AW.seq ?_ | refine AW.scope ?_ | refine AW.label ?_ | refine AW.block ?_ | refine AW.skip ?_ | refine AW.exit ?_ | refine AW.ret ?_ | (refine AW.regionC fun Q' Kn hQ hK hK' => ?_; (repeat simp (maxSteps := 4000000) (disch := omega) only [go_sem, redN, Nat.reduceAdd, Int.reduceToNat, Int.reducePow]); (repeat' apply And.intro); (try any_goals (first | (refine hK _ _ ?_; clear hK' hQ hK Q' Kn) | (intro q; refine ⟨q, ?_⟩; simp only [redB] at q; omega) | (intro q; refine ⟨q, fun p => ?_⟩; rw [q, p]; rfl) | (simp; done) | omega | (simp only [redL, intsE_length, wdsE_length]; omega) | (simp; omega) | (intros; (repeat' apply And.intro) <;> (first | assumption | omega | (simp; done)))))) | (refine AW.cond (by simp (maxSteps := 4000000) (disch := omega) only [go_sem, redN, Nat.reduceAdd, Int.reduceToNat, Int.reducePow]; rfl) (fun hb => ?_) (fun hb => ?_) <;> (try simp only [redB] at hb))))
          refine ⟨(v', σ'), h9, ?_, rfl, rfl⟩
          (repeat (first | exact Weak.nil | refine Weak.junk _ ?_ | refine Weak.same _ ?_ | refine Weak.eqv (by (congr 1; first | omega | (simp; done) | exact w_i64 (by omega) (by omega))) ?_))
        · rw [if_neg (by simpa using hb), List.append_nil] at hsucc
          (repeat' (first | refine AW.seq ?_ | refine AW.scope ?_ | refine AW.label ?_ | refine AW.block ?_ | refine AW.skip ?_ | refine AW.exit ?_ | refine AW.ret ?_))
          refine ⟨(_, _), by rw [hsucc]; exact k2, ?_, rfl, rfl⟩
          (repeat (first | exact Weak.nil | refine Weak.junk _ ?_ | refine Weak.same _ ?_ | refine Weak.eqv (by (congr 1; first | omega | (simp; done) | exact w_i64 (by omega) (by omega))) ?_))
      rintro ⟨v2, σ2⟩ h9
      dsimp only at h9 ⊢
      (repeat' (first | refine AW.seq ?_ | refine AW.scope ?_ | refine AW.label ?_ | refine AW.block ?_ | refine AW.skip ?_ | refine AW.exit ?_ | refine AW.ret ?_))
      (refine AW.regionC fun Q' Kn hQ hK hK' => ?_; (repeat simp (maxSteps := 4000000) (disch := omega) only [go_sem, redN, Nat.reduceAdd, Int.reduceToNat, Int.reducePow]); (repeat' apply And.intro); (try any_goals (first | (refine hK _ _ ?_; clear hK' hQ hK Q' Kn) | (intro q; refine ⟨q, ?_⟩; simp only [redB] at q; omega) | (intro q; refine ⟨q, fun p => ?_⟩; rw [q, p]; rfl) | (simp; done) | omega | (simp only [redL, intsE_length, wdsE_length]; omega) | (simp; omega) | (intros; (repeat' apply And.intro) <;> (first | assumption | omega | (simp; done))))))
      refine ⟨(k + 1, v2, σ2), ⟨by dsimp only; omega, h9⟩, by dsimp only; omega, ?_, rfl, rfl⟩
      (repeat (first | exact Weak.nil | refine Weak.junk _ ?_ | refine Weak.same _ ?_ | refine Weak.eqv (by (congr 1; first | omega | (simp; done) | exact w_i64 (by omega) (by omega))) ?_))
  have hkn : k = n := by omega
  subst hkn
  have k3 : SW σ0 2 1 v σ (intsE (poolF R f m0 d0 s k)) := k2
  have hpl2 : (poolF R f m0 d0 s k).length ≤ k := hpl
  clear k2 hpl
  generalize poolF R f m0 d0 s k = L at *
  (repeat' (first | refine AW.seq ?_ | refine AW.scope ?_ | refine AW.label ?_ | refine AW.block ?_ | refine AW.skip ?_ | refine AW.exit ?_ | refine AW.ret ?_))
  refine AW.settleT 4 rfl k3 (by intro e he c hc; rfl) ?_
  (repeat' (first | refine AW.seq ?_ | refine AW.scope ?_ | refine AW.label ?_ | refine AW.block ?_ | refine AW.skip ?_ | refine AW.exit ?_ | refine AW.ret ?_))
  (refine AW.regionC fun Q' Kn hQ hK hK' => ?_; (repeat simp (maxSteps := 4000000) (disch := omega) only [go_sem, redN, Nat.reduceAdd, Int.reduceToNat, Int.reducePow]); (repeat' apply And.intro); (try any_goals (first | (refine hK _ _ ?_; clear hK' hQ hK Q' Kn) | (intro q; refine ⟨q, ?_⟩; simp only [redB] at q; omega) | (intro q; refine ⟨q, fun p => ?_⟩; rw [q, p]; rfl) | (simp; done) | omega | (simp only [redL, intsE_length, wdsE_length]; omega) | (simp; omega) | (intros; (repeat' apply And.intro) <;> (first | assumption | omega | (simp; done))))))
  (repeat' (first | refine AW.seq ?_ | refine AW.scope ?_ | refine AW.label ?_ | refine AW.block ?_ | refine AW.skip ?_ | refine AW.exit ?_ | refine AW.ret ?_))
  have hlen : L.length ≤ 1000 := by omega
  refine AW.loopF (fun x : Nat × St => [.yld l0, .fptr [.int .i64 s, .int .i64 k], .fptr [.fptr (planE R start f secs y0 m0 d0)], .junk, .tree 1 (intsE L), .junk, .junk, .junk, .junk, .junk, .junk, .junk, .junk, .junk, .junk, .junk, .junk, .junk, .junk, .junk, .junk, .junk, .junk, .junk, .junk, .junk, .tree 1 (intsE L), .int .i64 L.length, .int .i64 x.1, .junk, .junk, .junk, .junk, .junk, .junk, .junk, .junk, .junk, .junk, .junk, .junk, .junk, .junk, .junk, .junk, .junk, .junk, .junk, .junk, .junk, .junk, .junk, .junk, .junk, .junk, .junk, .junk, .junk, .junk]) (fun x => x.2)
    (fun x => x.1 ≤ L.length ∧ J (pickTo R L x.1) x.2) (fun x => L.length - x.1) (0, σ0) ?_ rfl ?_ ?_
  · (repeat (first | exact Weak.nil | refine Weak.junk _ ?_ | refine Weak.same _ ?_ | refine Weak.eqv (by (congr 1; first | omega | (simp; done) | exact w_i64 (by omega) (by omega))) ?_))
  · exact ⟨by simp, hJ⟩
  rintro ⟨i, σ1⟩ ⟨j1, j2⟩
  dsimp only at j1 j2 ⊢
  (repeat' (first | refine AW.seq ?_ | refine AW.scope ?_ | refine AW.label ?_ | refine AW.block ?_ | refine AW.skip ?_ | refine AW.exit ?_ | refine AW.ret ?_))
  (refine AW.regionC fun Q' Kn hQ hK hK' => ?_; (repeat simp (maxSteps := 4000000) (disch := omega) only [go_sem, redN, Nat.reduceAdd, Int.reduceToNat, Int.reducePow]); (repeat' apply And.intro); (try any_goals (first | (refine hK _ _ ?_; clear hK' hQ hK Q' Kn) | (intro q; refine ⟨q, ?_⟩; simp only [redB] at q; omega) | (intro q; refine ⟨q, fun p => ?_⟩; rw [q, p]; rfl) | (simp; done) | omega | (simp only [redL, intsE_length, wdsE_length]; omega) | (simp; omega) | (intros; (repeat' apply And.intro) <;> (first | assumption | omega | (simp; done))))))
  (repeat' (first | refine AW.seq ?_ | refine AW.scope ?_ | refine AW.label ?_ | refine AW.block ?_ | refine AW.skip ?_ | refine AW.exit ?_ | refine AW.ret ?_))
  (refine AW.cond (by simp (maxSteps := 4000000) (disch := omega) only [go_sem, redN, Nat.reduceAdd, Int.reduceToNat, Int.reducePow]; rfl) (fun hb => ?_) (fun hb => ?_) <;> (try simp only [redB] at hb))
  · have hil : i < L.length := by omega
    have hsucc := pickTo_succ R L i
    have hok : okPos R L i = (decide ((R.bySetPos.length : Int) = 0) || countsF R.bySetPos ((i : Int) + 1) L.length) := by
      have e : decide (R.bySetPos = []) = decide (((R.bySetPos.length : Nat) : Int) = 0) := decide_eq_decide.2 ⟨fun e => by rw [e]; rfl, fun h => List.eq_nil_of_length_eq_zero (by omega)⟩
      rw [okPos, e]
    (repeat' (first | refine AW.seq ?_ | refine AW.scope ?_ | refine AW.label ?_ | refine AW.block ?_ | refine AW.skip ?_ | refine AW.exit ?_ | refine AW.ret ?_))
    (refine AW.regionC fun Q' Kn hQ hK hK' => ?_; (repeat simp (maxSteps := 4000000) (disch := omega) only [go_sem, redN, Nat.reduceAdd, Int.reduceToNat, Int.reducePow]); (repeat' apply And.intro); (try any_goals (first | (refine hK _ _ ?_; clear hK' hQ hK Q' Kn) | (intro q; refine ⟨q, ?_⟩; simp only [redB] at q; omega) | (intro q; refine ⟨q, fun p => ?_⟩; rw [q, p]; rfl) | (simp; done) | omega | (simp only [redL, intsE_length, wdsE_length]; omega) | (simp; omega) | (intros; (repeat' apply And.intro) <;> (first | assumption | omega | (simp; done))))))
    (repeat' (first | refine AW.seq ?_ | refine AW.scope ?_ | refine AW.label ?_ | refine AW.block ?_ | refine AW.skip ?_ | refine AW.exit ?_ | refine AW.ret ?_))
    (refine AW.regionC fun Q' Kn hQ hK hK' => ?_; (repeat simp (maxSteps := 4000000) (disch := omega) only [go_sem, redN, Nat.reduceAdd, Int.reduceToNat, Int.reducePow]); (repeat' apply And.intro); (try any_goals (first | (refine hK _ _ ?_; clear hK' hQ hK Q' Kn) | (intro q; refine ⟨q, ?_⟩; simp only [redB] at q; omega) | (intro q; refine ⟨q, fun p => ?_⟩; rw [q, p]; rfl) | (simp; done) | omega | (simp only [redL, intsE_length, wdsE_length]; omega) | (simp; omega) | (intros; (repeat' apply And.intro) <;> (first | assumption | omega | (simp; done))))))
    refine AOps.guard_call (f := 59) (v := .bool (countsF R.bySetPos ((i : Int) + 1) L.length)) rfl rfl rfl rfl rfl (fun _ => (by simp only [go_sem] <;> rfl)) (fun h => by first | (simp [go_sem]; done) | simpa [go_sem] using h) rfl (fun hg => by simp only [go_sem]; exact t_counts G R.bySetPos _ _ (by omega) (by omega) (by omega) _) ?_
    (refine AOpsC_ok hK' _ _ _ ?_; (repeat simp (maxSteps := 4000000) (disch := omega) only [go_sem, redN, Nat.reduceAdd, Int.reduceToNat, Int.reducePow]); (repeat' apply And.intro); (try any_goals (first | (refine hK _ _ ?_; clear hK' hQ hK Q' Kn) | (intro q; refine ⟨q, ?_⟩; simp only [redB] at q; omega) | (intro q; refine ⟨q, fun p => ?_⟩; rw [q, p]; rfl) | (simp; done) | omega | (simp only [redL, intsE_length, wdsE_length]; omega) | (simp; omega) | (intros; (repeat' apply And.intro) <;> (first | assumption | omega | (simp; done))))))
    (try simp only [Int.toNat_natCast])
    obtain ⟨x, hx⟩ : ∃ x, L.getD i 0 = x := ⟨_, rfl⟩
    rw [hx] at hsucc ⊢
    refine AOps.guard_yields (vs := [.int .i64 x]) (l := l0) (R := fun b σ' => (b = true ∧ J (pickTo R L i ++ [x]) σ') ∨ (b = false ∧ Z σ')) rfl rfl rfl rfl rfl (fun _ => (by simp only [go_sem] <;> rfl)) (fun h => by first | (simp [go_sem]; done) | simpa [go_sem] using h) (fun _ => by first | (simp only [go_sem]; done) | (simp only [go_sem]; rfl)) (fun hg => ?_) ?_
    · have hg2 : okPos R L i = true := by
        rw [hok]; simpa using hg
      obtain ⟨rr, hrr⟩ := pickTo_split R L (show i + 1 ≤ L.length by omega)
      rw [hsucc, if_pos hg2] at hrr
      exact take (pickTo R L i) x rr σ1 (by rw [pickF_eq, hrr, List.append_assoc]; rfl) j2
    intro b σ' hy hn2
    (refine AOpsC_ok hK' _ _ _ ?_; (repeat simp (maxSteps := 4000000) (disch := omega) only [go_sem, redN, Nat.reduceAdd, Int.reduceToNat, Int.reducePow]); (repeat' apply And.intro); (try any_goals (first | (refine hK _ _ ?_; clear hK' hQ hK Q' Kn) | (intro q; refine ⟨q, ?_⟩; simp only [redB] at q; omega) | (intro q; refine ⟨q, fun p => ?_⟩; rw [q, p]; rfl) | (simp; done) | omega | (simp only [redL, intsE_length, wdsE_length]; omega) | (simp; omega) | (intros; (repeat' apply And.intro) <;> (first | assumption | omega | (simp; done))))))
    (repeat' (first | refine AW.seq ?_ | refine AW.scope ?_ | refine AW.label ?_ | refine AW.block ?_ | refine AW.skip ?_ | refine AW.exit ?_ | refine AW.ret ?_))
    (refine AW.cond (by simp (maxSteps := 4000000) (disch := omega) only [go_sem, redN, Nat.reduceAdd, Int.reduceToNat, Int.reducePow]; rfl) (fun hb => ?_) (fun hb => ?_) <;> (try simp only [redB] at hb))
    · have hg2 : okPos R L i = true := by
        rw [hok]; simpa using hb.1
      rcases hy (by simpa using hb.1) with ⟨h1, _⟩ | ⟨_, h2⟩
      · rw [h1] at hb; simp at hb
      (repeat' (first | refine AW.seq ?_ | refine AW.scope ?_ | refine AW.label ?_ | refine AW.block ?_ | refine AW.skip ?_ | refine AW.exit ?_ | refine AW.ret ?_))
      (refine ⟨_, _, rfl, by simp, ?_⟩; simp only [aTup, AA.get, List.getD_cons_zero, List.getD_cons_succ, true_and])
      exact .inr h2
    · (repeat' (first | refine AW.seq ?_ | refine AW.scope ?_ | refine AW.label ?_ | refine AW.block ?_ | refine AW.skip ?_ | refine AW.exit ?_ | refine AW.ret ?_))
      (refine AW.regionC fun Q' Kn hQ hK hK' => ?_; (repeat simp (maxSteps := 4000000) (disch := omega) only [go_sem, redN, Nat.reduceAdd, Int.reduceToNat, Int.reducePow]); (repeat' apply And.intro); (try any_goals (first | (refine hK _ _ ?_; clear hK' hQ hK Q' Kn) | (intro q; refine ⟨q, ?_⟩; simp only [redB] at q; omega) | (intro q; refine ⟨q, fun p => ?_⟩; rw [q, p]; rfl) | (simp; done) | omega | (simp only [redL, intsE_length, wdsE_length]; omega) | (simp; omega) | (intros; (repeat' apply And.intro) <;> (first | assumption | omega | (simp; done))))))
      refine ⟨(i + 1, σ'), ⟨by dsimp only; omega, ?_⟩, by dsimp only; omega, ?_, rfl, rfl⟩
      · dsimp only
        rw [hsucc]
        by_cases hg2 : okPos R L i = true
        · rw [if_pos hg2]
          have hg3 := hg2
          rw [hok] at hg3
          rcases hy (by simpa using hg3) with ⟨_, h⟩ | ⟨h1, _⟩
          · exact h
          · exfalso
            rcases hb with ⟨e1, e2⟩ | h
            · rw [e2] at hg3; simp at hg3; exact e1 (by rw [hg3]; rfl)
            · rw [h] at h1; cases h1
        · rw [if_neg hg2, List.append_nil]
          rw [hok] at hg2
          have hg3 := Bool.not_eq_true _ ▸ hg2
          rw [hn2 (by simpa using hg2)]
          exact j2
      (repeat (first | exact Weak.nil | refine Weak.junk _ ?_ | refine Weak.same _ ?_ | refine Weak.eqv (by (congr 1; first | omega | (simp; done) | exact w_i64 (by omega) (by omega))) ?_))
  · (repeat' (first | refine AW.seq ?_ | refine AW.scope ?_ | refine AW.label ?_ | refine AW.block ?_ | refine AW.skip ?_ | refine AW.exit ?_ | refine AW.ret ?_))
    (refine ⟨_, _, rfl, by simp, ?_⟩; simp only [aTup, AA.get, List.getD_cons_zero, List.getD_cons_succ, true_and])
    have : i = L.length := by omega
    subst this
    exact .inl j2
end Go.Almanac

/- Recurrence: the periods, handed out. -/
/-STEPS-/
namespace Go.Almanac
open Go.RowKit Go.Proofs Go.Abs
def stopF (R : RuleD) (f y m upto k : Int) : Bool := !(periodF R f y m k).2.2 || decide (upto ≤ (periodF R f y m k).1 * 86400) || (decide (0 < k) && lateF R ((periodF R f y m k).1 * 86400))
theorem period_bounds (R : RuleD) {f y m k : Int} (hf0 : -719162 ≤ f) (hf1 : f ≤ 2932896) (hw0 : 0 ≤ R.wkst) (hw1 : R.wkst ≤ 6) (hn0 : 0 ≤ k * R.interval) (hn1 : k * R.interval ≤ 4000000) :
    -100000000 ≤ (periodF R f y m k).1 ∧ (periodF R f y m k).1 ≤ 100000000 ∧ 0 ≤ (periodF R f y m k).2.1 + 4000000 ∧ (periodF R f y m k).2.1 ≤ 4000000 := by
  unfold periodF
  split
  · dsimp only; omega
  · split
    · dsimp only [wday]; omega
    · split
      · dsimp only
        have q1 := days_bounds ((y * 12 + m - 1 + k * R.interval) / 12) ((y * 12 + m - 1 + k * R.interval) % 12 + 1) 1
        have q2 := mlen_le ((y * 12 + m - 1 + k * R.interval) / 12) ((y * 12 + m - 1 + k * R.interval) % 12 + 1)
        omega
      · dsimp only
        have q1 := days_bounds (y + k * R.interval) 1 1
        have q2 := days_bounds (y + k * R.interval) 12 31
        omega
set_option maxHeartbeats 8000000 in
theorem t_spans1 (G : Nat → AV) (R : RuleD) (start f secs y m d upto : Int) (l0 : Nat) (hf0 : -719162 ≤ f) (hf1 : f ≤ 2932896) (hy0 : 1 ≤ y) (hy1 : y ≤ 9999) (hm0 : 1 ≤ m) (hm1 : m ≤ 12) (hw0 : 0 ≤ R.wkst) (hw1 : R.wkst ≤ 6)
    (hi0 : 1 ≤ R.interval) (hi1 : R.interval ≤ 1000) (hs0 : -1000000000000000 ≤ R.secs) (hs1 : R.secs ≤ 1000000000000000) (J : Nat → St → Prop) (Z : St → Prop) (σ0 : St) (hJ : J 0 σ0)
    (take : ∀ (k : Nat) σ, k ≤ 4000 → stopF R f y m upto k = false → J k σ → YieldsTo (Ev G) l0 [.int .i64 k, .agg [.int .i64 (periodF R f y m k).1, .int .i64 (periodF R f y m k).2.1]] σ fun v σ' => ∃ b, v = .bool b ∧ ((b = true ∧ k < 4000 ∧ J (k + 1) σ') ∨ (b = false ∧ Z σ'))) :
    ACalls (Ev G) 55 [.yld l0, .fptr [.fptr (planE R start f secs y m d)], .fptr [.int .i64 upto]] σ0 (fun e st' => e = .ret (.tup []) ∧ ((∃ k : Nat, k ≤ 4000 ∧ stopF R f y m upto k = true ∧ J k st') ∨ Z st')) := by
  refine ACalls.of_body Tryz.func55 rfl ?_
  rw [Tryz.ntmps55]
  simp only [List.length_cons, List.length_nil, Nat.reduceAdd, Nat.reduceSub, List.replicate_succ, List.replicate_zero, List.cons_append, List.nil_append]
  (repeat' (first | refine AW.seq ?_ | refine AW.scope ?_ | refine AW.label ?_ | refine AW.block ?_ | refine AW.skip ?_ | refine AW.exit ?_ | refine AW.ret ?_))
  (refine AW.regionC fun Q' Kn hQ hK hK' => ?_; (repeat simp (maxSteps := 4000000) (disch := omega) only [go_sem, redN, Nat.reduceAdd, Int.reduceToNat, Int.reducePow]); (repeat' apply And.intro); (try any_goals (first | (refine hK _ _ ?_; clear hK' hQ hK Q' Kn) | (intro q; refine ⟨q, ?_⟩; simp only [redB] at q; omega) | (intro q; refine ⟨q, fun p => ?_⟩; rw [q, p]; rfl) | (simp; done) | omega | (simp only [redL]; omega) | (simp; omega) | (intros; (repeat' apply And.intro) <;> (first | assumption | omega | (simp; done))))))
  (repeat' (first | refine AW.seq ?_ | refine AW.scope ?_ | refine AW.label ?_ | refine AW.block ?_ | refine AW.skip ?_ | refine AW.exit ?_ | refine AW.ret ?_))
  refine AW.loopF (fun x : Nat × St => [.yld l0, .fptr [.fptr (planE R start f secs y m d)], .fptr [.int .i64 upto], .junk, .int .i64 x.1, .junk, .junk, .junk, .junk, .junk, .junk, .junk, .junk, .junk, .junk, .junk, .junk, .junk, .junk, .junk, .junk, .junk, .junk, .junk, .junk, .junk, .junk, .junk, .junk, .junk, .junk, .junk, .junk, .junk, .junk, .junk, .junk, .junk, .junk, .junk, .junk, .junk]) (fun x => x.2)
    (fun x => x.1 ≤ 4000 ∧ J x.1 x.2) (fun x => 4000 - x.1) (0, σ0) ?_ rfl ?_ ?_
  · (repeat (first | exact Weak.nil | refine Weak.junk _ ?_ | refine Weak.same _ ?_ | refine Weak.eqv (by (congr 1; first | omega | (simp; done) | exact w_i64 (by omega) (by omega))) ?_))
  · exact ⟨by simp, hJ⟩
  rintro ⟨k, σ⟩ ⟨k1, k2⟩
  dsimp only at k1 k2 ⊢
  have hn0 : 0 ≤ (k : Int) * R.interval := Int.mul_nonneg (by omega) (by omega)
  have hn1 : (k : Int) * R.interval ≤ 4000000 := Int.le_trans (Int.mul_le_mul (show (k : Int) ≤ 4000 by omega) hi1 (by omega) (by omega)) (by decide)
  have hpb := period_bounds R (y := y) (m := m) hf0 hf1 hw0 hw1 hn0 hn1
  have htake := take k σ k1
  have hper := fun σ : St => t_period G R start f secs y m d k hf0 hf1 hy0 hy1 hm0 hm1 hw0 hw1 (by omega) (by omega) hn0 hn1 σ
  have hst : stopF R f y m upto k = stopF R f y m upto k := rfl
  conv at hst => rhs; unfold stopF
  obtain ⟨⟨a, n, ok⟩, hp⟩ : ∃ p, periodF R f y m k = p := ⟨_, rfl⟩
  simp only [hp] at hpb htake hper hst
  have hst2 : (!ok || decide (a * 86400 ≥ upto) || (decide ((k : Int) > 0) && lateF R (a * 86400))) = stopF R f y m upto k := hst.symm
  (repeat' (first | refine AW.seq ?_ | refine AW.scope ?_ | refine AW.label ?_ | refine AW.block ?_ | refine AW.skip ?_ | refine AW.exit ?_ | refine AW.ret ?_))
  (refine AW.regionC fun Q' Kn hQ hK hK' => ?_; (repeat simp (maxSteps := 4000000) (disch := omega) only [go_sem, redN, Nat.reduceAdd, Int.reduceToNat, Int.reducePow]); (repeat' apply And.intro); (try any_goals (first | (refine hK _ _ ?_; clear hK' hQ hK Q' Kn) | (intro q; refine ⟨q, ?_⟩; simp only [redB] at q; omega) | (intro q; refine ⟨q, fun p => ?_⟩; rw [q, p]; rfl) | (simp; done) | omega | (simp only [redL]; omega) | (simp; omega) | (intros; (repeat' apply And.intro) <;> (first | assumption | omega | (simp; done))))))
  refine AOp.call rfl (by simp only [go_sem]; rfl) (by simp [go_sem]) rfl (ACalls.mono (by simp only [go_sem]; exact hper _) ?_)
  rintro e σ7 ⟨h7, rfl⟩; subst σ7
  (refine AOpsC_ok hK' _ _ _ ?_; (repeat simp (maxSteps := 4000000) (disch := omega) only [go_sem, redN, Nat.reduceAdd, Int.reduceToNat, Int.reducePow]); (repeat' apply And.intro); (try any_goals (first | (refine hK _ _ ?_; clear hK' hQ hK Q' Kn) | (intro q; refine ⟨q, ?_⟩; simp only [redB] at q; omega) | (intro q; refine ⟨q, fun p => ?_⟩; rw [q, p]; rfl) | (simp; done) | omega | (simp only [redL]; omega) | (simp; omega) | (intros; (repeat' apply And.intro) <;> (first | assumption | omega | (simp; done))))))
  refine AOp.alloc rfl (by simp only [go_sem]; rfl) fun b5 hb5 => ?_
  (refine AOpsC_ok hK' _ _ _ ?_; (repeat simp (maxSteps := 4000000) (disch := omega) only [go_sem, redN, Nat.reduceAdd, Int.reduceToNat, Int.reducePow]); (repeat' apply And.intro); (try any_goals (first | (refine hK _ _ ?_; clear hK' hQ hK Q' Kn) | (intro q; refine ⟨q, ?_⟩; simp only [redB] at q; omega) | (intro q; refine ⟨q, fun p => ?_⟩; rw [q, p]; rfl) | (simp; done) | omega | (simp only [redL]; omega) | (simp; omega) | (intros; (repeat' apply And.intro) <;> (first | assumption | omega | (simp; done))))))
  refine AOp.storeAll (cs := [.int .i64 a, .int .i64 n]) rfl (by simp only [go_sem] <;> rfl) (by simp [go_sem]) (St.set_same _ _ _) (by first | (simp only [go_sem]; done) | (simp [go_sem]; done) | (simp [go_sem]; omega)) (by simp [go_sem, isCell]) rfl rfl rfl ?_
  (refine AOpsC_ok hK' _ _ _ ?_; (repeat simp (maxSteps := 4000000) (disch := omega) only [go_sem, redN, Nat.reduceAdd, Int.reduceToNat, Int.reducePow]); (repeat' apply And.intro); (try any_goals (first | (refine hK _ _ ?_; clear hK' hQ hK Q' Kn) | (intro q; refine ⟨q, ?_⟩; simp only [redB] at q; omega) | (intro q; refine ⟨q, fun p => ?_⟩; rw [q, p]; rfl) | (simp; done) | omega | (simp only [redL]; omega) | (simp; omega) | (intros; (repeat' apply And.intro) <;> (first | assumption | omega | (simp; done))))))
  refine AW.freeze 5 rfl (St.set_same _ _ _) ?_
  rw [St.set_set, St.del_set _ _ hb5]
  (repeat' (first | refine AW.seq ?_ | refine AW.scope ?_ | refine AW.label ?_ | refine AW.block ?_ | refine AW.skip ?_ | refine AW.exit ?_ | refine AW.ret ?_))
  (refine AW.regionC fun Q' Kn hQ hK hK' => ?_; (repeat simp (maxSteps := 4000000) (disch := omega) only [go_sem, redN, Nat.reduceAdd, Int.reduceToNat, Int.reducePow]); (repeat' apply And.intro); (try any_goals (first | (refine hK _ _ ?_; clear hK' hQ hK Q' Kn) | (intro q; refine ⟨q, ?_⟩; simp only [redB] at q; omega) | (intro q; refine ⟨q, fun p => ?_⟩; rw [q, p]; rfl) | (simp; done) | omega | (simp only [redL]; omega) | (simp; omega) | (intros; (repeat' apply And.intro) <;> (first | assumption | omega | (simp; done))))))
  refine AOps.guard_call (f := 34) (v := .bool (lateF R (a * 86400))) rfl rfl rfl rfl rfl (fun _ => (by simp only [go_sem] <;> rfl)) (fun h => by first | (simp [go_sem]; done) | simpa [go_sem] using h) rfl (fun hg => by simp only [go_sem]; exact t_late G R start f secs y m d (a * 86400) hs0 hs1 _) ?_
  (refine AOpsC_ok hK' _ _ _ ?_; (repeat simp (maxSteps := 4000000) (disch := omega) only [go_sem, redN, Nat.reduceAdd, Int.reduceToNat, Int.reducePow]); (repeat' apply And.intro); (try any_goals (first | (refine hK _ _ ?_; clear hK' hQ hK Q' Kn) | (intro q; refine ⟨q, ?_⟩; simp only [redB] at q; omega) | (intro q; refine ⟨q, fun p => ?_⟩; rw [q, p]; rfl) | (simp; done) | omega | (simp only [redL]; omega) | (simp; omega) | (intros; (repeat' apply And.intro) <;> (first | assumption | omega | (simp; done))))))
  refine AOps.guard_yields (vs := [.int .i64 k, .agg [.int .i64 a, .int .i64 n]]) (l := l0) (R := fun b σ' => (b = true ∧ k < 4000 ∧ J (k + 1) σ') ∨ (b = false ∧ Z σ')) rfl rfl rfl rfl rfl (fun _ => (by simp only [go_sem] <;> rfl)) (fun h => by first | (simp [go_sem]; done) | simpa [go_sem] using h) (fun _ => by first | (simp only [go_sem]; done) | (simp only [go_sem]; rfl)) (fun hg => ?_) ?_
  · rw [hst2] at hg
    exact htake (by simpa using hg) k2
  intro b σ' hy2 hn2
  rw [hst2] at hy2 hn2
  (refine AOpsC_ok hK' _ _ _ ?_; (repeat simp (maxSteps := 4000000) (disch := omega) only [go_sem, redN, Nat.reduceAdd, Int.reduceToNat, Int.reducePow]); (repeat' apply And.intro); (try any_goals (first | (refine hK _ _ ?_; clear hK' hQ hK Q' Kn) | (intro q; refine ⟨q, ?_⟩; simp only [redB] at q; omega) | (intro q; refine ⟨q, fun p => ?_⟩; rw [q, p]; rfl) | (simp; done) | omega | (simp only [redL]; omega) | (simp; omega) | (intros; (repeat' apply And.intro) <;> (first | assumption | omega | (simp; done))))))
  (repeat' (first | refine AW.seq ?_ | refine AW.scope ?_ | refine AW.label ?_ | refine AW.block ?_ | refine AW.skip ?_ | refine AW.exit ?_ | refine AW.ret ?_))
  (refine AW.cond (by simp (maxSteps := 4000000) (disch := omega) only [go_sem, redN, Nat.reduceAdd, Int.reduceToNat, Int.reducePow]; rfl) (fun hb => ?_) (fun hb => ?_) <;> (try simp only [redB] at hb))
  · (repeat' (first | refine AW.seq ?_ | refine AW.scope ?_ | refine AW.label ?_ | refine AW.block ?_ | refine AW.skip ?_ | refine AW.exit ?_ | refine AW.ret ?_))
    (refine ⟨_, _, rfl, by simp, ?_⟩; simp only [aTup, AA.get, List.getD_cons_zero, List.getD_cons_succ, true_and])
    by_cases hS : stopF R f y m upto k = true
    · rw [hn2 (by rw [hS]; rfl)]
      exact .inl ⟨k, k1, hS, k2⟩
    · have hS2 : stopF R f y m upto k = false := by simpa using hS
      rcases hy2 (by rw [hS2]; rfl) with ⟨h1, _⟩ | ⟨_, h2⟩
      · exfalso
        rcases hb with ((h | h) | ⟨h, h'⟩) | h
        · exact hS (by rw [hst, h]; rfl)
        · exact hS (by rw [hst, decide_eq_true h]; simp)
        · exact hS (by rw [hst, decide_eq_true h, h']; simp)
        · rw [h] at h1; cases h1
      · exact .inr h2
  · have hS2 : stopF R f y m upto k = false := by
      rw [hst, hb.1.1.1, decide_eq_false hb.1.1.2]
      rcases hb.1.2 with h | h
      · rw [decide_eq_false h]; rfl
      · rw [h]; simp
    rcases hy2 (by rw [hS2]; rfl) with ⟨_, h1, h2⟩ | ⟨h1, _⟩
    · (repeat' (first | refine AW.seq ?_ | refine AW.scope ?_ | refine AW.label ?_ | refine AW.block ?_ | refine AW.skip ?_ | refine AW.exit ?_ | refine AW.ret ?_))
      (refine AW.regionC fun Q' Kn hQ hK hK' => ?_; (repeat simp (maxSteps := 4000000) (disch := omega) only [go_sem, redN, Nat.reduceAdd, Int.reduceToNat, Int.reducePow]); (repeat' apply And.intro); (try any_goals (first | (refine hK _ _ ?_; clear hK' hQ hK Q' Kn) | (intro q; refine ⟨q, ?_⟩; simp only [redB] at q; omega) | (intro q; refine ⟨q, fun p => ?_⟩; rw [q, p]; rfl) | (simp; done) | omega | (simp only [redL]; omega) | (simp; omega) | (intros; (repeat' apply And.intro) <;> (first | assumption | omega | (simp; done))))))
      refine ⟨(k + 1, σ'), ⟨by dsimp only; omega, h2⟩, by dsimp only; omega, ?_, rfl, rfl⟩
      (repeat (first | exact Weak.nil | refine Weak.junk _ ?_ | refine Weak.same _ ?_ | refine Weak.eqv (by (congr 1; first | omega | (simp; done) | exact w_i64 (by omega) (by omega))) ?_))
    · rw [h1] at hb; exact absurd hb.2 (by decide)
end Go.Almanac

/- Recurrence: places and an owned slice; closures of the walk over all periods. -/
/-STEPS-/
namespace Go.Almanac
open Go.RowKit Go.Proofs Go.Abs
def MO (st : St) (ps : List (Nat × Blk)) (v : AV) (σ : St) (xs : List Int) : Prop := ∃ β, SW β 2 1 v σ (intsE xs) ∧ MM st ps β
section
variable {st σ : St} {ps : List (Nat × Blk)} {v : AV} {xs : List Int} {i : Nat} {B : Blk}
theorem MO.get (h : MO st ps v σ xs) (k : Nat) (hk : ps[k]? = some (i, B)) : σ i = some B := by
  obtain ⟨β, h1, h2⟩ := h
  have h3 := h2.get k hk
  rw [h1.keep i (by rw [h3]; simp), h3]
theorem MO.put (h : MO st ps v σ xs) (k : Nat) (hk : ps[k]? = some (i, B)) (B' : Blk) : MO st (ps.set k (i, B')) v (σ.set i B') xs := by
  obtain ⟨β, h1, h2⟩ := h
  exact ⟨_, h1.put (by rw [h2.get k hk]; simp) B', h2.put k hk B'⟩
theorem MO.new (h : MO st ps v σ xs) (hi : σ i = none) (B : Blk) : MO st ((i, B) :: ps) v (σ.set i B) xs := by
  obtain ⟨β, h1, h2⟩ := h
  exact ⟨_, h1.rebase hi B, h2.new (h1.fresh i hi) B⟩
theorem MO.del (h : MO st ps v σ xs) (k : Nat) (hk : ps[k]? = some (i, B)) : MO st (ps.eraseIdx k) v (σ.del i) xs := by
  obtain ⟨β, h1, h2⟩ := h
  exact ⟨_, h1.del (by rw [h2.get k hk]; simp), h2.del k hk⟩
theorem MO.sw (h : MO st ps v σ xs) : SW st 2 1 v σ (intsE xs) := by
  obtain ⟨β, h1, h2⟩ := h
  refine ⟨?_, fun j hj => ?_⟩
  · rcases h1.own with q | ⟨ia, g, e1, e2, e3⟩
    · exact .inl q
    · exact .inr ⟨ia, g, e1, e2, h2.fresh e3⟩
  · cases hx : st j with
    | none => exact absurd hx hj
    | some A => rw [h1.keep j (by rw [h2.sub j A hx]; simp), h2.sub j A hx]
theorem MO.arr (h : MO st ps v σ xs) (hne : xs ≠ []) : ∃ ia g, v = .arr ia g 1 0 xs.length := by
  obtain ⟨β, h1, _⟩ := h
  rcases h1.own with ⟨_, hz⟩ | ⟨ia, g, e1, _⟩
  · exact absurd (by simpa [intsE] using hz) hne
  · exact ⟨ia, g, by rw [e1, intsE_length]⟩
end
theorem t_full (G : Nat → AV) (R : RuleD) (start f secs y m d : Int) (b ia g : Nat) (l : List Int) (hl : l.length ≤ 1000000000) (σ : St) (hb : σ b = some (.cells 28 0 1 [[.arr ia g 1 0 l.length]])) :
    ACalls (Ev G) 31 [.fptr [.fptr (planE R start f secs y m d)], .ptr b 0 0 0] σ (fun e st' => st' = σ ∧ e = .ret (.bool (fullF R l))) := by
  refine ACalls.of_body Tryz.func31 rfl ?_
  rw [Tryz.ntmps31]
  simp only [List.length_cons, List.length_nil, Nat.reduceAdd, Nat.reduceSub, List.replicate_succ, List.replicate_zero, List.cons_append, List.nil_append]
  (repeat' (first | refine AW.seq ?_ | refine AW.scope ?_ | refine AW.label ?_ | refine AW.block ?_ | refine AW.skip ?_ | refine AW.exit ?_ | refine AW.ret ?_))
  (refine AW.regionC fun Q' Kn hQ hK hK' => ?_; (repeat simp (maxSteps := 4000000) (disch := omega) only [go_sem, redN, Nat.reduceAdd, Int.reduceToNat, Int.reducePow]); (repeat' apply And.intro); (try any_goals (first | (refine hK _ _ ?_; clear hK' hQ hK Q' Kn) | (intro q; refine ⟨q, ?_⟩; simp only [redB] at q; omega) | (intro q; refine ⟨q, fun p => ?_⟩; rw [q, p]; rfl) | (simp; done) | omega | (simp only [redL, intsE_length, wdsE_length]; omega) | (simp; omega) | (intros; (repeat' apply And.intro) <;> (first | assumption | omega | (simp; done))))))
  (repeat' (first | refine AW.seq ?_ | refine AW.scope ?_ | refine AW.label ?_ | refine AW.block ?_ | refine AW.skip ?_ | refine AW.exit ?_ | refine AW.ret ?_))
  refine AW.drawn (List.range 17) (by decide +kernel) fun Q' Kn hQ hK hK' => ?_
  refine FxC_ok _ _ _ ?_; (repeat simp (maxSteps := 4000000) (disch := omega) only [go_sem, redN, Nat.reduceAdd, Int.reduceToNat, Int.reducePow]); (repeat' apply And.intro); (try any_goals (first | (refine hK _ _ ?_; clear hK' hQ hK Q' Kn) | (intro q; refine ⟨q, ?_⟩; simp only [redB] at q; omega) | (intro q; refine ⟨q, fun p => ?_⟩; rw [q, p]; rfl) | (simp; done) | omega | (simp only [redL, intsE_length, wdsE_length]; omega) | (simp; omega) | (intros; (repeat' apply And.intro) <;> (first | assumption | omega | (simp; done)))))
  (repeat ((first | refine ⟨_, Fixed.loadCell rfl rfl rfl (by simp only [go_sem] <;> rfl) (by simp [go_sem]) hb rfl (by simp) (by simp), ?_⟩ | refine ⟨_, Fixed.guard_loadCell rfl rfl rfl rfl rfl (fun _ => (by simp only [go_sem] <;> rfl)) (fun h => by first | (simp [go_sem]; done) | simpa [go_sem] using h) hb rfl (fun _ => by simp) (by simp), ?_⟩); refine FxC_ok _ _ _ ?_; (repeat simp (maxSteps := 4000000) (disch := omega) only [go_sem, redN, Nat.reduceAdd, Int.reduceToNat, Int.reducePow]); (repeat' apply And.intro); (try any_goals (first | (refine hK _ _ ?_; clear hK' hQ hK Q' Kn) | (intro q; refine ⟨q, ?_⟩; simp only [redB] at q; omega) | (intro q; refine ⟨q, fun p => ?_⟩; rw [q, p]; rfl) | (simp; done) | omega | (simp only [redL, intsE_length, wdsE_length]; omega) | (simp; omega) | (intros; (repeat' apply And.intro) <;> (first | assumption | omega | (simp; done)))))))
  (repeat' (first | refine AW.seq ?_ | refine AW.scope ?_ | refine AW.label ?_ | refine AW.block ?_ | refine AW.skip ?_ | refine AW.exit ?_ | refine AW.ret ?_))
  (refine ⟨_, _, rfl, by simp, ?_⟩; simp only [aTup, AA.get, List.getD_cons_zero, List.getD_cons_succ, true_and])
  rfl
theorem t_spans (G : Nat → AV) (R : RuleD) (start f secs y m d upto : Int) (st : St) : ACalls (Ev G) 32 [.fptr (planE R start f secs y m d), .int .i64 upto] st
    (fun e st' => st' = st ∧ e = .ret (.clo (.func 55) [] [.fptr [.fptr (planE R start f secs y m d)], .fptr [.int .i64 upto]])) := by
  refine ACalls.thaw (R' := fun e st' => st.sub st' ∧ e = .ret (.clo (.func 55) [] [.fptr [.fptr (planE R start f secs y m d)], .fptr [.int .i64 upto]])) ?_ (fun x st1 h => ⟨2, st, h.1, rfl, by rw [h.2]; rfl⟩)
  refine ACalls.of_body Tryz.func32 rfl ?_
  rw [Tryz.ntmps32]
  simp only [List.length_cons, List.length_nil, Nat.reduceAdd, Nat.reduceSub, List.replicate_succ, List.replicate_zero, List.cons_append, List.nil_append]
  (repeat' (first | refine AW.seq ?_ | refine AW.scope ?_ | refine AW.label ?_ | refine AW.block ?_ | refine AW.skip ?_ | refine AW.exit ?_ | refine AW.ret ?_))
  refine AW.regionC fun Q' Kn hQ hK hK' => ?_
  simp (maxSteps := 4000000) (disch := omega) only [go_sem, redN, Nat.reduceAdd, Int.reduceToNat, Int.reducePow]
  refine AOp.box rfl (by simp [go_sem]) (by simp only [go_sem]; rfl) fun b2 hb2 => ?_
  (refine AOpsC_ok hK' _ _ _ ?_; (repeat simp (maxSteps := 4000000) (disch := omega) only [go_sem, redN, Nat.reduceAdd, Int.reduceToNat, Int.reducePow]); (repeat' apply And.intro); (try any_goals (first | (refine hK _ _ ?_; clear hK' hQ hK Q' Kn) | (intro q; refine ⟨q, ?_⟩; simp only [redB] at q; omega) | (intro q; refine ⟨q, fun p => ?_⟩; rw [q, p]; rfl) | (simp; done) | omega | (simp only [redL, intsE_length, wdsE_length]; omega) | (simp; omega) | (intros; (repeat' apply And.intro) <;> (first | assumption | omega | (simp; done))))))
  refine AOp.box rfl (by simp [go_sem]) (by simp only [go_sem]; rfl) fun b3 hb3 => ?_
  (refine AOpsC_ok hK' _ _ _ ?_; (repeat simp (maxSteps := 4000000) (disch := omega) only [go_sem, redN, Nat.reduceAdd, Int.reduceToNat, Int.reducePow]); (repeat' apply And.intro); (try any_goals (first | (refine hK _ _ ?_; clear hK' hQ hK Q' Kn) | (intro q; refine ⟨q, ?_⟩; simp only [redB] at q; omega) | (intro q; refine ⟨q, fun p => ?_⟩; rw [q, p]; rfl) | (simp; done) | omega | (simp only [redL, intsE_length, wdsE_length]; omega) | (simp; omega) | (intros; (repeat' apply And.intro) <;> (first | assumption | omega | (simp; done))))))
  have m1 := ((MM.nil st).new hb2 (.cells 44 0 1 [[.fptr (planE R start f secs y m d)]])).new hb3 (.cells 2 0 1 [[.int .i64 upto]])
  generalize St.set (St.set st b2 _) b3 _ = σ at m1 ⊢
  refine AW.freeze 2 rfl (m1.get 1 rfl) ?_
  have m2 := m1.del 1 rfl
  refine AW.freeze 3 rfl (m2.get 0 rfl) ?_
  have m3 := m2.del 0 rfl
  (repeat' (first | refine AW.seq ?_ | refine AW.scope ?_ | refine AW.label ?_ | refine AW.block ?_ | refine AW.skip ?_ | refine AW.exit ?_ | refine AW.ret ?_))
  (refine AW.regionC fun Q' Kn hQ hK hK' => ?_; (repeat simp (maxSteps := 4000000) (disch := omega) only [go_sem, redN, Nat.reduceAdd, Int.reduceToNat, Int.reducePow]); (repeat' apply And.intro); (try any_goals (first | (refine hK _ _ ?_; clear hK' hQ hK Q' Kn) | (intro q; refine ⟨q, ?_⟩; simp only [redB] at q; omega) | (intro q; refine ⟨q, fun p => ?_⟩; rw [q, p]; rfl) | (simp; done) | omega | (simp only [redL, intsE_length, wdsE_length]; omega) | (simp; omega) | (intros; (repeat' apply And.intro) <;> (first | assumption | omega | (simp; done))))))
  (repeat' (first | refine AW.seq ?_ | refine AW.scope ?_ | refine AW.label ?_ | refine AW.block ?_ | refine AW.skip ?_ | refine AW.exit ?_ | refine AW.ret ?_))
  (refine ⟨_, _, rfl, by simp, ?_⟩; simp only [aTup, AA.get, List.getD_cons_zero, List.getD_cons_succ, true_and])
  exact ⟨m3.sub, trivial⟩
theorem t_days (G : Nat → AV) (R : RuleD) (start f secs y m d s n : Int) (st : St) : ACalls (Ev G) 33 [.fptr (planE R start f secs y m d), .agg [.int .i64 s, .int .i64 n]] st
    (fun e st' => st' = st ∧ e = .ret (.clo (.func 57) [] [.fptr [.int .i64 s, .int .i64 n], .fptr [.fptr (planE R start f secs y m d)]])) := by
  refine ACalls.thaw (R' := fun e st' => st.sub st' ∧ e = .ret (.clo (.func 57) [] [.fptr [.int .i64 s, .int .i64 n], .fptr [.fptr (planE R start f secs y m d)]])) ?_ (fun x st1 h => ⟨2, st, h.1, rfl, by rw [h.2]; rfl⟩)
  refine ACalls.of_body Tryz.func33 rfl ?_
  rw [Tryz.ntmps33]
  simp only [List.length_cons, List.length_nil, Nat.reduceAdd, Nat.reduceSub, List.replicate_succ, List.replicate_zero, List.cons_append, List.nil_append]
  (repeat' (first | refine AW.seq ?_ | refine AW.scope ?_ | refine AW.label ?_ | refine AW.block ?_ | refine AW.skip ?_ | refine AW.exit ?_ | refine AW.ret ?_))
  refine AW.regionC fun Q' Kn hQ hK hK' => ?_
  simp (maxSteps := 4000000) (disch := omega) only [go_sem, redN, Nat.reduceAdd, Int.reduceToNat, Int.reducePow]
  refine AOp.box rfl (by simp [go_sem]) (by simp only [go_sem]; rfl) fun b2 hb2 => ?_
  (refine AOpsC_ok hK' _ _ _ ?_; (repeat simp (maxSteps := 4000000) (disch := omega) only [go_sem, redN, Nat.reduceAdd, Int.reduceToNat, Int.reducePow]); (repeat' apply And.intro); (try any_goals (first | (refine hK _ _ ?_; clear hK' hQ hK Q' Kn) | (intro q; refine ⟨q, ?_⟩; simp only [redB] at q; omega) | (intro q; refine ⟨q, fun p => ?_⟩; rw [q, p]; rfl) | (simp; done) | omega | (simp only [redL, intsE_length, wdsE_length]; omega) | (simp; omega) | (intros; (repeat' apply And.intro) <;> (first | assumption | omega | (simp; done))))))
  refine AOp.box rfl (by simp [go_sem]) (by simp only [go_sem]; rfl) fun b3 hb3 => ?_
  (refine AOpsC_ok hK' _ _ _ ?_; (repeat simp (maxSteps := 4000000) (disch := omega) only [go_sem, redN, Nat.reduceAdd, Int.reduceToNat, Int.reducePow]); (repeat' apply And.intro); (try any_goals (first | (refine hK _ _ ?_; clear hK' hQ hK Q' Kn) | (intro q; refine ⟨q, ?_⟩; simp only [redB] at q; omega) | (intro q; refine ⟨q, fun p => ?_⟩; rw [q, p]; rfl) | (simp; done) | omega | (simp only [redL, intsE_length, wdsE_length]; omega) | (simp; omega) | (intros; (repeat' apply And.intro) <;> (first | assumption | omega | (simp; done))))))
  have m1 := ((MM.nil st).new hb2 (.cells 44 0 1 [[.fptr (planE R start f secs y m d)]])).new hb3 (.cells 69 0 2 [[.int .i64 s, .int .i64 n]])
  generalize St.set (St.set st b2 _) b3 _ = σ at m1 ⊢
  refine AW.freeze 2 rfl (m1.get 1 rfl) ?_
  have m2 := m1.del 1 rfl
  refine AW.freeze 3 rfl (m2.get 0 rfl) ?_
  have m3 := m2.del 0 rfl
  (repeat' (first | refine AW.seq ?_ | refine AW.scope ?_ | refine AW.label ?_ | refine AW.block ?_ | refine AW.skip ?_ | refine AW.exit ?_ | refine AW.ret ?_))
  (refine AW.regionC fun Q' Kn hQ hK hK' => ?_; (repeat simp (maxSteps := 4000000) (disch := omega) only [go_sem, redN, Nat.reduceAdd, Int.reduceToNat, Int.reducePow]); (repeat' apply And.intro); (try any_goals (first | (refine hK _ _ ?_; clear hK' hQ hK Q' Kn) | (intro q; refine ⟨q, ?_⟩; simp only [redB] at q; omega) | (intro q; refine ⟨q, fun p => ?_⟩; rw [q, p]; rfl) | (simp; done) | omega | (simp only [redL, intsE_length, wdsE_length]; omega) | (simp; omega) | (intros; (repeat' apply And.intro) <;> (first | assumption | omega | (simp; done))))))
  (repeat' (first | refine AW.seq ?_ | refine AW.scope ?_ | refine AW.label ?_ | refine AW.block ?_ | refine AW.skip ?_ | refine AW.exit ?_ | refine AW.ret ?_))
  (refine ⟨_, _, rfl, by simp, ?_⟩; simp only [aTup, AA.get, List.getD_cons_zero, List.getD_cons_succ, true_and])
  exact ⟨m3.sub, trivial⟩
@[local go_sem] theorem zro_plan : zeroC Tryz.prog 60 = some [.int .i64 0, .int .i64 0, .int .i64 0, .bool false, .int .i64 0, .bool false, .bool false, .nils, .nils, .nils, .nils, .int .i64 0, .int .i64 0, .int .i64 0, .int .i64 0, .int .i64 0, .int .i64 0, .int .i64 0] := rfl
attribute [local go_sem] encR in
theorem t_begin (G : Nat → AV) (R : RuleD) (start : Int) (h0 : -9223372036854775808 ≤ start) (h1 : start ≤ 9223372036854775807) (st : St) : ACalls (Ev G) 15 [.int .i64 start, .agg (encR R)] st
    (fun e st' => st' = st ∧ e = .ret (.fptr (planE R start (start / 86400) (start % 86400) (civ (start / 86400)).1 (civ (start / 86400)).2.1 (civ (start / 86400)).2.2.1))) := by
  have hcv : ∀ σ : St, ACalls (Ev G) 30 [.int .i64 (start / 86400)] σ (fun e st' => st' = σ ∧ e = .ret (.tup [.int .i64 (civ (start / 86400)).1, .int .i64 (civ (start / 86400)).2.1, .int .i64 (civ (start / 86400)).2.2.1, .bool (civ (start / 86400)).2.2.2])) :=
    fun σ => ACalls.mono (t_CivilF G (start / 86400) (by omega) (by omega) σ) fun e st' h => ⟨h.1, h.2.2⟩
  generalize civ (start / 86400) = c at hcv ⊢
  refine ACalls.thawP (R' := fun e st' => ∃ b, st b = none ∧ st' = st.set b (.cells 60 0 18 [planE R start (start / 86400) (start % 86400) c.1 c.2.1 c.2.2.1]) ∧ e = .ret (.ptr b 0 0 0)) ?_ ?_
  · refine ACalls.of_body Tryz.func15 rfl ?_
    rw [Tryz.ntmps15]
    simp only [List.length_cons, List.length_nil, Nat.reduceAdd, Nat.reduceSub, List.replicate_succ, List.replicate_zero, List.cons_append, List.nil_append]
    (repeat' (first | refine AW.seq ?_ | refine AW.scope ?_ | refine AW.label ?_ | refine AW.block ?_ | refine AW.skip ?_ | refine AW.exit ?_ | refine AW.ret ?_))
    (refine AW.regionC fun Q' Kn hQ hK hK' => ?_; (repeat simp (maxSteps := 4000000) (disch := omega) only [go_sem, redN, Nat.reduceAdd, Int.reduceToNat, Int.reducePow]); (repeat' apply And.intro); (try any_goals (first | (refine hK _ _ ?_; clear hK' hQ hK Q' Kn) | (intro q; refine ⟨q, ?_⟩; simp only [redB] at q; omega) | (intro q; refine ⟨q, fun p => ?_⟩; rw [q, p]; rfl) | (simp; done) | omega | (simp only [redL, intsE_length, wdsE_length]; omega) | (simp; omega) | (intros; (repeat' apply And.intro) <;> (first | assumption | omega | (simp; done))))))
    refine AOp.box rfl (by simp [go_sem]) (by simp only [go_sem]; rfl) fun b3 hb3 => ?_
    (refine AOpsC_ok hK' _ _ _ ?_; (repeat simp (maxSteps := 4000000) (disch := omega) only [go_sem, redN, Nat.reduceAdd, Int.reduceToNat, Int.reducePow]); (repeat' apply And.intro); (try any_goals (first | (refine hK _ _ ?_; clear hK' hQ hK Q' Kn) | (intro q; refine ⟨q, ?_⟩; simp only [redB] at q; omega) | (intro q; refine ⟨q, fun p => ?_⟩; rw [q, p]; rfl) | (simp; done) | omega | (simp only [redL, intsE_length, wdsE_length]; omega) | (simp; omega) | (intros; (repeat' apply And.intro) <;> (first | assumption | omega | (simp; done))))))
    refine AW.freeze 3 rfl (St.set_same _ _ _) ?_
    rw [St.del_set _ _ hb3]
    (repeat' (first | refine AW.seq ?_ | refine AW.scope ?_ | refine AW.label ?_ | refine AW.block ?_ | refine AW.skip ?_ | refine AW.exit ?_ | refine AW.ret ?_))
    refine AW.regionC fun Q' Kn hQ hK hK' => ?_
    (repeat simp (maxSteps := 4000000) (disch := omega) only [go_sem, redN, Nat.reduceAdd, Int.reduceToNat, Int.reducePow])
    simp only [Tryz.underlying27]
    (repeat simp (maxSteps := 4000000) (disch := omega) only [go_sem, redN, Nat.reduceAdd, Int.reduceToNat, Int.reducePow])
    refine ⟨by decide, ⟨by decide, by decide⟩, ?_⟩
    refine AOp.box rfl (by simp [go_sem]) (by simp only [go_sem]; rfl) fun b9 hb9 => ?_
    (refine AOpsC_ok hK' _ _ _ ?_; (repeat simp (maxSteps := 4000000) (disch := omega) only [go_sem, redN, Nat.reduceAdd, Int.reduceToNat, Int.reducePow]); (repeat' apply And.intro); (try any_goals (first | (refine hK _ _ ?_; clear hK' hQ hK Q' Kn) | (intro q; refine ⟨q, ?_⟩; simp only [redB] at q; omega) | (intro q; refine ⟨q, fun p => ?_⟩; rw [q, p]; rfl) | (simp; done) | omega | (simp only [redL, intsE_length, wdsE_length]; omega) | (simp; omega) | (intros; (repeat' apply And.intro) <;> (first | assumption | omega | (simp; done))))))
    (repeat' (first | refine AW.seq ?_ | refine AW.scope ?_ | refine AW.label ?_ | refine AW.block ?_ | refine AW.skip ?_ | refine AW.exit ?_ | refine AW.ret ?_))
    (refine AW.regionC fun Q' Kn hQ hK hK' => ?_; (repeat simp (maxSteps := 4000000) (disch := omega) only [go_sem, redN, Nat.reduceAdd, Int.reduceToNat, Int.reducePow]); (repeat' apply And.intro); (try any_goals (first | (refine hK _ _ ?_; clear hK' hQ hK Q' Kn) | (intro q; refine ⟨q, ?_⟩; simp only [redB] at q; omega) | (intro q; refine ⟨q, fun p => ?_⟩; rw [q, p]; rfl) | (simp; done) | omega | (simp only [redL, intsE_length, wdsE_length]; omega) | (simp; omega) | (intros; (repeat' apply And.intro) <;> (first | assumption | omega | (simp; done))))))
    refine AOp.call rfl (by simp only [go_sem]; rfl) (by simp [go_sem]) rfl (ACalls.mono (by simp only [go_sem]; exact t_Parts G start h0 h1 _) ?_)
    rintro e st' ⟨rfl, rfl⟩
    (refine AOpsC_ok hK' _ _ _ ?_; (repeat simp (maxSteps := 4000000) (disch := omega) only [go_sem, redN, Nat.reduceAdd, Int.reduceToNat, Int.reducePow]); (repeat' apply And.intro); (try any_goals (first | (refine hK _ _ ?_; clear hK' hQ hK Q' Kn) | (intro q; refine ⟨q, ?_⟩; simp only [redB] at q; omega) | (intro q; refine ⟨q, fun p => ?_⟩; rw [q, p]; rfl) | (simp; done) | omega | (simp only [redL, intsE_length, wdsE_length]; omega) | (simp; omega) | (intros; (repeat' apply And.intro) <;> (first | assumption | omega | (simp; done))))))
    refine AOp.store (cs := [.int .i64 (start / 86400)]) rfl (by simp only [go_sem] <;> rfl) (by simp [go_sem]) (St.set_same _ _ _) (by first | (simp only [go_sem]; done) | (simp [go_sem]; done) | (simp [go_sem]; omega)) rfl rfl (by simp) (by simp) ?_
    (refine AOpsC_ok hK' _ _ _ ?_; (repeat simp (maxSteps := 4000000) (disch := omega) only [go_sem, redN, Nat.reduceAdd, Int.reduceToNat, Int.reducePow]); (repeat' apply And.intro); (try any_goals (first | (refine hK _ _ ?_; clear hK' hQ hK Q' Kn) | (intro q; refine ⟨q, ?_⟩; simp only [redB] at q; omega) | (intro q; refine ⟨q, fun p => ?_⟩; rw [q, p]; rfl) | (simp; done) | omega | (simp only [redL, intsE_length, wdsE_length]; omega) | (simp; omega) | (intros; (repeat' apply And.intro) <;> (first | assumption | omega | (simp; done))))))
    rw [St.set_set]
    refine AOp.store (cs := [.int .i64 (start % 86400)]) rfl (by simp only [go_sem] <;> rfl) (by simp [go_sem]) (St.set_same _ _ _) (by first | (simp only [go_sem]; done) | (simp [go_sem]; done) | (simp [go_sem]; omega)) rfl rfl (by simp) (by simp) ?_
    (refine AOpsC_ok hK' _ _ _ ?_; (repeat simp (maxSteps := 4000000) (disch := omega) only [go_sem, redN, Nat.reduceAdd, Int.reduceToNat, Int.reducePow]); (repeat' apply And.intro); (try any_goals (first | (refine hK _ _ ?_; clear hK' hQ hK Q' Kn) | (intro q; refine ⟨q, ?_⟩; simp only [redB] at q; omega) | (intro q; refine ⟨q, fun p => ?_⟩; rw [q, p]; rfl) | (simp; done) | omega | (simp only [redL, intsE_length, wdsE_length]; omega) | (simp; omega) | (intros; (repeat' apply And.intro) <;> (first | assumption | omega | (simp; done))))))
    rw [St.set_set]
    (repeat' (first | refine AW.seq ?_ | refine AW.scope ?_ | refine AW.label ?_ | refine AW.block ?_ | refine AW.skip ?_ | refine AW.exit ?_ | refine AW.ret ?_))
    (refine AW.regionC fun Q' Kn hQ hK hK' => ?_; (repeat simp (maxSteps := 4000000) (disch := omega) only [go_sem, redN, Nat.reduceAdd, Int.reduceToNat, Int.reducePow]); (repeat' apply And.intro); (try any_goals (first | (refine hK _ _ ?_; clear hK' hQ hK Q' Kn) | (intro q; refine ⟨q, ?_⟩; simp only [redB] at q; omega) | (intro q; refine ⟨q, fun p => ?_⟩; rw [q, p]; rfl) | (simp; done) | omega | (simp only [redL, intsE_length, wdsE_length]; omega) | (simp; omega) | (intros; (repeat' apply And.intro) <;> (first | assumption | omega | (simp; done))))))
    refine AOp.loadCell rfl (by simp only [go_sem] <;> rfl) (by simp [go_sem]) (St.set_same _ _ _) rfl (by simp) (by simp) ?_
    (refine AOpsC_ok hK' _ _ _ ?_; (repeat simp (maxSteps := 4000000) (disch := omega) only [go_sem, redN, Nat.reduceAdd, Int.reduceToNat, Int.reducePow]); (repeat' apply And.intro); (try any_goals (first | (refine hK _ _ ?_; clear hK' hQ hK Q' Kn) | (intro q; refine ⟨q, ?_⟩; simp only [redB] at q; omega) | (intro q; refine ⟨q, fun p => ?_⟩; rw [q, p]; rfl) | (simp; done) | omega | (simp only [redL, intsE_length, wdsE_length]; omega) | (simp; omega) | (intros; (repeat' apply And.intro) <;> (first | assumption | omega | (simp; done))))))
    refine AOp.call rfl (by simp only [go_sem]; rfl) (by simp [go_sem]) rfl (ACalls.mono (by simp only [go_sem]; exact hcv _) ?_)
    rintro e st' ⟨rfl, rfl⟩
    (refine AOpsC_ok hK' _ _ _ ?_; (repeat simp (maxSteps := 4000000) (disch := omega) only [go_sem, redN, Nat.reduceAdd, Int.reduceToNat, Int.reducePow]); (repeat' apply And.intro); (try any_goals (first | (refine hK _ _ ?_; clear hK' hQ hK Q' Kn) | (intro q; refine ⟨q, ?_⟩; simp only [redB] at q; omega) | (intro q; refine ⟨q, fun p => ?_⟩; rw [q, p]; rfl) | (simp; done) | omega | (simp only [redL, intsE_length, wdsE_length]; omega) | (simp; omega) | (intros; (repeat' apply And.intro) <;> (first | assumption | omega | (simp; done))))))
    refine AOp.store (cs := [.int .i64 c.1]) rfl (by simp only [go_sem] <;> rfl) (by simp [go_sem]) (St.set_same _ _ _) (by first | (simp only [go_sem]; done) | (simp [go_sem]; done) | (simp [go_sem]; omega)) rfl rfl (by simp) (by simp) ?_
    (refine AOpsC_ok hK' _ _ _ ?_; (repeat simp (maxSteps := 4000000) (disch := omega) only [go_sem, redN, Nat.reduceAdd, Int.reduceToNat, Int.reducePow]); (repeat' apply And.intro); (try any_goals (first | (refine hK _ _ ?_; clear hK' hQ hK Q' Kn) | (intro q; refine ⟨q, ?_⟩; simp only [redB] at q; omega) | (intro q; refine ⟨q, fun p => ?_⟩; rw [q, p]; rfl) | (simp; done) | omega | (simp only [redL, intsE_length, wdsE_length]; omega) | (simp; omega) | (intros; (repeat' apply And.intro) <;> (first | assumption | omega | (simp; done))))))
    rw [St.set_set]
    refine AOp.store (cs := [.int .i64 c.2.1]) rfl (by simp only [go_sem] <;> rfl) (by simp [go_sem]) (St.set_same _ _ _) (by first | (simp only [go_sem]; done) | (simp [go_sem]; done) | (simp [go_sem]; omega)) rfl rfl (by simp) (by simp) ?_
    (refine AOpsC_ok hK' _ _ _ ?_; (repeat simp (maxSteps := 4000000) (disch := omega) only [go_sem, redN, Nat.reduceAdd, Int.reduceToNat, Int.reducePow]); (repeat' apply And.intro); (try any_goals (first | (refine hK _ _ ?_; clear hK' hQ hK Q' Kn) | (intro q; refine ⟨q, ?_⟩; simp only [redB] at q; omega) | (intro q; refine ⟨q, fun p => ?_⟩; rw [q, p]; rfl) | (simp; done) | omega | (simp only [redL, intsE_length, wdsE_length]; omega) | (simp; omega) | (intros; (repeat' apply And.intro) <;> (first | assumption | omega | (simp; done))))))
    rw [St.set_set]
    refine AOp.store (cs := [.int .i64 c.2.2.1]) rfl (by simp only [go_sem] <;> rfl) (by simp [go_sem]) (St.set_same _ _ _) (by first | (simp only [go_sem]; done) | (simp [go_sem]; done) | (simp [go_sem]; omega)) rfl rfl (by simp) (by simp) ?_
    (refine AOpsC_ok hK' _ _ _ ?_; (repeat simp (maxSteps := 4000000) (disch := omega) only [go_sem, redN, Nat.reduceAdd, Int.reduceToNat, Int.reducePow]); (repeat' apply And.intro); (try any_goals (first | (refine hK _ _ ?_; clear hK' hQ hK Q' Kn) | (intro q; refine ⟨q, ?_⟩; simp only [redB] at q; omega) | (intro q; refine ⟨q, fun p => ?_⟩; rw [q, p]; rfl) | (simp; done) | omega | (simp only [redL, intsE_length, wdsE_length]; omega) | (simp; omega) | (intros; (repeat' apply And.intro) <;> (first | assumption | omega | (simp; done))))))
    rw [St.set_set]
    (repeat' (first | refine AW.seq ?_ | refine AW.scope ?_ | refine AW.label ?_ | refine AW.block ?_ | refine AW.skip ?_ | refine AW.exit ?_ | refine AW.ret ?_))
    (refine AW.regionC fun Q' Kn hQ hK hK' => ?_; (repeat simp (maxSteps := 4000000) (disch := omega) only [go_sem, redN, Nat.reduceAdd, Int.reduceToNat, Int.reducePow]); (repeat' apply And.intro); (try any_goals (first | (refine hK _ _ ?_; clear hK' hQ hK Q' Kn) | (intro q; refine ⟨q, ?_⟩; simp only [redB] at q; omega) | (intro q; refine ⟨q, fun p => ?_⟩; rw [q, p]; rfl) | (simp; done) | omega | (simp only [redL, intsE_length, wdsE_length]; omega) | (simp; omega) | (intros; (repeat' apply And.intro) <;> (first | assumption | omega | (simp; done))))))
    (repeat' (first | refine AW.seq ?_ | refine AW.scope ?_ | refine AW.label ?_ | refine AW.block ?_ | refine AW.skip ?_ | refine AW.exit ?_ | refine AW.ret ?_))
    (refine ⟨_, _, rfl, by simp, ?_⟩; simp only [aTup, AA.get, List.getD_cons_zero, List.getD_cons_succ, true_and])
    exact ⟨b9, hb9, rfl, rfl⟩
  · rintro x st1 ⟨b, h1, rfl, rfl⟩
    exact ⟨b, 18, 60, _, rfl, St.set_same _ _ _, h1, St.sub_set (St.sub_refl st) h1 _, rfl, rfl⟩
end Go.Almanac
