/- Recurrence: whether a rule can be, by the document. -/
import Derived.Test.YtbknconfeiojcaaGreatDoorM14
import Derived.Test.YtbknconfeiojcaaGreatDoorM9
import Derived.Test.YtbknconfeiojcaaGreatDoorM4
import Derived.Test.YtbknconfeiojcaaGreatDoorM10
import Derived.Test.YtbknconfeiojcaaGreatDoorM13
import Derived.Test.YtbknconfeiojcaaGreatDoorM11
set_option linter.unusedSimpArgs false
set_option linter.unusedVariables false
set_option linter.unusedSectionVars false
set_option maxRecDepth 10000
set_option maxHeartbeats 1000000
/- Recurrence: the days of the document's periods. -/
/-STEPS-/
namespace Go.Almanac
open Go.RowKit Go.Proofs Go.Abs
theorem pick_nil {R : RuleD} (h : R.bySetPos = []) (l : List Int) : pickF R l = l := by
  unfold pickF
  rw [List.filter_eq_self.2 (fun i _ => by rw [h]; rfl)]
  refine List.ext_getElem (by simp) fun i h1 h2 => ?_
  simp [List.getD, List.getElem?_eq_getElem h2]
set_option maxHeartbeats 8000000 in
theorem r_days (G : Nat → AV) (R : RuleD) (f secs y0 m0 d0 s : Int) (n : Nat) (hlm : R.byMonth.length ≤ 1000000) (hld : R.byMonthDay.length ≤ 1000000) (hlw : R.byDay.length ≤ 1000000) (hls : R.bySetPos.length ≤ 1000000)
    (hs0 : -100000000 ≤ s) (hs1 : s ≤ 100000000) (hn : n ≤ 1000) (hf0 : -1000000000 ≤ f) (hf1 : f ≤ 1000000000) (hq0 : 1 ≤ R.freq) (hq1 : R.freq < 5) (st : St) :
    ACalls (Ev G) 39 [.agg (rowE R f secs y0 m0 d0), .int .i64 s, .int .i64 n] st (fun e st' => st' = st ∧ e = .ret (.tree 1 (intsE (pickF R (poolF R f m0 d0 s n))))) := by
  refine ACalls.thawL (R' := fun e st1 => ∃ v, e = .ret v ∧ ((v = .tree 1 (intsE (pickF R (poolF R f m0 d0 s n))) ∧ st1 = st) ∨ SW st 2 1 v st1 (intsE (pickF R (poolF R f m0 d0 s n))))) ?_ ?_
  rotate_left
  · rintro x st1 ⟨v, rfl, ⟨rfl, rfl⟩ | h1⟩
    · exact ⟨0, st1, _, _, rfl, St.sub_refl _, VLe.refl _, rfl, rfl⟩
    · exact ⟨1, st, v, _, rfl, h1.sub (St.sub_refl st), h1.thL (St.sub_refl st) 0 (by intro e he c hc; rfl), rfl, rfl⟩
  refine ACalls.of_body Tryz.func39 rfl ?_
  rw [Tryz.ntmps39]
  simp only [List.length_cons, List.length_nil, Nat.reduceAdd, Nat.reduceSub, List.replicate_succ, List.replicate_zero, List.cons_append, List.nil_append]
  (repeat' (first | refine AW.seq ?_ | refine AW.scope ?_ | refine AW.label ?_ | refine AW.block ?_ | refine AW.skip ?_ | refine AW.exit ?_ | refine AW.ret ?_))
  (refine AW.regionC fun Q' Kn hQ hK hK' => ?_; (repeat simp (maxSteps := 4000000) (disch := omega) only [go_sem, redN, Nat.reduceAdd, Int.reduceToNat, Int.reducePow]); (repeat' apply And.intro); (try any_goals (first | (refine hK _ _ ?_; clear hK' hQ hK Q' Kn) | (simp; done) | omega | (simp only [redL, intsE_length, wdsE_length]; omega) | (simp; omega))))
  refine AOp.box rfl (by simp [go_sem]) (by simp only [go_sem]; rfl) fun b3 hb3 => ?_
  (refine AOpsC_ok hK' _ _ _ ?_; (repeat simp (maxSteps := 4000000) (disch := omega) only [go_sem, redN, Nat.reduceAdd, Int.reduceToNat, Int.reducePow]); (repeat' apply And.intro); (try any_goals (first | (refine hK _ _ ?_; clear hK' hQ hK Q' Kn) | (simp; done) | omega | (simp only [redL, intsE_length, wdsE_length]; omega) | (simp; omega))))
  refine AW.freeze 3 rfl (St.set_same _ _ _) ?_
  rw [St.del_set _ _ hb3]
  (repeat' (first | refine AW.seq ?_ | refine AW.scope ?_ | refine AW.label ?_ | refine AW.block ?_ | refine AW.skip ?_ | refine AW.exit ?_ | refine AW.ret ?_))
  (refine AW.regionC fun Q' Kn hQ hK hK' => ?_; (repeat simp (maxSteps := 4000000) (disch := omega) only [go_sem, redN, Nat.reduceAdd, Int.reduceToNat, Int.reducePow]); (repeat' apply And.intro); (try any_goals (first | (refine hK _ _ ?_; clear hK' hQ hK Q' Kn) | (simp; done) | omega | (simp only [redL, intsE_length, wdsE_length]; omega) | (simp; omega))))
  (repeat' (first | refine AW.seq ?_ | refine AW.scope ?_ | refine AW.label ?_ | refine AW.block ?_ | refine AW.skip ?_ | refine AW.exit ?_ | refine AW.ret ?_))
  (refine AW.regionC fun Q' Kn hQ hK hK' => ?_; (repeat simp (maxSteps := 4000000) (disch := omega) only [go_sem, redN, Nat.reduceAdd, Int.reduceToNat, Int.reducePow]); (repeat' apply And.intro); (try any_goals (first | (refine hK _ _ ?_; clear hK' hQ hK Q' Kn) | (simp; done) | omega | (simp only [redL, intsE_length, wdsE_length]; omega) | (simp; omega))))
  (repeat' (first | refine AW.seq ?_ | refine AW.scope ?_ | refine AW.label ?_ | refine AW.block ?_ | refine AW.skip ?_ | refine AW.exit ?_ | refine AW.ret ?_))
  refine AW.loopF (fun x : Nat × AV × St => [.agg (rowE R f secs y0 m0 d0), .int .i64 s, .int .i64 n, .fptr (rowE R f secs y0 m0 d0), .junk, .junk, .nils, x.2.1, .int .i64 x.1, .junk, .junk, .junk, .junk, .junk, .junk, .junk, .junk, .junk, .junk, .junk, .junk, .junk, .junk, .junk, .junk, .junk, .junk, .junk, .junk, .junk, .junk, .junk, .junk, .junk, .junk, .junk, .junk, .junk, .junk, .junk, .junk, .junk, .junk, .junk, .junk, .junk, .junk, .junk, .junk, .junk, .junk, .junk, .junk, .junk, .junk]) (fun x => x.2.2)
    (fun x => x.1 ≤ n ∧ SW st 2 1 x.2.1 x.2.2 (intsE (poolTo R f m0 d0 s x.1))) (fun x => n - x.1) (0, .nils, st) ?_ rfl ?_ ?_
  · (repeat (first | exact Weak.nil | refine Weak.junk _ ?_ | refine Weak.same _ ?_ | refine Weak.eqv (by (congr 1; first | omega | (simp; done) | exact w_i64 (by omega) (by omega))) ?_))
  · exact ⟨by simp, by simpa [poolTo, intsE] using SW.new st 2 1⟩
  rintro ⟨k, v, σ⟩ ⟨k1, k2⟩
  dsimp only at k1 k2 ⊢
  have hpl := poolTo_len R f m0 d0 s k
  (repeat' (first | refine AW.seq ?_ | refine AW.scope ?_ | refine AW.label ?_ | refine AW.block ?_ | refine AW.skip ?_ | refine AW.exit ?_ | refine AW.ret ?_))
  (refine AW.regionC fun Q' Kn hQ hK hK' => ?_; (repeat simp (maxSteps := 4000000) (disch := omega) only [go_sem, redN, Nat.reduceAdd, Int.reduceToNat, Int.reducePow]); (repeat' apply And.intro); (try any_goals (first | (refine hK _ _ ?_; clear hK' hQ hK Q' Kn) | (simp; done) | omega | (simp only [redL, intsE_length, wdsE_length]; omega) | (simp; omega))))
  (repeat' (first | refine AW.seq ?_ | refine AW.scope ?_ | refine AW.label ?_ | refine AW.block ?_ | refine AW.skip ?_ | refine AW.exit ?_ | refine AW.ret ?_))
  (refine AW.cond (by simp (maxSteps := 4000000) (disch := omega) only [go_sem, redN, Nat.reduceAdd, Int.reduceToNat, Int.reducePow]; rfl) (fun hb => ?_) (fun hb => ?_) <;> (try simp only [redB] at hb))
  · have hsucc := poolTo_succ R f m0 d0 s k
    rcases k2.own with ⟨rfl, _⟩ | ⟨i1, g1, rfl, _⟩
    all_goals
      (try rw [intsE_length] at k2)
      (repeat' (first | refine AW.seq ?_ | refine AW.scope ?_ | refine AW.label ?_ | refine AW.block ?_ | refine AW.skip ?_ | refine AW.exit ?_ | refine AW.ret ?_))
      (refine AW.regionC fun Q' Kn hQ hK hK' => ?_; (repeat simp (maxSteps := 4000000) (disch := omega) only [go_sem, redN, Nat.reduceAdd, Int.reduceToNat, Int.reducePow]); (repeat' apply And.intro); (try any_goals (first | (refine hK _ _ ?_; clear hK' hQ hK Q' Kn) | (simp; done) | omega | (simp only [redL, intsE_length, wdsE_length]; omega) | (simp; omega))))
      refine AOp.call rfl (by simp only [go_sem]; rfl) (by simp [go_sem]) rfl (ACalls.mono (by simp only [go_sem]; exact r_good G R f secs y0 m0 d0 (s + k) hlm hld hlw (by omega) (by omega) hf0 hf1 hq0 hq1 _) ?_)
      rintro e σ7 ⟨h7, rfl⟩; subst σ7
      (refine AOpsC_ok hK' _ _ _ ?_; (repeat simp (maxSteps := 4000000) (disch := omega) only [go_sem, redN, Nat.reduceAdd, Int.reduceToNat, Int.reducePow]); (repeat' apply And.intro); (try any_goals (first | (refine hK _ _ ?_; clear hK' hQ hK Q' Kn) | (simp; done) | omega | (simp only [redL, intsE_length, wdsE_length]; omega) | (simp; omega))))
      (repeat' (first | refine AW.seq ?_ | refine AW.scope ?_ | refine AW.label ?_ | refine AW.block ?_ | refine AW.skip ?_ | refine AW.exit ?_ | refine AW.ret ?_))
      refine AW.cutB (fun x : AV × St => [.agg (rowE R f secs y0 m0 d0), .int .i64 s, .int .i64 n, .fptr (rowE R f secs y0 m0 d0), .junk, .junk, .nils, x.1, .int .i64 k, .junk, .junk, .junk, .junk, .junk, .junk, .junk, .junk, .junk, .junk, .junk, .junk, .junk, .junk, .junk, .junk, .junk, .junk, .junk, .junk, .junk, .junk, .junk, .junk, .junk, .junk, .junk, .junk, .junk, .junk, .junk, .junk, .junk, .junk, .junk, .junk, .junk, .junk, .junk, .junk, .junk, .junk, .junk, .junk, .junk, .junk]) (fun x => x.2) (fun x => SW st 2 1 x.1 x.2 (intsE (poolTo R f m0 d0 s (k + 1)))) ?_ ?_
      · (refine AW.cond (by simp (maxSteps := 4000000) (disch := omega) only [go_sem, redN, Nat.reduceAdd, Int.reduceToNat, Int.reducePow]; rfl) (fun hb => ?_) (fun hb => ?_) <;> (try simp only [redB] at hb))
        · rw [if_pos hb] at hsucc
          (repeat' (first | refine AW.seq ?_ | refine AW.scope ?_ | refine AW.label ?_ | refine AW.block ?_ | refine AW.skip ?_ | refine AW.exit ?_ | refine AW.ret ?_))
          (refine AW.regionC fun Q' Kn hQ hK hK' => ?_; (repeat simp (maxSteps := 4000000) (disch := omega) only [go_sem, redN, Nat.reduceAdd, Int.reduceToNat, Int.reducePow]); (repeat' apply And.intro); (try any_goals (first | (refine hK _ _ ?_; clear hK' hQ hK Q' Kn) | (simp; done) | omega | (simp only [redL, intsE_length, wdsE_length]; omega) | (simp; omega))))
          refine AOp.buildSlice (e := 2) (sz := 1) (es := [[.int .i64 (s + k)]]) rfl rfl rfl rfl (by simp [partsC, go_sem]) (by simp [aParts, go_sem]) (by simp) rfl (by decide) (by decide) fun it2 hit2 => ?_
          (refine AOpsC_ok hK' _ _ _ ?_; (repeat simp (maxSteps := 4000000) (disch := omega) only [go_sem, redN, Nat.reduceAdd, Int.reduceToNat, Int.reducePow]); (repeat' apply And.intro); (try any_goals (first | (refine hK _ _ ?_; clear hK' hQ hK Q' Kn) | (simp; done) | omega | (simp only [redL, intsE_length, wdsE_length]; omega) | (simp; omega))))
          refine AOp.appendE (e := 2) (sz := 1) (by_ := 8) (es := intsE (poolTo R f m0 d0 s k)) (xs := [[.int .i64 (s + k)]]) rfl rfl rfl rfl rfl rfl rfl (by decide) k2 hit2 rfl (by simp [isCell]) (by simp only [intsE_length]; omega) (by simp only [intsE_length, maxLen]; omega) (by simp) fun v' σ' h9 => ?_
          (refine AOpsC_ok hK' _ _ _ ?_; (repeat simp (maxSteps := 4000000) (disch := omega) only [go_sem, redN, Nat.reduceAdd, Int.reduceToNat, Int.reducePow]); (repeat' apply And.intro); (try any_goals (first | (refine hK _ _ ?_; clear hK' hQ hK Q' Kn) | (simp; done) | omega | (simp only [redL, intsE_length, wdsE_length]; omega) | (simp; omega))))
          rw [intsE_snoc, ← hsucc] at h9
          (repeat' (first | refine AW.seq ?_ | refine AW.scope ?_ | refine AW.label ?_ | refine AW.block ?_ | refine AW.skip ?_ | refine AW.exit ?_ | refine AW.ret ?_ | (refine AW.regionC fun Q' Kn hQ hK hK' => ?_; (repeat simp (maxSteps := 4000000) (disch := omega) only [go_sem, redN, Nat.reduceAdd, Int.reduceToNat, Int.reducePow]); (repeat' apply And.intro); (try any_goals (first | (refine hK _ _ ?_; clear hK' hQ hK Q' Kn) | (simp; done) | omega | (simp only [redL, intsE_length, wdsE_length]; omega) | (simp; omega)))) | (refine AW.cond (by simp (maxSteps := 4000000) (disch := omega) only [go_sem, redN, Nat.reduceAdd, Int.reduceToNat, Int.reducePow]; rfl) (fun hb => ?_) (fun hb => ?_) <;> (try simp only [redB] at hb))))
          refine ⟨(v', σ'), h9, ?_, rfl, rfl⟩
          (repeat (first | exact Weak.nil | refine Weak.junk _ ?_ | refine Weak.same _ ?_ | refine Weak.eqv (by (congr 1; first | omega | (simp; done) | exact w_i64 (by omega) (by omega))) ?_))
        · rw [if_neg (by simpa using hb), List.append_nil] at hsucc
          (repeat' (first | refine AW.seq ?_ | refine AW.scope ?_ | refine AW.label ?_ | refine AW.block ?_ | refine AW.skip ?_ | refine AW.exit ?_ | refine AW.ret ?_))
          refine ⟨(_, _), by rw [hsucc]; exact k2, ?_, rfl, rfl⟩
          (repeat (first | exact Weak.nil | refine Weak.junk _ ?_ | refine Weak.same _ ?_ | refine Weak.eqv (by (congr 1; first | omega | (simp; done) | exact w_i64 (by omega) (by omega))) ?_))
      rintro ⟨v2, σ2⟩ h9
      dsimp only at h9 ⊢
      (repeat' (first | refine AW.seq ?_ | refine AW.scope ?_ | refine AW.label ?_ | refine AW.block ?_ | refine AW.skip ?_ | refine AW.exit ?_ | refine AW.ret ?_))
      (refine AW.regionC fun Q' Kn hQ hK hK' => ?_; (repeat simp (maxSteps := 4000000) (disch := omega) only [go_sem, redN, Nat.reduceAdd, Int.reduceToNat, Int.reducePow]); (repeat' apply And.intro); (try any_goals (first | (refine hK _ _ ?_; clear hK' hQ hK Q' Kn) | (simp; done) | omega | (simp only [redL, intsE_length, wdsE_length]; omega) | (simp; omega))))
      refine ⟨(k + 1, v2, σ2), ⟨by dsimp only; omega, h9⟩, by dsimp only; omega, ?_, rfl, rfl⟩
      (repeat (first | exact Weak.nil | refine Weak.junk _ ?_ | refine Weak.same _ ?_ | refine Weak.eqv (by (congr 1; first | omega | (simp; done) | exact w_i64 (by omega) (by omega))) ?_))
  have hkn : k = n := by omega
  subst hkn
  have k3 : SW st 2 1 v σ (intsE (poolF R f m0 d0 s k)) := k2
  have hpl2 : (poolF R f m0 d0 s k).length ≤ k := hpl
  clear k2 hpl
  generalize poolF R f m0 d0 s k = L at *
  (repeat' (first | refine AW.seq ?_ | refine AW.scope ?_ | refine AW.label ?_ | refine AW.block ?_ | refine AW.skip ?_ | refine AW.exit ?_ | refine AW.ret ?_))
  refine AW.settleT 7 rfl k3 (by intro e he c hc; rfl) ?_
  (repeat' (first | refine AW.seq ?_ | refine AW.scope ?_ | refine AW.label ?_ | refine AW.block ?_ | refine AW.skip ?_ | refine AW.exit ?_ | refine AW.ret ?_))
  (refine AW.regionC fun Q' Kn hQ hK hK' => ?_; (repeat simp (maxSteps := 4000000) (disch := omega) only [go_sem, redN, Nat.reduceAdd, Int.reduceToNat, Int.reducePow]); (repeat' apply And.intro); (try any_goals (first | (refine hK _ _ ?_; clear hK' hQ hK Q' Kn) | (simp; done) | omega | (simp only [redL, intsE_length, wdsE_length]; omega) | (simp; omega))))
  (repeat' (first | refine AW.seq ?_ | refine AW.scope ?_ | refine AW.label ?_ | refine AW.block ?_ | refine AW.skip ?_ | refine AW.exit ?_ | refine AW.ret ?_))
  have hlen : L.length ≤ 1000 := by omega
  (refine AW.cond (by simp (maxSteps := 4000000) (disch := omega) only [go_sem, redN, Nat.reduceAdd, Int.reduceToNat, Int.reducePow]; rfl) (fun hb => ?_) (fun hb => ?_) <;> (try simp only [redB] at hb))
  · (repeat' (first | refine AW.seq ?_ | refine AW.scope ?_ | refine AW.label ?_ | refine AW.block ?_ | refine AW.skip ?_ | refine AW.exit ?_ | refine AW.ret ?_))
    (refine AW.regionC fun Q' Kn hQ hK hK' => ?_; (repeat simp (maxSteps := 4000000) (disch := omega) only [go_sem, redN, Nat.reduceAdd, Int.reduceToNat, Int.reducePow]); (repeat' apply And.intro); (try any_goals (first | (refine hK _ _ ?_; clear hK' hQ hK Q' Kn) | (simp; done) | omega | (simp only [redL, intsE_length, wdsE_length]; omega) | (simp; omega))))
    (repeat' (first | refine AW.seq ?_ | refine AW.scope ?_ | refine AW.label ?_ | refine AW.block ?_ | refine AW.skip ?_ | refine AW.exit ?_ | refine AW.ret ?_))
    (refine ⟨_, _, rfl, by simp, ?_⟩; simp only [aTup, AA.get, List.getD_cons_zero, List.getD_cons_succ, true_and])
    refine ⟨_, rfl, .inl ⟨?_, trivial⟩⟩
    rw [pick_nil ((len_zeroK _).1 hb)]
  have hne : decide (R.bySetPos = []) = false := decide_eq_false fun h => hb ((len_zeroK _).2 h)
  (repeat' (first | refine AW.seq ?_ | refine AW.scope ?_ | refine AW.label ?_ | refine AW.block ?_ | refine AW.skip ?_ | refine AW.exit ?_ | refine AW.ret ?_))
  (refine AW.regionC fun Q' Kn hQ hK hK' => ?_; (repeat simp (maxSteps := 4000000) (disch := omega) only [go_sem, redN, Nat.reduceAdd, Int.reduceToNat, Int.reducePow]); (repeat' apply And.intro); (try any_goals (first | (refine hK _ _ ?_; clear hK' hQ hK Q' Kn) | (simp; done) | omega | (simp only [redL, intsE_length, wdsE_length]; omega) | (simp; omega))))
  (repeat' (first | refine AW.seq ?_ | refine AW.scope ?_ | refine AW.label ?_ | refine AW.block ?_ | refine AW.skip ?_ | refine AW.exit ?_ | refine AW.ret ?_))
  (refine AW.regionC fun Q' Kn hQ hK hK' => ?_; (repeat simp (maxSteps := 4000000) (disch := omega) only [go_sem, redN, Nat.reduceAdd, Int.reduceToNat, Int.reducePow]); (repeat' apply And.intro); (try any_goals (first | (refine hK _ _ ?_; clear hK' hQ hK Q' Kn) | (simp; done) | omega | (simp only [redL, intsE_length, wdsE_length]; omega) | (simp; omega))))
  (repeat' (first | refine AW.seq ?_ | refine AW.scope ?_ | refine AW.label ?_ | refine AW.block ?_ | refine AW.skip ?_ | refine AW.exit ?_ | refine AW.ret ?_))
  refine AW.loopF (fun x : Nat × AV × St => [.agg (rowE R f secs y0 m0 d0), .int .i64 s, .int .i64 k, .fptr (rowE R f secs y0 m0 d0), .junk, .junk, .nils, .tree 1 (intsE L), .junk, x.2.1, .int .i64 x.1, .junk, .junk, .junk, .junk, .junk, .junk, .junk, .junk, .junk, .junk, .junk, .junk, .junk, .junk, .junk, .junk, .junk, .junk, .junk, .junk, .junk, .junk, .junk, .junk, .junk, .junk, .junk, .junk, .junk, .junk, .junk, .junk, .junk, .junk, .junk, .junk, .junk, .junk, .junk, .junk, .junk, .junk, .junk, .junk]) (fun x => x.2.2)
    (fun x => x.1 ≤ L.length ∧ SW st 2 1 x.2.1 x.2.2 (intsE (pickTo R L x.1))) (fun x => L.length - x.1) (0, .nils, st) ?_ rfl ?_ ?_
  · (repeat (first | exact Weak.nil | refine Weak.junk _ ?_ | refine Weak.same _ ?_ | refine Weak.eqv (by (congr 1; first | omega | (simp; done) | exact w_i64 (by omega) (by omega))) ?_))
  · exact ⟨by simp, by simpa [pickTo, intsE] using SW.new st 2 1⟩
  rintro ⟨i, v1, σ1⟩ ⟨j1, j2⟩
  dsimp only at j1 j2 ⊢
  have hpl3 : (pickTo R L i).length ≤ i := by
    unfold pickTo
    rw [List.length_map]
    refine Nat.le_trans (List.length_filter_le _ _) ?_
    simp
  (repeat' (first | refine AW.seq ?_ | refine AW.scope ?_ | refine AW.label ?_ | refine AW.block ?_ | refine AW.skip ?_ | refine AW.exit ?_ | refine AW.ret ?_))
  (refine AW.regionC fun Q' Kn hQ hK hK' => ?_; (repeat simp (maxSteps := 4000000) (disch := omega) only [go_sem, redN, Nat.reduceAdd, Int.reduceToNat, Int.reducePow]); (repeat' apply And.intro); (try any_goals (first | (refine hK _ _ ?_; clear hK' hQ hK Q' Kn) | (simp; done) | omega | (simp only [redL, intsE_length, wdsE_length]; omega) | (simp; omega))))
  (repeat' (first | refine AW.seq ?_ | refine AW.scope ?_ | refine AW.label ?_ | refine AW.block ?_ | refine AW.skip ?_ | refine AW.exit ?_ | refine AW.ret ?_))
  (refine AW.cond (by simp (maxSteps := 4000000) (disch := omega) only [go_sem, redN, Nat.reduceAdd, Int.reduceToNat, Int.reducePow]; rfl) (fun hb => ?_) (fun hb => ?_) <;> (try simp only [redB] at hb))
  · have hil : i < L.length := by omega
    have hsucc := pickTo_succ R L i
    have hok : okPos R L i = countsF R.bySetPos ((i : Int) + 1) L.length := by
      rw [okPos, hne, Bool.false_or]
    obtain ⟨x, hx⟩ : ∃ x, L.getD i 0 = x := ⟨_, rfl⟩
    rw [hx, hok] at hsucc
    rcases j2.own with ⟨rfl, _⟩ | ⟨i1, g1, rfl, _⟩
    all_goals
      (try rw [intsE_length] at j2)
      (repeat' (first | refine AW.seq ?_ | refine AW.scope ?_ | refine AW.label ?_ | refine AW.block ?_ | refine AW.skip ?_ | refine AW.exit ?_ | refine AW.ret ?_))
      (refine AW.regionC fun Q' Kn hQ hK hK' => ?_; (repeat simp (maxSteps := 4000000) (disch := omega) only [go_sem, redN, Nat.reduceAdd, Int.reduceToNat, Int.reducePow]); (repeat' apply And.intro); (try any_goals (first | (refine hK _ _ ?_; clear hK' hQ hK Q' Kn) | (simp; done) | omega | (simp only [redL, intsE_length, wdsE_length]; omega) | (simp; omega))))
      refine AOp.call rfl (by simp only [go_sem]; rfl) (by simp [go_sem]) rfl (ACalls.mono (by simp only [go_sem]; exact r_member G R.bySetPos ((i : Int) + 1) L.length (by omega) (by omega) (by omega) (by omega) _) ?_)
      rintro e σ7 ⟨h7, rfl⟩; subst σ7
      (refine AOpsC_ok hK' _ _ _ ?_; (repeat simp (maxSteps := 4000000) (disch := omega) only [go_sem, redN, Nat.reduceAdd, Int.reduceToNat, Int.reducePow]); (repeat' apply And.intro); (try any_goals (first | (refine hK _ _ ?_; clear hK' hQ hK Q' Kn) | (simp; done) | omega | (simp only [redL, intsE_length, wdsE_length]; omega) | (simp; omega))))
      (repeat' (first | refine AW.seq ?_ | refine AW.scope ?_ | refine AW.label ?_ | refine AW.block ?_ | refine AW.skip ?_ | refine AW.exit ?_ | refine AW.ret ?_))
      refine AW.cutB (fun x : AV × St => [.agg (rowE R f secs y0 m0 d0), .int .i64 s, .int .i64 k, .fptr (rowE R f secs y0 m0 d0), .junk, .junk, .nils, .tree 1 (intsE L), .junk, x.1, .int .i64 i, .junk, .junk, .junk, .junk, .junk, .junk, .junk, .junk, .junk, .junk, .junk, .junk, .junk, .junk, .junk, .junk, .junk, .junk, .junk, .junk, .junk, .junk, .junk, .junk, .junk, .junk, .junk, .junk, .junk, .junk, .junk, .junk, .junk, .junk, .junk, .junk, .junk, .junk, .junk, .junk, .junk, .junk, .junk, .junk]) (fun x => x.2) (fun x => SW st 2 1 x.1 x.2 (intsE (pickTo R L (i + 1)))) ?_ ?_
      · (refine AW.cond (by simp (maxSteps := 4000000) (disch := omega) only [go_sem, redN, Nat.reduceAdd, Int.reduceToNat, Int.reducePow]; rfl) (fun hb => ?_) (fun hb => ?_) <;> (try simp only [redB] at hb))
        · rw [if_pos hb] at hsucc
          (repeat' (first | refine AW.seq ?_ | refine AW.scope ?_ | refine AW.label ?_ | refine AW.block ?_ | refine AW.skip ?_ | refine AW.exit ?_ | refine AW.ret ?_))
          (refine AW.regionC fun Q' Kn hQ hK hK' => ?_; (repeat simp (maxSteps := 4000000) (disch := omega) only [go_sem, redN, Nat.reduceAdd, Int.reduceToNat, Int.reducePow]); (repeat' apply And.intro); (try any_goals (first | (refine hK _ _ ?_; clear hK' hQ hK Q' Kn) | (simp; done) | omega | (simp only [redL, intsE_length, wdsE_length]; omega) | (simp; omega))))
          (try simp only [Int.toNat_natCast])
          (try rw [hx])
          refine AOp.buildSlice (e := 2) (sz := 1) (es := [[.int .i64 x]]) rfl rfl rfl rfl (by simp [partsC, go_sem]) (by simp [aParts, go_sem]) (by simp) rfl (by decide) (by decide) fun it2 hit2 => ?_
          (refine AOpsC_ok hK' _ _ _ ?_; (repeat simp (maxSteps := 4000000) (disch := omega) only [go_sem, redN, Nat.reduceAdd, Int.reduceToNat, Int.reducePow]); (repeat' apply And.intro); (try any_goals (first | (refine hK _ _ ?_; clear hK' hQ hK Q' Kn) | (simp; done) | omega | (simp only [redL, intsE_length, wdsE_length]; omega) | (simp; omega))))
          refine AOp.appendE (e := 2) (sz := 1) (by_ := 8) (es := intsE (pickTo R L i)) (xs := [[.int .i64 x]]) rfl rfl rfl rfl rfl rfl rfl (by decide) j2 hit2 rfl (by simp [isCell]) (by simp only [intsE_length]; omega) (by simp only [intsE_length, maxLen]; omega) (by simp) fun v' σ' h9 => ?_
          (refine AOpsC_ok hK' _ _ _ ?_; (repeat simp (maxSteps := 4000000) (disch := omega) only [go_sem, redN, Nat.reduceAdd, Int.reduceToNat, Int.reducePow]); (repeat' apply And.intro); (try any_goals (first | (refine hK _ _ ?_; clear hK' hQ hK Q' Kn) | (simp; done) | omega | (simp only [redL, intsE_length, wdsE_length]; omega) | (simp; omega))))
          rw [intsE_snoc, ← hsucc] at h9
          (repeat' (first | refine AW.seq ?_ | refine AW.scope ?_ | refine AW.label ?_ | refine AW.block ?_ | refine AW.skip ?_ | refine AW.exit ?_ | refine AW.ret ?_ | (refine AW.regionC fun Q' Kn hQ hK hK' => ?_; (repeat simp (maxSteps := 4000000) (disch := omega) only [go_sem, redN, Nat.reduceAdd, Int.reduceToNat, Int.reducePow]); (repeat' apply And.intro); (try any_goals (first | (refine hK _ _ ?_; clear hK' hQ hK Q' Kn) | (simp; done) | omega | (simp only [redL, intsE_length, wdsE_length]; omega) | (simp; omega)))) | (refine AW.cond (by simp (maxSteps := 4000000) (disch := omega) only [go_sem, redN, Nat.reduceAdd, Int.reduceToNat, Int.reducePow]; rfl) (fun hb => ?_) (fun hb => ?_) <;> (try simp only [redB] at hb))))
          refine ⟨(v', σ'), h9, ?_, rfl, rfl⟩
          (repeat (first | exact Weak.nil | refine Weak.junk _ ?_ | refine Weak.same _ ?_ | refine Weak.eqv (by (congr 1; first | omega | (simp; done) | exact w_i64 (by omega) (by omega))) ?_))
        · rw [if_neg (by simpa using hb), List.append_nil] at hsucc
          (repeat' (first | refine AW.seq ?_ | refine AW.scope ?_ | refine AW.label ?_ | refine AW.block ?_ | refine AW.skip ?_ | refine AW.exit ?_ | refine AW.ret ?_))
          refine ⟨(_, _), by rw [hsucc]; exact j2, ?_, rfl, rfl⟩
          (repeat (first | exact Weak.nil | refine Weak.junk _ ?_ | refine Weak.same _ ?_ | refine Weak.eqv (by (congr 1; first | omega | (simp; done) | exact w_i64 (by omega) (by omega))) ?_))
      rintro ⟨v2, σ2⟩ h9
      dsimp only at h9 ⊢
      (repeat' (first | refine AW.seq ?_ | refine AW.scope ?_ | refine AW.label ?_ | refine AW.block ?_ | refine AW.skip ?_ | refine AW.exit ?_ | refine AW.ret ?_))
      (refine AW.regionC fun Q' Kn hQ hK hK' => ?_; (repeat simp (maxSteps := 4000000) (disch := omega) only [go_sem, redN, Nat.reduceAdd, Int.reduceToNat, Int.reducePow]); (repeat' apply And.intro); (try any_goals (first | (refine hK _ _ ?_; clear hK' hQ hK Q' Kn) | (simp; done) | omega | (simp only [redL, intsE_length, wdsE_length]; omega) | (simp; omega))))
      refine ⟨(i + 1, v2, σ2), ⟨by dsimp only; omega, h9⟩, by dsimp only; omega, ?_, rfl, rfl⟩
      (repeat (first | exact Weak.nil | refine Weak.junk _ ?_ | refine Weak.same _ ?_ | refine Weak.eqv (by (congr 1; first | omega | (simp; done) | exact w_i64 (by omega) (by omega))) ?_))
  have hin : i = L.length := by omega
  subst hin
  (repeat' (first | refine AW.seq ?_ | refine AW.scope ?_ | refine AW.label ?_ | refine AW.block ?_ | refine AW.skip ?_ | refine AW.exit ?_ | refine AW.ret ?_))
  (refine AW.regionC fun Q' Kn hQ hK hK' => ?_; (repeat simp (maxSteps := 4000000) (disch := omega) only [go_sem, redN, Nat.reduceAdd, Int.reduceToNat, Int.reducePow]); (repeat' apply And.intro); (try any_goals (first | (refine hK _ _ ?_; clear hK' hQ hK Q' Kn) | (simp; done) | omega | (simp only [redL, intsE_length, wdsE_length]; omega) | (simp; omega))))
  (repeat' (first | refine AW.seq ?_ | refine AW.scope ?_ | refine AW.label ?_ | refine AW.block ?_ | refine AW.skip ?_ | refine AW.exit ?_ | refine AW.ret ?_))
  (refine ⟨_, _, rfl, by simp, ?_⟩; simp only [aTup, AA.get, List.getD_cons_zero, List.getD_cons_succ, true_and])
  exact ⟨_, rfl, .inr j2⟩
end Go.Almanac

/- Recurrence: the document's occurrences ahead of a time. -/
/-STEPS-/
namespace Go.Almanac
open Go.RowKit Go.Proofs Go.Abs
set_option maxHeartbeats 8000000 in
theorem r_all (G : Nat → AV) (R : RuleD) (start f secs y m d upto : Int) (hf0 : -719162 ≤ f) (hf1 : f ≤ 2932896) (hy0 : 1 ≤ y) (hy1 : y ≤ 9999) (hm0 : 1 ≤ m) (hm1 : m ≤ 12) (hw0 : 0 ≤ R.wkst) (hw1 : R.wkst ≤ 6) (hc0 : 0 ≤ secs) (hc1 : secs < 86400)
    (hi0 : 1 ≤ R.interval) (hi1 : R.interval ≤ 1000) (hs0 : -1000000000000000 ≤ R.secs) (hs1 : R.secs ≤ 1000000000000000) (hlm : R.byMonth.length ≤ 1000000) (hld : R.byMonthDay.length ≤ 1000000) (hlw : R.byDay.length ≤ 1000000) (hls : R.bySetPos.length ≤ 1000000)
    (hq0 : 1 ≤ R.freq) (hq1 : R.freq < 5)
    (hbeg : ∀ σ, ACalls (Ev G) 36 [.int .i64 start, .agg (encR R)] σ (fun e st' => st' = σ ∧ e = .ret (.agg (rowE R f secs y m d))))
    (la : List Int) (oka : Bool) (hA : goF R start upto f secs y m d 4000 0 [start] = (la, oka)) (st : St) :
    ACalls (Ev G) 19 [.int .i64 start, .agg (encR R), .int .i64 upto] st (fun e st' => st' = st ∧ la ≠ [] ∧ la.length ≤ 10000000 ∧ e = .ret (.tup [.tree 1 (intsE la), .bool oka])) := by
  refine ACalls.thawL (R' := fun e st1 => ∃ v, SW st 2 1 v st1 (intsE la) ∧ la ≠ [] ∧ la.length ≤ 10000000 ∧ e = .ret (.tup [v, .bool oka])) ?_ ?_
  rotate_left
  · rintro x st1 ⟨v, h1, h2, h3, rfl⟩
    exact ⟨2, st, _, _, rfl, h1.sub (St.sub_refl st), VLe.tup (LLe.cons (h1.thL (St.sub_refl st) 0 (by intro e he c hc; rfl)) (LLe.cons (VLe.of_eq (th_bool _ _ _ _)) LLe.nil)), rfl, h2, h3, rfl⟩
  refine ACalls.of_body Tryz.func19 rfl ?_
  rw [Tryz.ntmps19]
  simp only [List.length_cons, List.length_nil, Nat.reduceAdd, Nat.reduceSub, List.replicate_succ, List.replicate_zero, List.cons_append, List.nil_append]
  (repeat' (first | refine AW.seq ?_ | refine AW.scope ?_ | refine AW.label ?_ | refine AW.block ?_ | refine AW.skip ?_ | refine AW.exit ?_ | refine AW.ret ?_))
  (refine AW.regionC fun Q' Kn hQ hK hK' => ?_; (repeat simp (maxSteps := 4000000) (disch := omega) only [go_sem, redN, Nat.reduceAdd, Int.reduceToNat, Int.reducePow]); (repeat' apply And.intro); (try any_goals (first | (refine hK _ _ ?_; clear hK' hQ hK Q' Kn) | (intro q; refine ⟨q, ?_⟩; simp only [redB] at q; omega) | (intro q; refine ⟨q, fun p => ?_⟩; rw [q, p]; rfl) | (simp; done) | omega | (simp only [redL, intsE_length, wdsE_length]; omega) | (simp; omega) | (intros; (repeat' apply And.intro) <;> (first | assumption | omega | (simp; done))))))
  refine AOp.box rfl (by simp [go_sem]) (by simp only [go_sem]; rfl) fun b4 hb4 => ?_
  (refine AOpsC_ok hK' _ _ _ ?_; (repeat simp (maxSteps := 4000000) (disch := omega) only [go_sem, redN, Nat.reduceAdd, Int.reduceToNat, Int.reducePow]); (repeat' apply And.intro); (try any_goals (first | (refine hK _ _ ?_; clear hK' hQ hK Q' Kn) | (intro q; refine ⟨q, ?_⟩; simp only [redB] at q; omega) | (intro q; refine ⟨q, fun p => ?_⟩; rw [q, p]; rfl) | (simp; done) | omega | (simp only [redL, intsE_length, wdsE_length]; omega) | (simp; omega) | (intros; (repeat' apply And.intro) <;> (first | assumption | omega | (simp; done))))))
  refine AW.freeze 4 rfl (St.set_same _ _ _) ?_
  rw [St.del_set _ _ hb4]
  (repeat' (first | refine AW.seq ?_ | refine AW.scope ?_ | refine AW.label ?_ | refine AW.block ?_ | refine AW.skip ?_ | refine AW.exit ?_ | refine AW.ret ?_))
  (refine AW.regionC fun Q' Kn hQ hK hK' => ?_; (repeat simp (maxSteps := 4000000) (disch := omega) only [go_sem, redN, Nat.reduceAdd, Int.reduceToNat, Int.reducePow]); (repeat' apply And.intro); (try any_goals (first | (refine hK _ _ ?_; clear hK' hQ hK Q' Kn) | (intro q; refine ⟨q, ?_⟩; simp only [redB] at q; omega) | (intro q; refine ⟨q, fun p => ?_⟩; rw [q, p]; rfl) | (simp; done) | omega | (simp only [redL, intsE_length, wdsE_length]; omega) | (simp; omega) | (intros; (repeat' apply And.intro) <;> (first | assumption | omega | (simp; done))))))
  refine AOp.call rfl (by simp only [go_sem]; rfl) (by simp [go_sem]) rfl (ACalls.mono (by simp only [go_sem]; exact hbeg _) ?_)
  rintro e σ7 ⟨h7, rfl⟩; subst σ7
  (refine AOpsC_ok hK' _ _ _ ?_; (repeat simp (maxSteps := 4000000) (disch := omega) only [go_sem, redN, Nat.reduceAdd, Int.reduceToNat, Int.reducePow]); (repeat' apply And.intro); (try any_goals (first | (refine hK _ _ ?_; clear hK' hQ hK Q' Kn) | (intro q; refine ⟨q, ?_⟩; simp only [redB] at q; omega) | (intro q; refine ⟨q, fun p => ?_⟩; rw [q, p]; rfl) | (simp; done) | omega | (simp only [redL, intsE_length, wdsE_length]; omega) | (simp; omega) | (intros; (repeat' apply And.intro) <;> (first | assumption | omega | (simp; done))))))
  refine AOp.alloc rfl (by simp only [go_sem]; rfl) fun b8 hb8 => ?_
  (refine AOpsC_ok hK' _ _ _ ?_; (repeat simp (maxSteps := 4000000) (disch := omega) only [go_sem, redN, Nat.reduceAdd, Int.reduceToNat, Int.reducePow]); (repeat' apply And.intro); (try any_goals (first | (refine hK _ _ ?_; clear hK' hQ hK Q' Kn) | (intro q; refine ⟨q, ?_⟩; simp only [redB] at q; omega) | (intro q; refine ⟨q, fun p => ?_⟩; rw [q, p]; rfl) | (simp; done) | omega | (simp only [redL, intsE_length, wdsE_length]; omega) | (simp; omega) | (intros; (repeat' apply And.intro) <;> (first | assumption | omega | (simp; done))))))
  refine AOp.storeAll (cs := rowE R f secs y m d) rfl (by simp only [go_sem] <;> rfl) (by simp [go_sem]) (St.set_same _ _ _) (by simp [go_sem, aCells]) rfl rfl rfl rfl ?_
  (refine AOpsC_ok hK' _ _ _ ?_; (repeat simp (maxSteps := 4000000) (disch := omega) only [go_sem, redN, Nat.reduceAdd, Int.reduceToNat, Int.reducePow]); (repeat' apply And.intro); (try any_goals (first | (refine hK _ _ ?_; clear hK' hQ hK Q' Kn) | (intro q; refine ⟨q, ?_⟩; simp only [redB] at q; omega) | (intro q; refine ⟨q, fun p => ?_⟩; rw [q, p]; rfl) | (simp; done) | omega | (simp only [redL, intsE_length, wdsE_length]; omega) | (simp; omega) | (intros; (repeat' apply And.intro) <;> (first | assumption | omega | (simp; done))))))
  refine AW.freeze 8 rfl (St.set_same _ _ _) ?_
  rw [St.set_set, St.del_set _ _ hb8]
  (repeat' (first | refine AW.seq ?_ | refine AW.scope ?_ | refine AW.label ?_ | refine AW.block ?_ | refine AW.skip ?_ | refine AW.exit ?_ | refine AW.ret ?_))
  (refine AW.regionC fun Q' Kn hQ hK hK' => ?_; (repeat simp (maxSteps := 4000000) (disch := omega) only [go_sem, redN, Nat.reduceAdd, Int.reduceToNat, Int.reducePow]); (repeat' apply And.intro); (try any_goals (first | (refine hK _ _ ?_; clear hK' hQ hK Q' Kn) | (intro q; refine ⟨q, ?_⟩; simp only [redB] at q; omega) | (intro q; refine ⟨q, fun p => ?_⟩; rw [q, p]; rfl) | (simp; done) | omega | (simp only [redL, intsE_length, wdsE_length]; omega) | (simp; omega) | (intros; (repeat' apply And.intro) <;> (first | assumption | omega | (simp; done))))))
  refine AOp.buildSlice (e := 2) (sz := 1) (es := intsE [start]) rfl rfl rfl rfl (by simp [partsC, go_sem]) (by simp [aParts, go_sem, intsE]) (by simp [intsE]) rfl (by decide) (by decide) fun it hit => ?_
  (refine AOpsC_ok hK' _ _ _ ?_; (repeat simp (maxSteps := 4000000) (disch := omega) only [go_sem, redN, Nat.reduceAdd, Int.reduceToNat, Int.reducePow]); (repeat' apply And.intro); (try any_goals (first | (refine hK _ _ ?_; clear hK' hQ hK Q' Kn) | (intro q; refine ⟨q, ?_⟩; simp only [redB] at q; omega) | (intro q; refine ⟨q, fun p => ?_⟩; rw [q, p]; rfl) | (simp; done) | omega | (simp only [redL, intsE_length, wdsE_length]; omega) | (simp; omega) | (intros; (repeat' apply And.intro) <;> (first | assumption | omega | (simp; done))))))
  have w0 : SW st 2 1 (.arr it 0 1 0 1) (st.set it (.cells 2 0 1 (intsE [start]))) (intsE [start]) := ⟨.inr ⟨it, 0, rfl, St.set_same _ _ _, hit⟩, fun i hi => by rw [St.set_ne _ _ (fun e => hi (by rw [e]; exact hit))]⟩
  (repeat' (first | refine AW.seq ?_ | refine AW.scope ?_ | refine AW.label ?_ | refine AW.block ?_ | refine AW.skip ?_ | refine AW.exit ?_ | refine AW.ret ?_))
  (refine AW.regionC fun Q' Kn hQ hK hK' => ?_; (repeat simp (maxSteps := 4000000) (disch := omega) only [go_sem, redN, Nat.reduceAdd, Int.reduceToNat, Int.reducePow]); (repeat' apply And.intro); (try any_goals (first | (refine hK _ _ ?_; clear hK' hQ hK Q' Kn) | (intro q; refine ⟨q, ?_⟩; simp only [redB] at q; omega) | (intro q; refine ⟨q, fun p => ?_⟩; rw [q, p]; rfl) | (simp; done) | omega | (simp only [redL, intsE_length, wdsE_length]; omega) | (simp; omega) | (intros; (repeat' apply And.intro) <;> (first | assumption | omega | (simp; done))))))
  (repeat' (first | refine AW.seq ?_ | refine AW.scope ?_ | refine AW.label ?_ | refine AW.block ?_ | refine AW.skip ?_ | refine AW.exit ?_ | refine AW.ret ?_))
  refine AW.loopF (fun x : Nat × List Int × AV × St => [.int .i64 start, .agg (encR R), .int .i64 upto, .junk, .fptr (encR R), .junk, .nils, .bool false, .fptr (rowE R f secs y m d), x.2.2.1, .int .i64 x.1, .junk, .junk, .junk, .junk, .junk, .junk, .junk, .junk, .junk, .junk, .junk, .junk, .junk, .junk, .junk, .junk, .junk, .junk, .junk, .junk, .junk, .junk, .junk, .junk, .junk, .junk, .junk, .junk, .junk, .junk, .junk, .junk, .junk, .junk, .junk, .junk, .junk, .junk, .junk, .junk, .junk, .junk, .junk, .junk, .junk, .junk, .junk, .junk, .junk, .junk, .junk, .junk, .junk, .junk, .junk, .junk, .junk, .junk, .junk, .junk, .junk, .junk, .junk, .junk, .junk, .junk, .junk, .junk, .junk, .junk, .junk, .junk, .junk, .junk, .junk, .junk, .junk, .junk, .junk, .junk, .junk, .junk, .junk, .junk, .junk, .junk, .junk, .junk, .junk, .junk, .junk, .junk, .junk, .junk, .junk, .junk, .junk, .junk]) (fun x => x.2.2.2)
    (fun x => x.1 ≤ 4000 ∧ SW st 2 1 x.2.2.1 x.2.2.2 (intsE x.2.1) ∧ x.2.1 ≠ [] ∧ x.2.1.length ≤ 1 + x.1 * 400 ∧ goF R start upto f secs y m d (4000 - x.1) x.1 x.2.1 = (la, oka)) (fun x => 4001 - x.1) (0, [start], .arr it 0 1 0 1, st.set it (.cells 2 0 1 (intsE [start]))) ?_ rfl ?_ ?_
  · (repeat (first | exact Weak.nil | refine Weak.junk _ ?_ | refine Weak.same _ ?_ | refine Weak.eqv (by (congr 1; first | omega | (simp; done) | exact w_i64 (by omega) (by omega))) ?_))
  · exact ⟨by simp, w0, by simp, by simp, hA⟩
  rintro ⟨k, l, v, σ⟩ ⟨k1, k2, k3, k4, k5⟩
  dsimp only at k1 k2 k3 k4 k5 ⊢
  obtain ⟨i1, g1, rfl⟩ : ∃ i g, v = .arr i g 1 0 l.length := by
    rcases k2.own with ⟨_, h⟩ | ⟨i1, g1, h, _⟩
    · exact absurd (by simpa [intsE] using h) k3
    · exact ⟨i1, g1, by rw [h, intsE_length]⟩
  have hkm0 : 0 ≤ (k : Int) * R.interval := Int.mul_nonneg (by omega) (by omega)
  have hkm1 : (k : Int) * R.interval ≤ 4000000 := by
    have := Int.mul_le_mul (show (k : Int) ≤ 4000 by omega) hi1 (by omega) (by decide)
    omega
  have hpb := period_bounds R (y := y) (m := m) (k := k) hf0 hf1 hw0 hw1 hkm0 hkm1
  (repeat' (first | refine AW.seq ?_ | refine AW.scope ?_ | refine AW.label ?_ | refine AW.block ?_ | refine AW.skip ?_ | refine AW.exit ?_ | refine AW.ret ?_))
  (refine AW.regionC fun Q' Kn hQ hK hK' => ?_; (repeat simp (maxSteps := 4000000) (disch := omega) only [go_sem, redN, Nat.reduceAdd, Int.reduceToNat, Int.reducePow]); (repeat' apply And.intro); (try any_goals (first | (refine hK _ _ ?_; clear hK' hQ hK Q' Kn) | (intro q; refine ⟨q, ?_⟩; simp only [redB] at q; omega) | (intro q; refine ⟨q, fun p => ?_⟩; rw [q, p]; rfl) | (simp; done) | omega | (simp only [redL, intsE_length, wdsE_length]; omega) | (simp; omega) | (intros; (repeat' apply And.intro) <;> (first | assumption | omega | (simp; done))))))
  (repeat' (first | refine AW.seq ?_ | refine AW.scope ?_ | refine AW.label ?_ | refine AW.block ?_ | refine AW.skip ?_ | refine AW.exit ?_ | refine AW.ret ?_))
  (refine AW.cond (by simp (maxSteps := 4000000) (disch := omega) only [go_sem, redN, Nat.reduceAdd, Int.reduceToNat, Int.reducePow]; rfl) (fun hb => ?_) (fun hb => ?_) <;> (try simp only [redB] at hb))
  · have hfull : fullF R l = true := by unfold fullF; simp; omega
    rw [goF_stop R start upto f secs y m d (.inl hfull)] at k5
    obtain ⟨rfl, rfl⟩ := Prod.mk.inj k5
    (repeat' (first | refine AW.seq ?_ | refine AW.scope ?_ | refine AW.label ?_ | refine AW.block ?_ | refine AW.skip ?_ | refine AW.exit ?_ | refine AW.ret ?_))
    (refine AW.regionC fun Q' Kn hQ hK hK' => ?_; (repeat simp (maxSteps := 4000000) (disch := omega) only [go_sem, redN, Nat.reduceAdd, Int.reduceToNat, Int.reducePow]); (repeat' apply And.intro); (try any_goals (first | (refine hK _ _ ?_; clear hK' hQ hK Q' Kn) | (intro q; refine ⟨q, ?_⟩; simp only [redB] at q; omega) | (intro q; refine ⟨q, fun p => ?_⟩; rw [q, p]; rfl) | (simp; done) | omega | (simp only [redL, intsE_length, wdsE_length]; omega) | (simp; omega) | (intros; (repeat' apply And.intro) <;> (first | assumption | omega | (simp; done))))))
    (repeat' (first | refine AW.seq ?_ | refine AW.scope ?_ | refine AW.label ?_ | refine AW.block ?_ | refine AW.skip ?_ | refine AW.exit ?_ | refine AW.ret ?_))
    (refine ⟨_, _, rfl, by simp, ?_⟩; simp only [aTup, AA.get, List.getD_cons_zero, List.getD_cons_succ, true_and])
    exact ⟨_, k2, k3, by omega, rfl⟩
  have hfull : fullF R l = false := by unfold fullF; simp; omega
  (repeat' (first | refine AW.seq ?_ | refine AW.scope ?_ | refine AW.label ?_ | refine AW.block ?_ | refine AW.skip ?_ | refine AW.exit ?_ | refine AW.ret ?_))
  (refine AW.regionC fun Q' Kn hQ hK hK' => ?_; (repeat simp (maxSteps := 4000000) (disch := omega) only [go_sem, redN, Nat.reduceAdd, Int.reduceToNat, Int.reducePow]); (repeat' apply And.intro); (try any_goals (first | (refine hK _ _ ?_; clear hK' hQ hK Q' Kn) | (intro q; refine ⟨q, ?_⟩; simp only [redB] at q; omega) | (intro q; refine ⟨q, fun p => ?_⟩; rw [q, p]; rfl) | (simp; done) | omega | (simp only [redL, intsE_length, wdsE_length]; omega) | (simp; omega) | (intros; (repeat' apply And.intro) <;> (first | assumption | omega | (simp; done))))))
  refine AOp.call rfl (by simp only [go_sem]; rfl) (by simp [go_sem]) rfl (ACalls.mono (by simp only [go_sem]; exact r_period G R f secs y m d k hf0 hf1 hy0 hy1 hm0 hm1 hw0 hw1 (by omega) (by omega) hkm0 hkm1 _) ?_)
  rintro e σ7 ⟨h7, c, rfl, hc⟩; subst σ7
  (refine AOpsC_ok hK' _ _ _ ?_; (repeat simp (maxSteps := 4000000) (disch := omega) only [go_sem, redN, Nat.reduceAdd, Int.reduceToNat, Int.reducePow]); (repeat' apply And.intro); (try any_goals (first | (refine hK _ _ ?_; clear hK' hQ hK Q' Kn) | (intro q; refine ⟨q, ?_⟩; simp only [redB] at q; omega) | (intro q; refine ⟨q, fun p => ?_⟩; rw [q, p]; rfl) | (simp; done) | omega | (simp only [redL, intsE_length, wdsE_length]; omega) | (simp; omega) | (intros; (repeat' apply And.intro) <;> (first | assumption | omega | (simp; done))))))
  obtain ⟨⟨p1, pn, pok⟩, hp⟩ : ∃ p, periodF R f y m k = p := ⟨_, rfl⟩
  rw [hp] at hc hpb ⊢
  dsimp only at hc hpb ⊢
  (repeat' (first | refine AW.seq ?_ | refine AW.scope ?_ | refine AW.label ?_ | refine AW.block ?_ | refine AW.skip ?_ | refine AW.exit ?_ | refine AW.ret ?_))
  (refine AW.regionC fun Q' Kn hQ hK hK' => ?_; (repeat simp (maxSteps := 4000000) (disch := omega) only [go_sem, redN, Nat.reduceAdd, Int.reduceToNat, Int.reducePow]); (repeat' apply And.intro); (try any_goals (first | (refine hK _ _ ?_; clear hK' hQ hK Q' Kn) | (intro q; refine ⟨q, ?_⟩; simp only [redB] at q; omega) | (intro q; refine ⟨q, fun p => ?_⟩; rw [q, p]; rfl) | (simp; done) | omega | (simp only [redL, intsE_length, wdsE_length]; omega) | (simp; omega) | (intros; (repeat' apply And.intro) <;> (first | assumption | omega | (simp; done))))))
  refine AOps.guard_call (f := 38) (v := .bool (lateF R (p1 * 86400))) rfl rfl rfl rfl rfl (fun _ => (by simp only [go_sem] <;> rfl)) (fun h => by first | (simp [go_sem]; done) | simpa [go_sem] using h) rfl (fun hg => by simp only [go_sem]; exact r_late G R (p1 * 86400) hs0 hs1 _) ?_
  (refine AOpsC_ok hK' _ _ _ ?_; (repeat simp (maxSteps := 4000000) (disch := omega) only [go_sem, redN, Nat.reduceAdd, Int.reduceToNat, Int.reducePow]); (repeat' apply And.intro); (try any_goals (first | (refine hK _ _ ?_; clear hK' hQ hK Q' Kn) | (intro q; refine ⟨q, ?_⟩; simp only [redB] at q; omega) | (intro q; refine ⟨q, fun p => ?_⟩; rw [q, p]; rfl) | (simp; done) | omega | (simp only [redL, intsE_length, wdsE_length]; omega) | (simp; omega) | (intros; (repeat' apply And.intro) <;> (first | assumption | omega | (simp; done))))))
  (repeat' (first | refine AW.seq ?_ | refine AW.scope ?_ | refine AW.label ?_ | refine AW.block ?_ | refine AW.skip ?_ | refine AW.exit ?_ | refine AW.ret ?_))
  (refine AW.cond (by simp (maxSteps := 4000000) (disch := omega) only [go_sem, redN, Nat.reduceAdd, Int.reduceToNat, Int.reducePow]; rfl) (fun hb => ?_) (fun hb => ?_) <;> (try simp only [redB] at hb))
  · have hst : stopF R f y m upto k = true := by
      unfold stopF
      rw [hp]
      simp only [Bool.or_eq_true, decide_eq_true_eq, Bool.and_eq_true, Bool.not_eq_true']
      rcases hb with (h | h) | ⟨⟨_, h⟩, h'⟩
      · exact .inl (.inl h)
      · exact .inl (.inr h)
      · exact .inr ⟨h', h⟩
    rw [goF_stop R start upto f secs y m d (.inr hst)] at k5
    obtain ⟨rfl, rfl⟩ := Prod.mk.inj k5
    (repeat' (first | refine AW.seq ?_ | refine AW.scope ?_ | refine AW.label ?_ | refine AW.block ?_ | refine AW.skip ?_ | refine AW.exit ?_ | refine AW.ret ?_))
    (refine AW.regionC fun Q' Kn hQ hK hK' => ?_; (repeat simp (maxSteps := 4000000) (disch := omega) only [go_sem, redN, Nat.reduceAdd, Int.reduceToNat, Int.reducePow]); (repeat' apply And.intro); (try any_goals (first | (refine hK _ _ ?_; clear hK' hQ hK Q' Kn) | (intro q; refine ⟨q, ?_⟩; simp only [redB] at q; omega) | (intro q; refine ⟨q, fun p => ?_⟩; rw [q, p]; rfl) | (simp; done) | omega | (simp only [redL, intsE_length, wdsE_length]; omega) | (simp; omega) | (intros; (repeat' apply And.intro) <;> (first | assumption | omega | (simp; done))))))
    (repeat' (first | refine AW.seq ?_ | refine AW.scope ?_ | refine AW.label ?_ | refine AW.block ?_ | refine AW.skip ?_ | refine AW.exit ?_ | refine AW.ret ?_))
    (refine ⟨_, _, rfl, by simp, ?_⟩; simp only [aTup, AA.get, List.getD_cons_zero, List.getD_cons_succ, true_and])
    exact ⟨_, k2, k3, by omega, rfl⟩
  have hpok : pok = true := hb.1.1
  have hst : ¬ (fullF R l = true ∨ stopF R f y m upto k = true) := by
    rintro (h | h)
    · rw [hfull] at h; cases h
    · unfold stopF at h
      rw [hp] at h
      simp only [Bool.or_eq_true, decide_eq_true_eq, Bool.and_eq_true, Bool.not_eq_true'] at h
      rcases h with (h | h) | ⟨h1, h2⟩
      · rw [hpok] at h; cases h
      · exact hb.1.2 h
      · rcases hb.2 with (h3 | h3) | h3
        · unfold lateF at h2; rw [h3] at h2; cases h2
        · rw [h3] at h2; cases h2
        · exact h3 h1
  obtain rfl := hc hpok
  have hpn := period_n R (f := f) (y := y) (m := m) (k := k) (by rw [hp]; exact hpok)
  rw [hp] at hpn
  dsimp only at hpn
  obtain ⟨n, rfl⟩ := Int.eq_ofNat_of_zero_le hpn.1
  clear hb
  (repeat' (first | refine AW.seq ?_ | refine AW.scope ?_ | refine AW.label ?_ | refine AW.block ?_ | refine AW.skip ?_ | refine AW.exit ?_ | refine AW.ret ?_))
  (refine AW.regionC fun Q' Kn hQ hK hK' => ?_; (repeat simp (maxSteps := 4000000) (disch := omega) only [go_sem, redN, Nat.reduceAdd, Int.reduceToNat, Int.reducePow]); (repeat' apply And.intro); (try any_goals (first | (refine hK _ _ ?_; clear hK' hQ hK Q' Kn) | (intro q; refine ⟨q, ?_⟩; simp only [redB] at q; omega) | (intro q; refine ⟨q, fun p => ?_⟩; rw [q, p]; rfl) | (simp; done) | omega | (simp only [redL, intsE_length, wdsE_length]; omega) | (simp; omega) | (intros; (repeat' apply And.intro) <;> (first | assumption | omega | (simp; done))))))
  (repeat' (first | refine AW.seq ?_ | refine AW.scope ?_ | refine AW.label ?_ | refine AW.block ?_ | refine AW.skip ?_ | refine AW.exit ?_ | refine AW.ret ?_))
  (refine AW.cond (by simp (maxSteps := 4000000) (disch := omega) only [go_sem, redN, Nat.reduceAdd, Int.reduceToNat, Int.reducePow]; rfl) (fun hb => ?_) (fun hb => ?_) <;> (try simp only [redB] at hb))
  · have hk : k = 4000 := by omega
    subst hk
    rw [show 4000 - 4000 = 0 from rfl, goF_end R start upto f secs y m d hst] at k5
    obtain ⟨rfl, rfl⟩ := Prod.mk.inj k5
    (repeat' (first | refine AW.seq ?_ | refine AW.scope ?_ | refine AW.label ?_ | refine AW.block ?_ | refine AW.skip ?_ | refine AW.exit ?_ | refine AW.ret ?_))
    (refine AW.regionC fun Q' Kn hQ hK hK' => ?_; (repeat simp (maxSteps := 4000000) (disch := omega) only [go_sem, redN, Nat.reduceAdd, Int.reduceToNat, Int.reducePow]); (repeat' apply And.intro); (try any_goals (first | (refine hK _ _ ?_; clear hK' hQ hK Q' Kn) | (intro q; refine ⟨q, ?_⟩; simp only [redB] at q; omega) | (intro q; refine ⟨q, fun p => ?_⟩; rw [q, p]; rfl) | (simp; done) | omega | (simp only [redL, intsE_length, wdsE_length]; omega) | (simp; omega) | (intros; (repeat' apply And.intro) <;> (first | assumption | omega | (simp; done))))))
    (repeat' (first | refine AW.seq ?_ | refine AW.scope ?_ | refine AW.label ?_ | refine AW.block ?_ | refine AW.skip ?_ | refine AW.exit ?_ | refine AW.ret ?_))
    (refine ⟨_, _, rfl, by simp, ?_⟩; simp only [aTup, AA.get, List.getD_cons_zero, List.getD_cons_succ, true_and])
    exact ⟨_, k2, k3, by omega, rfl⟩
  have hk : k < 4000 := by omega
  rw [show 4000 - k = (4000 - (k + 1)) + 1 by omega, goF_next R start upto f secs y m d hst, hp] at k5
  dsimp only at k5
  rw [Int.toNat_natCast] at k5
  have hD1 := pick_len R f m d p1 n
  have hD2 : ∀ x, x ∈ pickF R (poolF R f m d p1 n) → p1 ≤ x ∧ x < p1 + n := fun x hx => pick_mem hx
  (repeat' (first | refine AW.seq ?_ | refine AW.scope ?_ | refine AW.label ?_ | refine AW.block ?_ | refine AW.skip ?_ | refine AW.exit ?_ | refine AW.ret ?_))
  (refine AW.regionC fun Q' Kn hQ hK hK' => ?_; (repeat simp (maxSteps := 4000000) (disch := omega) only [go_sem, redN, Nat.reduceAdd, Int.reduceToNat, Int.reducePow]); (repeat' apply And.intro); (try any_goals (first | (refine hK _ _ ?_; clear hK' hQ hK Q' Kn) | (intro q; refine ⟨q, ?_⟩; simp only [redB] at q; omega) | (intro q; refine ⟨q, fun p => ?_⟩; rw [q, p]; rfl) | (simp; done) | omega | (simp only [redL, intsE_length, wdsE_length]; omega) | (simp; omega) | (intros; (repeat' apply And.intro) <;> (first | assumption | omega | (simp; done))))))
  refine AOp.call rfl (by simp only [go_sem]; rfl) (by simp [go_sem]) rfl (ACalls.mono (by simp only [go_sem]; exact r_days G R f secs y m d p1 n hlm hld hlw hls (by omega) (by omega) (by omega) (by omega) (by omega) hq0 hq1 _) ?_)
  rintro e σ7 ⟨h7, rfl⟩; subst σ7
  (refine AOpsC_ok hK' _ _ _ ?_; (repeat simp (maxSteps := 4000000) (disch := omega) only [go_sem, redN, Nat.reduceAdd, Int.reduceToNat, Int.reducePow]); (repeat' apply And.intro); (try any_goals (first | (refine hK _ _ ?_; clear hK' hQ hK Q' Kn) | (intro q; refine ⟨q, ?_⟩; simp only [redB] at q; omega) | (intro q; refine ⟨q, fun p => ?_⟩; rw [q, p]; rfl) | (simp; done) | omega | (simp only [redL, intsE_length, wdsE_length]; omega) | (simp; omega) | (intros; (repeat' apply And.intro) <;> (first | assumption | omega | (simp; done))))))
  generalize pickF R (poolF R f m d p1 n) = D at *
  obtain ⟨⟨r1, r2⟩, hr⟩ : ∃ r, roundF R start secs D l = r := ⟨_, rfl⟩
  rw [hr] at k5
  dsimp only at k5
  (repeat' (first | refine AW.seq ?_ | refine AW.scope ?_ | refine AW.label ?_ | refine AW.block ?_ | refine AW.skip ?_ | refine AW.exit ?_ | refine AW.ret ?_))
  (refine AW.regionC fun Q' Kn hQ hK hK' => ?_; (repeat simp (maxSteps := 4000000) (disch := omega) only [go_sem, redN, Nat.reduceAdd, Int.reduceToNat, Int.reducePow]); (repeat' apply And.intro); (try any_goals (first | (refine hK _ _ ?_; clear hK' hQ hK Q' Kn) | (intro q; refine ⟨q, ?_⟩; simp only [redB] at q; omega) | (intro q; refine ⟨q, fun p => ?_⟩; rw [q, p]; rfl) | (simp; done) | omega | (simp only [redL, intsE_length, wdsE_length]; omega) | (simp; omega) | (intros; (repeat' apply And.intro) <;> (first | assumption | omega | (simp; done))))))
  (repeat' (first | refine AW.seq ?_ | refine AW.scope ?_ | refine AW.label ?_ | refine AW.block ?_ | refine AW.skip ?_ | refine AW.exit ?_ | refine AW.ret ?_))
  refine AW.loopF (fun x : Nat × List Int × AV × St => [.int .i64 start, .agg (encR R), .int .i64 upto, .junk, .fptr (encR R), .junk, .nils, .bool false, .fptr (rowE R f secs y m d), x.2.2.1, .int .i64 k, .junk, .junk, .junk, .tree 1 (intsE D), .int .i64 x.1, .junk, .junk, .junk, .junk, .junk, .junk, .junk, .junk, .junk, .junk, .junk, .junk, .junk, .junk, .junk, .junk, .junk, .junk, .junk, .junk, .junk, .junk, .junk, .junk, .junk, .junk, .junk, .junk, .junk, .junk, .junk, .junk, .junk, .junk, .junk, .junk, .junk, .junk, .junk, .junk, .junk, .junk, .junk, .junk, .junk, .junk, .junk, .junk, .junk, .junk, .junk, .junk, .junk, .junk, .junk, .junk, .junk, .junk, .junk, .junk, .junk, .junk, .junk, .junk, .junk, .junk, .junk, .junk, .junk, .junk, .junk, .junk, .junk, .junk, .junk, .junk, .junk, .junk, .junk, .junk, .junk, .junk, .junk, .junk, .junk, .junk, .junk, .junk, .junk, .junk, .junk, .junk, .junk]) (fun x => x.2.2.2)
    (fun x => x.1 ≤ D.length ∧ SW st 2 1 x.2.2.1 x.2.2.2 (intsE x.2.1) ∧ x.2.1 ≠ [] ∧ x.2.1.length ≤ l.length + x.1 ∧ roundF R start secs (D.drop x.1) x.2.1 = (r1, r2)) (fun x => D.length - x.1) (0, l, .arr i1 g1 1 0 l.length, σ) ?_ rfl ?_ ?_
  · (repeat (first | exact Weak.nil | refine Weak.junk _ ?_ | refine Weak.same _ ?_ | refine Weak.eqv (by (congr 1; first | omega | (simp; done) | exact w_i64 (by omega) (by omega))) ?_))
  · exact ⟨by simp, k2, k3, by simp, by simpa using hr⟩
  rintro ⟨i, ls, v2, σ2⟩ ⟨j1, j2, j3, j4, j5⟩
  dsimp only at j1 j2 j3 j4 j5 ⊢
  obtain ⟨i2, g2, rfl⟩ : ∃ i g, v2 = .arr i g 1 0 ls.length := by
    rcases j2.own with ⟨_, h⟩ | ⟨i1, g1, h, _⟩
    · exact absurd (by simpa [intsE] using h) j3
    · exact ⟨i1, g1, by rw [h, intsE_length]⟩
  (repeat' (first | refine AW.seq ?_ | refine AW.scope ?_ | refine AW.label ?_ | refine AW.block ?_ | refine AW.skip ?_ | refine AW.exit ?_ | refine AW.ret ?_))
  (refine AW.regionC fun Q' Kn hQ hK hK' => ?_; (repeat simp (maxSteps := 4000000) (disch := omega) only [go_sem, redN, Nat.reduceAdd, Int.reduceToNat, Int.reducePow]); (repeat' apply And.intro); (try any_goals (first | (refine hK _ _ ?_; clear hK' hQ hK Q' Kn) | (intro q; refine ⟨q, ?_⟩; simp only [redB] at q; omega) | (intro q; refine ⟨q, fun p => ?_⟩; rw [q, p]; rfl) | (simp; done) | omega | (simp only [redL, intsE_length, wdsE_length]; omega) | (simp; omega) | (intros; (repeat' apply And.intro) <;> (first | assumption | omega | (simp; done))))))
  (repeat' (first | refine AW.seq ?_ | refine AW.scope ?_ | refine AW.label ?_ | refine AW.block ?_ | refine AW.skip ?_ | refine AW.exit ?_ | refine AW.ret ?_))
  (refine AW.cond (by simp (maxSteps := 4000000) (disch := omega) only [go_sem, redN, Nat.reduceAdd, Int.reduceToNat, Int.reducePow]; rfl) (fun hb => ?_) (fun hb => ?_) <;> (try simp only [redB] at hb))
  · have hi : i < D.length := by omega
    obtain ⟨x, hx⟩ : ∃ x, D.getD i 0 = x := ⟨_, rfl⟩
    obtain ⟨hx1, hx2⟩ := hD2 x (by rw [← hx]; exact getD_memJ hi)
    rw [drop_consDJ (d := (0 : Int)) hi, hx, roundF] at j5
    (repeat' (first | refine AW.seq ?_ | refine AW.scope ?_ | refine AW.label ?_ | refine AW.block ?_ | refine AW.skip ?_ | refine AW.exit ?_ | refine AW.ret ?_))
    refine AW.drawn (List.range 9) (by decide +kernel) fun Q' Kn hQ hK hK' => ?_
    refine FxC_ok _ _ _ ?_; (repeat simp (maxSteps := 4000000) (disch := omega) only [go_sem, redN, Nat.reduceAdd, Int.reduceToNat, Int.reducePow]); (repeat' apply And.intro); (try any_goals (first | (refine hK _ _ ?_; clear hK' hQ hK Q' Kn) | (intro q; refine ⟨q, ?_⟩; simp only [redB] at q; omega) | (intro q; refine ⟨q, fun p => ?_⟩; rw [q, p]; rfl) | (simp; done) | omega | (simp only [redL, intsE_length, wdsE_length]; omega) | (simp; omega) | (intros; (repeat' apply And.intro) <;> (first | assumption | omega | (simp; done)))))
    (try simp only [Int.toNat_natCast])
    (try rw [hx])
    (repeat' (first | refine AW.seq ?_ | refine AW.scope ?_ | refine AW.label ?_ | refine AW.block ?_ | refine AW.skip ?_ | refine AW.exit ?_ | refine AW.ret ?_))
    (refine AW.regionC fun Q' Kn hQ hK hK' => ?_; (repeat simp (maxSteps := 4000000) (disch := omega) only [go_sem, redN, Nat.reduceAdd, Int.reduceToNat, Int.reducePow]); (repeat' apply And.intro); (try any_goals (first | (refine hK _ _ ?_; clear hK' hQ hK Q' Kn) | (intro q; refine ⟨q, ?_⟩; simp only [redB] at q; omega) | (intro q; refine ⟨q, fun p => ?_⟩; rw [q, p]; rfl) | (simp; done) | omega | (simp only [redL, intsE_length, wdsE_length]; omega) | (simp; omega) | (intros; (repeat' apply And.intro) <;> (first | assumption | omega | (simp; done))))))
    (repeat' (first | refine AW.seq ?_ | refine AW.scope ?_ | refine AW.label ?_ | refine AW.block ?_ | refine AW.skip ?_ | refine AW.exit ?_ | refine AW.ret ?_))
    (refine AW.cond (by simp (maxSteps := 4000000) (disch := omega) only [go_sem, redN, Nat.reduceAdd, Int.reduceToNat, Int.reducePow]; rfl) (fun hb => ?_) (fun hb => ?_) <;> (try simp only [redB] at hb))
    · rw [if_pos (by
          rcases hb with h | ⟨h1, h2⟩
          · exact .inl h
          · exact .inr (by unfold fullF; simp; omega))] at j5
      (try simp only [AInBlock, AThen])
      (repeat' (first | refine AW.seq ?_ | refine AW.scope ?_ | refine AW.label ?_ | refine AW.block ?_ | refine AW.skip ?_ | refine AW.exit ?_ | refine AW.ret ?_))
      (refine AW.regionC fun Q' Kn hQ hK hK' => ?_; (repeat simp (maxSteps := 4000000) (disch := omega) only [go_sem, redN, Nat.reduceAdd, Int.reduceToNat, Int.reducePow]); (repeat' apply And.intro); (try any_goals (first | (refine hK _ _ ?_; clear hK' hQ hK Q' Kn) | (intro q; refine ⟨q, ?_⟩; simp only [redB] at q; omega) | (intro q; refine ⟨q, fun p => ?_⟩; rw [q, p]; rfl) | (simp; done) | omega | (simp only [redL, intsE_length, wdsE_length]; omega) | (simp; omega) | (intros; (repeat' apply And.intro) <;> (first | assumption | omega | (simp; done))))))
      refine ⟨(i + 1, ls, .arr i2 g2 1 0 ls.length, σ2), ⟨by dsimp only; omega, j2, j3, by dsimp only; omega, j5⟩, by dsimp only; omega, ?_, rfl, rfl⟩
      (repeat (first | exact Weak.nil | refine Weak.junk _ ?_ | refine Weak.same _ ?_ | refine Weak.eqv (by (congr 1; first | omega | (simp; done) | exact w_i64 (by omega) (by omega))) ?_))
    rw [if_neg (by
        rintro (h | h)
        · exact hb.1 h
        · unfold fullF at h; simp at h; omega)] at j5
    clear hb
    (repeat' (first | refine AW.seq ?_ | refine AW.scope ?_ | refine AW.label ?_ | refine AW.block ?_ | refine AW.skip ?_ | refine AW.exit ?_ | refine AW.ret ?_))
    (refine AW.regionC fun Q' Kn hQ hK hK' => ?_; (repeat simp (maxSteps := 4000000) (disch := omega) only [go_sem, redN, Nat.reduceAdd, Int.reduceToNat, Int.reducePow]); (repeat' apply And.intro); (try any_goals (first | (refine hK _ _ ?_; clear hK' hQ hK Q' Kn) | (intro q; refine ⟨q, ?_⟩; simp only [redB] at q; omega) | (intro q; refine ⟨q, fun p => ?_⟩; rw [q, p]; rfl) | (simp; done) | omega | (simp only [redL, intsE_length, wdsE_length]; omega) | (simp; omega) | (intros; (repeat' apply And.intro) <;> (first | assumption | omega | (simp; done))))))
    refine AOp.call rfl (by simp only [go_sem]; rfl) (by simp [go_sem]) rfl (ACalls.mono (by simp only [go_sem]; exact r_late G R (x * 86400 + secs) hs0 hs1 _) ?_)
    rintro e σ7 ⟨h7, rfl⟩; subst σ7
    (refine AOpsC_ok hK' _ _ _ ?_; (repeat simp (maxSteps := 4000000) (disch := omega) only [go_sem, redN, Nat.reduceAdd, Int.reduceToNat, Int.reducePow]); (repeat' apply And.intro); (try any_goals (first | (refine hK _ _ ?_; clear hK' hQ hK Q' Kn) | (intro q; refine ⟨q, ?_⟩; simp only [redB] at q; omega) | (intro q; refine ⟨q, fun p => ?_⟩; rw [q, p]; rfl) | (simp; done) | omega | (simp only [redL, intsE_length, wdsE_length]; omega) | (simp; omega) | (intros; (repeat' apply And.intro) <;> (first | assumption | omega | (simp; done))))))
    (repeat' (first | refine AW.seq ?_ | refine AW.scope ?_ | refine AW.label ?_ | refine AW.block ?_ | refine AW.skip ?_ | refine AW.exit ?_ | refine AW.ret ?_))
    (refine AW.cond (by simp (maxSteps := 4000000) (disch := omega) only [go_sem, redN, Nat.reduceAdd, Int.reduceToNat, Int.reducePow]; rfl) (fun hb => ?_) (fun hb => ?_) <;> (try simp only [redB] at hb))
    · rw [if_pos hb] at j5
      obtain ⟨rfl, rfl⟩ := Prod.mk.inj j5
      rw [if_pos rfl] at k5
      obtain ⟨rfl, rfl⟩ := Prod.mk.inj k5
      (repeat' (first | refine AW.seq ?_ | refine AW.scope ?_ | refine AW.label ?_ | refine AW.block ?_ | refine AW.skip ?_ | refine AW.exit ?_ | refine AW.ret ?_))
      (refine AW.regionC fun Q' Kn hQ hK hK' => ?_; (repeat simp (maxSteps := 4000000) (disch := omega) only [go_sem, redN, Nat.reduceAdd, Int.reduceToNat, Int.reducePow]); (repeat' apply And.intro); (try any_goals (first | (refine hK _ _ ?_; clear hK' hQ hK Q' Kn) | (intro q; refine ⟨q, ?_⟩; simp only [redB] at q; omega) | (intro q; refine ⟨q, fun p => ?_⟩; rw [q, p]; rfl) | (simp; done) | omega | (simp only [redL, intsE_length, wdsE_length]; omega) | (simp; omega) | (intros; (repeat' apply And.intro) <;> (first | assumption | omega | (simp; done))))))
      (repeat' (first | refine AW.seq ?_ | refine AW.scope ?_ | refine AW.label ?_ | refine AW.block ?_ | refine AW.skip ?_ | refine AW.exit ?_ | refine AW.ret ?_))
      (refine ⟨_, _, rfl, by simp, ?_⟩; simp only [aTup, AA.get, List.getD_cons_zero, List.getD_cons_succ, true_and])
      exact ⟨_, j2, j3, by omega, rfl⟩
    rw [if_neg (by rw [hb]; decide)] at j5
    (repeat' (first | refine AW.seq ?_ | refine AW.scope ?_ | refine AW.label ?_ | refine AW.block ?_ | refine AW.skip ?_ | refine AW.exit ?_ | refine AW.ret ?_))
    (refine AW.regionC fun Q' Kn hQ hK hK' => ?_; (repeat simp (maxSteps := 4000000) (disch := omega) only [go_sem, redN, Nat.reduceAdd, Int.reduceToNat, Int.reducePow]); (repeat' apply And.intro); (try any_goals (first | (refine hK _ _ ?_; clear hK' hQ hK Q' Kn) | (intro q; refine ⟨q, ?_⟩; simp only [redB] at q; omega) | (intro q; refine ⟨q, fun p => ?_⟩; rw [q, p]; rfl) | (simp; done) | omega | (simp only [redL, intsE_length, wdsE_length]; omega) | (simp; omega) | (intros; (repeat' apply And.intro) <;> (first | assumption | omega | (simp; done))))))
    refine AOp.buildSlice (e := 2) (sz := 1) (es := [[.int .i64 (x * 86400 + secs)]]) rfl rfl rfl rfl (by simp [partsC, go_sem]) (by simp [aParts, go_sem]) (by simp) rfl (by decide) (by decide) fun it2 hit2 => ?_
    (refine AOpsC_ok hK' _ _ _ ?_; (repeat simp (maxSteps := 4000000) (disch := omega) only [go_sem, redN, Nat.reduceAdd, Int.reduceToNat, Int.reducePow]); (repeat' apply And.intro); (try any_goals (first | (refine hK _ _ ?_; clear hK' hQ hK Q' Kn) | (intro q; refine ⟨q, ?_⟩; simp only [redB] at q; omega) | (intro q; refine ⟨q, fun p => ?_⟩; rw [q, p]; rfl) | (simp; done) | omega | (simp only [redL, intsE_length, wdsE_length]; omega) | (simp; omega) | (intros; (repeat' apply And.intro) <;> (first | assumption | omega | (simp; done))))))
    refine AOp.appendE (e := 2) (sz := 1) (by_ := 8) (es := intsE ls) (xs := [[.int .i64 (x * 86400 + secs)]]) rfl rfl rfl rfl rfl rfl rfl (by decide) j2 hit2 rfl (by simp [isCell]) (by simp only [intsE_length]; omega) (by simp only [intsE_length, maxLen]; omega) (by simp) fun v' σ' h9 => ?_
    (refine AOpsC_ok hK' _ _ _ ?_; (repeat simp (maxSteps := 4000000) (disch := omega) only [go_sem, redN, Nat.reduceAdd, Int.reduceToNat, Int.reducePow]); (repeat' apply And.intro); (try any_goals (first | (refine hK _ _ ?_; clear hK' hQ hK Q' Kn) | (intro q; refine ⟨q, ?_⟩; simp only [redB] at q; omega) | (intro q; refine ⟨q, fun p => ?_⟩; rw [q, p]; rfl) | (simp; done) | omega | (simp only [redL, intsE_length, wdsE_length]; omega) | (simp; omega) | (intros; (repeat' apply And.intro) <;> (first | assumption | omega | (simp; done))))))
    rw [intsE_snoc] at h9
    (repeat' (first | refine AW.seq ?_ | refine AW.scope ?_ | refine AW.label ?_ | refine AW.block ?_ | refine AW.skip ?_ | refine AW.exit ?_ | refine AW.ret ?_))
    (refine AW.regionC fun Q' Kn hQ hK hK' => ?_; (repeat simp (maxSteps := 4000000) (disch := omega) only [go_sem, redN, Nat.reduceAdd, Int.reduceToNat, Int.reducePow]); (repeat' apply And.intro); (try any_goals (first | (refine hK _ _ ?_; clear hK' hQ hK Q' Kn) | (intro q; refine ⟨q, ?_⟩; simp only [redB] at q; omega) | (intro q; refine ⟨q, fun p => ?_⟩; rw [q, p]; rfl) | (simp; done) | omega | (simp only [redL, intsE_length, wdsE_length]; omega) | (simp; omega) | (intros; (repeat' apply And.intro) <;> (first | assumption | omega | (simp; done))))))
    refine ⟨(i + 1, ls ++ [x * 86400 + secs], v', σ'), ⟨by dsimp only; omega, h9, by simp, by simp only [List.length_append, List.length_cons, List.length_nil]; omega, j5⟩, by dsimp only; omega, ?_, rfl, rfl⟩
    (repeat (first | exact Weak.nil | refine Weak.junk _ ?_ | refine Weak.same _ ?_ | refine Weak.eqv (by (congr 1; first | omega | (simp; done) | exact w_i64 (by omega) (by omega))) ?_))
  have hil : i = D.length := by omega
  subst hil
  rw [List.drop_length, roundF] at j5
  obtain ⟨rfl, rfl⟩ := Prod.mk.inj j5
  rw [if_neg (by decide)] at k5
  (repeat' (first | refine AW.seq ?_ | refine AW.scope ?_ | refine AW.label ?_ | refine AW.block ?_ | refine AW.skip ?_ | refine AW.exit ?_ | refine AW.ret ?_))
  (refine AW.regionC fun Q' Kn hQ hK hK' => ?_; (repeat simp (maxSteps := 4000000) (disch := omega) only [go_sem, redN, Nat.reduceAdd, Int.reduceToNat, Int.reducePow]); (repeat' apply And.intro); (try any_goals (first | (refine hK _ _ ?_; clear hK' hQ hK Q' Kn) | (intro q; refine ⟨q, ?_⟩; simp only [redB] at q; omega) | (intro q; refine ⟨q, fun p => ?_⟩; rw [q, p]; rfl) | (simp; done) | omega | (simp only [redL, intsE_length, wdsE_length]; omega) | (simp; omega) | (intros; (repeat' apply And.intro) <;> (first | assumption | omega | (simp; done))))))
  refine ⟨(k + 1, ls, .arr i2 g2 1 0 ls.length, σ2), ⟨by dsimp only; omega, j2, j3, by dsimp only; omega, by simpa using k5⟩, by dsimp only; omega, ?_, rfl, rfl⟩
  (repeat (first | exact Weak.nil | refine Weak.junk _ ?_ | refine Weak.same _ ?_ | refine Weak.eqv (by (congr 1; first | omega | (simp; done) | exact w_i64 (by omega) (by omega))) ?_))
end Go.Almanac

/- Recurrence: whether a rule can be, by the document. -/
/-STEPS-/
namespace Go.Almanac
open Go.RowKit Go.Proofs Go.Abs
attribute [local go_sem] en_when
theorem r_within (G : Nat → AV) (l : List Int) (lo hi : Int) (hl : l.length ≤ 9223372036854775807) (st : St) :
    ACalls (Ev G) 24 [.tree 1 (intsE l), .int .i64 lo, .int .i64 hi] st (fun e st' => st' = st ∧ e = .ret (.bool (withinF l lo hi))) := by
  obtain ⟨P, hP⟩ : ∃ P : Int → Bool, P = fun n => decide (n = 0) || decide (n < lo) || decide (n > hi) := ⟨_, rfl⟩
  have hw : withinF l lo hi = (decide (l.length ≤ 24) && !l.any P) := by rw [hP]; rfl
  rw [hw]
  refine ACalls.of_body Tryz.func24 rfl ?_
  rw [Tryz.ntmps24]
  simp only [List.length_cons, List.length_nil, Nat.reduceAdd, Nat.reduceSub, List.replicate_succ, List.replicate_zero, List.cons_append, List.nil_append]
  (repeat' (first | refine AW.seq ?_ | refine AW.scope ?_ | refine AW.label ?_ | refine AW.block ?_ | refine AW.skip ?_ | refine AW.exit ?_ | refine AW.ret ?_))
  (refine AW.regionC fun Q' Kn hQ hK hK' => ?_; (repeat simp (maxSteps := 4000000) (disch := omega) only [go_sem, redN, Nat.reduceAdd, Int.reduceToNat, Int.reducePow]); (repeat' apply And.intro); (try any_goals (first | (refine hK _ _ ?_; clear hK' hQ hK Q' Kn) | (intro q; refine ⟨q, ?_⟩; simp only [redB] at q; omega) | (intro q; refine ⟨q, fun p => ?_⟩; rw [q, p]; rfl) | (simp; done) | omega | (simp only [redL, intsE_length, wdsE_length]; omega) | (simp; omega) | (intros; (repeat' apply And.intro) <;> (first | assumption | omega | (simp; done))))))
  (repeat' (first | refine AW.seq ?_ | refine AW.scope ?_ | refine AW.label ?_ | refine AW.block ?_ | refine AW.skip ?_ | refine AW.exit ?_ | refine AW.ret ?_))
  (refine AW.regionC fun Q' Kn hQ hK hK' => ?_; (repeat simp (maxSteps := 4000000) (disch := omega) only [go_sem, redN, Nat.reduceAdd, Int.reduceToNat, Int.reducePow]); (repeat' apply And.intro); (try any_goals (first | (refine hK _ _ ?_; clear hK' hQ hK Q' Kn) | (intro q; refine ⟨q, ?_⟩; simp only [redB] at q; omega) | (intro q; refine ⟨q, fun p => ?_⟩; rw [q, p]; rfl) | (simp; done) | omega | (simp only [redL, intsE_length, wdsE_length]; omega) | (simp; omega) | (intros; (repeat' apply And.intro) <;> (first | assumption | omega | (simp; done))))))
  (repeat' (first | refine AW.seq ?_ | refine AW.scope ?_ | refine AW.label ?_ | refine AW.block ?_ | refine AW.skip ?_ | refine AW.exit ?_ | refine AW.ret ?_))
  refine AW.loopF (fun k : Nat => [.tree 1 (intsE l), .int .i64 lo, .int .i64 hi, .junk, .junk, .junk, .bool false, .int .i64 k, .junk, .junk, .junk, .junk, .junk, .junk, .junk, .junk, .junk, .junk, .junk, .junk, .junk, .junk, .junk, .junk, .junk, .junk, .junk, .junk, .junk, .junk, .junk, .junk, .junk, .junk, .junk, .junk, .junk, .junk]) (fun _ => st) (fun k => k ≤ l.length ∧ (l.take k).any P = false) (fun k => l.length - k) 0 ?_ rfl ?_ ?_
  · (repeat (first | exact Weak.nil | refine Weak.junk _ ?_ | refine Weak.same _ ?_ | refine Weak.eqv (by (congr 1; first | omega | (simp; done) | exact w_i64 (by omega) (by omega))) ?_))
  · simp
  rintro k ⟨h1, h2⟩
  (repeat' (first | refine AW.seq ?_ | refine AW.scope ?_ | refine AW.label ?_ | refine AW.block ?_ | refine AW.skip ?_ | refine AW.exit ?_ | refine AW.ret ?_))
  (refine AW.regionC fun Q' Kn hQ hK hK' => ?_; (repeat simp (maxSteps := 4000000) (disch := omega) only [go_sem, redN, Nat.reduceAdd, Int.reduceToNat, Int.reducePow]); (repeat' apply And.intro); (try any_goals (first | (refine hK _ _ ?_; clear hK' hQ hK Q' Kn) | (intro q; refine ⟨q, ?_⟩; simp only [redB] at q; omega) | (intro q; refine ⟨q, fun p => ?_⟩; rw [q, p]; rfl) | (simp; done) | omega | (simp only [redL, intsE_length, wdsE_length]; omega) | (simp; omega) | (intros; (repeat' apply And.intro) <;> (first | assumption | omega | (simp; done))))))
  (repeat' (first | refine AW.seq ?_ | refine AW.scope ?_ | refine AW.label ?_ | refine AW.block ?_ | refine AW.skip ?_ | refine AW.exit ?_ | refine AW.ret ?_))
  (refine AW.cond (by simp (maxSteps := 4000000) (disch := omega) only [go_sem, redN, Nat.reduceAdd, Int.reduceToNat, Int.reducePow]; rfl) (fun hb => ?_) (fun hb => ?_) <;> (try simp only [redB] at hb))
  · have hk : k < l.length := by omega
    obtain ⟨x, hx⟩ : ∃ x, l.getD k 0 = x := ⟨_, rfl⟩
    have hPx : P (l.getD k 0) = (decide (x = 0) || decide (x < lo) || decide (x > hi)) := by rw [hx, hP]
    (repeat' (first | refine AW.seq ?_ | refine AW.scope ?_ | refine AW.label ?_ | refine AW.block ?_ | refine AW.skip ?_ | refine AW.exit ?_ | refine AW.ret ?_))
    (refine AW.regionC fun Q' Kn hQ hK hK' => ?_; (repeat simp (maxSteps := 4000000) (disch := omega) only [go_sem, redN, Nat.reduceAdd, Int.reduceToNat, Int.reducePow]); (repeat' apply And.intro); (try any_goals (first | (refine hK _ _ ?_; clear hK' hQ hK Q' Kn) | (intro q; refine ⟨q, ?_⟩; simp only [redB] at q; omega) | (intro q; refine ⟨q, fun p => ?_⟩; rw [q, p]; rfl) | (simp; done) | omega | (simp only [redL, intsE_length, wdsE_length]; omega) | (simp; omega) | (intros; (repeat' apply And.intro) <;> (first | assumption | omega | (simp; done))))))
    (try simp only [Int.toNat_natCast, hx])
    (repeat' (first | refine AW.seq ?_ | refine AW.scope ?_ | refine AW.label ?_ | refine AW.block ?_ | refine AW.skip ?_ | refine AW.exit ?_ | refine AW.ret ?_))
    (refine AW.cond (by simp (maxSteps := 4000000) (disch := omega) only [go_sem, redN, Nat.reduceAdd, Int.reduceToNat, Int.reducePow]; rfl) (fun hb => ?_) (fun hb => ?_) <;> (try simp only [redB] at hb))
    · (repeat' (first | refine AW.seq ?_ | refine AW.scope ?_ | refine AW.label ?_ | refine AW.block ?_ | refine AW.skip ?_ | refine AW.exit ?_ | refine AW.ret ?_))
      (refine AW.regionC fun Q' Kn hQ hK hK' => ?_; (repeat simp (maxSteps := 4000000) (disch := omega) only [go_sem, redN, Nat.reduceAdd, Int.reduceToNat, Int.reducePow]); (repeat' apply And.intro); (try any_goals (first | (refine hK _ _ ?_; clear hK' hQ hK Q' Kn) | (intro q; refine ⟨q, ?_⟩; simp only [redB] at q; omega) | (intro q; refine ⟨q, fun p => ?_⟩; rw [q, p]; rfl) | (simp; done) | omega | (simp only [redL, intsE_length, wdsE_length]; omega) | (simp; omega) | (intros; (repeat' apply And.intro) <;> (first | assumption | omega | (simp; done))))))
      (repeat' (first | refine AW.seq ?_ | refine AW.scope ?_ | refine AW.label ?_ | refine AW.block ?_ | refine AW.skip ?_ | refine AW.exit ?_ | refine AW.ret ?_))
      (refine ⟨_, _, rfl, by simp, ?_⟩; simp only [aTup, AA.get, List.getD_cons_zero, List.getD_cons_succ, true_and])
      rw [any_ofK hk (by rw [hPx]; simpa [or_assoc] using hb)]
      simp
    · (repeat' (first | refine AW.seq ?_ | refine AW.scope ?_ | refine AW.label ?_ | refine AW.block ?_ | refine AW.skip ?_ | refine AW.exit ?_ | refine AW.ret ?_))
      (refine AW.regionC fun Q' Kn hQ hK hK' => ?_; (repeat simp (maxSteps := 4000000) (disch := omega) only [go_sem, redN, Nat.reduceAdd, Int.reduceToNat, Int.reducePow]); (repeat' apply And.intro); (try any_goals (first | (refine hK _ _ ?_; clear hK' hQ hK Q' Kn) | (intro q; refine ⟨q, ?_⟩; simp only [redB] at q; omega) | (intro q; refine ⟨q, fun p => ?_⟩; rw [q, p]; rfl) | (simp; done) | omega | (simp only [redL, intsE_length, wdsE_length]; omega) | (simp; omega) | (intros; (repeat' apply And.intro) <;> (first | assumption | omega | (simp; done))))))
      refine ⟨k + 1, ⟨by omega, by rw [any_take hk h2, hPx]; simp; omega⟩, by omega, ?_, rfl, rfl⟩
      (repeat (first | exact Weak.nil | refine Weak.junk _ ?_ | refine Weak.same _ ?_ | refine Weak.eqv (by (congr 1; first | omega | (simp; done) | exact w_i64 (by omega) (by omega))) ?_))
  · (repeat' (first | refine AW.seq ?_ | refine AW.scope ?_ | refine AW.label ?_ | refine AW.block ?_ | refine AW.skip ?_ | refine AW.exit ?_ | refine AW.ret ?_))
    (refine AW.regionC fun Q' Kn hQ hK hK' => ?_; (repeat simp (maxSteps := 4000000) (disch := omega) only [go_sem, redN, Nat.reduceAdd, Int.reduceToNat, Int.reducePow]); (repeat' apply And.intro); (try any_goals (first | (refine hK _ _ ?_; clear hK' hQ hK Q' Kn) | (intro q; refine ⟨q, ?_⟩; simp only [redB] at q; omega) | (intro q; refine ⟨q, fun p => ?_⟩; rw [q, p]; rfl) | (simp; done) | omega | (simp only [redL, intsE_length, wdsE_length]; omega) | (simp; omega) | (intros; (repeat' apply And.intro) <;> (first | assumption | omega | (simp; done))))))
    (repeat' (first | refine AW.seq ?_ | refine AW.scope ?_ | refine AW.label ?_ | refine AW.block ?_ | refine AW.skip ?_ | refine AW.exit ?_ | refine AW.ret ?_))
    (refine ⟨_, _, rfl, by simp, ?_⟩; simp only [aTup, AA.get, List.getD_cons_zero, List.getD_cons_succ, true_and])
    have : k = l.length := by omega
    subst this
    rw [List.take_length] at h2
    rw [h2, show decide (((l.length : Nat) : Int) ≤ 24) = decide (l.length ≤ 24) from decide_eq_decide.2 (by omega)]
    simp
theorem fitR_iff (R : RuleD) : fitR R = true ↔ ((1 ≤ R.freq ∧ R.freq < 5 ∧ 1 ≤ R.interval ∧ R.interval ≤ 1000 ∧ 0 ≤ R.count ∧ R.count ≤ 1000 ∧ 0 ≤ R.wkst ∧ R.wkst ≤ 6) ∧ untilF R = true ∧
    (withinF R.byMonth 1 12 = true ∧ withinF R.byMonthDay (-31) 31 = true ∧ withinF R.bySetPos (-366) 366 = true ∧ R.byDay.length ≤ 24 ∧ R.byDay.any (badDay R) = false) ∧ (R.freq ≠ 2 ∨ R.byMonthDay.length = 0) ∧ (R.byMonth.length + R.byMonthDay.length + R.byDay.length > 0 ∨ R.bySetPos.length = 0)) := by
  unfold fitR
  simp only [Bool.and_eq_true, Bool.or_eq_true, decide_eq_true_eq, Bool.not_eq_true', and_assoc]
theorem until_has {R : RuleD} (h : R.has = true) : untilF R = true ↔ timeT (R.secs, R.utc, R.date) ≠ [] ∧ R.count = 0 := by
  unfold untilF
  rw [if_pos h]
  simp only [Bool.and_eq_true, decide_eq_true_eq]
theorem until_not {R : RuleD} (h : R.has = false) : untilF R = true ↔ R.secs = 0 ∧ R.utc = false ∧ R.date = false := by
  unfold untilF
  rw [if_neg (by rw [h]; decide)]
  simp only [Bool.and_eq_true, decide_eq_true_eq, and_assoc]
attribute [local go_sem] Tryz.underlying23
set_option maxHeartbeats 8000000 in
theorem r_Fit (G : Nat → AV) (R : RuleD) (hs0 : -9223372036854775808 ≤ R.secs) (hs1 : R.secs ≤ 9223372036854775807) (hlm : R.byMonth.length ≤ 9223372036854775807) (hld : R.byMonthDay.length ≤ 9223372036854775807) (hlw : R.byDay.length ≤ 9223372036854775807) (hls : R.bySetPos.length ≤ 9223372036854775807) (st : St) :
    ACalls (Ev G) 12 [.agg (encR R)] st (fun e st' => st' = st ∧ e = .ret (.bool (fitR R))) := by
  have hfi := fitR_iff R
  have hnot : (fitR R = true → False) → fitR R = false := fun h => by cases hx : fitR R with
    | true => exact (h hx).elim
    | false => rfl
  refine ACalls.thaw (R' := fun e st' => st.sub st' ∧ e = .ret (.bool (fitR R))) ?_ (fun x st1 h => ⟨2, st, h.1, rfl, by rw [h.2]; rfl⟩)
  refine ACalls.of_body Tryz.func12 rfl ?_
  rw [Tryz.ntmps12]
  simp only [List.length_cons, List.length_nil, Nat.reduceAdd, Nat.reduceSub, List.replicate_succ, List.replicate_zero, List.cons_append, List.nil_append]
  (repeat' (first | refine AW.seq ?_ | refine AW.scope ?_ | refine AW.label ?_ | refine AW.block ?_ | refine AW.skip ?_ | refine AW.exit ?_ | refine AW.ret ?_))
  (refine AW.regionC fun Q' Kn hQ hK hK' => ?_; (repeat simp (maxSteps := 4000000) (disch := omega) only [go_sem, redN, Nat.reduceAdd, Int.reduceToNat, Int.reducePow]); (repeat' apply And.intro); (try any_goals (first | (refine hK _ _ ?_; clear hK' hQ hK Q' Kn) | (intro q; refine ⟨q, ?_⟩; simp only [redB] at q; omega) | (intro q; refine ⟨q, fun p => ?_⟩; rw [q, p]; rfl) | (simp; done) | omega | (simp only [redL, intsE_length, wdsE_length]; omega) | (simp; omega) | (intros; (repeat' apply And.intro) <;> (first | assumption | omega | (simp; done))))))
  refine AOp.box rfl (by simp [go_sem]) (by simp only [go_sem]; rfl) fun b1 hb1 => ?_
  (refine AOpsC_ok hK' _ _ _ ?_; (repeat simp (maxSteps := 4000000) (disch := omega) only [go_sem, redN, Nat.reduceAdd, Int.reduceToNat, Int.reducePow]); (repeat' apply And.intro); (try any_goals (first | (refine hK _ _ ?_; clear hK' hQ hK Q' Kn) | (intro q; refine ⟨q, ?_⟩; simp only [redB] at q; omega) | (intro q; refine ⟨q, fun p => ?_⟩; rw [q, p]; rfl) | (simp; done) | omega | (simp only [redL, intsE_length, wdsE_length]; omega) | (simp; omega) | (intros; (repeat' apply And.intro) <;> (first | assumption | omega | (simp; done))))))
  refine AW.freeze 1 rfl (St.set_same _ _ _) ?_
  rw [St.del_set _ _ hb1]
  (repeat' (first | refine AW.seq ?_ | refine AW.scope ?_ | refine AW.label ?_ | refine AW.block ?_ | refine AW.skip ?_ | refine AW.exit ?_ | refine AW.ret ?_))
  (refine AW.regionC fun Q' Kn hQ hK hK' => ?_; (repeat simp (maxSteps := 4000000) (disch := omega) only [go_sem, redN, Nat.reduceAdd, Int.reduceToNat, Int.reducePow]); (repeat' apply And.intro); (try any_goals (first | (refine hK _ _ ?_; clear hK' hQ hK Q' Kn) | (intro q; refine ⟨q, ?_⟩; simp only [redB] at q; omega) | (intro q; refine ⟨q, fun p => ?_⟩; rw [q, p]; rfl) | (simp; done) | omega | (simp only [redL, intsE_length, wdsE_length]; omega) | (simp; omega) | (intros; (repeat' apply And.intro) <;> (first | assumption | omega | (simp; done))))))
  (repeat' (first | refine AW.seq ?_ | refine AW.scope ?_ | refine AW.label ?_ | refine AW.block ?_ | refine AW.skip ?_ | refine AW.exit ?_ | refine AW.ret ?_))
  (refine AW.cond (by simp (maxSteps := 4000000) (disch := omega) only [go_sem, redN, Nat.reduceAdd, Int.reduceToNat, Int.reducePow]; rfl) (fun hb => ?_) (fun hb => ?_) <;> (try simp only [redB] at hb))
  · (repeat' (first | refine AW.seq ?_ | refine AW.scope ?_ | refine AW.label ?_ | refine AW.block ?_ | refine AW.skip ?_ | refine AW.exit ?_ | refine AW.ret ?_))
    (refine AW.regionC fun Q' Kn hQ hK hK' => ?_; (repeat simp (maxSteps := 4000000) (disch := omega) only [go_sem, redN, Nat.reduceAdd, Int.reduceToNat, Int.reducePow]); (repeat' apply And.intro); (try any_goals (first | (refine hK _ _ ?_; clear hK' hQ hK Q' Kn) | (intro q; refine ⟨q, ?_⟩; simp only [redB] at q; omega) | (intro q; refine ⟨q, fun p => ?_⟩; rw [q, p]; rfl) | (simp; done) | omega | (simp only [redL, intsE_length, wdsE_length]; omega) | (simp; omega) | (intros; (repeat' apply And.intro) <;> (first | assumption | omega | (simp; done))))))
    (repeat' (first | refine AW.seq ?_ | refine AW.scope ?_ | refine AW.label ?_ | refine AW.block ?_ | refine AW.skip ?_ | refine AW.exit ?_ | refine AW.ret ?_))
    (refine ⟨_, _, rfl, by simp, ?_⟩; simp only [aTup, AA.get, List.getD_cons_zero, List.getD_cons_succ, true_and])
    refine ⟨St.sub_refl _, ?_⟩
    refine congrArg AEnd.ret (congrArg AV.bool (Eq.symm (hnot fun h => ?_)))
    obtain ⟨q1, q2, _⟩ := hfi.1 h
    by_cases hh : R.has = true
    · have := ((until_has hh).1 q2).2
      omega
    · have hf : R.has = false := by simpa using hh
      rw [hf] at hb
      simp only [Bool.false_eq_true, and_false, or_false] at hb
      omega
  have hA := hb
  (repeat' (first | refine AW.seq ?_ | refine AW.scope ?_ | refine AW.label ?_ | refine AW.block ?_ | refine AW.skip ?_ | refine AW.exit ?_ | refine AW.ret ?_))
  (refine AW.regionC fun Q' Kn hQ hK hK' => ?_; (repeat simp (maxSteps := 4000000) (disch := omega) only [go_sem, redN, Nat.reduceAdd, Int.reduceToNat, Int.reducePow]); (repeat' apply And.intro); (try any_goals (first | (refine hK _ _ ?_; clear hK' hQ hK Q' Kn) | (intro q; refine ⟨q, ?_⟩; simp only [redB] at q; omega) | (intro q; refine ⟨q, fun p => ?_⟩; rw [q, p]; rfl) | (simp; done) | omega | (simp only [redL, intsE_length, wdsE_length]; omega) | (simp; omega) | (intros; (repeat' apply And.intro) <;> (first | assumption | omega | (simp; done))))))
  refine AOps.guard_call (f := 23) (v := .str (timeT (R.secs, R.utc, R.date))) rfl rfl rfl rfl rfl (fun _ => (by simp only [go_sem] <;> rfl)) (fun h => by first | (simp [go_sem]; done) | simpa [go_sem] using h) rfl (fun hg => by simp only [go_sem]; exact r_TimeText G (R.secs, R.utc, R.date) hs0 hs1 _) ?_
  (refine AOpsC_ok hK' _ _ _ ?_; (repeat simp (maxSteps := 4000000) (disch := omega) only [go_sem, redN, Nat.reduceAdd, Int.reduceToNat, Int.reducePow]); (repeat' apply And.intro); (try any_goals (first | (refine hK _ _ ?_; clear hK' hQ hK Q' Kn) | (intro q; refine ⟨q, ?_⟩; simp only [redB] at q; omega) | (intro q; refine ⟨q, fun p => ?_⟩; rw [q, p]; rfl) | (simp; done) | omega | (simp only [redL, intsE_length, wdsE_length]; omega) | (simp; omega) | (intros; (repeat' apply And.intro) <;> (first | assumption | omega | (simp; done))))))
  refine AOps.guard_neAgg rfl rfl rfl rfl rfl (fun h => by first | (simp [go_sem]; done) | simpa [go_sem] using h) (fun _ => (by simp only [go_sem] <;> rfl)) (fun _ => (by simp only [go_sem] <;> rfl)) rfl rfl guard_WhenJ (fun w => eq_whenJ _ _ _ _ _ _ w) ?_
  (refine AOpsC_ok hK' _ _ _ ?_; (repeat simp (maxSteps := 4000000) (disch := omega) only [go_sem, redN, Nat.reduceAdd, Int.reduceToNat, Int.reducePow]); (repeat' apply And.intro); (try any_goals (first | (refine hK _ _ ?_; clear hK' hQ hK Q' Kn) | (intro q; refine ⟨q, ?_⟩; simp only [redB] at q; omega) | (intro q; refine ⟨q, fun p => ?_⟩; rw [q, p]; rfl) | (simp; done) | omega | (simp only [redL, intsE_length, wdsE_length]; omega) | (simp; omega) | (intros; (repeat' apply And.intro) <;> (first | assumption | omega | (simp; done))))))
  (repeat' (first | refine AW.seq ?_ | refine AW.scope ?_ | refine AW.label ?_ | refine AW.block ?_ | refine AW.skip ?_ | refine AW.exit ?_ | refine AW.ret ?_))
  (refine AW.cond (by simp (maxSteps := 4000000) (disch := omega) only [go_sem, redN, Nat.reduceAdd, Int.reduceToNat, Int.reducePow]; rfl) (fun hb => ?_) (fun hb => ?_) <;> (try simp only [redB] at hb))
  · (repeat' (first | refine AW.seq ?_ | refine AW.scope ?_ | refine AW.label ?_ | refine AW.block ?_ | refine AW.skip ?_ | refine AW.exit ?_ | refine AW.ret ?_))
    (refine AW.regionC fun Q' Kn hQ hK hK' => ?_; (repeat simp (maxSteps := 4000000) (disch := omega) only [go_sem, redN, Nat.reduceAdd, Int.reduceToNat, Int.reducePow]); (repeat' apply And.intro); (try any_goals (first | (refine hK _ _ ?_; clear hK' hQ hK Q' Kn) | (intro q; refine ⟨q, ?_⟩; simp only [redB] at q; omega) | (intro q; refine ⟨q, fun p => ?_⟩; rw [q, p]; rfl) | (simp; done) | omega | (simp only [redL, intsE_length, wdsE_length]; omega) | (simp; omega) | (intros; (repeat' apply And.intro) <;> (first | assumption | omega | (simp; done))))))
    (repeat' (first | refine AW.seq ?_ | refine AW.scope ?_ | refine AW.label ?_ | refine AW.block ?_ | refine AW.skip ?_ | refine AW.exit ?_ | refine AW.ret ?_))
    (refine ⟨_, _, rfl, by simp, ?_⟩; simp only [aTup, AA.get, List.getD_cons_zero, List.getD_cons_succ, true_and])
    refine ⟨St.sub_refl _, ?_⟩
    refine congrArg AEnd.ret (congrArg AV.bool (Eq.symm (hnot fun h => ?_)))
    obtain ⟨q1, q2, _⟩ := hfi.1 h
    rcases hb with ⟨h1, h2⟩ | ⟨h1, h2⟩
    · exact ((until_has h1).1 q2).1 h2
    · obtain ⟨x1, x2, x3⟩ := (until_not h1).1 q2
      rcases h2 with (h2 | h2) | h2
      · exact h2 x1
      · rw [x2] at h2; cases h2
      · rw [x3] at h2; cases h2
  have hB := hb
  (repeat' (first | refine AW.seq ?_ | refine AW.scope ?_ | refine AW.label ?_ | refine AW.block ?_ | refine AW.skip ?_ | refine AW.exit ?_ | refine AW.ret ?_))
  (refine AW.regionC fun Q' Kn hQ hK hK' => ?_; (repeat simp (maxSteps := 4000000) (disch := omega) only [go_sem, redN, Nat.reduceAdd, Int.reduceToNat, Int.reducePow]); (repeat' apply And.intro); (try any_goals (first | (refine hK _ _ ?_; clear hK' hQ hK Q' Kn) | (intro q; refine ⟨q, ?_⟩; simp only [redB] at q; omega) | (intro q; refine ⟨q, fun p => ?_⟩; rw [q, p]; rfl) | (simp; done) | omega | (simp only [redL, intsE_length, wdsE_length]; omega) | (simp; omega) | (intros; (repeat' apply And.intro) <;> (first | assumption | omega | (simp; done))))))
  refine AOp.call rfl (by simp only [go_sem]; rfl) (by simp [go_sem]) rfl (ACalls.mono (by simp only [go_sem]; exact r_within G R.byMonth 1 12 hlm _) ?_)
  rintro e σ7 ⟨h7, rfl⟩; subst σ7
  (refine AOpsC_ok hK' _ _ _ ?_; (repeat simp (maxSteps := 4000000) (disch := omega) only [go_sem, redN, Nat.reduceAdd, Int.reduceToNat, Int.reducePow]); (repeat' apply And.intro); (try any_goals (first | (refine hK _ _ ?_; clear hK' hQ hK Q' Kn) | (intro q; refine ⟨q, ?_⟩; simp only [redB] at q; omega) | (intro q; refine ⟨q, fun p => ?_⟩; rw [q, p]; rfl) | (simp; done) | omega | (simp only [redL, intsE_length, wdsE_length]; omega) | (simp; omega) | (intros; (repeat' apply And.intro) <;> (first | assumption | omega | (simp; done))))))
  refine AOps.guard_call (f := 24) (v := .bool (withinF R.byMonthDay (-31) 31)) rfl rfl rfl rfl rfl (fun _ => (by simp only [go_sem] <;> rfl)) (fun h => by first | (simp [go_sem]; done) | simpa [go_sem] using h) rfl (fun hg => by simp only [go_sem]; exact r_within G R.byMonthDay (-31) 31 hld _) ?_
  (refine AOpsC_ok hK' _ _ _ ?_; (repeat simp (maxSteps := 4000000) (disch := omega) only [go_sem, redN, Nat.reduceAdd, Int.reduceToNat, Int.reducePow]); (repeat' apply And.intro); (try any_goals (first | (refine hK _ _ ?_; clear hK' hQ hK Q' Kn) | (intro q; refine ⟨q, ?_⟩; simp only [redB] at q; omega) | (intro q; refine ⟨q, fun p => ?_⟩; rw [q, p]; rfl) | (simp; done) | omega | (simp only [redL, intsE_length, wdsE_length]; omega) | (simp; omega) | (intros; (repeat' apply And.intro) <;> (first | assumption | omega | (simp; done))))))
  refine AOps.guard_call (f := 24) (v := .bool (withinF R.bySetPos (-366) 366)) rfl rfl rfl rfl rfl (fun _ => (by simp only [go_sem] <;> rfl)) (fun h => by first | (simp [go_sem]; done) | simpa [go_sem] using h) rfl (fun hg => by simp only [go_sem]; exact r_within G R.bySetPos (-366) 366 hls _) ?_
  (refine AOpsC_ok hK' _ _ _ ?_; (repeat simp (maxSteps := 4000000) (disch := omega) only [go_sem, redN, Nat.reduceAdd, Int.reduceToNat, Int.reducePow]); (repeat' apply And.intro); (try any_goals (first | (refine hK _ _ ?_; clear hK' hQ hK Q' Kn) | (intro q; refine ⟨q, ?_⟩; simp only [redB] at q; omega) | (intro q; refine ⟨q, fun p => ?_⟩; rw [q, p]; rfl) | (simp; done) | omega | (simp only [redL, intsE_length, wdsE_length]; omega) | (simp; omega) | (intros; (repeat' apply And.intro) <;> (first | assumption | omega | (simp; done))))))
  (repeat' (first | refine AW.seq ?_ | refine AW.scope ?_ | refine AW.label ?_ | refine AW.block ?_ | refine AW.skip ?_ | refine AW.exit ?_ | refine AW.ret ?_))
  (refine AW.cond (by simp (maxSteps := 4000000) (disch := omega) only [go_sem, redN, Nat.reduceAdd, Int.reduceToNat, Int.reducePow]; rfl) (fun hb => ?_) (fun hb => ?_) <;> (try simp only [redB] at hb))
  · (repeat' (first | refine AW.seq ?_ | refine AW.scope ?_ | refine AW.label ?_ | refine AW.block ?_ | refine AW.skip ?_ | refine AW.exit ?_ | refine AW.ret ?_))
    (refine AW.regionC fun Q' Kn hQ hK hK' => ?_; (repeat simp (maxSteps := 4000000) (disch := omega) only [go_sem, redN, Nat.reduceAdd, Int.reduceToNat, Int.reducePow]); (repeat' apply And.intro); (try any_goals (first | (refine hK _ _ ?_; clear hK' hQ hK Q' Kn) | (intro q; refine ⟨q, ?_⟩; simp only [redB] at q; omega) | (intro q; refine ⟨q, fun p => ?_⟩; rw [q, p]; rfl) | (simp; done) | omega | (simp only [redL, intsE_length, wdsE_length]; omega) | (simp; omega) | (intros; (repeat' apply And.intro) <;> (first | assumption | omega | (simp; done))))))
    (repeat' (first | refine AW.seq ?_ | refine AW.scope ?_ | refine AW.label ?_ | refine AW.block ?_ | refine AW.skip ?_ | refine AW.exit ?_ | refine AW.ret ?_))
    (refine ⟨_, _, rfl, by simp, ?_⟩; simp only [aTup, AA.get, List.getD_cons_zero, List.getD_cons_succ, true_and])
    refine ⟨St.sub_refl _, ?_⟩
    refine congrArg AEnd.ret (congrArg AV.bool (Eq.symm (hnot fun h => ?_)))
    obtain ⟨q1, q2, ⟨q3, q4, q5, q6, q7⟩, _⟩ := hfi.1 h
    rcases hb with ((hb | hb) | hb) | hb
    · rw [q3] at hb; cases hb
    · rw [q4] at hb; cases hb
    · rw [q5] at hb; cases hb
    · omega
  obtain ⟨⟨⟨w1, w2⟩, w3⟩, w4⟩ := hb
  have hwl : ∀ {l : List Int} {lo hi : Int}, withinF l lo hi = true → l.length ≤ 24 := fun h => by
    unfold withinF at h
    simp only [Bool.and_eq_true, decide_eq_true_eq] at h
    exact h.1
  have z1 := hwl w1
  have z2 := hwl w2
  have z3 := hwl w3
  (repeat' (first | refine AW.seq ?_ | refine AW.scope ?_ | refine AW.label ?_ | refine AW.block ?_ | refine AW.skip ?_ | refine AW.exit ?_ | refine AW.ret ?_))
  (refine AW.regionC fun Q' Kn hQ hK hK' => ?_; (repeat simp (maxSteps := 4000000) (disch := omega) only [go_sem, redN, Nat.reduceAdd, Int.reduceToNat, Int.reducePow]); (repeat' apply And.intro); (try any_goals (first | (refine hK _ _ ?_; clear hK' hQ hK Q' Kn) | (intro q; refine ⟨q, ?_⟩; simp only [redB] at q; omega) | (intro q; refine ⟨q, fun p => ?_⟩; rw [q, p]; rfl) | (simp; done) | omega | (simp only [redL, intsE_length, wdsE_length]; omega) | (simp; omega) | (intros; (repeat' apply And.intro) <;> (first | assumption | omega | (simp; done))))))
  (repeat' (first | refine AW.seq ?_ | refine AW.scope ?_ | refine AW.label ?_ | refine AW.block ?_ | refine AW.skip ?_ | refine AW.exit ?_ | refine AW.ret ?_))
  refine AW.loopF (fun i : Nat => [.agg (encR R), .fptr (encR R), .bool false, .int .i64 i, .junk, .junk, .junk, .junk, .junk, .junk, .junk, .junk, .junk, .junk, .junk, .junk, .junk, .junk, .junk, .junk, .junk, .junk, .junk, .junk, .junk, .junk, .junk, .junk, .junk, .junk, .junk, .junk, .junk, .junk, .junk, .junk, .junk, .junk, .junk, .junk, .junk, .junk, .junk, .junk, .junk, .junk, .junk, .junk, .junk, .junk, .junk, .junk, .junk, .junk, .junk, .junk, .junk, .junk, .junk, .junk, .junk, .junk, .junk, .junk, .junk, .junk, .junk, .junk, .junk, .junk, .junk, .junk, .junk, .junk, .junk, .junk, .junk, .junk, .junk, .junk, .junk, .junk, .junk, .junk, .junk, .junk, .junk, .junk, .junk, .junk, .junk, .junk, .junk, .junk, .junk, .junk, .junk, .junk, .junk, .junk, .junk, .junk, .junk, .junk, .junk, .junk, .junk, .junk, .junk, .junk, .junk, .junk, .junk, .junk, .junk, .junk, .junk, .junk, .junk, .junk, .junk, .junk, .junk, .junk, .junk, .junk, .junk, .junk, .junk, .junk, .junk, .junk, .junk, .junk, .junk, .junk, .junk, .junk, .junk, .junk, .junk, .junk, .junk, .junk, .junk, .junk, .junk, .junk, .junk, .junk, .junk, .junk, .junk, .junk, .junk, .junk, .junk, .junk, .junk, .junk, .junk, .junk, .junk, .junk]) (fun _ => st) (fun i => i ≤ R.byDay.length ∧ (R.byDay.take i).any (badDay R) = false) (fun i => R.byDay.length - i) 0 ?_ rfl ?_ ?_
  · (repeat (first | exact Weak.nil | refine Weak.junk _ ?_ | refine Weak.same _ ?_ | refine Weak.eqv (by (congr 1; first | omega | (simp; done) | exact w_i64 (by omega) (by omega))) ?_))
  · simp
  rintro i ⟨h1, h2⟩
  (repeat' (first | refine AW.seq ?_ | refine AW.scope ?_ | refine AW.label ?_ | refine AW.block ?_ | refine AW.skip ?_ | refine AW.exit ?_ | refine AW.ret ?_))
  (refine AW.regionC fun Q' Kn hQ hK hK' => ?_; (repeat simp (maxSteps := 4000000) (disch := omega) only [go_sem, redN, Nat.reduceAdd, Int.reduceToNat, Int.reducePow]); (repeat' apply And.intro); (try any_goals (first | (refine hK _ _ ?_; clear hK' hQ hK Q' Kn) | (intro q; refine ⟨q, ?_⟩; simp only [redB] at q; omega) | (intro q; refine ⟨q, fun p => ?_⟩; rw [q, p]; rfl) | (simp; done) | omega | (simp only [redL, intsE_length, wdsE_length]; omega) | (simp; omega) | (intros; (repeat' apply And.intro) <;> (first | assumption | omega | (simp; done))))))
  (repeat' (first | refine AW.seq ?_ | refine AW.scope ?_ | refine AW.label ?_ | refine AW.block ?_ | refine AW.skip ?_ | refine AW.exit ?_ | refine AW.ret ?_))
  (refine AW.cond (by simp (maxSteps := 4000000) (disch := omega) only [go_sem, redN, Nat.reduceAdd, Int.reduceToNat, Int.reducePow]; rfl) (fun hb => ?_) (fun hb => ?_) <;> (try simp only [redB] at hb))
  · have hi : i < R.byDay.length := by omega
    obtain ⟨⟨bn, bd⟩, hx⟩ : ∃ x, R.byDay.getD i (0, 0) = x := ⟨_, rfl⟩
    have hPx : badDay R (R.byDay.getD i (0, 0)) = (decide (bd < 0) || decide (bd > 6) || decide (bn < -53) || decide (bn > 53) || decide (bn ≠ 0) && decide (R.freq < 3)) := by rw [hx]; rfl
    (repeat' (first | refine AW.seq ?_ | refine AW.scope ?_ | refine AW.label ?_ | refine AW.block ?_ | refine AW.skip ?_ | refine AW.exit ?_ | refine AW.ret ?_))
    (refine AW.regionC fun Q' Kn hQ hK hK' => ?_; (repeat simp (maxSteps := 4000000) (disch := omega) only [go_sem, redN, Nat.reduceAdd, Int.reduceToNat, Int.reducePow]); (repeat' apply And.intro); (try any_goals (first | (refine hK _ _ ?_; clear hK' hQ hK Q' Kn) | (intro q; refine ⟨q, ?_⟩; simp only [redB] at q; omega) | (intro q; refine ⟨q, fun p => ?_⟩; rw [q, p]; rfl) | (simp; done) | omega | (simp only [redL, intsE_length, wdsE_length]; omega) | (simp; omega) | (intros; (repeat' apply And.intro) <;> (first | assumption | omega | (simp; done))))))
    (try rw [hx])
    refine AOp.alloc rfl (by simp only [go_sem]; rfl) fun b4 hb4 => ?_
    (refine AOpsC_ok hK' _ _ _ ?_; (repeat simp (maxSteps := 4000000) (disch := omega) only [go_sem, redN, Nat.reduceAdd, Int.reduceToNat, Int.reducePow]); (repeat' apply And.intro); (try any_goals (first | (refine hK _ _ ?_; clear hK' hQ hK Q' Kn) | (intro q; refine ⟨q, ?_⟩; simp only [redB] at q; omega) | (intro q; refine ⟨q, fun p => ?_⟩; rw [q, p]; rfl) | (simp; done) | omega | (simp only [redL, intsE_length, wdsE_length]; omega) | (simp; omega) | (intros; (repeat' apply And.intro) <;> (first | assumption | omega | (simp; done))))))
    refine AOp.storeAll (cs := [.int .i64 bn, .int .i64 bd]) rfl (by simp only [go_sem] <;> rfl) (by simp [go_sem]) (St.set_same _ _ _) (by first | (simp only [go_sem]; done) | (simp [go_sem]; done) | (simp [go_sem]; omega)) (by simp [go_sem, isCell]) rfl rfl rfl ?_
    (refine AOpsC_ok hK' _ _ _ ?_; (repeat simp (maxSteps := 4000000) (disch := omega) only [go_sem, redN, Nat.reduceAdd, Int.reduceToNat, Int.reducePow]); (repeat' apply And.intro); (try any_goals (first | (refine hK _ _ ?_; clear hK' hQ hK Q' Kn) | (intro q; refine ⟨q, ?_⟩; simp only [redB] at q; omega) | (intro q; refine ⟨q, fun p => ?_⟩; rw [q, p]; rfl) | (simp; done) | omega | (simp only [redL, intsE_length, wdsE_length]; omega) | (simp; omega) | (intros; (repeat' apply And.intro) <;> (first | assumption | omega | (simp; done))))))
    refine AW.freeze 4 rfl (St.set_same _ _ _) ?_
    rw [St.set_set, St.del_set _ _ hb4]
    (repeat' (first | refine AW.seq ?_ | refine AW.scope ?_ | refine AW.label ?_ | refine AW.block ?_ | refine AW.skip ?_ | refine AW.exit ?_ | refine AW.ret ?_))
    (refine AW.regionC fun Q' Kn hQ hK hK' => ?_; (repeat simp (maxSteps := 4000000) (disch := omega) only [go_sem, redN, Nat.reduceAdd, Int.reduceToNat, Int.reducePow]); (repeat' apply And.intro); (try any_goals (first | (refine hK _ _ ?_; clear hK' hQ hK Q' Kn) | (intro q; refine ⟨q, ?_⟩; simp only [redB] at q; omega) | (intro q; refine ⟨q, fun p => ?_⟩; rw [q, p]; rfl) | (simp; done) | omega | (simp only [redL, intsE_length, wdsE_length]; omega) | (simp; omega) | (intros; (repeat' apply And.intro) <;> (first | assumption | omega | (simp; done))))))
    (repeat' (first | refine AW.seq ?_ | refine AW.scope ?_ | refine AW.label ?_ | refine AW.block ?_ | refine AW.skip ?_ | refine AW.exit ?_ | refine AW.ret ?_))
    (refine AW.cond (by simp (maxSteps := 4000000) (disch := omega) only [go_sem, redN, Nat.reduceAdd, Int.reduceToNat, Int.reducePow]; rfl) (fun hb => ?_) (fun hb => ?_) <;> (try simp only [redB] at hb))
    · (repeat' (first | refine AW.seq ?_ | refine AW.scope ?_ | refine AW.label ?_ | refine AW.block ?_ | refine AW.skip ?_ | refine AW.exit ?_ | refine AW.ret ?_))
      (refine AW.regionC fun Q' Kn hQ hK hK' => ?_; (repeat simp (maxSteps := 4000000) (disch := omega) only [go_sem, redN, Nat.reduceAdd, Int.reduceToNat, Int.reducePow]); (repeat' apply And.intro); (try any_goals (first | (refine hK _ _ ?_; clear hK' hQ hK Q' Kn) | (intro q; refine ⟨q, ?_⟩; simp only [redB] at q; omega) | (intro q; refine ⟨q, fun p => ?_⟩; rw [q, p]; rfl) | (simp; done) | omega | (simp only [redL, intsE_length, wdsE_length]; omega) | (simp; omega) | (intros; (repeat' apply And.intro) <;> (first | assumption | omega | (simp; done))))))
      (repeat' (first | refine AW.seq ?_ | refine AW.scope ?_ | refine AW.label ?_ | refine AW.block ?_ | refine AW.skip ?_ | refine AW.exit ?_ | refine AW.ret ?_))
      (refine ⟨_, _, rfl, by simp, ?_⟩; simp only [aTup, AA.get, List.getD_cons_zero, List.getD_cons_succ, true_and])
      refine ⟨St.sub_refl _, ?_⟩
      refine congrArg AEnd.ret (congrArg AV.bool (Eq.symm (hnot fun h => ?_)))
      obtain ⟨q1, q2, ⟨q3, q4, q5, q6, q7⟩, _⟩ := hfi.1 h
      rw [any_ofW hi (by rw [hPx]; simp only [Bool.or_eq_true, Bool.and_eq_true, decide_eq_true_eq, ne_eq]; omega)] at q7
      cases q7
    · (repeat' (first | refine AW.seq ?_ | refine AW.scope ?_ | refine AW.label ?_ | refine AW.block ?_ | refine AW.skip ?_ | refine AW.exit ?_ | refine AW.ret ?_))
      (refine AW.regionC fun Q' Kn hQ hK hK' => ?_; (repeat simp (maxSteps := 4000000) (disch := omega) only [go_sem, redN, Nat.reduceAdd, Int.reduceToNat, Int.reducePow]); (repeat' apply And.intro); (try any_goals (first | (refine hK _ _ ?_; clear hK' hQ hK Q' Kn) | (intro q; refine ⟨q, ?_⟩; simp only [redB] at q; omega) | (intro q; refine ⟨q, fun p => ?_⟩; rw [q, p]; rfl) | (simp; done) | omega | (simp only [redL, intsE_length, wdsE_length]; omega) | (simp; omega) | (intros; (repeat' apply And.intro) <;> (first | assumption | omega | (simp; done))))))
      refine ⟨i + 1, ⟨by omega, by rw [any_takeW hi h2, hPx]; simp only [Bool.or_eq_false_iff, Bool.and_eq_false_iff, decide_eq_false_iff_not, ne_eq, Decidable.not_not]; omega⟩, by omega, ?_, rfl, rfl⟩
      (repeat (first | exact Weak.nil | refine Weak.junk _ ?_ | refine Weak.same _ ?_ | refine Weak.eqv (by (congr 1; first | omega | (simp; done) | exact w_i64 (by omega) (by omega))) ?_))
  have hil : i = R.byDay.length := by omega
  clear hb
  subst hil
  rw [List.take_length] at h2
  (repeat' (first | refine AW.seq ?_ | refine AW.scope ?_ | refine AW.label ?_ | refine AW.block ?_ | refine AW.skip ?_ | refine AW.exit ?_ | refine AW.ret ?_))
  (refine AW.regionC fun Q' Kn hQ hK hK' => ?_; (repeat simp (maxSteps := 4000000) (disch := omega) only [go_sem, redN, Nat.reduceAdd, Int.reduceToNat, Int.reducePow]); (repeat' apply And.intro); (try any_goals (first | (refine hK _ _ ?_; clear hK' hQ hK Q' Kn) | (intro q; refine ⟨q, ?_⟩; simp only [redB] at q; omega) | (intro q; refine ⟨q, fun p => ?_⟩; rw [q, p]; rfl) | (simp; done) | omega | (simp only [redL, intsE_length, wdsE_length]; omega) | (simp; omega) | (intros; (repeat' apply And.intro) <;> (first | assumption | omega | (simp; done))))))
  (repeat' (first | refine AW.seq ?_ | refine AW.scope ?_ | refine AW.label ?_ | refine AW.block ?_ | refine AW.skip ?_ | refine AW.exit ?_ | refine AW.ret ?_))
  (refine ⟨_, _, rfl, by simp, ?_⟩; simp only [aTup, AA.get, List.getD_cons_zero, List.getD_cons_succ, true_and])
  refine ⟨St.sub_refl _, ?_⟩
  obtain ⟨⟨⟨a1, a2⟩, a3⟩, a4⟩ := hA
  have hu : untilF R = true := by
    by_cases hh : R.has = true
    · refine (until_has hh).2 ⟨fun e => hB.1.elim (fun h => by rw [hh] at h; cases h) (fun h => h e), ?_⟩
      rcases a2 with h | h
      · omega
      · rw [hh] at h; cases h
    · have hf : R.has = false := by simpa using hh
      refine (until_not hf).2 ?_
      rcases hB.2 with h | ⟨⟨x1, x2⟩, x3⟩
      · exact absurd h hh
      · exact ⟨x1, x2, x3⟩
  refine congrArg AEnd.ret (congrArg AV.bool (Bool.eq_iff_iff.2 ?_))
  rw [hfi]
  simp only [Bool.and_eq_true, Bool.not_eq_true', Bool.and_eq_false_iff, decide_eq_false_iff_not, beq_eq_false_iff_ne, ne_eq]
  constructor
  · rintro ⟨x1, x2⟩
    exact ⟨⟨by omega, by omega, by omega, by omega, by omega, by omega, by omega, by omega⟩, hu, ⟨w1, w2, w3, by omega, h2⟩, by omega, by omega⟩
  · rintro ⟨_, _, _, x1, x2⟩
    exact ⟨by omega, by omega⟩
end Go.Almanac
