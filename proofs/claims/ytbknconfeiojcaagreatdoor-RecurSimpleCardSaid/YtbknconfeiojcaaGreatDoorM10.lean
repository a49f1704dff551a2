/- Recurrence: the occurrences ahead of a time. -/
import Derived.Test.YtbknconfeiojcaaGreatDoorM9
set_option linter.unusedSimpArgs false
set_option linter.unusedVariables false
set_option linter.unusedSectionVars false
set_option maxRecDepth 10000
set_option maxHeartbeats 1000000
/- Recurrence: the occurrences ahead of a time. -/
/-STEPS-/
namespace Go.Almanac
open Go.RowKit Go.Proofs Go.Abs
theorem roundF_full (R : RuleD) (start secs : Int) : ∀ (ds l : List Int), fullF R l = true → roundF R start secs ds l = (l, false)
  | [], l, h => rfl
  | d :: ds, l, h => by rw [roundF, if_pos (.inr h)]; exact roundF_full R start secs ds l h
section
variable (R : RuleD) (start upto f secs y m d0 : Int)
theorem stop_iff (k : Int) (l : List Int) : (fullF R l = true ∨ ¬ (periodF R f y m k).2.2 = true ∨ upto ≤ (periodF R f y m k).1 * 86400 ∨ 0 < k ∧ lateF R ((periodF R f y m k).1 * 86400) = true) ↔ (fullF R l = true ∨ stopF R f y m upto k = true) := by
  unfold stopF
  simp [or_assoc]
theorem goF_stop {k : Int} {l : List Int} (h : fullF R l = true ∨ stopF R f y m upto k = true) (n : Nat) : goF R start upto f secs y m d0 n k l = (l, true) := by
  cases n with
  | zero => rw [goF, if_pos ((stop_iff R upto f y m k l).2 h)]
  | succ n => rw [goF, if_pos ((stop_iff R upto f y m k l).2 h)]
theorem goF_end {k : Int} {l : List Int} (h : ¬ (fullF R l = true ∨ stopF R f y m upto k = true)) : goF R start upto f secs y m d0 0 k l = (l, false) := by
  rw [goF, if_neg (fun h2 => h ((stop_iff R upto f y m k l).1 h2))]
theorem goF_next {k : Int} {l : List Int} (h : ¬ (fullF R l = true ∨ stopF R f y m upto k = true)) (n : Nat) : goF R start upto f secs y m d0 (n + 1) k l =
    if (roundF R start secs (pickF R (poolF R f m d0 (periodF R f y m k).1 (periodF R f y m k).2.1.toNat)) l).2 = true then ((roundF R start secs (pickF R (poolF R f m d0 (periodF R f y m k).1 (periodF R f y m k).2.1.toNat)) l).1, true)
    else goF R start upto f secs y m d0 n (k + 1) (roundF R start secs (pickF R (poolF R f m d0 (periodF R f y m k).1 (periodF R f y m k).2.1.toNat)) l).1 := by
  rw [goF, if_neg (fun h2 => h ((stop_iff R upto f y m k l).1 h2))]
end
theorem period_n (R : RuleD) {f y m k : Int} (hok : (periodF R f y m k).2.2 = true) : 0 ≤ (periodF R f y m k).2.1 ∧ (periodF R f y m k).2.1 ≤ 400 := by
  unfold periodF at hok ⊢
  split at hok
  · rename_i h; rw [if_pos h]; dsimp only; omega
  · rename_i h; rw [if_neg h]
    split at hok
    · rename_i h2; rw [if_pos h2]; dsimp only; omega
    · rename_i h2; rw [if_neg h2]
      split at hok
      · rename_i h3; rw [if_pos h3]; dsimp only
        have := mlen_le ((y * 12 + m - 1 + k * R.interval) / 12) ((y * 12 + m - 1 + k * R.interval) % 12 + 1)
        omega
      · rename_i h3; rw [if_neg h3]; dsimp only at hok ⊢
        generalize y + k * R.interval = y1 at hok ⊢
        unfold days at hok
        split at hok
        · cases hok
        · rename_i h4
          have hv := mlen_pos (y := y1) (m := 1) (by omega)
          obtain ⟨e1, e2, _⟩ := year_first (y := y1) (by omega) (by omega)
          have : first (y1 + 1) ≤ first y1 + 366 ∧ first y1 + 365 ≤ first (y1 + 1) := by simp only [first]; omega
          omega
theorem stop_ok {R : RuleD} {f y m upto k : Int} (h : stopF R f y m upto k = false) : (periodF R f y m k).2.2 = true := by
  unfold stopF at h
  cases hb : (periodF R f y m k).2.2 with
  | true => rfl
  | false => rw [hb] at h; simp at h
theorem pick_mem {R : RuleD} {f m0 d0 s : Int} {n : Nat} {x : Int} (h : x ∈ pickF R (poolF R f m0 d0 s n)) : s ≤ x ∧ x < s + n := by
  unfold pickF at h
  obtain ⟨i, hi, rfl⟩ := List.mem_map.1 h
  have hi2 := List.mem_range.1 (List.mem_filter.1 hi).1
  have hm := getD_memJ (d := (0 : Int)) hi2
  unfold poolF at hm
  obtain ⟨j, hj, hjx⟩ := List.mem_map.1 (List.mem_filter.1 hm).1
  have := List.mem_range.1 hj
  unfold poolF
  omega
theorem pick_len (R : RuleD) (f m0 d0 s : Int) (n : Nat) : (pickF R (poolF R f m0 d0 s n)).length ≤ n := by
  have h1 : (pickF R (poolF R f m0 d0 s n)).length ≤ (poolF R f m0 d0 s n).length := by
    unfold pickF
    rw [List.length_map]
    exact Nat.le_trans (List.length_filter_le _ _) (by simp)
  have h2 := poolTo_len R f m0 d0 s n
  exact Nat.le_trans h1 h2
set_option maxHeartbeats 8000000 in
theorem t_all (G : Nat → AV) (R : RuleD) (start f secs y m d upto : Int) (hf0 : -719162 ≤ f) (hf1 : f ≤ 2932896) (hy0 : 1 ≤ y) (hy1 : y ≤ 9999) (hm0 : 1 ≤ m) (hm1 : m ≤ 12) (hw0 : 0 ≤ R.wkst) (hw1 : R.wkst ≤ 6) (hc0 : 0 ≤ secs) (hc1 : secs < 86400)
    (hi0 : 1 ≤ R.interval) (hi1 : R.interval ≤ 1000) (hs0 : -1000000000000000 ≤ R.secs) (hs1 : R.secs ≤ 1000000000000000) (hlm : R.byMonth.length ≤ 1000000) (hld : R.byMonthDay.length ≤ 1000000) (hlw : R.byDay.length ≤ 1000000) (hls : R.bySetPos.length ≤ 1000000)
    (la : List Int) (oka : Bool) (hA : goF R start upto f secs y m d 4000 0 [start] = (la, oka)) (st : St) :
    ACalls (Ev G) 16 [.fptr (planE R start f secs y m d), .int .i64 upto] st (fun e st1 => ∃ v, SW st 2 1 v st1 (intsE la) ∧ la ≠ [] ∧ la.length ≤ 10000000 ∧ e = .ret (.tup [v, .bool oka])) := by
  refine ACalls.of_body Tryz.func16 rfl ?_
  rw [Tryz.ntmps16]
  simp only [List.length_cons, List.length_nil, Nat.reduceAdd, Nat.reduceSub, List.replicate_succ, List.replicate_zero, List.cons_append, List.nil_append]
  (repeat' (first | refine AW.seq ?_ | refine AW.scope ?_ | refine AW.label ?_ | refine AW.block ?_ | refine AW.skip ?_ | refine AW.exit ?_ | refine AW.ret ?_))
  (refine AW.regionC fun Q' Kn hQ hK hK' => ?_; (repeat simp (maxSteps := 4000000) (disch := omega) only [go_sem, redN, Nat.reduceAdd, Int.reduceToNat, Int.reducePow]); (repeat' apply And.intro); (try any_goals (first | (refine hK _ _ ?_; clear hK' hQ hK Q' Kn) | (intro q; refine ⟨q, ?_⟩; simp only [redB] at q; omega) | (intro q; refine ⟨q, fun p => ?_⟩; rw [q, p]; rfl) | (simp; done) | omega | (simp only [redL, intsE_length, wdsE_length]; omega) | (simp; omega) | (intros; (repeat' apply And.intro) <;> (first | assumption | omega | (simp; done))))))
  refine AOp.box rfl (by simp [go_sem]) (by simp only [go_sem]; rfl) fun b2 hb2 => ?_
  (refine AOpsC_ok hK' _ _ _ ?_; (repeat simp (maxSteps := 4000000) (disch := omega) only [go_sem, redN, Nat.reduceAdd, Int.reduceToNat, Int.reducePow]); (repeat' apply And.intro); (try any_goals (first | (refine hK _ _ ?_; clear hK' hQ hK Q' Kn) | (intro q; refine ⟨q, ?_⟩; simp only [redB] at q; omega) | (intro q; refine ⟨q, fun p => ?_⟩; rw [q, p]; rfl) | (simp; done) | omega | (simp only [redL, intsE_length, wdsE_length]; omega) | (simp; omega) | (intros; (repeat' apply And.intro) <;> (first | assumption | omega | (simp; done))))))
  refine AOp.alloc rfl (by simp only [go_sem]; rfl) fun b4 hb4 => ?_
  (refine AOpsC_ok hK' _ _ _ ?_; (repeat simp (maxSteps := 4000000) (disch := omega) only [go_sem, redN, Nat.reduceAdd, Int.reduceToNat, Int.reducePow]); (repeat' apply And.intro); (try any_goals (first | (refine hK _ _ ?_; clear hK' hQ hK Q' Kn) | (intro q; refine ⟨q, ?_⟩; simp only [redB] at q; omega) | (intro q; refine ⟨q, fun p => ?_⟩; rw [q, p]; rfl) | (simp; done) | omega | (simp only [redL, intsE_length, wdsE_length]; omega) | (simp; omega) | (intros; (repeat' apply And.intro) <;> (first | assumption | omega | (simp; done))))))
  refine AOp.alloc rfl (by simp only [go_sem]; rfl) fun b5 hb5 => ?_
  (refine AOpsC_ok hK' _ _ _ ?_; (repeat simp (maxSteps := 4000000) (disch := omega) only [go_sem, redN, Nat.reduceAdd, Int.reduceToNat, Int.reducePow]); (repeat' apply And.intro); (try any_goals (first | (refine hK _ _ ?_; clear hK' hQ hK Q' Kn) | (intro q; refine ⟨q, ?_⟩; simp only [redB] at q; omega) | (intro q; refine ⟨q, fun p => ?_⟩; rw [q, p]; rfl) | (simp; done) | omega | (simp only [redL, intsE_length, wdsE_length]; omega) | (simp; omega) | (intros; (repeat' apply And.intro) <;> (first | assumption | omega | (simp; done))))))
  have m1 := (((MM.nil st).new hb2 (.cells 44 0 1 [[.fptr (planE R start f secs y m d)]])).new hb4 (.cells 28 0 1 [[.nils]])).new hb5 (.cells 4 0 1 [[.bool false]])
  generalize St.set (St.set (St.set st b2 _) b4 _) b5 _ = σ at m1 ⊢
  refine AW.freeze 2 rfl (m1.get 2 rfl) ?_
  have m2 := m1.del 2 rfl
  generalize σ.del b2 = σ1 at m2 ⊢
  (repeat' (first | refine AW.seq ?_ | refine AW.scope ?_ | refine AW.label ?_ | refine AW.block ?_ | refine AW.skip ?_ | refine AW.exit ?_ | refine AW.ret ?_))
  (refine AW.regionC fun Q' Kn hQ hK hK' => ?_; (repeat simp (maxSteps := 4000000) (disch := omega) only [go_sem, redN, Nat.reduceAdd, Int.reduceToNat, Int.reducePow]); (repeat' apply And.intro); (try any_goals (first | (refine hK _ _ ?_; clear hK' hQ hK Q' Kn) | (intro q; refine ⟨q, ?_⟩; simp only [redB] at q; omega) | (intro q; refine ⟨q, fun p => ?_⟩; rw [q, p]; rfl) | (simp; done) | omega | (simp only [redL, intsE_length, wdsE_length]; omega) | (simp; omega) | (intros; (repeat' apply And.intro) <;> (first | assumption | omega | (simp; done))))))
  refine AOp.buildSlice (e := 2) (sz := 1) (es := intsE [start]) rfl rfl rfl rfl (by simp [partsC, go_sem]) (by simp [aParts, go_sem, intsE]) (by simp [intsE]) rfl (by decide) (by decide) fun it hit => ?_
  (refine AOpsC_ok hK' _ _ _ ?_; (repeat simp (maxSteps := 4000000) (disch := omega) only [go_sem, redN, Nat.reduceAdd, Int.reduceToNat, Int.reducePow]); (repeat' apply And.intro); (try any_goals (first | (refine hK _ _ ?_; clear hK' hQ hK Q' Kn) | (intro q; refine ⟨q, ?_⟩; simp only [redB] at q; omega) | (intro q; refine ⟨q, fun p => ?_⟩; rw [q, p]; rfl) | (simp; done) | omega | (simp only [redL, intsE_length, wdsE_length]; omega) | (simp; omega) | (intros; (repeat' apply And.intro) <;> (first | assumption | omega | (simp; done))))))
  refine AOp.alloc rfl (by simp only [go_sem]; rfl) fun b6 hb6 => ?_
  (refine AOpsC_ok hK' _ _ _ ?_; (repeat simp (maxSteps := 4000000) (disch := omega) only [go_sem, redN, Nat.reduceAdd, Int.reduceToNat, Int.reducePow]); (repeat' apply And.intro); (try any_goals (first | (refine hK _ _ ?_; clear hK' hQ hK Q' Kn) | (intro q; refine ⟨q, ?_⟩; simp only [redB] at q; omega) | (intro q; refine ⟨q, fun p => ?_⟩; rw [q, p]; rfl) | (simp; done) | omega | (simp only [redL, intsE_length, wdsE_length]; omega) | (simp; omega) | (intros; (repeat' apply And.intro) <;> (first | assumption | omega | (simp; done))))))
  have w0 : SW σ1 2 1 (.arr it 0 1 0 1) (σ1.set it (.cells 2 0 1 (intsE [start]))) (intsE [start]) := ⟨.inr ⟨it, 0, rfl, St.set_same _ _ _, hit⟩, fun i hi => St.set_ne _ _ (fun e => hi (by rw [e]; exact hit))⟩
  have o0 : MO st [(b5, .cells 4 0 1 [[.bool false]]), (b4, .cells 28 0 1 [[.nils]])] (.arr it 0 1 0 1) (σ1.set it (.cells 2 0 1 (intsE [start]))) [start] := ⟨σ1, w0, m2⟩
  have o1 := o0.new hb6 (.cells 28 0 1 [[.nils]])
  generalize St.set (St.set σ1 it _) b6 _ = σ2 at o1 ⊢
  refine AOp.store (cs := [.arr it 0 1 0 1]) rfl (by simp only [go_sem] <;> rfl) (by simp [go_sem]) (o1.get 0 rfl) (by first | (simp only [go_sem]; done) | (simp [go_sem]; done) | (simp [go_sem]; omega)) rfl rfl (by simp) (by simp) ?_
  (refine AOpsC_ok hK' _ _ _ ?_; (repeat simp (maxSteps := 4000000) (disch := omega) only [go_sem, redN, Nat.reduceAdd, Int.reduceToNat, Int.reducePow]); (repeat' apply And.intro); (try any_goals (first | (refine hK _ _ ?_; clear hK' hQ hK Q' Kn) | (intro q; refine ⟨q, ?_⟩; simp only [redB] at q; omega) | (intro q; refine ⟨q, fun p => ?_⟩; rw [q, p]; rfl) | (simp; done) | omega | (simp only [redL, intsE_length, wdsE_length]; omega) | (simp; omega) | (intros; (repeat' apply And.intro) <;> (first | assumption | omega | (simp; done))))))
  have o2 := o1.put 0 rfl (.cells 28 0 1 [[.arr it 0 1 0 1]])
  generalize St.set σ2 b6 _ = σ3 at o2 ⊢
  (repeat' (first | refine AW.seq ?_ | refine AW.scope ?_ | refine AW.label ?_ | refine AW.block ?_ | refine AW.skip ?_ | refine AW.exit ?_ | refine AW.ret ?_))
  (refine AW.regionC fun Q' Kn hQ hK hK' => ?_; (repeat simp (maxSteps := 4000000) (disch := omega) only [go_sem, redN, Nat.reduceAdd, Int.reduceToNat, Int.reducePow]); (repeat' apply And.intro); (try any_goals (first | (refine hK _ _ ?_; clear hK' hQ hK Q' Kn) | (intro q; refine ⟨q, ?_⟩; simp only [redB] at q; omega) | (intro q; refine ⟨q, fun p => ?_⟩; rw [q, p]; rfl) | (simp; done) | omega | (simp only [redL, intsE_length, wdsE_length]; omega) | (simp; omega) | (intros; (repeat' apply And.intro) <;> (first | assumption | omega | (simp; done))))))
  refine AOp.alloc rfl (by simp only [go_sem]; rfl) fun b7 hb7 => ?_
  (refine AOpsC_ok hK' _ _ _ ?_; (repeat simp (maxSteps := 4000000) (disch := omega) only [go_sem, redN, Nat.reduceAdd, Int.reduceToNat, Int.reducePow]); (repeat' apply And.intro); (try any_goals (first | (refine hK _ _ ?_; clear hK' hQ hK Q' Kn) | (intro q; refine ⟨q, ?_⟩; simp only [redB] at q; omega) | (intro q; refine ⟨q, fun p => ?_⟩; rw [q, p]; rfl) | (simp; done) | omega | (simp only [redL, intsE_length, wdsE_length]; omega) | (simp; omega) | (intros; (repeat' apply And.intro) <;> (first | assumption | omega | (simp; done))))))
  have o3 := o2.new hb7 (.cells 37 0 1 [[.nilf]])
  generalize St.set σ3 b7 _ = σ4 at o3 ⊢
  refine AOp.store (cs := [.clo (.func 31) [] [.fptr [.fptr (planE R start f secs y m d)], .ptr b6 0 0 0]]) rfl (by simp only [go_sem] <;> rfl) (by simp [go_sem]) (o3.get 0 rfl) (by first | (simp only [go_sem]; done) | (simp [go_sem]; done) | (simp [go_sem]; omega)) rfl rfl (by simp) (by simp) ?_
  (refine AOpsC_ok hK' _ _ _ ?_; (repeat simp (maxSteps := 4000000) (disch := omega) only [go_sem, redN, Nat.reduceAdd, Int.reduceToNat, Int.reducePow]); (repeat' apply And.intro); (try any_goals (first | (refine hK _ _ ?_; clear hK' hQ hK Q' Kn) | (intro q; refine ⟨q, ?_⟩; simp only [redB] at q; omega) | (intro q; refine ⟨q, fun p => ?_⟩; rw [q, p]; rfl) | (simp; done) | omega | (simp only [redL, intsE_length, wdsE_length]; omega) | (simp; omega) | (intros; (repeat' apply And.intro) <;> (first | assumption | omega | (simp; done))))))
  have o4 := o3.put 0 rfl (.cells 37 0 1 [[.clo (.func 31) [] [.fptr [.fptr (planE R start f secs y m d)], .ptr b6 0 0 0]]])
  generalize St.set σ4 b7 _ = σ5 at o4 ⊢
  refine AW.freeze 7 rfl (o4.get 0 rfl) ?_
  have o5 : MO st [(b6, .cells 28 0 1 [[.arr it 0 1 0 1]]), (b5, .cells 4 0 1 [[.bool false]]), (b4, .cells 28 0 1 [[.nils]])] (.arr it 0 1 0 1) (σ5.del b7) [start] := o4.del 0 rfl
  generalize σ5.del b7 = σ6 at o5 ⊢
  (repeat' (first | refine AW.seq ?_ | refine AW.scope ?_ | refine AW.label ?_ | refine AW.block ?_ | refine AW.skip ?_ | refine AW.exit ?_ | refine AW.ret ?_))
  (refine AW.regionC fun Q' Kn hQ hK hK' => ?_; (repeat simp (maxSteps := 4000000) (disch := omega) only [go_sem, redN, Nat.reduceAdd, Int.reduceToNat, Int.reducePow]); (repeat' apply And.intro); (try any_goals (first | (refine hK _ _ ?_; clear hK' hQ hK Q' Kn) | (intro q; refine ⟨q, ?_⟩; simp only [redB] at q; omega) | (intro q; refine ⟨q, fun p => ?_⟩; rw [q, p]; rfl) | (simp; done) | omega | (simp only [redL, intsE_length, wdsE_length]; omega) | (simp; omega) | (intros; (repeat' apply And.intro) <;> (first | assumption | omega | (simp; done))))))
  refine AOp.call rfl (by simp only [go_sem]; rfl) (by simp [go_sem]) rfl (ACalls.mono (by simp only [go_sem]; exact t_full G R start f secs y m d b6 it 0 [start] (by simp) _ (o5.get 0 rfl)) ?_)
  rintro e σ7 ⟨h7, rfl⟩; subst σ7
  (refine AOpsC_ok hK' _ _ _ ?_; (repeat simp (maxSteps := 4000000) (disch := omega) only [go_sem, redN, Nat.reduceAdd, Int.reduceToNat, Int.reducePow]); (repeat' apply And.intro); (try any_goals (first | (refine hK _ _ ?_; clear hK' hQ hK Q' Kn) | (intro q; refine ⟨q, ?_⟩; simp only [redB] at q; omega) | (intro q; refine ⟨q, fun p => ?_⟩; rw [q, p]; rfl) | (simp; done) | omega | (simp only [redL, intsE_length, wdsE_length]; omega) | (simp; omega) | (intros; (repeat' apply And.intro) <;> (first | assumption | omega | (simp; done))))))
  (repeat' (first | refine AW.seq ?_ | refine AW.scope ?_ | refine AW.label ?_ | refine AW.block ?_ | refine AW.skip ?_ | refine AW.exit ?_ | refine AW.ret ?_))
  (refine AW.cond (by simp (maxSteps := 4000000) (disch := omega) only [go_sem, redN, Nat.reduceAdd, Int.reduceToNat, Int.reducePow]; rfl) (fun hb => ?_) (fun hb => ?_) <;> (try simp only [redB] at hb))
  · have hA2 := goF_stop R start upto f secs y m d (k := 0) (.inl hb) 4000
    rw [hA] at hA2
    cases hA2
    (repeat' (first | refine AW.seq ?_ | refine AW.scope ?_ | refine AW.label ?_ | refine AW.block ?_ | refine AW.skip ?_ | refine AW.exit ?_ | refine AW.ret ?_))
    (refine AW.regionC fun Q' Kn hQ hK hK' => ?_; (repeat simp (maxSteps := 4000000) (disch := omega) only [go_sem, redN, Nat.reduceAdd, Int.reduceToNat, Int.reducePow]); (repeat' apply And.intro); (try any_goals (first | (refine hK _ _ ?_; clear hK' hQ hK Q' Kn) | (intro q; refine ⟨q, ?_⟩; simp only [redB] at q; omega) | (intro q; refine ⟨q, fun p => ?_⟩; rw [q, p]; rfl) | (simp; done) | omega | (simp only [redL, intsE_length, wdsE_length]; omega) | (simp; omega) | (intros; (repeat' apply And.intro) <;> (first | assumption | omega | (simp; done))))))
    refine AOp.loadCell rfl (by simp only [go_sem] <;> rfl) (by simp [go_sem]) (o5.get 0 rfl) rfl (by simp) (by simp) ?_
    (refine AOpsC_ok hK' _ _ _ ?_; (repeat simp (maxSteps := 4000000) (disch := omega) only [go_sem, redN, Nat.reduceAdd, Int.reduceToNat, Int.reducePow]); (repeat' apply And.intro); (try any_goals (first | (refine hK _ _ ?_; clear hK' hQ hK Q' Kn) | (intro q; refine ⟨q, ?_⟩; simp only [redB] at q; omega) | (intro q; refine ⟨q, fun p => ?_⟩; rw [q, p]; rfl) | (simp; done) | omega | (simp only [redL, intsE_length, wdsE_length]; omega) | (simp; omega) | (intros; (repeat' apply And.intro) <;> (first | assumption | omega | (simp; done))))))
    refine AOp.store (cs := [.arr it 0 1 0 1]) rfl (by simp only [go_sem] <;> rfl) (by simp [go_sem]) (o5.get 2 rfl) (by first | (simp only [go_sem]; done) | (simp [go_sem]; done) | (simp [go_sem]; omega)) rfl rfl (by simp) (by simp) ?_
    (refine AOpsC_ok hK' _ _ _ ?_; (repeat simp (maxSteps := 4000000) (disch := omega) only [go_sem, redN, Nat.reduceAdd, Int.reduceToNat, Int.reducePow]); (repeat' apply And.intro); (try any_goals (first | (refine hK _ _ ?_; clear hK' hQ hK Q' Kn) | (intro q; refine ⟨q, ?_⟩; simp only [redB] at q; omega) | (intro q; refine ⟨q, fun p => ?_⟩; rw [q, p]; rfl) | (simp; done) | omega | (simp only [redL, intsE_length, wdsE_length]; omega) | (simp; omega) | (intros; (repeat' apply And.intro) <;> (first | assumption | omega | (simp; done))))))
    have o6 := o5.put 2 rfl (.cells 28 0 1 [[.arr it 0 1 0 1]])
    generalize St.set σ6 b4 _ = σ7 at o6 ⊢
    refine AOp.store (cs := [.bool true]) rfl (by simp only [go_sem] <;> rfl) (by simp [go_sem]) (o6.get 1 rfl) (by first | (simp only [go_sem]; done) | (simp [go_sem]; done) | (simp [go_sem]; omega)) rfl rfl (by simp) (by simp) ?_
    (refine AOpsC_ok hK' _ _ _ ?_; (repeat simp (maxSteps := 4000000) (disch := omega) only [go_sem, redN, Nat.reduceAdd, Int.reduceToNat, Int.reducePow]); (repeat' apply And.intro); (try any_goals (first | (refine hK _ _ ?_; clear hK' hQ hK Q' Kn) | (intro q; refine ⟨q, ?_⟩; simp only [redB] at q; omega) | (intro q; refine ⟨q, fun p => ?_⟩; rw [q, p]; rfl) | (simp; done) | omega | (simp only [redL, intsE_length, wdsE_length]; omega) | (simp; omega) | (intros; (repeat' apply And.intro) <;> (first | assumption | omega | (simp; done))))))
    have o7 := o6.put 1 rfl (.cells 4 0 1 [[.bool true]])
    generalize St.set σ7 b5 _ = σ8 at o7 ⊢
    (repeat' (first | refine AW.seq ?_ | refine AW.scope ?_ | refine AW.label ?_ | refine AW.block ?_ | refine AW.skip ?_ | refine AW.exit ?_ | refine AW.ret ?_))
    simp only [AInBlock, AThen, ANoGoto]
    refine ABody.ofRess (fn := Tryz.f16) (vs := [.arr it 0 1 0 1, .bool true]) rfl ?_ ?_
    · exact aRess_cell (aLoad_one (o7.get 2 rfl) rfl) (aRess_cell (aLoad_one (o7.get 1 rfl) rfl) aRess_nil)
    exact ⟨_, o7.sw, by simp, by simp, rfl⟩
  have hfl : fullF R [start] = false := by simpa using hb
  (repeat' (first | refine AW.seq ?_ | refine AW.scope ?_ | refine AW.label ?_ | refine AW.block ?_ | refine AW.skip ?_ | refine AW.exit ?_ | refine AW.ret ?_))
  (refine AW.regionC fun Q' Kn hQ hK hK' => ?_; (repeat simp (maxSteps := 4000000) (disch := omega) only [go_sem, redN, Nat.reduceAdd, Int.reduceToNat, Int.reducePow]); (repeat' apply And.intro); (try any_goals (first | (refine hK _ _ ?_; clear hK' hQ hK Q' Kn) | (intro q; refine ⟨q, ?_⟩; simp only [redB] at q; omega) | (intro q; refine ⟨q, fun p => ?_⟩; rw [q, p]; rfl) | (simp; done) | omega | (simp only [redL, intsE_length, wdsE_length]; omega) | (simp; omega) | (intros; (repeat' apply And.intro) <;> (first | assumption | omega | (simp; done))))))
  refine AOp.call rfl (by simp only [go_sem]; rfl) (by simp [go_sem]) rfl (ACalls.mono (by simp only [go_sem]; exact t_spans G R start f secs y m d upto _) ?_)
  rintro e σ7 ⟨h7, rfl⟩; subst σ7
  (refine AOpsC_ok hK' _ _ _ ?_; (repeat simp (maxSteps := 4000000) (disch := omega) only [go_sem, redN, Nat.reduceAdd, Int.reduceToNat, Int.reducePow]); (repeat' apply And.intro); (try any_goals (first | (refine hK _ _ ?_; clear hK' hQ hK Q' Kn) | (intro q; refine ⟨q, ?_⟩; simp only [redB] at q; omega) | (intro q; refine ⟨q, fun p => ?_⟩; rw [q, p]; rfl) | (simp; done) | omega | (simp only [redL, intsE_length, wdsE_length]; omega) | (simp; omega) | (intros; (repeat' apply And.intro) <;> (first | assumption | omega | (simp; done))))))
  (repeat' (first | refine AW.seq ?_ | refine AW.scope ?_ | refine AW.label ?_ | refine AW.block ?_ | refine AW.skip ?_ | refine AW.exit ?_ | refine AW.ret ?_))
  refine AW.rangeFunc (f := 55) (by simp only [go_sem] <;> rfl) (by simp [go_sem]) rfl fun bd bl fn hd hl hlbd => ?_
  have o6 := (o5.new hd (.dfr true))
  generalize hB : Blk.loop _ _ _ _ _ _ _ _ = B
  have o7 := o6.new (show (St.set σ6 bd (.dfr true)) bl = none by rw [St.set_ne _ _ hlbd]; exact hl) B
  generalize St.set (St.set σ6 bd _) bl B = β at o7 ⊢
  refine ACalls.mono (t_spans1 G R start f secs y m d upto bl hf0 hf1 hy0 hy1 hm0 hm1 hw0 hw1 hi0 hi1 hs0 hs1
    (fun k σ => ∃ lst v, MO st [(bl, B), (bd, .dfr true), (b6, .cells 28 0 1 [[v]]), (b5, .cells 4 0 1 [[.bool false]]), (b4, .cells 28 0 1 [[.nils]])] v σ lst ∧ lst ≠ [] ∧ lst.length ≤ 1 + 400 * k ∧ fullF R lst = false ∧ goF R start upto f secs y m d (4000 - k) k lst = (la, oka))
    (fun σ => ∃ lst v fn' tm' ps' as' bo' d' c x4, MO st [(bl, .loop .done (some c) fn' tm' ps' as' bo' d'), (bd, .dfr true), (b6, .cells 28 0 1 [[v]]), (b5, .cells 4 0 1 [[.bool false]]), (b4, .cells 28 0 1 [[x4]])] v σ lst ∧ lst ≠ [] ∧ lst.length ≤ 10000000 ∧
      ((c = .exit 0 ∧ la = lst ∧ oka = true) ∨ (c = .ret ∧ x4 = v ∧ la = lst ∧ oka = false))) β ⟨[start], _, o7, by simp, by simp, hfl, hA⟩ ?_) ?_
  · rintro k σ hk hst ⟨lst, v, g1, g2, g3, g4, g5⟩
    obtain ⟨ia, g, rfl⟩ := g1.arr g2
    have hll := g1.get 0 rfl
    have hok := stop_ok hst
    have hpn := period_n R hok
    have hn0 : 0 ≤ (k : Int) * R.interval := Int.mul_nonneg (by omega) (by omega)
    have hn1 : (k : Int) * R.interval ≤ 4000000 := Int.le_trans (Int.mul_le_mul (show (k : Int) ≤ 4000 by omega) hi1 (by omega) (by omega)) (by decide)
    have hpb := period_bounds R (y := y) (m := m) hf0 hf1 hw0 hw1 hn0 hn1
    have hnst : ¬ (fullF R lst = true ∨ stopF R f y m upto k = true) := by rw [g4, hst]; simp
    have hnext := fun n' => goF_next R start upto f secs y m d hnst n'
    obtain ⟨a, ha⟩ : ∃ a, (periodF R f y m k).1 = a := ⟨_, rfl⟩
    obtain ⟨n, hn⟩ : ∃ n : Nat, (periodF R f y m k).2.1 = n := ⟨(periodF R f y m k).2.1.toNat, by omega⟩
    simp only [ha, hn, Int.toNat_natCast] at hnext hpb hpn ⊢
    obtain ⟨D, hD⟩ : ∃ D, pickF R (poolF R f m d a n) = D := ⟨_, rfl⟩
    have hDm : ∀ x ∈ D, a ≤ x ∧ x < a + n := fun x hx => pick_mem (by rw [hD]; exact hx)
    have hDl : D.length ≤ n := by rw [← hD]; exact pick_len R f m d a n
    rw [hD] at hnext
    subst hB
    refine ⟨_, _, _, _, _, _, _, _, hll, rfl, ?_⟩
    simp only [go_sem, bindTm]
    (repeat' (first | refine AW.seq ?_ | refine AW.scope ?_ | refine AW.label ?_ | refine AW.block ?_ | refine AW.skip ?_ | refine AW.exit ?_ | refine AW.ret ?_))
    (refine AW.regionC fun Q' Kn hQ hK hK' => ?_; (repeat simp (maxSteps := 4000000) (disch := omega) only [go_sem, redN, Nat.reduceAdd, Int.reduceToNat, Int.reducePow]); (repeat' apply And.intro); (try any_goals (first | (refine hK _ _ ?_; clear hK' hQ hK Q' Kn) | (intro q; refine ⟨q, ?_⟩; simp only [redB] at q; omega) | (intro q; refine ⟨q, fun p => ?_⟩; rw [q, p]; rfl) | (simp; done) | omega | (simp only [redL, intsE_length, wdsE_length]; omega) | (simp; omega) | (intros; (repeat' apply And.intro) <;> (first | assumption | omega | (simp; done))))))
    (repeat' (first | refine AW.seq ?_ | refine AW.scope ?_ | refine AW.label ?_ | refine AW.block ?_ | refine AW.skip ?_ | refine AW.exit ?_ | refine AW.ret ?_))
    (refine AW.regionC fun Q' Kn hQ hK hK' => ?_; (repeat simp (maxSteps := 4000000) (disch := omega) only [go_sem, redN, Nat.reduceAdd, Int.reduceToNat, Int.reducePow]); (repeat' apply And.intro); (try any_goals (first | (refine hK _ _ ?_; clear hK' hQ hK Q' Kn) | (intro q; refine ⟨q, ?_⟩; simp only [redB] at q; omega) | (intro q; refine ⟨q, fun p => ?_⟩; rw [q, p]; rfl) | (simp; done) | omega | (simp only [redL, intsE_length, wdsE_length]; omega) | (simp; omega) | (intros; (repeat' apply And.intro) <;> (first | assumption | omega | (simp; done))))))
    refine AOp.alloc rfl (by simp only [go_sem]; rfl) fun b9 hb9 => ?_
    (refine AOpsC_ok hK' _ _ _ ?_; (repeat simp (maxSteps := 4000000) (disch := omega) only [go_sem, redN, Nat.reduceAdd, Int.reduceToNat, Int.reducePow]); (repeat' apply And.intro); (try any_goals (first | (refine hK _ _ ?_; clear hK' hQ hK Q' Kn) | (intro q; refine ⟨q, ?_⟩; simp only [redB] at q; omega) | (intro q; refine ⟨q, fun p => ?_⟩; rw [q, p]; rfl) | (simp; done) | omega | (simp only [redL, intsE_length, wdsE_length]; omega) | (simp; omega) | (intros; (repeat' apply And.intro) <;> (first | assumption | omega | (simp; done))))))
    have g1b := g1.new hb9 (.cells 69 0 2 [[.int .i64 0, .int .i64 0]])
    generalize St.set σ b9 _ = σ1b at g1b ⊢
    refine AOp.storeAll (cs := [.int .i64 a, .int .i64 n]) rfl (by simp only [go_sem] <;> rfl) (by simp [go_sem]) (g1b.get 0 rfl) (by first | (simp only [go_sem]; done) | (simp [go_sem]; done) | (simp [go_sem]; omega)) (by simp [go_sem, isCell]) rfl rfl rfl ?_
    (refine AOpsC_ok hK' _ _ _ ?_; (repeat simp (maxSteps := 4000000) (disch := omega) only [go_sem, redN, Nat.reduceAdd, Int.reduceToNat, Int.reducePow]); (repeat' apply And.intro); (try any_goals (first | (refine hK _ _ ?_; clear hK' hQ hK Q' Kn) | (intro q; refine ⟨q, ?_⟩; simp only [redB] at q; omega) | (intro q; refine ⟨q, fun p => ?_⟩; rw [q, p]; rfl) | (simp; done) | omega | (simp only [redL, intsE_length, wdsE_length]; omega) | (simp; omega) | (intros; (repeat' apply And.intro) <;> (first | assumption | omega | (simp; done))))))
    have g1c := g1b.put 0 rfl (.cells 69 0 2 [[.int .i64 a, .int .i64 n]])
    generalize St.set σ1b b9 _ = σ1c at g1c ⊢
    simp only [AThen]
    refine ⟨_, _, _, _, _, _, _, g1c.get 1 rfl, ?_⟩
    generalize hBb : Blk.loop LoopState.busy _ _ _ _ _ _ _ = Bb
    have g6b := g1c.put 1 rfl Bb
    generalize St.set σ1c bl Bb = σ2b at g6b ⊢
    refine AW.freeze 9 rfl (g6b.get 0 rfl) ?_
    have g6 : MO st [(bl, Bb), (bd, .dfr true), (b6, .cells 28 0 1 [[.arr ia g 1 0 lst.length]]), (b5, .cells 4 0 1 [[.bool false]]), (b4, .cells 28 0 1 [[.nils]])] (.arr ia g 1 0 lst.length) (σ2b.del b9) lst := g6b.del 0 rfl
    generalize σ2b.del b9 = σ2 at g6 ⊢
    (repeat' (first | refine AW.seq ?_ | refine AW.scope ?_ | refine AW.label ?_ | refine AW.block ?_ | refine AW.skip ?_ | refine AW.exit ?_ | refine AW.ret ?_))
    (refine AW.regionC fun Q' Kn hQ hK hK' => ?_; (repeat simp (maxSteps := 4000000) (disch := omega) only [go_sem, redN, Nat.reduceAdd, Int.reduceToNat, Int.reducePow]); (repeat' apply And.intro); (try any_goals (first | (refine hK _ _ ?_; clear hK' hQ hK Q' Kn) | (intro q; refine ⟨q, ?_⟩; simp only [redB] at q; omega) | (intro q; refine ⟨q, fun p => ?_⟩; rw [q, p]; rfl) | (simp; done) | omega | (simp only [redL, intsE_length, wdsE_length]; omega) | (simp; omega) | (intros; (repeat' apply And.intro) <;> (first | assumption | omega | (simp; done))))))
    (repeat' (first | refine AW.seq ?_ | refine AW.scope ?_ | refine AW.label ?_ | refine AW.block ?_ | refine AW.skip ?_ | refine AW.exit ?_ | refine AW.ret ?_))
    (refine AW.cond (by simp (maxSteps := 4000000) (disch := omega) only [go_sem, redN, Nat.reduceAdd, Int.reduceToNat, Int.reducePow]; rfl) (fun hb => ?_) (fun hb => ?_) <;> (try simp only [redB] at hb))
    · have hk4 : k = 4000 := by omega
      subst hk4
      have hend := goF_end R start upto f secs y m d hnst
      rw [show 4000 - 4000 = 0 from rfl, hend] at g5
      obtain ⟨e1, e2⟩ := Prod.mk.inj g5
      (repeat' (first | refine AW.seq ?_ | refine AW.scope ?_ | refine AW.label ?_ | refine AW.block ?_ | refine AW.skip ?_ | refine AW.exit ?_ | refine AW.ret ?_))
      (refine AW.regionC fun Q' Kn hQ hK hK' => ?_; (repeat simp (maxSteps := 4000000) (disch := omega) only [go_sem, redN, Nat.reduceAdd, Int.reduceToNat, Int.reducePow]); (repeat' apply And.intro); (try any_goals (first | (refine hK _ _ ?_; clear hK' hQ hK Q' Kn) | (intro q; refine ⟨q, ?_⟩; simp only [redB] at q; omega) | (intro q; refine ⟨q, fun p => ?_⟩; rw [q, p]; rfl) | (simp; done) | omega | (simp only [redL, intsE_length, wdsE_length]; omega) | (simp; omega) | (intros; (repeat' apply And.intro) <;> (first | assumption | omega | (simp; done))))))
      refine AOp.loadCell rfl (by simp only [go_sem] <;> rfl) (by simp [go_sem]) (g6.get 2 rfl) rfl (by simp) (by simp) ?_
      (refine AOpsC_ok hK' _ _ _ ?_; (repeat simp (maxSteps := 4000000) (disch := omega) only [go_sem, redN, Nat.reduceAdd, Int.reduceToNat, Int.reducePow]); (repeat' apply And.intro); (try any_goals (first | (refine hK _ _ ?_; clear hK' hQ hK Q' Kn) | (intro q; refine ⟨q, ?_⟩; simp only [redB] at q; omega) | (intro q; refine ⟨q, fun p => ?_⟩; rw [q, p]; rfl) | (simp; done) | omega | (simp only [redL, intsE_length, wdsE_length]; omega) | (simp; omega) | (intros; (repeat' apply And.intro) <;> (first | assumption | omega | (simp; done))))))
      refine AOp.store (cs := [.arr ia g 1 0 lst.length]) rfl (by simp only [go_sem] <;> rfl) (by simp [go_sem]) (g6.get 4 rfl) (by first | (simp only [go_sem]; done) | (simp [go_sem]; done) | (simp [go_sem]; omega)) rfl rfl (by simp) (by simp) ?_
      (refine AOpsC_ok hK' _ _ _ ?_; (repeat simp (maxSteps := 4000000) (disch := omega) only [go_sem, redN, Nat.reduceAdd, Int.reduceToNat, Int.reducePow]); (repeat' apply And.intro); (try any_goals (first | (refine hK _ _ ?_; clear hK' hQ hK Q' Kn) | (intro q; refine ⟨q, ?_⟩; simp only [redB] at q; omega) | (intro q; refine ⟨q, fun p => ?_⟩; rw [q, p]; rfl) | (simp; done) | omega | (simp only [redL, intsE_length, wdsE_length]; omega) | (simp; omega) | (intros; (repeat' apply And.intro) <;> (first | assumption | omega | (simp; done))))))
      have g7 := g6.put 4 rfl (.cells 28 0 1 [[.arr ia g 1 0 lst.length]])
      generalize St.set σ2 b4 _ = σ3 at g7 ⊢
      refine AOp.store (cs := [.bool false]) rfl (by simp only [go_sem] <;> rfl) (by simp [go_sem]) (g7.get 3 rfl) (by first | (simp only [go_sem]; done) | (simp [go_sem]; done) | (simp [go_sem]; omega)) rfl rfl (by simp) (by simp) ?_
      (refine AOpsC_ok hK' _ _ _ ?_; (repeat simp (maxSteps := 4000000) (disch := omega) only [go_sem, redN, Nat.reduceAdd, Int.reduceToNat, Int.reducePow]); (repeat' apply And.intro); (try any_goals (first | (refine hK _ _ ?_; clear hK' hQ hK Q' Kn) | (intro q; refine ⟨q, ?_⟩; simp only [redB] at q; omega) | (intro q; refine ⟨q, fun p => ?_⟩; rw [q, p]; rfl) | (simp; done) | omega | (simp only [redL, intsE_length, wdsE_length]; omega) | (simp; omega) | (intros; (repeat' apply And.intro) <;> (first | assumption | omega | (simp; done))))))
      have g8 := g7.put 3 rfl (.cells 4 0 1 [[.bool false]])
      generalize St.set σ3 b5 _ = σ4 at g8 ⊢
      (repeat' (first | refine AW.seq ?_ | refine AW.scope ?_ | refine AW.label ?_ | refine AW.block ?_ | refine AW.skip ?_ | refine AW.exit ?_ | refine AW.ret ?_))
      simp only [AInBlock, AThen]
      refine ARound.ret (l := bl) ((g8.get 0 rfl).trans (congrArg some hBb.symm)) ?_
      exact ⟨false, rfl, .inr ⟨rfl, lst, _, _, _, _, _, _, _, _, _, g8.put 0 rfl _, g2, by omega, .inr ⟨rfl, rfl, e1.symm, e2.symm⟩⟩⟩
    (repeat' (first | refine AW.seq ?_ | refine AW.scope ?_ | refine AW.label ?_ | refine AW.block ?_ | refine AW.skip ?_ | refine AW.exit ?_ | refine AW.ret ?_))
    (refine AW.regionC fun Q' Kn hQ hK hK' => ?_; (repeat simp (maxSteps := 4000000) (disch := omega) only [go_sem, redN, Nat.reduceAdd, Int.reduceToNat, Int.reducePow]); (repeat' apply And.intro); (try any_goals (first | (refine hK _ _ ?_; clear hK' hQ hK Q' Kn) | (intro q; refine ⟨q, ?_⟩; simp only [redB] at q; omega) | (intro q; refine ⟨q, fun p => ?_⟩; rw [q, p]; rfl) | (simp; done) | omega | (simp only [redL, intsE_length, wdsE_length]; omega) | (simp; omega) | (intros; (repeat' apply And.intro) <;> (first | assumption | omega | (simp; done))))))
    refine AOp.call rfl (by simp only [go_sem]; rfl) (by simp [go_sem]) rfl (ACalls.mono (by simp only [go_sem]; exact t_days G R start f secs y m d a n _) ?_)
    rintro e σ7 ⟨h7, rfl⟩; subst σ7
    (refine AOpsC_ok hK' _ _ _ ?_; (repeat simp (maxSteps := 4000000) (disch := omega) only [go_sem, redN, Nat.reduceAdd, Int.reduceToNat, Int.reducePow]); (repeat' apply And.intro); (try any_goals (first | (refine hK _ _ ?_; clear hK' hQ hK Q' Kn) | (intro q; refine ⟨q, ?_⟩; simp only [redB] at q; omega) | (intro q; refine ⟨q, fun p => ?_⟩; rw [q, p]; rfl) | (simp; done) | omega | (simp only [redL, intsE_length, wdsE_length]; omega) | (simp; omega) | (intros; (repeat' apply And.intro) <;> (first | assumption | omega | (simp; done))))))
    (repeat' (first | refine AW.seq ?_ | refine AW.scope ?_ | refine AW.label ?_ | refine AW.block ?_ | refine AW.skip ?_ | refine AW.exit ?_ | refine AW.ret ?_))
    refine AW.rangeFuncN (l0 := bl) (f := 57) ((g6.get 0 rfl).trans (congrArg some hBb.symm)) (by simp only [go_sem] <;> rfl) (by simp [go_sem]) rfl fun bl2 fn2 hl2 => ?_
    generalize hB2 : Blk.loop _ _ _ _ _ _ _ _ = B2
    have q0 := g6.new hl2 B2
    generalize St.set σ2 bl2 B2 = β2 at q0 ⊢
    have hk4 : k < 4000 := by omega
    obtain ⟨n', hn'⟩ : ∃ n', 4000 - k = n' + 1 := ⟨4000 - k - 1, by omega⟩
    have hnx := hnext n'
    rw [hn', hnx] at g5
    have key := fun J Z hJ take => t_days1 G R start f secs y m d a n bl2 hlm hld hlw hls (by omega) (by omega) (by omega) (by omega) (by omega) J Z β2 hJ take
    simp only [hD] at key
    refine ACalls.mono (key
      (fun pre σ => ∃ ls v, MO st [(bl2, B2), (bl, Bb), (bd, .dfr true), (b6, .cells 28 0 1 [[v]]), (b5, .cells 4 0 1 [[.bool false]]), (b4, .cells 28 0 1 [[.nils]])] v σ ls ∧ ls ≠ [] ∧ ls.length ≤ 1 + 400 * k + pre.length ∧ pre.length ≤ D.length ∧ fullF R ls = false ∧ ∀ suf, D = pre ++ suf → roundF R start secs D lst = roundF R start secs suf ls)
      (fun σ => ∃ ls v fn' tm' ps' as' bo' d', MO st [(bl2, .loop .done (some (.exit 0)) fn' tm' ps' as' bo' d'), (bl, Bb), (bd, .dfr true), (b6, .cells 28 0 1 [[v]]), (b5, .cells 4 0 1 [[.bool false]]), (b4, .cells 28 0 1 [[.nils]])] v σ ls ∧ ls ≠ [] ∧ ls.length ≤ 10000000 ∧ la = ls ∧ oka = true)
      ⟨lst, _, q0, g2, by simpa using g3, by simp, g4, fun suf h => by rw [List.nil_append] at h; rw [h]⟩ ?_) ?_
    · rintro pre x rest σ hpx ⟨ls, v, p1, p2, p3, p4, p5, p6⟩
      obtain ⟨ia2, gg2, rfl⟩ := p1.arr p2
      have hxm := hDm x (by rw [hpx]; simp)
      have hpl : pre.length + 1 ≤ D.length := by rw [hpx]; simp
      have hrd := p6 (x :: rest) hpx
      rw [roundF] at hrd
      have hsuf : ∀ {l2 : List Int}, roundF R start secs D lst = roundF R start secs rest l2 → ∀ suf, D = (pre ++ [x]) ++ suf → roundF R start secs D lst = roundF R start secs suf l2 := fun h suf h2 => by
        rw [hpx, List.append_assoc] at h2
        rw [h, (List.cons.inj (List.append_cancel_left h2)).2]
        rfl
      have hll2 := p1.get 0 rfl
      subst hB2
      refine ⟨_, _, _, _, _, _, _, _, hll2, rfl, ?_⟩
      simp only [go_sem, bindTm]
      (repeat' (first | refine AW.seq ?_ | refine AW.scope ?_ | refine AW.label ?_ | refine AW.block ?_ | refine AW.skip ?_ | refine AW.exit ?_ | refine AW.ret ?_))
      (refine AW.regionC fun Q' Kn hQ hK hK' => ?_; (repeat simp (maxSteps := 4000000) (disch := omega) only [go_sem, redN, Nat.reduceAdd, Int.reduceToNat, Int.reducePow]); (repeat' apply And.intro); (try any_goals (first | (refine hK _ _ ?_; clear hK' hQ hK Q' Kn) | (intro q; refine ⟨q, ?_⟩; simp only [redB] at q; omega) | (intro q; refine ⟨q, fun p => ?_⟩; rw [q, p]; rfl) | (simp; done) | omega | (simp only [redL, intsE_length, wdsE_length]; omega) | (simp; omega) | (intros; (repeat' apply And.intro) <;> (first | assumption | omega | (simp; done))))))
      simp only [AThen]
      refine ⟨_, _, _, _, _, _, _, hll2, ?_⟩
      generalize hBb2 : Blk.loop LoopState.busy _ _ _ _ _ _ _ = Bb2
      have p7 := p1.put 0 rfl Bb2
      generalize St.set σ bl2 Bb2 = σ3 at p7 ⊢
      (repeat' (first | refine AW.seq ?_ | refine AW.scope ?_ | refine AW.label ?_ | refine AW.block ?_ | refine AW.skip ?_ | refine AW.exit ?_ | refine AW.ret ?_))
      (refine AW.regionC fun Q' Kn hQ hK hK' => ?_; (repeat simp (maxSteps := 4000000) (disch := omega) only [go_sem, redN, Nat.reduceAdd, Int.reduceToNat, Int.reducePow]); (repeat' apply And.intro); (try any_goals (first | (refine hK _ _ ?_; clear hK' hQ hK Q' Kn) | (intro q; refine ⟨q, ?_⟩; simp only [redB] at q; omega) | (intro q; refine ⟨q, fun p => ?_⟩; rw [q, p]; rfl) | (simp; done) | omega | (simp only [redL, intsE_length, wdsE_length]; omega) | (simp; omega) | (intros; (repeat' apply And.intro) <;> (first | assumption | omega | (simp; done))))))
      (repeat' (first | refine AW.seq ?_ | refine AW.scope ?_ | refine AW.label ?_ | refine AW.block ?_ | refine AW.skip ?_ | refine AW.exit ?_ | refine AW.ret ?_))
      (refine AW.regionC fun Q' Kn hQ hK hK' => ?_; (repeat simp (maxSteps := 4000000) (disch := omega) only [go_sem, redN, Nat.reduceAdd, Int.reduceToNat, Int.reducePow]); (repeat' apply And.intro); (try any_goals (first | (refine hK _ _ ?_; clear hK' hQ hK Q' Kn) | (intro q; refine ⟨q, ?_⟩; simp only [redB] at q; omega) | (intro q; refine ⟨q, fun p => ?_⟩; rw [q, p]; rfl) | (simp; done) | omega | (simp only [redL, intsE_length, wdsE_length]; omega) | (simp; omega) | (intros; (repeat' apply And.intro) <;> (first | assumption | omega | (simp; done))))))
      (repeat' (first | refine AW.seq ?_ | refine AW.scope ?_ | refine AW.label ?_ | refine AW.block ?_ | refine AW.skip ?_ | refine AW.exit ?_ | refine AW.ret ?_))
      (refine AW.cond (by simp (maxSteps := 4000000) (disch := omega) only [go_sem, redN, Nat.reduceAdd, Int.reduceToNat, Int.reducePow]; rfl) (fun hb => ?_) (fun hb => ?_) <;> (try simp only [redB] at hb))
      · rw [if_pos (.inl hb)] at hrd
        (repeat' (first | refine AW.seq ?_ | refine AW.scope ?_ | refine AW.label ?_ | refine AW.block ?_ | refine AW.skip ?_ | refine AW.exit ?_ | refine AW.ret ?_))
        simp only [AInBlock, AThen, if_true]
        refine ARound.normal (l := bl2) ((p7.get 0 rfl).trans (congrArg some hBb2.symm)) ?_
        exact ⟨true, rfl, .inl ⟨rfl, ls, _, p7.put 0 rfl _, p2, by simp only [List.length_append, List.length_cons, List.length_nil]; omega, by simp only [List.length_append, List.length_cons, List.length_nil]; omega, p5, hsuf hrd⟩⟩
      have hb1 := hb
      (repeat' (first | refine AW.seq ?_ | refine AW.scope ?_ | refine AW.label ?_ | refine AW.block ?_ | refine AW.skip ?_ | refine AW.exit ?_ | refine AW.ret ?_))
      (refine AW.regionC fun Q' Kn hQ hK hK' => ?_; (repeat simp (maxSteps := 4000000) (disch := omega) only [go_sem, redN, Nat.reduceAdd, Int.reduceToNat, Int.reducePow]); (repeat' apply And.intro); (try any_goals (first | (refine hK _ _ ?_; clear hK' hQ hK Q' Kn) | (intro q; refine ⟨q, ?_⟩; simp only [redB] at q; omega) | (intro q; refine ⟨q, fun p => ?_⟩; rw [q, p]; rfl) | (simp; done) | omega | (simp only [redL, intsE_length, wdsE_length]; omega) | (simp; omega) | (intros; (repeat' apply And.intro) <;> (first | assumption | omega | (simp; done))))))
      refine AOp.call rfl (by simp only [go_sem]; rfl) (by simp [go_sem]) rfl (ACalls.mono (by simp only [go_sem]; exact t_late G R start f secs y m d (x * 86400 + secs) hs0 hs1 _) ?_)
      rintro e σ7 ⟨h7, rfl⟩; subst σ7
      (refine AOpsC_ok hK' _ _ _ ?_; (repeat simp (maxSteps := 4000000) (disch := omega) only [go_sem, redN, Nat.reduceAdd, Int.reduceToNat, Int.reducePow]); (repeat' apply And.intro); (try any_goals (first | (refine hK _ _ ?_; clear hK' hQ hK Q' Kn) | (intro q; refine ⟨q, ?_⟩; simp only [redB] at q; omega) | (intro q; refine ⟨q, fun p => ?_⟩; rw [q, p]; rfl) | (simp; done) | omega | (simp only [redL, intsE_length, wdsE_length]; omega) | (simp; omega) | (intros; (repeat' apply And.intro) <;> (first | assumption | omega | (simp; done))))))
      (repeat' (first | refine AW.seq ?_ | refine AW.scope ?_ | refine AW.label ?_ | refine AW.block ?_ | refine AW.skip ?_ | refine AW.exit ?_ | refine AW.ret ?_))
      (refine AW.cond (by simp (maxSteps := 4000000) (disch := omega) only [go_sem, redN, Nat.reduceAdd, Int.reduceToNat, Int.reducePow]; rfl) (fun hb => ?_) (fun hb => ?_) <;> (try simp only [redB] at hb))
      · rw [if_neg (by rw [p5]; simp; omega), if_pos hb] at hrd
        rw [hrd, if_pos rfl] at g5
        obtain ⟨e1, e2⟩ := Prod.mk.inj g5
        (repeat' (first | refine AW.seq ?_ | refine AW.scope ?_ | refine AW.label ?_ | refine AW.block ?_ | refine AW.skip ?_ | refine AW.exit ?_ | refine AW.ret ?_))
        simp only [AThen, AInBlock, show ¬ ((0 : Nat) = 3) from by decide, if_false]
        refine ARound.exit (l := bl2) ((p7.get 0 rfl).trans (congrArg some hBb2.symm)) ?_
        exact ⟨false, rfl, .inr ⟨rfl, ls, _, _, _, _, _, _, _, p7.put 0 rfl _, p2, by omega, e1.symm, e2.symm⟩⟩
      rw [if_neg (by rw [p5]; simp; omega), if_neg (by simpa using hb)] at hrd
      obtain ⟨tt, htt⟩ : ∃ tt, x * 86400 + secs = tt := ⟨_, rfl⟩
      rw [htt] at hrd ⊢
      obtain ⟨βq, s1, s2⟩ := p7
      have p7 : MO st [(bl2, Bb2), (bl, Bb), (bd, .dfr true), (b6, .cells 28 0 1 [[.arr ia2 gg2 1 0 ls.length]]), (b5, .cells 4 0 1 [[.bool false]]), (b4, .cells 28 0 1 [[.nils]])] (.arr ia2 gg2 1 0 ls.length) σ3 ls := ⟨βq, s1, s2⟩
      (repeat' (first | refine AW.seq ?_ | refine AW.scope ?_ | refine AW.label ?_ | refine AW.block ?_ | refine AW.skip ?_ | refine AW.exit ?_ | refine AW.ret ?_))
      (refine AW.regionC fun Q' Kn hQ hK hK' => ?_; (repeat simp (maxSteps := 4000000) (disch := omega) only [go_sem, redN, Nat.reduceAdd, Int.reduceToNat, Int.reducePow]); (repeat' apply And.intro); (try any_goals (first | (refine hK _ _ ?_; clear hK' hQ hK Q' Kn) | (intro q; refine ⟨q, ?_⟩; simp only [redB] at q; omega) | (intro q; refine ⟨q, fun p => ?_⟩; rw [q, p]; rfl) | (simp; done) | omega | (simp only [redL, intsE_length, wdsE_length]; omega) | (simp; omega) | (intros; (repeat' apply And.intro) <;> (first | assumption | omega | (simp; done))))))
      refine AOp.loadCell rfl (by simp only [go_sem] <;> rfl) (by simp [go_sem]) (p7.get 3 rfl) rfl (by simp) (by simp) ?_
      (refine AOpsC_ok hK' _ _ _ ?_; (repeat simp (maxSteps := 4000000) (disch := omega) only [go_sem, redN, Nat.reduceAdd, Int.reduceToNat, Int.reducePow]); (repeat' apply And.intro); (try any_goals (first | (refine hK _ _ ?_; clear hK' hQ hK Q' Kn) | (intro q; refine ⟨q, ?_⟩; simp only [redB] at q; omega) | (intro q; refine ⟨q, fun p => ?_⟩; rw [q, p]; rfl) | (simp; done) | omega | (simp only [redL, intsE_length, wdsE_length]; omega) | (simp; omega) | (intros; (repeat' apply And.intro) <;> (first | assumption | omega | (simp; done))))))
      refine AOp.buildSlice (e := 2) (sz := 1) (es := [[.int .i64 tt]]) rfl rfl rfl rfl (by simp [partsC, go_sem]) (by simp [aParts, go_sem]) (by simp) rfl (by decide) (by decide) fun it2 hit2 => ?_
      (refine AOpsC_ok hK' _ _ _ ?_; (repeat simp (maxSteps := 4000000) (disch := omega) only [go_sem, redN, Nat.reduceAdd, Int.reduceToNat, Int.reducePow]); (repeat' apply And.intro); (try any_goals (first | (refine hK _ _ ?_; clear hK' hQ hK Q' Kn) | (intro q; refine ⟨q, ?_⟩; simp only [redB] at q; omega) | (intro q; refine ⟨q, fun p => ?_⟩; rw [q, p]; rfl) | (simp; done) | omega | (simp only [redL, intsE_length, wdsE_length]; omega) | (simp; omega) | (intros; (repeat' apply And.intro) <;> (first | assumption | omega | (simp; done))))))
      refine AOp.appendE (e := 2) (sz := 1) (by_ := 8) (es := intsE ls) (xs := [[.int .i64 tt]]) rfl rfl rfl rfl rfl rfl rfl (by decide) s1 hit2 rfl (by simp [isCell]) (by simp only [intsE_length]; omega) (by simp only [intsE_length, maxLen]; omega) (by simp) fun v' σ' h9 => ?_
      (refine AOpsC_ok hK' _ _ _ ?_; (repeat simp (maxSteps := 4000000) (disch := omega) only [go_sem, redN, Nat.reduceAdd, Int.reduceToNat, Int.reducePow]); (repeat' apply And.intro); (try any_goals (first | (refine hK _ _ ?_; clear hK' hQ hK Q' Kn) | (intro q; refine ⟨q, ?_⟩; simp only [redB] at q; omega) | (intro q; refine ⟨q, fun p => ?_⟩; rw [q, p]; rfl) | (simp; done) | omega | (simp only [redL, intsE_length, wdsE_length]; omega) | (simp; omega) | (intros; (repeat' apply And.intro) <;> (first | assumption | omega | (simp; done))))))
      rw [intsE_snoc] at h9
      have p8 : MO st [(bl2, Bb2), (bl, Bb), (bd, .dfr true), (b6, .cells 28 0 1 [[.arr ia2 gg2 1 0 ls.length]]), (b5, .cells 4 0 1 [[.bool false]]), (b4, .cells 28 0 1 [[.nils]])] v' σ' (ls ++ [tt]) := ⟨βq, h9, s2⟩
      obtain ⟨ia3, gg3, rfl⟩ := p8.arr (by simp)
      refine AOp.store (cs := [.arr ia3 gg3 1 0 (ls ++ [tt]).length]) rfl (by simp only [go_sem] <;> rfl) (by simp [go_sem]) (p8.get 3 rfl) (by first | (simp only [go_sem]; done) | (simp [go_sem]; done) | (simp [go_sem]; omega)) rfl rfl (by simp) (by simp) ?_
      (refine AOpsC_ok hK' _ _ _ ?_; (repeat simp (maxSteps := 4000000) (disch := omega) only [go_sem, redN, Nat.reduceAdd, Int.reduceToNat, Int.reducePow]); (repeat' apply And.intro); (try any_goals (first | (refine hK _ _ ?_; clear hK' hQ hK Q' Kn) | (intro q; refine ⟨q, ?_⟩; simp only [redB] at q; omega) | (intro q; refine ⟨q, fun p => ?_⟩; rw [q, p]; rfl) | (simp; done) | omega | (simp only [redL, intsE_length, wdsE_length]; omega) | (simp; omega) | (intros; (repeat' apply And.intro) <;> (first | assumption | omega | (simp; done))))))
      have p9 := p8.put 3 rfl (.cells 28 0 1 [[.arr ia3 gg3 1 0 (ls ++ [tt]).length]])
      generalize St.set σ' b6 _ = σ4 at p9 ⊢
      (repeat' (first | refine AW.seq ?_ | refine AW.scope ?_ | refine AW.label ?_ | refine AW.block ?_ | refine AW.skip ?_ | refine AW.exit ?_ | refine AW.ret ?_))
      (refine AW.regionC fun Q' Kn hQ hK hK' => ?_; (repeat simp (maxSteps := 4000000) (disch := omega) only [go_sem, redN, Nat.reduceAdd, Int.reduceToNat, Int.reducePow]); (repeat' apply And.intro); (try any_goals (first | (refine hK _ _ ?_; clear hK' hQ hK Q' Kn) | (intro q; refine ⟨q, ?_⟩; simp only [redB] at q; omega) | (intro q; refine ⟨q, fun p => ?_⟩; rw [q, p]; rfl) | (simp; done) | omega | (simp only [redL, intsE_length, wdsE_length]; omega) | (simp; omega) | (intros; (repeat' apply And.intro) <;> (first | assumption | omega | (simp; done))))))
      refine AOp.call rfl (by simp only [go_sem]; rfl) (by simp [go_sem]) rfl (ACalls.mono (by simp only [go_sem]; exact t_full G R start f secs y m d b6 ia3 gg3 (ls ++ [tt]) (by simp only [List.length_append, List.length_cons, List.length_nil]; omega) _ (p9.get 3 rfl)) ?_)
      rintro e σ7 ⟨h7, rfl⟩; subst σ7
      (refine AOpsC_ok hK' _ _ _ ?_; (repeat simp (maxSteps := 4000000) (disch := omega) only [go_sem, redN, Nat.reduceAdd, Int.reduceToNat, Int.reducePow]); (repeat' apply And.intro); (try any_goals (first | (refine hK _ _ ?_; clear hK' hQ hK Q' Kn) | (intro q; refine ⟨q, ?_⟩; simp only [redB] at q; omega) | (intro q; refine ⟨q, fun p => ?_⟩; rw [q, p]; rfl) | (simp; done) | omega | (simp only [redL, intsE_length, wdsE_length]; omega) | (simp; omega) | (intros; (repeat' apply And.intro) <;> (first | assumption | omega | (simp; done))))))
      (repeat' (first | refine AW.seq ?_ | refine AW.scope ?_ | refine AW.label ?_ | refine AW.block ?_ | refine AW.skip ?_ | refine AW.exit ?_ | refine AW.ret ?_))
      (refine AW.cond (by simp (maxSteps := 4000000) (disch := omega) only [go_sem, redN, Nat.reduceAdd, Int.reduceToNat, Int.reducePow]; rfl) (fun hb => ?_) (fun hb => ?_) <;> (try simp only [redB] at hb))
      · rw [roundF_full R start secs rest _ hb] at hrd
        rw [hrd, if_neg (by simp), goF_stop R start upto f secs y m d (.inl hb)] at g5
        obtain ⟨e1, e2⟩ := Prod.mk.inj g5
        (repeat' (first | refine AW.seq ?_ | refine AW.scope ?_ | refine AW.label ?_ | refine AW.block ?_ | refine AW.skip ?_ | refine AW.exit ?_ | refine AW.ret ?_))
        simp only [AThen, AInBlock, show ¬ ((0 : Nat) = 3) from by decide, if_false]
        refine ARound.exit (l := bl2) ((p9.get 0 rfl).trans (congrArg some hBb2.symm)) ?_
        exact ⟨false, rfl, .inr ⟨rfl, ls ++ [tt], _, _, _, _, _, _, _, p9.put 0 rfl _, by simp, by simp only [List.length_append, List.length_cons, List.length_nil]; omega, e1.symm, e2.symm⟩⟩
      (repeat' (first | refine AW.seq ?_ | refine AW.scope ?_ | refine AW.label ?_ | refine AW.block ?_ | refine AW.skip ?_ | refine AW.exit ?_ | refine AW.ret ?_))
      simp only [AInBlock, AThen]
      refine ARound.normal (l := bl2) ((p9.get 0 rfl).trans (congrArg some hBb2.symm)) ?_
      exact ⟨true, rfl, .inl ⟨rfl, ls ++ [tt], _, p9.put 0 rfl _, by simp, by simp only [List.length_append, List.length_cons, List.length_nil]; omega, by simp only [List.length_append, List.length_cons, List.length_nil]; omega, by simpa using hb, hsuf hrd⟩⟩
    · rintro e σ9 ⟨rfl, hz⟩
      rcases hz with ⟨ls, v, p1, p2, p3, p4, p5, p6⟩ | ⟨ls, v, fn', tm', ps', as', bo', d', p1, p2, p3, e1, e2⟩
      · have hrd := p6 [] (by simp)
        rw [roundF] at hrd
        rw [hrd, if_neg (by simp)] at g5
        have hll2 := p1.get 0 rfl
        subst hB2
        simp only [ARange, hll2]
        refine ⟨by simp, ?_⟩
        have p9 : MO st [(bl, Bb), (bd, .dfr true), (b6, .cells 28 0 1 [[v]]), (b5, .cells 4 0 1 [[.bool false]]), (b4, .cells 28 0 1 [[.nils]])] v (σ9.del bl2) ls := p1.del 0 rfl
        generalize σ9.del bl2 = σ10 at p9 ⊢
        simp only [AInBlock, AThen]
        refine ARound.normal (l := bl) ((p9.get 0 rfl).trans (congrArg some hBb.symm)) ?_
        refine ⟨true, rfl, .inl ⟨rfl, hk4, ls, v, p9.put 0 rfl _, p2, by omega, p5, ?_⟩⟩
        rw [show 4000 - (k + 1) = n' by omega, show ((k + 1 : Nat) : Int) = (k : Int) + 1 by omega]
        exact g5
      · have hll2 := p1.get 0 rfl
        simp only [ARange, hll2]
        refine ⟨by simp, ?_⟩
        have p9 : MO st [(bl, Bb), (bd, .dfr true), (b6, .cells 28 0 1 [[v]]), (b5, .cells 4 0 1 [[.bool false]]), (b4, .cells 28 0 1 [[.nils]])] v (σ9.del bl2) ls := p1.del 0 rfl
        generalize σ9.del bl2 = σ10 at p9 ⊢
        refine AW.exit ?_
        simp only [AInBlock, AThen, show ¬ ((0 : Nat) = 2) from by decide, show ¬ ((0 : Nat) = 1) from by decide, if_false]
        refine ARound.exit (l := bl) ((p9.get 0 rfl).trans (congrArg some hBb.symm)) ?_
        exact ⟨false, rfl, .inr ⟨rfl, ls, v, _, _, _, _, _, _, _, _, p9.put 0 rfl _, p2, p3, .inl ⟨rfl, e1, e2⟩⟩⟩
  · rintro e σ ⟨rfl, hz⟩
    rcases hz with ⟨k, hk, hst, lst, v, g1, g2, g3, g4, g5⟩ | ⟨lst, v, fn', tm', ps', as', bo', d', c, x4, g1, g2, g3, hc⟩
    · rw [goF_stop R start upto f secs y m d (.inr hst)] at g5
      obtain ⟨e1, e2⟩ := Prod.mk.inj g5
      replace e1 := e1.symm
      replace e2 := e2.symm
      have hll := g1.get 0 rfl
      subst hB
      simp only [ARange, hll]
      refine ⟨by simp, ?_⟩
      have h5 : MO st [(bd, .dfr true), (b6, .cells 28 0 1 [[v]]), (b5, .cells 4 0 1 [[.bool false]]), (b4, .cells 28 0 1 [[.nils]])] v (σ.del bl) lst := g1.del 0 rfl
      generalize σ.del bl = σ9 at h5 ⊢
      simp only [AInBlock, AThen]
      obtain ⟨ia, g, rfl⟩ := h5.arr g2
      (repeat' (first | refine AW.seq ?_ | refine AW.scope ?_ | refine AW.label ?_ | refine AW.block ?_ | refine AW.skip ?_ | refine AW.exit ?_ | refine AW.ret ?_))
      (refine AW.regionC fun Q' Kn hQ hK hK' => ?_; (repeat simp (maxSteps := 4000000) (disch := omega) only [go_sem, redN, Nat.reduceAdd, Int.reduceToNat, Int.reducePow]); (repeat' apply And.intro); (try any_goals (first | (refine hK _ _ ?_; clear hK' hQ hK Q' Kn) | (intro q; refine ⟨q, ?_⟩; simp only [redB] at q; omega) | (intro q; refine ⟨q, fun p => ?_⟩; rw [q, p]; rfl) | (simp; done) | omega | (simp only [redL, intsE_length, wdsE_length]; omega) | (simp; omega) | (intros; (repeat' apply And.intro) <;> (first | assumption | omega | (simp; done))))))
      refine AOp.loadCell rfl (by simp only [go_sem] <;> rfl) (by simp [go_sem]) (h5.get 1 rfl) rfl (by simp) (by simp) ?_
      (refine AOpsC_ok hK' _ _ _ ?_; (repeat simp (maxSteps := 4000000) (disch := omega) only [go_sem, redN, Nat.reduceAdd, Int.reduceToNat, Int.reducePow]); (repeat' apply And.intro); (try any_goals (first | (refine hK _ _ ?_; clear hK' hQ hK Q' Kn) | (intro q; refine ⟨q, ?_⟩; simp only [redB] at q; omega) | (intro q; refine ⟨q, fun p => ?_⟩; rw [q, p]; rfl) | (simp; done) | omega | (simp only [redL, intsE_length, wdsE_length]; omega) | (simp; omega) | (intros; (repeat' apply And.intro) <;> (first | assumption | omega | (simp; done))))))
      refine AOp.store (cs := [.arr ia g 1 0 lst.length]) rfl (by simp only [go_sem] <;> rfl) (by simp [go_sem]) (h5.get 3 rfl) (by first | (simp only [go_sem]; done) | (simp [go_sem]; done) | (simp [go_sem]; omega)) rfl rfl (by simp) (by simp) ?_
      (refine AOpsC_ok hK' _ _ _ ?_; (repeat simp (maxSteps := 4000000) (disch := omega) only [go_sem, redN, Nat.reduceAdd, Int.reduceToNat, Int.reducePow]); (repeat' apply And.intro); (try any_goals (first | (refine hK _ _ ?_; clear hK' hQ hK Q' Kn) | (intro q; refine ⟨q, ?_⟩; simp only [redB] at q; omega) | (intro q; refine ⟨q, fun p => ?_⟩; rw [q, p]; rfl) | (simp; done) | omega | (simp only [redL, intsE_length, wdsE_length]; omega) | (simp; omega) | (intros; (repeat' apply And.intro) <;> (first | assumption | omega | (simp; done))))))
      have h6 := h5.put 3 rfl (.cells 28 0 1 [[.arr ia g 1 0 lst.length]])
      generalize St.set σ9 b4 _ = σ10 at h6 ⊢
      refine AOp.store (cs := [.bool true]) rfl (by simp only [go_sem] <;> rfl) (by simp [go_sem]) (h6.get 2 rfl) (by first | (simp only [go_sem]; done) | (simp [go_sem]; done) | (simp [go_sem]; omega)) rfl rfl (by simp) (by simp) ?_
      (refine AOpsC_ok hK' _ _ _ ?_; (repeat simp (maxSteps := 4000000) (disch := omega) only [go_sem, redN, Nat.reduceAdd, Int.reduceToNat, Int.reducePow]); (repeat' apply And.intro); (try any_goals (first | (refine hK _ _ ?_; clear hK' hQ hK Q' Kn) | (intro q; refine ⟨q, ?_⟩; simp only [redB] at q; omega) | (intro q; refine ⟨q, fun p => ?_⟩; rw [q, p]; rfl) | (simp; done) | omega | (simp only [redL, intsE_length, wdsE_length]; omega) | (simp; omega) | (intros; (repeat' apply And.intro) <;> (first | assumption | omega | (simp; done))))))
      have h7 := h6.put 2 rfl (.cells 4 0 1 [[.bool true]])
      generalize St.set σ10 b5 _ = σ11 at h7 ⊢
      have h8 := h7.put 0 rfl (.dfr false)
      (repeat' (first | refine AW.seq ?_ | refine AW.scope ?_ | refine AW.label ?_ | refine AW.block ?_ | refine AW.skip ?_ | refine AW.exit ?_ | refine AW.ret ?_))
      simp only [AInBlock, AThen, ANoGoto]
      refine ABody.ofRess1 (d := bd) (fn := Tryz.f16) (vs := [.arr ia g 1 0 lst.length, .bool true]) rfl (h7.get 0 rfl) ?_ ?_
      · exact aRess_cell (aLoad_one (h8.get 3 rfl) rfl) (aRess_cell (aLoad_one (h8.get 2 rfl) rfl) aRess_nil)
      exact ⟨_, by rw [e1]; exact h8.sw, by rw [e1]; exact g2, by rw [e1]; omega, by rw [e2]; rfl⟩
    have hll := g1.get 0 rfl
    simp only [ARange, hll]
    refine ⟨by simp, ?_⟩
    have h5 : MO st [(bd, .dfr true), (b6, .cells 28 0 1 [[v]]), (b5, .cells 4 0 1 [[.bool false]]), (b4, .cells 28 0 1 [[x4]])] v (σ.del bl) lst := g1.del 0 rfl
    generalize σ.del bl = σ9 at h5 ⊢
    rcases hc with ⟨rfl, e1, e2⟩ | ⟨rfl, rfl, e1, e2⟩
    · refine AW.exit ?_
      simp only [AInBlock, AThen, if_true]
      obtain ⟨ia, g, rfl⟩ := h5.arr g2
      (repeat' (first | refine AW.seq ?_ | refine AW.scope ?_ | refine AW.label ?_ | refine AW.block ?_ | refine AW.skip ?_ | refine AW.exit ?_ | refine AW.ret ?_))
      (refine AW.regionC fun Q' Kn hQ hK hK' => ?_; (repeat simp (maxSteps := 4000000) (disch := omega) only [go_sem, redN, Nat.reduceAdd, Int.reduceToNat, Int.reducePow]); (repeat' apply And.intro); (try any_goals (first | (refine hK _ _ ?_; clear hK' hQ hK Q' Kn) | (intro q; refine ⟨q, ?_⟩; simp only [redB] at q; omega) | (intro q; refine ⟨q, fun p => ?_⟩; rw [q, p]; rfl) | (simp; done) | omega | (simp only [redL, intsE_length, wdsE_length]; omega) | (simp; omega) | (intros; (repeat' apply And.intro) <;> (first | assumption | omega | (simp; done))))))
      refine AOp.loadCell rfl (by simp only [go_sem] <;> rfl) (by simp [go_sem]) (h5.get 1 rfl) rfl (by simp) (by simp) ?_
      (refine AOpsC_ok hK' _ _ _ ?_; (repeat simp (maxSteps := 4000000) (disch := omega) only [go_sem, redN, Nat.reduceAdd, Int.reduceToNat, Int.reducePow]); (repeat' apply And.intro); (try any_goals (first | (refine hK _ _ ?_; clear hK' hQ hK Q' Kn) | (intro q; refine ⟨q, ?_⟩; simp only [redB] at q; omega) | (intro q; refine ⟨q, fun p => ?_⟩; rw [q, p]; rfl) | (simp; done) | omega | (simp only [redL, intsE_length, wdsE_length]; omega) | (simp; omega) | (intros; (repeat' apply And.intro) <;> (first | assumption | omega | (simp; done))))))
      refine AOp.store (cs := [.arr ia g 1 0 lst.length]) rfl (by simp only [go_sem] <;> rfl) (by simp [go_sem]) (h5.get 3 rfl) (by first | (simp only [go_sem]; done) | (simp [go_sem]; done) | (simp [go_sem]; omega)) rfl rfl (by simp) (by simp) ?_
      (refine AOpsC_ok hK' _ _ _ ?_; (repeat simp (maxSteps := 4000000) (disch := omega) only [go_sem, redN, Nat.reduceAdd, Int.reduceToNat, Int.reducePow]); (repeat' apply And.intro); (try any_goals (first | (refine hK _ _ ?_; clear hK' hQ hK Q' Kn) | (intro q; refine ⟨q, ?_⟩; simp only [redB] at q; omega) | (intro q; refine ⟨q, fun p => ?_⟩; rw [q, p]; rfl) | (simp; done) | omega | (simp only [redL, intsE_length, wdsE_length]; omega) | (simp; omega) | (intros; (repeat' apply And.intro) <;> (first | assumption | omega | (simp; done))))))
      have h6 := h5.put 3 rfl (.cells 28 0 1 [[.arr ia g 1 0 lst.length]])
      generalize St.set σ9 b4 _ = σ10 at h6 ⊢
      refine AOp.store (cs := [.bool true]) rfl (by simp only [go_sem] <;> rfl) (by simp [go_sem]) (h6.get 2 rfl) (by first | (simp only [go_sem]; done) | (simp [go_sem]; done) | (simp [go_sem]; omega)) rfl rfl (by simp) (by simp) ?_
      (refine AOpsC_ok hK' _ _ _ ?_; (repeat simp (maxSteps := 4000000) (disch := omega) only [go_sem, redN, Nat.reduceAdd, Int.reduceToNat, Int.reducePow]); (repeat' apply And.intro); (try any_goals (first | (refine hK _ _ ?_; clear hK' hQ hK Q' Kn) | (intro q; refine ⟨q, ?_⟩; simp only [redB] at q; omega) | (intro q; refine ⟨q, fun p => ?_⟩; rw [q, p]; rfl) | (simp; done) | omega | (simp only [redL, intsE_length, wdsE_length]; omega) | (simp; omega) | (intros; (repeat' apply And.intro) <;> (first | assumption | omega | (simp; done))))))
      have h7 := h6.put 2 rfl (.cells 4 0 1 [[.bool true]])
      generalize St.set σ10 b5 _ = σ11 at h7 ⊢
      have h8 := h7.put 0 rfl (.dfr false)
      (repeat' (first | refine AW.seq ?_ | refine AW.scope ?_ | refine AW.label ?_ | refine AW.block ?_ | refine AW.skip ?_ | refine AW.exit ?_ | refine AW.ret ?_))
      simp only [AInBlock, AThen, ANoGoto]
      refine ABody.ofRess1 (d := bd) (fn := Tryz.f16) (vs := [.arr ia g 1 0 lst.length, .bool true]) rfl (h7.get 0 rfl) ?_ ?_
      · exact aRess_cell (aLoad_one (h8.get 3 rfl) rfl) (aRess_cell (aLoad_one (h8.get 2 rfl) rfl) aRess_nil)
      exact ⟨_, by rw [e1]; exact h8.sw, by rw [e1]; exact g2, by rw [e1]; omega, by rw [e2]; rfl⟩
    · refine AW.ret ?_
      have h8 := h5.put 0 rfl (.dfr false)
      simp only [AInBlock, AThen, ANoGoto]
      refine ABody.ofRess1 (d := bd) (fn := Tryz.f16) (vs := [x4, .bool false]) rfl (h5.get 0 rfl) ?_ ?_
      · exact aRess_cell (aLoad_one (h8.get 3 rfl) rfl) (aRess_cell (aLoad_one (h8.get 2 rfl) rfl) aRess_nil)
      exact ⟨_, by rw [e1]; exact h8.sw, by rw [e1]; exact g2, by rw [e1]; omega, by rw [e2]; rfl⟩
end Go.Almanac
