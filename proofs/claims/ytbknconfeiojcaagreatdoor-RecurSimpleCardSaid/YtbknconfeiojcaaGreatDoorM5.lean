/- Texts: decimal numbers, the program's and the document's. -/
import Derived.Test.YtbknconfeiojcaaGreatDoorM3
import Derived.Test.YtbknconfeiojcaaGreatDoorMU
import Derived.Lib.LaidTab
import Derived.Lib.ItoaNum
import Derived.Test.YtbknconfeiojcaaGreatDoorM4
set_option linter.unusedSimpArgs false
set_option linter.unusedVariables false
set_option linter.unusedSectionVars false
set_option maxRecDepth 10000
set_option maxHeartbeats 1000000
/- What every walk of this project's layers begins with. -/
namespace Go.Almanac
open Go.RowKit Go.Proofs Go.Abs
def Wf (n0 : Nat) (w : World) : Prop := 0 < n0 ∧ Lib.TabIs Tryz.prog w "internal/strconv.uint64pow10" .u64 Lib.pow10Tab
noncomputable def Ev (G : Nat → AV) : Env := ⟨Tryz.prog, G, Wf⟩
@[go_sem] theorem Ev_P (G : Nat → AV) : (Ev G).P = Tryz.prog := rfl
theorem redB : type_of% (And.intro @Bool.or_eq_true (And.intro @Bool.and_eq_true (And.intro @Bool.or_eq_false_iff (And.intro @Bool.and_eq_false_iff (And.intro @decide_eq_true_eq (And.intro @decide_eq_false_iff_not (And.intro @beq_iff_eq.{0} (And.intro @bne_iff_ne.{0} (And.intro @Bool.not_eq_true' (And.intro @beq_eq_false_iff_ne.{0} (And.intro @bne_eq_false_iff_eq.{0} (And.intro @ne_eq.{1} (And.intro @Bool.not_eq_false' (And.intro @Bool.true_eq_false (And.intro @Bool.false_eq_true (And.intro @Bool.false_or (And.intro @Bool.true_or (And.intro @Bool.false_and (And.intro @Bool.true_and (And.intro @false_or (And.intro @or_false (And.intro @true_and @and_true)))))))))))))))))))))) := (And.intro @Bool.or_eq_true (And.intro @Bool.and_eq_true (And.intro @Bool.or_eq_false_iff (And.intro @Bool.and_eq_false_iff (And.intro @decide_eq_true_eq (And.intro @decide_eq_false_iff_not (And.intro @beq_iff_eq.{0} (And.intro @bne_iff_ne.{0} (And.intro @Bool.not_eq_true' (And.intro @beq_eq_false_iff_ne.{0} (And.intro @bne_eq_false_iff_eq.{0} (And.intro @ne_eq.{1} (And.intro @Bool.not_eq_false' (And.intro @Bool.true_eq_false (And.intro @Bool.false_eq_true (And.intro @Bool.false_or (And.intro @Bool.true_or (And.intro @Bool.false_and (And.intro @Bool.true_and (And.intro @false_or (And.intro @or_false (And.intro @true_and @and_true))))))))))))))))))))))
theorem redN : type_of% (And.intro @and_1_u8 (And.intro @and_3_u8 (And.intro @and_7_u8 (And.intro @and_15_u8 (And.intro @and_31_u8 (And.intro @and_63_u8 (And.intro @and_127_u8 (And.intro @and_1_u32 (And.intro @and_3_u32 (And.intro @and_7_u32 (And.intro @and_15_u32 (And.intro @and_31_u32 (And.intro @and_63_u32 (And.intro @and_127_u32 (And.intro @and_1_u64 (And.intro @and_3_u64 (And.intro @and_7_u64 (And.intro @and_15_u64 (And.intro @and_31_u64 (And.intro @and_63_u64 (And.intro @and_127_u64 (And.intro @and_1_i32 (And.intro @and_3_i32 (And.intro @and_7_i32 (And.intro @and_15_i32 (And.intro @and_31_i32 (And.intro @and_63_i32 (And.intro @and_127_i32 (And.intro @and_1_i64 (And.intro @and_3_i64 (And.intro @and_7_i64 (And.intro @and_15_i64 (And.intro @and_31_i64 (And.intro @and_63_i64 (And.intro @and_127_i64 (And.intro @fdivp (And.intro @shr_nat (And.intro @tmodp (And.intro @tdivp (And.intro @Int.toNat_natCast (And.intro @w_i64 (And.intro @w_u64 (And.intro @w_u8 (And.intro @w_u32 (And.intro @w_i32 @Nat.min_eq_left))))))))))))))))))))))))))))))))))))))))))))) := (And.intro @and_1_u8 (And.intro @and_3_u8 (And.intro @and_7_u8 (And.intro @and_15_u8 (And.intro @and_31_u8 (And.intro @and_63_u8 (And.intro @and_127_u8 (And.intro @and_1_u32 (And.intro @and_3_u32 (And.intro @and_7_u32 (And.intro @and_15_u32 (And.intro @and_31_u32 (And.intro @and_63_u32 (And.intro @and_127_u32 (And.intro @and_1_u64 (And.intro @and_3_u64 (And.intro @and_7_u64 (And.intro @and_15_u64 (And.intro @and_31_u64 (And.intro @and_63_u64 (And.intro @and_127_u64 (And.intro @and_1_i32 (And.intro @and_3_i32 (And.intro @and_7_i32 (And.intro @and_15_i32 (And.intro @and_31_i32 (And.intro @and_63_i32 (And.intro @and_127_i32 (And.intro @and_1_i64 (And.intro @and_3_i64 (And.intro @and_7_i64 (And.intro @and_15_i64 (And.intro @and_31_i64 (And.intro @and_63_i64 (And.intro @and_127_i64 (And.intro @fdivp (And.intro @shr_nat (And.intro @tmodp (And.intro @tdivp (And.intro @Int.toNat_natCast (And.intro @w_i64 (And.intro @w_u64 (And.intro @w_u8 (And.intro @w_u32 (And.intro @w_i32 @Nat.min_eq_left)))))))))))))))))))))))))))))))))))))))))))))
theorem redL : type_of% (And.intro @List.length_append.{0} (And.intro @List.length_cons.{0} @List.length_nil.{0})) := (And.intro @List.length_append.{0} (And.intro @List.length_cons.{0} @List.length_nil.{0}))
theorem drop_cons {s : List UInt8} {n : Nat} (h : n < s.length) : s.drop n = s.getD n 0 :: s.drop (n + 1) := by
  rw [List.drop_eq_getElem_cons h]; simp [List.getD, List.getElem?_eq_getElem h]
end Go.Almanac

/- Dates: days and seconds, days of the week, leap years. -/
namespace Go.Almanac
open Go.RowKit Go.Proofs Go.Abs
theorem tneg {a k : Int} (h : a ≤ 0) : a.tdiv k = -((-a) / k) ∧ a.tmod k = -((-a) % k) := by
  have h1 := Int.neg_tdiv (-a) k
  have h2 := Int.neg_tmod (-a) k
  rw [Int.neg_neg] at h1 h2
  rw [h1, h2, Int.tdiv_eq_ediv_of_nonneg (by omega), Int.tmod_eq_emod_of_nonneg (by omega)]
  exact ⟨rfl, rfl⟩
theorem tpos {a k : Int} (h : 0 ≤ a) : a.tdiv k = a / k ∧ a.tmod k = a % k := ⟨Int.tdiv_eq_ediv_of_nonneg h, Int.tmod_eq_emod_of_nonneg h⟩
theorem t_truth (G : Nat → AV) (b : Bool) (st : St) : ACalls (Ev G) 52 [.bool b] st (fun e st' => st' = st ∧ e = .ret (.int .i64 (if b then 1 else 0))) := by
  refine ACalls.of_body Tryz.func52 rfl ?_
  rw [Tryz.ntmps52]
  simp only [List.length_cons, List.length_nil, Nat.reduceAdd, Nat.reduceSub, List.replicate_succ, List.replicate_zero, List.cons_append, List.nil_append]
  cases b
  all_goals (
    (repeat' (first | refine AW.seq ?_ | refine AW.scope ?_ | refine AW.label ?_ | refine AW.block ?_ | refine AW.skip ?_ | refine AW.exit ?_ | refine AW.ret ?_ | (refine AW.regionC fun Q' Kn hQ hK hK' => ?_; (repeat simp (disch := omega) only [go_sem, redN, Nat.reduceAdd, Int.reduceToNat, Int.reducePow]); (repeat' apply And.intro); (try any_goals (first | (refine hK _ _ ?_; clear hK' hQ hK Q' Kn) | (simp; done) | omega | (simp only [redL]; omega) | (simp; omega)))) | (refine AW.cond (by simp (disch := omega) only [go_sem, redN, Nat.reduceAdd, Int.reduceToNat, Int.reducePow]; rfl) (fun hb => ?_) (fun hb => ?_) <;> (try simp only [redB] at hb))))
    (refine ⟨_, _, rfl, by simp, ?_⟩; simp only [aTup, AA.get, List.getD_cons_zero, List.getD_cons_succ, true_and])
    try rfl)
  all_goals (exfalso; simp at *)
theorem t_Parts (G : Nat → AV) (t : Int) (h0 : -9223372036854775808 ≤ t) (h1 : t ≤ 9223372036854775807) (st : St) : ACalls (Ev G) 29 [.int .i64 t] st (fun e st' => st' = st ∧ e = .ret (.tup [.int .i64 (t / 86400), .int .i64 (t % 86400)])) := by
  have hd : (t.tmod 86400 + 86400) % 86400 = t % 86400 ∧ t.tdiv 86400 - (if t.tmod 86400 < 0 then 1 else 0) = t / 86400 ∧ -86400 < t.tmod 86400 ∧ t.tmod 86400 < 86400 ∧ -106751991167301 < t.tdiv 86400 ∧ t.tdiv 86400 < 106751991167301 := by
    rcases (show t ≤ 0 ∨ 0 ≤ t by omega) with h | h
    · obtain ⟨e1, e2⟩ := tneg (k := 86400) h
      rw [e1, e2]
      split <;> omega
    · obtain ⟨e1, e2⟩ := tpos (k := 86400) h
      rw [e1, e2]
      split <;> omega
  obtain ⟨d1, d2, d3, d4, d5, d6⟩ := hd
  refine ACalls.of_body Tryz.func29 rfl ?_
  rw [Tryz.ntmps29]
  simp only [List.length_cons, List.length_nil, Nat.reduceAdd, Nat.reduceSub, List.replicate_succ, List.replicate_zero, List.cons_append, List.nil_append]
  (repeat' (first | refine AW.seq ?_ | refine AW.scope ?_ | refine AW.label ?_ | refine AW.block ?_ | refine AW.skip ?_ | refine AW.exit ?_ | refine AW.ret ?_ | (refine AW.regionC fun Q' Kn hQ hK hK' => ?_; (repeat simp (disch := omega) only [go_sem, redN, Nat.reduceAdd, Int.reduceToNat, Int.reducePow]); (repeat' apply And.intro); (try any_goals (first | (refine hK _ _ ?_; clear hK' hQ hK Q' Kn) | (simp; done) | omega | (simp only [redL]; omega) | (simp; omega)))) | (refine AW.cond (by simp (disch := omega) only [go_sem, redN, Nat.reduceAdd, Int.reduceToNat, Int.reducePow]; rfl) (fun hb => ?_) (fun hb => ?_) <;> (try simp only [redB] at hb))))
  refine AOp.call rfl (by simp only [go_sem]; rfl) (by simp [go_sem]) rfl (ACalls.mono (by simp only [go_sem]; exact t_truth G _ st) ?_)
  rintro e st' ⟨rfl, rfl⟩
  have hif : (if decide (t.tmod 86400 < 0) = true then (1 : Int) else 0) = (if t.tmod 86400 < 0 then 1 else 0) := by simp
  rw [hif]
  (refine AOpsC_ok hK' _ _ _ ?_; (repeat simp (disch := omega) only [go_sem, redN, Nat.reduceAdd, Int.reduceToNat, Int.reducePow]); (repeat' apply And.intro); (try any_goals (first | (refine hK _ _ ?_; clear hK' hQ hK Q' Kn) | (simp; done) | omega | (simp only [redL]; omega) | (simp; omega))))
  (repeat' (first | refine AW.seq ?_ | refine AW.scope ?_ | refine AW.label ?_ | refine AW.block ?_ | refine AW.skip ?_ | refine AW.exit ?_ | refine AW.ret ?_ | (refine AW.regionC fun Q' Kn hQ hK hK' => ?_; (repeat simp (disch := omega) only [go_sem, redN, Nat.reduceAdd, Int.reduceToNat, Int.reducePow]); (repeat' apply And.intro); (try any_goals (first | (refine hK _ _ ?_; clear hK' hQ hK Q' Kn) | (simp; done) | omega | (simp only [redL]; omega) | (simp; omega)))) | (refine AW.cond (by simp (disch := omega) only [go_sem, redN, Nat.reduceAdd, Int.reduceToNat, Int.reducePow]; rfl) (fun hb => ?_) (fun hb => ?_) <;> (try simp only [redB] at hb))))
  (refine ⟨_, _, rfl, by simp, ?_⟩; simp only [aTup, AA.get, List.getD_cons_zero, List.getD_cons_succ, true_and])
  rw [d1, d2]
  (try simp (disch := omega) only [w_i64])
theorem t_In (G : Nat → AV) (t : Int) (st : St) : ACalls (Ev G) 13 [.int .i64 t] st (fun e st' => st' = st ∧ e = .ret (.bool (decide (-62135596800 ≤ t) && decide (t ≤ 253402300799)))) := by
  refine ACalls.of_body Tryz.func13 rfl ?_
  rw [Tryz.ntmps13]
  simp only [List.length_cons, List.length_nil, Nat.reduceAdd, Nat.reduceSub, List.replicate_succ, List.replicate_zero, List.cons_append, List.nil_append]
  (repeat' (first | refine AW.seq ?_ | refine AW.scope ?_ | refine AW.label ?_ | refine AW.block ?_ | refine AW.skip ?_ | refine AW.exit ?_ | refine AW.ret ?_ | (refine AW.regionC fun Q' Kn hQ hK hK' => ?_; (repeat simp (disch := omega) only [go_sem, redN, Nat.reduceAdd, Int.reduceToNat, Int.reducePow]); (repeat' apply And.intro); (try any_goals (first | (refine hK _ _ ?_; clear hK' hQ hK Q' Kn) | (simp; done) | omega | (simp only [redL]; omega) | (simp; omega)))) | (refine AW.cond (by simp (disch := omega) only [go_sem, redN, Nat.reduceAdd, Int.reduceToNat, Int.reducePow]; rfl) (fun hb => ?_) (fun hb => ?_) <;> (try simp only [redB] at hb))))
  (refine ⟨_, _, rfl, by simp, ?_⟩; simp only [aTup, AA.get, List.getD_cons_zero, List.getD_cons_succ, true_and])
theorem t_Weekday (G : Nat → AV) (n : Int) (h0 : -9223372036854775808 ≤ n) (h1 : n ≤ 9223372036854775807) (st : St) : ACalls (Ev G) 71 [.int .i64 n] st (fun e st' => st' = st ∧ e = .ret (.int .i64 ((n + 3) % 7))) := by
  have hd : -7 < n.tmod 7 ∧ n.tmod 7 < 7 ∧ (n.tmod 7 + 7 + 3) % 7 = (n + 3) % 7 := by
    rcases (show n ≤ 0 ∨ 0 ≤ n by omega) with h | h
    · obtain ⟨_, e2⟩ := tneg (k := 7) h
      rw [e2]; omega
    · obtain ⟨_, e2⟩ := tpos (k := 7) h
      rw [e2]; omega
  obtain ⟨d1, d2, d3⟩ := hd
  refine ACalls.of_body Tryz.func71 rfl ?_
  rw [Tryz.ntmps71]
  simp only [List.length_cons, List.length_nil, Nat.reduceAdd, Nat.reduceSub, List.replicate_succ, List.replicate_zero, List.cons_append, List.nil_append]
  (repeat' (first | refine AW.seq ?_ | refine AW.scope ?_ | refine AW.label ?_ | refine AW.block ?_ | refine AW.skip ?_ | refine AW.exit ?_ | refine AW.ret ?_ | (refine AW.regionC fun Q' Kn hQ hK hK' => ?_; (repeat simp (disch := omega) only [go_sem, redN, Nat.reduceAdd, Int.reduceToNat, Int.reducePow]); (repeat' apply And.intro); (try any_goals (first | (refine hK _ _ ?_; clear hK' hQ hK Q' Kn) | (simp; done) | omega | (simp only [redL]; omega) | (simp; omega)))) | (refine AW.cond (by simp (disch := omega) only [go_sem, redN, Nat.reduceAdd, Int.reduceToNat, Int.reducePow]; rfl) (fun hb => ?_) (fun hb => ?_) <;> (try simp only [redB] at hb))))
  (refine ⟨_, _, rfl, by simp, ?_⟩; simp only [aTup, AA.get, List.getD_cons_zero, List.getD_cons_succ, true_and])
  rw [d3]
def leap (y : Int) : Bool := y % 4 == 0 && (y % 100 != 0 || y % 400 == 0)
theorem t_leap (G : Nat → AV) (y : Int) (h0 : 0 ≤ y) (h1 : y ≤ 10000) (st : St) : ACalls (Ev G) 90 [.int .i64 y] st (fun e st' => st' = st ∧ e = .ret (.bool (leap y))) := by
  refine ACalls.of_body Tryz.func90 rfl ?_
  rw [Tryz.ntmps90]
  simp only [List.length_cons, List.length_nil, Nat.reduceAdd, Nat.reduceSub, List.replicate_succ, List.replicate_zero, List.cons_append, List.nil_append]
  (repeat' (first | refine AW.seq ?_ | refine AW.scope ?_ | refine AW.label ?_ | refine AW.block ?_ | refine AW.skip ?_ | refine AW.exit ?_ | refine AW.ret ?_ | (refine AW.regionC fun Q' Kn hQ hK hK' => ?_; (repeat simp (disch := omega) only [go_sem, redN, Nat.reduceAdd, Int.reduceToNat, Int.reducePow]); (repeat' apply And.intro); (try any_goals (first | (refine hK _ _ ?_; clear hK' hQ hK Q' Kn) | (simp; done) | omega | (simp only [redL]; omega) | (simp; omega)))) | (refine AW.cond (by simp (disch := omega) only [go_sem, redN, Nat.reduceAdd, Int.reduceToNat, Int.reducePow]; rfl) (fun hb => ?_) (fun hb => ?_) <;> (try simp only [redB] at hb))))
  (refine ⟨_, _, rfl, by simp, ?_⟩; simp only [aTup, AA.get, List.getD_cons_zero, List.getD_cons_succ, true_and])
  simp [leap]
def lens (y : Int) : List Int := [31, if leap y then 29 else 28, 31, 30, 31, 30, 31, 31, 30, 31, 30, 31]
def lensA (y : Int) : List AV := (lens y).map fun n => .int .i64 n
theorem t_lengths (G : Nat → AV) (y : Int) (h0 : 0 ≤ y) (h1 : y ≤ 10000) (st : St) : ACalls (Ev G) 77 [.int .i64 y] st (fun e st' => st' = st ∧ e = .ret (.agg (lensA y))) := by
  refine ACalls.thaw (R' := fun e st' => st.sub st' ∧ e = .ret (.agg (lensA y))) ?_ (fun x st1 h => ⟨2, st, h.1, rfl, by rw [h.2]; rfl⟩)
  refine ACalls.of_body Tryz.func77 rfl ?_
  rw [Tryz.ntmps77]
  simp only [List.length_cons, List.length_nil, Nat.reduceAdd, Nat.reduceSub, List.replicate_succ, List.replicate_zero, List.cons_append, List.nil_append]
  (repeat' (first | refine AW.seq ?_ | refine AW.scope ?_ | refine AW.label ?_ | refine AW.block ?_ | refine AW.skip ?_ | refine AW.exit ?_ | refine AW.ret ?_ | (refine AW.regionC fun Q' Kn hQ hK hK' => ?_; (repeat simp (disch := omega) only [go_sem, redN, Nat.reduceAdd, Int.reduceToNat, Int.reducePow]); (repeat' apply And.intro); (try any_goals (first | (refine hK _ _ ?_; clear hK' hQ hK Q' Kn) | (simp; done) | omega | (simp only [redL]; omega) | (simp; omega)))) | (refine AW.cond (by simp (disch := omega) only [go_sem, redN, Nat.reduceAdd, Int.reduceToNat, Int.reducePow]; rfl) (fun hb => ?_) (fun hb => ?_) <;> (try simp only [redB] at hb))))
  refine AOp.alloc (cs := List.replicate 12 (.int .i64 0)) rfl rfl fun b hbn => ?_
  (refine AOpsC_ok hK' _ _ _ ?_; (repeat simp (disch := omega) only [go_sem, redN, Nat.reduceAdd, Int.reduceToNat, Int.reducePow]); (repeat' apply And.intro); (try any_goals (first | (refine hK _ _ ?_; clear hK' hQ hK Q' Kn) | (simp; done) | omega | (simp only [redL]; omega) | (simp; omega))))
  (repeat' (first | refine AW.seq ?_ | refine AW.scope ?_ | refine AW.label ?_ | refine AW.block ?_ | refine AW.skip ?_ | refine AW.exit ?_ | refine AW.ret ?_ | (refine AW.regionC fun Q' Kn hQ hK hK' => ?_; (repeat simp (disch := omega) only [go_sem, redN, Nat.reduceAdd, Int.reduceToNat, Int.reducePow]); (repeat' apply And.intro); (try any_goals (first | (refine hK _ _ ?_; clear hK' hQ hK Q' Kn) | (simp; done) | omega | (simp only [redL]; omega) | (simp; omega)))) | (refine AW.cond (by simp (disch := omega) only [go_sem, redN, Nat.reduceAdd, Int.reduceToNat, Int.reducePow]; rfl) (fun hb => ?_) (fun hb => ?_) <;> (try simp only [redB] at hb))))
  refine AOp.buildArr (e := 3) (n := 12) (sz := 1) (es := [[.int .i64 31], [.int .i64 28], [.int .i64 31], [.int .i64 30], [.int .i64 31], [.int .i64 30], [.int .i64 31], [.int .i64 31], [.int .i64 30], [.int .i64 31], [.int .i64 30], [.int .i64 31]]) rfl rfl rfl rfl (by simp [partsC, go_sem]) (by simp [aParts, go_sem, aCells]) (by simp) rfl ?_
  (refine AOpsC_ok hK' _ _ _ ?_; (repeat simp (disch := omega) only [go_sem, redN, Nat.reduceAdd, Int.reduceToNat, Int.reducePow]); (repeat' apply And.intro); (try any_goals (first | (refine hK _ _ ?_; clear hK' hQ hK Q' Kn) | (simp; done) | omega | (simp only [redL]; omega) | (simp; omega))))
  refine AOp.alloc (cs := List.replicate 12 (.int .i64 0)) rfl rfl fun b2 hb2 => ?_
  (refine AOpsC_ok hK' _ _ _ ?_; (repeat simp (disch := omega) only [go_sem, redN, Nat.reduceAdd, Int.reduceToNat, Int.reducePow]); (repeat' apply And.intro); (try any_goals (first | (refine hK _ _ ?_; clear hK' hQ hK Q' Kn) | (simp; done) | omega | (simp only [redL]; omega) | (simp; omega))))
  have nb : b2 ≠ b := fun e => by subst e; rw [St.set_same] at hb2; cases hb2
  have hb20 : st b2 = none := by rw [St.set_ne _ _ nb] at hb2; exact hb2
  refine AOp.storeAll (t0 := 105) (cs := [.int .i64 31, .int .i64 28, .int .i64 31, .int .i64 30, .int .i64 31, .int .i64 30, .int .i64 31, .int .i64 31, .int .i64 30, .int .i64 31, .int .i64 30, .int .i64 31]) (sz := 12) rfl (by simp only [go_sem] <;> rfl) (by simp [go_sem]) (St.set_same _ _ _) (by simp [go_sem, aCells]) rfl rfl rfl rfl ?_
  (refine AOpsC_ok hK' _ _ _ ?_; (repeat simp (disch := omega) only [go_sem, redN, Nat.reduceAdd, Int.reduceToNat, Int.reducePow]); (repeat' apply And.intro); (try any_goals (first | (refine hK _ _ ?_; clear hK' hQ hK Q' Kn) | (simp; done) | omega | (simp only [redL]; omega) | (simp; omega))))
  (repeat' (first | refine AW.seq ?_ | refine AW.scope ?_ | refine AW.label ?_ | refine AW.block ?_ | refine AW.skip ?_ | refine AW.exit ?_ | refine AW.ret ?_ | (refine AW.regionC fun Q' Kn hQ hK hK' => ?_; (repeat simp (disch := omega) only [go_sem, redN, Nat.reduceAdd, Int.reduceToNat, Int.reducePow]); (repeat' apply And.intro); (try any_goals (first | (refine hK _ _ ?_; clear hK' hQ hK Q' Kn) | (simp; done) | omega | (simp only [redL]; omega) | (simp; omega)))) | (refine AW.cond (by simp (disch := omega) only [go_sem, redN, Nat.reduceAdd, Int.reduceToNat, Int.reducePow]; rfl) (fun hb => ?_) (fun hb => ?_) <;> (try simp only [redB] at hb))))
  refine AOp.call rfl (by simp only [go_sem]; rfl) (by simp [go_sem]) rfl (ACalls.mono (by simp only [go_sem]; exact t_leap G y h0 h1 _) ?_)
  rintro e st' ⟨hst', rfl⟩
  have hs1 : st.sub st' := by rw [hst', St.set_set]; exact St.sub_set (St.sub_set (St.sub_refl st) hbn _) hb20 _
  have hx2 : st' b2 = some (.cells 105 0 12 [[.int .i64 31, .int .i64 28, .int .i64 31, .int .i64 30, .int .i64 31, .int .i64 30, .int .i64 31, .int .i64 31, .int .i64 30, .int .i64 31, .int .i64 30, .int .i64 31]]) := by rw [hst', St.set_same]
  have hx1 : st' b = some (.cells 105 0 12 [List.replicate 12 (.int .i64 0)]) := by rw [hst', St.set_set, St.set_ne _ _ (Ne.symm nb), St.set_same]; rfl
  clear hst'
  (refine AOpsC_ok hK' _ _ _ ?_; (repeat simp (disch := omega) only [go_sem, redN, Nat.reduceAdd, Int.reduceToNat, Int.reducePow]); (repeat' apply And.intro); (try any_goals (first | (refine hK _ _ ?_; clear hK' hQ hK Q' Kn) | (simp; done) | omega | (simp only [redL]; omega) | (simp; omega))))
  (repeat' (first | refine AW.seq ?_ | refine AW.scope ?_ | refine AW.label ?_ | refine AW.block ?_ | refine AW.skip ?_ | refine AW.exit ?_ | refine AW.ret ?_ | (refine AW.regionC fun Q' Kn hQ hK hK' => ?_; (repeat simp (disch := omega) only [go_sem, redN, Nat.reduceAdd, Int.reduceToNat, Int.reducePow]); (repeat' apply And.intro); (try any_goals (first | (refine hK _ _ ?_; clear hK' hQ hK Q' Kn) | (simp; done) | omega | (simp only [redL]; omega) | (simp; omega)))) | (refine AW.cond (by simp (disch := omega) only [go_sem, redN, Nat.reduceAdd, Int.reduceToNat, Int.reducePow]; rfl) (fun hb => ?_) (fun hb => ?_) <;> (try simp only [redB] at hb))))
  · refine AOp.store (t0 := 105) (cs := [.int .i64 29]) (id := b2) (g := 0) (i := 0) (f := 1) (sz := 12) rfl (by simp only [go_sem] <;> rfl) (by simp [go_sem]) hx2 (by simp [go_sem, aCells]) rfl rfl (by simp) (by simp) ?_
    (refine AOpsC_ok hK' _ _ _ ?_; (repeat simp (disch := omega) only [go_sem, redN, Nat.reduceAdd, Int.reduceToNat, Int.reducePow]); (repeat' apply And.intro); (try any_goals (first | (refine hK _ _ ?_; clear hK' hQ hK Q' Kn) | (simp; done) | omega | (simp only [redL]; omega) | (simp; omega))))
    (repeat' (first | refine AW.seq ?_ | refine AW.scope ?_ | refine AW.label ?_ | refine AW.block ?_ | refine AW.skip ?_ | refine AW.exit ?_ | refine AW.ret ?_ | (refine AW.regionC fun Q' Kn hQ hK hK' => ?_; (repeat simp (disch := omega) only [go_sem, redN, Nat.reduceAdd, Int.reduceToNat, Int.reducePow]); (repeat' apply And.intro); (try any_goals (first | (refine hK _ _ ?_; clear hK' hQ hK Q' Kn) | (simp; done) | omega | (simp only [redL]; omega) | (simp; omega)))) | (refine AW.cond (by simp (disch := omega) only [go_sem, redN, Nat.reduceAdd, Int.reduceToNat, Int.reducePow]; rfl) (fun hb => ?_) (fun hb => ?_) <;> (try simp only [redB] at hb))))
    refine AOp.loadAll (id := b2) (t0 := 105) (sz := 12) (cs := lensA y) rfl (by simp only [go_sem] <;> rfl) (by simp [go_sem]) (by rw [St.set_same]; simp [lensA, lens, hb, splice]) rfl rfl rfl ?_
    (refine AOpsC_ok hK' _ _ _ ?_; (repeat simp (disch := omega) only [go_sem, redN, Nat.reduceAdd, Int.reduceToNat, Int.reducePow]); (repeat' apply And.intro); (try any_goals (first | (refine hK _ _ ?_; clear hK' hQ hK Q' Kn) | (simp; done) | omega | (simp only [redL]; omega) | (simp; omega))))
    refine AOp.storeAll (id := b) (t0 := 105) (sz := 12) (cs := lensA y) rfl (by simp only [go_sem] <;> rfl) (by simp [go_sem]) (by rw [St.set_ne _ _ (Ne.symm nb)]; exact hx1) (by simp [go_sem, aCells]) rfl rfl rfl rfl ?_
    (refine AOpsC_ok hK' _ _ _ ?_; (repeat simp (disch := omega) only [go_sem, redN, Nat.reduceAdd, Int.reduceToNat, Int.reducePow]); (repeat' apply And.intro); (try any_goals (first | (refine hK _ _ ?_; clear hK' hQ hK Q' Kn) | (simp; done) | omega | (simp only [redL]; omega) | (simp; omega))))
    (repeat' (first | refine AW.seq ?_ | refine AW.scope ?_ | refine AW.label ?_ | refine AW.block ?_ | refine AW.skip ?_ | refine AW.exit ?_ | refine AW.ret ?_))
    refine ABody.ofRess (vs := [.agg (lensA y)]) rfl (show ∃ c, aRess _ _ _ [.cell 2 105] = _ ∧ c from aRess_cell (aLoad_all (St.set_same _ _ _) rfl rfl rfl) aRess_nil) ⟨?_, rfl⟩
    intro i B hi
    have n1 : i ≠ b := fun e => by subst e; rw [hbn] at hi; cases hi
    have n2 : i ≠ b2 := fun e => by subst e; rw [hb20] at hi; cases hi
    rw [St.set_ne _ _ n1, St.set_ne _ _ n2]; exact hs1 i B hi
  · refine AOp.loadAll (id := b2) (t0 := 105) (sz := 12) (cs := lensA y) rfl (by simp only [go_sem] <;> rfl) (by simp [go_sem]) (by rw [hx2]; simp [lensA, lens, hb]) rfl rfl rfl ?_
    (refine AOpsC_ok hK' _ _ _ ?_; (repeat simp (disch := omega) only [go_sem, redN, Nat.reduceAdd, Int.reduceToNat, Int.reducePow]); (repeat' apply And.intro); (try any_goals (first | (refine hK _ _ ?_; clear hK' hQ hK Q' Kn) | (simp; done) | omega | (simp only [redL]; omega) | (simp; omega))))
    refine AOp.storeAll (id := b) (t0 := 105) (sz := 12) (cs := lensA y) rfl (by simp only [go_sem] <;> rfl) (by simp [go_sem]) hx1 (by simp [go_sem, aCells]) rfl rfl rfl rfl ?_
    (refine AOpsC_ok hK' _ _ _ ?_; (repeat simp (disch := omega) only [go_sem, redN, Nat.reduceAdd, Int.reduceToNat, Int.reducePow]); (repeat' apply And.intro); (try any_goals (first | (refine hK _ _ ?_; clear hK' hQ hK Q' Kn) | (simp; done) | omega | (simp only [redL]; omega) | (simp; omega))))
    (repeat' (first | refine AW.seq ?_ | refine AW.scope ?_ | refine AW.label ?_ | refine AW.block ?_ | refine AW.skip ?_ | refine AW.exit ?_ | refine AW.ret ?_))
    refine ABody.ofRess (vs := [.agg (lensA y)]) rfl (show ∃ c, aRess _ _ _ [.cell 2 105] = _ ∧ c from aRess_cell (aLoad_all (St.set_same _ _ _) rfl rfl rfl) aRess_nil) ⟨?_, rfl⟩
    intro i B hi
    have n1 : i ≠ b := fun e => by subst e; rw [hbn] at hi; cases hi
    rw [St.set_ne _ _ n1]; exact hs1 i B hi
end Go.Almanac

/- Dates: how many days a month has; a year's first day; the document's. -/
namespace Go.Almanac
open Go.RowKit Go.Proofs Go.Abs
def mlen (y m : Int) : Int := if y < 1 ∨ y > 9999 ∨ m < 1 ∨ m > 12 then 0 else (lens y).getD (m - 1).toNat 0
theorem t_Length (G : Nat → AV) (y m : Int) (st : St) : ACalls (Ev G) 72 [.int .i64 y, .int .i64 m] st (fun e st' => st' = st ∧ e = .ret (.int .i64 (mlen y m))) := by
  refine ACalls.of_body Tryz.func72 rfl ?_
  rw [Tryz.ntmps72]
  simp only [List.length_cons, List.length_nil, Nat.reduceAdd, Nat.reduceSub, List.replicate_succ, List.replicate_zero, List.cons_append, List.nil_append]
  (repeat' (first | refine AW.seq ?_ | refine AW.scope ?_ | refine AW.label ?_ | refine AW.block ?_ | refine AW.skip ?_ | refine AW.exit ?_ | refine AW.ret ?_ | (refine AW.regionC fun Q' Kn hQ hK hK' => ?_; (repeat simp (disch := omega) only [go_sem, redN, Nat.reduceAdd, Int.reduceToNat, Int.reducePow]); (repeat' apply And.intro); (try any_goals (first | (refine hK _ _ ?_; clear hK' hQ hK Q' Kn) | (simp; done) | omega | (simp only [redL]; omega) | (simp; omega)))) | (refine AW.cond (by simp (disch := omega) only [go_sem, redN, Nat.reduceAdd, Int.reduceToNat, Int.reducePow]; rfl) (fun hb => ?_) (fun hb => ?_) <;> (try simp only [redB] at hb))))
  · (refine ⟨_, _, rfl, by simp, ?_⟩; simp only [aTup, AA.get, List.getD_cons_zero, List.getD_cons_succ, true_and])
    rw [mlen, if_pos (by omega)]
  · refine AOp.call rfl (by simp only [go_sem]; rfl) (by simp [go_sem]) rfl (ACalls.mono (by simp only [go_sem]; exact t_lengths G y (by omega) (by omega) st) ?_)
    rintro e st' ⟨rfl, rfl⟩
    have hm : mlen y m = (lens y).getD (m - 1).toNat 0 := by rw [mlen, if_neg (by omega)]
    have hm12 : (m - 1).toNat < 12 := by omega
    have hg : (lensA y).getD (m - 1).toNat .junk = .int .i64 (mlen y m) := by
      rw [hm]
      have : (m - 1).toNat < (lens y).length := hm12
      generalize (m - 1).toNat = j at *
      simp [lensA, List.getD, List.getElem?_eq_getElem this]
    (refine AOpsC_ok hK' _ _ _ ?_; (repeat simp (disch := omega) only [go_sem, redN, Nat.reduceAdd, Int.reduceToNat, Int.reducePow]); (repeat' apply And.intro); (try any_goals (first | (refine hK _ _ ?_; clear hK' hQ hK Q' Kn) | (simp; done) | omega | (simp only [redL]; omega) | (simp; omega))))
    · show (m - 1).toNat * 1 < 12
      omega
    (repeat' (first | refine AW.seq ?_ | refine AW.scope ?_ | refine AW.label ?_ | refine AW.block ?_ | refine AW.skip ?_ | refine AW.exit ?_ | refine AW.ret ?_ | (refine AW.regionC fun Q' Kn hQ hK hK' => ?_; (repeat simp (disch := omega) only [go_sem, redN, Nat.reduceAdd, Int.reduceToNat, Int.reducePow]); (repeat' apply And.intro); (try any_goals (first | (refine hK _ _ ?_; clear hK' hQ hK Q' Kn) | (simp; done) | omega | (simp only [redL]; omega) | (simp; omega)))) | (refine AW.cond (by simp (disch := omega) only [go_sem, redN, Nat.reduceAdd, Int.reduceToNat, Int.reducePow]; rfl) (fun hb => ?_) (fun hb => ?_) <;> (try simp only [redB] at hb))))
    (refine ⟨_, _, rfl, by simp, ?_⟩; simp only [aTup, AA.get, List.getD_cons_zero, List.getD_cons_succ, true_and])
    show AEnd.ret ((lensA y).getD ((m - 1).toNat * 1) .junk) = _
    rw [Nat.mul_one, hg]
theorem r_leap (G : Nat → AV) (y : Int) (h0 : 0 ≤ y) (h1 : y ≤ 10000) (st : St) : ACalls (Ev G) 84 [.int .i64 y] st (fun e st' => st' = st ∧ e = .ret (.bool (leap y))) := by
  refine ACalls.of_body Tryz.func84 rfl ?_
  rw [Tryz.ntmps84]
  simp only [List.length_cons, List.length_nil, Nat.reduceAdd, Nat.reduceSub, List.replicate_succ, List.replicate_zero, List.cons_append, List.nil_append]
  (repeat' (first | refine AW.seq ?_ | refine AW.scope ?_ | refine AW.label ?_ | refine AW.block ?_ | refine AW.skip ?_ | refine AW.exit ?_ | refine AW.ret ?_ | (refine AW.regionC fun Q' Kn hQ hK hK' => ?_; (repeat simp (disch := omega) only [go_sem, redN, Nat.reduceAdd, Int.reduceToNat, Int.reducePow]); (repeat' apply And.intro); (try any_goals (first | (refine hK _ _ ?_; clear hK' hQ hK Q' Kn) | (simp; done) | omega | (simp only [redL]; omega) | (simp; omega)))) | (refine AW.cond (by simp (disch := omega) only [go_sem, redN, Nat.reduceAdd, Int.reduceToNat, Int.reducePow]; rfl) (fun hb => ?_) (fun hb => ?_) <;> (try simp only [redB] at hb))))
  (refine ⟨_, _, rfl, by simp, ?_⟩; simp only [aTup, AA.get, List.getD_cons_zero, List.getD_cons_succ, true_and])
  simp only [leap, true_and]
  by_cases h4 : y % 4 = 0
  · simp [h4]
  · have h400 : ¬ y % 400 = 0 := by omega
    rw [beq_eq_false_iff_ne.2 h4, beq_eq_false_iff_ne.2 h400]
    rfl
def first (y : Int) : Int := -719162 + 365 * (y - 1) + (y - 1) / 4 - (y - 1) / 100 + (y - 1) / 400
theorem t_begins (G : Nat → AV) (y : Int) (h0 : 1 ≤ y) (h1 : y ≤ 10000) (st : St) : ACalls (Ev G) 53 [.int .i64 y] st (fun e st' => st' = st ∧ e = .ret (.int .i64 (first y))) := by
  refine ACalls.of_body Tryz.func53 rfl ?_
  rw [Tryz.ntmps53]
  simp only [List.length_cons, List.length_nil, Nat.reduceAdd, Nat.reduceSub, List.replicate_succ, List.replicate_zero, List.cons_append, List.nil_append]
  (repeat' (first | refine AW.seq ?_ | refine AW.scope ?_ | refine AW.label ?_ | refine AW.block ?_ | refine AW.skip ?_ | refine AW.exit ?_ | refine AW.ret ?_ | (refine AW.regionC fun Q' Kn hQ hK hK' => ?_; (repeat simp (disch := omega) only [go_sem, redN, Nat.reduceAdd, Int.reduceToNat, Int.reducePow]); (repeat' apply And.intro); (try any_goals (first | (refine hK _ _ ?_; clear hK' hQ hK Q' Kn) | (simp; done) | omega | (simp only [redL]; omega) | (simp; omega)))) | (refine AW.cond (by simp (disch := omega) only [go_sem, redN, Nat.reduceAdd, Int.reduceToNat, Int.reducePow]; rfl) (fun hb => ?_) (fun hb => ?_) <;> (try simp only [redB] at hb))))
  (refine ⟨_, _, rfl, by simp, ?_⟩; simp only [aTup, AA.get, List.getD_cons_zero, List.getD_cons_succ, true_and])
  rfl
theorem r_ahead (G : Nat → AV) (y : Int) (h0 : 1 ≤ y) (h1 : y ≤ 10000) (st : St) : ACalls (Ev G) 83 [.int .i64 y] st (fun e st' => st' = st ∧ e = .ret (.int .i64 (first y + 719162))) := by
  refine ACalls.of_body Tryz.func83 rfl ?_
  rw [Tryz.ntmps83]
  simp only [List.length_cons, List.length_nil, Nat.reduceAdd, Nat.reduceSub, List.replicate_succ, List.replicate_zero, List.cons_append, List.nil_append]
  (repeat' (first | refine AW.seq ?_ | refine AW.scope ?_ | refine AW.label ?_ | refine AW.block ?_ | refine AW.skip ?_ | refine AW.exit ?_ | refine AW.ret ?_ | (refine AW.regionC fun Q' Kn hQ hK hK' => ?_; (repeat simp (disch := omega) only [go_sem, redN, Nat.reduceAdd, Int.reduceToNat, Int.reducePow]); (repeat' apply And.intro); (try any_goals (first | (refine hK _ _ ?_; clear hK' hQ hK Q' Kn) | (simp; done) | omega | (simp only [redL]; omega) | (simp; omega)))) | (refine AW.cond (by simp (disch := omega) only [go_sem, redN, Nat.reduceAdd, Int.reduceToNat, Int.reducePow]; rfl) (fun hb => ?_) (fun hb => ?_) <;> (try simp only [redB] at hb))))
  (refine ⟨_, _, rfl, by simp, ?_⟩; simp only [aTup, AA.get, List.getD_cons_zero, List.getD_cons_succ, true_and])
  rw [first, show -719162 + 365 * (y - 1) + (y - 1) / 4 - (y - 1) / 100 + (y - 1) / 400 + 719162 = (y - 1) * 365 + (y - 1) / 4 - (y - 1) / 100 + (y - 1) / 400 from by omega]
theorem r_In (G : Nat → AV) (t : Int) (st : St) : ACalls (Ev G) 11 [.int .i64 t] st (fun e st' => st' = st ∧ e = .ret (.bool (decide (-62135596800 ≤ t) && decide (t ≤ 253402300799)))) := by
  refine ACalls.of_body Tryz.func11 rfl ?_
  rw [Tryz.ntmps11]
  simp only [List.length_cons, List.length_nil, Nat.reduceAdd, Nat.reduceSub, List.replicate_succ, List.replicate_zero, List.cons_append, List.nil_append]
  (repeat' (first | refine AW.seq ?_ | refine AW.scope ?_ | refine AW.label ?_ | refine AW.block ?_ | refine AW.skip ?_ | refine AW.exit ?_ | refine AW.ret ?_ | (refine AW.regionC fun Q' Kn hQ hK hK' => ?_; (repeat simp (disch := omega) only [go_sem, redN, Nat.reduceAdd, Int.reduceToNat, Int.reducePow]); (repeat' apply And.intro); (try any_goals (first | (refine hK _ _ ?_; clear hK' hQ hK Q' Kn) | (simp; done) | omega | (simp only [redL]; omega) | (simp; omega)))) | (refine AW.cond (by simp (disch := omega) only [go_sem, redN, Nat.reduceAdd, Int.reduceToNat, Int.reducePow]; rfl) (fun hb => ?_) (fun hb => ?_) <;> (try simp only [redB] at hb))))
  (refine ⟨_, _, rfl, by simp, ?_⟩; simp only [aTup, AA.get, List.getD_cons_zero, List.getD_cons_succ, true_and])
theorem r_Parts (G : Nat → AV) (t : Int) (h0 : -9223372036854775808 ≤ t) (h1 : t ≤ 9223372036854775807) (st : St) : ACalls (Ev G) 45 [.int .i64 t] st (fun e st' => st' = st ∧ e = .ret (.tup [.int .i64 (t / 86400), .int .i64 (t % 86400)])) := by
  have hd : (t.tmod 86400 < 0 → t.tmod 86400 + 86400 = t % 86400 ∧ t.tdiv 86400 - 1 = t / 86400) ∧ (¬ t.tmod 86400 < 0 → t.tmod 86400 = t % 86400 ∧ t.tdiv 86400 = t / 86400) ∧ -86400 < t.tmod 86400 ∧ t.tmod 86400 < 86400 ∧ -106751991167301 < t.tdiv 86400 ∧ t.tdiv 86400 < 106751991167301 := by
    rcases (show t ≤ 0 ∨ 0 ≤ t by omega) with h | h
    · obtain ⟨e1, e2⟩ := tneg (k := 86400) h
      rw [e1, e2]; omega
    · obtain ⟨e1, e2⟩ := tpos (k := 86400) h
      rw [e1, e2]; omega
  obtain ⟨d1, d2, d3, d4, d5, d6⟩ := hd
  refine ACalls.of_body Tryz.func45 rfl ?_
  rw [Tryz.ntmps45]
  simp only [List.length_cons, List.length_nil, Nat.reduceAdd, Nat.reduceSub, List.replicate_succ, List.replicate_zero, List.cons_append, List.nil_append]
  (repeat' (first | refine AW.seq ?_ | refine AW.scope ?_ | refine AW.label ?_ | refine AW.block ?_ | refine AW.skip ?_ | refine AW.exit ?_ | refine AW.ret ?_ | (refine AW.regionC fun Q' Kn hQ hK hK' => ?_; (repeat simp (disch := omega) only [go_sem, redN, Nat.reduceAdd, Int.reduceToNat, Int.reducePow]); (repeat' apply And.intro); (try any_goals (first | (refine hK _ _ ?_; clear hK' hQ hK Q' Kn) | (simp; done) | omega | (simp only [redL]; omega) | (simp; omega)))) | (refine AW.cond (by simp (disch := omega) only [go_sem, redN, Nat.reduceAdd, Int.reduceToNat, Int.reducePow]; rfl) (fun hb => ?_) (fun hb => ?_) <;> (try simp only [redB] at hb))))
  · (refine ⟨_, _, rfl, by simp, ?_⟩; simp only [aTup, AA.get, List.getD_cons_zero, List.getD_cons_succ, true_and])
    rw [(d1 hb).1, (d1 hb).2]
  · (refine ⟨_, _, rfl, by simp, ?_⟩; simp only [aTup, AA.get, List.getD_cons_zero, List.getD_cons_succ, true_and])
    rw [(d2 hb).1, (d2 hb).2]
theorem mlen_cases (y m : Int) (h : ¬ (y < 1 ∨ y > 9999 ∨ m < 1 ∨ m > 12)) : mlen y m = if m = 2 then (if leap y then 29 else 28) else if m = 4 ∨ m = 6 ∨ m = 9 ∨ m = 11 then 30 else 31 := by
  rw [mlen, if_neg h]
  have hm : m = 1 ∨ m = 2 ∨ m = 3 ∨ m = 4 ∨ m = 5 ∨ m = 6 ∨ m = 7 ∨ m = 8 ∨ m = 9 ∨ m = 10 ∨ m = 11 ∨ m = 12 := by omega
  rcases hm with rfl | rfl | rfl | rfl | rfl | rfl | rfl | rfl | rfl | rfl | rfl | rfl <;> rfl
theorem r_Length (G : Nat → AV) (y m : Int) (st : St) : ACalls (Ev G) 63 [.int .i64 y, .int .i64 m] st (fun e st' => st' = st ∧ e = .ret (.int .i64 (mlen y m))) := by
  refine ACalls.of_body Tryz.func63 rfl ?_
  rw [Tryz.ntmps63]
  simp only [List.length_cons, List.length_nil, Nat.reduceAdd, Nat.reduceSub, List.replicate_succ, List.replicate_zero, List.cons_append, List.nil_append]
  (repeat' (first | refine AW.seq ?_ | refine AW.scope ?_ | refine AW.label ?_ | refine AW.block ?_ | refine AW.skip ?_ | refine AW.exit ?_ | refine AW.ret ?_ | (refine AW.regionC fun Q' Kn hQ hK hK' => ?_; (repeat simp (disch := omega) only [go_sem, redN, Nat.reduceAdd, Int.reduceToNat, Int.reducePow]); (repeat' apply And.intro); (try any_goals (first | (refine hK _ _ ?_; clear hK' hQ hK Q' Kn) | (simp; done) | omega | (simp only [redL]; omega) | (simp; omega)))) | (refine AW.cond (by simp (disch := omega) only [go_sem, redN, Nat.reduceAdd, Int.reduceToNat, Int.reducePow]; rfl) (fun hb => ?_) (fun hb => ?_) <;> (try simp only [redB] at hb))))
  · (refine ⟨_, _, rfl, by simp, ?_⟩; simp only [aTup, AA.get, List.getD_cons_zero, List.getD_cons_succ, true_and])
    rw [mlen, if_pos (by omega)]
  · rename_i h
    refine AOp.call rfl (by simp only [go_sem]; rfl) (by simp [go_sem]) rfl (ACalls.mono (by simp only [go_sem]; exact r_leap G y (by omega) (by omega) st) ?_)
    rintro e st' ⟨rfl, rfl⟩
    (refine AOpsC_ok hK' _ _ _ ?_; (repeat simp (disch := omega) only [go_sem, redN, Nat.reduceAdd, Int.reduceToNat, Int.reducePow]); (repeat' apply And.intro); (try any_goals (first | (refine hK _ _ ?_; clear hK' hQ hK Q' Kn) | (simp; done) | omega | (simp only [redL]; omega) | (simp; omega))))
    (repeat' (first | refine AW.seq ?_ | refine AW.scope ?_ | refine AW.label ?_ | refine AW.block ?_ | refine AW.skip ?_ | refine AW.exit ?_ | refine AW.ret ?_ | (refine AW.regionC fun Q' Kn hQ hK hK' => ?_; (repeat simp (disch := omega) only [go_sem, redN, Nat.reduceAdd, Int.reduceToNat, Int.reducePow]); (repeat' apply And.intro); (try any_goals (first | (refine hK _ _ ?_; clear hK' hQ hK Q' Kn) | (simp; done) | omega | (simp only [redL]; omega) | (simp; omega)))) | (refine AW.cond (by simp (disch := omega) only [go_sem, redN, Nat.reduceAdd, Int.reduceToNat, Int.reducePow]; rfl) (fun hb => ?_) (fun hb => ?_) <;> (try simp only [redB] at hb))))
    · (refine ⟨_, _, rfl, by simp, ?_⟩; simp only [aTup, AA.get, List.getD_cons_zero, List.getD_cons_succ, true_and])
      rw [mlen_cases y m (by omega), if_pos (by omega), if_pos (by assumption)]
    · (refine ⟨_, _, rfl, by simp, ?_⟩; simp only [aTup, AA.get, List.getD_cons_zero, List.getD_cons_succ, true_and])
      rw [mlen_cases y m (by omega), if_pos (by omega), if_neg (by simp [*])]
  all_goals (first
    | (exfalso; omega)
    | ((refine ⟨_, _, rfl, by simp, ?_⟩; simp only [aTup, AA.get, List.getD_cons_zero, List.getD_cons_succ, true_and])
       rw [mlen_cases y m (by omega), if_neg (by omega), if_pos (by omega)])
    | ((refine ⟨_, _, rfl, by simp, ?_⟩; simp only [aTup, AA.get, List.getD_cons_zero, List.getD_cons_succ, true_and])
       rw [mlen_cases y m (by omega), if_neg (by omega), if_neg (by omega)]))
end Go.Almanac

/- Dates: a year's months, handed out; a day's number. -/
namespace Go.Almanac
open Go.RowKit Go.Proofs Go.Abs
theorem t_months (G : Nat → AV) (y : Int) (st : St) : ACalls (Ev G) 54 [.int .i64 y] st (fun e st' => ∃ id, st id = none ∧ st' = st.set id (.cells 3 0 1 [[.int .i64 y]]) ∧ e = .ret (.clo (.func 76) [] [.ptr id 0 0 0])) := by
  refine ACalls.of_body Tryz.func54 rfl ?_
  rw [Tryz.ntmps54]
  simp only [List.length_cons, List.length_nil, Nat.reduceAdd, Nat.reduceSub, List.replicate_succ, List.replicate_zero, List.cons_append, List.nil_append]
  (repeat' (first | refine AW.seq ?_ | refine AW.scope ?_ | refine AW.label ?_ | refine AW.block ?_ | refine AW.skip ?_ | refine AW.exit ?_ | refine AW.ret ?_ | (refine AW.regionC fun Q' Kn hQ hK hK' => ?_; (repeat simp (disch := omega) only [go_sem, redN, Nat.reduceAdd, Int.reduceToNat, Int.reducePow]); (repeat' apply And.intro); (try any_goals (first | (refine hK _ _ ?_; clear hK' hQ hK Q' Kn) | (simp; done) | omega | (simp only [redL]; omega) | (simp; omega)))) | (refine AW.cond (by simp (disch := omega) only [go_sem, redN, Nat.reduceAdd, Int.reduceToNat, Int.reducePow]; rfl) (fun hb => ?_) (fun hb => ?_) <;> (try simp only [redB] at hb))))
  refine AOp.box rfl (by simp [go_sem]) (by simp only [go_sem] <;> rfl) fun id hid => ?_
  (refine AOpsC_ok hK' _ _ _ ?_; (repeat simp (disch := omega) only [go_sem, redN, Nat.reduceAdd, Int.reduceToNat, Int.reducePow]); (repeat' apply And.intro); (try any_goals (first | (refine hK _ _ ?_; clear hK' hQ hK Q' Kn) | (simp; done) | omega | (simp only [redL]; omega) | (simp; omega))))
  (repeat' (first | refine AW.seq ?_ | refine AW.scope ?_ | refine AW.label ?_ | refine AW.block ?_ | refine AW.skip ?_ | refine AW.exit ?_ | refine AW.ret ?_ | (refine AW.regionC fun Q' Kn hQ hK hK' => ?_; (repeat simp (disch := omega) only [go_sem, redN, Nat.reduceAdd, Int.reduceToNat, Int.reducePow]); (repeat' apply And.intro); (try any_goals (first | (refine hK _ _ ?_; clear hK' hQ hK Q' Kn) | (simp; done) | omega | (simp only [redL]; omega) | (simp; omega)))) | (refine AW.cond (by simp (disch := omega) only [go_sem, redN, Nat.reduceAdd, Int.reduceToNat, Int.reducePow]; rfl) (fun hb => ?_) (fun hb => ?_) <;> (try simp only [redB] at hb))))
  (refine ⟨_, _, rfl, by simp, ?_⟩; simp only [aTup, AA.get, List.getD_cons_zero, List.getD_cons_succ, true_and])
  exact ⟨id, hid, rfl, rfl⟩
theorem ts3 : (Tryz.prog.types[3]'(by decide +kernel)).size = 1 := rfl
theorem lens_bounds (y : Int) (k : Nat) : 0 ≤ (lens y).getD k 0 ∧ (lens y).getD k 0 ≤ 31 := by
  unfold lens
  rcases k with _ | _ | _ | _ | _ | _ | _ | _ | _ | _ | _ | _ | k <;> simp
  split <;> omega
theorem lensA_getD (y : Int) (k : Nat) (h : k < 12) : (lensA y).getD k .junk = .int .i64 ((lens y).getD k 0) := by
  have : k < (lens y).length := h
  simp [lensA, List.getD, List.getElem?_eq_getElem this]
theorem t_months1 (G : Nat → AV) (y : Int) (h0 : 0 ≤ y) (h1 : y ≤ 10000) (bx l : Nat) (J S : Nat → St → Prop) (σ : St) (hJ : J 0 σ) (hbx : σ bx = some (.cells 3 0 1 [[.int .i64 y]]))
    (take : ∀ k σ, k < 12 → J k σ → YieldsTo (Ev G) l [.int .i64 (k + 1), .int .i64 ((lens y).getD k 0)] σ fun v σ' => (v = .bool true ∧ J (k + 1) σ') ∨ (v = .bool false ∧ S k σ')) :
    ACalls (Ev G) 76 [.yld l, .ptr bx 0 0 0] σ (fun e st' => e = .ret (.tup []) ∧ (J 12 st' ∨ ∃ k, k < 12 ∧ S k st')) := by
  refine ACalls.of_body Tryz.func76 rfl ?_
  rw [Tryz.ntmps76]
  simp only [List.length_cons, List.length_nil, Nat.reduceAdd, Nat.reduceSub, List.replicate_succ, List.replicate_zero, List.cons_append, List.nil_append]
  (repeat' (first | refine AW.seq ?_ | refine AW.scope ?_ | refine AW.label ?_ | refine AW.block ?_ | refine AW.skip ?_ | refine AW.exit ?_ | refine AW.ret ?_ | (refine AW.regionC fun Q' Kn hQ hK hK' => ?_; (repeat simp (disch := omega) only [go_sem, redN, Nat.reduceAdd, Int.reduceToNat, Int.reducePow]); (repeat' apply And.intro); (try any_goals (first | (refine hK _ _ ?_; clear hK' hQ hK Q' Kn) | (simp; done) | omega | (simp only [redL]; omega) | (simp; omega)))) | (refine AW.cond (by simp (disch := omega) only [go_sem, redN, Nat.reduceAdd, Int.reduceToNat, Int.reducePow]; rfl) (fun hb => ?_) (fun hb => ?_) <;> (try simp only [redB] at hb))))
  refine AOp.loadCell rfl (by simp only [go_sem] <;> rfl) (by simp [go_sem]) hbx rfl (by simp) (by simp) ?_
  (refine AOpsC_ok hK' _ _ _ ?_; (repeat simp (disch := omega) only [go_sem, redN, Nat.reduceAdd, Int.reduceToNat, Int.reducePow]); (repeat' apply And.intro); (try any_goals (first | (refine hK _ _ ?_; clear hK' hQ hK Q' Kn) | (simp; done) | omega | (simp only [redL]; omega) | (simp; omega))))
  refine AOp.call rfl (by simp only [go_sem]; rfl) (by simp [go_sem]) rfl (ACalls.mono (by simp only [go_sem]; exact t_lengths G y h0 h1 σ) ?_)
  rintro e st' ⟨rfl, rfl⟩
  (refine AOpsC_ok hK' _ _ _ ?_; (repeat simp (disch := omega) only [go_sem, redN, Nat.reduceAdd, Int.reduceToNat, Int.reducePow]); (repeat' apply And.intro); (try any_goals (first | (refine hK _ _ ?_; clear hK' hQ hK Q' Kn) | (simp; done) | omega | (simp only [redL]; omega) | (simp; omega))))
  (repeat' (first | refine AW.seq ?_ | refine AW.scope ?_ | refine AW.label ?_ | refine AW.block ?_ | refine AW.skip ?_ | refine AW.exit ?_ | refine AW.ret ?_ | (refine AW.regionC fun Q' Kn hQ hK hK' => ?_; (repeat simp (disch := omega) only [go_sem, redN, Nat.reduceAdd, Int.reduceToNat, Int.reducePow]); (repeat' apply And.intro); (try any_goals (first | (refine hK _ _ ?_; clear hK' hQ hK Q' Kn) | (simp; done) | omega | (simp only [redL]; omega) | (simp; omega)))) | (refine AW.cond (by simp (disch := omega) only [go_sem, redN, Nat.reduceAdd, Int.reduceToNat, Int.reducePow]; rfl) (fun hb => ?_) (fun hb => ?_) <;> (try simp only [redB] at hb))))
  refine AW.loopF (fun x : Nat × St => [.yld l, .junk, .junk, .junk, .junk, .junk, .agg (lensA y), .int .i64 x.1, .junk, .junk, .junk, .junk, .junk, .junk, .junk, .junk, .junk, .junk]) (fun x => x.2)
    (fun x => x.1 ≤ 12 ∧ J x.1 x.2) (fun x => 12 - x.1) (0, st') ?_ rfl ?_ ?_
  · (repeat (first | exact Weak.nil | refine Weak.junk _ ?_ | refine Weak.same _ ?_ | refine Weak.eqv (by (congr 1; first | omega | (simp; done) | exact w_i64 (by omega) (by omega))) ?_))
  · exact ⟨by simp, hJ⟩
  rintro ⟨k, σ2⟩ ⟨k1, k2⟩
  dsimp only at k1 k2 ⊢
  (repeat' (first | refine AW.seq ?_ | refine AW.scope ?_ | refine AW.label ?_ | refine AW.block ?_ | refine AW.skip ?_ | refine AW.exit ?_ | refine AW.ret ?_ | (refine AW.regionC fun Q' Kn hQ hK hK' => ?_; (repeat simp (disch := omega) only [go_sem, redN, Nat.reduceAdd, Int.reduceToNat, Int.reducePow]); (repeat' apply And.intro); (try any_goals (first | (refine hK _ _ ?_; clear hK' hQ hK Q' Kn) | (simp; done) | omega | (simp only [redL]; omega) | (simp; omega)))) | (refine AW.cond (by simp (disch := omega) only [go_sem, redN, Nat.reduceAdd, Int.reduceToNat, Int.reducePow]; rfl) (fun hb => ?_) (fun hb => ?_) <;> (try simp only [redB] at hb))))
  · show (k : Int).toNat * 1 < 12
    omega
  · have hk : k < 12 := by omega
    have e : (lensA y).getD ((k : Int).toNat * 1) .junk = .int .i64 ((lens y).getD k 0) := by
      rw [Int.toNat_natCast, Nat.mul_one]; exact lensA_getD y k hk
    have hlb := lens_bounds y k
    have hev : ∀ x : AV, x = (lensA y).getD ((k : Int).toNat * 1) .junk → x = .int .i64 ((lens y).getD k 0) := fun x hx => hx.trans e
    refine AOp.yields (vs := [.int .i64 (k + 1), .int .i64 ((lens y).getD k 0)]) rfl (by simp only [go_sem] <;> rfl) (by simp only [go_sem, ts3, Nat.mul_one, lensA_getD y k hk]) ?_ (take k σ2 hk k2) ?_
    · simp only [go_sem, ts3, Nat.mul_one, lensA_getD y k hk]
    rintro v σ' (⟨rfl, k3⟩ | ⟨rfl, k3⟩)
    · (refine AOpsC_ok hK' _ _ _ ?_; (repeat simp (disch := omega) only [go_sem, redN, Nat.reduceAdd, Int.reduceToNat, Int.reducePow]); (repeat' apply And.intro); (try any_goals (first | (refine hK _ _ ?_; clear hK' hQ hK Q' Kn) | (simp; done) | omega | (simp only [redL]; omega) | (simp; omega))))
      (repeat' (first | refine AW.seq ?_ | refine AW.scope ?_ | refine AW.label ?_ | refine AW.block ?_ | refine AW.skip ?_ | refine AW.exit ?_ | refine AW.ret ?_ | (refine AW.regionC fun Q' Kn hQ hK hK' => ?_; (repeat simp (disch := omega) only [go_sem, redN, Nat.reduceAdd, Int.reduceToNat, Int.reducePow]); (repeat' apply And.intro); (try any_goals (first | (refine hK _ _ ?_; clear hK' hQ hK Q' Kn) | (simp; done) | omega | (simp only [redL]; omega) | (simp; omega)))) | (refine AW.cond (by simp (disch := omega) only [go_sem, redN, Nat.reduceAdd, Int.reduceToNat, Int.reducePow]; rfl) (fun hb => ?_) (fun hb => ?_) <;> (try simp only [redB] at hb))))
      refine ⟨(k + 1, σ'), ⟨by dsimp only; omega, k3⟩, by dsimp only; omega, ?_, rfl, rfl⟩
      dsimp only
      (repeat (first | exact Weak.nil | refine Weak.junk _ ?_ | refine Weak.same _ ?_ | refine Weak.eqv (by (congr 1; first | omega | (simp; done) | exact w_i64 (by omega) (by omega))) ?_))
    · (refine AOpsC_ok hK' _ _ _ ?_; (repeat simp (disch := omega) only [go_sem, redN, Nat.reduceAdd, Int.reduceToNat, Int.reducePow]); (repeat' apply And.intro); (try any_goals (first | (refine hK _ _ ?_; clear hK' hQ hK Q' Kn) | (simp; done) | omega | (simp only [redL]; omega) | (simp; omega))))
      (repeat' (first | refine AW.seq ?_ | refine AW.scope ?_ | refine AW.label ?_ | refine AW.block ?_ | refine AW.skip ?_ | refine AW.exit ?_ | refine AW.ret ?_ | (refine AW.regionC fun Q' Kn hQ hK hK' => ?_; (repeat simp (disch := omega) only [go_sem, redN, Nat.reduceAdd, Int.reduceToNat, Int.reducePow]); (repeat' apply And.intro); (try any_goals (first | (refine hK _ _ ?_; clear hK' hQ hK Q' Kn) | (simp; done) | omega | (simp only [redL]; omega) | (simp; omega)))) | (refine AW.cond (by simp (disch := omega) only [go_sem, redN, Nat.reduceAdd, Int.reduceToNat, Int.reducePow]; rfl) (fun hb => ?_) (fun hb => ?_) <;> (try simp only [redB] at hb))))
      (refine ⟨_, _, rfl, by simp, ?_⟩; simp only [aTup, AA.get, List.getD_cons_zero, List.getD_cons_succ, true_and])
      exact .inr ⟨k, hk, k3⟩
  · (refine ⟨_, _, rfl, by simp, ?_⟩; simp only [aTup, AA.get, List.getD_cons_zero, List.getD_cons_succ, true_and])
    have hk : k = 12 := by omega
    subst hk
    exact .inl k2
end Go.Almanac

/- Dates: a day's number. -/
namespace Go.Almanac
open Go.RowKit Go.Proofs Go.Abs
def psum (y : Int) : Nat → Int
  | 0 => 0
  | k + 1 => psum y k + (lens y).getD k 0
theorem psum_bounds (y : Int) : ∀ k, 0 ≤ psum y k ∧ psum y k ≤ 31 * k
  | 0 => by simp [psum]
  | k + 1 => by
    have h1 := psum_bounds y k
    have h2 := lens_bounds y k
    rw [psum]; omega
def days (y m d : Int) : Int × Bool := if d < 1 ∨ d > mlen y m then (0, false) else (first y + psum y (m - 1).toNat + d - 1, true)
theorem mlen_pos {y m : Int} (h : 0 < mlen y m) : ¬ (y < 1 ∨ y > 9999 ∨ m < 1 ∨ m > 12) := by
  intro q; rw [mlen, if_pos q] at h; omega
theorem mlen_le (y m : Int) : 0 ≤ mlen y m ∧ mlen y m ≤ 31 := by
  unfold mlen
  split
  · omega
  · exact lens_bounds _ _
theorem first_bounds {y : Int} (h0 : 1 ≤ y) (h1 : y ≤ 10000) : -719162 ≤ first y ∧ first y ≤ 2932897 := by
  unfold first; omega
theorem loop_back {β : St} {l bn : Nat} {X P Y R : Blk} (hn : l ≠ bn) (hl : β l = some R) : (((β.set bn X).set l P).set bn Y).set l R = β.set bn Y := by
  funext i
  simp only [St.set]
  by_cases e : i = l
  · simp [e, hn, hl]
  · by_cases e2 : i = bn
    · simp [e2, Ne.symm hn]
    · simp [e, e2]
theorem t_Days (G : Nat → AV) (y m d : Int) (h0 : -9223372036854775808 ≤ d) (h1 : d ≤ 9223372036854775807) (st : St) : ACalls (Ev G) 66 [.int .i64 y, .int .i64 m, .int .i64 d] st (fun e st' => st' = st ∧ e = .ret (.tup [.int .i64 (days y m d).1, .bool (days y m d).2])) := by
  refine ACalls.thaw (R' := fun e st' => st.sub st' ∧ e = .ret (.tup [.int .i64 (days y m d).1, .bool (days y m d).2])) ?_ (fun x st1 h => ⟨2, st, h.1, rfl, by rw [h.2]; rfl⟩)
  refine ACalls.of_body Tryz.func66 rfl ?_
  rw [Tryz.ntmps66]
  simp only [List.length_cons, List.length_nil, Nat.reduceAdd, Nat.reduceSub, List.replicate_succ, List.replicate_zero, List.cons_append, List.nil_append]
  have hml := mlen_le y m
  (repeat' (first | refine AW.seq ?_ | refine AW.scope ?_ | refine AW.label ?_ | refine AW.block ?_ | refine AW.skip ?_ | refine AW.exit ?_ | refine AW.ret ?_ | (refine AW.regionC fun Q' Kn hQ hK hK' => ?_; (repeat simp (disch := omega) only [go_sem, redN, Nat.reduceAdd, Int.reduceToNat, Int.reducePow]); (repeat' apply And.intro); (try any_goals (first | (refine hK _ _ ?_; clear hK' hQ hK Q' Kn) | (simp; done) | omega | (simp only [redL]; omega) | (simp; omega)))) | (refine AW.cond (by simp (disch := omega) only [go_sem, redN, Nat.reduceAdd, Int.reduceToNat, Int.reducePow]; rfl) (fun hb => ?_) (fun hb => ?_) <;> (try simp only [redB] at hb))))
  refine AOp.box rfl (by simp [go_sem]) (by simp only [go_sem] <;> rfl) fun bm hbm => ?_
  (refine AOpsC_ok hK' _ _ _ ?_; (repeat simp (disch := omega) only [go_sem, redN, Nat.reduceAdd, Int.reduceToNat, Int.reducePow]); (repeat' apply And.intro); (try any_goals (first | (refine hK _ _ ?_; clear hK' hQ hK Q' Kn) | (simp; done) | omega | (simp only [redL]; omega) | (simp; omega))))
  (repeat' (first | refine AW.seq ?_ | refine AW.scope ?_ | refine AW.label ?_ | refine AW.block ?_ | refine AW.skip ?_ | refine AW.exit ?_ | refine AW.ret ?_ | (refine AW.regionC fun Q' Kn hQ hK hK' => ?_; (repeat simp (disch := omega) only [go_sem, redN, Nat.reduceAdd, Int.reduceToNat, Int.reducePow]); (repeat' apply And.intro); (try any_goals (first | (refine hK _ _ ?_; clear hK' hQ hK Q' Kn) | (simp; done) | omega | (simp only [redL]; omega) | (simp; omega)))) | (refine AW.cond (by simp (disch := omega) only [go_sem, redN, Nat.reduceAdd, Int.reduceToNat, Int.reducePow]; rfl) (fun hb => ?_) (fun hb => ?_) <;> (try simp only [redB] at hb))))
  refine AOps.guard_loadCell rfl rfl rfl rfl rfl (fun _ => (by simp only [go_sem] <;> rfl)) (fun h => by simp [go_sem]) (St.set_same _ _ _) rfl (fun _ => by simp) (by simp) ?_
  (refine AOpsC_ok hK' _ _ _ ?_; (repeat simp (disch := omega) only [go_sem, redN, Nat.reduceAdd, Int.reduceToNat, Int.reducePow]); (repeat' apply And.intro); (try any_goals (first | (refine hK _ _ ?_; clear hK' hQ hK Q' Kn) | (simp; done) | omega | (simp only [redL]; omega) | (simp; omega))))
  refine AOps.guard_call (f := 72) (v := .int .i64 (mlen y m)) rfl rfl rfl rfl rfl (fun _ => (by simp only [go_sem] <;> rfl)) (fun h => by simpa [go_sem] using h) rfl (fun _ => by simp only [go_sem]; exact t_Length G y m _) ?_
  (refine AOpsC_ok hK' _ _ _ ?_; (repeat simp (disch := omega) only [go_sem, redN, Nat.reduceAdd, Int.reduceToNat, Int.reducePow]); (repeat' apply And.intro); (try any_goals (first | (refine hK _ _ ?_; clear hK' hQ hK Q' Kn) | (simp; done) | omega | (simp only [redL]; omega) | (simp; omega))))
  (repeat' (first | refine AW.seq ?_ | refine AW.scope ?_ | refine AW.label ?_ | refine AW.block ?_ | refine AW.skip ?_ | refine AW.exit ?_ | refine AW.ret ?_ | (refine AW.regionC fun Q' Kn hQ hK hK' => ?_; (repeat simp (disch := omega) only [go_sem, redN, Nat.reduceAdd, Int.reduceToNat, Int.reducePow]); (repeat' apply And.intro); (try any_goals (first | (refine hK _ _ ?_; clear hK' hQ hK Q' Kn) | (simp; done) | omega | (simp only [redL]; omega) | (simp; omega)))) | (refine AW.cond (by simp (disch := omega) only [go_sem, redN, Nat.reduceAdd, Int.reduceToNat, Int.reducePow]; rfl) (fun hb => ?_) (fun hb => ?_) <;> (try simp only [redB] at hb))))
  · (refine ⟨_, _, rfl, by simp, ?_⟩; simp only [aTup, AA.get, List.getD_cons_zero, List.getD_cons_succ, true_and])
    refine ⟨St.sub_set (St.sub_refl st) hbm _, ?_⟩
    rw [days, if_pos (by omega)]
  have hy := mlen_pos (y := y) (m := m) (by omega)
  have hfb := first_bounds (y := y) (by omega) (by omega)
  refine AOp.call rfl (by simp only [go_sem]; rfl) (by simp [go_sem]) rfl (ACalls.mono (by simp only [go_sem]; exact t_begins G y (by omega) (by omega) _) ?_)
  rintro e st' ⟨hst', rfl⟩
  have hs1 : st.sub st' := by rw [hst']; exact St.sub_set (St.sub_refl st) hbm _
  have hm1 : st' bm = some (.cells 3 0 1 [[.int .i64 m]]) := by rw [hst', St.set_same]
  clear hst'
  (refine AOpsC_ok hK' _ _ _ ?_; (repeat simp (disch := omega) only [go_sem, redN, Nat.reduceAdd, Int.reduceToNat, Int.reducePow]); (repeat' apply And.intro); (try any_goals (first | (refine hK _ _ ?_; clear hK' hQ hK Q' Kn) | (simp; done) | omega | (simp only [redL]; omega) | (simp; omega))))
  refine AOp.alloc (cs := [.int .i64 0]) rfl rfl fun bn hbn => ?_
  (refine AOpsC_ok hK' _ _ _ ?_; (repeat simp (disch := omega) only [go_sem, redN, Nat.reduceAdd, Int.reduceToNat, Int.reducePow]); (repeat' apply And.intro); (try any_goals (first | (refine hK _ _ ?_; clear hK' hQ hK Q' Kn) | (simp; done) | omega | (simp only [redL]; omega) | (simp; omega))))
  refine AOp.storeAll (id := bn) (t0 := 2) (sz := 1) (cs := [.int .i64 (first y)]) rfl (by simp only [go_sem] <;> rfl) (by simp [go_sem]) (St.set_same _ _ _) (by simp [go_sem, aCells]) rfl rfl rfl rfl ?_
  rw [St.set_set]
  (refine AOpsC_ok hK' _ _ _ ?_; (repeat simp (disch := omega) only [go_sem, redN, Nat.reduceAdd, Int.reduceToNat, Int.reducePow]); (repeat' apply And.intro); (try any_goals (first | (refine hK _ _ ?_; clear hK' hQ hK Q' Kn) | (simp; done) | omega | (simp only [redL]; omega) | (simp; omega))))
  (repeat' (first | refine AW.seq ?_ | refine AW.scope ?_ | refine AW.label ?_ | refine AW.block ?_ | refine AW.skip ?_ | refine AW.exit ?_ | refine AW.ret ?_ | (refine AW.regionC fun Q' Kn hQ hK hK' => ?_; (repeat simp (disch := omega) only [go_sem, redN, Nat.reduceAdd, Int.reduceToNat, Int.reducePow]); (repeat' apply And.intro); (try any_goals (first | (refine hK _ _ ?_; clear hK' hQ hK Q' Kn) | (simp; done) | omega | (simp only [redL]; omega) | (simp; omega)))) | (refine AW.cond (by simp (disch := omega) only [go_sem, redN, Nat.reduceAdd, Int.reduceToNat, Int.reducePow]; rfl) (fun hb => ?_) (fun hb => ?_) <;> (try simp only [redB] at hb))))
  refine AOp.call rfl (by simp only [go_sem]; rfl) (by simp [go_sem]) rfl (ACalls.mono (by simp only [go_sem]; exact t_months G y _) ?_)
  rintro e st2 ⟨by_, hby, rfl, rfl⟩
  (refine AOpsC_ok hK' _ _ _ ?_; (repeat simp (disch := omega) only [go_sem, redN, Nat.reduceAdd, Int.reduceToNat, Int.reducePow]); (repeat' apply And.intro); (try any_goals (first | (refine hK _ _ ?_; clear hK' hQ hK Q' Kn) | (simp; done) | omega | (simp only [redL]; omega) | (simp; omega))))
  (repeat' (first | refine AW.seq ?_ | refine AW.scope ?_ | refine AW.label ?_ | refine AW.block ?_ | refine AW.skip ?_ | refine AW.exit ?_ | refine AW.ret ?_ | (refine AW.regionC fun Q' Kn hQ hK hK' => ?_; (repeat simp (disch := omega) only [go_sem, redN, Nat.reduceAdd, Int.reduceToNat, Int.reducePow]); (repeat' apply And.intro); (try any_goals (first | (refine hK _ _ ?_; clear hK' hQ hK Q' Kn) | (simp; done) | omega | (simp only [redL]; omega) | (simp; omega)))) | (refine AW.cond (by simp (disch := omega) only [go_sem, redN, Nat.reduceAdd, Int.reduceToNat, Int.reducePow]; rfl) (fun hb => ?_) (fun hb => ?_) <;> (try simp only [redB] at hb))))
  refine AW.rangeFunc (f := 76) (by simp only [go_sem] <;> rfl) (by simp [go_sem]) rfl fun dd l fn hd hl hld => ?_
  have nmn : bm ≠ bn := fun e => by subst e; rw [hm1] at hbn; cases hbn
  have nyn : by_ ≠ bn := fun e => by subst e; simp at hby
  have hby0 : st' by_ = none := by rw [St.set_ne _ _ nyn] at hby; exact hby
  have nym : by_ ≠ bm := fun e => by subst e; rw [hm1] at hby0; cases hby0
  have ndy : dd ≠ by_ := fun e => by subst e; simp at hd
  rw [St.set_ne _ _ ndy] at hd
  have ndn : dd ≠ bn := fun e => by subst e; simp at hd
  rw [St.set_ne _ _ ndn] at hd
  have ndm : dd ≠ bm := fun e => by subst e; rw [hm1] at hd; cases hd
  have nly : l ≠ by_ := fun e => by subst e; simp at hl
  rw [St.set_ne _ _ nly] at hl
  have nln : l ≠ bn := fun e => by subst e; simp at hl
  rw [St.set_ne _ _ nln] at hl
  have nlm : l ≠ bm := fun e => by subst e; rw [hm1] at hl; cases hl
  generalize hB : Blk.loop _ _ _ _ _ _ _ _ = B
  generalize hβ0 : St.set (St.set (St.set (St.set st' bn _) by_ _) dd _) l B = β
  have hbn1 : β bn = some (.cells 2 0 1 [[.int .i64 (first y)]]) := by rw [← hβ0, St.set_ne _ _ (Ne.symm nln), St.set_ne _ _ (Ne.symm ndn), St.set_ne _ _ (Ne.symm nyn), St.set_same]
  have hby1 : β by_ = some (.cells 3 0 1 [[.int .i64 y]]) := by rw [← hβ0, St.set_ne _ _ (Ne.symm nly), St.set_ne _ _ (Ne.symm ndy), St.set_same]
  have hd1 : β dd = some (.dfr true) := by rw [← hβ0, St.set_ne _ _ (Ne.symm hld), St.set_same]
  have hl1 : β l = some B := by rw [← hβ0, St.set_same]
  have hm2 : β bm = some (.cells 3 0 1 [[.int .i64 m]]) := by rw [← hβ0, St.set_ne _ _ (Ne.symm nlm), St.set_ne _ _ (Ne.symm ndm), St.set_ne _ _ (Ne.symm nym), St.set_ne _ _ nmn, hm1]
  have hs2 : ∀ i A, st i = some A → i ≠ bn ∧ i ≠ l ∧ i ≠ dd ∧ β i = some A := fun i A hi => by
    have h0 := hs1 i A hi
    have e1 : i ≠ bn := fun e => by subst e; rw [hbn] at h0; cases h0
    have e2 : i ≠ by_ := fun e => by subst e; rw [hby0] at h0; cases h0
    have e3 : i ≠ dd := fun e => by subst e; rw [hd] at h0; cases h0
    have e4 : i ≠ l := fun e => by subst e; rw [hl] at h0; cases h0
    exact ⟨e1, e4, e3, by rw [← hβ0, St.set_ne _ _ e4, St.set_ne _ _ e3, St.set_ne _ _ e2, St.set_ne _ _ e1, h0]⟩
  refine ACalls.mono (t_months1 G y (by omega) (by omega) by_ l (fun k σ => (k : Int) < m ∧ σ = β.set bn (.cells 2 0 1 [[.int .i64 (first y + psum y k)]]))
    (fun k σ => (k : Int) + 1 = m ∧ ∃ fn' tm' ps' asg' body' d', σ = (β.set bn (.cells 2 0 1 [[.int .i64 (first y + psum y k)]])).set l (.loop .done (some (.exit 0)) fn' tm' ps' asg' body' d')) β ⟨by omega, by rw [psum, Int.add_zero]; exact (St.set_self β hbn1).symm⟩ hby1 ?_) ?_
  · rintro k σ hk ⟨hkm, rfl⟩
    have hpb := psum_bounds y k
    have hlb := lens_bounds y k
    have hll : (β.set bn (.cells 2 0 1 [[.int .i64 (first y + psum y k)]])) l = some B := by rw [St.set_ne _ _ nln, hl1]
    subst hB
    refine ⟨_, _, _, _, _, _, _, _, hll, rfl, ?_⟩
    simp only [go_sem, bindTm]
    (repeat' (first | refine AW.seq ?_ | refine AW.scope ?_ | refine AW.label ?_ | refine AW.block ?_ | refine AW.skip ?_ | refine AW.exit ?_ | refine AW.ret ?_ | (refine AW.regionC fun Q' Kn hQ hK hK' => ?_; (repeat simp (disch := omega) only [go_sem, redN, Nat.reduceAdd, Int.reduceToNat, Int.reducePow]); (repeat' apply And.intro); (try any_goals (first | (refine hK _ _ ?_; clear hK' hQ hK Q' Kn) | (simp; done) | omega | (simp only [redL]; omega) | (simp; omega)))) | (refine AW.cond (by simp (disch := omega) only [go_sem, redN, Nat.reduceAdd, Int.reduceToNat, Int.reducePow]; rfl) (fun hb => ?_) (fun hb => ?_) <;> (try simp only [redB] at hb))))
    refine ⟨_, _, _, _, _, _, _, hll, ?_⟩
    (repeat' (first | refine AW.seq ?_ | refine AW.scope ?_ | refine AW.label ?_ | refine AW.block ?_ | refine AW.skip ?_ | refine AW.exit ?_ | refine AW.ret ?_ | (refine AW.regionC fun Q' Kn hQ hK hK' => ?_; (repeat simp (disch := omega) only [go_sem, redN, Nat.reduceAdd, Int.reduceToNat, Int.reducePow]); (repeat' apply And.intro); (try any_goals (first | (refine hK _ _ ?_; clear hK' hQ hK Q' Kn) | (simp; done) | omega | (simp only [redL]; omega) | (simp; omega)))) | (refine AW.cond (by simp (disch := omega) only [go_sem, redN, Nat.reduceAdd, Int.reduceToNat, Int.reducePow]; rfl) (fun hb => ?_) (fun hb => ?_) <;> (try simp only [redB] at hb))))
    refine AOp.loadCell (id := bm) (t0 := 3) (sz := 1) (g := 0) (es := [[.int .i64 m]]) rfl (by simp only [go_sem] <;> rfl) (by simp [go_sem]) (by rw [St.set_ne _ _ (Ne.symm nlm), St.set_ne _ _ nmn, hm2]) rfl (by simp) (by simp) ?_
    (refine AOpsC_ok hK' _ _ _ ?_; (repeat simp (disch := omega) only [go_sem, redN, Nat.reduceAdd, Int.reduceToNat, Int.reducePow]); (repeat' apply And.intro); (try any_goals (first | (refine hK _ _ ?_; clear hK' hQ hK Q' Kn) | (simp; done) | omega | (simp only [redL]; omega) | (simp; omega))))
    (repeat' (first | refine AW.seq ?_ | refine AW.scope ?_ | refine AW.label ?_ | refine AW.block ?_ | refine AW.skip ?_ | refine AW.exit ?_ | refine AW.ret ?_ | (refine AW.regionC fun Q' Kn hQ hK hK' => ?_; (repeat simp (disch := omega) only [go_sem, redN, Nat.reduceAdd, Int.reduceToNat, Int.reducePow]); (repeat' apply And.intro); (try any_goals (first | (refine hK _ _ ?_; clear hK' hQ hK Q' Kn) | (simp; done) | omega | (simp only [redL]; omega) | (simp; omega)))) | (refine AW.cond (by simp (disch := omega) only [go_sem, redN, Nat.reduceAdd, Int.reduceToNat, Int.reducePow]; rfl) (fun hb => ?_) (fun hb => ?_) <;> (try simp only [redB] at hb))))
    · simp only [AThen, AInBlock, Nat.zero_ne_one, if_false]
      refine ARound.exit (l := l) (St.set_same _ _ _) ?_
      exact .inr ⟨rfl, by omega, _, _, _, _, _, _, St.set_set _ _ _ _⟩
    · refine AOp.loadCell (id := bn) (t0 := 2) (sz := 1) (g := 0) (es := [[.int .i64 (first y + psum y k)]]) rfl (by simp only [go_sem] <;> rfl) (by simp [go_sem]) (by rw [St.set_ne _ _ (Ne.symm nln), St.set_same]) rfl (by simp) (by simp) ?_
      (refine AOpsC_ok hK' _ _ _ ?_; (repeat simp (disch := omega) only [go_sem, redN, Nat.reduceAdd, Int.reduceToNat, Int.reducePow]); (repeat' apply And.intro); (try any_goals (first | (refine hK _ _ ?_; clear hK' hQ hK Q' Kn) | (simp; done) | omega | (simp only [redL]; omega) | (simp; omega))))
      refine AOp.storeAll (id := bn) (t0 := 2) (sz := 1) (cs := [.int .i64 (first y + psum y k + (lens y).getD k 0)]) rfl (by simp only [go_sem] <;> rfl) (by simp [go_sem]) (by rw [St.set_ne _ _ (Ne.symm nln), St.set_same]) (by simp [go_sem, aCells]) rfl rfl rfl rfl ?_
      (refine AOpsC_ok hK' _ _ _ ?_; (repeat simp (disch := omega) only [go_sem, redN, Nat.reduceAdd, Int.reduceToNat, Int.reducePow]); (repeat' apply And.intro); (try any_goals (first | (refine hK _ _ ?_; clear hK' hQ hK Q' Kn) | (simp; done) | omega | (simp only [redL]; omega) | (simp; omega))))
      simp only [AInBlock]
      refine ARound.normal (l := l) ((St.set_ne _ _ nln).trans (St.set_same _ _ _)) ?_
      refine .inl ⟨rfl, by omega, ?_⟩
      rw [loop_back nln hl1, psum, Int.add_assoc]
  · rintro e σ ⟨rfl, h | ⟨k, hk, hkm, fn', tm', ps', asg', body', d', rfl⟩⟩
    · exfalso; have := h.1; omega
    · simp only [ARange, St.set_same]
      refine ⟨by simp, ?_⟩
      have hpb := psum_bounds y k
      have hx : (((β.set bn (.cells 2 0 1 [[.int .i64 (first y + psum y k)]])).set l (.loop .done (some (.exit 0)) fn' tm' ps' asg' body' d')).del l) bn = some (.cells 2 0 1 [[.int .i64 (first y + psum y k)]]) := by rw [St.del_ne _ (Ne.symm nln), St.set_ne _ _ (Ne.symm nln), St.set_same]
      have hx2 : (((β.set bn (.cells 2 0 1 [[.int .i64 (first y + psum y k)]])).set l (.loop .done (some (.exit 0)) fn' tm' ps' asg' body' d')).del l) dd = some (.dfr true) := by rw [St.del_ne _ (Ne.symm hld), St.set_ne _ _ (Ne.symm hld), St.set_ne _ _ ndn, hd1]
      have hx3 : ∀ i A, st i = some A → i ≠ dd ∧ (((β.set bn (.cells 2 0 1 [[.int .i64 (first y + psum y k)]])).set l (.loop .done (some (.exit 0)) fn' tm' ps' asg' body' d')).del l) i = some A := fun i A hi => by
        obtain ⟨q1, q2, q3, q4⟩ := hs2 i A hi
        exact ⟨q3, by rw [St.del_ne _ q2, St.set_ne _ _ q2, St.set_ne _ _ q1, q4]⟩
      generalize St.del _ l = σ at *
      (repeat' (first | refine AW.seq ?_ | refine AW.scope ?_ | refine AW.label ?_ | refine AW.block ?_ | refine AW.skip ?_ | refine AW.exit ?_ | refine AW.ret ?_ | (refine AW.regionC fun Q' Kn hQ hK hK' => ?_; (repeat simp (disch := omega) only [go_sem, redN, Nat.reduceAdd, Int.reduceToNat, Int.reducePow]); (repeat' apply And.intro); (try any_goals (first | (refine hK _ _ ?_; clear hK' hQ hK Q' Kn) | (simp; done) | omega | (simp only [redL]; omega) | (simp; omega)))) | (refine AW.cond (by simp (disch := omega) only [go_sem, redN, Nat.reduceAdd, Int.reduceToNat, Int.reducePow]; rfl) (fun hb => ?_) (fun hb => ?_) <;> (try simp only [redB] at hb))))
      refine AOp.loadCell rfl (by simp only [go_sem] <;> rfl) (by simp [go_sem]) hx rfl (by simp) (by simp) ?_
      (refine AOpsC_ok hK' _ _ _ ?_; (repeat simp (disch := omega) only [go_sem, redN, Nat.reduceAdd, Int.reduceToNat, Int.reducePow]); (repeat' apply And.intro); (try any_goals (first | (refine hK _ _ ?_; clear hK' hQ hK Q' Kn) | (simp; done) | omega | (simp only [redL]; omega) | (simp; omega))))
      (repeat' (first | refine AW.seq ?_ | refine AW.scope ?_ | refine AW.label ?_ | refine AW.block ?_ | refine AW.skip ?_ | refine AW.exit ?_ | refine AW.ret ?_ | (refine AW.regionC fun Q' Kn hQ hK hK' => ?_; (repeat simp (disch := omega) only [go_sem, redN, Nat.reduceAdd, Int.reduceToNat, Int.reducePow]); (repeat' apply And.intro); (try any_goals (first | (refine hK _ _ ?_; clear hK' hQ hK Q' Kn) | (simp; done) | omega | (simp only [redL]; omega) | (simp; omega)))) | (refine AW.cond (by simp (disch := omega) only [go_sem, redN, Nat.reduceAdd, Int.reduceToNat, Int.reducePow]; rfl) (fun hb => ?_) (fun hb => ?_) <;> (try simp only [redB] at hb))))
      refine ⟨hx2, ?_⟩
      (refine ⟨_, _, rfl, by simp, ?_⟩; simp only [aTup, AA.get, List.getD_cons_zero, List.getD_cons_succ, true_and])
      refine ⟨fun i A hi => ?_, ?_⟩
      · obtain ⟨q1, q2⟩ := hx3 i A hi
        rw [St.set_ne _ _ q1, q2]
      · rw [days, if_neg (by omega), show (m - 1).toNat = k from by omega]
end Go.Almanac

/- Texts: decimal numbers, the program's and the document's. -/
namespace Go.Almanac
open Go.RowKit Go.Proofs Go.Abs
def numL : List UInt8 → Nat → Option Nat
  | [], n => some n
  | c :: cs, n => if c.toNat < 48 ∨ 57 < c.toNat then none else numL cs (n * 10 + (c.toNat - 48))
def number (s : List UInt8) (most : Int) : Int × Bool :=
  if 18 < s.length then (0, false)
  else match numL s 0 with
    | none => (0, false)
    | some n => if s = [] ∨ (n : Int) > most then (0, false) else (n, true)
theorem t_Number (G : Nat → AV) (s : List UInt8) (most : Int) (hs : s.length ≤ 4611686018427387904) (st : St) : ACalls (Ev G) 67 [.str s, .int .i64 most] st (fun e st' => st' = st ∧ e = .ret (.tup [.int .i64 (number s most).1, .bool (number s most).2])) := by
  refine ACalls.thaw (R' := fun e st' => st.sub st' ∧ e = .ret (.tup [.int .i64 (number s most).1, .bool (number s most).2])) ?_ (fun x st1 h => ⟨2, st, h.1, rfl, by rw [h.2]; rfl⟩)
  refine ACalls.of_body Tryz.func67 rfl ?_
  rw [Tryz.ntmps67]
  simp only [List.length_cons, List.length_nil, Nat.reduceAdd, Nat.reduceSub, List.replicate_succ, List.replicate_zero, List.cons_append, List.nil_append]
  (repeat' (first | refine AW.seq ?_ | refine AW.scope ?_ | refine AW.label ?_ | refine AW.block ?_ | refine AW.skip ?_ | refine AW.exit ?_ | refine AW.ret ?_ | (refine AW.regionC fun Q' Kn hQ hK hK' => ?_; (repeat simp (disch := omega) only [go_sem, Nat.reduceAdd, w_i64, w_u64, w_u8, w_u32, w_i32]); (repeat' apply And.intro); (try any_goals (first | (refine hK _ _ ?_; clear hK' hQ hK Q' Kn) | (simp; done) | omega | (simp only [List.length_append, List.length_cons, List.length_nil]; omega) | (simp; omega)))) | (refine AW.cond (by simp (disch := omega) only [go_sem, Nat.reduceAdd, w_i64, w_u64, w_u8, w_u32, w_i32]; rfl) (fun hb => ?_) (fun hb => ?_) <;> (try simp only [Bool.or_eq_true, Bool.and_eq_true, Bool.or_eq_false_iff, Bool.and_eq_false_iff, decide_eq_true_eq, decide_eq_false_iff_not, beq_iff_eq, bne_iff_ne, Bool.not_eq_true', beq_eq_false_iff_ne, bne_eq_false_iff_eq, ne_eq, Bool.not_eq_false', Bool.true_eq_false, Bool.false_eq_true, Bool.false_or, Bool.true_or, Bool.false_and, Bool.true_and, false_or, or_false, true_and, and_true] at hb))))
  refine AOp.toBytes (s := s) (e := 5) (by rfl) (by simp [go_sem]) (by rfl) (by rfl) (by rfl) (by simp only [go_sem]) (by simp only [maxLen]; omega) fun ib hib => ?_
  (refine AOpsC_ok hK' _ _ _ ?_; (repeat simp (disch := omega) only [go_sem, Nat.reduceAdd, w_i64, w_u64, w_u8, w_u32, w_i32]); (repeat' apply And.intro); (try any_goals (first | (refine hK _ _ ?_; clear hK' hQ hK Q' Kn) | (simp; done) | omega | (simp only [List.length_append, List.length_cons, List.length_nil]; omega) | (simp; omega))))
  (repeat' (first | refine AW.seq ?_ | refine AW.scope ?_ | refine AW.label ?_ | refine AW.block ?_ | refine AW.skip ?_ | refine AW.exit ?_ | refine AW.ret ?_ | (refine AW.regionC fun Q' Kn hQ hK hK' => ?_; (repeat simp (disch := omega) only [go_sem, Nat.reduceAdd, w_i64, w_u64, w_u8, w_u32, w_i32]); (repeat' apply And.intro); (try any_goals (first | (refine hK _ _ ?_; clear hK' hQ hK Q' Kn) | (simp; done) | omega | (simp only [List.length_append, List.length_cons, List.length_nil]; omega) | (simp; omega)))) | (refine AW.cond (by simp (disch := omega) only [go_sem, Nat.reduceAdd, w_i64, w_u64, w_u8, w_u32, w_i32]; rfl) (fun hb => ?_) (fun hb => ?_) <;> (try simp only [Bool.or_eq_true, Bool.and_eq_true, Bool.or_eq_false_iff, Bool.and_eq_false_iff, decide_eq_true_eq, decide_eq_false_iff_not, beq_iff_eq, bne_iff_ne, Bool.not_eq_true', beq_eq_false_iff_ne, bne_eq_false_iff_eq, ne_eq, Bool.not_eq_false', Bool.true_eq_false, Bool.false_eq_true, Bool.false_or, Bool.true_or, Bool.false_and, Bool.true_and, false_or, or_false, true_and, and_true] at hb))))
  refine AW.loopF (fun x : Nat × Nat => [.str s, .int .i64 most, .junk, .junk, .junk, .junk, .int .i64 x.2, .junk, .junk, .junk, .arr ib 0 1 0 s.length, .int .i64 s.length, .int .i64 x.1, .junk, .junk, .junk, .junk, .junk, .junk, .junk, .junk, .junk, .junk, .junk, .junk, .junk, .junk, .junk, .junk, .junk, .junk, .junk, .junk, .junk, .junk, .junk, .junk, .junk, .junk, .junk, .junk, .junk]) (fun _ => st.set ib (.cells 5 0 1 (bytesE s)))
    (fun x => x.1 ≤ s.length ∧ (s.length ≤ 18 ∨ x.1 = 0) ∧ x.2 < 10 ^ x.1 ∧ numL (s.drop x.1) x.2 = numL s 0) (fun x => s.length - x.1) (0, 0) ?_ rfl ?_ ?_
  · (repeat (first | exact Weak.nil | refine Weak.junk _ ?_ | refine Weak.same _ ?_ | refine Weak.eqv (by (congr 1; first | omega | (simp; done) | exact w_i64 (by omega) (by omega))) ?_))
  · exact ⟨by simp, .inr rfl, by simp, by simp⟩
  rintro ⟨i, n⟩ ⟨h1, h2, h3, h4⟩
  dsimp only at h1 h2 h3 h4 ⊢
  (repeat' (first | refine AW.seq ?_ | refine AW.scope ?_ | refine AW.label ?_ | refine AW.block ?_ | refine AW.skip ?_ | refine AW.exit ?_ | refine AW.ret ?_ | (refine AW.regionC fun Q' Kn hQ hK hK' => ?_; (repeat simp (disch := omega) only [go_sem, Nat.reduceAdd, w_i64, w_u64, w_u8, w_u32, w_i32]); (repeat' apply And.intro); (try any_goals (first | (refine hK _ _ ?_; clear hK' hQ hK Q' Kn) | (simp; done) | omega | (simp only [List.length_append, List.length_cons, List.length_nil]; omega) | (simp; omega)))) | (refine AW.cond (by simp (disch := omega) only [go_sem, Nat.reduceAdd, w_i64, w_u64, w_u8, w_u32, w_i32]; rfl) (fun hb => ?_) (fun hb => ?_) <;> (try simp only [Bool.or_eq_true, Bool.and_eq_true, Bool.or_eq_false_iff, Bool.and_eq_false_iff, decide_eq_true_eq, decide_eq_false_iff_not, beq_iff_eq, bne_iff_ne, Bool.not_eq_true', beq_eq_false_iff_ne, bne_eq_false_iff_eq, ne_eq, Bool.not_eq_false', Bool.true_eq_false, Bool.false_eq_true, Bool.false_or, Bool.true_or, Bool.false_and, Bool.true_and, false_or, or_false, true_and, and_true] at hb))))
  · refine AOp.loadCell rfl (by simp only [go_sem] <;> rfl) (by simp [go_sem]) (St.set_same _ _ _) rfl (by simp; omega) (by decide) ?_
    have hg : ((bytesE s).getD (0 + ((i : Int)).toNat) []).getD 0 AV.junk = .int .u8 ((s.getD i 0).toNat : Int) := by
      rw [Int.toNat_natCast, Nat.zero_add]
      simp [bytesE, List.getD, List.getElem?_eq_getElem (show i < s.length from by omega)]
    rw [hg]
    have hb8 : (s.getD i 0).toNat < 256 := UInt8.toNat_lt _
    have hd := drop_cons (s := s) (n := i) (by omega)
    generalize s.getD i 0 = c at *
    have hp : i ≤ 17 → (10 : Nat) ^ i ≤ 10 ^ 17 := fun h => Nat.pow_le_pow_right (by omega) h
    (refine AOpsC_ok hK' _ _ _ ?_; (repeat simp (disch := omega) only [go_sem, Nat.reduceAdd, w_i64, w_u64, w_u8, w_u32, w_i32]); (repeat' apply And.intro); (try any_goals (first | (refine hK _ _ ?_; clear hK' hQ hK Q' Kn) | (simp; done) | omega | (simp only [List.length_append, List.length_cons, List.length_nil]; omega) | (simp; omega))))
    (repeat' (first | refine AW.seq ?_ | refine AW.scope ?_ | refine AW.label ?_ | refine AW.block ?_ | refine AW.skip ?_ | refine AW.exit ?_ | refine AW.ret ?_ | (refine AW.regionC fun Q' Kn hQ hK hK' => ?_; (repeat simp (disch := omega) only [go_sem, Nat.reduceAdd, w_i64, w_u64, w_u8, w_u32, w_i32]); (repeat' apply And.intro); (try any_goals (first | (refine hK _ _ ?_; clear hK' hQ hK Q' Kn) | (simp; done) | omega | (simp only [List.length_append, List.length_cons, List.length_nil]; omega) | (simp; omega)))) | (refine AW.cond (by simp (disch := omega) only [go_sem, Nat.reduceAdd, w_i64, w_u64, w_u8, w_u32, w_i32]; rfl) (fun hb => ?_) (fun hb => ?_) <;> (try simp only [Bool.or_eq_true, Bool.and_eq_true, Bool.or_eq_false_iff, Bool.and_eq_false_iff, decide_eq_true_eq, decide_eq_false_iff_not, beq_iff_eq, bne_iff_ne, Bool.not_eq_true', beq_eq_false_iff_ne, bne_eq_false_iff_eq, ne_eq, Bool.not_eq_false', Bool.true_eq_false, Bool.false_eq_true, Bool.false_or, Bool.true_or, Bool.false_and, Bool.true_and, false_or, or_false, true_and, and_true] at hb))))
    · (refine ⟨_, _, rfl, by simp, ?_⟩; simp only [aTup, AA.get, List.getD_cons_zero, List.getD_cons_succ, true_and])
      refine ⟨St.sub_set (St.sub_refl st) hib _, ?_⟩
      by_cases h18 : 18 < s.length
      · simp [number, h18]
      · have hn : numL s 0 = none := by rw [← h4, hd, numL, if_pos (by omega)]
        simp [number, h18, hn]
    · have e10 : (10 : Nat) ^ (i + 1) = 10 * 10 ^ i := by rw [Nat.pow_succ]; omega
      refine ⟨(i + 1, n * 10 + (c.toNat - 48)), ⟨by omega, .inl (by omega), by dsimp only; omega, ?_⟩, by dsimp only; omega, ?_, rfl, rfl⟩
      · dsimp only
        rw [← h4, hd, numL, if_neg (by omega)]
      · dsimp only
        (repeat (first | exact Weak.nil | refine Weak.junk _ ?_ | refine Weak.same _ ?_ | refine Weak.eqv (by (congr 1; first | omega | (simp; done) | exact w_i64 (by omega) (by omega))) ?_))
  · (refine ⟨_, _, rfl, by simp, ?_⟩; simp only [aTup, AA.get, List.getD_cons_zero, List.getD_cons_succ, true_and])
    refine ⟨St.sub_set (St.sub_refl st) hib _, ?_⟩
    have hi : i = s.length := by omega
    rw [hi, List.drop_length, numL] at h4
    have h18 : ¬ 18 < s.length := by rcases h2 with h | h <;> omega
    simp [number, h18, ← h4, hb]
  · (refine ⟨_, _, rfl, by simp, ?_⟩; simp only [aTup, AA.get, List.getD_cons_zero, List.getD_cons_succ, true_and])
    refine ⟨St.sub_set (St.sub_refl st) hib _, ?_⟩
    have hi : i = s.length := by omega
    rw [hi, List.drop_length, numL] at h4
    have h18 : ¬ 18 < s.length := by rcases h2 with h | h <;> omega
    simp [number, h18, ← h4, hb]
def dig (c : UInt8) : Bool := decide (48 ≤ (c.toNat : Int)) && decide ((c.toNat : Int) ≤ 57)
end Go.Almanac
