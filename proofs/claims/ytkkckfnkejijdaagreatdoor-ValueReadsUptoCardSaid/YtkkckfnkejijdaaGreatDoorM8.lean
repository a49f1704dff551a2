/- strings.Builder: WriteString at any text. -/
import Derived.Test.YtkkckfnkejijdaaGreatDoorM5
import Derived.Test.YtkkckfnkejijdaaGreatDoorM3
import Derived.Test.YtkkckfnkejijdaaGreatDoorM4
/- strings.Builder: a builder in a block of its own, and what its methods do. -/
namespace Go.Almanac
open Go.RowKit Go.Proofs Go.Abs

set_option linter.unusedSimpArgs false
set_option linter.unusedVariables false
set_option linter.unusedSectionVars false
set_option maxRecDepth 10000
set_option maxHeartbeats 1000000

/-- A builder in block b holds the bytes bs; what holds them is a block that is ok. -/
structure Bld (st : St) (b : Nat) (bs : List UInt8) (ok : Nat → Prop) : Prop where
  ex : ∃ ad v, st b = some (.cells 112 0 2 [[ad, v]]) ∧ (ad = .nilp ∨ ad = .ptr b 0 0 0) ∧ OwnS st 5 1 v (bytesE bs) ok ∧ (bs = [] → v = .nils)

theorem b_copyCheck (G : Nat → AV) (b : Nat) (ad v : AV) (st : St) (hst : st b = some (.cells 112 0 2 [[ad, v]])) (had : ad = .nilp ∨ ad = .ptr b 0 0 0) :
    ACalls (Ev G) 148 [.ptr b 0 0 0] st (fun e st' => st' = st.set b (.cells 112 0 2 [[.ptr b 0 0 0, v]]) ∧ e = .ret (.tup [])) := by
  refine ACalls.of_body Tryz.func148 rfl ?_
  rw [Tryz.ntmps148]
  simp only [List.length_cons, List.length_nil, Nat.reduceAdd, Nat.reduceSub, List.replicate_succ, List.replicate_zero, List.cons_append, List.nil_append]
  rcases had with rfl | rfl
  · (repeat' (first | refine AW.seq ?_ | refine AW.scope ?_ | refine AW.label ?_ | refine AW.block ?_ | refine AW.skip ?_ | refine AW.exit ?_ | refine AW.ret ?_ | (refine AW.regionC fun Q' Kn hQ hK hK' => ?_; (repeat simp (disch := omega) only [go_sem, Nat.reduceAdd, w_i64, w_u64, w_u8, w_u32, w_i32]); (repeat' refine And.intro ?_ ?_); (try any_goals (first | (refine hK _ _ ?_; clear hK' hQ hK Q' Kn) | (simp; done) | omega | (simp only [List.length_append, List.length_cons, List.length_nil]; omega) | (simp; omega)))) | (refine AW.cond (by simp (disch := omega) only [go_sem, Nat.reduceAdd, w_i64, w_u64, w_u8, w_u32, w_i32]; rfl) (fun hb => ?_) (fun hb => ?_) <;> (try simp only [Bool.or_eq_true, Bool.and_eq_true, Bool.or_eq_false_iff, Bool.and_eq_false_iff, decide_eq_true_eq, decide_eq_false_iff_not, beq_iff_eq, bne_iff_ne, Bool.not_eq_true', beq_eq_false_iff_ne, bne_eq_false_iff_eq, ne_eq, Bool.not_eq_false', Bool.true_eq_false, Bool.false_eq_true, Bool.false_or, Bool.true_or, Bool.false_and, Bool.true_and, false_or, or_false, true_and, and_true] at hb))))
    refine AOp.loadCell rfl (by simp only [go_sem] <;> rfl) (by simp [go_sem]) hst rfl (by simp) (by simp) ?_
    (refine AOpsC_ok hK' _ _ _ ?_; (repeat simp (disch := omega) only [go_sem, Nat.reduceAdd, w_i64, w_u64, w_u8, w_u32, w_i32]); (repeat' refine And.intro ?_ ?_); (try any_goals (first | (refine hK _ _ ?_; clear hK' hQ hK Q' Kn) | (simp; done) | omega | (simp only [List.length_append, List.length_cons, List.length_nil]; omega) | (simp; omega))))
    (repeat' (first | refine AW.seq ?_ | refine AW.scope ?_ | refine AW.label ?_ | refine AW.block ?_ | refine AW.skip ?_ | refine AW.exit ?_ | refine AW.ret ?_ | (refine AW.regionC fun Q' Kn hQ hK hK' => ?_; (repeat simp (disch := omega) only [go_sem, Nat.reduceAdd, w_i64, w_u64, w_u8, w_u32, w_i32]); (repeat' refine And.intro ?_ ?_); (try any_goals (first | (refine hK _ _ ?_; clear hK' hQ hK Q' Kn) | (simp; done) | omega | (simp only [List.length_append, List.length_cons, List.length_nil]; omega) | (simp; omega)))) | (refine AW.cond (by simp (disch := omega) only [go_sem, Nat.reduceAdd, w_i64, w_u64, w_u8, w_u32, w_i32]; rfl) (fun hb => ?_) (fun hb => ?_) <;> (try simp only [Bool.or_eq_true, Bool.and_eq_true, Bool.or_eq_false_iff, Bool.and_eq_false_iff, decide_eq_true_eq, decide_eq_false_iff_not, beq_iff_eq, bne_iff_ne, Bool.not_eq_true', beq_eq_false_iff_ne, bne_eq_false_iff_eq, ne_eq, Bool.not_eq_false', Bool.true_eq_false, Bool.false_eq_true, Bool.false_or, Bool.true_or, Bool.false_and, Bool.true_and, false_or, or_false, true_and, and_true] at hb))))
    refine AOp.toUnsafe rfl (by simp only [go_sem] <;> rfl) (by simp [go_sem]) hst (by decide) rfl rfl rfl ?_
    (refine AOpsC_ok hK' _ _ _ ?_; (repeat simp (disch := omega) only [go_sem, Nat.reduceAdd, w_i64, w_u64, w_u8, w_u32, w_i32]); (repeat' refine And.intro ?_ ?_); (try any_goals (first | (refine hK _ _ ?_; clear hK' hQ hK Q' Kn) | (simp; done) | omega | (simp only [List.length_append, List.length_cons, List.length_nil]; omega) | (simp; omega))))
    refine AOp.same (fn := Tryz.f188) rfl (by simp only [go_sem] <;> rfl) (by simp [go_sem]) rfl (by kernel_rfl) (by kernel_rfl) (by kernel_rfl) (by kernel_rfl) ?_
    (refine AOpsC_ok hK' _ _ _ ?_; (repeat simp (disch := omega) only [go_sem, Nat.reduceAdd, w_i64, w_u64, w_u8, w_u32, w_i32]); (repeat' refine And.intro ?_ ?_); (try any_goals (first | (refine hK _ _ ?_; clear hK' hQ hK Q' Kn) | (simp; done) | omega | (simp only [List.length_append, List.length_cons, List.length_nil]; omega) | (simp; omega))))
    refine AOp.fromUnsafe (n := 2) rfl (by simp only [go_sem] <;> rfl) (by simp [go_sem]) hst (by decide) rfl rfl rfl (fun k hk => ?_) ?_
    · rw [show (Ev G).P = Tryz.prog from rfl, show Tryz.prog.cellsOf 112 = 2 from rfl, Nat.mul_div_cancel _ (by decide)]
      exact liesAt_head (by decide) hk
    (refine AOpsC_ok hK' _ _ _ ?_; (repeat simp (disch := omega) only [go_sem, Nat.reduceAdd, w_i64, w_u64, w_u8, w_u32, w_i32]); (repeat' refine And.intro ?_ ?_); (try any_goals (first | (refine hK _ _ ?_; clear hK' hQ hK Q' Kn) | (simp; done) | omega | (simp only [List.length_append, List.length_cons, List.length_nil]; omega) | (simp; omega))))
    refine AOp.store (cs := [.ptr b 0 0 0]) rfl (by simp only [go_sem] <;> rfl) (by simp [go_sem]) hst (by simp only [go_sem, aCells]) rfl rfl (by simp) (by simp) ?_
    (refine AOpsC_ok hK' _ _ _ ?_; (repeat simp (disch := omega) only [go_sem, Nat.reduceAdd, w_i64, w_u64, w_u8, w_u32, w_i32]); (repeat' refine And.intro ?_ ?_); (try any_goals (first | (refine hK _ _ ?_; clear hK' hQ hK Q' Kn) | (simp; done) | omega | (simp only [List.length_append, List.length_cons, List.length_nil]; omega) | (simp; omega))))
    (repeat' (first | refine AW.seq ?_ | refine AW.scope ?_ | refine AW.label ?_ | refine AW.block ?_ | refine AW.skip ?_ | refine AW.exit ?_ | refine AW.ret ?_ | (refine AW.regionC fun Q' Kn hQ hK hK' => ?_; (repeat simp (disch := omega) only [go_sem, Nat.reduceAdd, w_i64, w_u64, w_u8, w_u32, w_i32]); (repeat' refine And.intro ?_ ?_); (try any_goals (first | (refine hK _ _ ?_; clear hK' hQ hK Q' Kn) | (simp; done) | omega | (simp only [List.length_append, List.length_cons, List.length_nil]; omega) | (simp; omega)))) | (refine AW.cond (by simp (disch := omega) only [go_sem, Nat.reduceAdd, w_i64, w_u64, w_u8, w_u32, w_i32]; rfl) (fun hb => ?_) (fun hb => ?_) <;> (try simp only [Bool.or_eq_true, Bool.and_eq_true, Bool.or_eq_false_iff, Bool.and_eq_false_iff, decide_eq_true_eq, decide_eq_false_iff_not, beq_iff_eq, bne_iff_ne, Bool.not_eq_true', beq_eq_false_iff_ne, bne_eq_false_iff_eq, ne_eq, Bool.not_eq_false', Bool.true_eq_false, Bool.false_eq_true, Bool.false_or, Bool.true_or, Bool.false_and, Bool.true_and, false_or, or_false, true_and, and_true] at hb))))
    (refine ⟨_, _, rfl, by simp, ?_⟩; simp only [aTup, AA.get, List.getD_cons_zero, List.getD_cons_succ, true_and])
    simp [splice]
  · (repeat' (first | refine AW.seq ?_ | refine AW.scope ?_ | refine AW.label ?_ | refine AW.block ?_ | refine AW.skip ?_ | refine AW.exit ?_ | refine AW.ret ?_ | (refine AW.regionC fun Q' Kn hQ hK hK' => ?_; (repeat simp (disch := omega) only [go_sem, Nat.reduceAdd, w_i64, w_u64, w_u8, w_u32, w_i32]); (repeat' refine And.intro ?_ ?_); (try any_goals (first | (refine hK _ _ ?_; clear hK' hQ hK Q' Kn) | (simp; done) | omega | (simp only [List.length_append, List.length_cons, List.length_nil]; omega) | (simp; omega)))) | (refine AW.cond (by simp (disch := omega) only [go_sem, Nat.reduceAdd, w_i64, w_u64, w_u8, w_u32, w_i32]; rfl) (fun hb => ?_) (fun hb => ?_) <;> (try simp only [Bool.or_eq_true, Bool.and_eq_true, Bool.or_eq_false_iff, Bool.and_eq_false_iff, decide_eq_true_eq, decide_eq_false_iff_not, beq_iff_eq, bne_iff_ne, Bool.not_eq_true', beq_eq_false_iff_ne, bne_eq_false_iff_eq, ne_eq, Bool.not_eq_false', Bool.true_eq_false, Bool.false_eq_true, Bool.false_or, Bool.true_or, Bool.false_and, Bool.true_and, false_or, or_false, true_and, and_true] at hb))))
    refine AOp.loadCell rfl (by simp only [go_sem] <;> rfl) (by simp [go_sem]) hst rfl (by simp) (by simp) ?_
    (refine AOpsC_ok hK' _ _ _ ?_; (repeat simp (disch := omega) only [go_sem, Nat.reduceAdd, w_i64, w_u64, w_u8, w_u32, w_i32]); (repeat' refine And.intro ?_ ?_); (try any_goals (first | (refine hK _ _ ?_; clear hK' hQ hK Q' Kn) | (simp; done) | omega | (simp only [List.length_append, List.length_cons, List.length_nil]; omega) | (simp; omega))))
    (repeat' (first | refine AW.seq ?_ | refine AW.scope ?_ | refine AW.label ?_ | refine AW.block ?_ | refine AW.skip ?_ | refine AW.exit ?_ | refine AW.ret ?_ | (refine AW.regionC fun Q' Kn hQ hK hK' => ?_; (repeat simp (disch := omega) only [go_sem, Nat.reduceAdd, w_i64, w_u64, w_u8, w_u32, w_i32]); (repeat' refine And.intro ?_ ?_); (try any_goals (first | (refine hK _ _ ?_; clear hK' hQ hK Q' Kn) | (simp; done) | omega | (simp only [List.length_append, List.length_cons, List.length_nil]; omega) | (simp; omega)))) | (refine AW.cond (by simp (disch := omega) only [go_sem, Nat.reduceAdd, w_i64, w_u64, w_u8, w_u32, w_i32]; rfl) (fun hb => ?_) (fun hb => ?_) <;> (try simp only [Bool.or_eq_true, Bool.and_eq_true, Bool.or_eq_false_iff, Bool.and_eq_false_iff, decide_eq_true_eq, decide_eq_false_iff_not, beq_iff_eq, bne_iff_ne, Bool.not_eq_true', beq_eq_false_iff_ne, bne_eq_false_iff_eq, ne_eq, Bool.not_eq_false', Bool.true_eq_false, Bool.false_eq_true, Bool.false_or, Bool.true_or, Bool.false_and, Bool.true_and, false_or, or_false, true_and, and_true] at hb))))
    refine AOp.loadCell rfl (by simp only [go_sem] <;> rfl) (by simp [go_sem]) hst rfl (by simp) (by simp) ?_
    (refine AOpsC_ok hK' _ _ _ ?_; (repeat simp (disch := omega) only [go_sem, Nat.reduceAdd, w_i64, w_u64, w_u8, w_u32, w_i32]); (repeat' refine And.intro ?_ ?_); (try any_goals (first | (refine hK _ _ ?_; clear hK' hQ hK Q' Kn) | (simp; done) | omega | (simp only [List.length_append, List.length_cons, List.length_nil]; omega) | (simp; omega))))
    refine AOp.ptrNe (n := 2) rfl (by simp [go_sem]) (by simp only [go_sem] <;> rfl) (by simp only [go_sem] <;> rfl) hst rfl rfl ?_
    (refine AOpsC_ok hK' _ _ _ ?_; (repeat simp (disch := omega) only [go_sem, Nat.reduceAdd, w_i64, w_u64, w_u8, w_u32, w_i32]); (repeat' refine And.intro ?_ ?_); (try any_goals (first | (refine hK _ _ ?_; clear hK' hQ hK Q' Kn) | (simp; done) | omega | (simp only [List.length_append, List.length_cons, List.length_nil]; omega) | (simp; omega))))
    (repeat' (first | refine AW.seq ?_ | refine AW.scope ?_ | refine AW.label ?_ | refine AW.block ?_ | refine AW.skip ?_ | refine AW.exit ?_ | refine AW.ret ?_ | (refine AW.regionC fun Q' Kn hQ hK hK' => ?_; (repeat simp (disch := omega) only [go_sem, Nat.reduceAdd, w_i64, w_u64, w_u8, w_u32, w_i32]); (repeat' refine And.intro ?_ ?_); (try any_goals (first | (refine hK _ _ ?_; clear hK' hQ hK Q' Kn) | (simp; done) | omega | (simp only [List.length_append, List.length_cons, List.length_nil]; omega) | (simp; omega)))) | (refine AW.cond (by simp (disch := omega) only [go_sem, Nat.reduceAdd, w_i64, w_u64, w_u8, w_u32, w_i32]; rfl) (fun hb => ?_) (fun hb => ?_) <;> (try simp only [Bool.or_eq_true, Bool.and_eq_true, Bool.or_eq_false_iff, Bool.and_eq_false_iff, decide_eq_true_eq, decide_eq_false_iff_not, beq_iff_eq, bne_iff_ne, Bool.not_eq_true', beq_eq_false_iff_ne, bne_eq_false_iff_eq, ne_eq, Bool.not_eq_false', Bool.true_eq_false, Bool.false_eq_true, Bool.false_or, Bool.true_or, Bool.false_and, Bool.true_and, false_or, or_false, true_and, and_true] at hb))))
    (refine ⟨_, _, rfl, by simp, ?_⟩; simp only [aTup, AA.get, List.getD_cons_zero, List.getD_cons_succ, true_and])
    exact ⟨(St.set_self _ hst).symm, trivial⟩

/-- What a writing method leaves: the builder holds more; all else that is not its own stays. -/
theorem b_WriteByte (G : Nat → AV) (b : Nat) (bs : List UInt8) (c : UInt8) (ok : Nat → Prop) (st : St) (hB : Bld st b bs ok) (hok : ¬ ok b) (hfr : ∀ id, st id = none → ok id) (hlim : bs.length + 1 ≤ 140737488355328) :
    ACalls (Ev G) 84 [.ptr b 0 0 0, .int .u8 c.toNat] st (fun e st' => e = .ret .nili ∧ Bld st' b (bs ++ [c]) ok ∧ ∀ i, ¬ ok i → i ≠ b → st' i = st i) := by
  obtain ⟨ad, v, hst, had, hown, _⟩ := hB
  refine ACalls.of_body Tryz.func84 rfl ?_
  rw [Tryz.ntmps84]
  simp only [List.length_cons, List.length_nil, Nat.reduceAdd, Nat.reduceSub, List.replicate_succ, List.replicate_zero, List.cons_append, List.nil_append]
  (repeat' (first | refine AW.seq ?_ | refine AW.scope ?_ | refine AW.label ?_ | refine AW.block ?_ | refine AW.skip ?_ | refine AW.exit ?_ | refine AW.ret ?_ | (refine AW.regionC fun Q' Kn hQ hK hK' => ?_; (repeat simp (disch := omega) only [go_sem, Nat.reduceAdd, w_i64, w_u64, w_u8, w_u32, w_i32]); (repeat' refine And.intro ?_ ?_); (try any_goals (first | (refine hK _ _ ?_; clear hK' hQ hK Q' Kn) | (simp; done) | omega | (simp only [List.length_append, List.length_cons, List.length_nil]; omega) | (simp; omega)))) | (refine AW.cond (by simp (disch := omega) only [go_sem, Nat.reduceAdd, w_i64, w_u64, w_u8, w_u32, w_i32]; rfl) (fun hb => ?_) (fun hb => ?_) <;> (try simp only [Bool.or_eq_true, Bool.and_eq_true, Bool.or_eq_false_iff, Bool.and_eq_false_iff, decide_eq_true_eq, decide_eq_false_iff_not, beq_iff_eq, bne_iff_ne, Bool.not_eq_true', beq_eq_false_iff_ne, bne_eq_false_iff_eq, ne_eq, Bool.not_eq_false', Bool.true_eq_false, Bool.false_eq_true, Bool.false_or, Bool.true_or, Bool.false_and, Bool.true_and, false_or, or_false, true_and, and_true] at hb))))
  refine AOp.call rfl (by simp only [go_sem]; rfl) (by simp [go_sem]) rfl (ACalls.mono (by simp only [go_sem]; exact b_copyCheck G b ad v st hst had) ?_)
  rintro e st' ⟨rfl, rfl⟩
  (refine AOpsC_ok hK' _ _ _ ?_; (repeat simp (disch := omega) only [go_sem, Nat.reduceAdd, w_i64, w_u64, w_u8, w_u32, w_i32]); (repeat' refine And.intro ?_ ?_); (try any_goals (first | (refine hK _ _ ?_; clear hK' hQ hK Q' Kn) | (simp; done) | omega | (simp only [List.length_append, List.length_cons, List.length_nil]; omega) | (simp; omega))))
  (repeat' (first | refine AW.seq ?_ | refine AW.scope ?_ | refine AW.label ?_ | refine AW.block ?_ | refine AW.skip ?_ | refine AW.exit ?_ | refine AW.ret ?_ | (refine AW.regionC fun Q' Kn hQ hK hK' => ?_; (repeat simp (disch := omega) only [go_sem, Nat.reduceAdd, w_i64, w_u64, w_u8, w_u32, w_i32]); (repeat' refine And.intro ?_ ?_); (try any_goals (first | (refine hK _ _ ?_; clear hK' hQ hK Q' Kn) | (simp; done) | omega | (simp only [List.length_append, List.length_cons, List.length_nil]; omega) | (simp; omega)))) | (refine AW.cond (by simp (disch := omega) only [go_sem, Nat.reduceAdd, w_i64, w_u64, w_u8, w_u32, w_i32]; rfl) (fun hb => ?_) (fun hb => ?_) <;> (try simp only [Bool.or_eq_true, Bool.and_eq_true, Bool.or_eq_false_iff, Bool.and_eq_false_iff, decide_eq_true_eq, decide_eq_false_iff_not, beq_iff_eq, bne_iff_ne, Bool.not_eq_true', beq_eq_false_iff_ne, bne_eq_false_iff_eq, ne_eq, Bool.not_eq_false', Bool.true_eq_false, Bool.false_eq_true, Bool.false_or, Bool.true_or, Bool.false_and, Bool.true_and, false_or, or_false, true_and, and_true] at hb))))
  refine AOp.loadCell rfl (by simp only [go_sem] <;> rfl) (by simp [go_sem]) (St.set_same _ _ _) rfl (by simp) (by simp) ?_
  (refine AOpsC_ok hK' _ _ _ ?_; (repeat simp (disch := omega) only [go_sem, Nat.reduceAdd, w_i64, w_u64, w_u8, w_u32, w_i32]); (repeat' refine And.intro ?_ ?_); (try any_goals (first | (refine hK _ _ ?_; clear hK' hQ hK Q' Kn) | (simp; done) | omega | (simp only [List.length_append, List.length_cons, List.length_nil]; omega) | (simp; omega))))
  have hfr1 : ∀ id, (st.set b (.cells 112 0 2 [[.ptr b 0 0 0, v]])) id = none → id ≠ b ∧ ok id := fun id h => by
    have hne : id ≠ b := fun e => by subst e; simp at h
    rw [St.set_ne _ _ hne] at h
    exact ⟨hne, hfr id h⟩
  refine AOp.buildSlice (e := 5) (sz := 1) (es := bytesE [c]) rfl rfl rfl rfl (by simp [partsC, go_sem]) (by simp [aParts, go_sem, bytesE] <;> rfl) (by simp [bytesE]) rfl (by decide) (by decide) fun it hit => ?_
  (refine AOpsC_ok hK' _ _ _ ?_; (repeat simp (disch := omega) only [go_sem, Nat.reduceAdd, w_i64, w_u64, w_u8, w_u32, w_i32]); (repeat' refine And.intro ?_ ?_); (try any_goals (first | (refine hK _ _ ?_; clear hK' hQ hK Q' Kn) | (simp; done) | omega | (simp only [List.length_append, List.length_cons, List.length_nil]; omega) | (simp; omega))))
  have hitb := hfr1 it hit
  refine AOp.appendO (ok := ok) (e := 5) (sz := 1) (by_ := 1) (es := bytesE bs) (xs := bytesE [c]) (v := v) rfl (by rcases hown with ⟨rfl, _⟩ | ⟨_, _, rfl, _⟩ <;> simp [go_sem]) rfl rfl rfl rfl (by decide) (by rcases hown with ⟨rfl, _⟩ | ⟨_, _, rfl, _⟩ <;> rfl) ?_ (by simp [go_sem, aElems, St.set, bytesE]) (by simp [go_sem, aSz]) (bytesE_one _) ?_ ?_ ?_ ?_ (by simp [bytesE])
  · rcases hown with h | ⟨ia, g, e1, e2, e3⟩
    · exact .inl h
    · refine .inr ⟨ia, g, e1, ?_, e3⟩
      have n1 : ia ≠ b := fun e => hok (e ▸ e3)
      have n2 : ia ≠ it := fun e => by subst e; rw [St.set_ne _ _ n1, e2] at hit; cases hit
      rw [St.set_ne _ _ n2, St.set_ne _ _ n1, e2]
  · simp only [bytesE_length, List.length_cons, List.length_nil]; omega
  · simp only [bytesE_length, List.length_cons, List.length_nil, maxLen]; omega
  · intro id hid
    have hne : id ≠ it := fun e => by subst e; simp at hid
    rw [St.set_ne _ _ hne] at hid
    exact (hfr1 id hid).2
  intro v' ia B hia hv' hown'
  have hiab : ok ia := by
    rcases hia with h | h
    · have hne : ia ≠ it := fun e => by subst e; simp at h
      rw [St.set_ne _ _ hne] at h
      exact (hfr1 ia h).2
    · exact h
  have nb1 : b ≠ ia := fun e => hok (e ▸ hiab)
  have nb2 : b ≠ it := fun e => hitb.1 e.symm
  rw [← bytesE_append] at hown'
  rcases hown' with ⟨_, h⟩ | ⟨i2, g2, rfl, q1, q2⟩
  · simp [bytesE] at h
  (refine AOpsC_ok hK' _ _ _ ?_; (repeat simp (disch := omega) only [go_sem, Nat.reduceAdd, w_i64, w_u64, w_u8, w_u32, w_i32]); (repeat' refine And.intro ?_ ?_); (try any_goals (first | (refine hK _ _ ?_; clear hK' hQ hK Q' Kn) | (simp; done) | omega | (simp only [List.length_append, List.length_cons, List.length_nil]; omega) | (simp; omega))))
  refine AOp.store (cs := [.arr i2 g2 1 0 (bytesE (bs ++ [c])).length]) (t0 := 112) (es := [[.ptr b 0 0 0, v]]) (sz := 2) rfl (by simp only [go_sem] <;> rfl) (by simp [go_sem]) ?_ (by simp [go_sem, aCells]) rfl rfl (by simp) (by simp) ?_
  · rw [St.set_ne _ _ nb1, St.set_ne _ _ nb2, St.set_same]
  (refine AOpsC_ok hK' _ _ _ ?_; (repeat simp (disch := omega) only [go_sem, Nat.reduceAdd, w_i64, w_u64, w_u8, w_u32, w_i32]); (repeat' refine And.intro ?_ ?_); (try any_goals (first | (refine hK _ _ ?_; clear hK' hQ hK Q' Kn) | (simp; done) | omega | (simp only [List.length_append, List.length_cons, List.length_nil]; omega) | (simp; omega))))
  (repeat' (first | refine AW.seq ?_ | refine AW.scope ?_ | refine AW.label ?_ | refine AW.block ?_ | refine AW.skip ?_ | refine AW.exit ?_ | refine AW.ret ?_ | (refine AW.regionC fun Q' Kn hQ hK hK' => ?_; (repeat simp (disch := omega) only [go_sem, Nat.reduceAdd, w_i64, w_u64, w_u8, w_u32, w_i32]); (repeat' refine And.intro ?_ ?_); (try any_goals (first | (refine hK _ _ ?_; clear hK' hQ hK Q' Kn) | (simp; done) | omega | (simp only [List.length_append, List.length_cons, List.length_nil]; omega) | (simp; omega)))) | (refine AW.cond (by simp (disch := omega) only [go_sem, Nat.reduceAdd, w_i64, w_u64, w_u8, w_u32, w_i32]; rfl) (fun hb => ?_) (fun hb => ?_) <;> (try simp only [Bool.or_eq_true, Bool.and_eq_true, Bool.or_eq_false_iff, Bool.and_eq_false_iff, decide_eq_true_eq, decide_eq_false_iff_not, beq_iff_eq, bne_iff_ne, Bool.not_eq_true', beq_eq_false_iff_ne, bne_eq_false_iff_eq, ne_eq, Bool.not_eq_false', Bool.true_eq_false, Bool.false_eq_true, Bool.false_or, Bool.true_or, Bool.false_and, Bool.true_and, false_or, or_false, true_and, and_true] at hb))))
  (refine ⟨_, _, rfl, by simp, ?_⟩; simp only [aTup, AA.get, List.getD_cons_zero, List.getD_cons_succ, true_and])
  refine ⟨⟨.ptr b 0 0 0, .arr i2 g2 1 0 (bytesE (bs ++ [c])).length, by rw [St.set_same]; simp [splice], .inr rfl, .inr ⟨i2, g2, rfl, ?_, q2⟩, fun h => by simp at h⟩, fun i hi hib => ?_⟩
  · have : i2 ≠ b := fun e => hok (e ▸ q2)
    rw [St.set_ne _ _ this]; exact q1
  · have n1 : i ≠ ia := fun e => hi (e ▸ hiab)
    have n2 : i ≠ it := fun e => hi (e ▸ hitb.2)
    rw [St.set_ne _ _ hib, St.set_ne _ _ n1, St.set_ne _ _ n2, St.set_ne _ _ hib]
end Go.Almanac

/- strings.Builder: String, Len. -/
namespace Go.Almanac
open Go.RowKit Go.Proofs Go.Abs

set_option linter.unusedSimpArgs false
set_option linter.unusedVariables false
set_option linter.unusedSectionVars false
set_option maxRecDepth 10000
set_option maxHeartbeats 1000000

theorem b_Len (G : Nat → AV) (b : Nat) (bs : List UInt8) (ok : Nat → Prop) (st : St) (hB : Bld st b bs ok) :
    ACalls (Ev G) 233 [.ptr b 0 0 0] st (fun e st' => e = .ret (.int .i64 bs.length) ∧ st' = st) := by
  obtain ⟨ad, v, hst, had, hown, _⟩ := hB
  refine ACalls.of_body Tryz.func233 rfl ?_
  rw [Tryz.ntmps233]
  simp only [List.length_cons, List.length_nil, Nat.reduceAdd, Nat.reduceSub, List.replicate_succ, List.replicate_zero, List.cons_append, List.nil_append]
  (repeat' (first | refine AW.seq ?_ | refine AW.scope ?_ | refine AW.label ?_ | refine AW.block ?_ | refine AW.skip ?_ | refine AW.exit ?_ | refine AW.ret ?_ | (refine AW.regionC fun Q' Kn hQ hK hK' => ?_; (repeat simp (disch := omega) only [go_sem, Nat.reduceAdd, w_i64, w_u64, w_u8, w_u32, w_i32]); (repeat' refine And.intro ?_ ?_); (try any_goals (first | (refine hK _ _ ?_; clear hK' hQ hK Q' Kn) | (simp; done) | omega | (simp only [List.length_append, List.length_cons, List.length_nil]; omega) | (simp; omega)))) | (refine AW.cond (by simp (disch := omega) only [go_sem, Nat.reduceAdd, w_i64, w_u64, w_u8, w_u32, w_i32]; rfl) (fun hb => ?_) (fun hb => ?_) <;> (try simp only [Bool.or_eq_true, Bool.and_eq_true, Bool.or_eq_false_iff, Bool.and_eq_false_iff, decide_eq_true_eq, decide_eq_false_iff_not, beq_iff_eq, bne_iff_ne, Bool.not_eq_true', beq_eq_false_iff_ne, bne_eq_false_iff_eq, ne_eq, Bool.not_eq_false', Bool.true_eq_false, Bool.false_eq_true, Bool.false_or, Bool.true_or, Bool.false_and, Bool.true_and, false_or, or_false, true_and, and_true] at hb))))
  refine AOp.loadCell rfl (by simp only [go_sem] <;> rfl) (by simp [go_sem]) hst rfl (by simp) (by simp) ?_
  rcases hown with ⟨rfl, h⟩ | ⟨ia, g, rfl, q1, q2⟩
  · have : bs = [] := by cases bs <;> simp_all [bytesE]
    subst this
    (refine AOpsC_ok hK' _ _ _ ?_; (repeat simp (disch := omega) only [go_sem, Nat.reduceAdd, w_i64, w_u64, w_u8, w_u32, w_i32]); (repeat' refine And.intro ?_ ?_); (try any_goals (first | (refine hK _ _ ?_; clear hK' hQ hK Q' Kn) | (simp; done) | omega | (simp only [List.length_append, List.length_cons, List.length_nil]; omega) | (simp; omega))))
    (repeat' (first | refine AW.seq ?_ | refine AW.scope ?_ | refine AW.label ?_ | refine AW.block ?_ | refine AW.skip ?_ | refine AW.exit ?_ | refine AW.ret ?_ | (refine AW.regionC fun Q' Kn hQ hK hK' => ?_; (repeat simp (disch := omega) only [go_sem, Nat.reduceAdd, w_i64, w_u64, w_u8, w_u32, w_i32]); (repeat' refine And.intro ?_ ?_); (try any_goals (first | (refine hK _ _ ?_; clear hK' hQ hK Q' Kn) | (simp; done) | omega | (simp only [List.length_append, List.length_cons, List.length_nil]; omega) | (simp; omega)))) | (refine AW.cond (by simp (disch := omega) only [go_sem, Nat.reduceAdd, w_i64, w_u64, w_u8, w_u32, w_i32]; rfl) (fun hb => ?_) (fun hb => ?_) <;> (try simp only [Bool.or_eq_true, Bool.and_eq_true, Bool.or_eq_false_iff, Bool.and_eq_false_iff, decide_eq_true_eq, decide_eq_false_iff_not, beq_iff_eq, bne_iff_ne, Bool.not_eq_true', beq_eq_false_iff_ne, bne_eq_false_iff_eq, ne_eq, Bool.not_eq_false', Bool.true_eq_false, Bool.false_eq_true, Bool.false_or, Bool.true_or, Bool.false_and, Bool.true_and, false_or, or_false, true_and, and_true] at hb))))
    (refine ⟨_, _, rfl, by simp, ?_⟩; simp only [aTup, AA.get, List.getD_cons_zero, List.getD_cons_succ, true_and])
    simp
  · (refine AOpsC_ok hK' _ _ _ ?_; (repeat simp (disch := omega) only [go_sem, Nat.reduceAdd, w_i64, w_u64, w_u8, w_u32, w_i32]); (repeat' refine And.intro ?_ ?_); (try any_goals (first | (refine hK _ _ ?_; clear hK' hQ hK Q' Kn) | (simp; done) | omega | (simp only [List.length_append, List.length_cons, List.length_nil]; omega) | (simp; omega))))
    (repeat' (first | refine AW.seq ?_ | refine AW.scope ?_ | refine AW.label ?_ | refine AW.block ?_ | refine AW.skip ?_ | refine AW.exit ?_ | refine AW.ret ?_ | (refine AW.regionC fun Q' Kn hQ hK hK' => ?_; (repeat simp (disch := omega) only [go_sem, Nat.reduceAdd, w_i64, w_u64, w_u8, w_u32, w_i32]); (repeat' refine And.intro ?_ ?_); (try any_goals (first | (refine hK _ _ ?_; clear hK' hQ hK Q' Kn) | (simp; done) | omega | (simp only [List.length_append, List.length_cons, List.length_nil]; omega) | (simp; omega)))) | (refine AW.cond (by simp (disch := omega) only [go_sem, Nat.reduceAdd, w_i64, w_u64, w_u8, w_u32, w_i32]; rfl) (fun hb => ?_) (fun hb => ?_) <;> (try simp only [Bool.or_eq_true, Bool.and_eq_true, Bool.or_eq_false_iff, Bool.and_eq_false_iff, decide_eq_true_eq, decide_eq_false_iff_not, beq_iff_eq, bne_iff_ne, Bool.not_eq_true', beq_eq_false_iff_ne, bne_eq_false_iff_eq, ne_eq, Bool.not_eq_false', Bool.true_eq_false, Bool.false_eq_true, Bool.false_or, Bool.true_or, Bool.false_and, Bool.true_and, false_or, or_false, true_and, and_true] at hb))))
    (refine ⟨_, _, rfl, by simp, ?_⟩; simp only [aTup, AA.get, List.getD_cons_zero, List.getD_cons_succ, true_and])
    simp

theorem b_String (G : Nat → AV) (b : Nat) (bs : List UInt8) (h0 : bs ≠ []) (ok : Nat → Prop) (st : St) (hB : Bld st b bs ok) :
    ACalls (Ev G) 82 [.ptr b 0 0 0] st (fun e st' => e = .ret (.str bs) ∧ ∀ i, ¬ ok i → st' i = st i) := by
  obtain ⟨ad, v, hst, had, hown, _⟩ := hB
  refine ACalls.of_body Tryz.func82 rfl ?_
  rw [Tryz.ntmps82]
  simp only [List.length_cons, List.length_nil, Nat.reduceAdd, Nat.reduceSub, List.replicate_succ, List.replicate_zero, List.cons_append, List.nil_append]
  rcases hown with ⟨rfl, h⟩ | ⟨ia, g, rfl, q1, q2⟩
  · exfalso; apply h0; cases bs <;> simp_all [bytesE]
  (repeat' (first | refine AW.seq ?_ | refine AW.scope ?_ | refine AW.label ?_ | refine AW.block ?_ | refine AW.skip ?_ | refine AW.exit ?_ | refine AW.ret ?_ | (refine AW.regionC fun Q' Kn hQ hK hK' => ?_; (repeat simp (disch := omega) only [go_sem, Nat.reduceAdd, w_i64, w_u64, w_u8, w_u32, w_i32]); (repeat' refine And.intro ?_ ?_); (try any_goals (first | (refine hK _ _ ?_; clear hK' hQ hK Q' Kn) | (simp; done) | omega | (simp only [List.length_append, List.length_cons, List.length_nil]; omega) | (simp; omega)))) | (refine AW.cond (by simp (disch := omega) only [go_sem, Nat.reduceAdd, w_i64, w_u64, w_u8, w_u32, w_i32]; rfl) (fun hb => ?_) (fun hb => ?_) <;> (try simp only [Bool.or_eq_true, Bool.and_eq_true, Bool.or_eq_false_iff, Bool.and_eq_false_iff, decide_eq_true_eq, decide_eq_false_iff_not, beq_iff_eq, bne_iff_ne, Bool.not_eq_true', beq_eq_false_iff_ne, bne_eq_false_iff_eq, ne_eq, Bool.not_eq_false', Bool.true_eq_false, Bool.false_eq_true, Bool.false_or, Bool.true_or, Bool.false_and, Bool.true_and, false_or, or_false, true_and, and_true] at hb))))
  refine AW.drawnB 8 (List.range 12) (by decide +kernel) fun Q' Kn hQ hK hK' => ?_
  refine FxBC_ok _ _ _ ?_
  simp (disch := omega) only [go_sem, Nat.reduceAdd, w_i64, w_u64, w_u8, w_u32, w_i32]
  have hpos : 0 < bs.length := by cases bs <;> simp_all
  refine FxB.fixed (Fixed.loadCell rfl rfl rfl (by simp only [go_sem] <;> rfl) (by simp [go_sem]) hst rfl (by simp) (by simp)) ?_
  refine FxBC_ok _ _ _ ?_
  simp (disch := omega) only [go_sem, Nat.reduceAdd, w_i64, w_u64, w_u8, w_u32, w_i32]
  refine FxB.fixed (Fixed.sliceData rfl rfl rfl (by simp only [go_sem] <;> rfl) (by simp [go_sem]) (by simpa using hpos)) ?_
  refine FxBC_ok _ _ _ ?_
  simp (disch := omega) only [go_sem, Nat.reduceAdd, w_i64, w_u64, w_u8, w_u32, w_i32]
  refine FxB.fixed (Fixed.loadCell rfl rfl rfl (by simp only [go_sem] <;> rfl) (by simp [go_sem]) hst rfl (by simp) (by simp)) ?_
  refine FxBC_ok _ _ _ ?_
  simp (disch := omega) only [go_sem, Nat.reduceAdd, w_i64, w_u64, w_u8, w_u32, w_i32]
  repeat' refine And.intro ?_ ?_
  all_goals (try (first | (simp; done) | omega))
  refine FxB.barrier (by decide +kernel) rfl rfl (AOp.unsafeStr (s := bs) (e := 5) rfl (by simp [go_sem]) (by simp only [go_sem] <;> rfl) (by simp [go_sem]) q1 h0 rfl rfl ?_)
  refine FxBC_ok _ _ _ ?_
  simp (disch := omega) only [go_sem, Nat.reduceAdd, w_i64, w_u64, w_u8, w_u32, w_i32]
  repeat' refine And.intro ?_ ?_
  all_goals (try (first | (simp; done) | omega))
  refine hK _ _ ?_
  clear hK' hQ hK Q' Kn
  (repeat' (first | refine AW.seq ?_ | refine AW.scope ?_ | refine AW.label ?_ | refine AW.block ?_ | refine AW.skip ?_ | refine AW.exit ?_ | refine AW.ret ?_ | (refine AW.regionC fun Q' Kn hQ hK hK' => ?_; (repeat simp (disch := omega) only [go_sem, Nat.reduceAdd, w_i64, w_u64, w_u8, w_u32, w_i32]); (repeat' refine And.intro ?_ ?_); (try any_goals (first | (refine hK _ _ ?_; clear hK' hQ hK Q' Kn) | (simp; done) | omega | (simp only [List.length_append, List.length_cons, List.length_nil]; omega) | (simp; omega)))) | (refine AW.cond (by simp (disch := omega) only [go_sem, Nat.reduceAdd, w_i64, w_u64, w_u8, w_u32, w_i32]; rfl) (fun hb => ?_) (fun hb => ?_) <;> (try simp only [Bool.or_eq_true, Bool.and_eq_true, Bool.or_eq_false_iff, Bool.and_eq_false_iff, decide_eq_true_eq, decide_eq_false_iff_not, beq_iff_eq, bne_iff_ne, Bool.not_eq_true', beq_eq_false_iff_ne, bne_eq_false_iff_eq, ne_eq, Bool.not_eq_false', Bool.true_eq_false, Bool.false_eq_true, Bool.false_or, Bool.true_or, Bool.false_and, Bool.true_and, false_or, or_false, true_and, and_true] at hb))))
  (refine ⟨_, _, rfl, by simp, ?_⟩; simp only [aTup, AA.get, List.getD_cons_zero, List.getD_cons_succ, true_and])
  first | exact fun i hi => St.del_ne _ (fun e => hi (e ▸ q2)) | exact ⟨rfl, fun i hi => St.del_ne _ (fun e => hi (e ▸ q2))⟩
end Go.Almanac

/- Texts: the place of a byte, hexadecimal digits. -/
namespace Go.Almanac
open Go.RowKit Go.Proofs Go.Abs

set_option linter.unusedSimpArgs false
set_option linter.unusedVariables false
set_option linter.unusedSectionVars false
set_option maxRecDepth 10000
set_option maxHeartbeats 1000000

/-- The first place of a byte; -1: none. -/
def idx (s : List UInt8) (c : UInt8) : Int := Go.firstIdx ⟨s.toArray⟩ c

theorem b_IndexByte0 (G : Nat → AV) (s : List UInt8) (c : UInt8) (st : St) : ACalls (Ev G) 149 [.str s, .int .u8 c.toNat] st (fun e st' => st' = st ∧ e = .ret (.int .i64 (idx s c))) := by
  refine ACalls.of_body Tryz.func149 rfl ?_
  rw [Tryz.ntmps149]
  simp only [List.length_cons, List.length_nil, Nat.reduceAdd, Nat.reduceSub, List.replicate_succ, List.replicate_zero, List.cons_append, List.nil_append]
  (repeat' (first | refine AW.seq ?_ | refine AW.scope ?_ | refine AW.label ?_ | refine AW.block ?_ | refine AW.skip ?_ | refine AW.exit ?_ | refine AW.ret ?_ | (refine AW.regionC fun Q' Kn hQ hK hK' => ?_; (repeat simp (disch := omega) only [go_sem, Nat.reduceAdd, w_i64, w_u64, w_u8, w_u32, w_i32]); (repeat' refine And.intro ?_ ?_); (try any_goals (first | (refine hK _ _ ?_; clear hK' hQ hK Q' Kn) | (simp; done) | omega | (simp only [List.length_append, List.length_cons, List.length_nil]; omega) | (simp; omega)))) | (refine AW.cond (by simp (disch := omega) only [go_sem, Nat.reduceAdd, w_i64, w_u64, w_u8, w_u32, w_i32]; rfl) (fun hb => ?_) (fun hb => ?_) <;> (try simp only [Bool.or_eq_true, Bool.and_eq_true, Bool.or_eq_false_iff, Bool.and_eq_false_iff, decide_eq_true_eq, decide_eq_false_iff_not, beq_iff_eq, bne_iff_ne, Bool.not_eq_true', beq_eq_false_iff_ne, bne_eq_false_iff_eq, ne_eq, Bool.not_eq_false', Bool.true_eq_false, Bool.false_eq_true, Bool.false_or, Bool.true_or, Bool.false_and, Bool.true_and, false_or, or_false, true_and, and_true] at hb))))
  refine AOp.ext (f := 189) (v := .int .i64 (idx s c)) rfl (by simp only [go_sem] <;> rfl) (by simp [go_sem]) (fun κ w cargs hR hv => ?_) ?_
  · simp only [go_sem, VRs, VR] at hv
    obtain ⟨v1, vs1, h1, rfl, v2, vs2, rfl, rfl, rfl⟩ := hv
    have : cargs = #[.string ⟨s.toArray⟩, .int .u8 (c.toNat : Int)] := Array.toList_inj.1 h1
    subst this
    refine ⟨.int .i64 (idx s c), ?_, by simp [VR]⟩
    rw [run_callFunc_extern (fn := Tryz.f189) rfl (by kernel_rfl) (by kernel_rfl) (by kernel_rfl) (e := Extern.BytealgIndexByte.indexByte) (by kernel_rfl), run_indexByte_string]
    simp [idx, Result.andThen]
  (refine AOpsC_ok hK' _ _ _ ?_; (repeat simp (disch := omega) only [go_sem, Nat.reduceAdd, w_i64, w_u64, w_u8, w_u32, w_i32]); (repeat' refine And.intro ?_ ?_); (try any_goals (first | (refine hK _ _ ?_; clear hK' hQ hK Q' Kn) | (simp; done) | omega | (simp only [List.length_append, List.length_cons, List.length_nil]; omega) | (simp; omega))))
  (repeat' (first | refine AW.seq ?_ | refine AW.scope ?_ | refine AW.label ?_ | refine AW.block ?_ | refine AW.skip ?_ | refine AW.exit ?_ | refine AW.ret ?_ | (refine AW.regionC fun Q' Kn hQ hK hK' => ?_; (repeat simp (disch := omega) only [go_sem, Nat.reduceAdd, w_i64, w_u64, w_u8, w_u32, w_i32]); (repeat' refine And.intro ?_ ?_); (try any_goals (first | (refine hK _ _ ?_; clear hK' hQ hK Q' Kn) | (simp; done) | omega | (simp only [List.length_append, List.length_cons, List.length_nil]; omega) | (simp; omega)))) | (refine AW.cond (by simp (disch := omega) only [go_sem, Nat.reduceAdd, w_i64, w_u64, w_u8, w_u32, w_i32]; rfl) (fun hb => ?_) (fun hb => ?_) <;> (try simp only [Bool.or_eq_true, Bool.and_eq_true, Bool.or_eq_false_iff, Bool.and_eq_false_iff, decide_eq_true_eq, decide_eq_false_iff_not, beq_iff_eq, bne_iff_ne, Bool.not_eq_true', beq_eq_false_iff_ne, bne_eq_false_iff_eq, ne_eq, Bool.not_eq_false', Bool.true_eq_false, Bool.false_eq_true, Bool.false_or, Bool.true_or, Bool.false_and, Bool.true_and, false_or, or_false, true_and, and_true] at hb))))
  (refine ⟨_, _, rfl, by simp, ?_⟩; simp only [aTup, AA.get, List.getD_cons_zero, List.getD_cons_succ, true_and])

theorem b_IndexByte (G : Nat → AV) (s : List UInt8) (c : UInt8) (st : St) : ACalls (Ev G) 83 [.str s, .int .u8 c.toNat] st (fun e st' => st' = st ∧ e = .ret (.int .i64 (idx s c))) := by
  refine ACalls.of_body Tryz.func83 rfl ?_
  rw [Tryz.ntmps83]
  simp only [List.length_cons, List.length_nil, Nat.reduceAdd, Nat.reduceSub, List.replicate_succ, List.replicate_zero, List.cons_append, List.nil_append]
  (repeat' (first | refine AW.seq ?_ | refine AW.scope ?_ | refine AW.label ?_ | refine AW.block ?_ | refine AW.skip ?_ | refine AW.exit ?_ | refine AW.ret ?_ | (refine AW.regionC fun Q' Kn hQ hK hK' => ?_; (repeat simp (disch := omega) only [go_sem, Nat.reduceAdd, w_i64, w_u64, w_u8, w_u32, w_i32]); (repeat' refine And.intro ?_ ?_); (try any_goals (first | (refine hK _ _ ?_; clear hK' hQ hK Q' Kn) | (simp; done) | omega | (simp only [List.length_append, List.length_cons, List.length_nil]; omega) | (simp; omega)))) | (refine AW.cond (by simp (disch := omega) only [go_sem, Nat.reduceAdd, w_i64, w_u64, w_u8, w_u32, w_i32]; rfl) (fun hb => ?_) (fun hb => ?_) <;> (try simp only [Bool.or_eq_true, Bool.and_eq_true, Bool.or_eq_false_iff, Bool.and_eq_false_iff, decide_eq_true_eq, decide_eq_false_iff_not, beq_iff_eq, bne_iff_ne, Bool.not_eq_true', beq_eq_false_iff_ne, bne_eq_false_iff_eq, ne_eq, Bool.not_eq_false', Bool.true_eq_false, Bool.false_eq_true, Bool.false_or, Bool.true_or, Bool.false_and, Bool.true_and, false_or, or_false, true_and, and_true] at hb))))
  refine AOp.call rfl (by simp only [go_sem]; rfl) (by simp [go_sem]) rfl (ACalls.mono (by simp only [go_sem]; exact b_IndexByte0 G s c st) ?_)
  rintro e st' ⟨rfl, rfl⟩
  (refine AOpsC_ok hK' _ _ _ ?_; (repeat simp (disch := omega) only [go_sem, Nat.reduceAdd, w_i64, w_u64, w_u8, w_u32, w_i32]); (repeat' refine And.intro ?_ ?_); (try any_goals (first | (refine hK _ _ ?_; clear hK' hQ hK Q' Kn) | (simp; done) | omega | (simp only [List.length_append, List.length_cons, List.length_nil]; omega) | (simp; omega))))
  (repeat' (first | refine AW.seq ?_ | refine AW.scope ?_ | refine AW.label ?_ | refine AW.block ?_ | refine AW.skip ?_ | refine AW.exit ?_ | refine AW.ret ?_ | (refine AW.regionC fun Q' Kn hQ hK hK' => ?_; (repeat simp (disch := omega) only [go_sem, Nat.reduceAdd, w_i64, w_u64, w_u8, w_u32, w_i32]); (repeat' refine And.intro ?_ ?_); (try any_goals (first | (refine hK _ _ ?_; clear hK' hQ hK Q' Kn) | (simp; done) | omega | (simp only [List.length_append, List.length_cons, List.length_nil]; omega) | (simp; omega)))) | (refine AW.cond (by simp (disch := omega) only [go_sem, Nat.reduceAdd, w_i64, w_u64, w_u8, w_u32, w_i32]; rfl) (fun hb => ?_) (fun hb => ?_) <;> (try simp only [Bool.or_eq_true, Bool.and_eq_true, Bool.or_eq_false_iff, Bool.and_eq_false_iff, decide_eq_true_eq, decide_eq_false_iff_not, beq_iff_eq, bne_iff_ne, Bool.not_eq_true', beq_eq_false_iff_ne, bne_eq_false_iff_eq, ne_eq, Bool.not_eq_false', Bool.true_eq_false, Bool.false_eq_true, Bool.false_or, Bool.true_or, Bool.false_and, Bool.true_and, false_or, or_false, true_and, and_true] at hb))))
  (refine ⟨_, _, rfl, by simp, ?_⟩; simp only [aTup, AA.get, List.getD_cons_zero, List.getD_cons_succ, true_and])
end Go.Almanac

/- strings.Builder: String at every builder. -/
namespace Go.Almanac
open Go.RowKit Go.Proofs Go.Abs

set_option linter.unusedSimpArgs false
set_option linter.unusedVariables false
set_option linter.unusedSectionVars false
set_option maxRecDepth 10000
set_option maxHeartbeats 1000000

theorem b_StringAny (G : Nat → AV) (b : Nat) (bs : List UInt8) (ok : Nat → Prop) (st : St) (hB : Bld st b bs ok) :
    ACalls (Ev G) 82 [.ptr b 0 0 0] st (fun e st' => e = .ret (.str bs) ∧ ∀ i, ¬ ok i → st' i = st i) := by
  by_cases h0 : bs = []
  · subst h0
    obtain ⟨ad, v, hst, had, hown, hn⟩ := hB
    rcases hown with ⟨rfl, _⟩ | ⟨ia, g, rfl, q1, q2⟩
    · refine ACalls.of_body Tryz.func82 rfl ?_
      rw [Tryz.ntmps82]
      simp only [List.length_cons, List.length_nil, Nat.reduceAdd, Nat.reduceSub, List.replicate_succ, List.replicate_zero, List.cons_append, List.nil_append]
      (repeat' (first | refine AW.seq ?_ | refine AW.scope ?_ | refine AW.label ?_ | refine AW.block ?_ | refine AW.skip ?_ | refine AW.exit ?_ | refine AW.ret ?_ | (refine AW.regionC fun Q' Kn hQ hK hK' => ?_; (repeat simp (disch := omega) only [go_sem, Nat.reduceAdd, w_i64, w_u64, w_u8, w_u32, w_i32]); (repeat' refine And.intro ?_ ?_); (try any_goals (first | (refine hK _ _ ?_; clear hK' hQ hK Q' Kn) | (simp; done) | omega | (simp only [List.length_append, List.length_cons, List.length_nil]; omega) | (simp; omega)))) | (refine AW.cond (by simp (disch := omega) only [go_sem, Nat.reduceAdd, w_i64, w_u64, w_u8, w_u32, w_i32]; rfl) (fun hb => ?_) (fun hb => ?_) <;> (try simp only [Bool.or_eq_true, Bool.and_eq_true, Bool.or_eq_false_iff, Bool.and_eq_false_iff, decide_eq_true_eq, decide_eq_false_iff_not, beq_iff_eq, bne_iff_ne, Bool.not_eq_true', beq_eq_false_iff_ne, bne_eq_false_iff_eq, ne_eq, Bool.not_eq_false', Bool.true_eq_false, Bool.false_eq_true, Bool.false_or, Bool.true_or, Bool.false_and, Bool.true_and, false_or, or_false, true_and, and_true] at hb))))
      refine AW.drawnB 8 (List.range 12) (by decide +kernel) fun Q' Kn hQ hK hK' => ?_
      refine FxBC_ok _ _ _ ?_
      simp (disch := omega) only [go_sem, Nat.reduceAdd, w_i64, w_u64, w_u8, w_u32, w_i32]
      refine FxB.fixed (Fixed.loadCell rfl rfl rfl (by simp only [go_sem] <;> rfl) (by simp [go_sem]) hst rfl (by simp) (by simp)) ?_
      refine FxBC_ok _ _ _ ?_
      simp (disch := omega) only [go_sem, Nat.reduceAdd, w_i64, w_u64, w_u8, w_u32, w_i32]
      refine FxB.fixed (Fixed.sliceDataNil rfl rfl rfl (by simp only [go_sem] <;> rfl) (by simp [go_sem])) ?_
      refine FxBC_ok _ _ _ ?_
      simp (disch := omega) only [go_sem, Nat.reduceAdd, w_i64, w_u64, w_u8, w_u32, w_i32]
      refine FxB.fixed (Fixed.loadCell rfl rfl rfl (by simp only [go_sem] <;> rfl) (by simp [go_sem]) hst rfl (by simp) (by simp)) ?_
      refine FxBC_ok _ _ _ ?_
      simp (disch := omega) only [go_sem, Nat.reduceAdd, w_i64, w_u64, w_u8, w_u32, w_i32]
      repeat' refine And.intro ?_ ?_
      all_goals (try (first | (simp; done) | omega))
      refine FxB.fixed (Fixed.unsafeStrNil rfl rfl rfl (by simp only [go_sem] <;> rfl) (by simp only [go_sem] <;> rfl) (by simp [go_sem])) ?_
      refine FxBC_ok _ _ _ ?_
      simp (disch := omega) only [go_sem, Nat.reduceAdd, w_i64, w_u64, w_u8, w_u32, w_i32]
      repeat' refine And.intro ?_ ?_
      all_goals (try (first | (simp; done) | omega))
      refine hK _ _ ?_
      clear hK' hQ hK Q' Kn
      (repeat' (first | refine AW.seq ?_ | refine AW.scope ?_ | refine AW.label ?_ | refine AW.block ?_ | refine AW.skip ?_ | refine AW.exit ?_ | refine AW.ret ?_ | (refine AW.regionC fun Q' Kn hQ hK hK' => ?_; (repeat simp (disch := omega) only [go_sem, Nat.reduceAdd, w_i64, w_u64, w_u8, w_u32, w_i32]); (repeat' refine And.intro ?_ ?_); (try any_goals (first | (refine hK _ _ ?_; clear hK' hQ hK Q' Kn) | (simp; done) | omega | (simp only [List.length_append, List.length_cons, List.length_nil]; omega) | (simp; omega)))) | (refine AW.cond (by simp (disch := omega) only [go_sem, Nat.reduceAdd, w_i64, w_u64, w_u8, w_u32, w_i32]; rfl) (fun hb => ?_) (fun hb => ?_) <;> (try simp only [Bool.or_eq_true, Bool.and_eq_true, Bool.or_eq_false_iff, Bool.and_eq_false_iff, decide_eq_true_eq, decide_eq_false_iff_not, beq_iff_eq, bne_iff_ne, Bool.not_eq_true', beq_eq_false_iff_ne, bne_eq_false_iff_eq, ne_eq, Bool.not_eq_false', Bool.true_eq_false, Bool.false_eq_true, Bool.false_or, Bool.true_or, Bool.false_and, Bool.true_and, false_or, or_false, true_and, and_true] at hb))))
      (refine ⟨_, _, rfl, by simp, ?_⟩; simp only [aTup, AA.get, List.getD_cons_zero, List.getD_cons_succ, true_and])
      exact fun _ _ => trivial
    · cases hn rfl
  · exact b_String G b bs h0 ok st hB
end Go.Almanac

/- strings.Builder: Write. -/
namespace Go.Almanac
open Go.RowKit Go.Proofs Go.Abs

set_option linter.unusedSimpArgs false
set_option linter.unusedVariables false
set_option linter.unusedSectionVars false
set_option maxRecDepth 10000
set_option maxHeartbeats 1000000

/-- Write: the same, of a slice of bytes that the walk owns. -/
theorem b_Write (G : Nat → AV) (b : Nat) (bs : List UInt8) (xs : List UInt8) (ix gx : Nat) (ok : Nat → Prop) (st : St) (hB : Bld st b bs ok) (hok : ¬ ok b) (hfr : ∀ id, st id = none → ok id) (hlim : bs.length + xs.length ≤ 140737488355328) (hx : st ix = some (.cells 5 gx 1 (bytesE xs))) (hxb : ix ≠ b) (hx0 : xs ≠ []) :
    ACalls (Ev G) 308 [.ptr b 0 0 0, .arr ix gx 1 0 xs.length] st (fun e st' => e = .ret (.tup [.int .i64 xs.length, .nili]) ∧ Bld st' b (bs ++ xs) ok ∧ ∀ i, ¬ ok i → i ≠ b → st' i = st i) := by
  obtain ⟨ad, v, hst, had, hown, _⟩ := hB
  refine ACalls.of_body Tryz.func308 rfl ?_
  rw [Tryz.ntmps308]
  simp only [List.length_cons, List.length_nil, Nat.reduceAdd, Nat.reduceSub, List.replicate_succ, List.replicate_zero, List.cons_append, List.nil_append]
  (repeat' (first | refine AW.seq ?_ | refine AW.scope ?_ | refine AW.label ?_ | refine AW.block ?_ | refine AW.skip ?_ | refine AW.exit ?_ | refine AW.ret ?_ | (refine AW.regionC fun Q' Kn hQ hK hK' => ?_; (repeat simp (disch := omega) only [go_sem, Nat.reduceAdd, w_i64, w_u64, w_u8, w_u32, w_i32]); (repeat' refine And.intro ?_ ?_); (try any_goals (first | (refine hK _ _ ?_; clear hK' hQ hK Q' Kn) | (simp; done) | omega | (simp only [List.length_append, List.length_cons, List.length_nil]; omega) | (simp; omega)))) | (refine AW.cond (by simp (disch := omega) only [go_sem, Nat.reduceAdd, w_i64, w_u64, w_u8, w_u32, w_i32]; rfl) (fun hb => ?_) (fun hb => ?_) <;> (try simp only [Bool.or_eq_true, Bool.and_eq_true, Bool.or_eq_false_iff, Bool.and_eq_false_iff, decide_eq_true_eq, decide_eq_false_iff_not, beq_iff_eq, bne_iff_ne, Bool.not_eq_true', beq_eq_false_iff_ne, bne_eq_false_iff_eq, ne_eq, Bool.not_eq_false', Bool.true_eq_false, Bool.false_eq_true, Bool.false_or, Bool.true_or, Bool.false_and, Bool.true_and, false_or, or_false, true_and, and_true] at hb))))
  refine AOp.call rfl (by simp only [go_sem]; rfl) (by simp [go_sem]) rfl (ACalls.mono (by simp only [go_sem]; exact b_copyCheck G b ad v st hst had) ?_)
  rintro e st' ⟨rfl, rfl⟩
  (refine AOpsC_ok hK' _ _ _ ?_; (repeat simp (disch := omega) only [go_sem, Nat.reduceAdd, w_i64, w_u64, w_u8, w_u32, w_i32]); (repeat' refine And.intro ?_ ?_); (try any_goals (first | (refine hK _ _ ?_; clear hK' hQ hK Q' Kn) | (simp; done) | omega | (simp only [List.length_append, List.length_cons, List.length_nil]; omega) | (simp; omega))))
  (repeat' (first | refine AW.seq ?_ | refine AW.scope ?_ | refine AW.label ?_ | refine AW.block ?_ | refine AW.skip ?_ | refine AW.exit ?_ | refine AW.ret ?_ | (refine AW.regionC fun Q' Kn hQ hK hK' => ?_; (repeat simp (disch := omega) only [go_sem, Nat.reduceAdd, w_i64, w_u64, w_u8, w_u32, w_i32]); (repeat' refine And.intro ?_ ?_); (try any_goals (first | (refine hK _ _ ?_; clear hK' hQ hK Q' Kn) | (simp; done) | omega | (simp only [List.length_append, List.length_cons, List.length_nil]; omega) | (simp; omega)))) | (refine AW.cond (by simp (disch := omega) only [go_sem, Nat.reduceAdd, w_i64, w_u64, w_u8, w_u32, w_i32]; rfl) (fun hb => ?_) (fun hb => ?_) <;> (try simp only [Bool.or_eq_true, Bool.and_eq_true, Bool.or_eq_false_iff, Bool.and_eq_false_iff, decide_eq_true_eq, decide_eq_false_iff_not, beq_iff_eq, bne_iff_ne, Bool.not_eq_true', beq_eq_false_iff_ne, bne_eq_false_iff_eq, ne_eq, Bool.not_eq_false', Bool.true_eq_false, Bool.false_eq_true, Bool.false_or, Bool.true_or, Bool.false_and, Bool.true_and, false_or, or_false, true_and, and_true] at hb))))
  refine AOp.loadCell rfl (by simp only [go_sem] <;> rfl) (by simp [go_sem]) (St.set_same _ _ _) rfl (by simp) (by simp) ?_
  (refine AOpsC_ok hK' _ _ _ ?_; (repeat simp (disch := omega) only [go_sem, Nat.reduceAdd, w_i64, w_u64, w_u8, w_u32, w_i32]); (repeat' refine And.intro ?_ ?_); (try any_goals (first | (refine hK _ _ ?_; clear hK' hQ hK Q' Kn) | (simp; done) | omega | (simp only [List.length_append, List.length_cons, List.length_nil]; omega) | (simp; omega))))
  have hfr1 : ∀ id, (st.set b (.cells 112 0 2 [[.ptr b 0 0 0, v]])) id = none → id ≠ b ∧ ok id := fun id h => by
    have hne : id ≠ b := fun e => by subst e; simp at h
    rw [St.set_ne _ _ hne] at h
    exact ⟨hne, hfr id h⟩
  refine AOp.appendO (ok := ok) (e := 5) (sz := 1) (by_ := 1) (es := bytesE bs) (xs := bytesE xs) (v := v) rfl (by rcases hown with ⟨rfl, _⟩ | ⟨_, _, rfl, _⟩ <;> simp [go_sem]) rfl rfl rfl rfl (by decide) (by rcases hown with ⟨rfl, _⟩ | ⟨_, _, rfl, _⟩ <;> rfl) ?_ ?_ (by simp [go_sem, aSz]) (bytesE_one _) ?_ ?_ ?_ ?_ (by simpa [bytesE] using hx0)
  · rcases hown with h | ⟨ia, g, e1, e2, e3⟩
    · exact .inl h
    · refine .inr ⟨ia, g, e1, ?_, e3⟩
      have n1 : ia ≠ b := fun e => hok (e ▸ e3)
      rw [St.set_ne _ _ n1, e2]
  · have h1 : (st.set b (.cells 112 0 2 [[.ptr b 0 0 0, v]])) ix = some (.cells 5 gx 1 (bytesE xs)) := by rw [St.set_ne _ _ hxb, hx]
    simp [go_sem, aElems, h1]
    exact List.take_of_length_le (by simp)
  · simp only [bytesE_length, List.length_cons, List.length_nil]; omega
  · simp only [bytesE_length, List.length_cons, List.length_nil, maxLen]; omega
  · intro id hid
    exact (hfr1 id hid).2
  intro v' ia B hia hv' hown'
  have hiab : ok ia := by
    rcases hia with h | h
    · exact (hfr1 ia h).2
    · exact h
  have nb1 : b ≠ ia := fun e => hok (e ▸ hiab)
  rw [← bytesE_append] at hown'
  rcases hown' with ⟨_, h⟩ | ⟨i2, g2, rfl, q1, q2⟩
  · simp [bytesE] at h; exact absurd h.2 hx0
  (refine AOpsC_ok hK' _ _ _ ?_; (repeat simp (disch := omega) only [go_sem, Nat.reduceAdd, w_i64, w_u64, w_u8, w_u32, w_i32]); (repeat' refine And.intro ?_ ?_); (try any_goals (first | (refine hK _ _ ?_; clear hK' hQ hK Q' Kn) | (simp; done) | omega | (simp only [List.length_append, List.length_cons, List.length_nil]; omega) | (simp; omega))))
  refine AOp.store (cs := [.arr i2 g2 1 0 (bytesE (bs ++ xs)).length]) (t0 := 112) (es := [[.ptr b 0 0 0, v]]) (sz := 2) rfl (by simp only [go_sem] <;> rfl) (by simp [go_sem]) ?_ (by simp [go_sem, aCells]) rfl rfl (by simp) (by simp) ?_
  · rw [St.set_ne _ _ nb1, St.set_same]
  (refine AOpsC_ok hK' _ _ _ ?_; (repeat simp (disch := omega) only [go_sem, Nat.reduceAdd, w_i64, w_u64, w_u8, w_u32, w_i32]); (repeat' refine And.intro ?_ ?_); (try any_goals (first | (refine hK _ _ ?_; clear hK' hQ hK Q' Kn) | (simp; done) | omega | (simp only [List.length_append, List.length_cons, List.length_nil]; omega) | (simp; omega))))
  (repeat' (first | refine AW.seq ?_ | refine AW.scope ?_ | refine AW.label ?_ | refine AW.block ?_ | refine AW.skip ?_ | refine AW.exit ?_ | refine AW.ret ?_ | (refine AW.regionC fun Q' Kn hQ hK hK' => ?_; (repeat simp (disch := omega) only [go_sem, Nat.reduceAdd, w_i64, w_u64, w_u8, w_u32, w_i32]); (repeat' refine And.intro ?_ ?_); (try any_goals (first | (refine hK _ _ ?_; clear hK' hQ hK Q' Kn) | (simp; done) | omega | (simp only [List.length_append, List.length_cons, List.length_nil]; omega) | (simp; omega)))) | (refine AW.cond (by simp (disch := omega) only [go_sem, Nat.reduceAdd, w_i64, w_u64, w_u8, w_u32, w_i32]; rfl) (fun hb => ?_) (fun hb => ?_) <;> (try simp only [Bool.or_eq_true, Bool.and_eq_true, Bool.or_eq_false_iff, Bool.and_eq_false_iff, decide_eq_true_eq, decide_eq_false_iff_not, beq_iff_eq, bne_iff_ne, Bool.not_eq_true', beq_eq_false_iff_ne, bne_eq_false_iff_eq, ne_eq, Bool.not_eq_false', Bool.true_eq_false, Bool.false_eq_true, Bool.false_or, Bool.true_or, Bool.false_and, Bool.true_and, false_or, or_false, true_and, and_true] at hb))))
  (refine ⟨_, _, rfl, by simp, ?_⟩; simp only [aTup, AA.get, List.getD_cons_zero, List.getD_cons_succ, true_and])
  refine ⟨⟨.ptr b 0 0 0, .arr i2 g2 1 0 (bytesE (bs ++ xs)).length, by rw [St.set_same]; simp [splice], .inr rfl, .inr ⟨i2, g2, rfl, ?_, q2⟩, fun h => by simp at h; exact absurd h.2 hx0⟩, fun i hi hib => ?_⟩
  · have : i2 ≠ b := fun e => hok (e ▸ q2)
    rw [St.set_ne _ _ this]; exact q1
  · have n1 : i ≠ ia := fun e => hi (e ▸ hiab)
    rw [St.set_ne _ _ hib, St.set_ne _ _ n1, St.set_ne _ _ hib]
end Go.Almanac

/- strings.Builder: a walk that owns one. -/
namespace Go.Almanac
open Go.RowKit Go.Proofs Go.Abs

set_option linter.unusedSimpArgs false
set_option linter.unusedVariables false
set_option linter.unusedSectionVars false
set_option maxRecDepth 10000
set_option maxHeartbeats 1000000

/-- A walk that began with st0 owns the builder b, which holds bs; all else of st0 is as it was. -/
structure BW (st0 : St) (b : Nat) (st : St) (bs : List UInt8) : Prop where
  bld : Bld st b bs (fun i => st0 i = none ∧ i ≠ b)
  keep : ∀ i, st0 i ≠ none → i ≠ b → st i = st0 i

theorem BW.fresh {st0 : St} {b : Nat} {st : St} {bs : List UInt8} (h : BW st0 b st bs) : ∀ id, st id = none → st0 id = none ∧ id ≠ b := by
  intro id hid
  have hb : id ≠ b := fun e => by
    obtain ⟨⟨ad, v, hst, _⟩⟩ := h.bld
    subst e; rw [hst] at hid; cases hid
  refine ⟨?_, hb⟩
  cases hx : st0 id with
  | none => rfl
  | some B => have := h.keep id (by simp [hx]) hb; rw [hid, hx] at this; cases this

theorem BW.new {st0 : St} {b : Nat} (h : st0 b = some (.cells 112 0 2 [[.nilp, .nils]])) : BW st0 b st0 [] :=
  ⟨⟨_, _, h, .inl rfl, .inl ⟨rfl, rfl⟩, fun _ => rfl⟩, fun _ _ _ => rfl⟩

theorem BW.set {st0 : St} {b : Nat} {st : St} {bs : List UInt8} (h : BW st0 b st bs) {id : Nat} (hid : st id = none) (B : Blk) : BW st0 b (st.set id B) bs := by
  have hf := h.fresh id hid
  obtain ⟨⟨ad, v, hst, had, hown, hn⟩⟩ := h.bld
  refine ⟨⟨ad, v, by rw [St.set_ne _ _ (Ne.symm hf.2), hst], had, ?_, hn⟩, fun i hi hb => ?_⟩
  · rcases hown with q | ⟨ia, g, e1, e2, e3⟩
    · exact .inl q
    · refine .inr ⟨ia, g, e1, ?_, e3⟩
      have : ia ≠ id := fun e => by subst e; rw [e2] at hid; cases hid
      rw [St.set_ne _ _ this, e2]
  · have : i ≠ id := fun e => hi (e ▸ hf.1)
    rw [St.set_ne _ _ this]; exact h.keep i hi hb

theorem w_WriteByte (G : Nat → AV) {st0 : St} {b : Nat} {bs : List UInt8} (c : UInt8) {st : St} (h : BW st0 b st bs) (hlim : bs.length + 1 ≤ 140737488355328) :
    ACalls (Ev G) 84 [.ptr b 0 0 0, .int .u8 c.toNat] st (fun e st' => e = .ret .nili ∧ BW st0 b st' (bs ++ [c])) :=
  ACalls.mono (b_WriteByte G b bs c _ st h.bld (fun q => q.2 rfl) h.fresh hlim) fun e st' ⟨h1, h2, h3⟩ =>
    ⟨h1, h2, fun i hi hb => by rw [h3 i (fun q => hi q.1) hb]; exact h.keep i hi hb⟩

theorem w_Write (G : Nat → AV) {st0 : St} {b : Nat} {bs : List UInt8} (xs : List UInt8) (ix gx : Nat) {st : St} (h : BW st0 b st bs) (hlim : bs.length + xs.length ≤ 140737488355328) (hx : st ix = some (.cells 5 gx 1 (bytesE xs))) (hxb : ix ≠ b) (hx0 : xs ≠ []) :
    ACalls (Ev G) 308 [.ptr b 0 0 0, .arr ix gx 1 0 xs.length] st (fun e st' => e = .ret (.tup [.int .i64 xs.length, .nili]) ∧ BW st0 b st' (bs ++ xs)) :=
  ACalls.mono (b_Write G b bs xs ix gx _ st h.bld (fun q => q.2 rfl) h.fresh hlim hx hxb hx0) fun e st' ⟨h1, h2, h3⟩ =>
    ⟨h1, h2, fun i hi hb => by rw [h3 i (fun q => hi q.1) hb]; exact h.keep i hi hb⟩

theorem w_String (G : Nat → AV) {st0 : St} {b : Nat} {bs : List UInt8} {st : St} (h : BW st0 b st bs) :
    ACalls (Ev G) 82 [.ptr b 0 0 0] st (fun e st' => e = .ret (.str bs) ∧ ∀ i, st0 i ≠ none → i ≠ b → st' i = st0 i) :=
  ACalls.mono (b_StringAny G b bs _ st h.bld) fun e st' ⟨h1, h2⟩ =>
    ⟨h1, fun i hi hb => by rw [h2 i (fun q => hi q.1)]; exact h.keep i hi hb⟩

/-- At the end: what was there ahead of the builder is there. -/
theorem sub_keep {st st0 st' : St} {b : Nat} (hs : st.sub st0) (hb : st b = none) (h : ∀ i, st0 i ≠ none → i ≠ b → st' i = st0 i) : st.sub st' := by
  intro i B hi
  have n : i ≠ b := fun e => by subst e; rw [hb] at hi; cases hi
  have h0 := hs i B hi
  rw [h i (by simp [h0]) n, h0]
end Go.Almanac

/- strings.Builder: WriteString. -/
namespace Go.Almanac
open Go.RowKit Go.Proofs Go.Abs

set_option linter.unusedSimpArgs false
set_option linter.unusedVariables false
set_option linter.unusedSectionVars false
set_option maxRecDepth 10000
set_option maxHeartbeats 1000000

/-- WriteString: a text more. -/
theorem b_WriteString (G : Nat → AV) (b : Nat) (bs : List UInt8) (xs : List UInt8) (ok : Nat → Prop) (st : St) (hB : Bld st b bs ok) (hok : ¬ ok b) (hfr : ∀ id, st id = none → ok id) (hlim : bs.length + xs.length ≤ 140737488355328) (hx0 : xs ≠ []) :
    ACalls (Ev G) 81 [.ptr b 0 0 0, .str xs] st (fun e st' => e = .ret (.tup [.int .i64 xs.length, .nili]) ∧ Bld st' b (bs ++ xs) ok ∧ ∀ i, ¬ ok i → i ≠ b → st' i = st i) := by
  obtain ⟨ad, v, hst, had, hown, _⟩ := hB
  refine ACalls.of_body Tryz.func81 rfl ?_
  rw [Tryz.ntmps81]
  simp only [List.length_cons, List.length_nil, Nat.reduceAdd, Nat.reduceSub, List.replicate_succ, List.replicate_zero, List.cons_append, List.nil_append]
  (repeat' (first | refine AW.seq ?_ | refine AW.scope ?_ | refine AW.label ?_ | refine AW.block ?_ | refine AW.skip ?_ | refine AW.exit ?_ | refine AW.ret ?_ | (refine AW.regionC fun Q' Kn hQ hK hK' => ?_; (repeat simp (disch := omega) only [go_sem, Nat.reduceAdd, w_i64, w_u64, w_u8, w_u32, w_i32]); (repeat' refine And.intro ?_ ?_); (try any_goals (first | (refine hK _ _ ?_; clear hK' hQ hK Q' Kn) | (simp; done) | omega | (simp only [List.length_append, List.length_cons, List.length_nil]; omega) | (simp; omega)))) | (refine AW.cond (by simp (disch := omega) only [go_sem, Nat.reduceAdd, w_i64, w_u64, w_u8, w_u32, w_i32]; rfl) (fun hb => ?_) (fun hb => ?_) <;> (try simp only [Bool.or_eq_true, Bool.and_eq_true, Bool.or_eq_false_iff, Bool.and_eq_false_iff, decide_eq_true_eq, decide_eq_false_iff_not, beq_iff_eq, bne_iff_ne, Bool.not_eq_true', beq_eq_false_iff_ne, bne_eq_false_iff_eq, ne_eq, Bool.not_eq_false', Bool.true_eq_false, Bool.false_eq_true, Bool.false_or, Bool.true_or, Bool.false_and, Bool.true_and, false_or, or_false, true_and, and_true] at hb))))
  refine AOp.call rfl (by simp only [go_sem]; rfl) (by simp [go_sem]) rfl (ACalls.mono (by simp only [go_sem]; exact b_copyCheck G b ad v st hst had) ?_)
  rintro e st' ⟨rfl, rfl⟩
  (refine AOpsC_ok hK' _ _ _ ?_; (repeat simp (disch := omega) only [go_sem, Nat.reduceAdd, w_i64, w_u64, w_u8, w_u32, w_i32]); (repeat' refine And.intro ?_ ?_); (try any_goals (first | (refine hK _ _ ?_; clear hK' hQ hK Q' Kn) | (simp; done) | omega | (simp only [List.length_append, List.length_cons, List.length_nil]; omega) | (simp; omega))))
  (repeat' (first | refine AW.seq ?_ | refine AW.scope ?_ | refine AW.label ?_ | refine AW.block ?_ | refine AW.skip ?_ | refine AW.exit ?_ | refine AW.ret ?_ | (refine AW.regionC fun Q' Kn hQ hK hK' => ?_; (repeat simp (disch := omega) only [go_sem, Nat.reduceAdd, w_i64, w_u64, w_u8, w_u32, w_i32]); (repeat' refine And.intro ?_ ?_); (try any_goals (first | (refine hK _ _ ?_; clear hK' hQ hK Q' Kn) | (simp; done) | omega | (simp only [List.length_append, List.length_cons, List.length_nil]; omega) | (simp; omega)))) | (refine AW.cond (by simp (disch := omega) only [go_sem, Nat.reduceAdd, w_i64, w_u64, w_u8, w_u32, w_i32]; rfl) (fun hb => ?_) (fun hb => ?_) <;> (try simp only [Bool.or_eq_true, Bool.and_eq_true, Bool.or_eq_false_iff, Bool.and_eq_false_iff, decide_eq_true_eq, decide_eq_false_iff_not, beq_iff_eq, bne_iff_ne, Bool.not_eq_true', beq_eq_false_iff_ne, bne_eq_false_iff_eq, ne_eq, Bool.not_eq_false', Bool.true_eq_false, Bool.false_eq_true, Bool.false_or, Bool.true_or, Bool.false_and, Bool.true_and, false_or, or_false, true_and, and_true] at hb))))
  refine AOp.loadCell rfl (by simp only [go_sem] <;> rfl) (by simp [go_sem]) (St.set_same _ _ _) rfl (by simp) (by simp) ?_
  (refine AOpsC_ok hK' _ _ _ ?_; (repeat simp (disch := omega) only [go_sem, Nat.reduceAdd, w_i64, w_u64, w_u8, w_u32, w_i32]); (repeat' refine And.intro ?_ ?_); (try any_goals (first | (refine hK _ _ ?_; clear hK' hQ hK Q' Kn) | (simp; done) | omega | (simp only [List.length_append, List.length_cons, List.length_nil]; omega) | (simp; omega))))
  have hfr1 : ∀ id, (st.set b (.cells 112 0 2 [[.ptr b 0 0 0, v]])) id = none → id ≠ b ∧ ok id := fun id h => by
    have hne : id ≠ b := fun e => by subst e; simp at h
    rw [St.set_ne _ _ hne] at h
    exact ⟨hne, hfr id h⟩
  refine AOp.appendSO (ok := ok) (e := 5) (es := bytesE bs) (s := xs) (v := v) rfl (by rcases hown with ⟨rfl, _⟩ | ⟨_, _, rfl, _⟩ <;> simp [go_sem]) rfl rfl rfl rfl rfl rfl (by rcases hown with ⟨rfl, _⟩ | ⟨_, _, rfl, _⟩ <;> rfl) ?_ (by simp [go_sem]) hx0 ?_ ?_ ?_ ?_
  · rcases hown with h | ⟨ia, g, e1, e2, e3⟩
    · exact .inl h
    · refine .inr ⟨ia, g, e1, ?_, e3⟩
      have n1 : ia ≠ b := fun e => hok (e ▸ e3)
      rw [St.set_ne _ _ n1, e2]
  · simp only [bytesE_length]; omega
  · simp only [bytesE_length, maxLen]; omega
  · intro id hid
    exact (hfr1 id hid).2
  intro v' ia B hia hv' hown'
  have hiab : ok ia := by
    rcases hia with h | h
    · exact (hfr1 ia h).2
    · exact h
  have nb1 : b ≠ ia := fun e => hok (e ▸ hiab)
  rw [← bytesE_append] at hown'
  rcases hown' with ⟨_, h⟩ | ⟨i2, g2, rfl, q1, q2⟩
  · simp [bytesE] at h; exact absurd h.2 hx0
  (refine AOpsC_ok hK' _ _ _ ?_; (repeat simp (disch := omega) only [go_sem, Nat.reduceAdd, w_i64, w_u64, w_u8, w_u32, w_i32]); (repeat' refine And.intro ?_ ?_); (try any_goals (first | (refine hK _ _ ?_; clear hK' hQ hK Q' Kn) | (simp; done) | omega | (simp only [List.length_append, List.length_cons, List.length_nil]; omega) | (simp; omega))))
  refine AOp.store (cs := [.arr i2 g2 1 0 (bytesE (bs ++ xs)).length]) (t0 := 112) (es := [[.ptr b 0 0 0, v]]) (sz := 2) rfl (by simp only [go_sem] <;> rfl) (by simp [go_sem]) ?_ (by simp [go_sem, aCells]) rfl rfl (by simp) (by simp) ?_
  · rw [St.set_ne _ _ nb1, St.set_same]
  (refine AOpsC_ok hK' _ _ _ ?_; (repeat simp (disch := omega) only [go_sem, Nat.reduceAdd, w_i64, w_u64, w_u8, w_u32, w_i32]); (repeat' refine And.intro ?_ ?_); (try any_goals (first | (refine hK _ _ ?_; clear hK' hQ hK Q' Kn) | (simp; done) | omega | (simp only [List.length_append, List.length_cons, List.length_nil]; omega) | (simp; omega))))
  (repeat' (first | refine AW.seq ?_ | refine AW.scope ?_ | refine AW.label ?_ | refine AW.block ?_ | refine AW.skip ?_ | refine AW.exit ?_ | refine AW.ret ?_ | (refine AW.regionC fun Q' Kn hQ hK hK' => ?_; (repeat simp (disch := omega) only [go_sem, Nat.reduceAdd, w_i64, w_u64, w_u8, w_u32, w_i32]); (repeat' refine And.intro ?_ ?_); (try any_goals (first | (refine hK _ _ ?_; clear hK' hQ hK Q' Kn) | (simp; done) | omega | (simp only [List.length_append, List.length_cons, List.length_nil]; omega) | (simp; omega)))) | (refine AW.cond (by simp (disch := omega) only [go_sem, Nat.reduceAdd, w_i64, w_u64, w_u8, w_u32, w_i32]; rfl) (fun hb => ?_) (fun hb => ?_) <;> (try simp only [Bool.or_eq_true, Bool.and_eq_true, Bool.or_eq_false_iff, Bool.and_eq_false_iff, decide_eq_true_eq, decide_eq_false_iff_not, beq_iff_eq, bne_iff_ne, Bool.not_eq_true', beq_eq_false_iff_ne, bne_eq_false_iff_eq, ne_eq, Bool.not_eq_false', Bool.true_eq_false, Bool.false_eq_true, Bool.false_or, Bool.true_or, Bool.false_and, Bool.true_and, false_or, or_false, true_and, and_true] at hb))))
  (refine ⟨_, _, rfl, by simp, ?_⟩; simp only [aTup, AA.get, List.getD_cons_zero, List.getD_cons_succ, true_and])
  refine ⟨⟨.ptr b 0 0 0, .arr i2 g2 1 0 (bytesE (bs ++ xs)).length, by rw [St.set_same]; simp [splice], .inr rfl, .inr ⟨i2, g2, rfl, ?_, q2⟩, fun h => by simp at h; exact absurd h.2 hx0⟩, fun i hi hib => ?_⟩
  · have : i2 ≠ b := fun e => hok (e ▸ q2)
    rw [St.set_ne _ _ this]; exact q1
  · have n1 : i ≠ ia := fun e => hi (e ▸ hiab)
    rw [St.set_ne _ _ hib, St.set_ne _ _ n1, St.set_ne _ _ hib]
theorem w_WriteString (G : Nat → AV) {st0 : St} {b : Nat} {bs : List UInt8} (xs : List UInt8) {st : St} (h : BW st0 b st bs) (hlim : bs.length + xs.length ≤ 140737488355328) (hx0 : xs ≠ []) :
    ACalls (Ev G) 81 [.ptr b 0 0 0, .str xs] st (fun e st' => e = .ret (.tup [.int .i64 xs.length, .nili]) ∧ BW st0 b st' (bs ++ xs)) :=
  ACalls.mono (b_WriteString G b bs xs _ st h.bld (fun q => q.2 rfl) (fun id hid => h.fresh id hid) hlim hx0) fun x st' hq => ⟨hq.1, hq.2.1, fun i hi hb => by
    rw [hq.2.2 i (fun q => hi q.1) hb]; exact h.keep i hi hb⟩
end Go.Almanac

/- strings.Builder: WriteString at any text. -/
namespace Go.Almanac
open Go.RowKit Go.Proofs Go.Abs

set_option linter.unusedSimpArgs false
set_option linter.unusedVariables false
set_option linter.unusedSectionVars false
set_option maxRecDepth 10000
set_option maxHeartbeats 1000000

theorem b_WriteString0 (G : Nat → AV) (b : Nat) (bs : List UInt8) (ok : Nat → Prop) (st : St) (hB : Bld st b bs ok) (hok : ¬ ok b) (hfr : ∀ id, st id = none → ok id) (hlim : bs.length ≤ 140737488355328) :
    ACalls (Ev G) 81 [.ptr b 0 0 0, .str []] st (fun e st' => e = .ret (.tup [.int .i64 (([] : List UInt8).length : Nat), .nili]) ∧ Bld st' b bs ok ∧ ∀ i, ¬ ok i → i ≠ b → st' i = st i) := by
  obtain ⟨ad, v, hst, had, hown, hn⟩ := hB
  refine ACalls.of_body Tryz.func81 rfl ?_
  rw [Tryz.ntmps81]
  simp only [List.length_cons, List.length_nil, Nat.reduceAdd, Nat.reduceSub, List.replicate_succ, List.replicate_zero, List.cons_append, List.nil_append]
  (repeat' (first | refine AW.seq ?_ | refine AW.scope ?_ | refine AW.label ?_ | refine AW.block ?_ | refine AW.skip ?_ | refine AW.exit ?_ | refine AW.ret ?_ | (refine AW.regionC fun Q' Kn hQ hK hK' => ?_; (repeat simp (disch := omega) only [go_sem, Nat.reduceAdd, w_i64, w_u64, w_u8, w_u32, w_i32]); (repeat' refine And.intro ?_ ?_); (try any_goals (first | (refine hK _ _ ?_; clear hK' hQ hK Q' Kn) | (simp; done) | omega | (simp only [List.length_append, List.length_cons, List.length_nil]; omega) | (simp; omega)))) | (refine AW.cond (by simp (disch := omega) only [go_sem, Nat.reduceAdd, w_i64, w_u64, w_u8, w_u32, w_i32]; rfl) (fun hb => ?_) (fun hb => ?_) <;> (try simp only [Bool.or_eq_true, Bool.and_eq_true, Bool.or_eq_false_iff, Bool.and_eq_false_iff, decide_eq_true_eq, decide_eq_false_iff_not, beq_iff_eq, bne_iff_ne, Bool.not_eq_true', beq_eq_false_iff_ne, bne_eq_false_iff_eq, ne_eq, Bool.not_eq_false', Bool.true_eq_false, Bool.false_eq_true, Bool.false_or, Bool.true_or, Bool.false_and, Bool.true_and, false_or, or_false, true_and, and_true] at hb))))
  refine AOp.call rfl (by simp only [go_sem]; rfl) (by simp [go_sem]) rfl (ACalls.mono (by simp only [go_sem]; exact b_copyCheck G b ad v st hst had) ?_)
  rintro e st' ⟨rfl, rfl⟩
  (refine AOpsC_ok hK' _ _ _ ?_; (repeat simp (disch := omega) only [go_sem, Nat.reduceAdd, w_i64, w_u64, w_u8, w_u32, w_i32]); (repeat' refine And.intro ?_ ?_); (try any_goals (first | (refine hK _ _ ?_; clear hK' hQ hK Q' Kn) | (simp; done) | omega | (simp only [List.length_append, List.length_cons, List.length_nil]; omega) | (simp; omega))))
  (repeat' (first | refine AW.seq ?_ | refine AW.scope ?_ | refine AW.label ?_ | refine AW.block ?_ | refine AW.skip ?_ | refine AW.exit ?_ | refine AW.ret ?_ | (refine AW.regionC fun Q' Kn hQ hK hK' => ?_; (repeat simp (disch := omega) only [go_sem, Nat.reduceAdd, w_i64, w_u64, w_u8, w_u32, w_i32]); (repeat' refine And.intro ?_ ?_); (try any_goals (first | (refine hK _ _ ?_; clear hK' hQ hK Q' Kn) | (simp; done) | omega | (simp only [List.length_append, List.length_cons, List.length_nil]; omega) | (simp; omega)))) | (refine AW.cond (by simp (disch := omega) only [go_sem, Nat.reduceAdd, w_i64, w_u64, w_u8, w_u32, w_i32]; rfl) (fun hb => ?_) (fun hb => ?_) <;> (try simp only [Bool.or_eq_true, Bool.and_eq_true, Bool.or_eq_false_iff, Bool.and_eq_false_iff, decide_eq_true_eq, decide_eq_false_iff_not, beq_iff_eq, bne_iff_ne, Bool.not_eq_true', beq_eq_false_iff_ne, bne_eq_false_iff_eq, ne_eq, Bool.not_eq_false', Bool.true_eq_false, Bool.false_eq_true, Bool.false_or, Bool.true_or, Bool.false_and, Bool.true_and, false_or, or_false, true_and, and_true] at hb))))
  refine AOp.loadCell rfl (by simp only [go_sem] <;> rfl) (by simp [go_sem]) (St.set_same _ _ _) rfl (by simp) (by simp) ?_
  (refine AOpsC_ok hK' _ _ _ ?_; (repeat simp (disch := omega) only [go_sem, Nat.reduceAdd, w_i64, w_u64, w_u8, w_u32, w_i32]); (repeat' refine And.intro ?_ ?_); (try any_goals (first | (refine hK _ _ ?_; clear hK' hQ hK Q' Kn) | (simp; done) | omega | (simp only [List.length_append, List.length_cons, List.length_nil]; omega) | (simp; omega))))
  rcases hown with ⟨rfl, q⟩ | ⟨ia, g, rfl, e2, e3⟩
  · have hbs : bs = [] := by simpa [bytesE] using q
    subst hbs
    refine AOp.appendS_nil0 (e := 5) rfl (by simp [go_sem]) rfl rfl rfl rfl (by simp only [go_sem] <;> rfl) ?_
    (refine AOpsC_ok hK' _ _ _ ?_; (repeat simp (disch := omega) only [go_sem, Nat.reduceAdd, w_i64, w_u64, w_u8, w_u32, w_i32]); (repeat' refine And.intro ?_ ?_); (try any_goals (first | (refine hK _ _ ?_; clear hK' hQ hK Q' Kn) | (simp; done) | omega | (simp only [List.length_append, List.length_cons, List.length_nil]; omega) | (simp; omega))))
    refine AOp.store (cs := [.nils]) (t0 := 112) (es := [[.ptr b 0 0 0, .nils]]) (sz := 2) rfl (by simp only [go_sem] <;> rfl) (by simp [go_sem]) (St.set_same _ _ _) (by simp [go_sem, aCells]) rfl rfl (by simp) (by simp) ?_
    (refine AOpsC_ok hK' _ _ _ ?_; (repeat simp (disch := omega) only [go_sem, Nat.reduceAdd, w_i64, w_u64, w_u8, w_u32, w_i32]); (repeat' refine And.intro ?_ ?_); (try any_goals (first | (refine hK _ _ ?_; clear hK' hQ hK Q' Kn) | (simp; done) | omega | (simp only [List.length_append, List.length_cons, List.length_nil]; omega) | (simp; omega))))
    (repeat' (first | refine AW.seq ?_ | refine AW.scope ?_ | refine AW.label ?_ | refine AW.block ?_ | refine AW.skip ?_ | refine AW.exit ?_ | refine AW.ret ?_ | (refine AW.regionC fun Q' Kn hQ hK hK' => ?_; (repeat simp (disch := omega) only [go_sem, Nat.reduceAdd, w_i64, w_u64, w_u8, w_u32, w_i32]); (repeat' refine And.intro ?_ ?_); (try any_goals (first | (refine hK _ _ ?_; clear hK' hQ hK Q' Kn) | (simp; done) | omega | (simp only [List.length_append, List.length_cons, List.length_nil]; omega) | (simp; omega)))) | (refine AW.cond (by simp (disch := omega) only [go_sem, Nat.reduceAdd, w_i64, w_u64, w_u8, w_u32, w_i32]; rfl) (fun hb => ?_) (fun hb => ?_) <;> (try simp only [Bool.or_eq_true, Bool.and_eq_true, Bool.or_eq_false_iff, Bool.and_eq_false_iff, decide_eq_true_eq, decide_eq_false_iff_not, beq_iff_eq, bne_iff_ne, Bool.not_eq_true', beq_eq_false_iff_ne, bne_eq_false_iff_eq, ne_eq, Bool.not_eq_false', Bool.true_eq_false, Bool.false_eq_true, Bool.false_or, Bool.true_or, Bool.false_and, Bool.true_and, false_or, or_false, true_and, and_true] at hb))))
    (refine ⟨_, _, rfl, by simp, ?_⟩; simp only [aTup, AA.get, List.getD_cons_zero, List.getD_cons_succ, true_and])
    refine ⟨rfl, ⟨.ptr b 0 0 0, .nils, by rw [St.set_same]; simp [splice], .inr rfl, .inl ⟨rfl, by simp [bytesE]⟩, fun _ => rfl⟩, fun i hi hib => ?_⟩
    rw [St.set_ne _ _ hib, St.set_ne _ _ hib]
  · have hiab : ia ≠ b := fun e => hok (e ▸ e3)
    refine AOp.appendS (e := 5) (es := bytesE bs) (s := []) rfl (by simp [go_sem]) rfl rfl rfl rfl rfl rfl (by rw [St.set_ne _ _ hiab, e2]) rfl (by simp only [go_sem] <;> rfl) (by simp; omega) (by simp [maxLen]; omega) ?_
    (refine AOpsC_ok hK' _ _ _ ?_; (repeat simp (disch := omega) only [go_sem, Nat.reduceAdd, w_i64, w_u64, w_u8, w_u32, w_i32]); (repeat' refine And.intro ?_ ?_); (try any_goals (first | (refine hK _ _ ?_; clear hK' hQ hK Q' Kn) | (simp; done) | omega | (simp only [List.length_append, List.length_cons, List.length_nil]; omega) | (simp; omega))))
    refine AOp.store (cs := [.arr ia (g + 1) 1 0 ((bytesE bs).length + 0)]) (t0 := 112) (es := [[.ptr b 0 0 0, .arr ia g 1 0 (bytesE bs).length]]) (sz := 2) rfl (by simp only [go_sem] <;> rfl) (by simp [go_sem]) (by rw [St.set_ne _ _ (Ne.symm hiab), St.set_same]) (by simp [go_sem, aCells]) rfl rfl (by simp) (by simp) ?_
    (refine AOpsC_ok hK' _ _ _ ?_; (repeat simp (disch := omega) only [go_sem, Nat.reduceAdd, w_i64, w_u64, w_u8, w_u32, w_i32]); (repeat' refine And.intro ?_ ?_); (try any_goals (first | (refine hK _ _ ?_; clear hK' hQ hK Q' Kn) | (simp; done) | omega | (simp only [List.length_append, List.length_cons, List.length_nil]; omega) | (simp; omega))))
    (repeat' (first | refine AW.seq ?_ | refine AW.scope ?_ | refine AW.label ?_ | refine AW.block ?_ | refine AW.skip ?_ | refine AW.exit ?_ | refine AW.ret ?_ | (refine AW.regionC fun Q' Kn hQ hK hK' => ?_; (repeat simp (disch := omega) only [go_sem, Nat.reduceAdd, w_i64, w_u64, w_u8, w_u32, w_i32]); (repeat' refine And.intro ?_ ?_); (try any_goals (first | (refine hK _ _ ?_; clear hK' hQ hK Q' Kn) | (simp; done) | omega | (simp only [List.length_append, List.length_cons, List.length_nil]; omega) | (simp; omega)))) | (refine AW.cond (by simp (disch := omega) only [go_sem, Nat.reduceAdd, w_i64, w_u64, w_u8, w_u32, w_i32]; rfl) (fun hb => ?_) (fun hb => ?_) <;> (try simp only [Bool.or_eq_true, Bool.and_eq_true, Bool.or_eq_false_iff, Bool.and_eq_false_iff, decide_eq_true_eq, decide_eq_false_iff_not, beq_iff_eq, bne_iff_ne, Bool.not_eq_true', beq_eq_false_iff_ne, bne_eq_false_iff_eq, ne_eq, Bool.not_eq_false', Bool.true_eq_false, Bool.false_eq_true, Bool.false_or, Bool.true_or, Bool.false_and, Bool.true_and, false_or, or_false, true_and, and_true] at hb))))
    (refine ⟨_, _, rfl, by simp, ?_⟩; simp only [aTup, AA.get, List.getD_cons_zero, List.getD_cons_succ, true_and])
    refine ⟨rfl, ⟨.ptr b 0 0 0, .arr ia (g + 1) 1 0 (bytesE bs).length, by rw [St.set_same]; simp [splice], .inr rfl, .inr ⟨ia, g + 1, rfl, ?_, e3⟩, fun h => ?_⟩, fun i hi hib => ?_⟩
    · rw [St.set_ne _ _ hiab, St.set_same]; simp [bytesE]
    · have := hn h; cases this
    · have n1 : i ≠ ia := fun e => hi (e ▸ e3)
      rw [St.set_ne _ _ hib, St.set_ne _ _ n1, St.set_ne _ _ hib]
theorem w_WriteStringA (G : Nat → AV) {st0 : St} {b : Nat} {bs : List UInt8} (xs : List UInt8) {st : St} (h : BW st0 b st bs) (hlim : bs.length + xs.length ≤ 140737488355328) :
    ACalls (Ev G) 81 [.ptr b 0 0 0, .str xs] st (fun e st' => e = .ret (.tup [.int .i64 xs.length, .nili]) ∧ BW st0 b st' (bs ++ xs)) := by
  by_cases hx : xs = []
  · subst hx
    refine ACalls.mono (b_WriteString0 G b bs _ st h.bld (fun q => q.2 rfl) (fun id hid => h.fresh id hid) (by simpa using hlim)) fun x st' hq => ⟨hq.1, ?_, fun i hi hb => by
      rw [hq.2.2 i (fun q => hi q.1) hb]; exact h.keep i hi hb⟩
    rw [List.append_nil]; exact hq.2.1
  · exact w_WriteString G xs h hlim hx
end Go.Almanac
