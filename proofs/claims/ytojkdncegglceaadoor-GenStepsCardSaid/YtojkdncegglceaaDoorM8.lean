/- strings.Builder: WriteString at any text. -/
import Derived.Test.YtojkdncegglceaaDoorM5
import Derived.Test.YtojkdncegglceaaDoorM3
import Derived.Test.YtojkdncegglceaaDoorM4
/- strings.Builder: a builder in a block of its own, and what its methods do. -/
namespace Go.Almanac
open Go.RowKit Go.Proofs Go.Abs

set_option linter.unusedSimpArgs false
set_option linter.unusedVariables false
set_option linter.unusedSectionVars false
set_option maxRecDepth 10000
set_option maxHeartbeats 1000000

/-- A builder in block b holds the bytes bs; what holds them is a block that is ok. -/
structure Bld (st : St) (b : Nat) (bs : List UInt8) (ok : Nat → Prop) : Prop where
  ex : ∃ ad v, st b = some (.cells 66 0 2 [[ad, v]]) ∧ (ad = .nilp ∨ ad = .ptr b 0 0 0) ∧ OwnS st 5 1 v (bytesE bs) ok ∧ (bs = [] → v = .nils)

theorem b_copyCheck (G : Nat → AV) (b : Nat) (ad v : AV) (st : St) (hst : st b = some (.cells 66 0 2 [[ad, v]])) (had : ad = .nilp ∨ ad = .ptr b 0 0 0) :
    ACalls (Ev G) 54 [.ptr b 0 0 0] st (fun e st' => st' = st.set b (.cells 66 0 2 [[.ptr b 0 0 0, v]]) ∧ e = .ret (.tup [])) := by
  refine ACalls.of_body Tryd.func54 rfl ?_
  rw [Tryd.ntmps54]
  simp only [List.length_cons, List.length_nil, Nat.reduceAdd, Nat.reduceSub, List.replicate_succ, List.replicate_zero, List.cons_append, List.nil_append]
  rcases had with rfl | rfl
  · (repeat' (first | refine AW.seq ?_ | refine AW.scope ?_ | refine AW.label ?_ | refine AW.block ?_ | refine AW.skip ?_ | refine AW.exit ?_ | refine AW.ret ?_ | (refine AW.regionC fun Q' Kn hQ hK hK' => ?_; (repeat simp (disch := omega) only [go_sem, Nat.reduceAdd, w_i64, w_u64, w_u8, w_u32, w_i32]); (repeat' refine And.intro ?_ ?_); (try any_goals (first | (refine hK _ _ ?_; clear hK' hQ hK Q' Kn) | (simp; done) | omega | (simp only [List.length_append, List.length_cons, List.length_nil]; omega) | (simp; omega)))) | (refine AW.cond (by simp (disch := omega) only [go_sem, Nat.reduceAdd, w_i64, w_u64, w_u8, w_u32, w_i32]; rfl) (fun hb => ?_) (fun hb => ?_) <;> (try simp only [Bool.or_eq_true, Bool.and_eq_true, Bool.or_eq_false_iff, Bool.and_eq_false_iff, decide_eq_true_eq, decide_eq_false_iff_not, beq_iff_eq, bne_iff_ne, Bool.not_eq_true', beq_eq_false_iff_ne, bne_eq_false_iff_eq, ne_eq, Bool.not_eq_false', Bool.true_eq_false, Bool.false_eq_true, Bool.false_or, Bool.true_or, Bool.false_and, Bool.true_and, false_or, or_false, true_and, and_true] at hb))))
    refine AOp.loadCell rfl (by simp only [go_sem] <;> rfl) (by simp [go_sem]) hst rfl (by simp) (by simp) ?_
    (refine AOpsC_ok hK' _ _ _ ?_; (repeat simp (disch := omega) only [go_sem, Nat.reduceAdd, w_i64, w_u64, w_u8, w_u32, w_i32]); (repeat' refine And.intro ?_ ?_); (try any_goals (first | (refine hK _ _ ?_; clear hK' hQ hK Q' Kn) | (simp; done) | omega | (simp only [List.length_append, List.length_cons, List.length_nil]; omega) | (simp; omega))))
    (repeat' (first | refine AW.seq ?_ | refine AW.scope ?_ | refine AW.label ?_ | refine AW.block ?_ | refine AW.skip ?_ | refine AW.exit ?_ | refine AW.ret ?_ | (refine AW.regionC fun Q' Kn hQ hK hK' => ?_; (repeat simp (disch := omega) only [go_sem, Nat.reduceAdd, w_i64, w_u64, w_u8, w_u32, w_i32]); (repeat' refine And.intro ?_ ?_); (try any_goals (first | (refine hK _ _ ?_; clear hK' hQ hK Q' Kn) | (simp; done) | omega | (simp only [List.length_append, List.length_cons, List.length_nil]; omega) | (simp; omega)))) | (refine AW.cond (by simp (disch := omega) only [go_sem, Nat.reduceAdd, w_i64, w_u64, w_u8, w_u32, w_i32]; rfl) (fun hb => ?_) (fun hb => ?_) <;> (try simp only [Bool.or_eq_true, Bool.and_eq_true, Bool.or_eq_false_iff, Bool.and_eq_false_iff, decide_eq_true_eq, decide_eq_false_iff_not, beq_iff_eq, bne_iff_ne, Bool.not_eq_true', beq_eq_false_iff_ne, bne_eq_false_iff_eq, ne_eq, Bool.not_eq_false', Bool.true_eq_false, Bool.false_eq_true, Bool.false_or, Bool.true_or, Bool.false_and, Bool.true_and, false_or, or_false, true_and, and_true] at hb))))
    refine AOp.toUnsafe rfl (by simp only [go_sem] <;> rfl) (by simp [go_sem]) hst (by decide) rfl rfl rfl ?_
    (refine AOpsC_ok hK' _ _ _ ?_; (repeat simp (disch := omega) only [go_sem, Nat.reduceAdd, w_i64, w_u64, w_u8, w_u32, w_i32]); (repeat' refine And.intro ?_ ?_); (try any_goals (first | (refine hK _ _ ?_; clear hK' hQ hK Q' Kn) | (simp; done) | omega | (simp only [List.length_append, List.length_cons, List.length_nil]; omega) | (simp; omega))))
    refine AOp.same (fn := Tryd.f67) rfl (by simp only [go_sem] <;> rfl) (by simp [go_sem]) rfl (by kernel_rfl) (by kernel_rfl) (by kernel_rfl) (by kernel_rfl) ?_
    (refine AOpsC_ok hK' _ _ _ ?_; (repeat simp (disch := omega) only [go_sem, Nat.reduceAdd, w_i64, w_u64, w_u8, w_u32, w_i32]); (repeat' refine And.intro ?_ ?_); (try any_goals (first | (refine hK _ _ ?_; clear hK' hQ hK Q' Kn) | (simp; done) | omega | (simp only [List.length_append, List.length_cons, List.length_nil]; omega) | (simp; omega))))
    refine AOp.fromUnsafe (n := 2) rfl (by simp only [go_sem] <;> rfl) (by simp [go_sem]) hst (by decide) rfl rfl rfl (fun k hk => ?_) ?_
    · rw [show (Ev G).P = Tryd.prog from rfl, show Tryd.prog.cellsOf 66 = 2 from rfl, Nat.mul_div_cancel _ (by decide)]
      exact liesAt_head (by decide) hk
    (refine AOpsC_ok hK' _ _ _ ?_; (repeat simp (disch := omega) only [go_sem, Nat.reduceAdd, w_i64, w_u64, w_u8, w_u32, w_i32]); (repeat' refine And.intro ?_ ?_); (try any_goals (first | (refine hK _ _ ?_; clear hK' hQ hK Q' Kn) | (simp; done) | omega | (simp only [List.length_append, List.length_cons, List.length_nil]; omega) | (simp; omega))))
    refine AOp.store (cs := [.ptr b 0 0 0]) rfl (by simp only [go_sem] <;> rfl) (by simp [go_sem]) hst (by simp only [go_sem, aCells]) rfl rfl (by simp) (by simp) ?_
    (refine AOpsC_ok hK' _ _ _ ?_; (repeat simp (disch := omega) only [go_sem, Nat.reduceAdd, w_i64, w_u64, w_u8, w_u32, w_i32]); (repeat' refine And.intro ?_ ?_); (try any_goals (first | (refine hK _ _ ?_; clear hK' hQ hK Q' Kn) | (simp; done) | omega | (simp only [List.length_append, List.length_cons, List.length_nil]; omega) | (simp; omega))))
    (repeat' (first | refine AW.seq ?_ | refine AW.scope ?_ | refine AW.label ?_ | refine AW.block ?_ | refine AW.skip ?_ | refine AW.exit ?_ | refine AW.ret ?_ | (refine AW.regionC fun Q' Kn hQ hK hK' => ?_; (repeat simp (disch := omega) only [go_sem, Nat.reduceAdd, w_i64, w_u64, w_u8, w_u32, w_i32]); (repeat' refine And.intro ?_ ?_); (try any_goals (first | (refine hK _ _ ?_; clear hK' hQ hK Q' Kn) | (simp; done) | omega | (simp only [List.length_append, List.length_cons, List.length_nil]; omega) | (simp; omega)))) | (refine AW.cond (by simp (disch := omega) only [go_sem, Nat.reduceAdd, w_i64, w_u64, w_u8, w_u32, w_i32]; rfl) (fun hb => ?_) (fun hb => ?_) <;> (try simp only [Bool.or_eq_true, Bool.and_eq_true, Bool.or_eq_false_iff, Bool.and_eq_false_iff, decide_eq_true_eq, decide_eq_false_iff_not, beq_iff_eq, bne_iff_ne, Bool.not_eq_true', beq_eq_false_iff_ne, bne_eq_false_iff_eq, ne_eq, Bool.not_eq_false', Bool.true_eq_false, Bool.false_eq_true, Bool.false_or, Bool.true_or, Bool.false_and, Bool.true_and, false_or, or_false, true_and, and_true] at hb))))
    (refine ⟨_, _, rfl, by simp, ?_⟩; simp only [aTup, AA.get, List.getD_cons_zero, List.getD_cons_succ, true_and])
    simp [splice]
  · (repeat' (first | refine AW.seq ?_ | refine AW.scope ?_ | refine AW.label ?_ | refine AW.block ?_ | refine AW.skip ?_ | refine AW.exit ?_ | refine AW.ret ?_ | (refine AW.regionC fun Q' Kn hQ hK hK' => ?_; (repeat simp (disch := omega) only [go_sem, Nat.reduceAdd, w_i64, w_u64, w_u8, w_u32, w_i32]); (repeat' refine And.intro ?_ ?_); (try any_goals (first | (refine hK _ _ ?_; clear hK' hQ hK Q' Kn) | (simp; done) | omega | (simp only [List.length_append, List.length_cons, List.length_nil]; omega) | (simp; omega)))) | (refine AW.cond (by simp (disch := omega) only [go_sem, Nat.reduceAdd, w_i64, w_u64, w_u8, w_u32, w_i32]; rfl) (fun hb => ?_) (fun hb => ?_) <;> (try simp only [Bool.or_eq_true, Bool.and_eq_true, Bool.or_eq_false_iff, Bool.and_eq_false_iff, decide_eq_true_eq, decide_eq_false_iff_not, beq_iff_eq, bne_iff_ne, Bool.not_eq_true', beq_eq_false_iff_ne, bne_eq_false_iff_eq, ne_eq, Bool.not_eq_false', Bool.true_eq_false, Bool.false_eq_true, Bool.false_or, Bool.true_or, Bool.false_and, Bool.true_and, false_or, or_false, true_and, and_true] at hb))))
    refine AOp.loadCell rfl (by simp only [go_sem] <;> rfl) (by simp [go_sem]) hst rfl (by simp) (by simp) ?_
    (refine AOpsC_ok hK' _ _ _ ?_; (repeat simp (disch := omega) only [go_sem, Nat.reduceAdd, w_i64, w_u64, w_u8, w_u32, w_i32]); (repeat' refine And.intro ?_ ?_); (try any_goals (first | (refine hK _ _ ?_; clear hK' hQ hK Q' Kn) | (simp; done) | omega | (simp only [List.length_append, List.length_cons, List.length_nil]; omega) | (simp; omega))))
    (repeat' (first | refine AW.seq ?_ | refine AW.scope ?_ | refine AW.label ?_ | refine AW.block ?_ | refine AW.skip ?_ | refine AW.exit ?_ | refine AW.ret ?_ | (refine AW.regionC fun Q' Kn hQ hK hK' => ?_; (repeat simp (disch := omega) only [go_sem, Nat.reduceAdd, w_i64, w_u64, w_u8, w_u32, w_i32]); (repeat' refine And.intro ?_ ?_); (try any_goals (first | (refine hK _ _ ?_; clear hK' hQ hK Q' Kn) | (simp; done) | omega | (simp only [List.length_append, List.length_cons, List.length_nil]; omega) | (simp; omega)))) | (refine AW.cond (by simp (disch := omega) only [go_sem, Nat.reduceAdd, w_i64, w_u64, w_u8, w_u32, w_i32]; rfl) (fun hb => ?_) (fun hb => ?_) <;> (try simp only [Bool.or_eq_true, Bool.and_eq_true, Bool.or_eq_false_iff, Bool.and_eq_false_iff, decide_eq_true_eq, decide_eq_false_iff_not, beq_iff_eq, bne_iff_ne, Bool.not_eq_true', beq_eq_false_iff_ne, bne_eq_false_iff_eq, ne_eq, Bool.not_eq_false', Bool.true_eq_false, Bool.false_eq_true, Bool.false_or, Bool.true_or, Bool.false_and, Bool.true_and, false_or, or_false, true_and, and_true] at hb))))
    refine AOp.loadCell rfl (by simp only [go_sem] <;> rfl) (by simp [go_sem]) hst rfl (by simp) (by simp) ?_
    (refine AOpsC_ok hK' _ _ _ ?_; (repeat simp (disch := omega) only [go_sem, Nat.reduceAdd, w_i64, w_u64, w_u8, w_u32, w_i32]); (repeat' refine And.intro ?_ ?_); (try any_goals (first | (refine hK _ _ ?_; clear hK' hQ hK Q' Kn) | (simp; done) | omega | (simp only [List.length_append, List.length_cons, List.length_nil]; omega) | (simp; omega))))
    refine AOp.ptrNe (n := 2) rfl (by simp [go_sem]) (by simp only [go_sem] <;> rfl) (by simp only [go_sem] <;> rfl) hst rfl rfl ?_
    (refine AOpsC_ok hK' _ _ _ ?_; (repeat simp (disch := omega) only [go_sem, Nat.reduceAdd, w_i64, w_u64, w_u8, w_u32, w_i32]); (repeat' refine And.intro ?_ ?_); (try any_goals (first | (refine hK _ _ ?_; clear hK' hQ hK Q' Kn) | (simp; done) | omega | (simp only [List.length_append, List.length_cons, List.length_nil]; omega) | (simp; omega))))
    (repeat' (first | refine AW.seq ?_ | refine AW.scope ?_ | refine AW.label ?_ | refine AW.block ?_ | refine AW.skip ?_ | refine AW.exit ?_ | refine AW.ret ?_ | (refine AW.regionC fun Q' Kn hQ hK hK' => ?_; (repeat simp (disch := omega) only [go_sem, Nat.reduceAdd, w_i64, w_u64, w_u8, w_u32, w_i32]); (repeat' refine And.intro ?_ ?_); (try any_goals (first | (refine hK _ _ ?_; clear hK' hQ hK Q' Kn) | (simp; done) | omega | (simp only [List.length_append, List.length_cons, List.length_nil]; omega) | (simp; omega)))) | (refine AW.cond (by simp (disch := omega) only [go_sem, Nat.reduceAdd, w_i64, w_u64, w_u8, w_u32, w_i32]; rfl) (fun hb => ?_) (fun hb => ?_) <;> (try simp only [Bool.or_eq_true, Bool.and_eq_true, Bool.or_eq_false_iff, Bool.and_eq_false_iff, decide_eq_true_eq, decide_eq_false_iff_not, beq_iff_eq, bne_iff_ne, Bool.not_eq_true', beq_eq_false_iff_ne, bne_eq_false_iff_eq, ne_eq, Bool.not_eq_false', Bool.true_eq_false, Bool.false_eq_true, Bool.false_or, Bool.true_or, Bool.false_and, Bool.true_and, false_or, or_false, true_and, and_true] at hb))))
    (refine ⟨_, _, rfl, by simp, ?_⟩; simp only [aTup, AA.get, List.getD_cons_zero, List.getD_cons_succ, true_and])
    exact ⟨(St.set_self _ hst).symm, trivial⟩

/-- What a writing method leaves: the builder holds more; all else that is not its own stays. -/
theorem b_WriteByte (G : Nat → AV) (b : Nat) (bs : List UInt8) (c : UInt8) (ok : Nat → Prop) (st : St) (hB : Bld st b bs ok) (hok : ¬ ok b) (hfr : ∀ id, st id = none → ok id) (hlim : bs.length + 1 ≤ 140737488355328) :
    ACalls (Ev G) 44 [.ptr b 0 0 0, .int .u8 c.toNat] st (fun e st' => e = .ret .nili ∧ Bld st' b (bs ++ [c]) ok ∧ ∀ i, ¬ ok i → i ≠ b → st' i = st i) := by
  obtain ⟨ad, v, hst, had, hown, _⟩ := hB
  refine ACalls.of_body Tryd.func44 rfl ?_
  rw [Tryd.ntmps44]
  simp only [List.length_cons, List.length_nil, Nat.reduceAdd, Nat.reduceSub, List.replicate_succ, List.replicate_zero, List.cons_append, List.nil_append]
  (repeat' (first | refine AW.seq ?_ | refine AW.scope ?_ | refine AW.label ?_ | refine AW.block ?_ | refine AW.skip ?_ | refine AW.exit ?_ | refine AW.ret ?_ | (refine AW.regionC fun Q' Kn hQ hK hK' => ?_; (repeat simp (disch := omega) only [go_sem, Nat.reduceAdd, w_i64, w_u64, w_u8, w_u32, w_i32]); (repeat' refine And.intro ?_ ?_); (try any_goals (first | (refine hK _ _ ?_; clear hK' hQ hK Q' Kn) | (simp; done) | omega | (simp only [List.length_append, List.length_cons, List.length_nil]; omega) | (simp; omega)))) | (refine AW.cond (by simp (disch := omega) only [go_sem, Nat.reduceAdd, w_i64, w_u64, w_u8, w_u32, w_i32]; rfl) (fun hb => ?_) (fun hb => ?_) <;> (try simp only [Bool.or_eq_true, Bool.and_eq_true, Bool.or_eq_false_iff, Bool.and_eq_false_iff, decide_eq_true_eq, decide_eq_false_iff_not, beq_iff_eq, bne_iff_ne, Bool.not_eq_true', beq_eq_false_iff_ne, bne_eq_false_iff_eq, ne_eq, Bool.not_eq_false', Bool.true_eq_false, Bool.false_eq_true, Bool.false_or, Bool.true_or, Bool.false_and, Bool.true_and, false_or, or_false, true_and, and_true] at hb))))
  refine AOp.call rfl (by simp only [go_sem]; rfl) (by simp [go_sem]) rfl (ACalls.mono (by simp only [go_sem]; exact b_copyCheck G b ad v st hst had) ?_)
  rintro e st' ⟨rfl, rfl⟩
  (refine AOpsC_ok hK' _ _ _ ?_; (repeat simp (disch := omega) only [go_sem, Nat.reduceAdd, w_i64, w_u64, w_u8, w_u32, w_i32]); (repeat' refine And.intro ?_ ?_); (try any_goals (first | (refine hK _ _ ?_; clear hK' hQ hK Q' Kn) | (simp; done) | omega | (simp only [List.length_append, List.length_cons, List.length_nil]; omega) | (simp; omega))))
  (repeat' (first | refine AW.seq ?_ | refine AW.scope ?_ | refine AW.label ?_ | refine AW.block ?_ | refine AW.skip ?_ | refine AW.exit ?_ | refine AW.ret ?_ | (refine AW.regionC fun Q' Kn hQ hK hK' => ?_; (repeat simp (disch := omega) only [go_sem, Nat.reduceAdd, w_i64, w_u64, w_u8, w_u32, w_i32]); (repeat' refine And.intro ?_ ?_); (try any_goals (first | (refine hK _ _ ?_; clear hK' hQ hK Q' Kn) | (simp; done) | omega | (simp only [List.length_append, List.length_cons, List.length_nil]; omega) | (simp; omega)))) | (refine AW.cond (by simp (disch := omega) only [go_sem, Nat.reduceAdd, w_i64, w_u64, w_u8, w_u32, w_i32]; rfl) (fun hb => ?_) (fun hb => ?_) <;> (try simp only [Bool.or_eq_true, Bool.and_eq_true, Bool.or_eq_false_iff, Bool.and_eq_false_iff, decide_eq_true_eq, decide_eq_false_iff_not, beq_iff_eq, bne_iff_ne, Bool.not_eq_true', beq_eq_false_iff_ne, bne_eq_false_iff_eq, ne_eq, Bool.not_eq_false', Bool.true_eq_false, Bool.false_eq_true, Bool.false_or, Bool.true_or, Bool.false_and, Bool.true_and, false_or, or_false, true_and, and_true] at hb))))
  refine AOp.loadCell rfl (by simp only [go_sem] <;> rfl) (by simp [go_sem]) (St.set_same _ _ _) rfl (by simp) (by simp) ?_
  (refine AOpsC_ok hK' _ _ _ ?_; (repeat simp (disch := omega) only [go_sem, Nat.reduceAdd, w_i64, w_u64, w_u8, w_u32, w_i32]); (repeat' refine And.intro ?_ ?_); (try any_goals (first | (refine hK _ _ ?_; clear hK' hQ hK Q' Kn) | (simp; done) | omega | (simp only [List.length_append, List.length_cons, List.length_nil]; omega) | (simp; omega))))
  have hfr1 : ∀ id, (st.set b (.cells 66 0 2 [[.ptr b 0 0 0, v]])) id = none → id ≠ b ∧ ok id := fun id h => by
    have hne : id ≠ b := fun e => by subst e; simp at h
    rw [St.set_ne _ _ hne] at h
    exact ⟨hne, hfr id h⟩
  refine AOp.buildSlice (e := 5) (sz := 1) (es := bytesE [c]) rfl rfl rfl rfl (by simp [partsC, go_sem]) (by simp [aParts, go_sem, bytesE] <;> rfl) (by simp [bytesE]) rfl (by decide) (by decide) fun it hit => ?_
  (refine AOpsC_ok hK' _ _ _ ?_; (repeat simp (disch := omega) only [go_sem, Nat.reduceAdd, w_i64, w_u64, w_u8, w_u32, w_i32]); (repeat' refine And.intro ?_ ?_); (try any_goals (first | (refine hK _ _ ?_; clear hK' hQ hK Q' Kn) | (simp; done) | omega | (simp only [List.length_append, List.length_cons, List.length_nil]; omega) | (simp; omega))))
  have hitb := hfr1 it hit
  refine AOp.appendO (ok := ok) (e := 5) (sz := 1) (by_ := 1) (es := bytesE bs) (xs := bytesE [c]) (v := v) rfl (by rcases hown with ⟨rfl, _⟩ | ⟨_, _, rfl, _⟩ <;> simp [go_sem]) rfl rfl rfl rfl (by decide) (by rcases hown with ⟨rfl, _⟩ | ⟨_, _, rfl, _⟩ <;> rfl) ?_ (by simp [go_sem, aElems, St.set, bytesE]) (by simp [go_sem, aSz]) (bytesE_one _) ?_ ?_ ?_ ?_ (by simp [bytesE])
  · rcases hown with h | ⟨ia, g, e1, e2, e3⟩
    · exact .inl h
    · refine .inr ⟨ia, g, e1, ?_, e3⟩
      have n1 : ia ≠ b := fun e => hok (e ▸ e3)
      have n2 : ia ≠ it := fun e => by subst e; rw [St.set_ne _ _ n1, e2] at hit; cases hit
      rw [St.set_ne _ _ n2, St.set_ne _ _ n1, e2]
  · simp only [bytesE_length, List.length_cons, List.length_nil]; omega
  · simp only [bytesE_length, List.length_cons, List.length_nil, maxLen]; omega
  · intro id hid
    have hne : id ≠ it := fun e => by subst e; simp at hid
    rw [St.set_ne _ _ hne] at hid
    exact (hfr1 id hid).2
  intro v' ia B hia hv' hown'
  have hiab : ok ia := by
    rcases hia with h | h
    · have hne : ia ≠ it := fun e => by subst e; simp at h
      rw [St.set_ne _ _ hne] at h
      exact (hfr1 ia h).2
    · exact h
  have nb1 : b ≠ ia := fun e => hok (e ▸ hiab)
  have nb2 : b ≠ it := fun e => hitb.1 e.symm
  rw [← bytesE_append] at hown'
  rcases hown' with ⟨_, h⟩ | ⟨i2, g2, rfl, q1, q2⟩
  · simp [bytesE] at h
  (refine AOpsC_ok hK' _ _ _ ?_; (repeat simp (disch := omega) only [go_sem, Nat.reduceAdd, w_i64, w_u64, w_u8, w_u32, w_i32]); (repeat' refine And.intro ?_ ?_); (try any_goals (first | (refine hK _ _ ?_; clear hK' hQ hK Q' Kn) | (simp; done) | omega | (simp only [List.length_append, List.length_cons, List.length_nil]; omega) | (simp; omega))))
  refine AOp.store (cs := [.arr i2 g2 1 0 (bytesE (bs ++ [c])).length]) (t0 := 66) (es := [[.ptr b 0 0 0, v]]) (sz := 2) rfl (by simp only [go_sem] <;> rfl) (by simp [go_sem]) ?_ (by simp [go_sem, aCells]) rfl rfl (by simp) (by simp) ?_
  · rw [St.set_ne _ _ nb1, St.set_ne _ _ nb2, St.set_same]
  (refine AOpsC_ok hK' _ _ _ ?_; (repeat simp (disch := omega) only [go_sem, Nat.reduceAdd, w_i64, w_u64, w_u8, w_u32, w_i32]); (repeat' refine And.intro ?_ ?_); (try any_goals (first | (refine hK _ _ ?_; clear hK' hQ hK Q' Kn) | (simp; done) | omega | (simp only [List.length_append, List.length_cons, List.length_nil]; omega) | (simp; omega))))
  (repeat' (first | refine AW.seq ?_ | refine AW.scope ?_ | refine AW.label ?_ | refine AW.block ?_ | refine AW.skip ?_ | refine AW.exit ?_ | refine AW.ret ?_ | (refine AW.regionC fun Q' Kn hQ hK hK' => ?_; (repeat simp (disch := omega) only [go_sem, Nat.reduceAdd, w_i64, w_u64, w_u8, w_u32, w_i32]); (repeat' refine And.intro ?_ ?_); (try any_goals (first | (refine hK _ _ ?_; clear hK' hQ hK Q' Kn) | (simp; done) | omega | (simp only [List.length_append, List.length_cons, List.length_nil]; omega) | (simp; omega)))) | (refine AW.cond (by simp (disch := omega) only [go_sem, Nat.reduceAdd, w_i64, w_u64, w_u8, w_u32, w_i32]; rfl) (fun hb => ?_) (fun hb => ?_) <;> (try simp only [Bool.or_eq_true, Bool.and_eq_true, Bool.or_eq_false_iff, Bool.and_eq_false_iff, decide_eq_true_eq, decide_eq_false_iff_not, beq_iff_eq, bne_iff_ne, Bool.not_eq_true', beq_eq_false_iff_ne, bne_eq_false_iff_eq, ne_eq, Bool.not_eq_false', Bool.true_eq_false, Bool.false_eq_true, Bool.false_or, Bool.true_or, Bool.false_and, Bool.true_and, false_or, or_false, true_and, and_true] at hb))))
  (refine ⟨_, _, rfl, by simp, ?_⟩; simp only [aTup, AA.get, List.getD_cons_zero, List.getD_cons_succ, true_and])
  refine ⟨⟨.ptr b 0 0 0, .arr i2 g2 1 0 (bytesE (bs ++ [c])).length, by rw [St.set_same]; simp [splice], .inr rfl, .inr ⟨i2, g2, rfl, ?_, q2⟩, fun h => by simp at h⟩, fun i hi hib => ?_⟩
  · have : i2 ≠ b := fun e => hok (e ▸ q2)
    rw [St.set_ne _ _ this]; exact q1
  · have n1 : i ≠ ia := fun e => hi (e ▸ hiab)
    have n2 : i ≠ it := fun e => hi (e ▸ hitb.2)
    rw [St.set_ne _ _ hib, St.set_ne _ _ n1, St.set_ne _ _ n2, St.set_ne _ _ hib]
end Go.Almanac

/- strings.Builder: String, Len. -/
namespace Go.Almanac
open Go.RowKit Go.Proofs Go.Abs

set_option linter.unusedSimpArgs false
set_option linter.unusedVariables false
set_option linter.unusedSectionVars false
set_option maxRecDepth 10000
set_option maxHeartbeats 1000000

theorem b_Len (G : Nat → AV) (b : Nat) (bs : List UInt8) (ok : Nat → Prop) (st : St) (hB : Bld st b bs ok) :
    ACalls (Ev G) 45 [.ptr b 0 0 0] st (fun e st' => e = .ret (.int .i64 bs.length) ∧ st' = st) := by
  obtain ⟨ad, v, hst, had, hown, _⟩ := hB
  refine ACalls.of_body Tryd.func45 rfl ?_
  rw [Tryd.ntmps45]
  simp only [List.length_cons, List.length_nil, Nat.reduceAdd, Nat.reduceSub, List.replicate_succ, List.replicate_zero, List.cons_append, List.nil_append]
  (repeat' (first | refine AW.seq ?_ | refine AW.scope ?_ | refine AW.label ?_ | refine AW.block ?_ | refine AW.skip ?_ | refine AW.exit ?_ | refine AW.ret ?_ | (refine AW.regionC fun Q' Kn hQ hK hK' => ?_; (repeat simp (disch := omega) only [go_sem, Nat.reduceAdd, w_i64, w_u64, w_u8, w_u32, w_i32]); (repeat' refine And.intro ?_ ?_); (try any_goals (first | (refine hK _ _ ?_; clear hK' hQ hK Q' Kn) | (simp; done) | omega | (simp only [List.length_append, List.length_cons, List.length_nil]; omega) | (simp; omega)))) | (refine AW.cond (by simp (disch := omega) only [go_sem, Nat.reduceAdd, w_i64, w_u64, w_u8, w_u32, w_i32]; rfl) (fun hb => ?_) (fun hb => ?_) <;> (try simp only [Bool.or_eq_true, Bool.and_eq_true, Bool.or_eq_false_iff, Bool.and_eq_false_iff, decide_eq_true_eq, decide_eq_false_iff_not, beq_iff_eq, bne_iff_ne, Bool.not_eq_true', beq_eq_false_iff_ne, bne_eq_false_iff_eq, ne_eq, Bool.not_eq_false', Bool.true_eq_false, Bool.false_eq_true, Bool.false_or, Bool.true_or, Bool.false_and, Bool.true_and, false_or, or_false, true_and, and_true] at hb))))
  refine AOp.loadCell rfl (by simp only [go_sem] <;> rfl) (by simp [go_sem]) hst rfl (by simp) (by simp) ?_
  rcases hown with ⟨rfl, h⟩ | ⟨ia, g, rfl, q1, q2⟩
  · have : bs = [] := by cases bs <;> simp_all [bytesE]
    subst this
    (refine AOpsC_ok hK' _ _ _ ?_; (repeat simp (disch := omega) only [go_sem, Nat.reduceAdd, w_i64, w_u64, w_u8, w_u32, w_i32]); (repeat' refine And.intro ?_ ?_); (try any_goals (first | (refine hK _ _ ?_; clear hK' hQ hK Q' Kn) | (simp; done) | omega | (simp only [List.length_append, List.length_cons, List.length_nil]; omega) | (simp; omega))))
    (repeat' (first | refine AW.seq ?_ | refine AW.scope ?_ | refine AW.label ?_ | refine AW.block ?_ | refine AW.skip ?_ | refine AW.exit ?_ | refine AW.ret ?_ | (refine AW.regionC fun Q' Kn hQ hK hK' => ?_; (repeat simp (disch := omega) only [go_sem, Nat.reduceAdd, w_i64, w_u64, w_u8, w_u32, w_i32]); (repeat' refine And.intro ?_ ?_); (try any_goals (first | (refine hK _ _ ?_; clear hK' hQ hK Q' Kn) | (simp; done) | omega | (simp only [List.length_append, List.length_cons, List.length_nil]; omega) | (simp; omega)))) | (refine AW.cond (by simp (disch := omega) only [go_sem, Nat.reduceAdd, w_i64, w_u64, w_u8, w_u32, w_i32]; rfl) (fun hb => ?_) (fun hb => ?_) <;> (try simp only [Bool.or_eq_true, Bool.and_eq_true, Bool.or_eq_false_iff, Bool.and_eq_false_iff, decide_eq_true_eq, decide_eq_false_iff_not, beq_iff_eq, bne_iff_ne, Bool.not_eq_true', beq_eq_false_iff_ne, bne_eq_false_iff_eq, ne_eq, Bool.not_eq_false', Bool.true_eq_false, Bool.false_eq_true, Bool.false_or, Bool.true_or, Bool.false_and, Bool.true_and, false_or, or_false, true_and, and_true] at hb))))
    (refine ⟨_, _, rfl, by simp, ?_⟩; simp only [aTup, AA.get, List.getD_cons_zero, List.getD_cons_succ, true_and])
    simp
  · (refine AOpsC_ok hK' _ _ _ ?_; (repeat simp (disch := omega) only [go_sem, Nat.reduceAdd, w_i64, w_u64, w_u8, w_u32, w_i32]); (repeat' refine And.intro ?_ ?_); (try any_goals (first | (refine hK _ _ ?_; clear hK' hQ hK Q' Kn) | (simp; done) | omega | (simp only [List.length_append, List.length_cons, List.length_nil]; omega) | (simp; omega))))
    (repeat' (first | refine AW.seq ?_ | refine AW.scope ?_ | refine AW.label ?_ | refine AW.block ?_ | refine AW.skip ?_ | refine AW.exit ?_ | refine AW.ret ?_ | (refine AW.regionC fun Q' Kn hQ hK hK' => ?_; (repeat simp (disch := omega) only [go_sem, Nat.reduceAdd, w_i64, w_u64, w_u8, w_u32, w_i32]); (repeat' refine And.intro ?_ ?_); (try any_goals (first | (refine hK _ _ ?_; clear hK' hQ hK Q' Kn) | (simp; done) | omega | (simp only [List.length_append, List.length_cons, List.length_nil]; omega) | (simp; omega)))) | (refine AW.cond (by simp (disch := omega) only [go_sem, Nat.reduceAdd, w_i64, w_u64, w_u8, w_u32, w_i32]; rfl) (fun hb => ?_) (fun hb => ?_) <;> (try simp only [Bool.or_eq_true, Bool.and_eq_true, Bool.or_eq_false_iff, Bool.and_eq_false_iff, decide_eq_true_eq, decide_eq_false_iff_not, beq_iff_eq, bne_iff_ne, Bool.not_eq_true', beq_eq_false_iff_ne, bne_eq_false_iff_eq, ne_eq, Bool.not_eq_false', Bool.true_eq_false, Bool.false_eq_true, Bool.false_or, Bool.true_or, Bool.false_and, Bool.true_and, false_or, or_false, true_and, and_true] at hb))))
    (refine ⟨_, _, rfl, by simp, ?_⟩; simp only [aTup, AA.get, List.getD_cons_zero, List.getD_cons_succ, true_and])
    simp

theorem b_String (G : Nat → AV) (b : Nat) (bs : List UInt8) (h0 : bs ≠ []) (ok : Nat → Prop) (st : St) (hB : Bld st b bs ok) :
    ACalls (Ev G) 37 [.ptr b 0 0 0] st (fun e st' => e = .ret (.str bs) ∧ ∀ i, ¬ ok i → st' i = st i) := by
  obtain ⟨ad, v, hst, had, hown, _⟩ := hB
  refine ACalls.of_body Tryd.func37 rfl ?_
  rw [Tryd.ntmps37]
  simp only [List.length_cons, List.length_nil, Nat.reduceAdd, Nat.reduceSub, List.replicate_succ, List.replicate_zero, List.cons_append, List.nil_append]
  rcases hown with ⟨rfl, h⟩ | ⟨ia, g, rfl, q1, q2⟩
  · exfalso; apply h0; cases bs <;> simp_all [bytesE]
  (repeat' (first | refine AW.seq ?_ | refine AW.scope ?_ | refine AW.label ?_ | refine AW.block ?_ | refine AW.skip ?_ | refine AW.exit ?_ | refine AW.ret ?_ | (refine AW.regionC fun Q' Kn hQ hK hK' => ?_; (repeat simp (disch := omega) only [go_sem, Nat.reduceAdd, w_i64, w_u64, w_u8, w_u32, w_i32]); (repeat' refine And.intro ?_ ?_); (try any_goals (first | (refine hK _ _ ?_; clear hK' hQ hK Q' Kn) | (simp; done) | omega | (simp only [List.length_append, List.length_cons, List.length_nil]; omega) | (simp; omega)))) | (refine AW.cond (by simp (disch := omega) only [go_sem, Nat.reduceAdd, w_i64, w_u64, w_u8, w_u32, w_i32]; rfl) (fun hb => ?_) (fun hb => ?_) <;> (try simp only [Bool.or_eq_true, Bool.and_eq_true, Bool.or_eq_false_iff, Bool.and_eq_false_iff, decide_eq_true_eq, decide_eq_false_iff_not, beq_iff_eq, bne_iff_ne, Bool.not_eq_true', beq_eq_false_iff_ne, bne_eq_false_iff_eq, ne_eq, Bool.not_eq_false', Bool.true_eq_false, Bool.false_eq_true, Bool.false_or, Bool.true_or, Bool.false_and, Bool.true_and, false_or, or_false, true_and, and_true] at hb))))
  refine AW.drawnB 8 (List.range 12) (by decide +kernel) fun Q' Kn hQ hK hK' => ?_
  refine FxBC_ok _ _ _ ?_
  simp (disch := omega) only [go_sem, Nat.reduceAdd, w_i64, w_u64, w_u8, w_u32, w_i32]
  have hpos : 0 < bs.length := by cases bs <;> simp_all
  refine FxB.fixed (Fixed.loadCell rfl rfl rfl (by simp only [go_sem] <;> rfl) (by simp [go_sem]) hst rfl (by simp) (by simp)) ?_
  refine FxBC_ok _ _ _ ?_
  simp (disch := omega) only [go_sem, Nat.reduceAdd, w_i64, w_u64, w_u8, w_u32, w_i32]
  refine FxB.fixed (Fixed.sliceData rfl rfl rfl (by simp only [go_sem] <;> rfl) (by simp [go_sem]) (by simpa using hpos)) ?_
  refine FxBC_ok _ _ _ ?_
  simp (disch := omega) only [go_sem, Nat.reduceAdd, w_i64, w_u64, w_u8, w_u32, w_i32]
  refine FxB.fixed (Fixed.loadCell rfl rfl rfl (by simp only [go_sem] <;> rfl) (by simp [go_sem]) hst rfl (by simp) (by simp)) ?_
  refine FxBC_ok _ _ _ ?_
  simp (disch := omega) only [go_sem, Nat.reduceAdd, w_i64, w_u64, w_u8, w_u32, w_i32]
  repeat' refine And.intro ?_ ?_
  all_goals (try (first | (simp; done) | omega))
  refine FxB.barrier (by decide +kernel) rfl rfl (AOp.unsafeStr (s := bs) (e := 5) rfl (by simp [go_sem]) (by simp only [go_sem] <;> rfl) (by simp [go_sem]) q1 h0 rfl rfl ?_)
  refine FxBC_ok _ _ _ ?_
  simp (disch := omega) only [go_sem, Nat.reduceAdd, w_i64, w_u64, w_u8, w_u32, w_i32]
  repeat' refine And.intro ?_ ?_
  all_goals (try (first | (simp; done) | omega))
  refine hK _ _ ?_
  clear hK' hQ hK Q' Kn
  (repeat' (first | refine AW.seq ?_ | refine AW.scope ?_ | refine AW.label ?_ | refine AW.block ?_ | refine AW.skip ?_ | refine AW.exit ?_ | refine AW.ret ?_ | (refine AW.regionC fun Q' Kn hQ hK hK' => ?_; (repeat simp (disch := omega) only [go_sem, Nat.reduceAdd, w_i64, w_u64, w_u8, w_u32, w_i32]); (repeat' refine And.intro ?_ ?_); (try any_goals (first | (refine hK _ _ ?_; clear hK' hQ hK Q' Kn) | (simp; done) | omega | (simp only [List.length_append, List.length_cons, List.length_nil]; omega) | (simp; omega)))) | (refine AW.cond (by simp (disch := omega) only [go_sem, Nat.reduceAdd, w_i64, w_u64, w_u8, w_u32, w_i32]; rfl) (fun hb => ?_) (fun hb => ?_) <;> (try simp only [Bool.or_eq_true, Bool.and_eq_true, Bool.or_eq_false_iff, Bool.and_eq_false_iff, decide_eq_true_eq, decide_eq_false_iff_not, beq_iff_eq, bne_iff_ne, Bool.not_eq_true', beq_eq_false_iff_ne, bne_eq_false_iff_eq, ne_eq, Bool.not_eq_false', Bool.true_eq_false, Bool.false_eq_true, Bool.false_or, Bool.true_or, Bool.false_and, Bool.true_and, false_or, or_false, true_and, and_true] at hb))))
  (refine ⟨_, _, rfl, by simp, ?_⟩; simp only [aTup, AA.get, List.getD_cons_zero, List.getD_cons_succ, true_and])
  first | exact fun i hi => St.del_ne _ (fun e => hi (e ▸ q2)) | exact ⟨rfl, fun i hi => St.del_ne _ (fun e => hi (e ▸ q2))⟩
end Go.Almanac

/- strings.Builder: String at every builder. -/
namespace Go.Almanac
open Go.RowKit Go.Proofs Go.Abs

set_option linter.unusedSimpArgs false
set_option linter.unusedVariables false
set_option linter.unusedSectionVars false
set_option maxRecDepth 10000
set_option maxHeartbeats 1000000

theorem b_StringAny (G : Nat → AV) (b : Nat) (bs : List UInt8) (ok : Nat → Prop) (st : St) (hB : Bld st b bs ok) :
    ACalls (Ev G) 37 [.ptr b 0 0 0] st (fun e st' => e = .ret (.str bs) ∧ ∀ i, ¬ ok i → st' i = st i) := by
  by_cases h0 : bs = []
  · subst h0
    obtain ⟨ad, v, hst, had, hown, hn⟩ := hB
    rcases hown with ⟨rfl, _⟩ | ⟨ia, g, rfl, q1, q2⟩
    · refine ACalls.of_body Tryd.func37 rfl ?_
      rw [Tryd.ntmps37]
      simp only [List.length_cons, List.length_nil, Nat.reduceAdd, Nat.reduceSub, List.replicate_succ, List.replicate_zero, List.cons_append, List.nil_append]
      (repeat' (first | refine AW.seq ?_ | refine AW.scope ?_ | refine AW.label ?_ | refine AW.block ?_ | refine AW.skip ?_ | refine AW.exit ?_ | refine AW.ret ?_ | (refine AW.regionC fun Q' Kn hQ hK hK' => ?_; (repeat simp (disch := omega) only [go_sem, Nat.reduceAdd, w_i64, w_u64, w_u8, w_u32, w_i32]); (repeat' refine And.intro ?_ ?_); (try any_goals (first | (refine hK _ _ ?_; clear hK' hQ hK Q' Kn) | (simp; done) | omega | (simp only [List.length_append, List.length_cons, List.length_nil]; omega) | (simp; omega)))) | (refine AW.cond (by simp (disch := omega) only [go_sem, Nat.reduceAdd, w_i64, w_u64, w_u8, w_u32, w_i32]; rfl) (fun hb => ?_) (fun hb => ?_) <;> (try simp only [Bool.or_eq_true, Bool.and_eq_true, Bool.or_eq_false_iff, Bool.and_eq_false_iff, decide_eq_true_eq, decide_eq_false_iff_not, beq_iff_eq, bne_iff_ne, Bool.not_eq_true', beq_eq_false_iff_ne, bne_eq_false_iff_eq, ne_eq, Bool.not_eq_false', Bool.true_eq_false, Bool.false_eq_true, Bool.false_or, Bool.true_or, Bool.false_and, Bool.true_and, false_or, or_false, true_and, and_true] at hb))))
      refine AW.drawnB 8 (List.range 12) (by decide +kernel) fun Q' Kn hQ hK hK' => ?_
      refine FxBC_ok _ _ _ ?_
      simp (disch := omega) only [go_sem, Nat.reduceAdd, w_i64, w_u64, w_u8, w_u32, w_i32]
      refine FxB.fixed (Fixed.loadCell rfl rfl rfl (by simp only [go_sem] <;> rfl) (by simp [go_sem]) hst rfl (by simp) (by simp)) ?_
      refine FxBC_ok _ _ _ ?_
      simp (disch := omega) only [go_sem, Nat.reduceAdd, w_i64, w_u64, w_u8, w_u32, w_i32]
      refine FxB.fixed (Fixed.sliceDataNil rfl rfl rfl (by simp only [go_sem] <;> rfl) (by simp [go_sem])) ?_
      refine FxBC_ok _ _ _ ?_
      simp (disch := omega) only [go_sem, Nat.reduceAdd, w_i64, w_u64, w_u8, w_u32, w_i32]
      refine FxB.fixed (Fixed.loadCell rfl rfl rfl (by simp only [go_sem] <;> rfl) (by simp [go_sem]) hst rfl (by simp) (by simp)) ?_
      refine FxBC_ok _ _ _ ?_
      simp (disch := omega) only [go_sem, Nat.reduceAdd, w_i64, w_u64, w_u8, w_u32, w_i32]
      repeat' refine And.intro ?_ ?_
      all_goals (try (first | (simp; done) | omega))
      refine FxB.fixed (Fixed.unsafeStrNil rfl rfl rfl (by simp only [go_sem] <;> rfl) (by simp only [go_sem] <;> rfl) (by simp [go_sem])) ?_
      refine FxBC_ok _ _ _ ?_
      simp (disch := omega) only [go_sem, Nat.reduceAdd, w_i64, w_u64, w_u8, w_u32, w_i32]
      repeat' refine And.intro ?_ ?_
      all_goals (try (first | (simp; done) | omega))
      refine hK _ _ ?_
      clear hK' hQ hK Q' Kn
      (repeat' (first | refine AW.seq ?_ | refine AW.scope ?_ | refine AW.label ?_ | refine AW.block ?_ | refine AW.skip ?_ | refine AW.exit ?_ | refine AW.ret ?_ | (refine AW.regionC fun Q' Kn hQ hK hK' => ?_; (repeat simp (disch := omega) only [go_sem, Nat.reduceAdd, w_i64, w_u64, w_u8, w_u32, w_i32]); (repeat' refine And.intro ?_ ?_); (try any_goals (first | (refine hK _ _ ?_; clear hK' hQ hK Q' Kn) | (simp; done) | omega | (simp only [List.length_append, List.length_cons, List.length_nil]; omega) | (simp; omega)))) | (refine AW.cond (by simp (disch := omega) only [go_sem, Nat.reduceAdd, w_i64, w_u64, w_u8, w_u32, w_i32]; rfl) (fun hb => ?_) (fun hb => ?_) <;> (try simp only [Bool.or_eq_true, Bool.and_eq_true, Bool.or_eq_false_iff, Bool.and_eq_false_iff, decide_eq_true_eq, decide_eq_false_iff_not, beq_iff_eq, bne_iff_ne, Bool.not_eq_true', beq_eq_false_iff_ne, bne_eq_false_iff_eq, ne_eq, Bool.not_eq_false', Bool.true_eq_false, Bool.false_eq_true, Bool.false_or, Bool.true_or, Bool.false_and, Bool.true_and, false_or, or_false, true_and, and_true] at hb))))
      (refine ⟨_, _, rfl, by simp, ?_⟩; simp only [aTup, AA.get, List.getD_cons_zero, List.getD_cons_succ, true_and])
      exact fun _ _ => trivial
    · cases hn rfl
  · exact b_String G b bs h0 ok st hB
end Go.Almanac

/- strings.Builder: Write. -/
namespace Go.Almanac
open Go.RowKit Go.Proofs Go.Abs

set_option linter.unusedSimpArgs false
set_option linter.unusedVariables false
set_option linter.unusedSectionVars false
set_option maxRecDepth 10000
set_option maxHeartbeats 1000000

end Go.Almanac

/- strings.Builder: a walk that owns one. -/
namespace Go.Almanac
open Go.RowKit Go.Proofs Go.Abs

set_option linter.unusedSimpArgs false
set_option linter.unusedVariables false
set_option linter.unusedSectionVars false
set_option maxRecDepth 10000
set_option maxHeartbeats 1000000

/-- A walk that began with st0 owns the builder b, which holds bs; all else of st0 is as it was. -/
structure BW (st0 : St) (b : Nat) (st : St) (bs : List UInt8) : Prop where
  bld : Bld st b bs (fun i => st0 i = none ∧ i ≠ b)
  keep : ∀ i, st0 i ≠ none → i ≠ b → st i = st0 i

theorem BW.fresh {st0 : St} {b : Nat} {st : St} {bs : List UInt8} (h : BW st0 b st bs) : ∀ id, st id = none → st0 id = none ∧ id ≠ b := by
  intro id hid
  have hb : id ≠ b := fun e => by
    obtain ⟨⟨ad, v, hst, _⟩⟩ := h.bld
    subst e; rw [hst] at hid; cases hid
  refine ⟨?_, hb⟩
  cases hx : st0 id with
  | none => rfl
  | some B => have := h.keep id (by simp [hx]) hb; rw [hid, hx] at this; cases this

theorem BW.new {st0 : St} {b : Nat} (h : st0 b = some (.cells 66 0 2 [[.nilp, .nils]])) : BW st0 b st0 [] :=
  ⟨⟨_, _, h, .inl rfl, .inl ⟨rfl, rfl⟩, fun _ => rfl⟩, fun _ _ _ => rfl⟩

theorem BW.set {st0 : St} {b : Nat} {st : St} {bs : List UInt8} (h : BW st0 b st bs) {id : Nat} (hid : st id = none) (B : Blk) : BW st0 b (st.set id B) bs := by
  have hf := h.fresh id hid
  obtain ⟨⟨ad, v, hst, had, hown, hn⟩⟩ := h.bld
  refine ⟨⟨ad, v, by rw [St.set_ne _ _ (Ne.symm hf.2), hst], had, ?_, hn⟩, fun i hi hb => ?_⟩
  · rcases hown with q | ⟨ia, g, e1, e2, e3⟩
    · exact .inl q
    · refine .inr ⟨ia, g, e1, ?_, e3⟩
      have : ia ≠ id := fun e => by subst e; rw [e2] at hid; cases hid
      rw [St.set_ne _ _ this, e2]
  · have : i ≠ id := fun e => hi (e ▸ hf.1)
    rw [St.set_ne _ _ this]; exact h.keep i hi hb

theorem w_WriteByte (G : Nat → AV) {st0 : St} {b : Nat} {bs : List UInt8} (c : UInt8) {st : St} (h : BW st0 b st bs) (hlim : bs.length + 1 ≤ 140737488355328) :
    ACalls (Ev G) 44 [.ptr b 0 0 0, .int .u8 c.toNat] st (fun e st' => e = .ret .nili ∧ BW st0 b st' (bs ++ [c])) :=
  ACalls.mono (b_WriteByte G b bs c _ st h.bld (fun q => q.2 rfl) h.fresh hlim) fun e st' ⟨h1, h2, h3⟩ =>
    ⟨h1, h2, fun i hi hb => by rw [h3 i (fun q => hi q.1) hb]; exact h.keep i hi hb⟩

theorem w_String (G : Nat → AV) {st0 : St} {b : Nat} {bs : List UInt8} {st : St} (h : BW st0 b st bs) :
    ACalls (Ev G) 37 [.ptr b 0 0 0] st (fun e st' => e = .ret (.str bs) ∧ ∀ i, st0 i ≠ none → i ≠ b → st' i = st0 i) :=
  ACalls.mono (b_StringAny G b bs _ st h.bld) fun e st' ⟨h1, h2⟩ =>
    ⟨h1, fun i hi hb => by rw [h2 i (fun q => hi q.1)]; exact h.keep i hi hb⟩

/-- At the end: what was there ahead of the builder is there. -/
theorem sub_keep {st st0 st' : St} {b : Nat} (hs : st.sub st0) (hb : st b = none) (h : ∀ i, st0 i ≠ none → i ≠ b → st' i = st0 i) : st.sub st' := by
  intro i B hi
  have n : i ≠ b := fun e => by subst e; rw [hb] at hi; cases hi
  have h0 := hs i B hi
  rw [h i (by simp [h0]) n, h0]
end Go.Almanac

/- Texts: base 64's sextets. -/
namespace Go.Almanac
open Go.RowKit Go.Proofs Go.Abs

set_option linter.unusedSimpArgs false
set_option linter.unusedVariables false
set_option linter.unusedSectionVars false
set_option maxRecDepth 10000
set_option maxHeartbeats 1000000

/-- The sextets of n's lowest bits. -/
def inner (n bits : Nat) : List UInt8 := if h : 6 ≤ bits then UInt8.ofNat (n / 2 ^ (bits - 6) % 64) :: inner n (bits - 6) else []
termination_by bits
decreasing_by omega
/-- The sextets of bytes, behind n of so many bits. -/
def sxs : List UInt8 → Nat → Nat → List UInt8
  | [], n, bits => if 0 < bits then [UInt8.ofNat (n * 2 ^ (6 - bits) % 64)] else []
  | c :: cs, n, bits => inner (n * 256 + c.toNat) (bits + 8) ++ sxs cs ((n * 256 + c.toNat) % 2 ^ ((bits + 8) % 6)) ((bits + 8) % 6)

theorem inner_length : ∀ bits n : Nat, (inner n bits).length = bits / 6 := by
  intro bits
  induction bits using Nat.strongRecOn with
  | _ bits ih =>
    intro n
    rw [inner]
    split
    · rw [List.length_cons, ih (bits - 6) (by omega)]; omega
    · simp; omega
theorem sxs_length : ∀ (s : List UInt8) (n bits : Nat), bits < 6 → (sxs s n bits).length ≤ 2 * s.length + 1
  | [], n, bits, _ => by rw [sxs]; split <;> simp
  | c :: cs, n, bits, h => by
    have := sxs_length cs ((n * 256 + c.toNat) % 2 ^ ((bits + 8) % 6)) ((bits + 8) % 6) (by omega)
    simp only [sxs, List.length_append, inner_length, List.length_cons]; omega

def encB (x : UInt8) : List AV := [.int .u8 (x.toNat : Int)]

theorem t_sextets1 (G : Nat → AV) (s : List UInt8) (hs : s.length ≤ 35184372088832) (bx l : Nat) (own : Nat → Prop) (J : St → List UInt8 → St → Prop) (T : Taker (Ev G) l encB (fun x => x.toNat < 64) (2 * s.length + 1) own J) (β σ : St) (h0 : J β [] σ)
    (hbx : β bx = some (.cells 9 0 1 [[.str s]])) (hnx : ¬ own bx) :
    ACalls (Ev G) 57 [.yld l, .ptr bx 0 0 0] σ (fun e st' => e = .ret (.tup []) ∧ ∃ ib B, β ib = none ∧ J (β.set ib B) (sxs s 0 0) st') := by
  refine ACalls.of_body Tryd.func57 rfl ?_
  rw [Tryd.ntmps57]
  simp only [List.length_cons, List.length_nil, Nat.reduceAdd, Nat.reduceSub, List.replicate_succ, List.replicate_zero, List.cons_append, List.nil_append]
  (repeat' (first | refine AW.seq ?_ | refine AW.scope ?_ | refine AW.label ?_ | refine AW.block ?_ | refine AW.skip ?_ | refine AW.exit ?_ | refine AW.ret ?_ | (refine AW.regionC fun Q' Kn hQ hK hK' => ?_; (repeat simp (disch := omega) only [go_sem, redN, Nat.reduceAdd, Int.reduceToNat, Int.reducePow]); (repeat' refine And.intro ?_ ?_); (try any_goals (first | (refine hK _ _ ?_; clear hK' hQ hK Q' Kn) | (simp; done) | omega | (simp only [redL]; omega) | (simp; omega)))) | (refine AW.cond (by simp (disch := omega) only [go_sem, redN, Nat.reduceAdd, Int.reduceToNat, Int.reducePow]; rfl) (fun hb => ?_) (fun hb => ?_) <;> (try simp only [redB] at hb))))
  have hx1 : σ bx = some (.cells 9 0 1 [[.str s]]) := by rw [T.keep h0 bx (by simp [hbx]) hnx, hbx]
  refine AOp.loadCell rfl (by simp only [go_sem] <;> rfl) (by simp [go_sem]) hx1 rfl (by simp) (by simp) ?_
  (refine AOpsC_ok hK' _ _ _ ?_; (repeat simp (disch := omega) only [go_sem, redN, Nat.reduceAdd, Int.reduceToNat, Int.reducePow]); (repeat' refine And.intro ?_ ?_); (try any_goals (first | (refine hK _ _ ?_; clear hK' hQ hK Q' Kn) | (simp; done) | omega | (simp only [redL]; omega) | (simp; omega))))
  refine AOp.toBytes (s := s) (e := 5) (by rfl) (by simp [go_sem]) (by rfl) (by rfl) (by rfl) (by simp only [go_sem]) (by simp only [maxLen]; omega) fun ib hib => ?_
  (refine AOpsC_ok hK' _ _ _ ?_; (repeat simp (disch := omega) only [go_sem, redN, Nat.reduceAdd, Int.reduceToNat, Int.reducePow]); (repeat' refine And.intro ?_ ?_); (try any_goals (first | (refine hK _ _ ?_; clear hK' hQ hK Q' Kn) | (simp; done) | omega | (simp only [redL]; omega) | (simp; omega))))
  (repeat' (first | refine AW.seq ?_ | refine AW.scope ?_ | refine AW.label ?_ | refine AW.block ?_ | refine AW.skip ?_ | refine AW.exit ?_ | refine AW.ret ?_ | (refine AW.regionC fun Q' Kn hQ hK hK' => ?_; (repeat simp (disch := omega) only [go_sem, redN, Nat.reduceAdd, Int.reduceToNat, Int.reducePow]); (repeat' refine And.intro ?_ ?_); (try any_goals (first | (refine hK _ _ ?_; clear hK' hQ hK Q' Kn) | (simp; done) | omega | (simp only [redL]; omega) | (simp; omega)))) | (refine AW.cond (by simp (disch := omega) only [go_sem, redN, Nat.reduceAdd, Int.reduceToNat, Int.reducePow]; rfl) (fun hb => ?_) (fun hb => ?_) <;> (try simp only [redB] at hb))))
  have hf := T.fresh h0 ib hib
  have h1 := T.base h0 ib hib (.cells 5 0 1 (bytesE s))
  generalize hβ1 : β.set ib (.cells 5 0 1 (bytesE s)) = β1 at h1
  have hi1 : β1 ib = some (.cells 5 0 1 (bytesE s)) := by rw [← hβ1, St.set_same]
  generalize St.set σ ib _ = σ1 at h1 ⊢
  refine AW.loopF (fun x : Nat × Nat × Nat × List UInt8 × St => [.yld l, .junk, .junk, .int .i64 x.2.1, .int .i64 x.2.2.1, .junk, .junk, .junk, .arr ib 0 1 0 s.length, .int .i64 s.length, .int .i64 x.1, .junk, .junk, .junk, .junk, .junk, .junk, .junk, .junk, .junk, .junk, .junk, .junk, .junk, .junk, .junk, .junk, .junk, .junk, .junk, .junk, .junk, .junk, .junk, .junk, .junk, .junk, .junk, .junk, .junk, .junk, .junk, .junk, .junk, .junk, .junk, .junk, .junk, .junk]) (fun x => x.2.2.2.2)
    (fun x => x.1 ≤ s.length ∧ (x.2.2.1 = 0 ∨ x.2.2.1 = 2 ∨ x.2.2.1 = 4) ∧ x.2.1 < 16 ∧ J β1 x.2.2.2.1 x.2.2.2.2 ∧ x.2.2.2.1 ++ sxs (s.drop x.1) x.2.1 x.2.2.1 = sxs s 0 0) (fun x => s.length - x.1) (0, 0, 0, [], σ1) ?_ rfl ?_ ?_
  · (repeat (first | exact Weak.nil | refine Weak.junk _ ?_ | refine Weak.same _ ?_ | refine Weak.eqv (by (congr 1; first | omega | (simp; done) | exact w_i64 (by omega) (by omega))) ?_))
  · exact ⟨by simp, .inl rfl, by simp, h1, rfl⟩
  have hlim := sxs_length s 0 0 (by omega)
  rintro ⟨i, n, bits, d, σ2⟩ ⟨g1, g2, g3, g4, g5⟩
  dsimp only at g1 g2 g3 g4 g5 ⊢
  (repeat' (first | refine AW.seq ?_ | refine AW.scope ?_ | refine AW.label ?_ | refine AW.block ?_ | refine AW.skip ?_ | refine AW.exit ?_ | refine AW.ret ?_ | (refine AW.regionC fun Q' Kn hQ hK hK' => ?_; (repeat simp (disch := omega) only [go_sem, redN, Nat.reduceAdd, Int.reduceToNat, Int.reducePow]); (repeat' refine And.intro ?_ ?_); (try any_goals (first | (refine hK _ _ ?_; clear hK' hQ hK Q' Kn) | (simp; done) | omega | (simp only [redL]; omega) | (simp; omega)))) | (refine AW.cond (by simp (disch := omega) only [go_sem, redN, Nat.reduceAdd, Int.reduceToNat, Int.reducePow]; rfl) (fun hb => ?_) (fun hb => ?_) <;> (try simp only [redB] at hb))))
  · have hi : i < s.length := by omega
    have hσ : σ2 ib = some (.cells 5 0 1 (bytesE s)) := by rw [T.keep g4 ib (by simp [hi1]) hf.2, hi1]
    refine AOp.loadCell rfl (by simp only [go_sem] <;> rfl) (by simp [go_sem]) hσ rfl (by simp; omega) (by decide) ?_
    rw [Nat.zero_add, bytesE_getD hi]
    rw [drop_cons hi, sxs] at g5
    generalize s.getD i 0 = c at *
    have hb8 : c.toNat < 256 := UInt8.toNat_lt _
    have hor : ibits .or .i64 ((n : Int) * 256) (c.toNat : Int) = ((n * 256 + c.toNat : Nat) : Int) := by
      have := or_i64 (a := n) (b := c.toNat) 8 (by omega) (by omega) (by omega) (by omega)
      rw [show (2 : Int) ^ 8 = 256 from rfl] at this
      rw [this]; omega
    (refine AOpsC_ok hK' _ _ _ ?_; (repeat simp (disch := omega) only [go_sem, redN, Nat.reduceAdd, Int.reduceToNat, Int.reducePow]); (repeat' refine And.intro ?_ ?_); (try any_goals (first | (refine hK _ _ ?_; clear hK' hQ hK Q' Kn) | (simp; done) | omega | (simp only [redL]; omega) | (simp; omega))))
    (repeat' (first | refine AW.seq ?_ | refine AW.scope ?_ | refine AW.label ?_ | refine AW.block ?_ | refine AW.skip ?_ | refine AW.exit ?_ | refine AW.ret ?_ | (refine AW.regionC fun Q' Kn hQ hK hK' => ?_; (repeat simp (disch := omega) only [go_sem, redN, Nat.reduceAdd, Int.reduceToNat, Int.reducePow]); (repeat' refine And.intro ?_ ?_); (try any_goals (first | (refine hK _ _ ?_; clear hK' hQ hK Q' Kn) | (simp; done) | omega | (simp only [redL]; omega) | (simp; omega)))) | (refine AW.cond (by simp (disch := omega) only [go_sem, redN, Nat.reduceAdd, Int.reduceToNat, Int.reducePow]; rfl) (fun hb => ?_) (fun hb => ?_) <;> (try simp only [redB] at hb))))
    rw [hor]
    have hN : n * 256 + c.toNat < 4096 := by omega
    generalize hNd : n * 256 + c.toNat = N at *
    refine AW.loopF (fun x : Nat × List UInt8 × St => [.yld l, .junk, .junk, .int .i64 N, .int .i64 x.1, .junk, .junk, .junk, .arr ib 0 1 0 s.length, .int .i64 s.length, .int .i64 i, .junk, .junk, .junk, .junk, .junk, .junk, .junk, .junk, .junk, .junk, .junk, .junk, .junk, .junk, .junk, .junk, .junk, .junk, .junk, .junk, .junk, .junk, .junk, .junk, .junk, .junk, .junk, .junk, .junk, .junk, .junk, .junk, .junk, .junk, .junk, .junk, .junk, .junk]) (fun x => x.2.2)
      (fun x => x.1 % 6 = (bits + 8) % 6 ∧ x.1 ≤ 12 ∧ J β1 x.2.1 x.2.2 ∧ x.2.1 ++ inner N x.1 = d ++ inner N (bits + 8)) (fun x => x.1) (bits + 8, d, σ2) ?_ rfl ?_ ?_
    · (repeat (first | exact Weak.nil | refine Weak.junk _ ?_ | refine Weak.same _ ?_ | refine Weak.eqv (by (congr 1; first | omega | (simp; done) | exact w_i64 (by omega) (by omega))) ?_))
    · exact ⟨rfl, by dsimp only; omega, g4, rfl⟩
    rintro ⟨bs, d2, σ3⟩ ⟨k1, k2, k3, k4⟩
    dsimp only at k1 k2 k3 k4 ⊢
    (repeat' (first | refine AW.seq ?_ | refine AW.scope ?_ | refine AW.label ?_ | refine AW.block ?_ | refine AW.skip ?_ | refine AW.exit ?_ | refine AW.ret ?_ | (refine AW.regionC fun Q' Kn hQ hK hK' => ?_; (repeat simp (disch := omega) only [go_sem, redN, Nat.reduceAdd, Int.reduceToNat, Int.reducePow]); (repeat' refine And.intro ?_ ?_); (try any_goals (first | (refine hK _ _ ?_; clear hK' hQ hK Q' Kn) | (simp; done) | omega | (simp only [redL]; omega) | (simp; omega)))) | (refine AW.cond (by simp (disch := omega) only [go_sem, redN, Nat.reduceAdd, Int.reduceToNat, Int.reducePow]; rfl) (fun hb => ?_) (fun hb => ?_) <;> (try simp only [redB] at hb))))
    · have hq : N / 2 ^ (bs - 6) ≤ N := Nat.div_le_self _ _
      have e2 : ((bs : Int) - 6).toNat = bs - 6 := by omega
      have hin : inner N bs = UInt8.ofNat (N / 2 ^ (bs - 6) % 64) :: inner N (bs - 6) := by rw [inner, dif_pos (by omega)]
      rw [hin] at k4
      simp only [e2]
      generalize N / 2 ^ (bs - 6) = q at *
      have e3 : IntKind.u8.wrap (ibits .and .i64 (q : Int) 63) = (((UInt8.ofNat (q % 64)).toNat : Nat) : Int) := by
        rw [and_63_i64 (by omega) (by omega), w_u8 (by omega) (by omega), UInt8.toNat_ofNat']; omega
      refine AOp.yields (vs := encB (UInt8.ofNat (q % 64))) rfl (by simp only [go_sem] <;> rfl) (by simp [go_sem]) ?_ (T.take k3 (by have := congrArg List.length g5; have h4 := congrArg List.length k4; simp only [List.length_append, List.length_cons] at this h4; omega) (UInt8.ofNat (q % 64)) (by rw [UInt8.toNat_ofNat']; omega)) ?_
      · simp only [go_sem, e3, encB]
      rintro v σ' ⟨rfl, k5⟩
      (refine AOpsC_ok hK' _ _ _ ?_; (repeat simp (disch := omega) only [go_sem, redN, Nat.reduceAdd, Int.reduceToNat, Int.reducePow]); (repeat' refine And.intro ?_ ?_); (try any_goals (first | (refine hK _ _ ?_; clear hK' hQ hK Q' Kn) | (simp; done) | omega | (simp only [redL]; omega) | (simp; omega))))
      (repeat' (first | refine AW.seq ?_ | refine AW.scope ?_ | refine AW.label ?_ | refine AW.block ?_ | refine AW.skip ?_ | refine AW.exit ?_ | refine AW.ret ?_ | (refine AW.regionC fun Q' Kn hQ hK hK' => ?_; (repeat simp (disch := omega) only [go_sem, redN, Nat.reduceAdd, Int.reduceToNat, Int.reducePow]); (repeat' refine And.intro ?_ ?_); (try any_goals (first | (refine hK _ _ ?_; clear hK' hQ hK Q' Kn) | (simp; done) | omega | (simp only [redL]; omega) | (simp; omega)))) | (refine AW.cond (by simp (disch := omega) only [go_sem, redN, Nat.reduceAdd, Int.reduceToNat, Int.reducePow]; rfl) (fun hb => ?_) (fun hb => ?_) <;> (try simp only [redB] at hb))))
      refine ⟨(bs - 6, d2 ++ [UInt8.ofNat (q % 64)], σ'), ⟨by dsimp only; omega, by dsimp only; omega, k5, ?_⟩, by dsimp only; omega, ?_, rfl, rfl⟩
      · dsimp only
        rw [← k4]; simp
      · dsimp only
        (repeat (first | exact Weak.nil | refine Weak.junk _ ?_ | refine Weak.same _ ?_ | refine Weak.eqv (by (congr 1; first | omega | (simp; done) | exact w_i64 (by omega) (by omega))) ?_))
    · have hin : inner N bs = [] := by rw [inner, dif_neg (by omega)]
      rw [hin, List.append_nil] at k4
      have hbs : bs = (bits + 8) % 6 := by omega
      rw [← List.append_assoc, ← k4, ← hbs] at g5
      have hbs2 : bs = 0 ∨ bs = 2 ∨ bs = 4 := by omega
      have hms : ∀ k : Nat, k = bs → N % 2 ^ bs < 16 := fun k hk => by
        rcases hbs2 with rfl | rfl | rfl <;> omega
      have e4 : ibits .and .i64 (N : Int) (IntKind.i64.wrap (IntKind.i64.wrap (1 * 2 ^ bs) - 1)) = ((N % 2 ^ bs : Nat) : Int) := by
        rcases hbs2 with rfl | rfl | rfl
        · simp (disch := omega) only [Int.reducePow, w_i64, Int.reduceMul, Int.reduceSub]
          rw [show ((0 : Int)) = 2 ^ 0 - 1 from rfl, mask_i64 (by omega) (by omega) 0 (by omega)]; omega
        · simp (disch := omega) only [Int.reducePow, w_i64, Int.reduceMul, Int.reduceSub]
          rw [and_3_i64 (by omega) (by omega)]; omega
        · simp (disch := omega) only [Int.reducePow, w_i64, Int.reduceMul, Int.reduceSub]
          rw [and_15_i64 (by omega) (by omega)]; omega
      refine ⟨(i + 1, N % 2 ^ bs, bs, d2, σ3), ⟨by dsimp only; omega, hbs2, hms bs rfl, k3, g5⟩, by dsimp only; omega, ?_, rfl, rfl⟩
      dsimp only
      rw [e4]
      (repeat (first | exact Weak.nil | refine Weak.junk _ ?_ | refine Weak.same _ ?_ | refine Weak.eqv (by (congr 1; first | omega | (simp; done) | exact w_i64 (by omega) (by omega))) ?_))
  · have hi : i = s.length := by omega
    subst hi
    rw [List.drop_length, sxs, if_pos (by omega)] at g5
    have e3 : IntKind.u8.wrap (ibits .and .i64 (IntKind.i64.wrap ((n : Int) * 2 ^ (6 - (bits : Int)).toNat)) 63) = (((UInt8.ofNat (n * 2 ^ (6 - bits) % 64)).toNat : Nat) : Int) := by
      rcases g2 with rfl | rfl | rfl
      · omega
      · rw [show (2 : Int) ^ (6 - ((2 : Nat) : Int)).toNat = 16 from rfl, w_i64 (by omega) (by omega), and_63_i64 (by omega) (by omega), w_u8 (by omega) (by omega), UInt8.toNat_ofNat']; omega
      · rw [show (2 : Int) ^ (6 - ((4 : Nat) : Int)).toNat = 4 from rfl, w_i64 (by omega) (by omega), and_63_i64 (by omega) (by omega), w_u8 (by omega) (by omega), UInt8.toNat_ofNat']; omega
    refine AOp.yields (vs := encB (UInt8.ofNat (n * 2 ^ (6 - bits) % 64))) rfl (by simp only [go_sem] <;> rfl) (by simp [go_sem]) ?_ (T.take g4 (by have := congrArg List.length g5; simp only [List.length_append, List.length_cons] at this; omega) _ (by rw [UInt8.toNat_ofNat']; omega)) ?_
    · simp only [go_sem, e3, encB]
    rintro v σ' ⟨rfl, k5⟩
    (refine AOpsC_ok hK' _ _ _ ?_; (repeat simp (disch := omega) only [go_sem, redN, Nat.reduceAdd, Int.reduceToNat, Int.reducePow]); (repeat' refine And.intro ?_ ?_); (try any_goals (first | (refine hK _ _ ?_; clear hK' hQ hK Q' Kn) | (simp; done) | omega | (simp only [redL]; omega) | (simp; omega))))
    (repeat' (first | refine AW.seq ?_ | refine AW.scope ?_ | refine AW.label ?_ | refine AW.block ?_ | refine AW.skip ?_ | refine AW.exit ?_ | refine AW.ret ?_ | (refine AW.regionC fun Q' Kn hQ hK hK' => ?_; (repeat simp (disch := omega) only [go_sem, redN, Nat.reduceAdd, Int.reduceToNat, Int.reducePow]); (repeat' refine And.intro ?_ ?_); (try any_goals (first | (refine hK _ _ ?_; clear hK' hQ hK Q' Kn) | (simp; done) | omega | (simp only [redL]; omega) | (simp; omega)))) | (refine AW.cond (by simp (disch := omega) only [go_sem, redN, Nat.reduceAdd, Int.reduceToNat, Int.reducePow]; rfl) (fun hb => ?_) (fun hb => ?_) <;> (try simp only [redB] at hb))))
    (refine ⟨_, _, rfl, by simp, ?_⟩; simp only [aTup, AA.get, List.getD_cons_zero, List.getD_cons_succ, true_and])
    exact ⟨ib, _, hf.1, by rw [hβ1, ← g5]; exact k5⟩
  · have hi : i = s.length := by omega
    subst hi
    rw [List.drop_length, sxs, if_neg (by omega), List.append_nil] at g5
    (refine ⟨_, _, rfl, by simp, ?_⟩; simp only [aTup, AA.get, List.getD_cons_zero, List.getD_cons_succ, true_and])
    exact ⟨ib, _, hf.1, by rw [hβ1, ← g5]; exact g4⟩
end Go.Almanac

/- Texts: Base64. -/
namespace Go.Almanac
open Go.RowKit Go.Proofs Go.Abs

set_option linter.unusedSimpArgs false
set_option linter.unusedVariables false
set_option linter.unusedSectionVars false
set_option maxRecDepth 10000
set_option maxHeartbeats 1000000

theorem t_sextets (G : Nat → AV) (s : List UInt8) (st : St) : ACalls (Ev G) 43 [.str s] st (fun e st' => ∃ id, st id = none ∧ st' = st.set id (.cells 9 0 1 [[.str s]]) ∧ e = .ret (.clo (.func 57) [] [.ptr id 0 0 0])) := by
  refine ACalls.of_body Tryd.func43 rfl ?_
  rw [Tryd.ntmps43]
  simp only [List.length_cons, List.length_nil, Nat.reduceAdd, Nat.reduceSub, List.replicate_succ, List.replicate_zero, List.cons_append, List.nil_append]
  (repeat' (first | refine AW.seq ?_ | refine AW.scope ?_ | refine AW.label ?_ | refine AW.block ?_ | refine AW.skip ?_ | refine AW.exit ?_ | refine AW.ret ?_ | (refine AW.regionC fun Q' Kn hQ hK hK' => ?_; (repeat simp (disch := omega) only [go_sem, redN, Nat.reduceAdd, Int.reduceToNat, Int.reducePow]); (repeat' refine And.intro ?_ ?_); (try any_goals (first | (refine hK _ _ ?_; clear hK' hQ hK Q' Kn) | (simp; done) | omega | (simp only [redL]; omega) | (simp; omega)))) | (refine AW.cond (by simp (disch := omega) only [go_sem, redN, Nat.reduceAdd, Int.reduceToNat, Int.reducePow]; rfl) (fun hb => ?_) (fun hb => ?_) <;> (try simp only [redB] at hb))))
  refine AOp.box rfl (by simp [go_sem]) (by simp only [go_sem] <;> rfl) fun id hid => ?_
  (refine AOpsC_ok hK' _ _ _ ?_; (repeat simp (disch := omega) only [go_sem, redN, Nat.reduceAdd, Int.reduceToNat, Int.reducePow]); (repeat' refine And.intro ?_ ?_); (try any_goals (first | (refine hK _ _ ?_; clear hK' hQ hK Q' Kn) | (simp; done) | omega | (simp only [redL]; omega) | (simp; omega))))
  (repeat' (first | refine AW.seq ?_ | refine AW.scope ?_ | refine AW.label ?_ | refine AW.block ?_ | refine AW.skip ?_ | refine AW.exit ?_ | refine AW.ret ?_ | (refine AW.regionC fun Q' Kn hQ hK hK' => ?_; (repeat simp (disch := omega) only [go_sem, redN, Nat.reduceAdd, Int.reduceToNat, Int.reducePow]); (repeat' refine And.intro ?_ ?_); (try any_goals (first | (refine hK _ _ ?_; clear hK' hQ hK Q' Kn) | (simp; done) | omega | (simp only [redL]; omega) | (simp; omega)))) | (refine AW.cond (by simp (disch := omega) only [go_sem, redN, Nat.reduceAdd, Int.reduceToNat, Int.reducePow]; rfl) (fun hb => ?_) (fun hb => ?_) <;> (try simp only [redB] at hb))))
  (refine ⟨_, _, rfl, by simp, ?_⟩; simp only [aTup, AA.get, List.getD_cons_zero, List.getD_cons_succ, true_and])
  exact ⟨id, hid, rfl, rfl⟩

def lets : List UInt8 := [65, 66, 67, 68, 69, 70, 71, 72, 73, 74, 75, 76, 77, 78, 79, 80, 81, 82, 83, 84, 85, 86, 87, 88, 89, 90, 97, 98, 99, 100, 101, 102, 103, 104, 105, 106, 107, 108, 109, 110, 111, 112, 113, 114, 115, 116, 117, 118, 119, 120, 121, 122, 48, 49, 50, 51, 52, 53, 54, 55, 56, 57, 43, 47]
def letter (x : UInt8) : UInt8 := lets.getD x.toNat 0
def padded64 (l : List UInt8) : List UInt8 := l ++ List.replicate ((4 - l.length % 4) % 4) 61
def b64 (s : List UInt8) : List UInt8 := padded64 ((sxs s 0 0).map letter)
theorem padded64_step {l : List UInt8} (h : l.length % 4 ≠ 0) : padded64 (l ++ [61]) = padded64 l := by
  have e : (4 - l.length % 4) % 4 = (4 - (l ++ [(61 : UInt8)]).length % 4) % 4 + 1 := by simp; omega
  rw [padded64, padded64, e, List.replicate_succ]
  simp
theorem padded64_id {l : List UInt8} (h : l.length % 4 = 0) : padded64 l = l := by simp [padded64, h]

theorem BW.rebase {β : St} {b : Nat} {σ : St} {bs : List UInt8} (h : BW β b σ bs) {id : Nat} (hid : σ id = none) (B : Blk) : BW (β.set id B) b (σ.set id B) bs := by
  have hf := h.fresh id hid
  obtain ⟨⟨ad, v, hst, had, hown, hn⟩⟩ := h.bld
  refine ⟨⟨ad, v, by rw [St.set_ne _ _ (Ne.symm hf.2), hst], had, ?_, hn⟩, fun i hi hb => ?_⟩
  · rcases hown with q | ⟨ia, g, e1, e2, e3⟩
    · exact .inl q
    · have n : ia ≠ id := fun e => by subst e; rw [e2] at hid; cases hid
      exact .inr ⟨ia, g, e1, by rw [St.set_ne _ _ n, e2], by rw [St.set_ne _ _ n]; exact e3.1, e3.2⟩
  · by_cases n : i = id
    · subst n; simp
    · rw [St.set_ne _ _ n] at hi ⊢; rw [St.set_ne _ _ n]; exact h.keep i hi hb
theorem BW.del {β : St} {b : Nat} {σ : St} {bs : List UInt8} (h : BW β b σ bs) {l : Nat} (hl : β l ≠ none) (hb : l ≠ b) : BW (β.del l) b (σ.del l) bs := by
  obtain ⟨⟨ad, v, hst, had, hown, hn⟩⟩ := h.bld
  refine ⟨⟨ad, v, by rw [St.del_ne _ (Ne.symm hb), hst], had, ?_, hn⟩, fun i hi hib => ?_⟩
  · rcases hown with q | ⟨ia, g, e1, e2, e3⟩
    · exact .inl q
    · have n : ia ≠ l := fun e => hl (e ▸ e3.1)
      exact .inr ⟨ia, g, e1, by rw [St.del_ne _ n, e2], by rw [St.del_ne _ n]; exact e3.1, e3.2⟩
  · by_cases n : i = l
    · subst n; simp [St.del] at hi
    · rw [St.del_ne _ n] at hi ⊢; rw [St.del_ne _ n]; exact h.keep i hi hib
/-- A walk's own loop changes nothing that the builder minds. -/
theorem BW.put {β : St} {b : Nat} {σ : St} {bs : List UInt8} (h : BW β b σ bs) {l : Nat} (hl : β l ≠ none) (hb : l ≠ b) (B : Blk) : BW (β.set l B) b (σ.set l B) bs := by
  obtain ⟨⟨ad, v, hst, had, hown, hn⟩⟩ := h.bld
  refine ⟨⟨ad, v, by rw [St.set_ne _ _ (Ne.symm hb), hst], had, ?_, hn⟩, fun i hi hib => ?_⟩
  · rcases hown with q | ⟨ia, g, e1, e2, e3⟩
    · exact .inl q
    · have n : ia ≠ l := fun e => hl (e ▸ e3.1)
      exact .inr ⟨ia, g, e1, by rw [St.set_ne _ _ n, e2], by rw [St.set_ne _ _ n]; exact e3.1, e3.2⟩
  · by_cases n : i = l
    · subst n; simp
    · rw [St.set_ne _ _ n] at hi ⊢; rw [St.set_ne _ _ n]; exact h.keep i hi hib
end Go.Almanac

/- Texts: Base64. -/
namespace Go.Almanac
open Go.RowKit Go.Proofs Go.Abs

set_option linter.unusedSimpArgs false
set_option linter.unusedVariables false
set_option linter.unusedSectionVars false
set_option maxRecDepth 10000
set_option maxHeartbeats 1000000

theorem t_Base64 (G : Nat → AV) (s : List UInt8) (hs : s.length ≤ 35184372088832) (st : St) : ACalls (Ev G) 24 [.str s] st (fun e st' => st' = st ∧ e = .ret (.str (b64 s))) := by
  refine ACalls.thaw (R' := fun e st' => st.sub st' ∧ e = .ret (.str (b64 s))) ?_ (fun x st1 h => ⟨2, st, h.1, rfl, by rw [h.2]; rfl⟩)
  refine ACalls.of_body Tryd.func24 rfl ?_
  rw [Tryd.ntmps24]
  simp only [List.length_cons, List.length_nil, Nat.reduceAdd, Nat.reduceSub, List.replicate_succ, List.replicate_zero, List.cons_append, List.nil_append]
  (repeat' (first | refine AW.seq ?_ | refine AW.scope ?_ | refine AW.label ?_ | refine AW.block ?_ | refine AW.skip ?_ | refine AW.exit ?_ | refine AW.ret ?_ | (refine AW.regionC fun Q' Kn hQ hK hK' => ?_; (repeat simp (disch := omega) only [go_sem, redN, Nat.reduceAdd, Int.reduceToNat, Int.reducePow]); (repeat' refine And.intro ?_ ?_); (try any_goals (first | (refine hK _ _ ?_; clear hK' hQ hK Q' Kn) | (simp; done) | omega | (simp only [redL]; omega) | (simp; omega)))) | (refine AW.cond (by simp (disch := omega) only [go_sem, redN, Nat.reduceAdd, Int.reduceToNat, Int.reducePow]; rfl) (fun hb => ?_) (fun hb => ?_) <;> (try simp only [redB] at hb))))
  refine AOp.alloc (cs := [.nilp, .nils]) rfl rfl fun b hb0 => ?_
  (refine AOpsC_ok hK' _ _ _ ?_; (repeat simp (disch := omega) only [go_sem, redN, Nat.reduceAdd, Int.reduceToNat, Int.reducePow]); (repeat' refine And.intro ?_ ?_); (try any_goals (first | (refine hK _ _ ?_; clear hK' hQ hK Q' Kn) | (simp; done) | omega | (simp only [redL]; omega) | (simp; omega))))
  (repeat' (first | refine AW.seq ?_ | refine AW.scope ?_ | refine AW.label ?_ | refine AW.block ?_ | refine AW.skip ?_ | refine AW.exit ?_ | refine AW.ret ?_ | (refine AW.regionC fun Q' Kn hQ hK hK' => ?_; (repeat simp (disch := omega) only [go_sem, redN, Nat.reduceAdd, Int.reduceToNat, Int.reducePow]); (repeat' refine And.intro ?_ ?_); (try any_goals (first | (refine hK _ _ ?_; clear hK' hQ hK Q' Kn) | (simp; done) | omega | (simp only [redL]; omega) | (simp; omega)))) | (refine AW.cond (by simp (disch := omega) only [go_sem, redN, Nat.reduceAdd, Int.reduceToNat, Int.reducePow]; rfl) (fun hb => ?_) (fun hb => ?_) <;> (try simp only [redB] at hb))))
  refine AOp.call rfl (by simp only [go_sem]; rfl) (by simp [go_sem]) rfl (ACalls.mono (by simp only [go_sem]; exact t_sextets G s _) ?_)
  rintro e st' ⟨bx, hbx, rfl, rfl⟩
  (refine AOpsC_ok hK' _ _ _ ?_; (repeat simp (disch := omega) only [go_sem, redN, Nat.reduceAdd, Int.reduceToNat, Int.reducePow]); (repeat' refine And.intro ?_ ?_); (try any_goals (first | (refine hK _ _ ?_; clear hK' hQ hK Q' Kn) | (simp; done) | omega | (simp only [redL]; omega) | (simp; omega))))
  (repeat' (first | refine AW.seq ?_ | refine AW.scope ?_ | refine AW.label ?_ | refine AW.block ?_ | refine AW.skip ?_ | refine AW.exit ?_ | refine AW.ret ?_ | (refine AW.regionC fun Q' Kn hQ hK hK' => ?_; (repeat simp (disch := omega) only [go_sem, redN, Nat.reduceAdd, Int.reduceToNat, Int.reducePow]); (repeat' refine And.intro ?_ ?_); (try any_goals (first | (refine hK _ _ ?_; clear hK' hQ hK Q' Kn) | (simp; done) | omega | (simp only [redL]; omega) | (simp; omega)))) | (refine AW.cond (by simp (disch := omega) only [go_sem, redN, Nat.reduceAdd, Int.reduceToNat, Int.reducePow]; rfl) (fun hb => ?_) (fun hb => ?_) <;> (try simp only [redB] at hb))))
  refine AW.rangeFunc (f := 57) (by simp only [go_sem] <;> rfl) (by simp [go_sem]) rfl fun d l fn hd hl hld => ?_
  have n1 : bx ≠ b := fun e => by subst e; simp at hbx
  have hbx0 : st bx = none := by rw [St.set_ne _ _ n1] at hbx; exact hbx
  have n2 : d ≠ bx := fun e => by subst e; simp at hd
  rw [St.set_ne _ _ n2] at hd
  have n3 : d ≠ b := fun e => by subst e; simp at hd
  rw [St.set_ne _ _ n3] at hd
  have n4 : l ≠ bx := fun e => by subst e; simp at hl
  rw [St.set_ne _ _ n4] at hl
  have n5 : l ≠ b := fun e => by subst e; simp at hl
  rw [St.set_ne _ _ n5] at hl
  generalize hB : Blk.loop _ _ _ _ _ _ _ _ = B
  generalize hβ0 : St.set (St.set (St.set (St.set st b _) bx _) d _) l B = β0
  have hb1 : β0 b = some (.cells 66 0 2 [[.nilp, .nils]]) := by rw [← hβ0, St.set_ne _ _ (Ne.symm n5), St.set_ne _ _ (Ne.symm n3), St.set_ne _ _ (Ne.symm n1), St.set_same]
  have hbx1 : β0 bx = some (.cells 9 0 1 [[.str s]]) := by rw [← hβ0, St.set_ne _ _ (Ne.symm n4), St.set_ne _ _ (Ne.symm n2), St.set_same]
  have hd1 : β0 d = some (.dfr true) := by rw [← hβ0, St.set_ne _ _ (Ne.symm hld), St.set_same]
  have hl1 : β0 l = some B := by rw [← hβ0, St.set_same]
  have hs0 : st.sub β0 := by rw [← hβ0]; exact St.sub_set (St.sub_set (St.sub_set (St.sub_set (St.sub_refl st) hb0 _) hbx0 _) hd _) hl _
  have T : Taker (Ev G) l encB (fun x => x.toNat < 64) (2 * s.length + 1) (fun i => i = b) (fun β xs σ => BW β b σ (xs.map letter) ∧ β l = some B) := by
    refine ⟨fun h i h1 h2 => h.1.keep i h1 h2, fun h i h1 => h.1.fresh i h1, fun h id h1 B' => ⟨h.1.rebase h1 B', ?_⟩, fun {β xs σ} h h1 x hx => ?_⟩
    · have : l ≠ id := fun e => by subst e; have := h.1.keep l (by rw [h.2]; simp) n5; rw [h1, h.2] at this; cases this
      rw [St.set_ne _ _ this]; exact h.2
    · obtain ⟨h2, h3⟩ := h
      have hσl : σ l = some B := by rw [h2.keep l (by simp [h3]) n5, h3]
      subst hB
      refine ⟨_, _, _, _, _, _, _, _, hσl, rfl, ?_⟩
      simp only [go_sem, bindTm, encB]
      (repeat' (first | refine AW.seq ?_ | refine AW.scope ?_ | refine AW.label ?_ | refine AW.block ?_ | refine AW.skip ?_ | refine AW.exit ?_ | refine AW.ret ?_ | (refine AW.regionC fun Q' Kn hQ hK hK' => ?_; (repeat simp (disch := omega) only [go_sem, redN, Nat.reduceAdd, Int.reduceToNat, Int.reducePow]); (repeat' refine And.intro ?_ ?_); (try any_goals (first | (refine hK _ _ ?_; clear hK' hQ hK Q' Kn) | (simp; done) | omega | (simp only [redL]; omega) | (simp; omega)))) | (refine AW.cond (by simp (disch := omega) only [go_sem, redN, Nat.reduceAdd, Int.reduceToNat, Int.reducePow]; rfl) (fun hb => ?_) (fun hb => ?_) <;> (try simp only [redB] at hb))))
      refine ⟨_, _, _, _, _, _, _, hσl, ?_⟩
      have h4 : ∀ B, BW (β.set l B) b (σ.set l B) (xs.map letter) := fun B => h2.put (by rw [h3]; simp) n5 B
      (repeat' (first | refine AW.seq ?_ | refine AW.scope ?_ | refine AW.label ?_ | refine AW.block ?_ | refine AW.skip ?_ | refine AW.exit ?_ | refine AW.ret ?_ | (refine AW.regionC fun Q' Kn hQ hK hK' => ?_; (repeat simp (disch := omega) only [go_sem, redN, Nat.reduceAdd, Int.reduceToNat, Int.reducePow]); (repeat' refine And.intro ?_ ?_); (try any_goals (first | (refine hK _ _ ?_; clear hK' hQ hK Q' Kn) | (simp; done) | omega | (simp only [redL]; omega) | (simp; omega)))) | (refine AW.cond (by simp (disch := omega) only [go_sem, redN, Nat.reduceAdd, Int.reduceToNat, Int.reducePow]; rfl) (fun hb => ?_) (fun hb => ?_) <;> (try simp only [redB] at hb))))
      refine AOp.call rfl (by simp only [go_sem]; rfl) (by simp [go_sem]) rfl (ACalls.mono (by simp only [go_sem]; exact w_WriteByte G (letter x) (h4 _) (by simp; omega)) ?_)
      rintro e σ' ⟨rfl, h5⟩
      (refine AOpsC_ok hK' _ _ _ ?_; (repeat simp (disch := omega) only [go_sem, redN, Nat.reduceAdd, Int.reduceToNat, Int.reducePow]); (repeat' refine And.intro ?_ ?_); (try any_goals (first | (refine hK _ _ ?_; clear hK' hQ hK Q' Kn) | (simp; done) | omega | (simp only [redL]; omega) | (simp; omega))))
      simp only [AInBlock]
      have h6 := h5.keep l (by simp) n5
      rw [St.set_same] at h6
      refine ARound.normal (l := l) h6 ?_
      have h7 := fun B => h5.put (l := l) (by simp) n5 B
      simp only [St.set_set] at h7
      refine ⟨rfl, ?_, ?_⟩
      · rw [List.map_append, ← St.set_self _ h3]; exact h7 _
      · exact h3
  refine ACalls.mono (t_sextets1 G s (by omega) bx l _ _ T β0 β0 ⟨BW.new hb1, hl1⟩ hbx1 n1) ?_
  rintro e σ ⟨rfl, ib, B', hib, h1, h2⟩
  have hσl : σ l = some B := by rw [h1.keep l (by rw [h2]; simp) n5, h2]
  subst hB
  simp only [ARange, hσl]
  refine ⟨by simp, ?_⟩
  (repeat' (first | refine AW.seq ?_ | refine AW.scope ?_ | refine AW.label ?_ | refine AW.block ?_ | refine AW.skip ?_ | refine AW.exit ?_ | refine AW.ret ?_ | (refine AW.regionC fun Q' Kn hQ hK hK' => ?_; (repeat simp (disch := omega) only [go_sem, redN, Nat.reduceAdd, Int.reduceToNat, Int.reducePow]); (repeat' refine And.intro ?_ ?_); (try any_goals (first | (refine hK _ _ ?_; clear hK' hQ hK Q' Kn) | (simp; done) | omega | (simp only [redL]; omega) | (simp; omega)))) | (refine AW.cond (by simp (disch := omega) only [go_sem, redN, Nat.reduceAdd, Int.reduceToNat, Int.reducePow]; rfl) (fun hb => ?_) (fun hb => ?_) <;> (try simp only [redB] at hb))))
  have nil2 : ib ≠ l := fun e => by subst e; rw [hl1] at hib; cases hib
  have nid : ib ≠ d := fun e => by subst e; rw [hd1] at hib; cases hib
  have hst_ib : st ib = none := by cases hx : st ib with | none => rfl | some A => rw [hs0 ib A hx] at hib; cases hib
  have h3 : BW ((β0.set ib B').del l) b (σ.del l) _ := h1.del (by rw [h2]; simp) n5
  have hs1 : st.sub ((β0.set ib B').del l) := fun i A hi => by
    have e1 : i ≠ l := fun e => by subst e; rw [hl] at hi; cases hi
    rw [St.del_ne _ e1]; exact St.sub_set hs0 hst_ib _ i A hi
  have hd2 : ((β0.set ib B').del l) d = some (.dfr true) := by rw [St.del_ne _ (Ne.symm hld), St.set_ne _ _ (Ne.symm nid), hd1]
  generalize (β0.set ib B').del l = β2 at *
  generalize σ.del l = σ2 at *
  have hlen := sxs_length s 0 0 (by omega)
  have hb64 : b64 s = padded64 ((sxs s 0 0).map letter) := rfl
  have hll : ((sxs s 0 0).map letter).length ≤ 2 * s.length + 1 := by simpa using hlen
  generalize (sxs s 0 0).map letter = L at *
  refine AW.loopF (fun x : List UInt8 × St => [.junk, .junk, .str [], .ptr b 0 0 0, .junk, .junk, .junk, .junk, .junk, .junk, .junk, .junk, .junk, .junk, .junk, .junk]) (fun x => x.2)
    (fun x => BW β2 b x.2 x.1 ∧ padded64 x.1 = b64 s ∧ x.1.length + (4 - x.1.length % 4) % 4 ≤ 2 * s.length + 4) (fun x => (4 - x.1.length % 4) % 4) (L, σ2) ?_ rfl ?_ ?_
  · (repeat (first | exact Weak.nil | refine Weak.junk _ ?_ | refine Weak.same _ ?_ | refine Weak.eqv (by (congr 1; first | omega | (simp; done) | exact w_i64 (by omega) (by omega))) ?_))
  · exact ⟨h3, hb64.symm, by dsimp only; omega⟩
  rintro ⟨acc, σ3⟩ ⟨k1, k2, k3⟩
  dsimp only at k1 k2 k3 ⊢
  (repeat' (first | refine AW.seq ?_ | refine AW.scope ?_ | refine AW.label ?_ | refine AW.block ?_ | refine AW.skip ?_ | refine AW.exit ?_ | refine AW.ret ?_ | (refine AW.regionC fun Q' Kn hQ hK hK' => ?_; (repeat simp (disch := omega) only [go_sem, redN, Nat.reduceAdd, Int.reduceToNat, Int.reducePow]); (repeat' refine And.intro ?_ ?_); (try any_goals (first | (refine hK _ _ ?_; clear hK' hQ hK Q' Kn) | (simp; done) | omega | (simp only [redL]; omega) | (simp; omega)))) | (refine AW.cond (by simp (disch := omega) only [go_sem, redN, Nat.reduceAdd, Int.reduceToNat, Int.reducePow]; rfl) (fun hb => ?_) (fun hb => ?_) <;> (try simp only [redB] at hb))))
  refine AOp.call rfl (by simp only [go_sem]; rfl) (by simp [go_sem]) rfl (ACalls.mono (by simp only [go_sem]; exact b_Len G b acc _ σ3 k1.bld) ?_)
  rintro e σ4 ⟨rfl, rfl⟩
  (refine AOpsC_ok hK' _ _ _ ?_; (repeat simp (disch := omega) only [go_sem, redN, Nat.reduceAdd, Int.reduceToNat, Int.reducePow]); (repeat' refine And.intro ?_ ?_); (try any_goals (first | (refine hK _ _ ?_; clear hK' hQ hK Q' Kn) | (simp; done) | omega | (simp only [redL]; omega) | (simp; omega))))
  (repeat' (first | refine AW.seq ?_ | refine AW.scope ?_ | refine AW.label ?_ | refine AW.block ?_ | refine AW.skip ?_ | refine AW.exit ?_ | refine AW.ret ?_ | (refine AW.regionC fun Q' Kn hQ hK hK' => ?_; (repeat simp (disch := omega) only [go_sem, redN, Nat.reduceAdd, Int.reduceToNat, Int.reducePow]); (repeat' refine And.intro ?_ ?_); (try any_goals (first | (refine hK _ _ ?_; clear hK' hQ hK Q' Kn) | (simp; done) | omega | (simp only [redL]; omega) | (simp; omega)))) | (refine AW.cond (by simp (disch := omega) only [go_sem, redN, Nat.reduceAdd, Int.reduceToNat, Int.reducePow]; rfl) (fun hb => ?_) (fun hb => ?_) <;> (try simp only [redB] at hb))))
  · refine AOp.call rfl (by simp only [go_sem]; rfl) (by simp [go_sem]) rfl (ACalls.mono (by simp only [go_sem]; exact w_WriteByte G 61 k1 (by omega)) ?_)
    rintro e σ5 ⟨rfl, k4⟩
    (refine AOpsC_ok hK' _ _ _ ?_; (repeat simp (disch := omega) only [go_sem, redN, Nat.reduceAdd, Int.reduceToNat, Int.reducePow]); (repeat' refine And.intro ?_ ?_); (try any_goals (first | (refine hK _ _ ?_; clear hK' hQ hK Q' Kn) | (simp; done) | omega | (simp only [redL]; omega) | (simp; omega))))
    (repeat' (first | refine AW.seq ?_ | refine AW.scope ?_ | refine AW.label ?_ | refine AW.block ?_ | refine AW.skip ?_ | refine AW.exit ?_ | refine AW.ret ?_ | (refine AW.regionC fun Q' Kn hQ hK hK' => ?_; (repeat simp (disch := omega) only [go_sem, redN, Nat.reduceAdd, Int.reduceToNat, Int.reducePow]); (repeat' refine And.intro ?_ ?_); (try any_goals (first | (refine hK _ _ ?_; clear hK' hQ hK Q' Kn) | (simp; done) | omega | (simp only [redL]; omega) | (simp; omega)))) | (refine AW.cond (by simp (disch := omega) only [go_sem, redN, Nat.reduceAdd, Int.reduceToNat, Int.reducePow]; rfl) (fun hb => ?_) (fun hb => ?_) <;> (try simp only [redB] at hb))))
    have hm : acc.length % 4 ≠ 0 := by omega
    refine ⟨(acc ++ [61], σ5), ⟨k4, by rw [← k2]; exact padded64_step hm, by simp; omega⟩, by simp; omega, ?_, rfl, rfl⟩
    dsimp only
    (repeat (first | exact Weak.nil | refine Weak.junk _ ?_ | refine Weak.same _ ?_ | refine Weak.eqv (by (congr 1; first | omega | (simp; done) | exact w_i64 (by omega) (by omega))) ?_))
  · refine AOp.call rfl (by simp only [go_sem]; rfl) (by simp [go_sem]) rfl (ACalls.mono (by simp only [go_sem]; exact w_String G k1) ?_)
    rintro e σ5 ⟨rfl, k4⟩
    (refine AOpsC_ok hK' _ _ _ ?_; (repeat simp (disch := omega) only [go_sem, redN, Nat.reduceAdd, Int.reduceToNat, Int.reducePow]); (repeat' refine And.intro ?_ ?_); (try any_goals (first | (refine hK _ _ ?_; clear hK' hQ hK Q' Kn) | (simp; done) | omega | (simp only [redL]; omega) | (simp; omega))))
    (repeat' (first | refine AW.seq ?_ | refine AW.scope ?_ | refine AW.label ?_ | refine AW.block ?_ | refine AW.skip ?_ | refine AW.exit ?_ | refine AW.ret ?_ | (refine AW.regionC fun Q' Kn hQ hK hK' => ?_; (repeat simp (disch := omega) only [go_sem, redN, Nat.reduceAdd, Int.reduceToNat, Int.reducePow]); (repeat' refine And.intro ?_ ?_); (try any_goals (first | (refine hK _ _ ?_; clear hK' hQ hK Q' Kn) | (simp; done) | omega | (simp only [redL]; omega) | (simp; omega)))) | (refine AW.cond (by simp (disch := omega) only [go_sem, redN, Nat.reduceAdd, Int.reduceToNat, Int.reducePow]; rfl) (fun hb => ?_) (fun hb => ?_) <;> (try simp only [redB] at hb))))
    refine ⟨?_, ?_⟩
    · rw [k4 d (by rw [hd2]; simp) n3]; exact hd2
    (refine ⟨_, _, rfl, by simp, ?_⟩; simp only [aTup, AA.get, List.getD_cons_zero, List.getD_cons_succ, true_and])
    have hm : acc.length % 4 = 0 := by omega
    refine ⟨?_, by rw [← k2, padded64_id hm]⟩
    intro i A hi
    have e1 : i ≠ d := fun e => by subst e; rw [hd] at hi; cases hi
    have e2 : i ≠ b := fun e => by subst e; rw [hb0] at hi; cases hi
    have h0 := hs1 i A hi
    rw [St.set_ne _ _ e1, k4 i (by simp [h0]) e2, h0]
end Go.Almanac

/- strings.Builder: WriteString. -/
namespace Go.Almanac
open Go.RowKit Go.Proofs Go.Abs

set_option linter.unusedSimpArgs false
set_option linter.unusedVariables false
set_option linter.unusedSectionVars false
set_option maxRecDepth 10000
set_option maxHeartbeats 1000000

/-- WriteString: a text more. -/
theorem b_WriteString (G : Nat → AV) (b : Nat) (bs : List UInt8) (xs : List UInt8) (ok : Nat → Prop) (st : St) (hB : Bld st b bs ok) (hok : ¬ ok b) (hfr : ∀ id, st id = none → ok id) (hlim : bs.length + xs.length ≤ 140737488355328) (hx0 : xs ≠ []) :
    ACalls (Ev G) 36 [.ptr b 0 0 0, .str xs] st (fun e st' => e = .ret (.tup [.int .i64 xs.length, .nili]) ∧ Bld st' b (bs ++ xs) ok ∧ ∀ i, ¬ ok i → i ≠ b → st' i = st i) := by
  obtain ⟨ad, v, hst, had, hown, _⟩ := hB
  refine ACalls.of_body Tryd.func36 rfl ?_
  rw [Tryd.ntmps36]
  simp only [List.length_cons, List.length_nil, Nat.reduceAdd, Nat.reduceSub, List.replicate_succ, List.replicate_zero, List.cons_append, List.nil_append]
  (repeat' (first | refine AW.seq ?_ | refine AW.scope ?_ | refine AW.label ?_ | refine AW.block ?_ | refine AW.skip ?_ | refine AW.exit ?_ | refine AW.ret ?_ | (refine AW.regionC fun Q' Kn hQ hK hK' => ?_; (repeat simp (disch := omega) only [go_sem, Nat.reduceAdd, w_i64, w_u64, w_u8, w_u32, w_i32]); (repeat' refine And.intro ?_ ?_); (try any_goals (first | (refine hK _ _ ?_; clear hK' hQ hK Q' Kn) | (simp; done) | omega | (simp only [List.length_append, List.length_cons, List.length_nil]; omega) | (simp; omega)))) | (refine AW.cond (by simp (disch := omega) only [go_sem, Nat.reduceAdd, w_i64, w_u64, w_u8, w_u32, w_i32]; rfl) (fun hb => ?_) (fun hb => ?_) <;> (try simp only [Bool.or_eq_true, Bool.and_eq_true, Bool.or_eq_false_iff, Bool.and_eq_false_iff, decide_eq_true_eq, decide_eq_false_iff_not, beq_iff_eq, bne_iff_ne, Bool.not_eq_true', beq_eq_false_iff_ne, bne_eq_false_iff_eq, ne_eq, Bool.not_eq_false', Bool.true_eq_false, Bool.false_eq_true, Bool.false_or, Bool.true_or, Bool.false_and, Bool.true_and, false_or, or_false, true_and, and_true] at hb))))
  refine AOp.call rfl (by simp only [go_sem]; rfl) (by simp [go_sem]) rfl (ACalls.mono (by simp only [go_sem]; exact b_copyCheck G b ad v st hst had) ?_)
  rintro e st' ⟨rfl, rfl⟩
  (refine AOpsC_ok hK' _ _ _ ?_; (repeat simp (disch := omega) only [go_sem, Nat.reduceAdd, w_i64, w_u64, w_u8, w_u32, w_i32]); (repeat' refine And.intro ?_ ?_); (try any_goals (first | (refine hK _ _ ?_; clear hK' hQ hK Q' Kn) | (simp; done) | omega | (simp only [List.length_append, List.length_cons, List.length_nil]; omega) | (simp; omega))))
  (repeat' (first | refine AW.seq ?_ | refine AW.scope ?_ | refine AW.label ?_ | refine AW.block ?_ | refine AW.skip ?_ | refine AW.exit ?_ | refine AW.ret ?_ | (refine AW.regionC fun Q' Kn hQ hK hK' => ?_; (repeat simp (disch := omega) only [go_sem, Nat.reduceAdd, w_i64, w_u64, w_u8, w_u32, w_i32]); (repeat' refine And.intro ?_ ?_); (try any_goals (first | (refine hK _ _ ?_; clear hK' hQ hK Q' Kn) | (simp; done) | omega | (simp only [List.length_append, List.length_cons, List.length_nil]; omega) | (simp; omega)))) | (refine AW.cond (by simp (disch := omega) only [go_sem, Nat.reduceAdd, w_i64, w_u64, w_u8, w_u32, w_i32]; rfl) (fun hb => ?_) (fun hb => ?_) <;> (try simp only [Bool.or_eq_true, Bool.and_eq_true, Bool.or_eq_false_iff, Bool.and_eq_false_iff, decide_eq_true_eq, decide_eq_false_iff_not, beq_iff_eq, bne_iff_ne, Bool.not_eq_true', beq_eq_false_iff_ne, bne_eq_false_iff_eq, ne_eq, Bool.not_eq_false', Bool.true_eq_false, Bool.false_eq_true, Bool.false_or, Bool.true_or, Bool.false_and, Bool.true_and, false_or, or_false, true_and, and_true] at hb))))
  refine AOp.loadCell rfl (by simp only [go_sem] <;> rfl) (by simp [go_sem]) (St.set_same _ _ _) rfl (by simp) (by simp) ?_
  (refine AOpsC_ok hK' _ _ _ ?_; (repeat simp (disch := omega) only [go_sem, Nat.reduceAdd, w_i64, w_u64, w_u8, w_u32, w_i32]); (repeat' refine And.intro ?_ ?_); (try any_goals (first | (refine hK _ _ ?_; clear hK' hQ hK Q' Kn) | (simp; done) | omega | (simp only [List.length_append, List.length_cons, List.length_nil]; omega) | (simp; omega))))
  have hfr1 : ∀ id, (st.set b (.cells 66 0 2 [[.ptr b 0 0 0, v]])) id = none → id ≠ b ∧ ok id := fun id h => by
    have hne : id ≠ b := fun e => by subst e; simp at h
    rw [St.set_ne _ _ hne] at h
    exact ⟨hne, hfr id h⟩
  refine AOp.appendSO (ok := ok) (e := 5) (es := bytesE bs) (s := xs) (v := v) rfl (by rcases hown with ⟨rfl, _⟩ | ⟨_, _, rfl, _⟩ <;> simp [go_sem]) rfl rfl rfl rfl rfl rfl (by rcases hown with ⟨rfl, _⟩ | ⟨_, _, rfl, _⟩ <;> rfl) ?_ (by simp [go_sem]) hx0 ?_ ?_ ?_ ?_
  · rcases hown with h | ⟨ia, g, e1, e2, e3⟩
    · exact .inl h
    · refine .inr ⟨ia, g, e1, ?_, e3⟩
      have n1 : ia ≠ b := fun e => hok (e ▸ e3)
      rw [St.set_ne _ _ n1, e2]
  · simp only [bytesE_length]; omega
  · simp only [bytesE_length, maxLen]; omega
  · intro id hid
    exact (hfr1 id hid).2
  intro v' ia B hia hv' hown'
  have hiab : ok ia := by
    rcases hia with h | h
    · exact (hfr1 ia h).2
    · exact h
  have nb1 : b ≠ ia := fun e => hok (e ▸ hiab)
  rw [← bytesE_append] at hown'
  rcases hown' with ⟨_, h⟩ | ⟨i2, g2, rfl, q1, q2⟩
  · simp [bytesE] at h; exact absurd h.2 hx0
  (refine AOpsC_ok hK' _ _ _ ?_; (repeat simp (disch := omega) only [go_sem, Nat.reduceAdd, w_i64, w_u64, w_u8, w_u32, w_i32]); (repeat' refine And.intro ?_ ?_); (try any_goals (first | (refine hK _ _ ?_; clear hK' hQ hK Q' Kn) | (simp; done) | omega | (simp only [List.length_append, List.length_cons, List.length_nil]; omega) | (simp; omega))))
  refine AOp.store (cs := [.arr i2 g2 1 0 (bytesE (bs ++ xs)).length]) (t0 := 66) (es := [[.ptr b 0 0 0, v]]) (sz := 2) rfl (by simp only [go_sem] <;> rfl) (by simp [go_sem]) ?_ (by simp [go_sem, aCells]) rfl rfl (by simp) (by simp) ?_
  · rw [St.set_ne _ _ nb1, St.set_same]
  (refine AOpsC_ok hK' _ _ _ ?_; (repeat simp (disch := omega) only [go_sem, Nat.reduceAdd, w_i64, w_u64, w_u8, w_u32, w_i32]); (repeat' refine And.intro ?_ ?_); (try any_goals (first | (refine hK _ _ ?_; clear hK' hQ hK Q' Kn) | (simp; done) | omega | (simp only [List.length_append, List.length_cons, List.length_nil]; omega) | (simp; omega))))
  (repeat' (first | refine AW.seq ?_ | refine AW.scope ?_ | refine AW.label ?_ | refine AW.block ?_ | refine AW.skip ?_ | refine AW.exit ?_ | refine AW.ret ?_ | (refine AW.regionC fun Q' Kn hQ hK hK' => ?_; (repeat simp (disch := omega) only [go_sem, Nat.reduceAdd, w_i64, w_u64, w_u8, w_u32, w_i32]); (repeat' refine And.intro ?_ ?_); (try any_goals (first | (refine hK _ _ ?_; clear hK' hQ hK Q' Kn) | (simp; done) | omega | (simp only [List.length_append, List.length_cons, List.length_nil]; omega) | (simp; omega)))) | (refine AW.cond (by simp (disch := omega) only [go_sem, Nat.reduceAdd, w_i64, w_u64, w_u8, w_u32, w_i32]; rfl) (fun hb => ?_) (fun hb => ?_) <;> (try simp only [Bool.or_eq_true, Bool.and_eq_true, Bool.or_eq_false_iff, Bool.and_eq_false_iff, decide_eq_true_eq, decide_eq_false_iff_not, beq_iff_eq, bne_iff_ne, Bool.not_eq_true', beq_eq_false_iff_ne, bne_eq_false_iff_eq, ne_eq, Bool.not_eq_false', Bool.true_eq_false, Bool.false_eq_true, Bool.false_or, Bool.true_or, Bool.false_and, Bool.true_and, false_or, or_false, true_and, and_true] at hb))))
  (refine ⟨_, _, rfl, by simp, ?_⟩; simp only [aTup, AA.get, List.getD_cons_zero, List.getD_cons_succ, true_and])
  refine ⟨⟨.ptr b 0 0 0, .arr i2 g2 1 0 (bytesE (bs ++ xs)).length, by rw [St.set_same]; simp [splice], .inr rfl, .inr ⟨i2, g2, rfl, ?_, q2⟩, fun h => by simp at h; exact absurd h.2 hx0⟩, fun i hi hib => ?_⟩
  · have : i2 ≠ b := fun e => hok (e ▸ q2)
    rw [St.set_ne _ _ this]; exact q1
  · have n1 : i ≠ ia := fun e => hi (e ▸ hiab)
    rw [St.set_ne _ _ hib, St.set_ne _ _ n1, St.set_ne _ _ hib]
theorem w_WriteString (G : Nat → AV) {st0 : St} {b : Nat} {bs : List UInt8} (xs : List UInt8) {st : St} (h : BW st0 b st bs) (hlim : bs.length + xs.length ≤ 140737488355328) (hx0 : xs ≠ []) :
    ACalls (Ev G) 36 [.ptr b 0 0 0, .str xs] st (fun e st' => e = .ret (.tup [.int .i64 xs.length, .nili]) ∧ BW st0 b st' (bs ++ xs)) :=
  ACalls.mono (b_WriteString G b bs xs _ st h.bld (fun q => q.2 rfl) (fun id hid => h.fresh id hid) hlim hx0) fun x st' hq => ⟨hq.1, hq.2.1, fun i hi hb => by
    rw [hq.2.2 i (fun q => hi q.1) hb]; exact h.keep i hi hb⟩
end Go.Almanac

/- strings.Builder: WriteString at any text. -/
namespace Go.Almanac
open Go.RowKit Go.Proofs Go.Abs

set_option linter.unusedSimpArgs false
set_option linter.unusedVariables false
set_option linter.unusedSectionVars false
set_option maxRecDepth 10000
set_option maxHeartbeats 1000000

theorem b_WriteString0 (G : Nat → AV) (b : Nat) (bs : List UInt8) (ok : Nat → Prop) (st : St) (hB : Bld st b bs ok) (hok : ¬ ok b) (hfr : ∀ id, st id = none → ok id) (hlim : bs.length ≤ 140737488355328) :
    ACalls (Ev G) 36 [.ptr b 0 0 0, .str []] st (fun e st' => e = .ret (.tup [.int .i64 (([] : List UInt8).length : Nat), .nili]) ∧ Bld st' b bs ok ∧ ∀ i, ¬ ok i → i ≠ b → st' i = st i) := by
  obtain ⟨ad, v, hst, had, hown, hn⟩ := hB
  refine ACalls.of_body Tryd.func36 rfl ?_
  rw [Tryd.ntmps36]
  simp only [List.length_cons, List.length_nil, Nat.reduceAdd, Nat.reduceSub, List.replicate_succ, List.replicate_zero, List.cons_append, List.nil_append]
  (repeat' (first | refine AW.seq ?_ | refine AW.scope ?_ | refine AW.label ?_ | refine AW.block ?_ | refine AW.skip ?_ | refine AW.exit ?_ | refine AW.ret ?_ | (refine AW.regionC fun Q' Kn hQ hK hK' => ?_; (repeat simp (disch := omega) only [go_sem, Nat.reduceAdd, w_i64, w_u64, w_u8, w_u32, w_i32]); (repeat' refine And.intro ?_ ?_); (try any_goals (first | (refine hK _ _ ?_; clear hK' hQ hK Q' Kn) | (simp; done) | omega | (simp only [List.length_append, List.length_cons, List.length_nil]; omega) | (simp; omega)))) | (refine AW.cond (by simp (disch := omega) only [go_sem, Nat.reduceAdd, w_i64, w_u64, w_u8, w_u32, w_i32]; rfl) (fun hb => ?_) (fun hb => ?_) <;> (try simp only [Bool.or_eq_true, Bool.and_eq_true, Bool.or_eq_false_iff, Bool.and_eq_false_iff, decide_eq_true_eq, decide_eq_false_iff_not, beq_iff_eq, bne_iff_ne, Bool.not_eq_true', beq_eq_false_iff_ne, bne_eq_false_iff_eq, ne_eq, Bool.not_eq_false', Bool.true_eq_false, Bool.false_eq_true, Bool.false_or, Bool.true_or, Bool.false_and, Bool.true_and, false_or, or_false, true_and, and_true] at hb))))
  refine AOp.call rfl (by simp only [go_sem]; rfl) (by simp [go_sem]) rfl (ACalls.mono (by simp only [go_sem]; exact b_copyCheck G b ad v st hst had) ?_)
  rintro e st' ⟨rfl, rfl⟩
  (refine AOpsC_ok hK' _ _ _ ?_; (repeat simp (disch := omega) only [go_sem, Nat.reduceAdd, w_i64, w_u64, w_u8, w_u32, w_i32]); (repeat' refine And.intro ?_ ?_); (try any_goals (first | (refine hK _ _ ?_; clear hK' hQ hK Q' Kn) | (simp; done) | omega | (simp only [List.length_append, List.length_cons, List.length_nil]; omega) | (simp; omega))))
  (repeat' (first | refine AW.seq ?_ | refine AW.scope ?_ | refine AW.label ?_ | refine AW.block ?_ | refine AW.skip ?_ | refine AW.exit ?_ | refine AW.ret ?_ | (refine AW.regionC fun Q' Kn hQ hK hK' => ?_; (repeat simp (disch := omega) only [go_sem, Nat.reduceAdd, w_i64, w_u64, w_u8, w_u32, w_i32]); (repeat' refine And.intro ?_ ?_); (try any_goals (first | (refine hK _ _ ?_; clear hK' hQ hK Q' Kn) | (simp; done) | omega | (simp only [List.length_append, List.length_cons, List.length_nil]; omega) | (simp; omega)))) | (refine AW.cond (by simp (disch := omega) only [go_sem, Nat.reduceAdd, w_i64, w_u64, w_u8, w_u32, w_i32]; rfl) (fun hb => ?_) (fun hb => ?_) <;> (try simp only [Bool.or_eq_true, Bool.and_eq_true, Bool.or_eq_false_iff, Bool.and_eq_false_iff, decide_eq_true_eq, decide_eq_false_iff_not, beq_iff_eq, bne_iff_ne, Bool.not_eq_true', beq_eq_false_iff_ne, bne_eq_false_iff_eq, ne_eq, Bool.not_eq_false', Bool.true_eq_false, Bool.false_eq_true, Bool.false_or, Bool.true_or, Bool.false_and, Bool.true_and, false_or, or_false, true_and, and_true] at hb))))
  refine AOp.loadCell rfl (by simp only [go_sem] <;> rfl) (by simp [go_sem]) (St.set_same _ _ _) rfl (by simp) (by simp) ?_
  (refine AOpsC_ok hK' _ _ _ ?_; (repeat simp (disch := omega) only [go_sem, Nat.reduceAdd, w_i64, w_u64, w_u8, w_u32, w_i32]); (repeat' refine And.intro ?_ ?_); (try any_goals (first | (refine hK _ _ ?_; clear hK' hQ hK Q' Kn) | (simp; done) | omega | (simp only [List.length_append, List.length_cons, List.length_nil]; omega) | (simp; omega))))
  rcases hown with ⟨rfl, q⟩ | ⟨ia, g, rfl, e2, e3⟩
  · have hbs : bs = [] := by simpa [bytesE] using q
    subst hbs
    refine AOp.appendS_nil0 (e := 5) rfl (by simp [go_sem]) rfl rfl rfl rfl (by simp only [go_sem] <;> rfl) ?_
    (refine AOpsC_ok hK' _ _ _ ?_; (repeat simp (disch := omega) only [go_sem, Nat.reduceAdd, w_i64, w_u64, w_u8, w_u32, w_i32]); (repeat' refine And.intro ?_ ?_); (try any_goals (first | (refine hK _ _ ?_; clear hK' hQ hK Q' Kn) | (simp; done) | omega | (simp only [List.length_append, List.length_cons, List.length_nil]; omega) | (simp; omega))))
    refine AOp.store (cs := [.nils]) (t0 := 66) (es := [[.ptr b 0 0 0, .nils]]) (sz := 2) rfl (by simp only [go_sem] <;> rfl) (by simp [go_sem]) (St.set_same _ _ _) (by simp [go_sem, aCells]) rfl rfl (by simp) (by simp) ?_
    (refine AOpsC_ok hK' _ _ _ ?_; (repeat simp (disch := omega) only [go_sem, Nat.reduceAdd, w_i64, w_u64, w_u8, w_u32, w_i32]); (repeat' refine And.intro ?_ ?_); (try any_goals (first | (refine hK _ _ ?_; clear hK' hQ hK Q' Kn) | (simp; done) | omega | (simp only [List.length_append, List.length_cons, List.length_nil]; omega) | (simp; omega))))
    (repeat' (first | refine AW.seq ?_ | refine AW.scope ?_ | refine AW.label ?_ | refine AW.block ?_ | refine AW.skip ?_ | refine AW.exit ?_ | refine AW.ret ?_ | (refine AW.regionC fun Q' Kn hQ hK hK' => ?_; (repeat simp (disch := omega) only [go_sem, Nat.reduceAdd, w_i64, w_u64, w_u8, w_u32, w_i32]); (repeat' refine And.intro ?_ ?_); (try any_goals (first | (refine hK _ _ ?_; clear hK' hQ hK Q' Kn) | (simp; done) | omega | (simp only [List.length_append, List.length_cons, List.length_nil]; omega) | (simp; omega)))) | (refine AW.cond (by simp (disch := omega) only [go_sem, Nat.reduceAdd, w_i64, w_u64, w_u8, w_u32, w_i32]; rfl) (fun hb => ?_) (fun hb => ?_) <;> (try simp only [Bool.or_eq_true, Bool.and_eq_true, Bool.or_eq_false_iff, Bool.and_eq_false_iff, decide_eq_true_eq, decide_eq_false_iff_not, beq_iff_eq, bne_iff_ne, Bool.not_eq_true', beq_eq_false_iff_ne, bne_eq_false_iff_eq, ne_eq, Bool.not_eq_false', Bool.true_eq_false, Bool.false_eq_true, Bool.false_or, Bool.true_or, Bool.false_and, Bool.true_and, false_or, or_false, true_and, and_true] at hb))))
    (refine ⟨_, _, rfl, by simp, ?_⟩; simp only [aTup, AA.get, List.getD_cons_zero, List.getD_cons_succ, true_and])
    refine ⟨rfl, ⟨.ptr b 0 0 0, .nils, by rw [St.set_same]; simp [splice], .inr rfl, .inl ⟨rfl, by simp [bytesE]⟩, fun _ => rfl⟩, fun i hi hib => ?_⟩
    rw [St.set_ne _ _ hib, St.set_ne _ _ hib]
  · have hiab : ia ≠ b := fun e => hok (e ▸ e3)
    refine AOp.appendS (e := 5) (es := bytesE bs) (s := []) rfl (by simp [go_sem]) rfl rfl rfl rfl rfl rfl (by rw [St.set_ne _ _ hiab, e2]) rfl (by simp only [go_sem] <;> rfl) (by simp; omega) (by simp [maxLen]; omega) ?_
    (refine AOpsC_ok hK' _ _ _ ?_; (repeat simp (disch := omega) only [go_sem, Nat.reduceAdd, w_i64, w_u64, w_u8, w_u32, w_i32]); (repeat' refine And.intro ?_ ?_); (try any_goals (first | (refine hK _ _ ?_; clear hK' hQ hK Q' Kn) | (simp; done) | omega | (simp only [List.length_append, List.length_cons, List.length_nil]; omega) | (simp; omega))))
    refine AOp.store (cs := [.arr ia (g + 1) 1 0 ((bytesE bs).length + 0)]) (t0 := 66) (es := [[.ptr b 0 0 0, .arr ia g 1 0 (bytesE bs).length]]) (sz := 2) rfl (by simp only [go_sem] <;> rfl) (by simp [go_sem]) (by rw [St.set_ne _ _ (Ne.symm hiab), St.set_same]) (by simp [go_sem, aCells]) rfl rfl (by simp) (by simp) ?_
    (refine AOpsC_ok hK' _ _ _ ?_; (repeat simp (disch := omega) only [go_sem, Nat.reduceAdd, w_i64, w_u64, w_u8, w_u32, w_i32]); (repeat' refine And.intro ?_ ?_); (try any_goals (first | (refine hK _ _ ?_; clear hK' hQ hK Q' Kn) | (simp; done) | omega | (simp only [List.length_append, List.length_cons, List.length_nil]; omega) | (simp; omega))))
    (repeat' (first | refine AW.seq ?_ | refine AW.scope ?_ | refine AW.label ?_ | refine AW.block ?_ | refine AW.skip ?_ | refine AW.exit ?_ | refine AW.ret ?_ | (refine AW.regionC fun Q' Kn hQ hK hK' => ?_; (repeat simp (disch := omega) only [go_sem, Nat.reduceAdd, w_i64, w_u64, w_u8, w_u32, w_i32]); (repeat' refine And.intro ?_ ?_); (try any_goals (first | (refine hK _ _ ?_; clear hK' hQ hK Q' Kn) | (simp; done) | omega | (simp only [List.length_append, List.length_cons, List.length_nil]; omega) | (simp; omega)))) | (refine AW.cond (by simp (disch := omega) only [go_sem, Nat.reduceAdd, w_i64, w_u64, w_u8, w_u32, w_i32]; rfl) (fun hb => ?_) (fun hb => ?_) <;> (try simp only [Bool.or_eq_true, Bool.and_eq_true, Bool.or_eq_false_iff, Bool.and_eq_false_iff, decide_eq_true_eq, decide_eq_false_iff_not, beq_iff_eq, bne_iff_ne, Bool.not_eq_true', beq_eq_false_iff_ne, bne_eq_false_iff_eq, ne_eq, Bool.not_eq_false', Bool.true_eq_false, Bool.false_eq_true, Bool.false_or, Bool.true_or, Bool.false_and, Bool.true_and, false_or, or_false, true_and, and_true] at hb))))
    (refine ⟨_, _, rfl, by simp, ?_⟩; simp only [aTup, AA.get, List.getD_cons_zero, List.getD_cons_succ, true_and])
    refine ⟨rfl, ⟨.ptr b 0 0 0, .arr ia (g + 1) 1 0 (bytesE bs).length, by rw [St.set_same]; simp [splice], .inr rfl, .inr ⟨ia, g + 1, rfl, ?_, e3⟩, fun h => ?_⟩, fun i hi hib => ?_⟩
    · rw [St.set_ne _ _ hiab, St.set_same]; simp [bytesE]
    · have := hn h; cases this
    · have n1 : i ≠ ia := fun e => hi (e ▸ e3)
      rw [St.set_ne _ _ hib, St.set_ne _ _ n1, St.set_ne _ _ hib]
theorem w_WriteStringA (G : Nat → AV) {st0 : St} {b : Nat} {bs : List UInt8} (xs : List UInt8) {st : St} (h : BW st0 b st bs) (hlim : bs.length + xs.length ≤ 140737488355328) :
    ACalls (Ev G) 36 [.ptr b 0 0 0, .str xs] st (fun e st' => e = .ret (.tup [.int .i64 xs.length, .nili]) ∧ BW st0 b st' (bs ++ xs)) := by
  by_cases hx : xs = []
  · subst hx
    refine ACalls.mono (b_WriteString0 G b bs _ st h.bld (fun q => q.2 rfl) (fun id hid => h.fresh id hid) (by simpa using hlim)) fun x st' hq => ⟨hq.1, ?_, fun i hi hb => by
      rw [hq.2.2 i (fun q => hi q.1) hb]; exact h.keep i hi hb⟩
    rw [List.append_nil]; exact hq.2.1
  · exact w_WriteString G xs h hlim hx
end Go.Almanac
