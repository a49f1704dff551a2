/- strings.Builder: WriteString. -/
import Derived.Test.YtkkckfnkejijdaaDoorM3
import Derived.Test.YtkkckfnkejijdaaDoorMU
import Derived.Lib.LaidTab
import Derived.Lib.ItoaNum
import Derived.Test.YtkkckfnkejijdaaDoorM4
/- What every walk of this project's layers begins with. -/
namespace Go.Almanac
open Go.RowKit Go.Proofs Go.Abs

/-- What the library's variables hold whole. -/

def Wf (n0 : Nat) (w : World) : Prop := True

noncomputable def Ev (G : Nat → AV) : Env := ⟨Tryd.prog, G, Wf⟩
@[go_sem] theorem Ev_P (G : Nat → AV) : (Ev G).P = Tryd.prog := rfl

/-- Conditions are told plainly: these laws as one. -/
theorem redB : type_of% (And.intro @Bool.or_eq_true (And.intro @Bool.and_eq_true (And.intro @Bool.or_eq_false_iff (And.intro @Bool.and_eq_false_iff (And.intro @decide_eq_true_eq (And.intro @decide_eq_false_iff_not (And.intro @beq_iff_eq.{0} (And.intro @bne_iff_ne.{0} (And.intro @Bool.not_eq_true' (And.intro @beq_eq_false_iff_ne.{0} (And.intro @bne_eq_false_iff_eq.{0} (And.intro @ne_eq.{1} (And.intro @Bool.not_eq_false' (And.intro @Bool.true_eq_false (And.intro @Bool.false_eq_true (And.intro @Bool.false_or (And.intro @Bool.true_or (And.intro @Bool.false_and (And.intro @Bool.true_and (And.intro @false_or (And.intro @or_false (And.intro @true_and @and_true)))))))))))))))))))))) := (And.intro @Bool.or_eq_true (And.intro @Bool.and_eq_true (And.intro @Bool.or_eq_false_iff (And.intro @Bool.and_eq_false_iff (And.intro @decide_eq_true_eq (And.intro @decide_eq_false_iff_not (And.intro @beq_iff_eq.{0} (And.intro @bne_iff_ne.{0} (And.intro @Bool.not_eq_true' (And.intro @beq_eq_false_iff_ne.{0} (And.intro @bne_eq_false_iff_eq.{0} (And.intro @ne_eq.{1} (And.intro @Bool.not_eq_false' (And.intro @Bool.true_eq_false (And.intro @Bool.false_eq_true (And.intro @Bool.false_or (And.intro @Bool.true_or (And.intro @Bool.false_and (And.intro @Bool.true_and (And.intro @false_or (And.intro @or_false (And.intro @true_and @and_true))))))))))))))))))))))
/-- Numbers are reckoned: these laws as one. -/
theorem redN : type_of% (And.intro @and_1_u8 (And.intro @and_3_u8 (And.intro @and_7_u8 (And.intro @and_15_u8 (And.intro @and_31_u8 (And.intro @and_63_u8 (And.intro @and_127_u8 (And.intro @and_1_u32 (And.intro @and_3_u32 (And.intro @and_7_u32 (And.intro @and_15_u32 (And.intro @and_31_u32 (And.intro @and_63_u32 (And.intro @and_127_u32 (And.intro @and_1_u64 (And.intro @and_3_u64 (And.intro @and_7_u64 (And.intro @and_15_u64 (And.intro @and_31_u64 (And.intro @and_63_u64 (And.intro @and_127_u64 (And.intro @and_1_i32 (And.intro @and_3_i32 (And.intro @and_7_i32 (And.intro @and_15_i32 (And.intro @and_31_i32 (And.intro @and_63_i32 (And.intro @and_127_i32 (And.intro @and_1_i64 (And.intro @and_3_i64 (And.intro @and_7_i64 (And.intro @and_15_i64 (And.intro @and_31_i64 (And.intro @and_63_i64 (And.intro @and_127_i64 (And.intro @fdivp (And.intro @shr_nat (And.intro @tmodp (And.intro @tdivp (And.intro @Int.toNat_natCast (And.intro @w_i64 (And.intro @w_u64 (And.intro @w_u8 (And.intro @w_u32 (And.intro @w_i32 @Nat.min_eq_left))))))))))))))))))))))))))))))))))))))))))))) := (And.intro @and_1_u8 (And.intro @and_3_u8 (And.intro @and_7_u8 (And.intro @and_15_u8 (And.intro @and_31_u8 (And.intro @and_63_u8 (And.intro @and_127_u8 (And.intro @and_1_u32 (And.intro @and_3_u32 (And.intro @and_7_u32 (And.intro @and_15_u32 (And.intro @and_31_u32 (And.intro @and_63_u32 (And.intro @and_127_u32 (And.intro @and_1_u64 (And.intro @and_3_u64 (And.intro @and_7_u64 (And.intro @and_15_u64 (And.intro @and_31_u64 (And.intro @and_63_u64 (And.intro @and_127_u64 (And.intro @and_1_i32 (And.intro @and_3_i32 (And.intro @and_7_i32 (And.intro @and_15_i32 (And.intro @and_31_i32 (And.intro @and_63_i32 (And.intro @and_127_i32 (And.intro @and_1_i64 (And.intro @and_3_i64 (And.intro @and_7_i64 (And.intro @and_15_i64 (And.intro @and_31_i64 (And.intro @and_63_i64 (And.intro @and_127_i64 (And.intro @fdivp (And.intro @shr_nat (And.intro @tmodp (And.intro @tdivp (And.intro @Int.toNat_natCast (And.intro @w_i64 (And.intro @w_u64 (And.intro @w_u8 (And.intro @w_u32 (And.intro @w_i32 @Nat.min_eq_left)))))))))))))))))))))))))))))))))))))))))))))
/-- Lengths. -/
theorem redL : type_of% (And.intro @List.length_append.{0} (And.intro @List.length_cons.{0} @List.length_nil.{0})) := (And.intro @List.length_append.{0} (And.intro @List.length_cons.{0} @List.length_nil.{0}))

theorem drop_cons {s : List UInt8} {n : Nat} (h : n < s.length) : s.drop n = s.getD n 0 :: s.drop (n + 1) := by
  rw [List.drop_eq_getElem_cons h]; simp [List.getD, List.getElem?_eq_getElem h]
theorem take_succ_getD {s : List UInt8} {i : Nat} (h : i < s.length) : s.take (i + 1) = s.take i ++ [s.getD i 0] := by
  rw [List.take_add_one]; simp [List.getD, List.getElem?_eq_getElem h]
theorem bytesE_getD {s : List UInt8} {i : Nat} (h : i < s.length) : ((bytesE s).getD i []).getD 0 AV.junk = .int .u8 ((s.getD i 0).toNat : Int) := by
  simp [bytesE, List.getD, List.getElem?_eq_getElem h]
theorem getD_drop (s : List UInt8) (i j : Nat) : (s.drop i).getD j 0 = s.getD (i + j) 0 := by simp [List.getD]
theorem wrap_u8 (q : Nat) : IntKind.u8.wrap (q : Int) = (((UInt8.ofNat q).toNat : Nat) : Int) := by
  rw [UInt8.toNat_ofNat']
  simp [IntKind.wrap, IntKind.signed, IntKind.bits]
theorem bytesE_set (l : List UInt8) (i : Nat) (c : UInt8) : (bytesE l).set i [.int .u8 (c.toNat : Int)] = bytesE (l.set i c) := by
  simp only [bytesE, List.map_set]
end Go.Almanac

/- strings.Builder: a builder in a block of its own, and what its methods do. -/
namespace Go.Almanac
open Go.RowKit Go.Proofs Go.Abs

set_option linter.unusedSimpArgs false
set_option linter.unusedVariables false
set_option linter.unusedSectionVars false
set_option maxRecDepth 10000

/-- A builder in block b holds the bytes bs; what holds them is a block that is ok. -/
structure Bld (st : St) (b : Nat) (bs : List UInt8) (ok : Nat → Prop) : Prop where
  ex : ∃ ad v, st b = some (.cells 70 0 2 [[ad, v]]) ∧ (ad = .nilp ∨ ad = .ptr b 0 0 0) ∧ OwnS st 5 1 v (bytesE bs) ok ∧ (bs = [] → v = .nils)

theorem b_copyCheck (G : Nat → AV) (b : Nat) (ad v : AV) (st : St) (hst : st b = some (.cells 70 0 2 [[ad, v]])) (had : ad = .nilp ∨ ad = .ptr b 0 0 0) :
    ACalls (Ev G) 69 [.ptr b 0 0 0] st (fun e st' => st' = st.set b (.cells 70 0 2 [[.ptr b 0 0 0, v]]) ∧ e = .ret (.tup [])) := by
  refine ACalls.of_body Tryd.func69 rfl ?_
  rw [Tryd.ntmps69]
  simp only [List.length_cons, List.length_nil, Nat.reduceAdd, Nat.reduceSub, List.replicate_succ, List.replicate_zero, List.cons_append, List.nil_append]
  rcases had with rfl | rfl
  · (repeat' (first | refine AW.seq ?_ | refine AW.scope ?_ | refine AW.label ?_ | refine AW.block ?_ | refine AW.skip ?_ | refine AW.exit ?_ | refine AW.ret ?_ | (refine AW.regionC fun Q' Kn hQ hK hK' => ?_; (repeat simp (disch := omega) only [go_sem, Nat.reduceAdd, w_i64, w_u64, w_u8, w_u32, w_i32]); (repeat' refine And.intro ?_ ?_); (try any_goals (first | (refine hK _ _ ?_; clear hK' hQ hK Q' Kn) | (simp; done) | omega | (simp only [List.length_append, List.length_cons, List.length_nil]; omega) | (simp; omega)))) | (refine AW.cond (by simp (disch := omega) only [go_sem, Nat.reduceAdd, w_i64, w_u64, w_u8, w_u32, w_i32]; rfl) (fun hb => ?_) (fun hb => ?_) <;> (try simp only [Bool.or_eq_true, Bool.and_eq_true, Bool.or_eq_false_iff, Bool.and_eq_false_iff, decide_eq_true_eq, decide_eq_false_iff_not, beq_iff_eq, bne_iff_ne, Bool.not_eq_true', beq_eq_false_iff_ne, bne_eq_false_iff_eq, ne_eq, Bool.not_eq_false', Bool.true_eq_false, Bool.false_eq_true, Bool.false_or, Bool.true_or, Bool.false_and, Bool.true_and, false_or, or_false, true_and, and_true] at hb))))
    refine AOp.loadCell rfl (by simp only [go_sem] <;> rfl) (by simp [go_sem]) hst rfl (by simp) (by simp) ?_
    (refine AOpsC_ok hK' _ _ _ ?_; (repeat simp (disch := omega) only [go_sem, Nat.reduceAdd, w_i64, w_u64, w_u8, w_u32, w_i32]); (repeat' refine And.intro ?_ ?_); (try any_goals (first | (refine hK _ _ ?_; clear hK' hQ hK Q' Kn) | (simp; done) | omega | (simp only [List.length_append, List.length_cons, List.length_nil]; omega) | (simp; omega))))
    (repeat' (first | refine AW.seq ?_ | refine AW.scope ?_ | refine AW.label ?_ | refine AW.block ?_ | refine AW.skip ?_ | refine AW.exit ?_ | refine AW.ret ?_ | (refine AW.regionC fun Q' Kn hQ hK hK' => ?_; (repeat simp (disch := omega) only [go_sem, Nat.reduceAdd, w_i64, w_u64, w_u8, w_u32, w_i32]); (repeat' refine And.intro ?_ ?_); (try any_goals (first | (refine hK _ _ ?_; clear hK' hQ hK Q' Kn) | (simp; done) | omega | (simp only [List.length_append, List.length_cons, List.length_nil]; omega) | (simp; omega)))) | (refine AW.cond (by simp (disch := omega) only [go_sem, Nat.reduceAdd, w_i64, w_u64, w_u8, w_u32, w_i32]; rfl) (fun hb => ?_) (fun hb => ?_) <;> (try simp only [Bool.or_eq_true, Bool.and_eq_true, Bool.or_eq_false_iff, Bool.and_eq_false_iff, decide_eq_true_eq, decide_eq_false_iff_not, beq_iff_eq, bne_iff_ne, Bool.not_eq_true', beq_eq_false_iff_ne, bne_eq_false_iff_eq, ne_eq, Bool.not_eq_false', Bool.true_eq_false, Bool.false_eq_true, Bool.false_or, Bool.true_or, Bool.false_and, Bool.true_and, false_or, or_false, true_and, and_true] at hb))))
    refine AOp.toUnsafe rfl (by simp only [go_sem] <;> rfl) (by simp [go_sem]) hst (by decide) rfl rfl rfl ?_
    (refine AOpsC_ok hK' _ _ _ ?_; (repeat simp (disch := omega) only [go_sem, Nat.reduceAdd, w_i64, w_u64, w_u8, w_u32, w_i32]); (repeat' refine And.intro ?_ ?_); (try any_goals (first | (refine hK _ _ ?_; clear hK' hQ hK Q' Kn) | (simp; done) | omega | (simp only [List.length_append, List.length_cons, List.length_nil]; omega) | (simp; omega))))
    refine AOp.same (fn := Tryd.f83) rfl (by simp only [go_sem] <;> rfl) (by simp [go_sem]) rfl (by kernel_rfl) (by kernel_rfl) (by kernel_rfl) (by kernel_rfl) ?_
    (refine AOpsC_ok hK' _ _ _ ?_; (repeat simp (disch := omega) only [go_sem, Nat.reduceAdd, w_i64, w_u64, w_u8, w_u32, w_i32]); (repeat' refine And.intro ?_ ?_); (try any_goals (first | (refine hK _ _ ?_; clear hK' hQ hK Q' Kn) | (simp; done) | omega | (simp only [List.length_append, List.length_cons, List.length_nil]; omega) | (simp; omega))))
    refine AOp.fromUnsafe (n := 2) rfl (by simp only [go_sem] <;> rfl) (by simp [go_sem]) hst (by decide) rfl rfl rfl (fun k hk => ?_) ?_
    · rw [show (Ev G).P = Tryd.prog from rfl, show Tryd.prog.cellsOf 70 = 2 from rfl, Nat.mul_div_cancel _ (by decide)]
      exact liesAt_head (by decide) hk
    (refine AOpsC_ok hK' _ _ _ ?_; (repeat simp (disch := omega) only [go_sem, Nat.reduceAdd, w_i64, w_u64, w_u8, w_u32, w_i32]); (repeat' refine And.intro ?_ ?_); (try any_goals (first | (refine hK _ _ ?_; clear hK' hQ hK Q' Kn) | (simp; done) | omega | (simp only [List.length_append, List.length_cons, List.length_nil]; omega) | (simp; omega))))
    refine AOp.store (cs := [.ptr b 0 0 0]) rfl (by simp only [go_sem] <;> rfl) (by simp [go_sem]) hst (by simp only [go_sem, aCells]) rfl rfl (by simp) (by simp) ?_
    (refine AOpsC_ok hK' _ _ _ ?_; (repeat simp (disch := omega) only [go_sem, Nat.reduceAdd, w_i64, w_u64, w_u8, w_u32, w_i32]); (repeat' refine And.intro ?_ ?_); (try any_goals (first | (refine hK _ _ ?_; clear hK' hQ hK Q' Kn) | (simp; done) | omega | (simp only [List.length_append, List.length_cons, List.length_nil]; omega) | (simp; omega))))
    (repeat' (first | refine AW.seq ?_ | refine AW.scope ?_ | refine AW.label ?_ | refine AW.block ?_ | refine AW.skip ?_ | refine AW.exit ?_ | refine AW.ret ?_ | (refine AW.regionC fun Q' Kn hQ hK hK' => ?_; (repeat simp (disch := omega) only [go_sem, Nat.reduceAdd, w_i64, w_u64, w_u8, w_u32, w_i32]); (repeat' refine And.intro ?_ ?_); (try any_goals (first | (refine hK _ _ ?_; clear hK' hQ hK Q' Kn) | (simp; done) | omega | (simp only [List.length_append, List.length_cons, List.length_nil]; omega) | (simp; omega)))) | (refine AW.cond (by simp (disch := omega) only [go_sem, Nat.reduceAdd, w_i64, w_u64, w_u8, w_u32, w_i32]; rfl) (fun hb => ?_) (fun hb => ?_) <;> (try simp only [Bool.or_eq_true, Bool.and_eq_true, Bool.or_eq_false_iff, Bool.and_eq_false_iff, decide_eq_true_eq, decide_eq_false_iff_not, beq_iff_eq, bne_iff_ne, Bool.not_eq_true', beq_eq_false_iff_ne, bne_eq_false_iff_eq, ne_eq, Bool.not_eq_false', Bool.true_eq_false, Bool.false_eq_true, Bool.false_or, Bool.true_or, Bool.false_and, Bool.true_and, false_or, or_false, true_and, and_true] at hb))))
    (refine ⟨_, _, rfl, by simp, ?_⟩; simp only [aTup, AA.get, List.getD_cons_zero, List.getD_cons_succ, true_and])
    simp [splice]
  · (repeat' (first | refine AW.seq ?_ | refine AW.scope ?_ | refine AW.label ?_ | refine AW.block ?_ | refine AW.skip ?_ | refine AW.exit ?_ | refine AW.ret ?_ | (refine AW.regionC fun Q' Kn hQ hK hK' => ?_; (repeat simp (disch := omega) only [go_sem, Nat.reduceAdd, w_i64, w_u64, w_u8, w_u32, w_i32]); (repeat' refine And.intro ?_ ?_); (try any_goals (first | (refine hK _ _ ?_; clear hK' hQ hK Q' Kn) | (simp; done) | omega | (simp only [List.length_append, List.length_cons, List.length_nil]; omega) | (simp; omega)))) | (refine AW.cond (by simp (disch := omega) only [go_sem, Nat.reduceAdd, w_i64, w_u64, w_u8, w_u32, w_i32]; rfl) (fun hb => ?_) (fun hb => ?_) <;> (try simp only [Bool.or_eq_true, Bool.and_eq_true, Bool.or_eq_false_iff, Bool.and_eq_false_iff, decide_eq_true_eq, decide_eq_false_iff_not, beq_iff_eq, bne_iff_ne, Bool.not_eq_true', beq_eq_false_iff_ne, bne_eq_false_iff_eq, ne_eq, Bool.not_eq_false', Bool.true_eq_false, Bool.false_eq_true, Bool.false_or, Bool.true_or, Bool.false_and, Bool.true_and, false_or, or_false, true_and, and_true] at hb))))
    refine AOp.loadCell rfl (by simp only [go_sem] <;> rfl) (by simp [go_sem]) hst rfl (by simp) (by simp) ?_
    (refine AOpsC_ok hK' _ _ _ ?_; (repeat simp (disch := omega) only [go_sem, Nat.reduceAdd, w_i64, w_u64, w_u8, w_u32, w_i32]); (repeat' refine And.intro ?_ ?_); (try any_goals (first | (refine hK _ _ ?_; clear hK' hQ hK Q' Kn) | (simp; done) | omega | (simp only [List.length_append, List.length_cons, List.length_nil]; omega) | (simp; omega))))
    (repeat' (first | refine AW.seq ?_ | refine AW.scope ?_ | refine AW.label ?_ | refine AW.block ?_ | refine AW.skip ?_ | refine AW.exit ?_ | refine AW.ret ?_ | (refine AW.regionC fun Q' Kn hQ hK hK' => ?_; (repeat simp (disch := omega) only [go_sem, Nat.reduceAdd, w_i64, w_u64, w_u8, w_u32, w_i32]); (repeat' refine And.intro ?_ ?_); (try any_goals (first | (refine hK _ _ ?_; clear hK' hQ hK Q' Kn) | (simp; done) | omega | (simp only [List.length_append, List.length_cons, List.length_nil]; omega) | (simp; omega)))) | (refine AW.cond (by simp (disch := omega) only [go_sem, Nat.reduceAdd, w_i64, w_u64, w_u8, w_u32, w_i32]; rfl) (fun hb => ?_) (fun hb => ?_) <;> (try simp only [Bool.or_eq_true, Bool.and_eq_true, Bool.or_eq_false_iff, Bool.and_eq_false_iff, decide_eq_true_eq, decide_eq_false_iff_not, beq_iff_eq, bne_iff_ne, Bool.not_eq_true', beq_eq_false_iff_ne, bne_eq_false_iff_eq, ne_eq, Bool.not_eq_false', Bool.true_eq_false, Bool.false_eq_true, Bool.false_or, Bool.true_or, Bool.false_and, Bool.true_and, false_or, or_false, true_and, and_true] at hb))))
    refine AOp.loadCell rfl (by simp only [go_sem] <;> rfl) (by simp [go_sem]) hst rfl (by simp) (by simp) ?_
    (refine AOpsC_ok hK' _ _ _ ?_; (repeat simp (disch := omega) only [go_sem, Nat.reduceAdd, w_i64, w_u64, w_u8, w_u32, w_i32]); (repeat' refine And.intro ?_ ?_); (try any_goals (first | (refine hK _ _ ?_; clear hK' hQ hK Q' Kn) | (simp; done) | omega | (simp only [List.length_append, List.length_cons, List.length_nil]; omega) | (simp; omega))))
    refine AOp.ptrNe (n := 2) rfl (by simp [go_sem]) (by simp only [go_sem] <;> rfl) (by simp only [go_sem] <;> rfl) hst rfl rfl ?_
    (refine AOpsC_ok hK' _ _ _ ?_; (repeat simp (disch := omega) only [go_sem, Nat.reduceAdd, w_i64, w_u64, w_u8, w_u32, w_i32]); (repeat' refine And.intro ?_ ?_); (try any_goals (first | (refine hK _ _ ?_; clear hK' hQ hK Q' Kn) | (simp; done) | omega | (simp only [List.length_append, List.length_cons, List.length_nil]; omega) | (simp; omega))))
    (repeat' (first | refine AW.seq ?_ | refine AW.scope ?_ | refine AW.label ?_ | refine AW.block ?_ | refine AW.skip ?_ | refine AW.exit ?_ | refine AW.ret ?_ | (refine AW.regionC fun Q' Kn hQ hK hK' => ?_; (repeat simp (disch := omega) only [go_sem, Nat.reduceAdd, w_i64, w_u64, w_u8, w_u32, w_i32]); (repeat' refine And.intro ?_ ?_); (try any_goals (first | (refine hK _ _ ?_; clear hK' hQ hK Q' Kn) | (simp; done) | omega | (simp only [List.length_append, List.length_cons, List.length_nil]; omega) | (simp; omega)))) | (refine AW.cond (by simp (disch := omega) only [go_sem, Nat.reduceAdd, w_i64, w_u64, w_u8, w_u32, w_i32]; rfl) (fun hb => ?_) (fun hb => ?_) <;> (try simp only [Bool.or_eq_true, Bool.and_eq_true, Bool.or_eq_false_iff, Bool.and_eq_false_iff, decide_eq_true_eq, decide_eq_false_iff_not, beq_iff_eq, bne_iff_ne, Bool.not_eq_true', beq_eq_false_iff_ne, bne_eq_false_iff_eq, ne_eq, Bool.not_eq_false', Bool.true_eq_false, Bool.false_eq_true, Bool.false_or, Bool.true_or, Bool.false_and, Bool.true_and, false_or, or_false, true_and, and_true] at hb))))
    (refine ⟨_, _, rfl, by simp, ?_⟩; simp only [aTup, AA.get, List.getD_cons_zero, List.getD_cons_succ, true_and])
    exact ⟨(St.set_self _ hst).symm, trivial⟩

end Go.Almanac

/- strings.Builder: String, Len. -/
namespace Go.Almanac
open Go.RowKit Go.Proofs Go.Abs

set_option linter.unusedSimpArgs false
set_option linter.unusedVariables false
set_option linter.unusedSectionVars false
set_option maxRecDepth 10000

theorem b_String (G : Nat → AV) (b : Nat) (bs : List UInt8) (h0 : bs ≠ []) (ok : Nat → Prop) (st : St) (hB : Bld st b bs ok) :
    ACalls (Ev G) 52 [.ptr b 0 0 0] st (fun e st' => e = .ret (.str bs) ∧ ∀ i, ¬ ok i → st' i = st i) := by
  obtain ⟨ad, v, hst, had, hown, _⟩ := hB
  refine ACalls.of_body Tryd.func52 rfl ?_
  rw [Tryd.ntmps52]
  simp only [List.length_cons, List.length_nil, Nat.reduceAdd, Nat.reduceSub, List.replicate_succ, List.replicate_zero, List.cons_append, List.nil_append]
  rcases hown with ⟨rfl, h⟩ | ⟨ia, g, rfl, q1, q2⟩
  · exfalso; apply h0; cases bs <;> simp_all [bytesE]
  (repeat' (first | refine AW.seq ?_ | refine AW.scope ?_ | refine AW.label ?_ | refine AW.block ?_ | refine AW.skip ?_ | refine AW.exit ?_ | refine AW.ret ?_ | (refine AW.regionC fun Q' Kn hQ hK hK' => ?_; (repeat simp (disch := omega) only [go_sem, Nat.reduceAdd, w_i64, w_u64, w_u8, w_u32, w_i32]); (repeat' refine And.intro ?_ ?_); (try any_goals (first | (refine hK _ _ ?_; clear hK' hQ hK Q' Kn) | (simp; done) | omega | (simp only [List.length_append, List.length_cons, List.length_nil]; omega) | (simp; omega)))) | (refine AW.cond (by simp (disch := omega) only [go_sem, Nat.reduceAdd, w_i64, w_u64, w_u8, w_u32, w_i32]; rfl) (fun hb => ?_) (fun hb => ?_) <;> (try simp only [Bool.or_eq_true, Bool.and_eq_true, Bool.or_eq_false_iff, Bool.and_eq_false_iff, decide_eq_true_eq, decide_eq_false_iff_not, beq_iff_eq, bne_iff_ne, Bool.not_eq_true', beq_eq_false_iff_ne, bne_eq_false_iff_eq, ne_eq, Bool.not_eq_false', Bool.true_eq_false, Bool.false_eq_true, Bool.false_or, Bool.true_or, Bool.false_and, Bool.true_and, false_or, or_false, true_and, and_true] at hb))))
  refine AW.drawnB 8 (List.range 12) (by decide +kernel) fun Q' Kn hQ hK hK' => ?_
  refine FxBC_ok _ _ _ ?_
  simp (disch := omega) only [go_sem, Nat.reduceAdd, w_i64, w_u64, w_u8, w_u32, w_i32]
  have hpos : 0 < bs.length := by cases bs <;> simp_all
  refine FxB.fixed (Fixed.loadCell rfl rfl rfl (by simp only [go_sem] <;> rfl) (by simp [go_sem]) hst rfl (by simp) (by simp)) ?_
  refine FxBC_ok _ _ _ ?_
  simp (disch := omega) only [go_sem, Nat.reduceAdd, w_i64, w_u64, w_u8, w_u32, w_i32]
  refine FxB.fixed (Fixed.sliceData rfl rfl rfl (by simp only [go_sem] <;> rfl) (by simp [go_sem]) (by simpa using hpos)) ?_
  refine FxBC_ok _ _ _ ?_
  simp (disch := omega) only [go_sem, Nat.reduceAdd, w_i64, w_u64, w_u8, w_u32, w_i32]
  refine FxB.fixed (Fixed.loadCell rfl rfl rfl (by simp only [go_sem] <;> rfl) (by simp [go_sem]) hst rfl (by simp) (by simp)) ?_
  refine FxBC_ok _ _ _ ?_
  simp (disch := omega) only [go_sem, Nat.reduceAdd, w_i64, w_u64, w_u8, w_u32, w_i32]
  repeat' refine And.intro ?_ ?_
  all_goals (try (first | (simp; done) | omega))
  refine FxB.barrier (by decide +kernel) rfl rfl (AOp.unsafeStr (s := bs) (e := 5) rfl (by simp [go_sem]) (by simp only [go_sem] <;> rfl) (by simp [go_sem]) q1 h0 rfl rfl ?_)
  refine FxBC_ok _ _ _ ?_
  simp (disch := omega) only [go_sem, Nat.reduceAdd, w_i64, w_u64, w_u8, w_u32, w_i32]
  repeat' refine And.intro ?_ ?_
  all_goals (try (first | (simp; done) | omega))
  refine hK _ _ ?_
  clear hK' hQ hK Q' Kn
  (repeat' (first | refine AW.seq ?_ | refine AW.scope ?_ | refine AW.label ?_ | refine AW.block ?_ | refine AW.skip ?_ | refine AW.exit ?_ | refine AW.ret ?_ | (refine AW.regionC fun Q' Kn hQ hK hK' => ?_; (repeat simp (disch := omega) only [go_sem, Nat.reduceAdd, w_i64, w_u64, w_u8, w_u32, w_i32]); (repeat' refine And.intro ?_ ?_); (try any_goals (first | (refine hK _ _ ?_; clear hK' hQ hK Q' Kn) | (simp; done) | omega | (simp only [List.length_append, List.length_cons, List.length_nil]; omega) | (simp; omega)))) | (refine AW.cond (by simp (disch := omega) only [go_sem, Nat.reduceAdd, w_i64, w_u64, w_u8, w_u32, w_i32]; rfl) (fun hb => ?_) (fun hb => ?_) <;> (try simp only [Bool.or_eq_true, Bool.and_eq_true, Bool.or_eq_false_iff, Bool.and_eq_false_iff, decide_eq_true_eq, decide_eq_false_iff_not, beq_iff_eq, bne_iff_ne, Bool.not_eq_true', beq_eq_false_iff_ne, bne_eq_false_iff_eq, ne_eq, Bool.not_eq_false', Bool.true_eq_false, Bool.false_eq_true, Bool.false_or, Bool.true_or, Bool.false_and, Bool.true_and, false_or, or_false, true_and, and_true] at hb))))
  (refine ⟨_, _, rfl, by simp, ?_⟩; simp only [aTup, AA.get, List.getD_cons_zero, List.getD_cons_succ, true_and])
  first | exact fun i hi => St.del_ne _ (fun e => hi (e ▸ q2)) | exact ⟨rfl, fun i hi => St.del_ne _ (fun e => hi (e ▸ q2))⟩
end Go.Almanac

/- strings.Builder: String at every builder. -/
namespace Go.Almanac
open Go.RowKit Go.Proofs Go.Abs

set_option linter.unusedSimpArgs false
set_option linter.unusedVariables false
set_option linter.unusedSectionVars false
set_option maxRecDepth 10000

theorem b_StringAny (G : Nat → AV) (b : Nat) (bs : List UInt8) (ok : Nat → Prop) (st : St) (hB : Bld st b bs ok) :
    ACalls (Ev G) 52 [.ptr b 0 0 0] st (fun e st' => e = .ret (.str bs) ∧ ∀ i, ¬ ok i → st' i = st i) := by
  by_cases h0 : bs = []
  · subst h0
    obtain ⟨ad, v, hst, had, hown, hn⟩ := hB
    rcases hown with ⟨rfl, _⟩ | ⟨ia, g, rfl, q1, q2⟩
    · refine ACalls.of_body Tryd.func52 rfl ?_
      rw [Tryd.ntmps52]
      simp only [List.length_cons, List.length_nil, Nat.reduceAdd, Nat.reduceSub, List.replicate_succ, List.replicate_zero, List.cons_append, List.nil_append]
      (repeat' (first | refine AW.seq ?_ | refine AW.scope ?_ | refine AW.label ?_ | refine AW.block ?_ | refine AW.skip ?_ | refine AW.exit ?_ | refine AW.ret ?_ | (refine AW.regionC fun Q' Kn hQ hK hK' => ?_; (repeat simp (disch := omega) only [go_sem, Nat.reduceAdd, w_i64, w_u64, w_u8, w_u32, w_i32]); (repeat' refine And.intro ?_ ?_); (try any_goals (first | (refine hK _ _ ?_; clear hK' hQ hK Q' Kn) | (simp; done) | omega | (simp only [List.length_append, List.length_cons, List.length_nil]; omega) | (simp; omega)))) | (refine AW.cond (by simp (disch := omega) only [go_sem, Nat.reduceAdd, w_i64, w_u64, w_u8, w_u32, w_i32]; rfl) (fun hb => ?_) (fun hb => ?_) <;> (try simp only [Bool.or_eq_true, Bool.and_eq_true, Bool.or_eq_false_iff, Bool.and_eq_false_iff, decide_eq_true_eq, decide_eq_false_iff_not, beq_iff_eq, bne_iff_ne, Bool.not_eq_true', beq_eq_false_iff_ne, bne_eq_false_iff_eq, ne_eq, Bool.not_eq_false', Bool.true_eq_false, Bool.false_eq_true, Bool.false_or, Bool.true_or, Bool.false_and, Bool.true_and, false_or, or_false, true_and, and_true] at hb))))
      refine AW.drawnB 8 (List.range 12) (by decide +kernel) fun Q' Kn hQ hK hK' => ?_
      refine FxBC_ok _ _ _ ?_
      simp (disch := omega) only [go_sem, Nat.reduceAdd, w_i64, w_u64, w_u8, w_u32, w_i32]
      refine FxB.fixed (Fixed.loadCell rfl rfl rfl (by simp only [go_sem] <;> rfl) (by simp [go_sem]) hst rfl (by simp) (by simp)) ?_
      refine FxBC_ok _ _ _ ?_
      simp (disch := omega) only [go_sem, Nat.reduceAdd, w_i64, w_u64, w_u8, w_u32, w_i32]
      refine FxB.fixed (Fixed.sliceDataNil rfl rfl rfl (by simp only [go_sem] <;> rfl) (by simp [go_sem])) ?_
      refine FxBC_ok _ _ _ ?_
      simp (disch := omega) only [go_sem, Nat.reduceAdd, w_i64, w_u64, w_u8, w_u32, w_i32]
      refine FxB.fixed (Fixed.loadCell rfl rfl rfl (by simp only [go_sem] <;> rfl) (by simp [go_sem]) hst rfl (by simp) (by simp)) ?_
      refine FxBC_ok _ _ _ ?_
      simp (disch := omega) only [go_sem, Nat.reduceAdd, w_i64, w_u64, w_u8, w_u32, w_i32]
      repeat' refine And.intro ?_ ?_
      all_goals (try (first | (simp; done) | omega))
      refine FxB.fixed (Fixed.unsafeStrNil rfl rfl rfl (by simp only [go_sem] <;> rfl) (by simp only [go_sem] <;> rfl) (by simp [go_sem])) ?_
      refine FxBC_ok _ _ _ ?_
      simp (disch := omega) only [go_sem, Nat.reduceAdd, w_i64, w_u64, w_u8, w_u32, w_i32]
      repeat' refine And.intro ?_ ?_
      all_goals (try (first | (simp; done) | omega))
      refine hK _ _ ?_
      clear hK' hQ hK Q' Kn
      (repeat' (first | refine AW.seq ?_ | refine AW.scope ?_ | refine AW.label ?_ | refine AW.block ?_ | refine AW.skip ?_ | refine AW.exit ?_ | refine AW.ret ?_ | (refine AW.regionC fun Q' Kn hQ hK hK' => ?_; (repeat simp (disch := omega) only [go_sem, Nat.reduceAdd, w_i64, w_u64, w_u8, w_u32, w_i32]); (repeat' refine And.intro ?_ ?_); (try any_goals (first | (refine hK _ _ ?_; clear hK' hQ hK Q' Kn) | (simp; done) | omega | (simp only [List.length_append, List.length_cons, List.length_nil]; omega) | (simp; omega)))) | (refine AW.cond (by simp (disch := omega) only [go_sem, Nat.reduceAdd, w_i64, w_u64, w_u8, w_u32, w_i32]; rfl) (fun hb => ?_) (fun hb => ?_) <;> (try simp only [Bool.or_eq_true, Bool.and_eq_true, Bool.or_eq_false_iff, Bool.and_eq_false_iff, decide_eq_true_eq, decide_eq_false_iff_not, beq_iff_eq, bne_iff_ne, Bool.not_eq_true', beq_eq_false_iff_ne, bne_eq_false_iff_eq, ne_eq, Bool.not_eq_false', Bool.true_eq_false, Bool.false_eq_true, Bool.false_or, Bool.true_or, Bool.false_and, Bool.true_and, false_or, or_false, true_and, and_true] at hb))))
      (refine ⟨_, _, rfl, by simp, ?_⟩; simp only [aTup, AA.get, List.getD_cons_zero, List.getD_cons_succ, true_and])
      exact fun _ _ => trivial
    · cases hn rfl
  · exact b_String G b bs h0 ok st hB
end Go.Almanac

/- strings.Builder: Write. -/
namespace Go.Almanac
open Go.RowKit Go.Proofs Go.Abs

set_option linter.unusedSimpArgs false
set_option linter.unusedVariables false
set_option linter.unusedSectionVars false
set_option maxRecDepth 10000

end Go.Almanac

/- strings.Builder: a walk that owns one. -/
namespace Go.Almanac
open Go.RowKit Go.Proofs Go.Abs

set_option linter.unusedSimpArgs false
set_option linter.unusedVariables false
set_option linter.unusedSectionVars false
set_option maxRecDepth 10000

/-- A walk that began with st0 owns the builder b, which holds bs; all else of st0 is as it was. -/
structure BW (st0 : St) (b : Nat) (st : St) (bs : List UInt8) : Prop where
  bld : Bld st b bs (fun i => st0 i = none ∧ i ≠ b)
  keep : ∀ i, st0 i ≠ none → i ≠ b → st i = st0 i

theorem BW.fresh {st0 : St} {b : Nat} {st : St} {bs : List UInt8} (h : BW st0 b st bs) : ∀ id, st id = none → st0 id = none ∧ id ≠ b := by
  intro id hid
  have hb : id ≠ b := fun e => by
    obtain ⟨⟨ad, v, hst, _⟩⟩ := h.bld
    subst e; rw [hst] at hid; cases hid
  refine ⟨?_, hb⟩
  cases hx : st0 id with
  | none => rfl
  | some B => have := h.keep id (by simp [hx]) hb; rw [hid, hx] at this; cases this

theorem BW.new {st0 : St} {b : Nat} (h : st0 b = some (.cells 70 0 2 [[.nilp, .nils]])) : BW st0 b st0 [] :=
  ⟨⟨_, _, h, .inl rfl, .inl ⟨rfl, rfl⟩, fun _ => rfl⟩, fun _ _ _ => rfl⟩

theorem BW.set {st0 : St} {b : Nat} {st : St} {bs : List UInt8} (h : BW st0 b st bs) {id : Nat} (hid : st id = none) (B : Blk) : BW st0 b (st.set id B) bs := by
  have hf := h.fresh id hid
  obtain ⟨⟨ad, v, hst, had, hown, hn⟩⟩ := h.bld
  refine ⟨⟨ad, v, by rw [St.set_ne _ _ (Ne.symm hf.2), hst], had, ?_, hn⟩, fun i hi hb => ?_⟩
  · rcases hown with q | ⟨ia, g, e1, e2, e3⟩
    · exact .inl q
    · refine .inr ⟨ia, g, e1, ?_, e3⟩
      have : ia ≠ id := fun e => by subst e; rw [e2] at hid; cases hid
      rw [St.set_ne _ _ this, e2]
  · have : i ≠ id := fun e => hi (e ▸ hf.1)
    rw [St.set_ne _ _ this]; exact h.keep i hi hb

theorem w_String (G : Nat → AV) {st0 : St} {b : Nat} {bs : List UInt8} {st : St} (h : BW st0 b st bs) :
    ACalls (Ev G) 52 [.ptr b 0 0 0] st (fun e st' => e = .ret (.str bs) ∧ ∀ i, st0 i ≠ none → i ≠ b → st' i = st0 i) :=
  ACalls.mono (b_StringAny G b bs _ st h.bld) fun e st' ⟨h1, h2⟩ =>
    ⟨h1, fun i hi hb => by rw [h2 i (fun q => hi q.1)]; exact h.keep i hi hb⟩

/-- At the end: what was there ahead of the builder is there. -/
theorem sub_keep {st st0 st' : St} {b : Nat} (hs : st.sub st0) (hb : st b = none) (h : ∀ i, st0 i ≠ none → i ≠ b → st' i = st0 i) : st.sub st' := by
  intro i B hi
  have n : i ≠ b := fun e => by subst e; rw [hb] at hi; cases hi
  have h0 := hs i B hi
  rw [h i (by simp [h0]) n, h0]
end Go.Almanac

/- Texts: base 64's sextets. -/
namespace Go.Almanac
open Go.RowKit Go.Proofs Go.Abs

set_option linter.unusedSimpArgs false
set_option linter.unusedVariables false
set_option linter.unusedSectionVars false
set_option maxRecDepth 10000

/-- The sextets of n's lowest bits. -/
def inner (n bits : Nat) : List UInt8 := if h : 6 ≤ bits then UInt8.ofNat (n / 2 ^ (bits - 6) % 64) :: inner n (bits - 6) else []
termination_by bits
decreasing_by omega
/-- The sextets of bytes, behind n of so many bits. -/
def sxs : List UInt8 → Nat → Nat → List UInt8
  | [], n, bits => if 0 < bits then [UInt8.ofNat (n * 2 ^ (6 - bits) % 64)] else []
  | c :: cs, n, bits => inner (n * 256 + c.toNat) (bits + 8) ++ sxs cs ((n * 256 + c.toNat) % 2 ^ ((bits + 8) % 6)) ((bits + 8) % 6)

theorem inner_length : ∀ bits n : Nat, (inner n bits).length = bits / 6 := by
  intro bits
  induction bits using Nat.strongRecOn with
  | _ bits ih =>
    intro n
    rw [inner]
    split
    · rw [List.length_cons, ih (bits - 6) (by omega)]; omega
    · simp; omega
theorem sxs_length : ∀ (s : List UInt8) (n bits : Nat), bits < 6 → (sxs s n bits).length ≤ 2 * s.length + 1
  | [], n, bits, _ => by rw [sxs]; split <;> simp
  | c :: cs, n, bits, h => by
    have := sxs_length cs ((n * 256 + c.toNat) % 2 ^ ((bits + 8) % 6)) ((bits + 8) % 6) (by omega)
    simp only [sxs, List.length_append, inner_length, List.length_cons]; omega

def encB (x : UInt8) : List AV := [.int .u8 (x.toNat : Int)]

end Go.Almanac

/- Texts: Base64. -/
namespace Go.Almanac
open Go.RowKit Go.Proofs Go.Abs

set_option linter.unusedSimpArgs false
set_option linter.unusedVariables false
set_option linter.unusedSectionVars false
set_option maxRecDepth 10000

def lets : List UInt8 := [65, 66, 67, 68, 69, 70, 71, 72, 73, 74, 75, 76, 77, 78, 79, 80, 81, 82, 83, 84, 85, 86, 87, 88, 89, 90, 97, 98, 99, 100, 101, 102, 103, 104, 105, 106, 107, 108, 109, 110, 111, 112, 113, 114, 115, 116, 117, 118, 119, 120, 121, 122, 48, 49, 50, 51, 52, 53, 54, 55, 56, 57, 43, 47]
def letter (x : UInt8) : UInt8 := lets.getD x.toNat 0
def padded64 (l : List UInt8) : List UInt8 := l ++ List.replicate ((4 - l.length % 4) % 4) 61
def b64 (s : List UInt8) : List UInt8 := padded64 ((sxs s 0 0).map letter)
theorem padded64_step {l : List UInt8} (h : l.length % 4 ≠ 0) : padded64 (l ++ [61]) = padded64 l := by
  have e : (4 - l.length % 4) % 4 = (4 - (l ++ [(61 : UInt8)]).length % 4) % 4 + 1 := by simp; omega
  rw [padded64, padded64, e, List.replicate_succ]
  simp
theorem padded64_id {l : List UInt8} (h : l.length % 4 = 0) : padded64 l = l := by simp [padded64, h]

theorem BW.rebase {β : St} {b : Nat} {σ : St} {bs : List UInt8} (h : BW β b σ bs) {id : Nat} (hid : σ id = none) (B : Blk) : BW (β.set id B) b (σ.set id B) bs := by
  have hf := h.fresh id hid
  obtain ⟨⟨ad, v, hst, had, hown, hn⟩⟩ := h.bld
  refine ⟨⟨ad, v, by rw [St.set_ne _ _ (Ne.symm hf.2), hst], had, ?_, hn⟩, fun i hi hb => ?_⟩
  · rcases hown with q | ⟨ia, g, e1, e2, e3⟩
    · exact .inl q
    · have n : ia ≠ id := fun e => by subst e; rw [e2] at hid; cases hid
      exact .inr ⟨ia, g, e1, by rw [St.set_ne _ _ n, e2], by rw [St.set_ne _ _ n]; exact e3.1, e3.2⟩
  · by_cases n : i = id
    · subst n; simp
    · rw [St.set_ne _ _ n] at hi ⊢; rw [St.set_ne _ _ n]; exact h.keep i hi hb
theorem BW.del {β : St} {b : Nat} {σ : St} {bs : List UInt8} (h : BW β b σ bs) {l : Nat} (hl : β l ≠ none) (hb : l ≠ b) : BW (β.del l) b (σ.del l) bs := by
  obtain ⟨⟨ad, v, hst, had, hown, hn⟩⟩ := h.bld
  refine ⟨⟨ad, v, by rw [St.del_ne _ (Ne.symm hb), hst], had, ?_, hn⟩, fun i hi hib => ?_⟩
  · rcases hown with q | ⟨ia, g, e1, e2, e3⟩
    · exact .inl q
    · have n : ia ≠ l := fun e => hl (e ▸ e3.1)
      exact .inr ⟨ia, g, e1, by rw [St.del_ne _ n, e2], by rw [St.del_ne _ n]; exact e3.1, e3.2⟩
  · by_cases n : i = l
    · subst n; simp [St.del] at hi
    · rw [St.del_ne _ n] at hi ⊢; rw [St.del_ne _ n]; exact h.keep i hi hib
/-- A walk's own loop changes nothing that the builder minds. -/
theorem BW.put {β : St} {b : Nat} {σ : St} {bs : List UInt8} (h : BW β b σ bs) {l : Nat} (hl : β l ≠ none) (hb : l ≠ b) (B : Blk) : BW (β.set l B) b (σ.set l B) bs := by
  obtain ⟨⟨ad, v, hst, had, hown, hn⟩⟩ := h.bld
  refine ⟨⟨ad, v, by rw [St.set_ne _ _ (Ne.symm hb), hst], had, ?_, hn⟩, fun i hi hib => ?_⟩
  · rcases hown with q | ⟨ia, g, e1, e2, e3⟩
    · exact .inl q
    · have n : ia ≠ l := fun e => hl (e ▸ e3.1)
      exact .inr ⟨ia, g, e1, by rw [St.set_ne _ _ n, e2], by rw [St.set_ne _ _ n]; exact e3.1, e3.2⟩
  · by_cases n : i = l
    · subst n; simp
    · rw [St.set_ne _ _ n] at hi ⊢; rw [St.set_ne _ _ n]; exact h.keep i hi hib
end Go.Almanac

/- Texts: Base64. -/
namespace Go.Almanac
open Go.RowKit Go.Proofs Go.Abs

set_option linter.unusedSimpArgs false
set_option linter.unusedVariables false
set_option linter.unusedSectionVars false
set_option maxRecDepth 10000

end Go.Almanac

/- Texts: the end of a text without a byte. -/
namespace Go.Almanac
open Go.RowKit Go.Proofs Go.Abs

set_option linter.unusedSimpArgs false
set_option linter.unusedVariables false
set_option linter.unusedSectionVars false
set_option maxRecDepth 10000

def trimE (c : UInt8) (s : List UInt8) : List UInt8 := (s.reverse.dropWhile (· == c)).reverse
theorem trimE_snoc (c x : UInt8) (s : List UInt8) : trimE c (s ++ [x]) = if x = c then trimE c s else s ++ [x] := by
  simp only [trimE, List.reverse_append, List.reverse_cons, List.reverse_nil, List.nil_append, List.cons_append, List.dropWhile_cons, beq_iff_eq]
  split <;> simp
theorem snoc_of {s : List UInt8} (h : s ≠ []) : s = s.take (s.length - 1) ++ [s.getD (s.length - 1) 0] := by
  have hl : 0 < s.length := List.length_pos_iff.2 h
  have := take_succ_getD (s := s) (i := s.length - 1) (by omega)
  rw [← this, show s.length - 1 + 1 = s.length from by omega, List.take_length]

end Go.Almanac

/- Texts: the place of a byte, hexadecimal digits. -/
namespace Go.Almanac
open Go.RowKit Go.Proofs Go.Abs

set_option linter.unusedSimpArgs false
set_option linter.unusedVariables false
set_option linter.unusedSectionVars false
set_option maxRecDepth 10000

/-- The first place of a byte; -1: none. -/
def idx (s : List UInt8) (c : UInt8) : Int := Go.firstIdx ⟨s.toArray⟩ c

theorem b_IndexByte0 (G : Nat → AV) (s : List UInt8) (c : UInt8) (st : St) : ACalls (Ev G) 77 [.str s, .int .u8 c.toNat] st (fun e st' => st' = st ∧ e = .ret (.int .i64 (idx s c))) := by
  refine ACalls.of_body Tryd.func77 rfl ?_
  rw [Tryd.ntmps77]
  simp only [List.length_cons, List.length_nil, Nat.reduceAdd, Nat.reduceSub, List.replicate_succ, List.replicate_zero, List.cons_append, List.nil_append]
  (repeat' (first | refine AW.seq ?_ | refine AW.scope ?_ | refine AW.label ?_ | refine AW.block ?_ | refine AW.skip ?_ | refine AW.exit ?_ | refine AW.ret ?_ | (refine AW.regionC fun Q' Kn hQ hK hK' => ?_; (repeat simp (disch := omega) only [go_sem, Nat.reduceAdd, w_i64, w_u64, w_u8, w_u32, w_i32]); (repeat' refine And.intro ?_ ?_); (try any_goals (first | (refine hK _ _ ?_; clear hK' hQ hK Q' Kn) | (simp; done) | omega | (simp only [List.length_append, List.length_cons, List.length_nil]; omega) | (simp; omega)))) | (refine AW.cond (by simp (disch := omega) only [go_sem, Nat.reduceAdd, w_i64, w_u64, w_u8, w_u32, w_i32]; rfl) (fun hb => ?_) (fun hb => ?_) <;> (try simp only [Bool.or_eq_true, Bool.and_eq_true, Bool.or_eq_false_iff, Bool.and_eq_false_iff, decide_eq_true_eq, decide_eq_false_iff_not, beq_iff_eq, bne_iff_ne, Bool.not_eq_true', beq_eq_false_iff_ne, bne_eq_false_iff_eq, ne_eq, Bool.not_eq_false', Bool.true_eq_false, Bool.false_eq_true, Bool.false_or, Bool.true_or, Bool.false_and, Bool.true_and, false_or, or_false, true_and, and_true] at hb))))
  refine AOp.ext (f := 86) (v := .int .i64 (idx s c)) rfl (by simp only [go_sem] <;> rfl) (by simp [go_sem]) (fun κ w cargs hR hv => ?_) ?_
  · simp only [go_sem, VRs, VR] at hv
    obtain ⟨v1, vs1, h1, rfl, v2, vs2, rfl, rfl, rfl⟩ := hv
    have : cargs = #[.string ⟨s.toArray⟩, .int .u8 (c.toNat : Int)] := Array.toList_inj.1 h1
    subst this
    refine ⟨.int .i64 (idx s c), ?_, by simp [VR]⟩
    rw [run_callFunc_extern (fn := Tryd.f86) rfl (by kernel_rfl) (by kernel_rfl) (by kernel_rfl) (e := Extern.BytealgIndexByte.indexByte) (by kernel_rfl), run_indexByte_string]
    simp [idx, Result.andThen]
  (refine AOpsC_ok hK' _ _ _ ?_; (repeat simp (disch := omega) only [go_sem, Nat.reduceAdd, w_i64, w_u64, w_u8, w_u32, w_i32]); (repeat' refine And.intro ?_ ?_); (try any_goals (first | (refine hK _ _ ?_; clear hK' hQ hK Q' Kn) | (simp; done) | omega | (simp only [List.length_append, List.length_cons, List.length_nil]; omega) | (simp; omega))))
  (repeat' (first | refine AW.seq ?_ | refine AW.scope ?_ | refine AW.label ?_ | refine AW.block ?_ | refine AW.skip ?_ | refine AW.exit ?_ | refine AW.ret ?_ | (refine AW.regionC fun Q' Kn hQ hK hK' => ?_; (repeat simp (disch := omega) only [go_sem, Nat.reduceAdd, w_i64, w_u64, w_u8, w_u32, w_i32]); (repeat' refine And.intro ?_ ?_); (try any_goals (first | (refine hK _ _ ?_; clear hK' hQ hK Q' Kn) | (simp; done) | omega | (simp only [List.length_append, List.length_cons, List.length_nil]; omega) | (simp; omega)))) | (refine AW.cond (by simp (disch := omega) only [go_sem, Nat.reduceAdd, w_i64, w_u64, w_u8, w_u32, w_i32]; rfl) (fun hb => ?_) (fun hb => ?_) <;> (try simp only [Bool.or_eq_true, Bool.and_eq_true, Bool.or_eq_false_iff, Bool.and_eq_false_iff, decide_eq_true_eq, decide_eq_false_iff_not, beq_iff_eq, bne_iff_ne, Bool.not_eq_true', beq_eq_false_iff_ne, bne_eq_false_iff_eq, ne_eq, Bool.not_eq_false', Bool.true_eq_false, Bool.false_eq_true, Bool.false_or, Bool.true_or, Bool.false_and, Bool.true_and, false_or, or_false, true_and, and_true] at hb))))
  (refine ⟨_, _, rfl, by simp, ?_⟩; simp only [aTup, AA.get, List.getD_cons_zero, List.getD_cons_succ, true_and])

theorem b_IndexByte (G : Nat → AV) (s : List UInt8) (c : UInt8) (st : St) : ACalls (Ev G) 61 [.str s, .int .u8 c.toNat] st (fun e st' => st' = st ∧ e = .ret (.int .i64 (idx s c))) := by
  refine ACalls.of_body Tryd.func61 rfl ?_
  rw [Tryd.ntmps61]
  simp only [List.length_cons, List.length_nil, Nat.reduceAdd, Nat.reduceSub, List.replicate_succ, List.replicate_zero, List.cons_append, List.nil_append]
  (repeat' (first | refine AW.seq ?_ | refine AW.scope ?_ | refine AW.label ?_ | refine AW.block ?_ | refine AW.skip ?_ | refine AW.exit ?_ | refine AW.ret ?_ | (refine AW.regionC fun Q' Kn hQ hK hK' => ?_; (repeat simp (disch := omega) only [go_sem, Nat.reduceAdd, w_i64, w_u64, w_u8, w_u32, w_i32]); (repeat' refine And.intro ?_ ?_); (try any_goals (first | (refine hK _ _ ?_; clear hK' hQ hK Q' Kn) | (simp; done) | omega | (simp only [List.length_append, List.length_cons, List.length_nil]; omega) | (simp; omega)))) | (refine AW.cond (by simp (disch := omega) only [go_sem, Nat.reduceAdd, w_i64, w_u64, w_u8, w_u32, w_i32]; rfl) (fun hb => ?_) (fun hb => ?_) <;> (try simp only [Bool.or_eq_true, Bool.and_eq_true, Bool.or_eq_false_iff, Bool.and_eq_false_iff, decide_eq_true_eq, decide_eq_false_iff_not, beq_iff_eq, bne_iff_ne, Bool.not_eq_true', beq_eq_false_iff_ne, bne_eq_false_iff_eq, ne_eq, Bool.not_eq_false', Bool.true_eq_false, Bool.false_eq_true, Bool.false_or, Bool.true_or, Bool.false_and, Bool.true_and, false_or, or_false, true_and, and_true] at hb))))
  refine AOp.call rfl (by simp only [go_sem]; rfl) (by simp [go_sem]) rfl (ACalls.mono (by simp only [go_sem]; exact b_IndexByte0 G s c st) ?_)
  rintro e st' ⟨rfl, rfl⟩
  (refine AOpsC_ok hK' _ _ _ ?_; (repeat simp (disch := omega) only [go_sem, Nat.reduceAdd, w_i64, w_u64, w_u8, w_u32, w_i32]); (repeat' refine And.intro ?_ ?_); (try any_goals (first | (refine hK _ _ ?_; clear hK' hQ hK Q' Kn) | (simp; done) | omega | (simp only [List.length_append, List.length_cons, List.length_nil]; omega) | (simp; omega))))
  (repeat' (first | refine AW.seq ?_ | refine AW.scope ?_ | refine AW.label ?_ | refine AW.block ?_ | refine AW.skip ?_ | refine AW.exit ?_ | refine AW.ret ?_ | (refine AW.regionC fun Q' Kn hQ hK hK' => ?_; (repeat simp (disch := omega) only [go_sem, Nat.reduceAdd, w_i64, w_u64, w_u8, w_u32, w_i32]); (repeat' refine And.intro ?_ ?_); (try any_goals (first | (refine hK _ _ ?_; clear hK' hQ hK Q' Kn) | (simp; done) | omega | (simp only [List.length_append, List.length_cons, List.length_nil]; omega) | (simp; omega)))) | (refine AW.cond (by simp (disch := omega) only [go_sem, Nat.reduceAdd, w_i64, w_u64, w_u8, w_u32, w_i32]; rfl) (fun hb => ?_) (fun hb => ?_) <;> (try simp only [Bool.or_eq_true, Bool.and_eq_true, Bool.or_eq_false_iff, Bool.and_eq_false_iff, decide_eq_true_eq, decide_eq_false_iff_not, beq_iff_eq, bne_iff_ne, Bool.not_eq_true', beq_eq_false_iff_ne, bne_eq_false_iff_eq, ne_eq, Bool.not_eq_false', Bool.true_eq_false, Bool.false_eq_true, Bool.false_or, Bool.true_or, Bool.false_and, Bool.true_and, false_or, or_false, true_and, and_true] at hb))))
  (refine ⟨_, _, rfl, by simp, ?_⟩; simp only [aTup, AA.get, List.getD_cons_zero, List.getD_cons_succ, true_and])
end Go.Almanac

/- Texts: hexadecimal digits; decimal numbers. -/
namespace Go.Almanac
open Go.RowKit Go.Proofs Go.Abs

set_option linter.unusedSimpArgs false
set_option linter.unusedVariables false
set_option linter.unusedSectionVars false
set_option maxRecDepth 10000

def hexs : List UInt8 := [48, 49, 50, 51, 52, 53, 54, 55, 56, 57, 65, 66, 67, 68, 69, 70]
def digit (c : UInt8) : Int := idx hexs (if 97 ≤ c.toNat ∧ c.toNat ≤ 102 then UInt8.ofNat (c.toNat - 32) else c)

end Go.Almanac

/- Texts: the bytes that a path may have. -/
namespace Go.Almanac
open Go.RowKit Go.Proofs Go.Abs

set_option linter.unusedSimpArgs false
set_option linter.unusedVariables false
set_option linter.unusedSectionVars false
set_option maxRecDepth 10000

def marks4 : List UInt8 := [45, 46, 95, 126, 47]
def plain (c : UInt8) : Bool := (decide (48 ≤ (c.toNat : Int)) && decide ((c.toNat : Int) ≤ 57)) || (decide (97 ≤ (c.toNat : Int)) && decide ((c.toNat : Int) ≤ 122)) || (decide (65 ≤ (c.toNat : Int)) && decide ((c.toNat : Int) ≤ 90)) || decide (0 ≤ idx marks4 c)

end Go.Almanac

/- Texts: decimal numbers. -/
namespace Go.Almanac
open Go.RowKit Go.Proofs Go.Abs

set_option linter.unusedSimpArgs false
set_option linter.unusedVariables false
set_option linter.unusedSectionVars false
set_option maxRecDepth 10000


def numL : List UInt8 → Nat → Option Nat
  | [], n => some n
  | c :: cs, n => if c.toNat < 48 ∨ 57 < c.toNat then none else numL cs (n * 10 + (c.toNat - 48))

/-- Number: the number, and whether there is one. -/
def number (s : List UInt8) (most : Int) : Int × Bool :=
  if 18 < s.length then (0, false)
  else match numL s 0 with
    | none => (0, false)
    | some n => if s = [] ∨ (n : Int) > most then (0, false) else (n, true)

end Go.Almanac

/- Texts: small letters. -/
namespace Go.Almanac
open Go.RowKit Go.Proofs Go.Abs

set_option linter.unusedSimpArgs false
set_option linter.unusedVariables false
set_option linter.unusedSectionVars false
set_option maxRecDepth 10000

def low (c : UInt8) : UInt8 := if 65 ≤ c.toNat ∧ c.toNat ≤ 90 then UInt8.ofNat (c.toNat + 32) else c
def lowAt (s : List UInt8) (i : Nat) : List UInt8 := (s.take i).map low ++ s.drop i
theorem lowAt_length (s : List UInt8) (i : Nat) : (lowAt s i).length = s.length := by simp [lowAt]; omega
theorem lowAt_get {s : List UInt8} {i : Nat} (h : i < s.length) : (lowAt s i).getD i 0 = s.getD i 0 := by
  simp only [lowAt, List.getD]
  rw [List.getElem?_append_right (by simp; omega)]
  simp only [List.length_map, List.length_take, List.getElem?_drop]
  congr 2; omega
theorem lowAt_step {s : List UInt8} {i : Nat} (h : i < s.length) : (lowAt s i).set i (low (s.getD i 0)) = lowAt s (i + 1) := by
  have hd := drop_cons h
  have ht : s.take (i + 1) = s.take i ++ [s.getD i 0] := by
    rw [List.take_add_one]; simp [List.getD, List.getElem?_eq_getElem h]
  simp only [lowAt, hd, ht, List.map_append, List.map_cons, List.map_nil]
  rw [List.set_append_right _ _ (by simp; omega)]
  simp only [List.length_map, List.length_take, show i - min i s.length = 0 from by omega, List.set_cons_zero, List.append_assoc, List.cons_append, List.nil_append]


end Go.Almanac

/- Texts: Lower, Alike; the document's digits and letters. -/
namespace Go.Almanac
open Go.RowKit Go.Proofs Go.Abs

set_option linter.unusedSimpArgs false
set_option linter.unusedVariables false
set_option linter.unusedSectionVars false
set_option maxRecDepth 10000

def dig (c : UInt8) : Bool := decide (48 ≤ (c.toNat : Int)) && decide ((c.toNat : Int) ≤ 57)
theorem r_Digit (G : Nat → AV) (c : UInt8) (st : St) : ACalls (Ev G) 80 [.int .u8 c.toNat] st (fun e st' => st' = st ∧ e = .ret (.bool (dig c))) := by
  have hb : c.toNat < 256 := UInt8.toNat_lt _
  refine ACalls.of_body Tryd.func80 rfl ?_
  rw [Tryd.ntmps80]
  simp only [List.length_cons, List.length_nil, Nat.reduceAdd, Nat.reduceSub, List.replicate_succ, List.replicate_zero, List.cons_append, List.nil_append]
  (repeat' (first | refine AW.seq ?_ | refine AW.scope ?_ | refine AW.label ?_ | refine AW.block ?_ | refine AW.skip ?_ | refine AW.exit ?_ | refine AW.ret ?_ | (refine AW.regionC fun Q' Kn hQ hK hK' => ?_; (repeat simp (disch := omega) only [go_sem, Nat.reduceAdd, w_i64, w_u64, w_u8, w_u32, w_i32]); (repeat' refine And.intro ?_ ?_); (try any_goals (first | (refine hK _ _ ?_; clear hK' hQ hK Q' Kn) | (simp; done) | omega | (simp only [List.length_append, List.length_cons, List.length_nil]; omega) | (simp; omega)))) | (refine AW.cond (by simp (disch := omega) only [go_sem, Nat.reduceAdd, w_i64, w_u64, w_u8, w_u32, w_i32]; rfl) (fun hb => ?_) (fun hb => ?_) <;> (try simp only [Bool.or_eq_true, Bool.and_eq_true, Bool.or_eq_false_iff, Bool.and_eq_false_iff, decide_eq_true_eq, decide_eq_false_iff_not, beq_iff_eq, bne_iff_ne, Bool.not_eq_true', beq_eq_false_iff_ne, bne_eq_false_iff_eq, ne_eq, Bool.not_eq_false', Bool.true_eq_false, Bool.false_eq_true, Bool.false_or, Bool.true_or, Bool.false_and, Bool.true_and, false_or, or_false, true_and, and_true] at hb))))
  (refine ⟨_, _, rfl, by simp, ?_⟩; simp only [aTup, AA.get, List.getD_cons_zero, List.getD_cons_succ, true_and])
  simp [dig]

def let8 (c : UInt8) : Bool := decide (97 ≤ (c.toNat : Int)) && decide ((c.toNat : Int) ≤ 122) || decide (65 ≤ (c.toNat : Int)) && decide ((c.toNat : Int) ≤ 90)
theorem r_Letter (G : Nat → AV) (c : UInt8) (st : St) : ACalls (Ev G) 79 [.int .u8 c.toNat] st (fun e st' => st' = st ∧ e = .ret (.bool (let8 c))) := by
  have hb : c.toNat < 256 := UInt8.toNat_lt _
  refine ACalls.of_body Tryd.func79 rfl ?_
  rw [Tryd.ntmps79]
  simp only [List.length_cons, List.length_nil, Nat.reduceAdd, Nat.reduceSub, List.replicate_succ, List.replicate_zero, List.cons_append, List.nil_append]
  (repeat' (first | refine AW.seq ?_ | refine AW.scope ?_ | refine AW.label ?_ | refine AW.block ?_ | refine AW.skip ?_ | refine AW.exit ?_ | refine AW.ret ?_ | (refine AW.regionC fun Q' Kn hQ hK hK' => ?_; (repeat simp (disch := omega) only [go_sem, Nat.reduceAdd, w_i64, w_u64, w_u8, w_u32, w_i32]); (repeat' refine And.intro ?_ ?_); (try any_goals (first | (refine hK _ _ ?_; clear hK' hQ hK Q' Kn) | (simp; done) | omega | (simp only [List.length_append, List.length_cons, List.length_nil]; omega) | (simp; omega)))) | (refine AW.cond (by simp (disch := omega) only [go_sem, Nat.reduceAdd, w_i64, w_u64, w_u8, w_u32, w_i32]; rfl) (fun hb => ?_) (fun hb => ?_) <;> (try simp only [Bool.or_eq_true, Bool.and_eq_true, Bool.or_eq_false_iff, Bool.and_eq_false_iff, decide_eq_true_eq, decide_eq_false_iff_not, beq_iff_eq, bne_iff_ne, Bool.not_eq_true', beq_eq_false_iff_ne, bne_eq_false_iff_eq, ne_eq, Bool.not_eq_false', Bool.true_eq_false, Bool.false_eq_true, Bool.false_or, Bool.true_or, Bool.false_and, Bool.true_and, false_or, or_false, true_and, and_true] at hb))))
  try (· exact fun h => ⟨h, fun h2 => by rw [h, h2]; rfl⟩)
  (refine ⟨_, _, rfl, by simp, ?_⟩; simp only [aTup, AA.get, List.getD_cons_zero, List.getD_cons_succ, true_and])
  simp [let8]
end Go.Almanac

/- Texts: the document's hexadecimal digits. -/
namespace Go.Almanac
open Go.RowKit Go.Proofs Go.Abs

set_option linter.unusedSimpArgs false
set_option linter.unusedVariables false
set_option linter.unusedSectionVars false
set_option maxRecDepth 10000

def hexv (c : UInt8) : Int :=
  if 48 ≤ c.toNat ∧ c.toNat ≤ 57 then (c.toNat : Int) - 48
  else if 65 ≤ c.toNat ∧ c.toNat ≤ 70 then (c.toNat : Int) - 65 + 10
  else if 97 ≤ c.toNat ∧ c.toNat ≤ 102 then (c.toNat : Int) - 97 + 10
  else -1

theorem digit_all : ∀ n, n < 256 → digit (UInt8.ofNat n) = hexv (UInt8.ofNat n) := by decide +kernel
theorem digit_eq (c : UInt8) : digit c = hexv c := by
  have h := digit_all c.toNat (UInt8.toNat_lt _)
  simpa using h

end Go.Almanac

/- Texts: the document's decimal numbers. -/
namespace Go.Almanac
open Go.RowKit Go.Proofs Go.Abs

set_option linter.unusedSimpArgs false
set_option linter.unusedVariables false
set_option linter.unusedSectionVars false
set_option maxRecDepth 10000

end Go.Almanac

/- Texts: Unpercent. -/
namespace Go.Almanac
open Go.RowKit Go.Proofs Go.Abs

set_option linter.unusedSimpArgs false
set_option linter.unusedVariables false
set_option linter.unusedSectionVars false
set_option maxRecDepth 10000

/-- Unpercent: what a text says; none: it is none. -/
def unp : Nat → List UInt8 → List UInt8 → Option (List UInt8)
  | _, [], acc => some acc
  | 0, _ :: _, _ => none
  | k + 1, c :: cs, acc =>
    if c.toNat ≠ 37 then unp k cs (acc ++ [c])
    else match cs with
      | h :: l :: r => if hexv h < 0 ∨ hexv l < 0 then none else unp k r (acc ++ [UInt8.ofNat (hexv h * 16 + hexv l).toNat])
      | _ => none
def unpercent (s : List UInt8) : Option (List UInt8) := unp s.length s []
theorem hexv_hi (c : UInt8) : -1 ≤ hexv c ∧ hexv c ≤ 15 := by
  unfold hexv
  split
  · omega
  split
  · omega
  split <;> omega

def unpR : Option (List UInt8) → AEnd
  | none => .ret (.tup [.str [], .int .i64 10])
  | some b => .ret (.tup [.str b, .int .i64 0])

theorem hexv_or {h l : UInt8} (h0 : 0 ≤ hexv h) (l0 : 0 ≤ hexv l) : ∃ n : Nat, n < 256 ∧ (hexv h * 16 + hexv l).toNat = n ∧ hexv h * 16 + hexv l = n := by
  have a := hexv_hi h
  have b := hexv_hi l
  exact ⟨_, by omega, rfl, by omega⟩

end Go.Almanac

/- Texts: Percent. -/
namespace Go.Almanac
open Go.RowKit Go.Proofs Go.Abs

set_option linter.unusedSimpArgs false
set_option linter.unusedVariables false
set_option linter.unusedSectionVars false
set_option maxRecDepth 10000

def pct (c : UInt8) : List UInt8 := if plain c then [c] else [37, hexs.getD (c.toNat / 16) 0, hexs.getD (c.toNat % 16) 0]
theorem pct_length (c : UInt8) : (pct c).length ≤ 3 := by unfold pct; split <;> simp
theorem flat_length {f : UInt8 → List UInt8} {n : Nat} (h : ∀ c, (f c).length ≤ n) : ∀ l : List UInt8, (l.flatMap f).length ≤ n * l.length
  | [] => by simp
  | c :: l => by
    have := h c
    have := flat_length h l
    simp only [List.flatMap_cons, List.length_append, List.length_cons, Nat.mul_add]; omega

end Go.Almanac

/- Texts: Unbase64. -/
namespace Go.Almanac
open Go.RowKit Go.Proofs Go.Abs

set_option linter.unusedSimpArgs false
set_option linter.unusedVariables false
set_option linter.unusedSectionVars false
set_option maxRecDepth 10000

/-- The bytes of letters, behind n of so many bits; none: one is no letter. -/
def dec : List UInt8 → Nat → Nat → List UInt8 → Option (List UInt8)
  | [], _, _, acc => some acc
  | c :: cs, n, bits, acc =>
    if idx lets c < 0 then none
    else if 8 ≤ bits + 6 then dec cs ((n * 64 + (idx lets c).toNat) % 2 ^ (bits - 2)) (bits - 2) (acc ++ [UInt8.ofNat ((n * 64 + (idx lets c).toNat) / 2 ^ (bits - 2))])
    else dec cs (n * 64 + (idx lets c).toNat) (bits + 6) acc
/-- The bytes that a text in base 64 codes; none: it codes none. -/
def unb64 (s : List UInt8) : Option (List UInt8) :=
  match dec (trimE 61 s) 0 0 [] with
  | none => none
  | some b => if b64 b = s then some b else none

theorem idx_lets_all : ∀ n, n < 256 → -1 ≤ idx lets (UInt8.ofNat n) ∧ idx lets (UInt8.ofNat n) < 64 := by decide +kernel
theorem idx_lets (c : UInt8) : -1 ≤ idx lets c ∧ idx lets c < 64 := by
  have h := idx_lets_all c.toNat (UInt8.toNat_lt _)
  simpa using h

theorem trimE_length (c : UInt8) (s : List UInt8) : (trimE c s).length ≤ s.length := by
  have := (List.dropWhile_sublist (· == c) (l := s.reverse)).length_le
  simp only [trimE, List.length_reverse] at *; omega


end Go.Almanac

/- strings.Builder: WriteString. -/
namespace Go.Almanac
open Go.RowKit Go.Proofs Go.Abs

set_option linter.unusedSimpArgs false
set_option linter.unusedVariables false
set_option linter.unusedSectionVars false
set_option maxRecDepth 10000

/-- WriteString: a text more. -/
theorem b_WriteString (G : Nat → AV) (b : Nat) (bs : List UInt8) (xs : List UInt8) (ok : Nat → Prop) (st : St) (hB : Bld st b bs ok) (hok : ¬ ok b) (hfr : ∀ id, st id = none → ok id) (hlim : bs.length + xs.length ≤ 140737488355328) (hx0 : xs ≠ []) :
    ACalls (Ev G) 51 [.ptr b 0 0 0, .str xs] st (fun e st' => e = .ret (.tup [.int .i64 xs.length, .nili]) ∧ Bld st' b (bs ++ xs) ok ∧ ∀ i, ¬ ok i → i ≠ b → st' i = st i) := by
  obtain ⟨ad, v, hst, had, hown, _⟩ := hB
  refine ACalls.of_body Tryd.func51 rfl ?_
  rw [Tryd.ntmps51]
  simp only [List.length_cons, List.length_nil, Nat.reduceAdd, Nat.reduceSub, List.replicate_succ, List.replicate_zero, List.cons_append, List.nil_append]
  (repeat' (first | refine AW.seq ?_ | refine AW.scope ?_ | refine AW.label ?_ | refine AW.block ?_ | refine AW.skip ?_ | refine AW.exit ?_ | refine AW.ret ?_ | (refine AW.regionC fun Q' Kn hQ hK hK' => ?_; (repeat simp (disch := omega) only [go_sem, Nat.reduceAdd, w_i64, w_u64, w_u8, w_u32, w_i32]); (repeat' refine And.intro ?_ ?_); (try any_goals (first | (refine hK _ _ ?_; clear hK' hQ hK Q' Kn) | (simp; done) | omega | (simp only [List.length_append, List.length_cons, List.length_nil]; omega) | (simp; omega)))) | (refine AW.cond (by simp (disch := omega) only [go_sem, Nat.reduceAdd, w_i64, w_u64, w_u8, w_u32, w_i32]; rfl) (fun hb => ?_) (fun hb => ?_) <;> (try simp only [Bool.or_eq_true, Bool.and_eq_true, Bool.or_eq_false_iff, Bool.and_eq_false_iff, decide_eq_true_eq, decide_eq_false_iff_not, beq_iff_eq, bne_iff_ne, Bool.not_eq_true', beq_eq_false_iff_ne, bne_eq_false_iff_eq, ne_eq, Bool.not_eq_false', Bool.true_eq_false, Bool.false_eq_true, Bool.false_or, Bool.true_or, Bool.false_and, Bool.true_and, false_or, or_false, true_and, and_true] at hb))))
  refine AOp.call rfl (by simp only [go_sem]; rfl) (by simp [go_sem]) rfl (ACalls.mono (by simp only [go_sem]; exact b_copyCheck G b ad v st hst had) ?_)
  rintro e st' ⟨rfl, rfl⟩
  (refine AOpsC_ok hK' _ _ _ ?_; (repeat simp (disch := omega) only [go_sem, Nat.reduceAdd, w_i64, w_u64, w_u8, w_u32, w_i32]); (repeat' refine And.intro ?_ ?_); (try any_goals (first | (refine hK _ _ ?_; clear hK' hQ hK Q' Kn) | (simp; done) | omega | (simp only [List.length_append, List.length_cons, List.length_nil]; omega) | (simp; omega))))
  (repeat' (first | refine AW.seq ?_ | refine AW.scope ?_ | refine AW.label ?_ | refine AW.block ?_ | refine AW.skip ?_ | refine AW.exit ?_ | refine AW.ret ?_ | (refine AW.regionC fun Q' Kn hQ hK hK' => ?_; (repeat simp (disch := omega) only [go_sem, Nat.reduceAdd, w_i64, w_u64, w_u8, w_u32, w_i32]); (repeat' refine And.intro ?_ ?_); (try any_goals (first | (refine hK _ _ ?_; clear hK' hQ hK Q' Kn) | (simp; done) | omega | (simp only [List.length_append, List.length_cons, List.length_nil]; omega) | (simp; omega)))) | (refine AW.cond (by simp (disch := omega) only [go_sem, Nat.reduceAdd, w_i64, w_u64, w_u8, w_u32, w_i32]; rfl) (fun hb => ?_) (fun hb => ?_) <;> (try simp only [Bool.or_eq_true, Bool.and_eq_true, Bool.or_eq_false_iff, Bool.and_eq_false_iff, decide_eq_true_eq, decide_eq_false_iff_not, beq_iff_eq, bne_iff_ne, Bool.not_eq_true', beq_eq_false_iff_ne, bne_eq_false_iff_eq, ne_eq, Bool.not_eq_false', Bool.true_eq_false, Bool.false_eq_true, Bool.false_or, Bool.true_or, Bool.false_and, Bool.true_and, false_or, or_false, true_and, and_true] at hb))))
  refine AOp.loadCell rfl (by simp only [go_sem] <;> rfl) (by simp [go_sem]) (St.set_same _ _ _) rfl (by simp) (by simp) ?_
  (refine AOpsC_ok hK' _ _ _ ?_; (repeat simp (disch := omega) only [go_sem, Nat.reduceAdd, w_i64, w_u64, w_u8, w_u32, w_i32]); (repeat' refine And.intro ?_ ?_); (try any_goals (first | (refine hK _ _ ?_; clear hK' hQ hK Q' Kn) | (simp; done) | omega | (simp only [List.length_append, List.length_cons, List.length_nil]; omega) | (simp; omega))))
  have hfr1 : ∀ id, (st.set b (.cells 70 0 2 [[.ptr b 0 0 0, v]])) id = none → id ≠ b ∧ ok id := fun id h => by
    have hne : id ≠ b := fun e => by subst e; simp at h
    rw [St.set_ne _ _ hne] at h
    exact ⟨hne, hfr id h⟩
  refine AOp.appendSO (ok := ok) (e := 5) (es := bytesE bs) (s := xs) (v := v) rfl (by rcases hown with ⟨rfl, _⟩ | ⟨_, _, rfl, _⟩ <;> simp [go_sem]) rfl rfl rfl rfl rfl rfl (by rcases hown with ⟨rfl, _⟩ | ⟨_, _, rfl, _⟩ <;> rfl) ?_ (by simp [go_sem]) hx0 ?_ ?_ ?_ ?_
  · rcases hown with h | ⟨ia, g, e1, e2, e3⟩
    · exact .inl h
    · refine .inr ⟨ia, g, e1, ?_, e3⟩
      have n1 : ia ≠ b := fun e => hok (e ▸ e3)
      rw [St.set_ne _ _ n1, e2]
  · simp only [bytesE_length]; omega
  · simp only [bytesE_length, maxLen]; omega
  · intro id hid
    exact (hfr1 id hid).2
  intro v' ia B hia hv' hown'
  have hiab : ok ia := by
    rcases hia with h | h
    · exact (hfr1 ia h).2
    · exact h
  have nb1 : b ≠ ia := fun e => hok (e ▸ hiab)
  rw [← bytesE_append] at hown'
  rcases hown' with ⟨_, h⟩ | ⟨i2, g2, rfl, q1, q2⟩
  · simp [bytesE] at h; exact absurd h.2 hx0
  (refine AOpsC_ok hK' _ _ _ ?_; (repeat simp (disch := omega) only [go_sem, Nat.reduceAdd, w_i64, w_u64, w_u8, w_u32, w_i32]); (repeat' refine And.intro ?_ ?_); (try any_goals (first | (refine hK _ _ ?_; clear hK' hQ hK Q' Kn) | (simp; done) | omega | (simp only [List.length_append, List.length_cons, List.length_nil]; omega) | (simp; omega))))
  refine AOp.store (cs := [.arr i2 g2 1 0 (bytesE (bs ++ xs)).length]) (t0 := 70) (es := [[.ptr b 0 0 0, v]]) (sz := 2) rfl (by simp only [go_sem] <;> rfl) (by simp [go_sem]) ?_ (by simp [go_sem, aCells]) rfl rfl (by simp) (by simp) ?_
  · rw [St.set_ne _ _ nb1, St.set_same]
  (refine AOpsC_ok hK' _ _ _ ?_; (repeat simp (disch := omega) only [go_sem, Nat.reduceAdd, w_i64, w_u64, w_u8, w_u32, w_i32]); (repeat' refine And.intro ?_ ?_); (try any_goals (first | (refine hK _ _ ?_; clear hK' hQ hK Q' Kn) | (simp; done) | omega | (simp only [List.length_append, List.length_cons, List.length_nil]; omega) | (simp; omega))))
  (repeat' (first | refine AW.seq ?_ | refine AW.scope ?_ | refine AW.label ?_ | refine AW.block ?_ | refine AW.skip ?_ | refine AW.exit ?_ | refine AW.ret ?_ | (refine AW.regionC fun Q' Kn hQ hK hK' => ?_; (repeat simp (disch := omega) only [go_sem, Nat.reduceAdd, w_i64, w_u64, w_u8, w_u32, w_i32]); (repeat' refine And.intro ?_ ?_); (try any_goals (first | (refine hK _ _ ?_; clear hK' hQ hK Q' Kn) | (simp; done) | omega | (simp only [List.length_append, List.length_cons, List.length_nil]; omega) | (simp; omega)))) | (refine AW.cond (by simp (disch := omega) only [go_sem, Nat.reduceAdd, w_i64, w_u64, w_u8, w_u32, w_i32]; rfl) (fun hb => ?_) (fun hb => ?_) <;> (try simp only [Bool.or_eq_true, Bool.and_eq_true, Bool.or_eq_false_iff, Bool.and_eq_false_iff, decide_eq_true_eq, decide_eq_false_iff_not, beq_iff_eq, bne_iff_ne, Bool.not_eq_true', beq_eq_false_iff_ne, bne_eq_false_iff_eq, ne_eq, Bool.not_eq_false', Bool.true_eq_false, Bool.false_eq_true, Bool.false_or, Bool.true_or, Bool.false_and, Bool.true_and, false_or, or_false, true_and, and_true] at hb))))
  (refine ⟨_, _, rfl, by simp, ?_⟩; simp only [aTup, AA.get, List.getD_cons_zero, List.getD_cons_succ, true_and])
  refine ⟨⟨.ptr b 0 0 0, .arr i2 g2 1 0 (bytesE (bs ++ xs)).length, by rw [St.set_same]; simp [splice], .inr rfl, .inr ⟨i2, g2, rfl, ?_, q2⟩, fun h => by simp at h; exact absurd h.2 hx0⟩, fun i hi hib => ?_⟩
  · have : i2 ≠ b := fun e => hok (e ▸ q2)
    rw [St.set_ne _ _ this]; exact q1
  · have n1 : i ≠ ia := fun e => hi (e ▸ hiab)
    rw [St.set_ne _ _ hib, St.set_ne _ _ n1, St.set_ne _ _ hib]
theorem w_WriteString (G : Nat → AV) {st0 : St} {b : Nat} {bs : List UInt8} (xs : List UInt8) {st : St} (h : BW st0 b st bs) (hlim : bs.length + xs.length ≤ 140737488355328) (hx0 : xs ≠ []) :
    ACalls (Ev G) 51 [.ptr b 0 0 0, .str xs] st (fun e st' => e = .ret (.tup [.int .i64 xs.length, .nili]) ∧ BW st0 b st' (bs ++ xs)) :=
  ACalls.mono (b_WriteString G b bs xs _ st h.bld (fun q => q.2 rfl) (fun id hid => h.fresh id hid) hlim hx0) fun x st' hq => ⟨hq.1, hq.2.1, fun i hi hb => by
    rw [hq.2.2 i (fun q => hi q.1) hb]; exact h.keep i hi hb⟩
end Go.Almanac
