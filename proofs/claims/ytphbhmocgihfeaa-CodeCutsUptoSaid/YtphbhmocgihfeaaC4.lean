/- Numbers and texts as bytes: writing. -/
import Derived.Test.YtphbhmocgihfeaaB2
import Derived.Test.YtphbhmocgihfeaaC2
import Derived.Test.YtphbhmocgihfeaaA20
namespace Go.Almanac
open Go.RowKit Go.Proofs Go.Abs

set_option linter.unusedSimpArgs false
set_option linter.unusedVariables false
set_option linter.unusedSectionVars false
set_option maxRecDepth 10000

/-- A number's bytes. -/
def num (n : Nat) : List UInt8 := if h : n < 128 then [UInt8.ofNat n] else UInt8.ofNat (n % 128 + 128) :: num (n / 128)
termination_by n
decreasing_by omega

theorem code_groups (n : Nat) (hn : n < 2 ^ 64) (st : St) : ACalls Ev 22 [.int .u64 n] st (fun e st' => ∃ id, st id = none ∧ st' = st.set id (.cells 0 1 [[.int .u64 n]]) ∧ e = .ret (.clo (.func 23) [] [.ptr id 0 0 0])) := by
  refine ACalls.of_body Try.func22 rfl ?_
  rw [Try.ntmps22]
  simp only [List.length_cons, List.length_nil, Nat.reduceAdd, Nat.reduceSub, List.replicate_succ, List.replicate_zero, List.cons_append, List.nil_append]
  (repeat' (first | refine AW.seq ?_ | refine AW.scope ?_ | refine AW.label ?_ | refine AW.block ?_ | refine AW.skip ?_ | refine AW.exit ?_ | refine AW.ret ?_ | (refine AW.regionC fun Q' Kn hQ hK hK' => ?_; simp (disch := omega) only [go_sem, Nat.reduceAdd, w_i64, w_u64, w_u8, w_u32, w_i32]; (try simp (disch := omega) only [go_sem, Nat.reduceAdd, w_i64, w_u64, w_u8, w_u32, w_i32]); (repeat' refine And.intro ?_ ?_); (try any_goals (first | (refine hK _ _ ?_; clear hK' hQ hK Q' Kn) | (simp; done) | omega | (simp only [List.length_append, List.length_cons, List.length_nil]; omega)))) | (refine AW.cond (by simp (disch := omega) only [go_sem, Nat.reduceAdd, w_i64, w_u64, w_u8, w_u32, w_i32]; rfl) (fun hb => ?_) (fun hb => ?_) <;> (try simp only [Bool.or_eq_true, Bool.and_eq_true, Bool.or_eq_false_iff, Bool.and_eq_false_iff, decide_eq_true_eq, decide_eq_false_iff_not, beq_iff_eq, bne_iff_ne, Bool.not_eq_true', beq_eq_false_iff_ne, bne_eq_false_iff_eq, ne_eq, Bool.not_eq_false', Bool.true_eq_false, Bool.false_eq_true, Bool.false_or, Bool.true_or, Bool.false_and, Bool.true_and, false_or, or_false, true_and, and_true] at hb))))
  refine AOp.box rfl (by simp [go_sem]) (by simp only [go_sem]; rfl) fun id hid => ?_
  (refine AOpsC_ok hK' _ _ _ ?_; simp (disch := omega) only [go_sem, Nat.reduceAdd, w_i64, w_u64, w_u8, w_u32, w_i32]; (try simp (disch := omega) only [go_sem, Nat.reduceAdd, w_i64, w_u64, w_u8, w_u32, w_i32]); (repeat' refine And.intro ?_ ?_); (try any_goals (first | (refine hK _ _ ?_; clear hK' hQ hK Q' Kn) | (simp; done) | omega | (simp only [List.length_append, List.length_cons, List.length_nil]; omega))))
  (repeat' (first | refine AW.seq ?_ | refine AW.scope ?_ | refine AW.label ?_ | refine AW.block ?_ | refine AW.skip ?_ | refine AW.exit ?_ | refine AW.ret ?_ | (refine AW.regionC fun Q' Kn hQ hK hK' => ?_; simp (disch := omega) only [go_sem, Nat.reduceAdd, w_i64, w_u64, w_u8, w_u32, w_i32]; (try simp (disch := omega) only [go_sem, Nat.reduceAdd, w_i64, w_u64, w_u8, w_u32, w_i32]); (repeat' refine And.intro ?_ ?_); (try any_goals (first | (refine hK _ _ ?_; clear hK' hQ hK Q' Kn) | (simp; done) | omega | (simp only [List.length_append, List.length_cons, List.length_nil]; omega)))) | (refine AW.cond (by simp (disch := omega) only [go_sem, Nat.reduceAdd, w_i64, w_u64, w_u8, w_u32, w_i32]; rfl) (fun hb => ?_) (fun hb => ?_) <;> (try simp only [Bool.or_eq_true, Bool.and_eq_true, Bool.or_eq_false_iff, Bool.and_eq_false_iff, decide_eq_true_eq, decide_eq_false_iff_not, beq_iff_eq, bne_iff_ne, Bool.not_eq_true', beq_eq_false_iff_ne, bne_eq_false_iff_eq, ne_eq, Bool.not_eq_false', Bool.true_eq_false, Bool.false_eq_true, Bool.false_or, Bool.true_or, Bool.false_and, Bool.true_and, false_or, or_false, true_and, and_true] at hb))))
  (refine ⟨_, _, rfl, by simp, ?_⟩; simp only [aTup, AA.get, List.getD_cons_zero, List.getD_cons_succ, true_and])
  exact ⟨id, hid, rfl, rfl⟩

theorem num_length : ∀ (k n : Nat), 0 < k → n < 2 ^ (7 * k) → (num n).length ≤ k
  | 0, _, h, _ => by omega
  | k + 1, n, _, h => by
    rw [num]
    split
    · simp
    · have hp : 2 ^ (7 * (k + 1)) = 128 * 2 ^ (7 * k) := by rw [Nat.mul_add, Nat.pow_add]; omega
      rcases Nat.eq_zero_or_pos k with rfl | hk
      · omega
      · have := num_length k (n / 128) hk (by omega)
        simp only [List.length_cons]; omega

/-- What the writing of a number holds at each round's head. -/
structure NumInv (n : Nat) (st σ0 : St) (b bx l d : Nat) (x : Nat × List UInt8 × St) : Prop where
  lt : x.1 < 2 ^ 64
  out : x.2.1 ++ num x.1 = num n
  vbx : x.2.2 bx = some (.cells 0 1 [[.int .u64 x.1]])
  vl : x.2.2 l = σ0 l
  vd : x.2.2 d = σ0 d
  sub : st.sub x.2.2
  vb : ∃ v, x.2.2 b = some (.cells 0 1 [[v]]) ∧ OwnS x.2.2 1 v (bytesE x.2.1) (fun i => i ≠ b ∧ i ≠ bx ∧ i ≠ l ∧ i ≠ d ∧ st i = none)

theorem code_Number (n : Nat) (hn : n < 2 ^ 64) (st : St) : ACalls Ev 7 [.int .u64 n] st (fun e st' => st' = st ∧ e = .ret (.str (num n))) := by
  refine ACalls.thaw (R' := fun e st' => st.sub st' ∧ e = .ret (.str (num n))) ?_ (fun x st1 h => ⟨1, st, h.1, rfl, by rw [h.2]; rfl⟩)
  refine ACalls.of_body Try.func7 rfl ?_
  rw [Try.ntmps7]
  simp only [List.length_cons, List.length_nil, Nat.reduceAdd, Nat.reduceSub, List.replicate_succ, List.replicate_zero, List.cons_append, List.nil_append]
  (repeat' (first | refine AW.seq ?_ | refine AW.scope ?_ | refine AW.label ?_ | refine AW.block ?_ | refine AW.skip ?_ | refine AW.exit ?_ | refine AW.ret ?_ | (refine AW.regionC fun Q' Kn hQ hK hK' => ?_; simp (disch := omega) only [go_sem, Nat.reduceAdd, w_i64, w_u64, w_u8, w_u32, w_i32]; (try simp (disch := omega) only [go_sem, Nat.reduceAdd, w_i64, w_u64, w_u8, w_u32, w_i32]); (repeat' refine And.intro ?_ ?_); (try any_goals (first | (refine hK _ _ ?_; clear hK' hQ hK Q' Kn) | (simp; done) | omega | (simp only [List.length_append, List.length_cons, List.length_nil]; omega)))) | (refine AW.cond (by simp (disch := omega) only [go_sem, Nat.reduceAdd, w_i64, w_u64, w_u8, w_u32, w_i32]; rfl) (fun hb => ?_) (fun hb => ?_) <;> (try simp only [Bool.or_eq_true, Bool.and_eq_true, Bool.or_eq_false_iff, Bool.and_eq_false_iff, decide_eq_true_eq, decide_eq_false_iff_not, beq_iff_eq, bne_iff_ne, Bool.not_eq_true', beq_eq_false_iff_ne, bne_eq_false_iff_eq, ne_eq, Bool.not_eq_false', Bool.true_eq_false, Bool.false_eq_true, Bool.false_or, Bool.true_or, Bool.false_and, Bool.true_and, false_or, or_false, true_and, and_true] at hb))))
  refine AOp.alloc (cs := [.nils]) rfl rfl fun b hb0 => ?_
  (refine AOpsC_ok hK' _ _ _ ?_; simp (disch := omega) only [go_sem, Nat.reduceAdd, w_i64, w_u64, w_u8, w_u32, w_i32]; (try simp (disch := omega) only [go_sem, Nat.reduceAdd, w_i64, w_u64, w_u8, w_u32, w_i32]); (repeat' refine And.intro ?_ ?_); (try any_goals (first | (refine hK _ _ ?_; clear hK' hQ hK Q' Kn) | (simp; done) | omega | (simp only [List.length_append, List.length_cons, List.length_nil]; omega))))
  (repeat' (first | refine AW.seq ?_ | refine AW.scope ?_ | refine AW.label ?_ | refine AW.block ?_ | refine AW.skip ?_ | refine AW.exit ?_ | refine AW.ret ?_ | (refine AW.regionC fun Q' Kn hQ hK hK' => ?_; simp (disch := omega) only [go_sem, Nat.reduceAdd, w_i64, w_u64, w_u8, w_u32, w_i32]; (try simp (disch := omega) only [go_sem, Nat.reduceAdd, w_i64, w_u64, w_u8, w_u32, w_i32]); (repeat' refine And.intro ?_ ?_); (try any_goals (first | (refine hK _ _ ?_; clear hK' hQ hK Q' Kn) | (simp; done) | omega | (simp only [List.length_append, List.length_cons, List.length_nil]; omega)))) | (refine AW.cond (by simp (disch := omega) only [go_sem, Nat.reduceAdd, w_i64, w_u64, w_u8, w_u32, w_i32]; rfl) (fun hb => ?_) (fun hb => ?_) <;> (try simp only [Bool.or_eq_true, Bool.and_eq_true, Bool.or_eq_false_iff, Bool.and_eq_false_iff, decide_eq_true_eq, decide_eq_false_iff_not, beq_iff_eq, bne_iff_ne, Bool.not_eq_true', beq_eq_false_iff_ne, bne_eq_false_iff_eq, ne_eq, Bool.not_eq_false', Bool.true_eq_false, Bool.false_eq_true, Bool.false_or, Bool.true_or, Bool.false_and, Bool.true_and, false_or, or_false, true_and, and_true] at hb))))
  refine AOp.call rfl (by simp only [go_sem]; rfl) (by simp [go_sem]) rfl (ACalls.mono (by simp only [go_sem]; exact code_groups n hn _) ?_)
  rintro e st' ⟨bx, hbx, rfl, rfl⟩
  (refine AOpsC_ok hK' _ _ _ ?_; simp (disch := omega) only [go_sem, Nat.reduceAdd, w_i64, w_u64, w_u8, w_u32, w_i32]; (try simp (disch := omega) only [go_sem, Nat.reduceAdd, w_i64, w_u64, w_u8, w_u32, w_i32]); (repeat' refine And.intro ?_ ?_); (try any_goals (first | (refine hK _ _ ?_; clear hK' hQ hK Q' Kn) | (simp; done) | omega | (simp only [List.length_append, List.length_cons, List.length_nil]; omega))))
  (repeat' (first | refine AW.seq ?_ | refine AW.scope ?_ | refine AW.label ?_ | refine AW.block ?_ | refine AW.skip ?_ | refine AW.exit ?_ | refine AW.ret ?_ | (refine AW.regionC fun Q' Kn hQ hK hK' => ?_; simp (disch := omega) only [go_sem, Nat.reduceAdd, w_i64, w_u64, w_u8, w_u32, w_i32]; (try simp (disch := omega) only [go_sem, Nat.reduceAdd, w_i64, w_u64, w_u8, w_u32, w_i32]); (repeat' refine And.intro ?_ ?_); (try any_goals (first | (refine hK _ _ ?_; clear hK' hQ hK Q' Kn) | (simp; done) | omega | (simp only [List.length_append, List.length_cons, List.length_nil]; omega)))) | (refine AW.cond (by simp (disch := omega) only [go_sem, Nat.reduceAdd, w_i64, w_u64, w_u8, w_u32, w_i32]; rfl) (fun hb => ?_) (fun hb => ?_) <;> (try simp only [Bool.or_eq_true, Bool.and_eq_true, Bool.or_eq_false_iff, Bool.and_eq_false_iff, decide_eq_true_eq, decide_eq_false_iff_not, beq_iff_eq, bne_iff_ne, Bool.not_eq_true', beq_eq_false_iff_ne, bne_eq_false_iff_eq, ne_eq, Bool.not_eq_false', Bool.true_eq_false, Bool.false_eq_true, Bool.false_or, Bool.true_or, Bool.false_and, Bool.true_and, false_or, or_false, true_and, and_true] at hb))))
  refine AW.rangeFunc (f := 23) (by simp only [go_sem]; rfl) (by simp [go_sem]) rfl fun d l fn hd hl hld => ?_
  refine ACalls.of_body Try.func23 rfl ?_
  rw [Try.ntmps23]
  simp only [List.length_cons, List.length_nil, Nat.reduceAdd, Nat.reduceSub, List.replicate_succ, List.replicate_zero, List.cons_append, List.nil_append]
  have n1 : bx ≠ b := fun e => by subst e; simp [St.set] at hbx
  have n2 : d ≠ bx := fun e => by subst e; simp [St.set] at hd
  have n3 : d ≠ b := fun e => by subst e; simp [St.set, Ne.symm n1] at hd
  have n4 : l ≠ bx := fun e => by subst e; simp [St.set] at hl
  have n5 : l ≠ b := fun e => by subst e; simp [St.set, Ne.symm n1] at hl
  have hb := hb0
  simp only [St.set, n1, n2, n3, n4, n5, if_false] at hbx hd hl
  generalize hσ : (St.set (St.set _ d _) l _) = σ0
  have sl := congrFun hσ l
  have sd := congrFun hσ d
  have sb := congrFun hσ b
  have sbx := congrFun hσ bx
  simp only [St.set, n1, n2, n3, n4, n5, Ne.symm n1, Ne.symm n2, Ne.symm n3, Ne.symm n4, Ne.symm n5, hld, Ne.symm hld, if_false, if_true, ite_false, ite_true] at sl sd sb sbx
  have ssub : st.sub σ0 := by
    rw [← hσ]
    exact St.sub_set (St.sub_set (St.sub_set (St.sub_set (St.sub_refl st) hb0 _) hbx _) hd _) hl _
  (repeat' (first | refine AW.seq ?_ | refine AW.scope ?_ | refine AW.label ?_ | refine AW.block ?_ | refine AW.skip ?_ | refine AW.exit ?_ | refine AW.ret ?_ | (refine AW.regionC fun Q' Kn hQ hK hK' => ?_; simp (disch := omega) only [go_sem, Nat.reduceAdd, w_i64, w_u64, w_u8, w_u32, w_i32]; (try simp (disch := omega) only [go_sem, Nat.reduceAdd, w_i64, w_u64, w_u8, w_u32, w_i32]); (repeat' refine And.intro ?_ ?_); (try any_goals (first | (refine hK _ _ ?_; clear hK' hQ hK Q' Kn) | (simp; done) | omega | (simp only [List.length_append, List.length_cons, List.length_nil]; omega)))) | (refine AW.cond (by simp (disch := omega) only [go_sem, Nat.reduceAdd, w_i64, w_u64, w_u8, w_u32, w_i32]; rfl) (fun hb => ?_) (fun hb => ?_) <;> (try simp only [Bool.or_eq_true, Bool.and_eq_true, Bool.or_eq_false_iff, Bool.and_eq_false_iff, decide_eq_true_eq, decide_eq_false_iff_not, beq_iff_eq, bne_iff_ne, Bool.not_eq_true', beq_eq_false_iff_ne, bne_eq_false_iff_eq, ne_eq, Bool.not_eq_false', Bool.true_eq_false, Bool.false_eq_true, Bool.false_or, Bool.true_or, Bool.false_and, Bool.true_and, false_or, or_false, true_and, and_true] at hb))))
  refine AW.loopF (fun x => [.yld l, .ptr bx 0 0 0, .junk, .junk, .junk, .junk, .junk, .junk, .junk, .junk, .junk, .junk, .junk, .junk, .junk, .junk, .junk]) (fun x : Nat × List UInt8 × St => x.2.2) (NumInv n st σ0 b bx l d) (fun x => x.1) (n, [], σ0) ?_ rfl ?_ ?_
  · (repeat (first | exact Weak.nil | refine Weak.junk _ ?_ | refine Weak.same _ ?_ | refine Weak.eqv (by (congr 1; omega)) ?_))
  · exact ⟨hn, rfl, sbx.symm, rfl, rfl, ssub, .nils, sb.symm, .inl ⟨rfl, rfl⟩⟩
  rintro ⟨m, done, σ⟩ ⟨h1, h2, h3, h4, h5, h6, v, h7, h8⟩
  dsimp only at h1 h2 h3 h4 h5 h6 h7 h8 ⊢
  clear hσ
  (repeat' (first | refine AW.seq ?_ | refine AW.scope ?_ | refine AW.label ?_ | refine AW.block ?_ | refine AW.skip ?_ | refine AW.exit ?_ | refine AW.ret ?_ | (refine AW.regionC fun Q' Kn hQ hK hK' => ?_; simp (disch := omega) only [go_sem, Nat.reduceAdd, w_i64, w_u64, w_u8, w_u32, w_i32]; (try simp (disch := omega) only [go_sem, Nat.reduceAdd, w_i64, w_u64, w_u8, w_u32, w_i32]); (repeat' refine And.intro ?_ ?_); (try any_goals (first | (refine hK _ _ ?_; clear hK' hQ hK Q' Kn) | (simp; done) | omega | (simp only [List.length_append, List.length_cons, List.length_nil]; omega)))) | (refine AW.cond (by simp (disch := omega) only [go_sem, Nat.reduceAdd, w_i64, w_u64, w_u8, w_u32, w_i32]; rfl) (fun hb => ?_) (fun hb => ?_) <;> (try simp only [Bool.or_eq_true, Bool.and_eq_true, Bool.or_eq_false_iff, Bool.and_eq_false_iff, decide_eq_true_eq, decide_eq_false_iff_not, beq_iff_eq, bne_iff_ne, Bool.not_eq_true', beq_eq_false_iff_ne, bne_eq_false_iff_eq, ne_eq, Bool.not_eq_false', Bool.true_eq_false, Bool.false_eq_true, Bool.false_or, Bool.true_or, Bool.false_and, Bool.true_and, false_or, or_false, true_and, and_true] at hb))))
  refine AOp.loadCell rfl (by simp only [go_sem]; rfl) (by simp [go_sem]) h3 rfl (by simp) (by decide) ?_
  (refine AOpsC_ok hK' _ _ _ ?_; simp (disch := omega) only [go_sem, Nat.reduceAdd, w_i64, w_u64, w_u8, w_u32, w_i32]; (try simp (disch := omega) only [go_sem, Nat.reduceAdd, w_i64, w_u64, w_u8, w_u32, w_i32]); (repeat' refine And.intro ?_ ?_); (try any_goals (first | (refine hK _ _ ?_; clear hK' hQ hK Q' Kn) | (simp; done) | omega | (simp only [List.length_append, List.length_cons, List.length_nil]; omega))))
  refine AOp.loadCell rfl (by simp only [go_sem]; rfl) (by simp [go_sem]) h3 rfl (by simp) (by decide) ?_
  (refine AOpsC_ok hK' _ _ _ ?_; simp (disch := omega) only [go_sem, Nat.reduceAdd, w_i64, w_u64, w_u8, w_u32, w_i32]; (try simp (disch := omega) only [go_sem, Nat.reduceAdd, w_i64, w_u64, w_u8, w_u32, w_i32]); (repeat' refine And.intro ?_ ?_); (try any_goals (first | (refine hK _ _ ?_; clear hK' hQ hK Q' Kn) | (simp; done) | omega | (simp only [List.length_append, List.length_cons, List.length_nil]; omega))))
  let ok : Nat → Prop := fun i => i ≠ b ∧ i ≠ bx ∧ i ≠ l ∧ i ≠ d ∧ st i = none
  let cb : UInt8 := if m < 128 then UInt8.ofNat m else UInt8.ofNat (m % 128 + 128)
  have hlen := num_length 10 n (by omega) (by omega)
  have hl2 : done.length < 10 := by
    have := congrArg List.length h2
    have hp : 0 < (num m).length := by rw [num]; split <;> simp
    simp only [List.length_append] at this; omega
  refine AOp.yieldI (fun v σ' => v = .bool true ∧ σ' bx = some (.cells 0 1 [[.int .u64 m]]) ∧ σ' l = σ0 l ∧ σ' d = σ0 d ∧ st.sub σ' ∧ ∃ v, σ' b = some (.cells 0 1 [[v]]) ∧ OwnS σ' 1 v (bytesE (done ++ [cb])) ok)
    rfl (by simp only [go_sem]; rfl) (by simp [go_sem]) (by rw [h4]; exact sl.symm) rfl ?_ ?_
  · rintro _ σ' ⟨rfl, q1, q2, q3, q4, q5⟩
    (refine AOpsC_ok hK' _ _ _ ?_; simp (disch := omega) only [go_sem, Nat.reduceAdd, w_i64, w_u64, w_u8, w_u32, w_i32]; (try simp (disch := omega) only [go_sem, Nat.reduceAdd, w_i64, w_u64, w_u8, w_u32, w_i32]); (repeat' refine And.intro ?_ ?_); (try any_goals (first | (refine hK _ _ ?_; clear hK' hQ hK Q' Kn) | (simp; done) | omega | (simp only [List.length_append, List.length_cons, List.length_nil]; omega))))
    refine AOp.loadCell rfl (by simp only [go_sem]; rfl) (by simp [go_sem]) q1 rfl (by simp) (by decide) ?_
    (refine AOpsC_ok hK' _ _ _ ?_; simp (disch := omega) only [go_sem, Nat.reduceAdd, w_i64, w_u64, w_u8, w_u32, w_i32]; (try simp (disch := omega) only [go_sem, Nat.reduceAdd, w_i64, w_u64, w_u8, w_u32, w_i32]); (repeat' refine And.intro ?_ ?_); (try any_goals (first | (refine hK _ _ ?_; clear hK' hQ hK Q' Kn) | (simp; done) | omega | (simp only [List.length_append, List.length_cons, List.length_nil]; omega))))
    obtain ⟨v', q6, q7⟩ := q5
    (repeat' (first | refine AW.seq ?_ | refine AW.scope ?_ | refine AW.label ?_ | refine AW.block ?_ | refine AW.skip ?_ | refine AW.exit ?_ | refine AW.ret ?_ | (refine AW.regionC fun Q' Kn hQ hK hK' => ?_; simp (disch := omega) only [go_sem, Nat.reduceAdd, w_i64, w_u64, w_u8, w_u32, w_i32]; (try simp (disch := omega) only [go_sem, Nat.reduceAdd, w_i64, w_u64, w_u8, w_u32, w_i32]); (repeat' refine And.intro ?_ ?_); (try any_goals (first | (refine hK _ _ ?_; clear hK' hQ hK Q' Kn) | (simp; done) | omega | (simp only [List.length_append, List.length_cons, List.length_nil]; omega)))) | (refine AW.cond (by simp (disch := omega) only [go_sem, Nat.reduceAdd, w_i64, w_u64, w_u8, w_u32, w_i32]; rfl) (fun hb => ?_) (fun hb => ?_) <;> (try simp only [Bool.or_eq_true, Bool.and_eq_true, Bool.or_eq_false_iff, Bool.and_eq_false_iff, decide_eq_true_eq, decide_eq_false_iff_not, beq_iff_eq, bne_iff_ne, Bool.not_eq_true', beq_eq_false_iff_ne, bne_eq_false_iff_eq, ne_eq, Bool.not_eq_false', Bool.true_eq_false, Bool.false_eq_true, Bool.false_or, Bool.true_or, Bool.false_and, Bool.true_and, false_or, or_false, true_and, and_true] at hb))))
    · have hm : m < 128 := by omega
      refine ⟨_, _, rfl, by simp, ?_⟩
      simp only [ARange, q2, ← sl]
      refine ⟨by simp, ?_⟩
      rcases q7 with ⟨_, h⟩ | ⟨ia, g, rfl, q8, q9⟩
      · simp [bytesE] at h
      have hd1 : (σ'.del l) b = some (.cells 0 1 [[.arr ia g 1 0 (bytesE (done ++ [cb])).length]]) := by rw [St.del_ne _ (Ne.symm n5), q6]
      have hd2 : (σ'.del l) ia = some (.cells g 1 (bytesE (done ++ [cb]))) := by rw [St.del_ne _ q9.2.2.1, q8]
      (repeat' (first | refine AW.seq ?_ | refine AW.scope ?_ | refine AW.label ?_ | refine AW.block ?_ | refine AW.skip ?_ | refine AW.exit ?_ | refine AW.ret ?_ | (refine AW.regionC fun Q' Kn hQ hK hK' => ?_; simp (disch := omega) only [go_sem, Nat.reduceAdd, w_i64, w_u64, w_u8, w_u32, w_i32]; (try simp (disch := omega) only [go_sem, Nat.reduceAdd, w_i64, w_u64, w_u8, w_u32, w_i32]); (repeat' refine And.intro ?_ ?_); (try any_goals (first | (refine hK _ _ ?_; clear hK' hQ hK Q' Kn) | (simp; done) | omega | (simp only [List.length_append, List.length_cons, List.length_nil]; omega)))) | (refine AW.cond (by simp (disch := omega) only [go_sem, Nat.reduceAdd, w_i64, w_u64, w_u8, w_u32, w_i32]; rfl) (fun hb => ?_) (fun hb => ?_) <;> (try simp only [Bool.or_eq_true, Bool.and_eq_true, Bool.or_eq_false_iff, Bool.and_eq_false_iff, decide_eq_true_eq, decide_eq_false_iff_not, beq_iff_eq, bne_iff_ne, Bool.not_eq_true', beq_eq_false_iff_ne, bne_eq_false_iff_eq, ne_eq, Bool.not_eq_false', Bool.true_eq_false, Bool.false_eq_true, Bool.false_or, Bool.true_or, Bool.false_and, Bool.true_and, false_or, or_false, true_and, and_true] at hb))))
      refine AOp.loadCell rfl (by simp only [go_sem]; rfl) (by simp [go_sem]) hd1 rfl (by simp) (by decide) ?_
      (refine AOpsC_ok hK' _ _ _ ?_; simp (disch := omega) only [go_sem, Nat.reduceAdd, w_i64, w_u64, w_u8, w_u32, w_i32]; (try simp (disch := omega) only [go_sem, Nat.reduceAdd, w_i64, w_u64, w_u8, w_u32, w_i32]); (repeat' refine And.intro ?_ ?_); (try any_goals (first | (refine hK _ _ ?_; clear hK' hQ hK Q' Kn) | (simp; done) | omega | (simp only [List.length_append, List.length_cons, List.length_nil]; omega))))
      refine AOp.toStr (e := 5) (s := done ++ [cb]) (by rfl) ?_ (by rfl) (by rfl) (by rfl) (.inr ?_) ?_
      · simp [go_sem]
      · simp [go_sem, aElems, aSz, hd2]
        exact List.take_of_length_le (by simp)
      (refine AOpsC_ok hK' _ _ _ ?_; simp (disch := omega) only [go_sem, Nat.reduceAdd, w_i64, w_u64, w_u8, w_u32, w_i32]; (try simp (disch := omega) only [go_sem, Nat.reduceAdd, w_i64, w_u64, w_u8, w_u32, w_i32]); (repeat' refine And.intro ?_ ?_); (try any_goals (first | (refine hK _ _ ?_; clear hK' hQ hK Q' Kn) | (simp; done) | omega | (simp only [List.length_append, List.length_cons, List.length_nil]; omega))))
      (repeat' (first | refine AW.seq ?_ | refine AW.scope ?_ | refine AW.label ?_ | refine AW.block ?_ | refine AW.skip ?_ | refine AW.exit ?_ | refine AW.ret ?_ | (refine AW.regionC fun Q' Kn hQ hK hK' => ?_; simp (disch := omega) only [go_sem, Nat.reduceAdd, w_i64, w_u64, w_u8, w_u32, w_i32]; (try simp (disch := omega) only [go_sem, Nat.reduceAdd, w_i64, w_u64, w_u8, w_u32, w_i32]); (repeat' refine And.intro ?_ ?_); (try any_goals (first | (refine hK _ _ ?_; clear hK' hQ hK Q' Kn) | (simp; done) | omega | (simp only [List.length_append, List.length_cons, List.length_nil]; omega)))) | (refine AW.cond (by simp (disch := omega) only [go_sem, Nat.reduceAdd, w_i64, w_u64, w_u8, w_u32, w_i32]; rfl) (fun hb => ?_) (fun hb => ?_) <;> (try simp only [Bool.or_eq_true, Bool.and_eq_true, Bool.or_eq_false_iff, Bool.and_eq_false_iff, decide_eq_true_eq, decide_eq_false_iff_not, beq_iff_eq, bne_iff_ne, Bool.not_eq_true', beq_eq_false_iff_ne, bne_eq_false_iff_eq, ne_eq, Bool.not_eq_false', Bool.true_eq_false, Bool.false_eq_true, Bool.false_or, Bool.true_or, Bool.false_and, Bool.true_and, false_or, or_false, true_and, and_true] at hb))))
      refine ⟨by rw [St.del_ne _ (Ne.symm hld), q3]; exact sd.symm, ?_⟩
      (refine ⟨_, _, rfl, by simp, ?_⟩; simp only [aTup, AA.get, List.getD_cons_zero, List.getD_cons_succ, true_and])
      refine ⟨?_, ?_⟩
      · intro i B hi
        have e1 : i ≠ d := fun e => by subst e; rw [hd] at hi; cases hi
        have e2 : i ≠ l := fun e => by subst e; rw [hl] at hi; cases hi
        rw [St.set_ne _ _ e1, St.del_ne _ e2]; exact q4 i B hi
      · have : num m = [cb] := by rw [num, dif_pos hm]; show _ = [if _ then _ else _]; rw [if_pos hm]
        rw [← h2, this]
    · refine AOp.loadCell rfl (by simp only [go_sem]; rfl) (by simp [go_sem]) q1 rfl (by simp) (by decide) ?_
      (refine AOpsC_ok hK' _ _ _ ?_; simp (disch := omega) only [go_sem, Nat.reduceAdd, w_i64, w_u64, w_u8, w_u32, w_i32]; (try simp (disch := omega) only [go_sem, Nat.reduceAdd, w_i64, w_u64, w_u8, w_u32, w_i32]); (repeat' refine And.intro ?_ ?_); (try any_goals (first | (refine hK _ _ ?_; clear hK' hQ hK Q' Kn) | (simp; done) | omega | (simp only [List.length_append, List.length_cons, List.length_nil]; omega))))
      refine AOp.store (cs := [.int .u64 ((m / 128 : Nat) : Int)]) rfl (by simp only [go_sem]; rfl) (by simp [go_sem]) q1 ?_ rfl rfl (by simp) (by simp) ?_
      · simp only [go_sem, aCells]; rw [shr7_u64]
      (refine AOpsC_ok hK' _ _ _ ?_; simp (disch := omega) only [go_sem, Nat.reduceAdd, w_i64, w_u64, w_u8, w_u32, w_i32]; (try simp (disch := omega) only [go_sem, Nat.reduceAdd, w_i64, w_u64, w_u8, w_u32, w_i32]); (repeat' refine And.intro ?_ ?_); (try any_goals (first | (refine hK _ _ ?_; clear hK' hQ hK Q' Kn) | (simp; done) | omega | (simp only [List.length_append, List.length_cons, List.length_nil]; omega))))
      (repeat' (first | refine AW.seq ?_ | refine AW.scope ?_ | refine AW.label ?_ | refine AW.block ?_ | refine AW.skip ?_ | refine AW.exit ?_ | refine AW.ret ?_ | (refine AW.regionC fun Q' Kn hQ hK hK' => ?_; simp (disch := omega) only [go_sem, Nat.reduceAdd, w_i64, w_u64, w_u8, w_u32, w_i32]; (try simp (disch := omega) only [go_sem, Nat.reduceAdd, w_i64, w_u64, w_u8, w_u32, w_i32]); (repeat' refine And.intro ?_ ?_); (try any_goals (first | (refine hK _ _ ?_; clear hK' hQ hK Q' Kn) | (simp; done) | omega | (simp only [List.length_append, List.length_cons, List.length_nil]; omega)))) | (refine AW.cond (by simp (disch := omega) only [go_sem, Nat.reduceAdd, w_i64, w_u64, w_u8, w_u32, w_i32]; rfl) (fun hb => ?_) (fun hb => ?_) <;> (try simp only [Bool.or_eq_true, Bool.and_eq_true, Bool.or_eq_false_iff, Bool.and_eq_false_iff, decide_eq_true_eq, decide_eq_false_iff_not, beq_iff_eq, bne_iff_ne, Bool.not_eq_true', beq_eq_false_iff_ne, bne_eq_false_iff_eq, ne_eq, Bool.not_eq_false', Bool.true_eq_false, Bool.false_eq_true, Bool.false_or, Bool.true_or, Bool.false_and, Bool.true_and, false_or, or_false, true_and, and_true] at hb))))
      have hm : 128 ≤ m := by omega
      have hcb : cb = UInt8.ofNat (m % 128 + 128) := if_neg (by omega)
      refine ⟨(m / 128, done ++ [cb], σ'.set bx (.cells 0 1 [[.int .u64 ((m / 128 : Nat) : Int)]])), ⟨by dsimp only; omega, ?_, by simp [St.set], ?_, ?_, ?_, v', ?_, ?_⟩, by dsimp only; omega, ?_, rfl, by simp [splice]⟩
      · dsimp only
        rw [← h2, hcb]
        conv => rhs; rw [num, dif_neg (by omega)]
        simp
      · dsimp only; rw [St.set_ne _ _ n4, q2]
      · dsimp only; rw [St.set_ne _ _ n2, q3]
      · exact St.sub_set q4 hbx _
      · dsimp only; rw [St.set_ne _ _ (Ne.symm n1), q6]
      · rcases q7 with h | ⟨ia, g, e1, e2, e3⟩
        · exact .inl h
        · exact .inr ⟨ia, g, e1, by dsimp only; rw [St.set_ne _ _ e3.2.1, e2], e3⟩
      · dsimp only
        (repeat (first | exact Weak.nil | refine Weak.junk _ ?_ | refine Weak.same _ ?_ | refine Weak.eqv (by (congr 1; omega)) ?_))
  simp only [go_sem, bindTm]
  rw [and127_u64 h1, w_u8 (by omega) (by omega)]
  (repeat' (first | refine AW.seq ?_ | refine AW.scope ?_ | refine AW.label ?_ | refine AW.block ?_ | refine AW.skip ?_ | refine AW.exit ?_ | refine AW.ret ?_ | (refine AW.regionC fun Q' Kn hQ hK hK' => ?_; simp (disch := omega) only [go_sem, Nat.reduceAdd, w_i64, w_u64, w_u8, w_u32, w_i32]; (try simp (disch := omega) only [go_sem, Nat.reduceAdd, w_i64, w_u64, w_u8, w_u32, w_i32]); (repeat' refine And.intro ?_ ?_); (try any_goals (first | (refine hK _ _ ?_; clear hK' hQ hK Q' Kn) | (simp; done) | omega | (simp only [List.length_append, List.length_cons, List.length_nil]; omega)))) | (refine AW.cond (by simp (disch := omega) only [go_sem, Nat.reduceAdd, w_i64, w_u64, w_u8, w_u32, w_i32]; rfl) (fun hb => ?_) (fun hb => ?_) <;> (try simp only [Bool.or_eq_true, Bool.and_eq_true, Bool.or_eq_false_iff, Bool.and_eq_false_iff, decide_eq_true_eq, decide_eq_false_iff_not, beq_iff_eq, bne_iff_ne, Bool.not_eq_true', beq_eq_false_iff_ne, bne_eq_false_iff_eq, ne_eq, Bool.not_eq_false', Bool.true_eq_false, Bool.false_eq_true, Bool.false_or, Bool.true_or, Bool.false_and, Bool.true_and, false_or, or_false, true_and, and_true] at hb))))
  refine ⟨_, _, _, _, _, _, _, by rw [h4]; exact sl.symm, ?_⟩
  (repeat' (first | refine AW.seq ?_ | refine AW.scope ?_ | refine AW.label ?_ | refine AW.block ?_ | refine AW.skip ?_ | refine AW.exit ?_ | refine AW.ret ?_ | (refine AW.regionC fun Q' Kn hQ hK hK' => ?_; simp (disch := omega) only [go_sem, Nat.reduceAdd, w_i64, w_u64, w_u8, w_u32, w_i32]; (try simp (disch := omega) only [go_sem, Nat.reduceAdd, w_i64, w_u64, w_u8, w_u32, w_i32]); (repeat' refine And.intro ?_ ?_); (try any_goals (first | (refine hK _ _ ?_; clear hK' hQ hK Q' Kn) | (simp; done) | omega | (simp only [List.length_append, List.length_cons, List.length_nil]; omega)))) | (refine AW.cond (by simp (disch := omega) only [go_sem, Nat.reduceAdd, w_i64, w_u64, w_u8, w_u32, w_i32]; rfl) (fun hb => ?_) (fun hb => ?_) <;> (try simp only [Bool.or_eq_true, Bool.and_eq_true, Bool.or_eq_false_iff, Bool.and_eq_false_iff, decide_eq_true_eq, decide_eq_false_iff_not, beq_iff_eq, bne_iff_ne, Bool.not_eq_true', beq_eq_false_iff_ne, bne_eq_false_iff_eq, ne_eq, Bool.not_eq_false', Bool.true_eq_false, Bool.false_eq_true, Bool.false_or, Bool.true_or, Bool.false_and, Bool.true_and, false_or, or_false, true_and, and_true] at hb))))
  · have hcb : cb = UInt8.ofNat (m % 128 + 128) := if_neg (by omega)
    rw [or128_u8 (by omega)]
    have hcv : ((m % 128 + 128 : Nat) : Int) = ((cb.toNat : Nat) : Int) := by rw [hcb, UInt8.toNat_ofNat']; omega
    rw [hcv]
    refine AOp.loadCell rfl (by simp only [go_sem]; rfl) (by simp [go_sem]) (by simp only [St.set, Ne.symm n5, if_false, ite_false]; exact h7) rfl (by simp) (by decide) ?_
    (refine AOpsC_ok hK' _ _ _ ?_; simp (disch := omega) only [go_sem, Nat.reduceAdd, w_i64, w_u64, w_u8, w_u32, w_i32]; (try simp (disch := omega) only [go_sem, Nat.reduceAdd, w_i64, w_u64, w_u8, w_u32, w_i32]); (repeat' refine And.intro ?_ ?_); (try any_goals (first | (refine hK _ _ ?_; clear hK' hQ hK Q' Kn) | (simp; done) | omega | (simp only [List.length_append, List.length_cons, List.length_nil]; omega))))
    refine AOp.buildSlice (e := 5) (sz := 1) (es := bytesE [cb]) rfl rfl rfl rfl (by simp [partsC, go_sem]) (by simp [aParts, go_sem, bytesE]; rfl) (by simp [bytesE]) rfl (by decide) (by decide) fun it hit => ?_
    (refine AOpsC_ok hK' _ _ _ ?_; simp (disch := omega) only [go_sem, Nat.reduceAdd, w_i64, w_u64, w_u8, w_u32, w_i32]; (try simp (disch := omega) only [go_sem, Nat.reduceAdd, w_i64, w_u64, w_u8, w_u32, w_i32]); (repeat' refine And.intro ?_ ?_); (try any_goals (first | (refine hK _ _ ?_; clear hK' hQ hK Q' Kn) | (simp; done) | omega | (simp only [List.length_append, List.length_cons, List.length_nil]; omega))))
    refine AOp.appendO (ok := ok) (e := 5) (sz := 1) (by_ := 1) (es := bytesE done) (xs := bytesE [cb]) (v := v) rfl (by rcases h8 with ⟨rfl, _⟩ | ⟨_, _, rfl, _⟩ <;> simp [go_sem]) rfl rfl rfl rfl (by decide) (by rcases h8 with ⟨rfl, _⟩ | ⟨_, _, rfl, _⟩ <;> rfl) ?_ (by simp [go_sem, aElems, St.set, bytesE]) (by simp [go_sem, aSz]) (bytesE_one _) ?_ ?_ ?_ ?_ (by simp [bytesE])
    · rcases h8 with h | ⟨ia, g, e1, e2, e3⟩
      · exact .inl h
      · refine .inr ⟨ia, g, e1, ?_, e3⟩
        have : ia ≠ it := fun e => by subst e; simp [St.set, e3.2.2.1, e2] at hit
        simp [St.set, this, e3.2.2.1, e2]
    · simp only [bytesE_length, List.length_cons, List.length_nil]; omega
    · simp only [bytesE_length, List.length_cons, List.length_nil, maxLen]; omega
    · intro id hid
      simp only [St.set] at hid
      split at hid
      · cases hid
      split at hid
      · cases hid
      rename_i e1 e2
      refine ⟨fun e => ?_, fun e => ?_, e2, fun e => ?_, ?_⟩
      · subst e; rw [h7] at hid; cases hid
      · subst e; rw [h3] at hid; cases hid
      · subst e; rw [h5, ← sd] at hid; cases hid
      · cases hx : st id with
        | none => rfl
        | some B => rw [h6 id B hx] at hid; cases hid
    intro v' ia B hia hv' hown
    (refine AOpsC_ok hK' _ _ _ ?_; simp (disch := omega) only [go_sem, Nat.reduceAdd, w_i64, w_u64, w_u8, w_u32, w_i32]; (try simp (disch := omega) only [go_sem, Nat.reduceAdd, w_i64, w_u64, w_u8, w_u32, w_i32]); (repeat' refine And.intro ?_ ?_); (try any_goals (first | (refine hK _ _ ?_; clear hK' hQ hK Q' Kn) | (simp; done) | omega | (simp only [List.length_append, List.length_cons, List.length_nil]; omega))))
    refine AOp.store (cs := [v']) (es := [[v]]) (sz := 1) rfl (by simp only [go_sem]; rfl) ?_ ?_ ?_ ?_ rfl (by simp) (by simp) ?_
    · rcases hown with ⟨rfl, _⟩ | ⟨_, _, rfl, _⟩ <;> simp [go_sem]
    · simp only [St.set] at hit ⊢
      have e1 : b ≠ ia := fun e => by
        subst e
        rcases hia with hia | hia
        · simp only [St.set] at hia
          split at hia
          · cases hia
          · rw [if_neg (Ne.symm n5), h7] at hia; cases hia
        · exact hia.1 rfl
      have e2 : b ≠ it := fun e => by subst e; rw [if_neg (Ne.symm n5), h7] at hit; cases hit
      rw [if_neg e1, if_neg e2, if_neg (Ne.symm n5), h7]
    · rcases hown with ⟨rfl, _⟩ | ⟨_, _, rfl, _⟩ <;> simp [go_sem, aCells]
    · rcases hown with ⟨rfl, _⟩ | ⟨_, _, rfl, _⟩ <;> simp [isCell]
    (refine AOpsC_ok hK' _ _ _ ?_; simp (disch := omega) only [go_sem, Nat.reduceAdd, w_i64, w_u64, w_u8, w_u32, w_i32]; (try simp (disch := omega) only [go_sem, Nat.reduceAdd, w_i64, w_u64, w_u8, w_u32, w_i32]); (repeat' refine And.intro ?_ ?_); (try any_goals (first | (refine hK _ _ ?_; clear hK' hQ hK Q' Kn) | (simp; done) | omega | (simp only [List.length_append, List.length_cons, List.length_nil]; omega))))
    simp only [AInBlock]
    refine ARound.normal (l := l) (by
      have e1 : l ≠ it := fun e => by subst e; simp only [St.set, if_true, ite_true] at hit; cases hit
      have e2 : l ≠ ia := fun e => by
        subst e
        rcases hia with hia | hia
        · simp only [St.set, if_true, ite_true] at hia; split at hia <;> cases hia
        · exact hia.2.2.1 rfl
      rw [St.set_ne _ _ n5, St.set_ne _ _ e2, St.set_ne _ _ e1, St.set_same]) ?_
    have e0 : ∀ i B, σ i = some B → i ≠ l → i ≠ it := fun i B hi hn e => by subst e; simp only [St.set, if_neg hn] at hit; rw [hi] at hit; cases hit
    have e1 : ∀ i, i = bx ∨ i = b ∨ i = l ∨ i = d → i ≠ ia := fun i hi e => by
      subst e
      rcases hia with hia | hia
      · simp only [St.set] at hia
        split at hia
        · cases hia
        rename_i hne
        split at hia
        · cases hia
        rcases hi with rfl | rfl | rfl | rfl
        · rw [h3] at hia; cases hia
        · rw [h7] at hia; cases hia
        · contradiction
        · rw [h5, ← sd] at hia; cases hia
      · rcases hi with rfl | rfl | rfl | rfl
        · exact hia.2.1 rfl
        · exact hia.1 rfl
        · exact hia.2.2.1 rfl
        · exact hia.2.2.2.1 rfl
    have e2 : st ia = none := by
      rcases hia with hia | hia
      · simp only [St.set] at hia
        split at hia
        · cases hia
        split at hia
        · cases hia
        cases hx : st ia with
        | none => rfl
        | some B => rw [h6 ia B hx] at hia; cases hia
      · exact hia.2.2.2.2
    have e3 : st it = none := by
      simp only [St.set] at hit
      split at hit
      · cases hit
      cases hx : st it with
      | none => rfl
      | some B => rw [h6 it B hx] at hit; cases hit
    have e4 := e0 bx _ h3 (Ne.symm n4)
    have e5 := e0 d _ (h5.trans sd.symm) (Ne.symm hld)
    refine ⟨rfl, ?_, ?_, ?_, ?_, v', ?_, ?_⟩
    · rw [St.set_ne _ _ (Ne.symm n4), St.set_ne _ _ n1, St.set_ne _ _ (e1 bx (by simp)), St.set_ne _ _ e4, St.set_ne _ _ (Ne.symm n4)]; exact h3
    · rw [St.set_same]; exact sl
    · rw [St.set_ne _ _ (Ne.symm hld), St.set_ne _ _ n3, St.set_ne _ _ (e1 d (by simp)), St.set_ne _ _ e5, St.set_ne _ _ (Ne.symm hld)]; exact h5
    · exact St.sub_set (St.sub_set (St.sub_set (St.sub_set (St.sub_set h6 hl _) e3 _) e2 _) hb0 _) hl _
    · rw [St.set_ne _ _ (Ne.symm n5), St.set_same]; simp [splice]
    · rw [bytesE_append]
      rcases hown with ⟨_, h⟩ | ⟨i2, g2, q1, q2, q3⟩
      · simp [bytesE] at h
      · refine .inr ⟨i2, g2, q1, ?_, q3⟩
        rw [St.set_ne _ _ q3.2.2.1, St.set_ne _ _ q3.1]; exact q2
  · have hcb : cb = UInt8.ofNat m := if_pos (by omega)
    have hcv : ((m % 128 : Nat) : Int) = ((cb.toNat : Nat) : Int) := by rw [hcb, UInt8.toNat_ofNat']; omega
    rw [hcv]
    refine AOp.loadCell rfl (by simp only [go_sem]; rfl) (by simp [go_sem]) (by simp only [St.set, Ne.symm n5, if_false, ite_false]; exact h7) rfl (by simp) (by decide) ?_
    (refine AOpsC_ok hK' _ _ _ ?_; simp (disch := omega) only [go_sem, Nat.reduceAdd, w_i64, w_u64, w_u8, w_u32, w_i32]; (try simp (disch := omega) only [go_sem, Nat.reduceAdd, w_i64, w_u64, w_u8, w_u32, w_i32]); (repeat' refine And.intro ?_ ?_); (try any_goals (first | (refine hK _ _ ?_; clear hK' hQ hK Q' Kn) | (simp; done) | omega | (simp only [List.length_append, List.length_cons, List.length_nil]; omega))))
    refine AOp.buildSlice (e := 5) (sz := 1) (es := bytesE [cb]) rfl rfl rfl rfl (by simp [partsC, go_sem]) (by simp [aParts, go_sem, bytesE]; rfl) (by simp [bytesE]) rfl (by decide) (by decide) fun it hit => ?_
    (refine AOpsC_ok hK' _ _ _ ?_; simp (disch := omega) only [go_sem, Nat.reduceAdd, w_i64, w_u64, w_u8, w_u32, w_i32]; (try simp (disch := omega) only [go_sem, Nat.reduceAdd, w_i64, w_u64, w_u8, w_u32, w_i32]); (repeat' refine And.intro ?_ ?_); (try any_goals (first | (refine hK _ _ ?_; clear hK' hQ hK Q' Kn) | (simp; done) | omega | (simp only [List.length_append, List.length_cons, List.length_nil]; omega))))
    refine AOp.appendO (ok := ok) (e := 5) (sz := 1) (by_ := 1) (es := bytesE done) (xs := bytesE [cb]) (v := v) rfl (by rcases h8 with ⟨rfl, _⟩ | ⟨_, _, rfl, _⟩ <;> simp [go_sem]) rfl rfl rfl rfl (by decide) (by rcases h8 with ⟨rfl, _⟩ | ⟨_, _, rfl, _⟩ <;> rfl) ?_ (by simp [go_sem, aElems, St.set, bytesE]) (by simp [go_sem, aSz]) (bytesE_one _) ?_ ?_ ?_ ?_ (by simp [bytesE])
    · rcases h8 with h | ⟨ia, g, e1, e2, e3⟩
      · exact .inl h
      · refine .inr ⟨ia, g, e1, ?_, e3⟩
        have : ia ≠ it := fun e => by subst e; simp [St.set, e3.2.2.1, e2] at hit
        simp [St.set, this, e3.2.2.1, e2]
    · simp only [bytesE_length, List.length_cons, List.length_nil]; omega
    · simp only [bytesE_length, List.length_cons, List.length_nil, maxLen]; omega
    · intro id hid
      simp only [St.set] at hid
      split at hid
      · cases hid
      split at hid
      · cases hid
      rename_i e1 e2
      refine ⟨fun e => ?_, fun e => ?_, e2, fun e => ?_, ?_⟩
      · subst e; rw [h7] at hid; cases hid
      · subst e; rw [h3] at hid; cases hid
      · subst e; rw [h5, ← sd] at hid; cases hid
      · cases hx : st id with
        | none => rfl
        | some B => rw [h6 id B hx] at hid; cases hid
    intro v' ia B hia hv' hown
    (refine AOpsC_ok hK' _ _ _ ?_; simp (disch := omega) only [go_sem, Nat.reduceAdd, w_i64, w_u64, w_u8, w_u32, w_i32]; (try simp (disch := omega) only [go_sem, Nat.reduceAdd, w_i64, w_u64, w_u8, w_u32, w_i32]); (repeat' refine And.intro ?_ ?_); (try any_goals (first | (refine hK _ _ ?_; clear hK' hQ hK Q' Kn) | (simp; done) | omega | (simp only [List.length_append, List.length_cons, List.length_nil]; omega))))
    refine AOp.store (cs := [v']) (es := [[v]]) (sz := 1) rfl (by simp only [go_sem]; rfl) ?_ ?_ ?_ ?_ rfl (by simp) (by simp) ?_
    · rcases hown with ⟨rfl, _⟩ | ⟨_, _, rfl, _⟩ <;> simp [go_sem]
    · simp only [St.set] at hit ⊢
      have e1 : b ≠ ia := fun e => by
        subst e
        rcases hia with hia | hia
        · simp only [St.set] at hia
          split at hia
          · cases hia
          · rw [if_neg (Ne.symm n5), h7] at hia; cases hia
        · exact hia.1 rfl
      have e2 : b ≠ it := fun e => by subst e; rw [if_neg (Ne.symm n5), h7] at hit; cases hit
      rw [if_neg e1, if_neg e2, if_neg (Ne.symm n5), h7]
    · rcases hown with ⟨rfl, _⟩ | ⟨_, _, rfl, _⟩ <;> simp [go_sem, aCells]
    · rcases hown with ⟨rfl, _⟩ | ⟨_, _, rfl, _⟩ <;> simp [isCell]
    (refine AOpsC_ok hK' _ _ _ ?_; simp (disch := omega) only [go_sem, Nat.reduceAdd, w_i64, w_u64, w_u8, w_u32, w_i32]; (try simp (disch := omega) only [go_sem, Nat.reduceAdd, w_i64, w_u64, w_u8, w_u32, w_i32]); (repeat' refine And.intro ?_ ?_); (try any_goals (first | (refine hK _ _ ?_; clear hK' hQ hK Q' Kn) | (simp; done) | omega | (simp only [List.length_append, List.length_cons, List.length_nil]; omega))))
    simp only [AInBlock]
    refine ARound.normal (l := l) (by
      have e1 : l ≠ it := fun e => by subst e; simp only [St.set, if_true, ite_true] at hit; cases hit
      have e2 : l ≠ ia := fun e => by
        subst e
        rcases hia with hia | hia
        · simp only [St.set, if_true, ite_true] at hia; split at hia <;> cases hia
        · exact hia.2.2.1 rfl
      rw [St.set_ne _ _ n5, St.set_ne _ _ e2, St.set_ne _ _ e1, St.set_same]) ?_
    have e0 : ∀ i B, σ i = some B → i ≠ l → i ≠ it := fun i B hi hn e => by subst e; simp only [St.set, if_neg hn] at hit; rw [hi] at hit; cases hit
    have e1 : ∀ i, i = bx ∨ i = b ∨ i = l ∨ i = d → i ≠ ia := fun i hi e => by
      subst e
      rcases hia with hia | hia
      · simp only [St.set] at hia
        split at hia
        · cases hia
        rename_i hne
        split at hia
        · cases hia
        rcases hi with rfl | rfl | rfl | rfl
        · rw [h3] at hia; cases hia
        · rw [h7] at hia; cases hia
        · contradiction
        · rw [h5, ← sd] at hia; cases hia
      · rcases hi with rfl | rfl | rfl | rfl
        · exact hia.2.1 rfl
        · exact hia.1 rfl
        · exact hia.2.2.1 rfl
        · exact hia.2.2.2.1 rfl
    have e2 : st ia = none := by
      rcases hia with hia | hia
      · simp only [St.set] at hia
        split at hia
        · cases hia
        split at hia
        · cases hia
        cases hx : st ia with
        | none => rfl
        | some B => rw [h6 ia B hx] at hia; cases hia
      · exact hia.2.2.2.2
    have e3 : st it = none := by
      simp only [St.set] at hit
      split at hit
      · cases hit
      cases hx : st it with
      | none => rfl
      | some B => rw [h6 it B hx] at hit; cases hit
    have e4 := e0 bx _ h3 (Ne.symm n4)
    have e5 := e0 d _ (h5.trans sd.symm) (Ne.symm hld)
    refine ⟨rfl, ?_, ?_, ?_, ?_, v', ?_, ?_⟩
    · rw [St.set_ne _ _ (Ne.symm n4), St.set_ne _ _ n1, St.set_ne _ _ (e1 bx (by simp)), St.set_ne _ _ e4, St.set_ne _ _ (Ne.symm n4)]; exact h3
    · rw [St.set_same]; exact sl
    · rw [St.set_ne _ _ (Ne.symm hld), St.set_ne _ _ n3, St.set_ne _ _ (e1 d (by simp)), St.set_ne _ _ e5, St.set_ne _ _ (Ne.symm hld)]; exact h5
    · exact St.sub_set (St.sub_set (St.sub_set (St.sub_set (St.sub_set h6 hl _) e3 _) e2 _) hb0 _) hl _
    · rw [St.set_ne _ _ (Ne.symm n5), St.set_same]; simp [splice]
    · rw [bytesE_append]
      rcases hown with ⟨_, h⟩ | ⟨i2, g2, q1, q2, q3⟩
      · simp [bytesE] at h
      · refine .inr ⟨i2, g2, q1, ?_, q3⟩
        rw [St.set_ne _ _ q3.2.2.1, St.set_ne _ _ q3.1]; exact q2
end Go.Almanac
