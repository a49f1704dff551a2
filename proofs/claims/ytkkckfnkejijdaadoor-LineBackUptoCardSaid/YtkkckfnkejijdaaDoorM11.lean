/- Lines: what is printed of a property is read as the property (plain law). -/
import Derived.Test.YtkkckfnkejijdaaDoorM9
import Derived.Test.YtkkckfnkejijdaaDoorM4
/- Lines: two properties alike. -/
namespace Go.Almanac
open Go.RowKit Go.Proofs Go.Abs

set_option linter.unusedSimpArgs false
set_option linter.unusedVariables false
set_option linter.unusedSectionVars false
set_option maxRecDepth 10000

theorem strsE_getD {l : List (List UInt8)} {i : Nat} (h : i < l.length) : (strsE l).getD i [] = [.str (l.getD i [])] := by
  simp [strsE, List.getD, List.getElem?_eq_getElem h]
theorem paramsE_getD {l : List ParamD} {i : Nat} (h : i < l.length) : (paramsE l).getD i [] = [.str (l.getD i ⟨[], []⟩).name, .tree 1 (strsE (l.getD i ⟨[], []⟩).values)] := by
  simp [paramsE, encParam, List.getD, List.getElem?_eq_getElem h]
attribute [go_sem] strsE_getD strsE_length paramsE_getD paramsE_length
/-- Two lists agree up to here, and are of one length. -/
theorem take_eq_of {α} {a b : List α} (hl : a.length = b.length) {k : Nat} (h : a.take k = b.take k) (hk : a.length ≤ k) : a = b := by
  rw [List.take_of_length_le hk, List.take_of_length_le (by omega)] at h; exact h
theorem take_step {α} {a b : List α} (d : α) {k : Nat} (ha : k < a.length) (hb : k < b.length) (h : a.take k = b.take k) (he : a.getD k d = b.getD k d) : a.take (k + 1) = b.take (k + 1) := by
  rw [List.take_succ_eq_append_getElem ha, List.take_succ_eq_append_getElem hb, h]
  simp only [List.getD, List.getElem?_eq_getElem ha, List.getElem?_eq_getElem hb, Option.getD_some] at he
  rw [he]

theorem r_Texts (G : Nat → AV) (x y : List (List UInt8)) (hx : x.length ≤ 4611686018427387904) (hy : y.length ≤ 4611686018427387904) (st : St) :
    ACalls (Ev G) 20 [.tree 1 (strsE x), .tree 1 (strsE y)] st (fun e st' => st' = st ∧ e = .ret (.bool (decide (x = y)))) := by
  refine ACalls.of_body Tryd.func20 rfl ?_
  rw [Tryd.ntmps20]
  simp only [List.length_cons, List.length_nil, Nat.reduceAdd, Nat.reduceSub, List.replicate_succ, List.replicate_zero, List.cons_append, List.nil_append]
  (repeat' (first | refine AW.seq ?_ | refine AW.scope ?_ | refine AW.label ?_ | refine AW.block ?_ | refine AW.skip ?_ | refine AW.exit ?_ | refine AW.ret ?_ | (refine AW.regionC fun Q' Kn hQ hK hK' => ?_; (repeat simp (disch := omega) only [go_sem, redN, Nat.reduceAdd, Int.reduceToNat, Int.reducePow]); (repeat' refine And.intro ?_ ?_); (try any_goals (first | (refine hK _ _ ?_; clear hK' hQ hK Q' Kn) | (intro hq9; refine ⟨hq9, ?_⟩; simp only [redB] at hq9; omega) | (intro hq9; refine ⟨hq9, fun hq8 => ?_⟩; rw [hq9, hq8]; rfl) | (simp; done) | omega | (simp only [redL]; omega) | (simp; omega) | (intros; (repeat' refine And.intro ?_ ?_) <;> (first | assumption | omega | (simp; done)))))) | (refine AW.cond (by simp (disch := omega) only [go_sem, redN, Nat.reduceAdd, Int.reduceToNat, Int.reducePow]; rfl) (fun hb => ?_) (fun hb => ?_) <;> (try simp only [redB] at hb))))
  · (refine ⟨_, _, rfl, by simp, ?_⟩; simp only [aTup, AA.get, List.getD_cons_zero, List.getD_cons_succ, true_and])
    rw [decide_eq_false]
    intro e; subst e; simp at hb
  have hl : x.length = y.length := by omega
  refine AW.loopF (fun k : Nat => [.tree 1 (strsE x), .tree 1 (strsE y), .junk, .junk, .junk, .int .i64 k, .junk, .junk, .junk, .junk, .junk, .junk, .junk, .junk, .junk, .junk, .junk, .junk, .junk, .junk, .junk, .junk, .junk, .junk, .junk, .junk]) (fun _ => st)
    (fun k => k ≤ x.length ∧ x.take k = y.take k) (fun k => x.length - k) 0 ?_ rfl ?_ ?_
  · (repeat (first | exact Weak.nil | refine Weak.junk _ ?_ | refine Weak.same _ ?_ | refine Weak.eqv (by (congr 1; first | omega | (simp; done) | exact w_i64 (by omega) (by omega))) ?_))
  · simp
  rintro k ⟨k1, k2⟩
  (repeat' (first | refine AW.seq ?_ | refine AW.scope ?_ | refine AW.label ?_ | refine AW.block ?_ | refine AW.skip ?_ | refine AW.exit ?_ | refine AW.ret ?_ | (refine AW.regionC fun Q' Kn hQ hK hK' => ?_; (repeat simp (disch := omega) only [go_sem, redN, Nat.reduceAdd, Int.reduceToNat, Int.reducePow]); (repeat' refine And.intro ?_ ?_); (try any_goals (first | (refine hK _ _ ?_; clear hK' hQ hK Q' Kn) | (intro hq9; refine ⟨hq9, ?_⟩; simp only [redB] at hq9; omega) | (intro hq9; refine ⟨hq9, fun hq8 => ?_⟩; rw [hq9, hq8]; rfl) | (simp; done) | omega | (simp only [redL]; omega) | (simp; omega) | (intros; (repeat' refine And.intro ?_ ?_) <;> (first | assumption | omega | (simp; done)))))) | (refine AW.cond (by simp (disch := omega) only [go_sem, redN, Nat.reduceAdd, Int.reduceToNat, Int.reducePow]; rfl) (fun hb => ?_) (fun hb => ?_) <;> (try simp only [redB] at hb))))
  · refine AW.drawn (List.range 9) (by decide +kernel) fun Q' Kn hQ hK hK' => ?_
    refine FxC_ok _ _ _ ?_; (repeat simp (disch := omega) only [go_sem, redN, Nat.reduceAdd, Int.reduceToNat, Int.reducePow]); (repeat' refine And.intro ?_ ?_); (try any_goals (first | (refine hK _ _ ?_; clear hK' hQ hK Q' Kn) | (intro hq9; refine ⟨hq9, ?_⟩; simp only [redB] at hq9; omega) | (intro hq9; refine ⟨hq9, fun hq8 => ?_⟩; rw [hq9, hq8]; rfl) | (simp; done) | omega | (simp only [redL]; omega) | (simp; omega) | (intros; (repeat' refine And.intro ?_ ?_) <;> (first | assumption | omega | (simp; done)))))
    (repeat' (first | refine AW.seq ?_ | refine AW.scope ?_ | refine AW.label ?_ | refine AW.block ?_ | refine AW.skip ?_ | refine AW.exit ?_ | refine AW.ret ?_ | (refine AW.regionC fun Q' Kn hQ hK hK' => ?_; (repeat simp (disch := omega) only [go_sem, redN, Nat.reduceAdd, Int.reduceToNat, Int.reducePow]); (repeat' refine And.intro ?_ ?_); (try any_goals (first | (refine hK _ _ ?_; clear hK' hQ hK Q' Kn) | (intro hq9; refine ⟨hq9, ?_⟩; simp only [redB] at hq9; omega) | (intro hq9; refine ⟨hq9, fun hq8 => ?_⟩; rw [hq9, hq8]; rfl) | (simp; done) | omega | (simp only [redL]; omega) | (simp; omega) | (intros; (repeat' refine And.intro ?_ ?_) <;> (first | assumption | omega | (simp; done)))))) | (refine AW.cond (by simp (disch := omega) only [go_sem, redN, Nat.reduceAdd, Int.reduceToNat, Int.reducePow]; rfl) (fun hb => ?_) (fun hb => ?_) <;> (try simp only [redB] at hb))))
    · (refine ⟨_, _, rfl, by simp, ?_⟩; simp only [aTup, AA.get, List.getD_cons_zero, List.getD_cons_succ, true_and])
      rw [decide_eq_false]
      intro e; subst e; simp at hb
    · refine ⟨k + 1, ⟨by omega, take_step [] (by omega) (by omega) k2 hb⟩, by omega, ?_, rfl, rfl⟩
      (repeat (first | exact Weak.nil | refine Weak.junk _ ?_ | refine Weak.same _ ?_ | refine Weak.eqv (by (congr 1; first | omega | (simp; done) | exact w_i64 (by omega) (by omega))) ?_))
  · (refine ⟨_, _, rfl, by simp, ?_⟩; simp only [aTup, AA.get, List.getD_cons_zero, List.getD_cons_succ, true_and])
    rw [decide_eq_true]
    exact take_eq_of hl k2 (by omega)

theorem PropD.same {a b : PropD} (h1 : a.name = b.name) (h2 : a.params = b.params) (h3 : a.value = b.value) : a = b := by
  cases a; cases b; subst h1; subst h2; subst h3; rfl
theorem ParamD.same {a b : ParamD} (h1 : a.name = b.name) (h2 : a.values = b.values) : a = b := by
  cases a; cases b; subst h1; subst h2; rfl
noncomputable instance : DecidableEq PropD := fun _ _ => Classical.propDecidable _
theorem frozen2 {st : St} {b c : Nat} (B C : Blk) (hb : st b = none) (hc : st c = none) : (((st.set b B).set c C).del b).del c = st := by
  funext k
  simp only [St.set, St.del]
  by_cases h : k = c
  · subst h; simp [hc]
  · by_cases h2 : k = b
    · subst h2; simp [h, hb]
    · simp [h, h2]
/-- The parameters are not too many, nor their values. -/
def PropOk (p : PropD) : Prop := p.params.length ≤ 4611686018427387904 ∧ ∀ x ∈ p.params, x.values.length ≤ 4611686018427387904
theorem PropOk.at {p : PropD} (h : PropOk p) {k : Nat} (hk : k < p.params.length) : (p.params.getD k ⟨[], []⟩).values.length ≤ 4611686018427387904 := by
  refine h.2 _ ?_
  simp [List.getD, List.getElem?_eq_getElem hk]

theorem r_Same (G : Nat → AV) (p q : PropD) (hp : PropOk p) (hq : PropOk q) (st : St) :
    ACalls (Ev G) 8 [.agg (encProp p), .agg (encProp q)] st (fun e st' => st' = st ∧ e = .ret (.bool (decide (p = q)))) := by
  have hp1 := hp.1
  have hq1 := hq.1
  refine ACalls.of_body Tryd.func8 rfl ?_
  rw [Tryd.ntmps8]
  simp only [List.length_cons, List.length_nil, Nat.reduceAdd, Nat.reduceSub, List.replicate_succ, List.replicate_zero, List.cons_append, List.nil_append]
  (repeat' (first | refine AW.seq ?_ | refine AW.scope ?_ | refine AW.label ?_ | refine AW.block ?_ | refine AW.skip ?_ | refine AW.exit ?_ | refine AW.ret ?_))
  refine AW.regionC fun Q' Kn hQ hK hK' => ?_
  simp (disch := omega) only [go_sem, redN, Nat.reduceAdd, Int.reduceToNat, Int.reducePow]
  refine AOp.box rfl (by simp [go_sem]) (by simp only [go_sem]; rfl) fun b hb0 => ?_
  (refine AOpsC_ok hK' _ _ _ ?_; (repeat simp (disch := omega) only [go_sem, redN, Nat.reduceAdd, Int.reduceToNat, Int.reducePow]); (repeat' refine And.intro ?_ ?_); (try any_goals (first | (refine hK _ _ ?_; clear hK' hQ hK Q' Kn) | (intro hq9; refine ⟨hq9, ?_⟩; simp only [redB] at hq9; omega) | (intro hq9; refine ⟨hq9, fun hq8 => ?_⟩; rw [hq9, hq8]; rfl) | (simp; done) | omega | (simp only [redL]; omega) | (simp; omega) | (intros; (repeat' refine And.intro ?_ ?_) <;> (first | assumption | omega | (simp; done))))))
  refine AOp.box rfl (by simp [go_sem]) (by simp only [go_sem]; rfl) fun c hc0 => ?_
  (refine AOpsC_ok hK' _ _ _ ?_; (repeat simp (disch := omega) only [go_sem, redN, Nat.reduceAdd, Int.reduceToNat, Int.reducePow]); (repeat' refine And.intro ?_ ?_); (try any_goals (first | (refine hK _ _ ?_; clear hK' hQ hK Q' Kn) | (intro hq9; refine ⟨hq9, ?_⟩; simp only [redB] at hq9; omega) | (intro hq9; refine ⟨hq9, fun hq8 => ?_⟩; rw [hq9, hq8]; rfl) | (simp; done) | omega | (simp only [redL]; omega) | (simp; omega) | (intros; (repeat' refine And.intro ?_ ?_) <;> (first | assumption | omega | (simp; done))))))
  have hbc : c ≠ b := fun e => by subst e; simp at hc0
  have hc1 : st c = none := by rw [St.set_ne _ _ hbc] at hc0; exact hc0
  refine AW.freeze 2 rfl (by rw [St.set_ne _ _ (Ne.symm hbc)]; exact St.set_same _ _ _) ?_
  refine AW.freeze 3 rfl (by rw [St.del_ne _ hbc]; exact St.set_same _ _ _) ?_
  rw [frozen2 _ _ hb0 hc1]
  simp only [encProp]
  (repeat' (first | refine AW.seq ?_ | refine AW.scope ?_ | refine AW.label ?_ | refine AW.block ?_ | refine AW.skip ?_ | refine AW.exit ?_ | refine AW.ret ?_ | (refine AW.regionC fun Q' Kn hQ hK hK' => ?_; (repeat simp (disch := omega) only [go_sem, redN, Nat.reduceAdd, Int.reduceToNat, Int.reducePow]); (repeat' refine And.intro ?_ ?_); (try any_goals (first | (refine hK _ _ ?_; clear hK' hQ hK Q' Kn) | (intro hq9; refine ⟨hq9, ?_⟩; simp only [redB] at hq9; omega) | (intro hq9; refine ⟨hq9, fun hq8 => ?_⟩; rw [hq9, hq8]; rfl) | (simp; done) | omega | (simp only [redL]; omega) | (simp; omega) | (intros; (repeat' refine And.intro ?_ ?_) <;> (first | assumption | omega | (simp; done)))))) | (refine AW.cond (by simp (disch := omega) only [go_sem, redN, Nat.reduceAdd, Int.reduceToNat, Int.reducePow]; rfl) (fun hb => ?_) (fun hb => ?_) <;> (try simp only [redB] at hb))))
  · (refine ⟨_, _, rfl, by simp, ?_⟩; simp only [aTup, AA.get, List.getD_cons_zero, List.getD_cons_succ, true_and])
    rw [decide_eq_false]
    rintro rfl
    simp at hb
  have hl : p.params.length = q.params.length := by omega
  have hsame := hb
  (repeat' (first | refine AW.seq ?_ | refine AW.scope ?_ | refine AW.label ?_ | refine AW.block ?_ | refine AW.skip ?_ | refine AW.exit ?_ | refine AW.ret ?_ | (refine AW.regionC fun Q' Kn hQ hK hK' => ?_; (repeat simp (disch := omega) only [go_sem, redN, Nat.reduceAdd, Int.reduceToNat, Int.reducePow]); (repeat' refine And.intro ?_ ?_); (try any_goals (first | (refine hK _ _ ?_; clear hK' hQ hK Q' Kn) | (intro hq9; refine ⟨hq9, ?_⟩; simp only [redB] at hq9; omega) | (intro hq9; refine ⟨hq9, fun hq8 => ?_⟩; rw [hq9, hq8]; rfl) | (simp; done) | omega | (simp only [redL]; omega) | (simp; omega) | (intros; (repeat' refine And.intro ?_ ?_) <;> (first | assumption | omega | (simp; done)))))) | (refine AW.cond (by simp (disch := omega) only [go_sem, redN, Nat.reduceAdd, Int.reduceToNat, Int.reducePow]; rfl) (fun hb => ?_) (fun hb => ?_) <;> (try simp only [redB] at hb))))
  refine AW.loopF (fun k : Nat => [.junk, .junk, .fptr [.str p.name, .tree 2 (paramsE p.params), .str p.value], .fptr [.str q.name, .tree 2 (paramsE q.params), .str q.value], .junk, .int .i64 k, .junk, .junk, .junk, .junk, .junk, .junk, .junk, .junk, .junk, .junk, .junk, .junk, .junk, .junk, .junk, .junk, .junk, .junk, .junk, .junk, .junk, .junk, .junk, .junk, .junk, .junk, .junk, .junk, .junk, .junk, .junk, .junk, .junk, .junk, .junk, .junk, .junk, .junk, .junk, .junk, .junk, .junk, .junk, .junk, .junk, .junk, .junk, .junk, .junk, .junk, .junk, .junk, .junk, .junk, .junk, .junk, .junk]) (fun _ => st)
    (fun k => k ≤ p.params.length ∧ p.params.take k = q.params.take k) (fun k => p.params.length - k) 0 ?_ rfl ?_ ?_
  · (repeat (first | exact Weak.nil | refine Weak.junk _ ?_ | refine Weak.same _ ?_ | refine Weak.eqv (by (congr 1; first | omega | (simp; done) | exact w_i64 (by omega) (by omega))) ?_))
  · simp
  rintro k ⟨k1, k2⟩
  (repeat' (first | refine AW.seq ?_ | refine AW.scope ?_ | refine AW.label ?_ | refine AW.block ?_ | refine AW.skip ?_ | refine AW.exit ?_ | refine AW.ret ?_ | (refine AW.regionC fun Q' Kn hQ hK hK' => ?_; (repeat simp (disch := omega) only [go_sem, redN, Nat.reduceAdd, Int.reduceToNat, Int.reducePow]); (repeat' refine And.intro ?_ ?_); (try any_goals (first | (refine hK _ _ ?_; clear hK' hQ hK Q' Kn) | (intro hq9; refine ⟨hq9, ?_⟩; simp only [redB] at hq9; omega) | (intro hq9; refine ⟨hq9, fun hq8 => ?_⟩; rw [hq9, hq8]; rfl) | (simp; done) | omega | (simp only [redL]; omega) | (simp; omega) | (intros; (repeat' refine And.intro ?_ ?_) <;> (first | assumption | omega | (simp; done)))))) | (refine AW.cond (by simp (disch := omega) only [go_sem, redN, Nat.reduceAdd, Int.reduceToNat, Int.reducePow]; rfl) (fun hb => ?_) (fun hb => ?_) <;> (try simp only [redB] at hb))))
  · have hk : k < p.params.length := by omega
    refine AW.drawn (List.range 29) (by decide +kernel) fun Q' Kn hQ hK hK' => ?_
    refine FxC_ok _ _ _ ?_; (repeat simp (disch := omega) only [go_sem, redN, Nat.reduceAdd, Int.reduceToNat, Int.reducePow]); (repeat' refine And.intro ?_ ?_); (try any_goals (first | (refine hK _ _ ?_; clear hK' hQ hK Q' Kn) | (intro hq9; refine ⟨hq9, ?_⟩; simp only [redB] at hq9; omega) | (intro hq9; refine ⟨hq9, fun hq8 => ?_⟩; rw [hq9, hq8]; rfl) | (simp; done) | omega | (simp only [redL]; omega) | (simp; omega) | (intros; (repeat' refine And.intro ?_ ?_) <;> (first | assumption | omega | (simp; done)))))
    refine ⟨_, Fixed.guard_call (f := 20) (v := .bool (decide ((p.params.getD k ⟨[], []⟩).values = (q.params.getD k ⟨[], []⟩).values))) rfl rfl rfl rfl rfl (fun _ => (by simp only [go_sem] <;> rfl)) (fun h => by first | (simp [go_sem]; done) | simpa [go_sem] using h) rfl (fun hg => by simp only [go_sem]; exact r_Texts G _ _ (hp.at hk) (hq.at (by omega)) _), ?_⟩
    refine FxC_ok _ _ _ ?_; (repeat simp (disch := omega) only [go_sem, redN, Nat.reduceAdd, Int.reduceToNat, Int.reducePow]); (repeat' refine And.intro ?_ ?_); (try any_goals (first | (refine hK _ _ ?_; clear hK' hQ hK Q' Kn) | (intro hq9; refine ⟨hq9, ?_⟩; simp only [redB] at hq9; omega) | (intro hq9; refine ⟨hq9, fun hq8 => ?_⟩; rw [hq9, hq8]; rfl) | (simp; done) | omega | (simp only [redL]; omega) | (simp; omega) | (intros; (repeat' refine And.intro ?_ ?_) <;> (first | assumption | omega | (simp; done)))))
    (repeat' (first | refine AW.seq ?_ | refine AW.scope ?_ | refine AW.label ?_ | refine AW.block ?_ | refine AW.skip ?_ | refine AW.exit ?_ | refine AW.ret ?_ | (refine AW.regionC fun Q' Kn hQ hK hK' => ?_; (repeat simp (disch := omega) only [go_sem, redN, Nat.reduceAdd, Int.reduceToNat, Int.reducePow]); (repeat' refine And.intro ?_ ?_); (try any_goals (first | (refine hK _ _ ?_; clear hK' hQ hK Q' Kn) | (intro hq9; refine ⟨hq9, ?_⟩; simp only [redB] at hq9; omega) | (intro hq9; refine ⟨hq9, fun hq8 => ?_⟩; rw [hq9, hq8]; rfl) | (simp; done) | omega | (simp only [redL]; omega) | (simp; omega) | (intros; (repeat' refine And.intro ?_ ?_) <;> (first | assumption | omega | (simp; done)))))) | (refine AW.cond (by simp (disch := omega) only [go_sem, redN, Nat.reduceAdd, Int.reduceToNat, Int.reducePow]; rfl) (fun hb => ?_) (fun hb => ?_) <;> (try simp only [redB] at hb))))
    · (refine ⟨_, _, rfl, by simp, ?_⟩; simp only [aTup, AA.get, List.getD_cons_zero, List.getD_cons_succ, true_and])
      rw [decide_eq_false]
      rintro rfl
      simp at hb
    · refine ⟨k + 1, ⟨by omega, take_step ⟨[], []⟩ (by omega) (by omega) k2 (ParamD.same hb.1 (by simpa using hb.2))⟩, by omega, ?_, rfl, rfl⟩
      (repeat (first | exact Weak.nil | refine Weak.junk _ ?_ | refine Weak.same _ ?_ | refine Weak.eqv (by (congr 1; first | omega | (simp; done) | exact w_i64 (by omega) (by omega))) ?_))
  · (refine ⟨_, _, rfl, by simp, ?_⟩; simp only [aTup, AA.get, List.getD_cons_zero, List.getD_cons_succ, true_and])
    rw [decide_eq_true]
    exact PropD.same hsame.1.1 (take_eq_of hl k2 (by omega)) hsame.1.2
end Go.Almanac

/- Lines: functions over lists; names; a parameter's value. -/
namespace Go.Almanac
open Go.RowKit Go.Proofs Go.Abs

set_option linter.unusedSimpArgs false
set_option linter.unusedVariables false
set_option linter.unusedSectionVars false
set_option maxRecDepth 10000

/-- Where the first stands of which p holds, or -1. -/
def fIdx {α : Type} (p : α → Bool) : List α → Nat → Int
  | [], _ => -1
  | x :: l, k => if p x = true then k else fIdx p l (k + 1)
theorem fIdx_at {α : Type} (p : α → Bool) (d : α) : ∀ (l : List α) (k : Nat), (fIdx p l k = -1 ∧ l.any p = false) ∨ ∃ i, i < l.length ∧ fIdx p l k = k + i ∧ p (l.getD i d) = true ∧ l.find? p = some (l.getD i d)
  | [], k => .inl ⟨rfl, rfl⟩
  | x :: l, k => by
    simp only [fIdx]
    by_cases h : p x = true
    · exact .inr ⟨0, by simp, by rw [if_pos h]; simp, by simpa using h, by simp [List.find?, h]⟩
    · rw [if_neg h]
      have h' : p x = false := by simpa using h
      rcases fIdx_at p d l (k + 1) with ⟨h1, h2⟩ | ⟨i, h1, h2, h3, h4⟩
      · exact .inl ⟨h1, by rw [List.any_cons, h', h2]; rfl⟩
      · exact .inr ⟨i + 1, by simp; omega, by rw [h2]; omega, by simpa using h3, by simp only [List.find?, h', h4]; simp⟩
theorem fIdx_any {α : Type} (p : α → Bool) (l : List α) : decide (fIdx p l 0 ≥ 0) = l.any p := by
  cases l with
  | nil => rfl
  | cons x l =>
    rcases fIdx_at p x (x :: l) 0 with ⟨h1, h2⟩ | ⟨i, h1, h2, h3, h4⟩
    · rw [h1, h2]; rfl
    · rw [h2, decide_eq_true (by omega)]
      symm
      rw [List.any_eq_true]
      refine ⟨_, List.mem_of_find?_eq_some h4, h3⟩
theorem fIdx_bounds {α : Type} (p : α → Bool) : ∀ (l : List α) (k : Nat), -1 ≤ fIdx p l k ∧ fIdx p l k < k + l.length
  | [], k => by simp [fIdx]; omega
  | x :: l, k => by
    have := fIdx_bounds p l (k + 1)
    simp only [fIdx, List.length_cons]
    split <;> omega
theorem drop_consD {α : Type} {s : List α} {n : Nat} {d : α} (h : n < s.length) : s.drop n = s.getD n d :: s.drop (n + 1) := by
  rw [List.drop_eq_getElem_cons h]; simp [List.getD, List.getElem?_eq_getElem h]

/-- A function value that tells texts of a list; parameters of a list. -/
def TellsS (G : Nat → AV) (f : FuncId) (ca : List AV) (l : List (List UInt8)) (p : List UInt8 → Bool) : Prop := ∀ s ∈ l, ∀ (st : St), ACalls (Ev G) f (.str s :: ca) st (fun e st' => st' = st ∧ e = .ret (.bool (p s)))
def TellsP (G : Nat → AV) (f : FuncId) (ca : List AV) (l : List ParamD) (p : ParamD → Bool) : Prop := ∀ x ∈ l, ∀ (st : St), ACalls (Ev G) f (.agg [.str x.name, .tree 1 (strsE x.values)] :: ca) st (fun e st' => st' = st ∧ e = .ret (.bool (p x)))
theorem getD_mem {α : Type} {l : List α} {k : Nat} {d : α} (h : k < l.length) : l.getD k d ∈ l := by
  simp [List.getD, List.getElem?_eq_getElem h]

theorem b_IndexFuncS (G : Nat → AV) (f : FuncId) (ca : List AV) (l : List (List UInt8)) (p : List UInt8 → Bool) (hbd : hasBody Tryd.prog f = true) (hf : TellsS G f ca l p) (hl : l.length ≤ 4611686018427387904) (st : St) :
    ACalls (Ev G) 65 [.tree 1 (strsE l), .clo (.func f) [] ca] st (fun e st' => st' = st ∧ e = .ret (.int .i64 (fIdx p l 0))) := by
  refine ACalls.of_body Tryd.func65 rfl ?_
  rw [Tryd.ntmps65]
  simp only [List.length_cons, List.length_nil, Nat.reduceAdd, Nat.reduceSub, List.replicate_succ, List.replicate_zero, List.cons_append, List.nil_append]
  (repeat' (first | refine AW.seq ?_ | refine AW.scope ?_ | refine AW.label ?_ | refine AW.block ?_ | refine AW.skip ?_ | refine AW.exit ?_ | refine AW.ret ?_ | (refine AW.regionC fun Q' Kn hQ hK hK' => ?_; (repeat simp (disch := omega) only [go_sem, redN, Nat.reduceAdd, Int.reduceToNat, Int.reducePow]); (repeat' refine And.intro ?_ ?_); (try any_goals (first | (refine hK _ _ ?_; clear hK' hQ hK Q' Kn) | (intro hq9; refine ⟨hq9, ?_⟩; simp only [redB] at hq9; omega) | (intro hq9; refine ⟨hq9, fun hq8 => ?_⟩; rw [hq9, hq8]; rfl) | (simp; done) | omega | (simp only [redL]; omega) | (simp; omega) | (intros; (repeat' refine And.intro ?_ ?_) <;> (first | assumption | omega | (simp; done)))))) | (refine AW.cond (by simp (disch := omega) only [go_sem, redN, Nat.reduceAdd, Int.reduceToNat, Int.reducePow]; rfl) (fun hb => ?_) (fun hb => ?_) <;> (try simp only [redB] at hb))))
  refine AW.loopF (fun k : Nat => [.tree 1 (strsE l), .clo (.func f) [] ca, .junk, .junk, .int .i64 0, .junk, .junk, .int .i64 l.length, .int .i64 k, .junk, .junk, .junk, .junk, .junk, .junk, .junk, .junk, .junk, .junk]) (fun _ => st)
    (fun k => k ≤ l.length ∧ fIdx p (l.drop k) k = fIdx p l 0) (fun k => l.length - k) 0 ?_ rfl ?_ ?_
  · (repeat (first | exact Weak.nil | refine Weak.junk _ ?_ | refine Weak.same _ ?_ | refine Weak.eqv (by (congr 1; first | omega | (simp; done) | exact w_i64 (by omega) (by omega))) ?_))
  · simp
  rintro k ⟨k1, k2⟩
  (repeat' (first | refine AW.seq ?_ | refine AW.scope ?_ | refine AW.label ?_ | refine AW.block ?_ | refine AW.skip ?_ | refine AW.exit ?_ | refine AW.ret ?_ | (refine AW.regionC fun Q' Kn hQ hK hK' => ?_; (repeat simp (disch := omega) only [go_sem, redN, Nat.reduceAdd, Int.reduceToNat, Int.reducePow]); (repeat' refine And.intro ?_ ?_); (try any_goals (first | (refine hK _ _ ?_; clear hK' hQ hK Q' Kn) | (intro hq9; refine ⟨hq9, ?_⟩; simp only [redB] at hq9; omega) | (intro hq9; refine ⟨hq9, fun hq8 => ?_⟩; rw [hq9, hq8]; rfl) | (simp; done) | omega | (simp only [redL]; omega) | (simp; omega) | (intros; (repeat' refine And.intro ?_ ?_) <;> (first | assumption | omega | (simp; done)))))) | (refine AW.cond (by simp (disch := omega) only [go_sem, redN, Nat.reduceAdd, Int.reduceToNat, Int.reducePow]; rfl) (fun hb => ?_) (fun hb => ?_) <;> (try simp only [redB] at hb))))
  · have hk : k < l.length := by omega
    have hd := drop_consD (s := l) (d := []) hk
    refine AOp.call rfl (by simp only [go_sem]; rfl) (by simp [go_sem]) hbd (ACalls.mono (by simp only [go_sem]; exact hf _ (getD_mem hk) _) ?_)
    rintro e st' ⟨rfl, rfl⟩
    (refine AOpsC_ok hK' _ _ _ ?_; (repeat simp (disch := omega) only [go_sem, redN, Nat.reduceAdd, Int.reduceToNat, Int.reducePow]); (repeat' refine And.intro ?_ ?_); (try any_goals (first | (refine hK _ _ ?_; clear hK' hQ hK Q' Kn) | (intro hq9; refine ⟨hq9, ?_⟩; simp only [redB] at hq9; omega) | (intro hq9; refine ⟨hq9, fun hq8 => ?_⟩; rw [hq9, hq8]; rfl) | (simp; done) | omega | (simp only [redL]; omega) | (simp; omega) | (intros; (repeat' refine And.intro ?_ ?_) <;> (first | assumption | omega | (simp; done))))))
    (repeat' (first | refine AW.seq ?_ | refine AW.scope ?_ | refine AW.label ?_ | refine AW.block ?_ | refine AW.skip ?_ | refine AW.exit ?_ | refine AW.ret ?_ | (refine AW.regionC fun Q' Kn hQ hK hK' => ?_; (repeat simp (disch := omega) only [go_sem, redN, Nat.reduceAdd, Int.reduceToNat, Int.reducePow]); (repeat' refine And.intro ?_ ?_); (try any_goals (first | (refine hK _ _ ?_; clear hK' hQ hK Q' Kn) | (intro hq9; refine ⟨hq9, ?_⟩; simp only [redB] at hq9; omega) | (intro hq9; refine ⟨hq9, fun hq8 => ?_⟩; rw [hq9, hq8]; rfl) | (simp; done) | omega | (simp only [redL]; omega) | (simp; omega) | (intros; (repeat' refine And.intro ?_ ?_) <;> (first | assumption | omega | (simp; done)))))) | (refine AW.cond (by simp (disch := omega) only [go_sem, redN, Nat.reduceAdd, Int.reduceToNat, Int.reducePow]; rfl) (fun hb => ?_) (fun hb => ?_) <;> (try simp only [redB] at hb))))
    · (refine ⟨_, _, rfl, by simp, ?_⟩; simp only [aTup, AA.get, List.getD_cons_zero, List.getD_cons_succ, true_and])
      rw [← k2, hd, fIdx, if_pos hb]
    · refine ⟨k + 1, ⟨by omega, ?_⟩, by omega, ?_, rfl, rfl⟩
      · rw [← k2, hd, fIdx, if_neg (by simpa using hb)]
      · (repeat (first | exact Weak.nil | refine Weak.junk _ ?_ | refine Weak.same _ ?_ | refine Weak.eqv (by (congr 1; first | omega | (simp; done) | exact w_i64 (by omega) (by omega))) ?_))
  · (refine ⟨_, _, rfl, by simp, ?_⟩; simp only [aTup, AA.get, List.getD_cons_zero, List.getD_cons_succ, true_and])
    rw [← k2, show k = l.length from by omega, List.drop_length, fIdx]

theorem b_IndexFuncP (G : Nat → AV) (f : FuncId) (ca : List AV) (l : List ParamD) (p : ParamD → Bool) (hbd : hasBody Tryd.prog f = true) (hf : TellsP G f ca l p) (hl : l.length ≤ 4611686018427387904) (st : St) :
    ACalls (Ev G) 36 [.tree 2 (paramsE l), .clo (.func f) [] ca] st (fun e st' => st' = st ∧ e = .ret (.int .i64 (fIdx p l 0))) := by
  refine ACalls.of_body Tryd.func36 rfl ?_
  rw [Tryd.ntmps36]
  simp only [List.length_cons, List.length_nil, Nat.reduceAdd, Nat.reduceSub, List.replicate_succ, List.replicate_zero, List.cons_append, List.nil_append]
  (repeat' (first | refine AW.seq ?_ | refine AW.scope ?_ | refine AW.label ?_ | refine AW.block ?_ | refine AW.skip ?_ | refine AW.exit ?_ | refine AW.ret ?_ | (refine AW.regionC fun Q' Kn hQ hK hK' => ?_; (repeat simp (disch := omega) only [go_sem, redN, Nat.reduceAdd, Int.reduceToNat, Int.reducePow]); (repeat' refine And.intro ?_ ?_); (try any_goals (first | (refine hK _ _ ?_; clear hK' hQ hK Q' Kn) | (intro hq9; refine ⟨hq9, ?_⟩; simp only [redB] at hq9; omega) | (intro hq9; refine ⟨hq9, fun hq8 => ?_⟩; rw [hq9, hq8]; rfl) | (simp; done) | omega | (simp only [redL]; omega) | (simp; omega) | (intros; (repeat' refine And.intro ?_ ?_) <;> (first | assumption | omega | (simp; done)))))) | (refine AW.cond (by simp (disch := omega) only [go_sem, redN, Nat.reduceAdd, Int.reduceToNat, Int.reducePow]; rfl) (fun hb => ?_) (fun hb => ?_) <;> (try simp only [redB] at hb))))
  refine AW.loopF (fun k : Nat => [.tree 2 (paramsE l), .clo (.func f) [] ca, .junk, .junk, .int .i64 0, .junk, .junk, .int .i64 l.length, .int .i64 k, .junk, .junk, .junk, .junk, .junk, .junk, .junk, .junk, .junk, .junk]) (fun _ => st)
    (fun k => k ≤ l.length ∧ fIdx p (l.drop k) k = fIdx p l 0) (fun k => l.length - k) 0 ?_ rfl ?_ ?_
  · (repeat (first | exact Weak.nil | refine Weak.junk _ ?_ | refine Weak.same _ ?_ | refine Weak.eqv (by (congr 1; first | omega | (simp; done) | exact w_i64 (by omega) (by omega))) ?_))
  · simp
  rintro k ⟨k1, k2⟩
  (repeat' (first | refine AW.seq ?_ | refine AW.scope ?_ | refine AW.label ?_ | refine AW.block ?_ | refine AW.skip ?_ | refine AW.exit ?_ | refine AW.ret ?_ | (refine AW.regionC fun Q' Kn hQ hK hK' => ?_; (repeat simp (disch := omega) only [go_sem, redN, Nat.reduceAdd, Int.reduceToNat, Int.reducePow]); (repeat' refine And.intro ?_ ?_); (try any_goals (first | (refine hK _ _ ?_; clear hK' hQ hK Q' Kn) | (intro hq9; refine ⟨hq9, ?_⟩; simp only [redB] at hq9; omega) | (intro hq9; refine ⟨hq9, fun hq8 => ?_⟩; rw [hq9, hq8]; rfl) | (simp; done) | omega | (simp only [redL]; omega) | (simp; omega) | (intros; (repeat' refine And.intro ?_ ?_) <;> (first | assumption | omega | (simp; done)))))) | (refine AW.cond (by simp (disch := omega) only [go_sem, redN, Nat.reduceAdd, Int.reduceToNat, Int.reducePow]; rfl) (fun hb => ?_) (fun hb => ?_) <;> (try simp only [redB] at hb))))
  · have hk : k < l.length := by omega
    have hd := drop_consD (s := l) (d := ⟨[], []⟩) hk
    refine AOp.call rfl (by simp only [go_sem]; rfl) (by simp [go_sem]) hbd (ACalls.mono (by simp only [go_sem]; exact hf _ (getD_mem hk) _) ?_)
    rintro e st' ⟨rfl, rfl⟩
    (refine AOpsC_ok hK' _ _ _ ?_; (repeat simp (disch := omega) only [go_sem, redN, Nat.reduceAdd, Int.reduceToNat, Int.reducePow]); (repeat' refine And.intro ?_ ?_); (try any_goals (first | (refine hK _ _ ?_; clear hK' hQ hK Q' Kn) | (intro hq9; refine ⟨hq9, ?_⟩; simp only [redB] at hq9; omega) | (intro hq9; refine ⟨hq9, fun hq8 => ?_⟩; rw [hq9, hq8]; rfl) | (simp; done) | omega | (simp only [redL]; omega) | (simp; omega) | (intros; (repeat' refine And.intro ?_ ?_) <;> (first | assumption | omega | (simp; done))))))
    (repeat' (first | refine AW.seq ?_ | refine AW.scope ?_ | refine AW.label ?_ | refine AW.block ?_ | refine AW.skip ?_ | refine AW.exit ?_ | refine AW.ret ?_ | (refine AW.regionC fun Q' Kn hQ hK hK' => ?_; (repeat simp (disch := omega) only [go_sem, redN, Nat.reduceAdd, Int.reduceToNat, Int.reducePow]); (repeat' refine And.intro ?_ ?_); (try any_goals (first | (refine hK _ _ ?_; clear hK' hQ hK Q' Kn) | (intro hq9; refine ⟨hq9, ?_⟩; simp only [redB] at hq9; omega) | (intro hq9; refine ⟨hq9, fun hq8 => ?_⟩; rw [hq9, hq8]; rfl) | (simp; done) | omega | (simp only [redL]; omega) | (simp; omega) | (intros; (repeat' refine And.intro ?_ ?_) <;> (first | assumption | omega | (simp; done)))))) | (refine AW.cond (by simp (disch := omega) only [go_sem, redN, Nat.reduceAdd, Int.reduceToNat, Int.reducePow]; rfl) (fun hb => ?_) (fun hb => ?_) <;> (try simp only [redB] at hb))))
    · (refine ⟨_, _, rfl, by simp, ?_⟩; simp only [aTup, AA.get, List.getD_cons_zero, List.getD_cons_succ, true_and])
      rw [← k2, hd, fIdx, if_pos hb]
    · refine ⟨k + 1, ⟨by omega, ?_⟩, by omega, ?_, rfl, rfl⟩
      · rw [← k2, hd, fIdx, if_neg (by simpa using hb)]
      · (repeat (first | exact Weak.nil | refine Weak.junk _ ?_ | refine Weak.same _ ?_ | refine Weak.eqv (by (congr 1; first | omega | (simp; done) | exact w_i64 (by omega) (by omega))) ?_))
  · (refine ⟨_, _, rfl, by simp, ?_⟩; simp only [aTup, AA.get, List.getD_cons_zero, List.getD_cons_succ, true_and])
    rw [← k2, show k = l.length from by omega, List.drop_length, fIdx]

theorem b_ContainsFuncS (G : Nat → AV) (f : FuncId) (ca : List AV) (l : List (List UInt8)) (p : List UInt8 → Bool) (hbd : hasBody Tryd.prog f = true) (hf : TellsS G f ca l p) (hl : l.length ≤ 4611686018427387904) (st : St) :
    ACalls (Ev G) 40 [.tree 1 (strsE l), .clo (.func f) [] ca] st (fun e st' => st' = st ∧ e = .ret (.bool (l.any p))) := by
  refine ACalls.of_body Tryd.func40 rfl ?_
  rw [Tryd.ntmps40]
  simp only [List.length_cons, List.length_nil, Nat.reduceAdd, Nat.reduceSub, List.replicate_succ, List.replicate_zero, List.cons_append, List.nil_append]
  (repeat' (first | refine AW.seq ?_ | refine AW.scope ?_ | refine AW.label ?_ | refine AW.block ?_ | refine AW.skip ?_ | refine AW.exit ?_ | refine AW.ret ?_ | (refine AW.regionC fun Q' Kn hQ hK hK' => ?_; (repeat simp (disch := omega) only [go_sem, redN, Nat.reduceAdd, Int.reduceToNat, Int.reducePow]); (repeat' refine And.intro ?_ ?_); (try any_goals (first | (refine hK _ _ ?_; clear hK' hQ hK Q' Kn) | (intro hq9; refine ⟨hq9, ?_⟩; simp only [redB] at hq9; omega) | (intro hq9; refine ⟨hq9, fun hq8 => ?_⟩; rw [hq9, hq8]; rfl) | (simp; done) | omega | (simp only [redL]; omega) | (simp; omega) | (intros; (repeat' refine And.intro ?_ ?_) <;> (first | assumption | omega | (simp; done)))))) | (refine AW.cond (by simp (disch := omega) only [go_sem, redN, Nat.reduceAdd, Int.reduceToNat, Int.reducePow]; rfl) (fun hb => ?_) (fun hb => ?_) <;> (try simp only [redB] at hb))))
  refine AOp.call rfl (by simp only [go_sem]; rfl) (by simp [go_sem]) rfl (ACalls.mono (by simp only [go_sem]; exact b_IndexFuncS G f ca l p hbd hf hl _) ?_)
  rintro e st' ⟨rfl, rfl⟩
  (refine AOpsC_ok hK' _ _ _ ?_; (repeat simp (disch := omega) only [go_sem, redN, Nat.reduceAdd, Int.reduceToNat, Int.reducePow]); (repeat' refine And.intro ?_ ?_); (try any_goals (first | (refine hK _ _ ?_; clear hK' hQ hK Q' Kn) | (intro hq9; refine ⟨hq9, ?_⟩; simp only [redB] at hq9; omega) | (intro hq9; refine ⟨hq9, fun hq8 => ?_⟩; rw [hq9, hq8]; rfl) | (simp; done) | omega | (simp only [redL]; omega) | (simp; omega) | (intros; (repeat' refine And.intro ?_ ?_) <;> (first | assumption | omega | (simp; done))))))
  (repeat' (first | refine AW.seq ?_ | refine AW.scope ?_ | refine AW.label ?_ | refine AW.block ?_ | refine AW.skip ?_ | refine AW.exit ?_ | refine AW.ret ?_ | (refine AW.regionC fun Q' Kn hQ hK hK' => ?_; (repeat simp (disch := omega) only [go_sem, redN, Nat.reduceAdd, Int.reduceToNat, Int.reducePow]); (repeat' refine And.intro ?_ ?_); (try any_goals (first | (refine hK _ _ ?_; clear hK' hQ hK Q' Kn) | (intro hq9; refine ⟨hq9, ?_⟩; simp only [redB] at hq9; omega) | (intro hq9; refine ⟨hq9, fun hq8 => ?_⟩; rw [hq9, hq8]; rfl) | (simp; done) | omega | (simp only [redL]; omega) | (simp; omega) | (intros; (repeat' refine And.intro ?_ ?_) <;> (first | assumption | omega | (simp; done)))))) | (refine AW.cond (by simp (disch := omega) only [go_sem, redN, Nat.reduceAdd, Int.reduceToNat, Int.reducePow]; rfl) (fun hb => ?_) (fun hb => ?_) <;> (try simp only [redB] at hb))))
  (refine ⟨_, _, rfl, by simp, ?_⟩; simp only [aTup, AA.get, List.getD_cons_zero, List.getD_cons_succ, true_and])
  rw [← fIdx_any]
theorem b_ContainsFuncP (G : Nat → AV) (f : FuncId) (ca : List AV) (l : List ParamD) (p : ParamD → Bool) (hbd : hasBody Tryd.prog f = true) (hf : TellsP G f ca l p) (hl : l.length ≤ 4611686018427387904) (st : St) :
    ACalls (Ev G) 42 [.tree 2 (paramsE l), .clo (.func f) [] ca] st (fun e st' => st' = st ∧ e = .ret (.bool (l.any p))) := by
  refine ACalls.of_body Tryd.func42 rfl ?_
  rw [Tryd.ntmps42]
  simp only [List.length_cons, List.length_nil, Nat.reduceAdd, Nat.reduceSub, List.replicate_succ, List.replicate_zero, List.cons_append, List.nil_append]
  (repeat' (first | refine AW.seq ?_ | refine AW.scope ?_ | refine AW.label ?_ | refine AW.block ?_ | refine AW.skip ?_ | refine AW.exit ?_ | refine AW.ret ?_ | (refine AW.regionC fun Q' Kn hQ hK hK' => ?_; (repeat simp (disch := omega) only [go_sem, redN, Nat.reduceAdd, Int.reduceToNat, Int.reducePow]); (repeat' refine And.intro ?_ ?_); (try any_goals (first | (refine hK _ _ ?_; clear hK' hQ hK Q' Kn) | (intro hq9; refine ⟨hq9, ?_⟩; simp only [redB] at hq9; omega) | (intro hq9; refine ⟨hq9, fun hq8 => ?_⟩; rw [hq9, hq8]; rfl) | (simp; done) | omega | (simp only [redL]; omega) | (simp; omega) | (intros; (repeat' refine And.intro ?_ ?_) <;> (first | assumption | omega | (simp; done)))))) | (refine AW.cond (by simp (disch := omega) only [go_sem, redN, Nat.reduceAdd, Int.reduceToNat, Int.reducePow]; rfl) (fun hb => ?_) (fun hb => ?_) <;> (try simp only [redB] at hb))))
  refine AOp.call rfl (by simp only [go_sem]; rfl) (by simp [go_sem]) rfl (ACalls.mono (by simp only [go_sem]; exact b_IndexFuncP G f ca l p hbd hf hl _) ?_)
  rintro e st' ⟨rfl, rfl⟩
  (refine AOpsC_ok hK' _ _ _ ?_; (repeat simp (disch := omega) only [go_sem, redN, Nat.reduceAdd, Int.reduceToNat, Int.reducePow]); (repeat' refine And.intro ?_ ?_); (try any_goals (first | (refine hK _ _ ?_; clear hK' hQ hK Q' Kn) | (intro hq9; refine ⟨hq9, ?_⟩; simp only [redB] at hq9; omega) | (intro hq9; refine ⟨hq9, fun hq8 => ?_⟩; rw [hq9, hq8]; rfl) | (simp; done) | omega | (simp only [redL]; omega) | (simp; omega) | (intros; (repeat' refine And.intro ?_ ?_) <;> (first | assumption | omega | (simp; done))))))
  (repeat' (first | refine AW.seq ?_ | refine AW.scope ?_ | refine AW.label ?_ | refine AW.block ?_ | refine AW.skip ?_ | refine AW.exit ?_ | refine AW.ret ?_ | (refine AW.regionC fun Q' Kn hQ hK hK' => ?_; (repeat simp (disch := omega) only [go_sem, redN, Nat.reduceAdd, Int.reduceToNat, Int.reducePow]); (repeat' refine And.intro ?_ ?_); (try any_goals (first | (refine hK _ _ ?_; clear hK' hQ hK Q' Kn) | (intro hq9; refine ⟨hq9, ?_⟩; simp only [redB] at hq9; omega) | (intro hq9; refine ⟨hq9, fun hq8 => ?_⟩; rw [hq9, hq8]; rfl) | (simp; done) | omega | (simp only [redL]; omega) | (simp; omega) | (intros; (repeat' refine And.intro ?_ ?_) <;> (first | assumption | omega | (simp; done)))))) | (refine AW.cond (by simp (disch := omega) only [go_sem, redN, Nat.reduceAdd, Int.reduceToNat, Int.reducePow]; rfl) (fun hb => ?_) (fun hb => ?_) <;> (try simp only [redB] at hb))))
  (refine ⟨_, _, rfl, by simp, ?_⟩; simp only [aTup, AA.get, List.getD_cons_zero, List.getD_cons_succ, true_and])
  rw [← fIdx_any]

/-- A name in capitals, not empty, not long. -/
def isNameL (s : List UInt8) : Bool := s.all nameB && (decide (s ≠ []) && decide (s.length ≤ 64) && decide (s.map up = s))
theorem t_isName (G : Nat → AV) (s : List UInt8) (hs : s.length ≤ 4611686018427387904) (st : St) : ACalls (Ev G) 39 [.str s] st (fun e st' => st' = st ∧ e = .ret (.bool (isNameL s))) := by
  refine ACalls.of_body Tryd.func39 rfl ?_
  rw [Tryd.ntmps39]
  simp only [List.length_cons, List.length_nil, Nat.reduceAdd, Nat.reduceSub, List.replicate_succ, List.replicate_zero, List.cons_append, List.nil_append]
  (repeat' (first | refine AW.seq ?_ | refine AW.scope ?_ | refine AW.label ?_ | refine AW.block ?_ | refine AW.skip ?_ | refine AW.exit ?_ | refine AW.ret ?_ | (refine AW.regionC fun Q' Kn hQ hK hK' => ?_; (repeat simp (disch := omega) only [go_sem, redN, Nat.reduceAdd, Int.reduceToNat, Int.reducePow]); (repeat' refine And.intro ?_ ?_); (try any_goals (first | (refine hK _ _ ?_; clear hK' hQ hK Q' Kn) | (intro hq9; refine ⟨hq9, ?_⟩; simp only [redB] at hq9; omega) | (intro hq9; refine ⟨hq9, fun hq8 => ?_⟩; rw [hq9, hq8]; rfl) | (simp; done) | omega | (simp only [redL]; omega) | (simp; omega) | (intros; (repeat' refine And.intro ?_ ?_) <;> (first | assumption | omega | (simp; done)))))) | (refine AW.cond (by simp (disch := omega) only [go_sem, redN, Nat.reduceAdd, Int.reduceToNat, Int.reducePow]; rfl) (fun hb => ?_) (fun hb => ?_) <;> (try simp only [redB] at hb))))
  refine AW.loopF (fun k : Nat => [.str s, .junk, .junk, .junk, .junk, .int .i64 s.length, .int .i64 k, .junk, .junk, .junk, .junk, .junk, .junk, .junk, .junk, .junk, .junk, .junk, .junk, .junk, .junk, .junk, .junk, .junk, .junk, .junk, .junk, .junk]) (fun _ => st)
    (fun k => k ≤ s.length ∧ (s.take k).all nameB = true) (fun k => s.length - k) 0 ?_ rfl ?_ ?_
  · (repeat (first | exact Weak.nil | refine Weak.junk _ ?_ | refine Weak.same _ ?_ | refine Weak.eqv (by (congr 1; first | omega | (simp; done) | exact w_i64 (by omega) (by omega))) ?_))
  · simp
  rintro k ⟨k1, k2⟩
  (repeat' (first | refine AW.seq ?_ | refine AW.scope ?_ | refine AW.label ?_ | refine AW.block ?_ | refine AW.skip ?_ | refine AW.exit ?_ | refine AW.ret ?_ | (refine AW.regionC fun Q' Kn hQ hK hK' => ?_; (repeat simp (disch := omega) only [go_sem, redN, Nat.reduceAdd, Int.reduceToNat, Int.reducePow]); (repeat' refine And.intro ?_ ?_); (try any_goals (first | (refine hK _ _ ?_; clear hK' hQ hK Q' Kn) | (intro hq9; refine ⟨hq9, ?_⟩; simp only [redB] at hq9; omega) | (intro hq9; refine ⟨hq9, fun hq8 => ?_⟩; rw [hq9, hq8]; rfl) | (simp; done) | omega | (simp only [redL]; omega) | (simp; omega) | (intros; (repeat' refine And.intro ?_ ?_) <;> (first | assumption | omega | (simp; done)))))) | (refine AW.cond (by simp (disch := omega) only [go_sem, redN, Nat.reduceAdd, Int.reduceToNat, Int.reducePow]; rfl) (fun hb => ?_) (fun hb => ?_) <;> (try simp only [redB] at hb))))
  · refine AOp.call rfl (by simp only [go_sem]; rfl) (by simp [go_sem]) rfl (ACalls.mono (by simp only [go_sem]; exact t_nameByte G _ _) ?_)
    rintro e st' ⟨rfl, rfl⟩
    (refine AOpsC_ok hK' _ _ _ ?_; (repeat simp (disch := omega) only [go_sem, redN, Nat.reduceAdd, Int.reduceToNat, Int.reducePow]); (repeat' refine And.intro ?_ ?_); (try any_goals (first | (refine hK _ _ ?_; clear hK' hQ hK Q' Kn) | (intro hq9; refine ⟨hq9, ?_⟩; simp only [redB] at hq9; omega) | (intro hq9; refine ⟨hq9, fun hq8 => ?_⟩; rw [hq9, hq8]; rfl) | (simp; done) | omega | (simp only [redL]; omega) | (simp; omega) | (intros; (repeat' refine And.intro ?_ ?_) <;> (first | assumption | omega | (simp; done))))))
    (repeat' (first | refine AW.seq ?_ | refine AW.scope ?_ | refine AW.label ?_ | refine AW.block ?_ | refine AW.skip ?_ | refine AW.exit ?_ | refine AW.ret ?_ | (refine AW.regionC fun Q' Kn hQ hK hK' => ?_; (repeat simp (disch := omega) only [go_sem, redN, Nat.reduceAdd, Int.reduceToNat, Int.reducePow]); (repeat' refine And.intro ?_ ?_); (try any_goals (first | (refine hK _ _ ?_; clear hK' hQ hK Q' Kn) | (intro hq9; refine ⟨hq9, ?_⟩; simp only [redB] at hq9; omega) | (intro hq9; refine ⟨hq9, fun hq8 => ?_⟩; rw [hq9, hq8]; rfl) | (simp; done) | omega | (simp only [redL]; omega) | (simp; omega) | (intros; (repeat' refine And.intro ?_ ?_) <;> (first | assumption | omega | (simp; done)))))) | (refine AW.cond (by simp (disch := omega) only [go_sem, redN, Nat.reduceAdd, Int.reduceToNat, Int.reducePow]; rfl) (fun hb => ?_) (fun hb => ?_) <;> (try simp only [redB] at hb))))
    · (refine ⟨_, _, rfl, by simp, ?_⟩; simp only [aTup, AA.get, List.getD_cons_zero, List.getD_cons_succ, true_and])
      rw [isNameL, all_false_of (i := k) (p := nameB) (by omega) (by simpa using hb)]; rfl
    · refine ⟨k + 1, ⟨by omega, ?_⟩, by omega, ?_, rfl, rfl⟩
      · rw [all_take_succ (by omega), k2, Bool.true_and]; simpa using hb
      · (repeat (first | exact Weak.nil | refine Weak.junk _ ?_ | refine Weak.same _ ?_ | refine Weak.eqv (by (congr 1; first | omega | (simp; done) | exact w_i64 (by omega) (by omega))) ?_))
  · refine AOps.guard_call (f := 58) (v := .str (s.map up)) rfl rfl rfl rfl rfl (fun _ => (by simp only [go_sem] <;> rfl)) (fun h => by first | (simp [go_sem]; done) | simpa [go_sem] using h) rfl (fun hg => by simp only [go_sem]; exact t_great G s hs _) ?_
    (refine AOpsC_ok hK' _ _ _ ?_; (repeat simp (disch := omega) only [go_sem, redN, Nat.reduceAdd, Int.reduceToNat, Int.reducePow]); (repeat' refine And.intro ?_ ?_); (try any_goals (first | (refine hK _ _ ?_; clear hK' hQ hK Q' Kn) | (intro hq9; refine ⟨hq9, ?_⟩; simp only [redB] at hq9; omega) | (intro hq9; refine ⟨hq9, fun hq8 => ?_⟩; rw [hq9, hq8]; rfl) | (simp; done) | omega | (simp only [redL]; omega) | (simp; omega) | (intros; (repeat' refine And.intro ?_ ?_) <;> (first | assumption | omega | (simp; done))))))
    (repeat' (first | refine AW.seq ?_ | refine AW.scope ?_ | refine AW.label ?_ | refine AW.block ?_ | refine AW.skip ?_ | refine AW.exit ?_ | refine AW.ret ?_ | (refine AW.regionC fun Q' Kn hQ hK hK' => ?_; (repeat simp (disch := omega) only [go_sem, redN, Nat.reduceAdd, Int.reduceToNat, Int.reducePow]); (repeat' refine And.intro ?_ ?_); (try any_goals (first | (refine hK _ _ ?_; clear hK' hQ hK Q' Kn) | (intro hq9; refine ⟨hq9, ?_⟩; simp only [redB] at hq9; omega) | (intro hq9; refine ⟨hq9, fun hq8 => ?_⟩; rw [hq9, hq8]; rfl) | (simp; done) | omega | (simp only [redL]; omega) | (simp; omega) | (intros; (repeat' refine And.intro ?_ ?_) <;> (first | assumption | omega | (simp; done)))))) | (refine AW.cond (by simp (disch := omega) only [go_sem, redN, Nat.reduceAdd, Int.reduceToNat, Int.reducePow]; rfl) (fun hb => ?_) (fun hb => ?_) <;> (try simp only [redB] at hb))))
    (refine ⟨_, _, rfl, by simp, ?_⟩; simp only [aTup, AA.get, List.getD_cons_zero, List.getD_cons_succ, true_and])
    have : k = s.length := by omega
    subst this
    rw [List.take_length] at k2
    rw [isNameL, k2, Bool.true_and, show decide (s.length ≤ 64) = decide ((s.length : Int) ≤ 64) from decide_eq_decide.2 (by omega)]
    congr 2
    rw [Bool.eq_iff_iff]
    simp
end Go.Almanac

/- Lines: a parameter's value; does a property fit. -/
namespace Go.Almanac
open Go.RowKit Go.Proofs Go.Abs

set_option linter.unusedSimpArgs false
set_option linter.unusedVariables false
set_option linter.unusedSectionVars false
set_option maxRecDepth 10000

/-- The first value of the first parameter of that name. -/
def paramV (p : PropD) (name : List UInt8) : List UInt8 × Bool :=
  match p.params.find? (fun x => x.name == name) with
  | some x => (x.values.getD 0 [], decide (0 < x.values.length))
  | none => ([], false)

/-- A guarded operation that is passed over. -/
theorem skipAs {E : Env} {r : Option Nat} {ops : Array Oper} {Q : APost} {st : St} {a : AA} (v : AV) {i : Nat} {rest : List Nat} {o : Oper} {j d : Nat} {want : Bool} (hi : ops[i]? = some o) (hg : o.guard = some (j, want)) (hd : (ops[j]?).bind (·.dst) = some d) (hy : agd (a.get d) want = some false)
    (hk : AOps E r ops Q rest (a.put o.dst (.opt false v)) st) : AOps E r ops Q (i :: rest) a st :=
  AOps.guard hi hg hd hy (fun e => by cases e) (fun _ => AOps.putMono (fun κ cv h => VR_opt_false h) hk)

theorem c_named (G : Nat → AV) (name : List UInt8) (l : List ParamD) : TellsP G 37 [.fptr [.str name]] l (fun x => x.name == name) := by
  intro x _ st
  refine ACalls.of_body Tryd.func37 rfl ?_
  rw [Tryd.ntmps37]
  simp only [List.length_cons, List.length_nil, Nat.reduceAdd, Nat.reduceSub, List.replicate_succ, List.replicate_zero, List.cons_append, List.nil_append]
  (repeat' (first | refine AW.seq ?_ | refine AW.scope ?_ | refine AW.label ?_ | refine AW.block ?_ | refine AW.skip ?_ | refine AW.exit ?_ | refine AW.ret ?_))
  refine AW.regionC fun Q' Kn hQ hK hK' => ?_
  simp (disch := omega) only [go_sem, redN, Nat.reduceAdd, Int.reduceToNat, Int.reducePow]
  refine AOp.box rfl (by simp [go_sem]) (by simp only [go_sem]; rfl) fun b hb0 => ?_
  (refine AOpsC_ok hK' _ _ _ ?_; (repeat simp (disch := omega) only [go_sem, redN, Nat.reduceAdd, Int.reduceToNat, Int.reducePow]); (repeat' refine And.intro ?_ ?_); (try any_goals (first | (refine hK _ _ ?_; clear hK' hQ hK Q' Kn) | (intro hq9; refine ⟨hq9, ?_⟩; simp only [redB] at hq9; omega) | (intro hq9; refine ⟨hq9, fun hq8 => ?_⟩; rw [hq9, hq8]; rfl) | (simp; done) | omega | (simp only [redL]; omega) | (simp; omega) | (intros; (repeat' refine And.intro ?_ ?_) <;> (first | assumption | omega | (simp; done))))))
  refine AW.freeze 2 rfl (St.set_same _ _ _) ?_
  rw [St.del_set _ _ hb0]
  (repeat' (first | refine AW.seq ?_ | refine AW.scope ?_ | refine AW.label ?_ | refine AW.block ?_ | refine AW.skip ?_ | refine AW.exit ?_ | refine AW.ret ?_ | (refine AW.regionC fun Q' Kn hQ hK hK' => ?_; (repeat simp (disch := omega) only [go_sem, redN, Nat.reduceAdd, Int.reduceToNat, Int.reducePow]); (repeat' refine And.intro ?_ ?_); (try any_goals (first | (refine hK _ _ ?_; clear hK' hQ hK Q' Kn) | (intro hq9; refine ⟨hq9, ?_⟩; simp only [redB] at hq9; omega) | (intro hq9; refine ⟨hq9, fun hq8 => ?_⟩; rw [hq9, hq8]; rfl) | (simp; done) | omega | (simp only [redL]; omega) | (simp; omega) | (intros; (repeat' refine And.intro ?_ ?_) <;> (first | assumption | omega | (simp; done)))))) | (refine AW.cond (by simp (disch := omega) only [go_sem, redN, Nat.reduceAdd, Int.reduceToNat, Int.reducePow]; rfl) (fun hb => ?_) (fun hb => ?_) <;> (try simp only [redB] at hb))))
  (refine ⟨_, _, rfl, by simp, ?_⟩; simp only [aTup, AA.get, List.getD_cons_zero, List.getD_cons_succ, true_and])

theorem t_Param (G : Nat → AV) (p : PropD) (name : List UInt8) (hp : PropOk p) (st : St) :
    ACalls (Ev G) 10 [.agg (encProp p), .str name] st (fun e st' => st' = st ∧ e = .ret (.tup [.str (paramV p name).1, .bool (paramV p name).2])) := by
  have hp1 := hp.1
  refine ACalls.of_body Tryd.func10 rfl ?_
  rw [Tryd.ntmps10]
  simp only [List.length_cons, List.length_nil, Nat.reduceAdd, Nat.reduceSub, List.replicate_succ, List.replicate_zero, List.cons_append, List.nil_append]
  (repeat' (first | refine AW.seq ?_ | refine AW.scope ?_ | refine AW.label ?_ | refine AW.block ?_ | refine AW.skip ?_ | refine AW.exit ?_ | refine AW.ret ?_))
  refine AW.regionC fun Q' Kn hQ hK hK' => ?_
  simp (disch := omega) only [go_sem, redN, Nat.reduceAdd, Int.reduceToNat, Int.reducePow]
  refine AOp.box rfl (by simp [go_sem]) (by simp only [go_sem]; rfl) fun b hb0 => ?_
  (refine AOpsC_ok hK' _ _ _ ?_; (repeat simp (disch := omega) only [go_sem, redN, Nat.reduceAdd, Int.reduceToNat, Int.reducePow]); (repeat' refine And.intro ?_ ?_); (try any_goals (first | (refine hK _ _ ?_; clear hK' hQ hK Q' Kn) | (intro hq9; refine ⟨hq9, ?_⟩; simp only [redB] at hq9; omega) | (intro hq9; refine ⟨hq9, fun hq8 => ?_⟩; rw [hq9, hq8]; rfl) | (simp; done) | omega | (simp only [redL]; omega) | (simp; omega) | (intros; (repeat' refine And.intro ?_ ?_) <;> (first | assumption | omega | (simp; done))))))
  refine AOp.box rfl (by simp [go_sem]) (by simp only [go_sem]; rfl) fun c hc0 => ?_
  (refine AOpsC_ok hK' _ _ _ ?_; (repeat simp (disch := omega) only [go_sem, redN, Nat.reduceAdd, Int.reduceToNat, Int.reducePow]); (repeat' refine And.intro ?_ ?_); (try any_goals (first | (refine hK _ _ ?_; clear hK' hQ hK Q' Kn) | (intro hq9; refine ⟨hq9, ?_⟩; simp only [redB] at hq9; omega) | (intro hq9; refine ⟨hq9, fun hq8 => ?_⟩; rw [hq9, hq8]; rfl) | (simp; done) | omega | (simp only [redL]; omega) | (simp; omega) | (intros; (repeat' refine And.intro ?_ ?_) <;> (first | assumption | omega | (simp; done))))))
  have hbc : c ≠ b := fun e => by subst e; simp at hc0
  have hc1 : st c = none := by rw [St.set_ne _ _ hbc] at hc0; exact hc0
  refine AW.freeze 2 rfl (by rw [St.set_ne _ _ (Ne.symm hbc)]; exact St.set_same _ _ _) ?_
  refine AW.freeze 3 rfl (by rw [St.del_ne _ hbc]; exact St.set_same _ _ _) ?_
  rw [frozen2 _ _ hb0 hc1]
  simp only [encProp]
  (repeat' (first | refine AW.seq ?_ | refine AW.scope ?_ | refine AW.label ?_ | refine AW.block ?_ | refine AW.skip ?_ | refine AW.exit ?_ | refine AW.ret ?_ | (refine AW.regionC fun Q' Kn hQ hK hK' => ?_; (repeat simp (disch := omega) only [go_sem, redN, Nat.reduceAdd, Int.reduceToNat, Int.reducePow]); (repeat' refine And.intro ?_ ?_); (try any_goals (first | (refine hK _ _ ?_; clear hK' hQ hK Q' Kn) | (intro hq9; refine ⟨hq9, ?_⟩; simp only [redB] at hq9; omega) | (intro hq9; refine ⟨hq9, fun hq8 => ?_⟩; rw [hq9, hq8]; rfl) | (simp; done) | omega | (simp only [redL]; omega) | (simp; omega) | (intros; (repeat' refine And.intro ?_ ?_) <;> (first | assumption | omega | (simp; done)))))) | (refine AW.cond (by simp (disch := omega) only [go_sem, redN, Nat.reduceAdd, Int.reduceToNat, Int.reducePow]; rfl) (fun hb => ?_) (fun hb => ?_) <;> (try simp only [redB] at hb))))
  refine AOp.call rfl (by simp only [go_sem]; rfl) (by simp [go_sem]) rfl (ACalls.mono (by simp only [go_sem]; exact b_IndexFuncP G _ _ p.params _ rfl (c_named G name _) hp1 _) ?_)
  rintro e st' ⟨rfl, rfl⟩
  rcases fIdx_at (fun x : ParamD => x.name == name) ⟨[], []⟩ p.params 0 with ⟨h1, h2⟩ | ⟨i, h1, h2, h3, h4⟩
  · rw [h1]
    have hnone : p.params.find? (fun x => x.name == name) = none := by
      rw [List.find?_eq_none]; intro x hx; rw [List.any_eq_false] at h2; exact h2 x hx
    by_cases he : p.params = []
    · rw [he]
      simp only [paramsE, List.map_nil]
      (refine AOpsC_ok hK' _ _ _ ?_; (repeat simp (disch := omega) only [go_sem, redN, Nat.reduceAdd, Int.reduceToNat, Int.reducePow]); (repeat' refine And.intro ?_ ?_); (try any_goals (first | (refine hK _ _ ?_; clear hK' hQ hK Q' Kn) | (intro hq9; refine ⟨hq9, ?_⟩; simp only [redB] at hq9; omega) | (intro hq9; refine ⟨hq9, fun hq8 => ?_⟩; rw [hq9, hq8]; rfl) | (simp; done) | omega | (simp only [redL]; omega) | (simp; omega) | (intros; (repeat' refine And.intro ?_ ?_) <;> (first | assumption | omega | (simp; done))))))
      simp only [AThen]
      (repeat' (first | refine AW.seq ?_ | refine AW.scope ?_ | refine AW.label ?_ | refine AW.block ?_ | refine AW.skip ?_ | refine AW.exit ?_ | refine AW.ret ?_))
      (refine AW.regionC fun Q' Kn hQ hK hK' => ?_; (repeat simp (disch := omega) only [go_sem, redN, Nat.reduceAdd, Int.reduceToNat, Int.reducePow]); (repeat' refine And.intro ?_ ?_); (try any_goals (first | (refine hK _ _ ?_; clear hK' hQ hK Q' Kn) | (intro hq9; refine ⟨hq9, ?_⟩; simp only [redB] at hq9; omega) | (intro hq9; refine ⟨hq9, fun hq8 => ?_⟩; rw [hq9, hq8]; rfl) | (simp; done) | omega | (simp only [redL]; omega) | (simp; omega) | (intros; (repeat' refine And.intro ?_ ?_) <;> (first | assumption | omega | (simp; done))))))
      refine skipAs (.int .i64 0) rfl rfl rfl (by simp only [go_sem]; rfl) ?_
      (refine AOpsC_ok hK' _ _ _ ?_; (repeat simp (disch := omega) only [go_sem, redN, Nat.reduceAdd, Int.reduceToNat, Int.reducePow]); (repeat' refine And.intro ?_ ?_); (try any_goals (first | (refine hK _ _ ?_; clear hK' hQ hK Q' Kn) | (intro hq9; refine ⟨hq9, ?_⟩; simp only [redB] at hq9; omega) | (intro hq9; refine ⟨hq9, fun hq8 => ?_⟩; rw [hq9, hq8]; rfl) | (simp; done) | omega | (simp only [redL]; omega) | (simp; omega) | (intros; (repeat' refine And.intro ?_ ?_) <;> (first | assumption | omega | (simp; done))))))
      (repeat' (first | refine AW.seq ?_ | refine AW.scope ?_ | refine AW.label ?_ | refine AW.block ?_ | refine AW.skip ?_ | refine AW.exit ?_ | refine AW.ret ?_ | (refine AW.regionC fun Q' Kn hQ hK hK' => ?_; (repeat simp (disch := omega) only [go_sem, redN, Nat.reduceAdd, Int.reduceToNat, Int.reducePow]); (repeat' refine And.intro ?_ ?_); (try any_goals (first | (refine hK _ _ ?_; clear hK' hQ hK Q' Kn) | (intro hq9; refine ⟨hq9, ?_⟩; simp only [redB] at hq9; omega) | (intro hq9; refine ⟨hq9, fun hq8 => ?_⟩; rw [hq9, hq8]; rfl) | (simp; done) | omega | (simp only [redL]; omega) | (simp; omega) | (intros; (repeat' refine And.intro ?_ ?_) <;> (first | assumption | omega | (simp; done)))))) | (refine AW.cond (by simp (disch := omega) only [go_sem, redN, Nat.reduceAdd, Int.reduceToNat, Int.reducePow]; rfl) (fun hb => ?_) (fun hb => ?_) <;> (try simp only [redB] at hb))))
      all_goals try exact absurd hb.1 (by decide)
      all_goals ((refine ⟨_, _, rfl, by simp, ?_⟩; simp only [aTup, AA.get, List.getD_cons_zero, List.getD_cons_succ, true_and]); simp only [paramV, hnone])
    · have hl : 0 < p.params.length := List.length_pos_iff.2 he
      have hv := hp.2 _ (getD_mem (d := (⟨[], []⟩ : ParamD)) hl)
      (refine AOpsC_ok hK' _ _ _ ?_; (repeat simp (disch := omega) only [go_sem, redN, Nat.reduceAdd, Int.reduceToNat, Int.reducePow]); (repeat' refine And.intro ?_ ?_); (try any_goals (first | (refine hK _ _ ?_; clear hK' hQ hK Q' Kn) | (intro hq9; refine ⟨hq9, ?_⟩; simp only [redB] at hq9; omega) | (intro hq9; refine ⟨hq9, fun hq8 => ?_⟩; rw [hq9, hq8]; rfl) | (simp; done) | omega | (simp only [redL]; omega) | (simp; omega) | (intros; (repeat' refine And.intro ?_ ?_) <;> (first | assumption | omega | (simp; done))))))
      simp only [AThen]
      (repeat' (first | refine AW.seq ?_ | refine AW.scope ?_ | refine AW.label ?_ | refine AW.block ?_ | refine AW.skip ?_ | refine AW.exit ?_ | refine AW.ret ?_))
      (refine AW.regionC fun Q' Kn hQ hK hK' => ?_; (repeat simp (disch := omega) only [go_sem, redN, Nat.reduceAdd, Int.reduceToNat, Int.reducePow]); (repeat' refine And.intro ?_ ?_); (try any_goals (first | (refine hK _ _ ?_; clear hK' hQ hK Q' Kn) | (intro hq9; refine ⟨hq9, ?_⟩; simp only [redB] at hq9; omega) | (intro hq9; refine ⟨hq9, fun hq8 => ?_⟩; rw [hq9, hq8]; rfl) | (simp; done) | omega | (simp only [redL]; omega) | (simp; omega) | (intros; (repeat' refine And.intro ?_ ?_) <;> (first | assumption | omega | (simp; done))))))
      all_goals try (intro h; exact absurd h (by decide))
      (repeat' (first | refine AW.seq ?_ | refine AW.scope ?_ | refine AW.label ?_ | refine AW.block ?_ | refine AW.skip ?_ | refine AW.exit ?_ | refine AW.ret ?_ | (refine AW.regionC fun Q' Kn hQ hK hK' => ?_; (repeat simp (disch := omega) only [go_sem, redN, Nat.reduceAdd, Int.reduceToNat, Int.reducePow]); (repeat' refine And.intro ?_ ?_); (try any_goals (first | (refine hK _ _ ?_; clear hK' hQ hK Q' Kn) | (intro hq9; refine ⟨hq9, ?_⟩; simp only [redB] at hq9; omega) | (intro hq9; refine ⟨hq9, fun hq8 => ?_⟩; rw [hq9, hq8]; rfl) | (simp; done) | omega | (simp only [redL]; omega) | (simp; omega) | (intros; (repeat' refine And.intro ?_ ?_) <;> (first | assumption | omega | (simp; done)))))) | (refine AW.cond (by simp (disch := omega) only [go_sem, redN, Nat.reduceAdd, Int.reduceToNat, Int.reducePow]; rfl) (fun hb => ?_) (fun hb => ?_) <;> (try simp only [redB] at hb))))
      all_goals try exact absurd hb.1 (by decide)
      all_goals ((refine ⟨_, _, rfl, by simp, ?_⟩; simp only [aTup, AA.get, List.getD_cons_zero, List.getD_cons_succ, true_and]); simp only [paramV, hnone])
  · rw [h2, show ((0 : Nat) : Int) + (i : Int) = (i : Int) from by omega]
    have hv := hp.2 _ (getD_mem (d := (⟨[], []⟩ : ParamD)) h1)
    (refine AOpsC_ok hK' _ _ _ ?_; (repeat simp (disch := omega) only [go_sem, redN, Nat.reduceAdd, Int.reduceToNat, Int.reducePow]); (repeat' refine And.intro ?_ ?_); (try any_goals (first | (refine hK _ _ ?_; clear hK' hQ hK Q' Kn) | (intro hq9; refine ⟨hq9, ?_⟩; simp only [redB] at hq9; omega) | (intro hq9; refine ⟨hq9, fun hq8 => ?_⟩; rw [hq9, hq8]; rfl) | (simp; done) | omega | (simp only [redL]; omega) | (simp; omega) | (intros; (repeat' refine And.intro ?_ ?_) <;> (first | assumption | omega | (simp; done))))))
    (repeat' (first | refine AW.seq ?_ | refine AW.scope ?_ | refine AW.label ?_ | refine AW.block ?_ | refine AW.skip ?_ | refine AW.exit ?_ | refine AW.ret ?_ | (refine AW.regionC fun Q' Kn hQ hK hK' => ?_; (repeat simp (disch := omega) only [go_sem, redN, Nat.reduceAdd, Int.reduceToNat, Int.reducePow]); (repeat' refine And.intro ?_ ?_); (try any_goals (first | (refine hK _ _ ?_; clear hK' hQ hK Q' Kn) | (intro hq9; refine ⟨hq9, ?_⟩; simp only [redB] at hq9; omega) | (intro hq9; refine ⟨hq9, fun hq8 => ?_⟩; rw [hq9, hq8]; rfl) | (simp; done) | omega | (simp only [redL]; omega) | (simp; omega) | (intros; (repeat' refine And.intro ?_ ?_) <;> (first | assumption | omega | (simp; done)))))) | (refine AW.cond (by simp (disch := omega) only [go_sem, redN, Nat.reduceAdd, Int.reduceToNat, Int.reducePow]; rfl) (fun hb => ?_) (fun hb => ?_) <;> (try simp only [redB] at hb))))
    · (refine ⟨_, _, rfl, by simp, ?_⟩; simp only [aTup, AA.get, List.getD_cons_zero, List.getD_cons_succ, true_and])
      have : (p.params.getD i ⟨[], []⟩).values = [] := by
        rcases hb with h | h
        · omega
        · exact List.length_eq_zero_iff.1 (by omega)
      simp only [paramV, h4]
      rw [this]
      simp
    · (refine ⟨_, _, rfl, by simp, ?_⟩; simp only [aTup, AA.get, List.getD_cons_zero, List.getD_cons_succ, true_and])
      have := hb.2
      simp only [paramV, h4]
      rw [decide_eq_true (by omega)]
end Go.Almanac

/- Lines: texts joined, cut, searched; what a parameter must be. -/
namespace Go.Almanac
open Go.RowKit Go.Proofs Go.Abs

set_option linter.unusedSimpArgs false
set_option linter.unusedVariables false
set_option linter.unusedSectionVars false
set_option maxRecDepth 10000

theorem VRE_strs {κ : K} {rd : Nat → Option Value} : ∀ {l : List (List UInt8)} {o : Nat}, VRE κ rd 1 (strsE l) o → ∀ j x, (l.map fun s => (⟨s.toArray⟩ : ByteArray))[j]? = some x → rd (o + j) = some (.string x)
  | [], _, _, j, x, hx => by simp at hx
  | s :: l, o, h, j, x, hx => by
    simp only [strsE, List.map_cons, VRE, VRF, VR] at h
    obtain ⟨_, ⟨⟨v, h1, rfl⟩, _⟩, h2⟩ := h
    cases j with
    | zero => simp at hx; subst hx; simpa using h1
    | succ j =>
      have := VRE_strs (l := l) (o := o + 1) h2 j x (by simpa using hx)
      rw [show o + (j + 1) = o + 1 + j from by omega]; exact this

theorem b_Join (G : Nat → AV) (l : List (List UInt8)) (sep : List UInt8) (hl : l.length ≤ 140737488355328) (hj : (Lib.join l sep).length ≤ 140737488355328) (st : St) :
    ACalls (Ev G) 67 [.tree 1 (strsE l), .str sep] st (fun e st' => st' = st ∧ e = .ret (.str (Lib.join l sep))) := by
  intro κ w cs hR ha
  simp only [VRs] at ha
  obtain ⟨v1, vs1, hcs, h1, v2, vs2, rfl, h2, rfl⟩ := ha
  simp only [VR] at h2
  subst h2
  have fin : ∀ w', Below w.heap.size w w' → upE (Ev G) κ (fun e st' => st' = st ∧ e = .ret (.str (Lib.join l sep))) (.returned (.string ⟨(Lib.join l sep).toArray⟩)) w' := fun w' hb =>
    ⟨κ, .ret (.str (Lib.join l sep)), st, K.Le.refl κ, hR.below hb, ⟨_, rfl, rfl⟩, rfl, rfl⟩
  simp only [VR] at h1
  have hcs' : cs = #[v1, .string ⟨sep.toArray⟩] := Array.toList_inj.1 hcs
  subst hcs'
  have hnone : ∀ a c, v1 = .slice a 0 c → l = [] → CallsIn .wide 0 (Ev G).P 67 #[v1, .string ⟨sep.toArray⟩] w (upE (Ev G) κ fun e st' => st' = st ∧ e = .ret (.str (Lib.join l sep))) := by
    rintro a c rfl rfl
    refine CallsIn.mono (callsIn_wide.2 (Tryd.strings_Join_none a c ⟨sep.toArray⟩ w)) ?_
    rintro e w' ⟨rfl, rfl⟩
    exact fin _ (Below.refl _ _)
  rcases h1 with ⟨h0, h1⟩ | ⟨a, c, h1, h2, h3, h4⟩
  · exact hnone _ _ h1 (strsE_nil.1 h0)
  · rw [strsE_length] at h1 h2
    by_cases hn : l = []
    · exact hnone (some a) c (by rw [h1, hn]; rfl) hn
    · have hsp : a.spot = none := by
        rcases h3 with h3 | h3
        · exact absurd (strsE_nil.1 h3) hn
        · exact h3
      obtain ⟨bk, o, sp⟩ := a
      dsimp only at hsp h4
      subst hsp
      have hcells : ∀ (j : Nat) x, (l.map fun s => (⟨s.toArray⟩ : ByteArray))[j]? = some x → w.cell? ⟨bk, o + j, none⟩ = some (.string x) := fun j x hx => hR.fzw _ _ _ (VRE_strs h4 j x hx)
      have hbk : bk < w.heap.size := by
        cases l with
        | nil => exact absurd rfl hn
        | cons s l =>
          have h5 := hcells 0 _ rfl
          rcases Nat.lt_or_ge bk w.heap.size with h6 | h6
          · exact h6
          · simp [World.cell?, Array.getElem?_eq_none h6] at h5
      have hm : (l.map fun s => (⟨s.toArray⟩ : ByteArray)).map (·.data.toList) = l := by simp [Function.comp_def]
      have := Tryd.strings_Join bk o c (l.map fun s => (⟨s.toArray⟩ : ByteArray)) ⟨sep.toArray⟩ w hcells hbk (by simpa using hl) (by simpa using h2) (by rw [hm]; exact hj)
      rw [hm, List.length_map] at this
      subst h1
      refine CallsIn.mono (callsIn_wide.2 this) ?_
      rintro e w' ⟨rfl, hb⟩
      exact fin _ hb


/-- Is a byte of s among these? -/
def anyOf (s chars : List UInt8) : Bool := s.any chars.contains
theorem containsAny_eq (chars : List UInt8) : ∀ s : List UInt8, Lib.containsAny s chars = anyOf s chars
  | [] => rfl
  | b :: l => by
    have ih := containsAny_eq chars l
    have hg := Lib.indexAny_ge chars l
    have hd : Lib.indexAny (b :: l) chars = if chars.contains b then 0 else if Lib.indexAny l chars == -1 then -1 else Lib.indexAny l chars + 1 := rfl
    simp only [Lib.containsAny, anyOf, List.any_cons] at ih ⊢
    simp only [hd]
    by_cases h : chars.contains b = true
    · have : b ∈ chars := by simpa using h
      simp [this]
    · have h' : chars.contains b = false := by simpa using h
      rw [← ih]
      simp only [h', Bool.false_eq_true, if_false, Bool.false_or]
      split
      · rename_i e; have : Lib.indexAny l chars = -1 := by simpa using e
        rw [this]
      · rename_i e; have : Lib.indexAny l chars ≠ -1 := by simpa using e
        exact decide_eq_decide.2 (by omega)
theorem ascii_of_all {l : List UInt8} (h : l.all (fun c => decide (c.toNat < 128)) = true) : ∀ (j : Nat) b, l[j]? = some b → b.toNat < 128 := fun j b hb => by
  have := List.all_eq_true.1 h b (List.mem_of_getElem? hb)
  simpa using this
/-- ContainsAny answers here as it should. -/
def CA (G : Nat → AV) (s chars : List UInt8) : Prop := ∀ st : St, ACalls (Ev G) 66 [.str s, .str chars] st (fun e st' => st' = st ∧ e = .ret (.bool (anyOf s chars)))
theorem CA_ascii (G : Nat → AV) (s chars : List UInt8) (hs : s.length ≤ 1048576) (hc : chars.length ≤ 1048576) (h1 : s.all (fun c => decide (c.toNat < 128)) = true) (h2 : chars.all (fun c => decide (c.toNat < 128)) = true) : CA G s chars := by
  intro st
  refine ACalls.of_calls (cargs := #[.string ⟨s.toArray⟩, .string ⟨chars.toArray⟩]) (cv := .bool (anyOf s chars)) (fun κ c h => ?_) (fun κ => ?_) fun w => ?_
  · simp only [VRs, VR] at h
    obtain ⟨v1, vs1, e1, rfl, v2, vs2, rfl, rfl, rfl⟩ := h
    rw [e1]
  · simp [VR]
  · rw [← containsAny_eq]
    exact Tryd.strings_ContainsAny_laid ⟨s.toArray⟩ ⟨chars.toArray⟩ w (by show s.toArray.size < _; simp; omega) (by show chars.toArray.size < _; simp; omega) (ascii_of_all h1) (ascii_of_all h2)

theorem b_Cut (m : Int) (s sep : List UInt8) (hs : s.length ≤ 1048576) (st : St) : ACalls (Ev (Gt m)) 71 [.str s, .str sep] st (fun e st' => st' = st ∧ e = .ret (.tup [.str (Lib.cut s sep).1, .str (Lib.cut s sep).2.1, .bool (Lib.cut s sep).2.2])) := by
  refine ACalls.of_callsR (cargs := #[.string ⟨s.toArray⟩, .string ⟨sep.toArray⟩]) (cv := .tuple #[.string ⟨(Lib.cut s sep).1.toArray⟩, .string ⟨(Lib.cut s sep).2.1.toArray⟩, .bool (Lib.cut s sep).2.2]) (fun κ c h => ?_) (fun κ => ?_) fun κ w hR => ?_
  · simp only [VRs, VR] at h
    obtain ⟨v1, vs1, e1, rfl, v2, vs2, rfl, rfl, rfl⟩ := h
    rw [e1]
  · simp [VR, VRs]
  · refine Calls.mono (Tryd.strings_Cut ⟨s.toArray⟩ ⟨sep.toArray⟩ m w (by show s.toArray.size < _; simp; omega) (maxlen_of hR)) ?_
    rintro e w' ⟨rfl, n, rfl⟩
    exact ⟨rfl, ⟨rfl, rfl, rfl, Nat.le_refl _, fun _ _ => rfl⟩⟩
theorem b_TrimSuffix (G : Nat → AV) (s p : List UInt8) (hs : s.length ≤ 1048576) (st : St) : ACalls (Ev G) 72 [.str s, .str p] st (fun e st' => st' = st ∧ e = .ret (.str (Lib.trimSuffix s p))) := by
  refine ACalls.of_calls (cargs := #[.string ⟨s.toArray⟩, .string ⟨p.toArray⟩]) (cv := .string ⟨(Lib.trimSuffix s p).toArray⟩) (fun κ c h => ?_) (fun κ => ?_) fun w => ?_
  · simp only [VRs, VR] at h
    obtain ⟨v1, vs1, e1, rfl, v2, vs2, rfl, rfl, rfl⟩ := h
    rw [e1]
  · simp [VR, VRs]
  · refine Calls.mono (Tryd.strings_TrimSuffix ⟨s.toArray⟩ ⟨p.toArray⟩ w (by show s.toArray.size ≤ _; simp; omega)) ?_
    rintro e w' ⟨rfl, rfl⟩
    exact ⟨rfl, Below.refl _ _⟩

/-- A value that may stand in quotes; what a parameter must not be. -/
def valP (v : List UInt8) : Bool := plainL v [34]
def badP (x : ParamD) : Bool := !isNameL x.name || (decide (x.values.length = 0) || x.values.any (fun v => !valP v))
theorem c_notVal (m : Int) (l : List (List UInt8)) (hl : ∀ s ∈ l, s.length ≤ 4611686018427387904) : TellsS (Gt m) 41 [] l (fun v => !valP v) := by
  intro v hv st
  refine ACalls.of_body Tryd.func41 rfl ?_
  rw [Tryd.ntmps41]
  simp only [List.length_cons, List.length_nil, Nat.reduceAdd, Nat.reduceSub, List.replicate_succ, List.replicate_zero, List.cons_append, List.nil_append]
  (repeat' (first | refine AW.seq ?_ | refine AW.scope ?_ | refine AW.label ?_ | refine AW.block ?_ | refine AW.skip ?_ | refine AW.exit ?_ | refine AW.ret ?_ | (refine AW.regionC fun Q' Kn hQ hK hK' => ?_; (repeat simp (disch := omega) only [go_sem, redN, Nat.reduceAdd, Int.reduceToNat, Int.reducePow]); (repeat' refine And.intro ?_ ?_); (try any_goals (first | (refine hK _ _ ?_; clear hK' hQ hK Q' Kn) | (intro hq9; refine ⟨hq9, ?_⟩; simp only [redB] at hq9; omega) | (intro hq9; refine ⟨hq9, fun hq8 => ?_⟩; rw [hq9, hq8]; rfl) | (simp; done) | omega | (simp only [redL]; omega) | (simp; omega) | (intros; (repeat' refine And.intro ?_ ?_) <;> (first | assumption | omega | (simp; done)))))) | (refine AW.cond (by simp (disch := omega) only [go_sem, redN, Nat.reduceAdd, Int.reduceToNat, Int.reducePow]; rfl) (fun hb => ?_) (fun hb => ?_) <;> (try simp only [redB] at hb))))
  refine AOp.call rfl (by simp only [go_sem]; rfl) (by simp [go_sem]) rfl (ACalls.mono (by simp only [go_sem]; exact t_plain2 m v [34] (hl v hv) _) ?_)
  rintro e st' ⟨rfl, rfl⟩
  (refine AOpsC_ok hK' _ _ _ ?_; (repeat simp (disch := omega) only [go_sem, redN, Nat.reduceAdd, Int.reduceToNat, Int.reducePow]); (repeat' refine And.intro ?_ ?_); (try any_goals (first | (refine hK _ _ ?_; clear hK' hQ hK Q' Kn) | (intro hq9; refine ⟨hq9, ?_⟩; simp only [redB] at hq9; omega) | (intro hq9; refine ⟨hq9, fun hq8 => ?_⟩; rw [hq9, hq8]; rfl) | (simp; done) | omega | (simp only [redL]; omega) | (simp; omega) | (intros; (repeat' refine And.intro ?_ ?_) <;> (first | assumption | omega | (simp; done))))))
  (repeat' (first | refine AW.seq ?_ | refine AW.scope ?_ | refine AW.label ?_ | refine AW.block ?_ | refine AW.skip ?_ | refine AW.exit ?_ | refine AW.ret ?_ | (refine AW.regionC fun Q' Kn hQ hK hK' => ?_; (repeat simp (disch := omega) only [go_sem, redN, Nat.reduceAdd, Int.reduceToNat, Int.reducePow]); (repeat' refine And.intro ?_ ?_); (try any_goals (first | (refine hK _ _ ?_; clear hK' hQ hK Q' Kn) | (intro hq9; refine ⟨hq9, ?_⟩; simp only [redB] at hq9; omega) | (intro hq9; refine ⟨hq9, fun hq8 => ?_⟩; rw [hq9, hq8]; rfl) | (simp; done) | omega | (simp only [redL]; omega) | (simp; omega) | (intros; (repeat' refine And.intro ?_ ?_) <;> (first | assumption | omega | (simp; done)))))) | (refine AW.cond (by simp (disch := omega) only [go_sem, redN, Nat.reduceAdd, Int.reduceToNat, Int.reducePow]; rfl) (fun hb => ?_) (fun hb => ?_) <;> (try simp only [redB] at hb))))
  (refine ⟨_, _, rfl, by simp, ?_⟩; simp only [aTup, AA.get, List.getD_cons_zero, List.getD_cons_succ, true_and])
  rfl
/-- What is told has bounds that no text passes. -/
structure ParamOk (x : ParamD) : Prop where
  name : x.name.length ≤ 1048576
  count : x.values.length ≤ 1048576
  values : ∀ v ∈ x.values, v.length ≤ 1048576
theorem c_bad (m : Int) (l : List ParamD) (hl : ∀ x ∈ l, ParamOk x) : TellsP (Gt m) 38 [] l badP := by
  intro x hx st
  have ho := hl x hx
  have h1 := ho.name
  have h2 := ho.count
  refine ACalls.of_body Tryd.func38 rfl ?_
  rw [Tryd.ntmps38]
  simp only [List.length_cons, List.length_nil, Nat.reduceAdd, Nat.reduceSub, List.replicate_succ, List.replicate_zero, List.cons_append, List.nil_append]
  (repeat' (first | refine AW.seq ?_ | refine AW.scope ?_ | refine AW.label ?_ | refine AW.block ?_ | refine AW.skip ?_ | refine AW.exit ?_ | refine AW.ret ?_))
  refine AW.regionC fun Q' Kn hQ hK hK' => ?_
  simp (disch := omega) only [go_sem, redN, Nat.reduceAdd, Int.reduceToNat, Int.reducePow]
  refine AOp.box rfl (by simp [go_sem]) (by simp only [go_sem]; rfl) fun b hb0 => ?_
  (refine AOpsC_ok hK' _ _ _ ?_; (repeat simp (disch := omega) only [go_sem, redN, Nat.reduceAdd, Int.reduceToNat, Int.reducePow]); (repeat' refine And.intro ?_ ?_); (try any_goals (first | (refine hK _ _ ?_; clear hK' hQ hK Q' Kn) | (intro hq9; refine ⟨hq9, ?_⟩; simp only [redB] at hq9; omega) | (intro hq9; refine ⟨hq9, fun hq8 => ?_⟩; rw [hq9, hq8]; rfl) | (simp; done) | omega | (simp only [redL]; omega) | (simp; omega) | (intros; (repeat' refine And.intro ?_ ?_) <;> (first | assumption | omega | (simp; done))))))
  refine AW.freeze 1 rfl (St.set_same _ _ _) ?_
  rw [St.del_set _ _ hb0]
  (repeat' (first | refine AW.seq ?_ | refine AW.scope ?_ | refine AW.label ?_ | refine AW.block ?_ | refine AW.skip ?_ | refine AW.exit ?_ | refine AW.ret ?_ | (refine AW.regionC fun Q' Kn hQ hK hK' => ?_; (repeat simp (disch := omega) only [go_sem, redN, Nat.reduceAdd, Int.reduceToNat, Int.reducePow]); (repeat' refine And.intro ?_ ?_); (try any_goals (first | (refine hK _ _ ?_; clear hK' hQ hK Q' Kn) | (intro hq9; refine ⟨hq9, ?_⟩; simp only [redB] at hq9; omega) | (intro hq9; refine ⟨hq9, fun hq8 => ?_⟩; rw [hq9, hq8]; rfl) | (simp; done) | omega | (simp only [redL]; omega) | (simp; omega) | (intros; (repeat' refine And.intro ?_ ?_) <;> (first | assumption | omega | (simp; done)))))) | (refine AW.cond (by simp (disch := omega) only [go_sem, redN, Nat.reduceAdd, Int.reduceToNat, Int.reducePow]; rfl) (fun hb => ?_) (fun hb => ?_) <;> (try simp only [redB] at hb))))
  refine AOp.call rfl (by simp only [go_sem]; rfl) (by simp [go_sem]) rfl (ACalls.mono (by simp only [go_sem]; exact t_isName (Gt m) x.name (by omega) _) ?_)
  rintro e st' ⟨rfl, rfl⟩
  (refine AOpsC_ok hK' _ _ _ ?_; (repeat simp (disch := omega) only [go_sem, redN, Nat.reduceAdd, Int.reduceToNat, Int.reducePow]); (repeat' refine And.intro ?_ ?_); (try any_goals (first | (refine hK _ _ ?_; clear hK' hQ hK Q' Kn) | (intro hq9; refine ⟨hq9, ?_⟩; simp only [redB] at hq9; omega) | (intro hq9; refine ⟨hq9, fun hq8 => ?_⟩; rw [hq9, hq8]; rfl) | (simp; done) | omega | (simp only [redL]; omega) | (simp; omega) | (intros; (repeat' refine And.intro ?_ ?_) <;> (first | assumption | omega | (simp; done))))))
  (repeat' (first | refine AW.seq ?_ | refine AW.scope ?_ | refine AW.label ?_ | refine AW.block ?_ | refine AW.skip ?_ | refine AW.exit ?_ | refine AW.ret ?_ | (refine AW.regionC fun Q' Kn hQ hK hK' => ?_; (repeat simp (disch := omega) only [go_sem, redN, Nat.reduceAdd, Int.reduceToNat, Int.reducePow]); (repeat' refine And.intro ?_ ?_); (try any_goals (first | (refine hK _ _ ?_; clear hK' hQ hK Q' Kn) | (intro hq9; refine ⟨hq9, ?_⟩; simp only [redB] at hq9; omega) | (intro hq9; refine ⟨hq9, fun hq8 => ?_⟩; rw [hq9, hq8]; rfl) | (simp; done) | omega | (simp only [redL]; omega) | (simp; omega) | (intros; (repeat' refine And.intro ?_ ?_) <;> (first | assumption | omega | (simp; done)))))) | (refine AW.cond (by simp (disch := omega) only [go_sem, redN, Nat.reduceAdd, Int.reduceToNat, Int.reducePow]; rfl) (fun hb => ?_) (fun hb => ?_) <;> (try simp only [redB] at hb))))
  refine AOps.guard_call (f := 40) (v := .bool (x.values.any (fun v => !valP v))) rfl rfl rfl rfl rfl (fun _ => (by simp only [go_sem] <;> rfl)) (fun h => by first | (simp [go_sem]; done) | simpa [go_sem] using h) rfl (fun hg => by simp only [go_sem]; exact b_ContainsFuncS (Gt m) _ _ x.values _ rfl (c_notVal m _ (fun s hs => by have := ho.values s hs; omega)) (by omega) _) ?_
  (refine AOpsC_ok hK' _ _ _ ?_; (repeat simp (disch := omega) only [go_sem, redN, Nat.reduceAdd, Int.reduceToNat, Int.reducePow]); (repeat' refine And.intro ?_ ?_); (try any_goals (first | (refine hK _ _ ?_; clear hK' hQ hK Q' Kn) | (intro hq9; refine ⟨hq9, ?_⟩; simp only [redB] at hq9; omega) | (intro hq9; refine ⟨hq9, fun hq8 => ?_⟩; rw [hq9, hq8]; rfl) | (simp; done) | omega | (simp only [redL]; omega) | (simp; omega) | (intros; (repeat' refine And.intro ?_ ?_) <;> (first | assumption | omega | (simp; done))))))
  (repeat' (first | refine AW.seq ?_ | refine AW.scope ?_ | refine AW.label ?_ | refine AW.block ?_ | refine AW.skip ?_ | refine AW.exit ?_ | refine AW.ret ?_ | (refine AW.regionC fun Q' Kn hQ hK hK' => ?_; (repeat simp (disch := omega) only [go_sem, redN, Nat.reduceAdd, Int.reduceToNat, Int.reducePow]); (repeat' refine And.intro ?_ ?_); (try any_goals (first | (refine hK _ _ ?_; clear hK' hQ hK Q' Kn) | (intro hq9; refine ⟨hq9, ?_⟩; simp only [redB] at hq9; omega) | (intro hq9; refine ⟨hq9, fun hq8 => ?_⟩; rw [hq9, hq8]; rfl) | (simp; done) | omega | (simp only [redL]; omega) | (simp; omega) | (intros; (repeat' refine And.intro ?_ ?_) <;> (first | assumption | omega | (simp; done)))))) | (refine AW.cond (by simp (disch := omega) only [go_sem, redN, Nat.reduceAdd, Int.reduceToNat, Int.reducePow]; rfl) (fun hb => ?_) (fun hb => ?_) <;> (try simp only [redB] at hb))))
  (refine ⟨_, _, rfl, by simp, ?_⟩; simp only [aTup, AA.get, List.getD_cons_zero, List.getD_cons_succ, true_and])
  rw [badP, show ((x.values.length : Int) == 0) = decide (x.values.length = 0) from by rw [Bool.eq_iff_iff]; simp, Bool.or_assoc]
end Go.Almanac

/- Lines: a property is written. -/
namespace Go.Almanac
open Go.RowKit Go.Proofs Go.Abs

set_option linter.unusedSimpArgs false
set_option linter.unusedVariables false
set_option linter.unusedSectionVars false
set_option maxRecDepth 10000

def needsQ (v : List UInt8) : Bool := anyOf v [44, 59, 58]
def quoteV (v : List UInt8) : List UInt8 := if needsQ v = true then 34 :: (v ++ [34]) else v
def paramW (x : ParamD) : List UInt8 := 59 :: (x.name ++ 61 :: Lib.join (x.values.map quoteV) [44])
def writtenTo (p : PropD) (k : Nat) : List UInt8 := p.name ++ ((p.params.take k).map paramW).flatten
def writtenL (p : PropD) : List UInt8 := p.name ++ ((p.params.map paramW).flatten ++ 58 :: p.value)

theorem writtenTo_succ {p : PropD} {k : Nat} (h : k < p.params.length) : writtenTo p (k + 1) = writtenTo p k ++ paramW (p.params.getD k ⟨[], []⟩) := by
  simp only [writtenTo]
  rw [List.take_succ_eq_append_getElem h]
  simp only [List.map_append, List.flatten_append, List.append_assoc, List.map_cons, List.map_nil, List.flatten_cons, List.flatten_nil, List.append_nil, List.getD, List.getElem?_eq_getElem h, Option.getD_some]
theorem writtenTo_le (p : PropD) (k : Nat) : (writtenTo p k).length ≤ (writtenL p).length := by
  have h : ((p.params.take k).map paramW).flatten.length ≤ (p.params.map paramW).flatten.length := by
    have : (p.params.map paramW).flatten = ((p.params.take k).map paramW).flatten ++ ((p.params.drop k).map paramW).flatten := by rw [← List.flatten_append, ← List.map_append, List.take_append_drop]
    rw [this, List.length_append]; omega
  simp only [writtenTo, writtenL, List.length_append]
  omega
theorem quotes_succ {l : List (List UInt8)} {i : Nat} (h : i < l.length) : strsE ((l.take i).map quoteV) ++ [[.str (quoteV (l.getD i []))]] = strsE ((l.take (i + 1)).map quoteV) := by
  rw [List.take_succ_eq_append_getElem h]
  simp only [strsE, List.map_append, List.map_cons, List.map_nil, List.getD, List.getElem?_eq_getElem h, Option.getD_some]
theorem writtenL_eq (p : PropD) : writtenTo p p.params.length ++ 58 :: p.value = writtenL p := by
  simp [writtenTo, writtenL]

theorem t_written (G : Nat → AV) (p : PropD) (hc : p.params.length ≤ 1048576) (ho : ∀ x ∈ p.params, ParamOk x) (hCA : ∀ x ∈ p.params, ∀ v ∈ x.values, CA G v [44, 59, 58]) (hT : (writtenL p).length ≤ 1073741824) (st : St) :
    ACalls (Ev G) 43 [.agg (encProp p)] st (fun e st' => st' = st ∧ e = .ret (.str (writtenL p))) := by
  have hval : p.value.length ≤ 1073741824 := by simp [writtenL] at hT; omega
  refine ACalls.of_body Tryd.func43 rfl ?_
  rw [Tryd.ntmps43]
  simp only [List.length_cons, List.length_nil, Nat.reduceAdd, Nat.reduceSub, List.replicate_succ, List.replicate_zero, List.cons_append, List.nil_append]
  (repeat' (first | refine AW.seq ?_ | refine AW.scope ?_ | refine AW.label ?_ | refine AW.block ?_ | refine AW.skip ?_ | refine AW.exit ?_ | refine AW.ret ?_))
  refine AW.regionC fun Q' Kn hQ hK hK' => ?_
  simp (disch := omega) only [go_sem, redN, Nat.reduceAdd, Int.reduceToNat, Int.reducePow]
  refine AOp.box rfl (by simp [go_sem]) (by simp only [go_sem]; rfl) fun b hb0 => ?_
  (refine AOpsC_ok hK' _ _ _ ?_; (repeat simp (disch := omega) only [go_sem, redN, Nat.reduceAdd, Int.reduceToNat, Int.reducePow]); (repeat' refine And.intro ?_ ?_); (try any_goals (first | (refine hK _ _ ?_; clear hK' hQ hK Q' Kn) | (intro hq9; refine ⟨hq9, ?_⟩; simp only [redB] at hq9; omega) | (intro hq9; refine ⟨hq9, fun hq8 => ?_⟩; rw [hq9, hq8]; rfl) | (simp; done) | omega | (simp only [redL]; omega) | (simp; omega) | (intros; (repeat' refine And.intro ?_ ?_) <;> (first | assumption | omega | (simp; done))))))
  refine AW.freeze 1 rfl (St.set_same _ _ _) ?_
  rw [St.del_set _ _ hb0]
  simp only [encProp]
  (repeat' (first | refine AW.seq ?_ | refine AW.scope ?_ | refine AW.label ?_ | refine AW.block ?_ | refine AW.skip ?_ | refine AW.exit ?_ | refine AW.ret ?_ | (refine AW.regionC fun Q' Kn hQ hK hK' => ?_; (repeat simp (disch := omega) only [go_sem, redN, Nat.reduceAdd, Int.reduceToNat, Int.reducePow]); (repeat' refine And.intro ?_ ?_); (try any_goals (first | (refine hK _ _ ?_; clear hK' hQ hK Q' Kn) | (intro hq9; refine ⟨hq9, ?_⟩; simp only [redB] at hq9; omega) | (intro hq9; refine ⟨hq9, fun hq8 => ?_⟩; rw [hq9, hq8]; rfl) | (simp; done) | omega | (simp only [redL]; omega) | (simp; omega) | (intros; (repeat' refine And.intro ?_ ?_) <;> (first | assumption | omega | (simp; done)))))) | (refine AW.cond (by simp (disch := omega) only [go_sem, redN, Nat.reduceAdd, Int.reduceToNat, Int.reducePow]; rfl) (fun hb => ?_) (fun hb => ?_) <;> (try simp only [redB] at hb))))
  refine AW.loopF (fun k : Nat => [.junk, .fptr [.str p.name, .tree 2 (paramsE p.params), .str p.value], .junk, .str (writtenTo p k), .junk, .junk, .junk, .junk, .junk, .junk, .junk, .junk, .tree 2 (paramsE p.params), .int .i64 p.params.length, .int .i64 k, .junk, .junk, .junk, .junk, .junk, .junk, .junk, .junk, .junk, .junk, .junk, .junk, .junk, .junk, .junk, .junk, .junk, .junk, .junk, .junk, .junk, .junk, .junk, .junk, .junk, .junk, .junk, .junk, .junk, .junk, .junk, .junk, .junk, .junk, .junk]) (fun _ => st)
    (fun k => k ≤ p.params.length) (fun k => p.params.length - k) 0 ?_ rfl ?_ ?_
  · rw [show writtenTo p 0 = p.name from by simp [writtenTo]]
    (repeat (first | exact Weak.nil | refine Weak.junk _ ?_ | refine Weak.same _ ?_ | refine Weak.eqv (by (congr 1; first | omega | (simp; done) | exact w_i64 (by omega) (by omega))) ?_))
  · simp
  intro k hk
  have hwk := writtenTo_le p k
  (repeat' (first | refine AW.seq ?_ | refine AW.scope ?_ | refine AW.label ?_ | refine AW.block ?_ | refine AW.skip ?_ | refine AW.exit ?_ | refine AW.ret ?_ | (refine AW.regionC fun Q' Kn hQ hK hK' => ?_; (repeat simp (disch := omega) only [go_sem, redN, Nat.reduceAdd, Int.reduceToNat, Int.reducePow]); (repeat' refine And.intro ?_ ?_); (try any_goals (first | (refine hK _ _ ?_; clear hK' hQ hK Q' Kn) | (intro hq9; refine ⟨hq9, ?_⟩; simp only [redB] at hq9; omega) | (intro hq9; refine ⟨hq9, fun hq8 => ?_⟩; rw [hq9, hq8]; rfl) | (simp; done) | omega | (simp only [redL]; omega) | (simp; omega) | (intros; (repeat' refine And.intro ?_ ?_) <;> (first | assumption | omega | (simp; done)))))) | (refine AW.cond (by simp (disch := omega) only [go_sem, redN, Nat.reduceAdd, Int.reduceToNat, Int.reducePow]; rfl) (fun hb => ?_) (fun hb => ?_) <;> (try simp only [redB] at hb))))
  · have hkl : k < p.params.length := by omega
    have hx := ho _ (getD_mem (d := (⟨[], []⟩ : ParamD)) hkl)
    have hxA := hCA _ (getD_mem (d := (⟨[], []⟩ : ParamD)) hkl)
    have hw1 := writtenTo_le p (k + 1)
    rw [writtenTo_succ hkl] at hw1
    have hsucc := writtenTo_succ hkl
    generalize p.params.getD k ⟨[], []⟩ = x at *
    have x1 := hx.name
    have x2 := hx.count
    refine AOp.alloc rfl (by simp only [go_sem]; rfl) fun bx hbx => ?_
    (refine AOpsC_ok hK' _ _ _ ?_; (repeat simp (disch := omega) only [go_sem, redN, Nat.reduceAdd, Int.reduceToNat, Int.reducePow]); (repeat' refine And.intro ?_ ?_); (try any_goals (first | (refine hK _ _ ?_; clear hK' hQ hK Q' Kn) | (intro hq9; refine ⟨hq9, ?_⟩; simp only [redB] at hq9; omega) | (intro hq9; refine ⟨hq9, fun hq8 => ?_⟩; rw [hq9, hq8]; rfl) | (simp; done) | omega | (simp only [redL]; omega) | (simp; omega) | (intros; (repeat' refine And.intro ?_ ?_) <;> (first | assumption | omega | (simp; done))))))
    refine AOp.storeAll (cs := [.str x.name, .tree 1 (strsE x.values)]) rfl (by simp only [go_sem] <;> rfl) (by simp [go_sem]) (St.set_same _ _ _) (by first | (simp only [go_sem]; done) | (simp [go_sem]; done) | (simp [go_sem]; omega)) (by simp [go_sem, isCell]) rfl rfl rfl ?_
    (refine AOpsC_ok hK' _ _ _ ?_; (repeat simp (disch := omega) only [go_sem, redN, Nat.reduceAdd, Int.reduceToNat, Int.reducePow]); (repeat' refine And.intro ?_ ?_); (try any_goals (first | (refine hK _ _ ?_; clear hK' hQ hK Q' Kn) | (intro hq9; refine ⟨hq9, ?_⟩; simp only [redB] at hq9; omega) | (intro hq9; refine ⟨hq9, fun hq8 => ?_⟩; rw [hq9, hq8]; rfl) | (simp; done) | omega | (simp only [redL]; omega) | (simp; omega) | (intros; (repeat' refine And.intro ?_ ?_) <;> (first | assumption | omega | (simp; done))))))
    refine AW.freeze 5 rfl (St.set_same _ _ _) ?_
    rw [St.set_set, St.del_set _ _ hbx]
    (repeat' (first | refine AW.seq ?_ | refine AW.scope ?_ | refine AW.label ?_ | refine AW.block ?_ | refine AW.skip ?_ | refine AW.exit ?_ | refine AW.ret ?_ | (refine AW.regionC fun Q' Kn hQ hK hK' => ?_; (repeat simp (disch := omega) only [go_sem, redN, Nat.reduceAdd, Int.reduceToNat, Int.reducePow]); (repeat' refine And.intro ?_ ?_); (try any_goals (first | (refine hK _ _ ?_; clear hK' hQ hK Q' Kn) | (intro hq9; refine ⟨hq9, ?_⟩; simp only [redB] at hq9; omega) | (intro hq9; refine ⟨hq9, fun hq8 => ?_⟩; rw [hq9, hq8]; rfl) | (simp; done) | omega | (simp only [redL]; omega) | (simp; omega) | (intros; (repeat' refine And.intro ?_ ?_) <;> (first | assumption | omega | (simp; done)))))) | (refine AW.cond (by simp (disch := omega) only [go_sem, redN, Nat.reduceAdd, Int.reduceToNat, Int.reducePow]; rfl) (fun hb => ?_) (fun hb => ?_) <;> (try simp only [redB] at hb))))
    refine AW.loopF (fun y : Nat × AV × St => [.junk, .fptr [.str p.name, .tree 2 (paramsE p.params), .str p.value], .junk, .str (writtenTo p k), .junk, .fptr [.str x.name, .tree 1 (strsE x.values)], y.2.1, .junk, .junk, .junk, .junk, .junk, .tree 2 (paramsE p.params), .int .i64 p.params.length, .int .i64 k, .junk, .junk, .junk, .junk, .tree 1 (strsE x.values), .int .i64 x.values.length, .int .i64 y.1, .junk, .junk, .junk, .junk, .junk, .junk, .junk, .junk, .junk, .junk, .junk, .junk, .junk, .junk, .junk, .junk, .junk, .junk, .junk, .junk, .junk, .junk, .junk, .junk, .junk, .junk, .junk, .junk]) (fun y => y.2.2)
      (fun y => y.1 ≤ x.values.length ∧ SW st 9 1 y.2.1 y.2.2 (strsE ((x.values.take y.1).map quoteV))) (fun y => x.values.length - y.1) (0, .nils, st) ?_ rfl ?_ ?_
    · (repeat (first | exact Weak.nil | refine Weak.junk _ ?_ | refine Weak.same _ ?_ | refine Weak.eqv (by (congr 1; first | omega | (simp; done) | exact w_i64 (by omega) (by omega))) ?_))
    · exact ⟨by simp, by simpa [strsE] using SW.new st 9 1⟩
    rintro ⟨i, v, σ⟩ ⟨g1, g2⟩
    dsimp only at g1 g2 ⊢
    (repeat' (first | refine AW.seq ?_ | refine AW.scope ?_ | refine AW.label ?_ | refine AW.block ?_ | refine AW.skip ?_ | refine AW.exit ?_ | refine AW.ret ?_ | (refine AW.regionC fun Q' Kn hQ hK hK' => ?_; (repeat simp (disch := omega) only [go_sem, redN, Nat.reduceAdd, Int.reduceToNat, Int.reducePow]); (repeat' refine And.intro ?_ ?_); (try any_goals (first | (refine hK _ _ ?_; clear hK' hQ hK Q' Kn) | (intro hq9; refine ⟨hq9, ?_⟩; simp only [redB] at hq9; omega) | (intro hq9; refine ⟨hq9, fun hq8 => ?_⟩; rw [hq9, hq8]; rfl) | (simp; done) | omega | (simp only [redL]; omega) | (simp; omega) | (intros; (repeat' refine And.intro ?_ ?_) <;> (first | assumption | omega | (simp; done)))))) | (refine AW.cond (by simp (disch := omega) only [go_sem, redN, Nat.reduceAdd, Int.reduceToNat, Int.reducePow]; rfl) (fun hb => ?_) (fun hb => ?_) <;> (try simp only [redB] at hb))))
    · have hil : i < x.values.length := by omega
      have hv := hx.values _ (getD_mem (d := []) hil)
      have hvA := hxA _ (getD_mem (d := []) hil)
      have hqs := quotes_succ hil
      generalize x.values.getD i [] = u at *
      refine AOp.call rfl (by simp only [go_sem]; rfl) (by simp [go_sem]) rfl (ACalls.mono (by simp only [go_sem]; exact hvA _) ?_)
      rintro e st' ⟨rfl, rfl⟩
      (refine AOpsC_ok hK' _ _ _ ?_; (repeat simp (disch := omega) only [go_sem, redN, Nat.reduceAdd, Int.reduceToNat, Int.reducePow]); (repeat' refine And.intro ?_ ?_); (try any_goals (first | (refine hK _ _ ?_; clear hK' hQ hK Q' Kn) | (intro hq9; refine ⟨hq9, ?_⟩; simp only [redB] at hq9; omega) | (intro hq9; refine ⟨hq9, fun hq8 => ?_⟩; rw [hq9, hq8]; rfl) | (simp; done) | omega | (simp only [redL]; omega) | (simp; omega) | (intros; (repeat' refine And.intro ?_ ?_) <;> (first | assumption | omega | (simp; done))))))
      (repeat' (first | refine AW.seq ?_ | refine AW.scope ?_ | refine AW.label ?_ | refine AW.block ?_ | refine AW.skip ?_ | refine AW.exit ?_ | refine AW.ret ?_))
      refine AW.cut [.junk, .fptr [.str p.name, .tree 2 (paramsE p.params), .str p.value], .junk, .str (writtenTo p k), .junk, .fptr [.str x.name, .tree 1 (strsE x.values)], v, .junk, .str (quoteV u), .junk, .junk, .junk, .tree 2 (paramsE p.params), .int .i64 p.params.length, .int .i64 k, .junk, .junk, .junk, .junk, .tree 1 (strsE x.values), .int .i64 x.values.length, .int .i64 i, .junk, .junk, .junk, .junk, .junk, .junk, .junk, .junk, .junk, .junk, .junk, .junk, .junk, .junk, .junk, .junk, .junk, .junk, .junk, .junk, .junk, .junk, .junk, .junk, .junk, .junk, .junk, .junk] ?_ ?_
      · (refine AW.cond (by simp (disch := omega) only [go_sem, redN, Nat.reduceAdd, Int.reduceToNat, Int.reducePow]; rfl) (fun hb => ?_) (fun hb => ?_) <;> (try simp only [redB] at hb))
        · (repeat' (first | refine AW.seq ?_ | refine AW.scope ?_ | refine AW.label ?_ | refine AW.block ?_ | refine AW.skip ?_ | refine AW.exit ?_ | refine AW.ret ?_))
          (refine AW.regionC fun Q' Kn hQ hK hK' => ?_; (repeat simp (disch := omega) only [go_sem, redN, Nat.reduceAdd, Int.reduceToNat, Int.reducePow]); (repeat' refine And.intro ?_ ?_); (try any_goals (first | (refine hK _ _ ?_; clear hK' hQ hK Q' Kn) | (intro hq9; refine ⟨hq9, ?_⟩; simp only [redB] at hq9; omega) | (intro hq9; refine ⟨hq9, fun hq8 => ?_⟩; rw [hq9, hq8]; rfl) | (simp; done) | omega | (simp only [redL]; omega) | (simp; omega) | (intros; (repeat' refine And.intro ?_ ?_) <;> (first | assumption | omega | (simp; done))))))
          refine ⟨rfl, ?_, rfl, rfl⟩
          rw [show quoteV u = 34 :: (u ++ [34]) from by rw [quoteV, if_pos (by simpa [needsQ] using hb)]]
          (repeat (first | exact Weak.nil | refine Weak.junk _ ?_ | refine Weak.same _ ?_ | refine Weak.eqv (by (congr 1; first | omega | (simp; done) | exact w_i64 (by omega) (by omega))) ?_))
        · (repeat' (first | refine AW.seq ?_ | refine AW.scope ?_ | refine AW.label ?_ | refine AW.block ?_ | refine AW.skip ?_ | refine AW.exit ?_ | refine AW.ret ?_))
          refine ⟨rfl, ?_, rfl, rfl⟩
          rw [show quoteV u = u from by rw [quoteV, if_neg (by simpa [needsQ] using hb)]]
          (repeat (first | exact Weak.nil | refine Weak.junk _ ?_ | refine Weak.same _ ?_ | refine Weak.eqv (by (congr 1; first | omega | (simp; done) | exact w_i64 (by omega) (by omega))) ?_))
      · rcases g2.own with ⟨rfl, _⟩ | ⟨_, _, rfl, _⟩
        all_goals
          try rw [strsE_length] at g2
          (repeat' (first | refine AW.seq ?_ | refine AW.scope ?_ | refine AW.label ?_ | refine AW.block ?_ | refine AW.skip ?_ | refine AW.exit ?_ | refine AW.ret ?_ | (refine AW.regionC fun Q' Kn hQ hK hK' => ?_; (repeat simp (disch := omega) only [go_sem, redN, Nat.reduceAdd, Int.reduceToNat, Int.reducePow]); (repeat' refine And.intro ?_ ?_); (try any_goals (first | (refine hK _ _ ?_; clear hK' hQ hK Q' Kn) | (intro hq9; refine ⟨hq9, ?_⟩; simp only [redB] at hq9; omega) | (intro hq9; refine ⟨hq9, fun hq8 => ?_⟩; rw [hq9, hq8]; rfl) | (simp; done) | omega | (simp only [redL]; omega) | (simp; omega) | (intros; (repeat' refine And.intro ?_ ?_) <;> (first | assumption | omega | (simp; done)))))) | (refine AW.cond (by simp (disch := omega) only [go_sem, redN, Nat.reduceAdd, Int.reduceToNat, Int.reducePow]; rfl) (fun hb => ?_) (fun hb => ?_) <;> (try simp only [redB] at hb))))
          refine AOp.buildSlice (e := 9) (sz := 1) (es := [[.str (quoteV u)]]) rfl rfl rfl rfl (by simp [partsC, go_sem]) (by simp [aParts, go_sem]) (by simp) rfl (by decide) (by decide) fun it hit => ?_
          (refine AOpsC_ok hK' _ _ _ ?_; (repeat simp (disch := omega) only [go_sem, redN, Nat.reduceAdd, Int.reduceToNat, Int.reducePow]); (repeat' refine And.intro ?_ ?_); (try any_goals (first | (refine hK _ _ ?_; clear hK' hQ hK Q' Kn) | (intro hq9; refine ⟨hq9, ?_⟩; simp only [redB] at hq9; omega) | (intro hq9; refine ⟨hq9, fun hq8 => ?_⟩; rw [hq9, hq8]; rfl) | (simp; done) | omega | (simp only [redL]; omega) | (simp; omega) | (intros; (repeat' refine And.intro ?_ ?_) <;> (first | assumption | omega | (simp; done))))))
          refine AOp.appendE (e := 9) (sz := 1) (by_ := 16) rfl rfl rfl rfl rfl rfl rfl (by decide) g2 hit rfl (by simp [isCell]) (by simp; omega) (by simp [maxLen]; omega) (by simp) fun v' σ' h3 => ?_
          (refine AOpsC_ok hK' _ _ _ ?_; (repeat simp (disch := omega) only [go_sem, redN, Nat.reduceAdd, Int.reduceToNat, Int.reducePow]); (repeat' refine And.intro ?_ ?_); (try any_goals (first | (refine hK _ _ ?_; clear hK' hQ hK Q' Kn) | (intro hq9; refine ⟨hq9, ?_⟩; simp only [redB] at hq9; omega) | (intro hq9; refine ⟨hq9, fun hq8 => ?_⟩; rw [hq9, hq8]; rfl) | (simp; done) | omega | (simp only [redL]; omega) | (simp; omega) | (intros; (repeat' refine And.intro ?_ ?_) <;> (first | assumption | omega | (simp; done))))))
          (repeat' (first | refine AW.seq ?_ | refine AW.scope ?_ | refine AW.label ?_ | refine AW.block ?_ | refine AW.skip ?_ | refine AW.exit ?_ | refine AW.ret ?_ | (refine AW.regionC fun Q' Kn hQ hK hK' => ?_; (repeat simp (disch := omega) only [go_sem, redN, Nat.reduceAdd, Int.reduceToNat, Int.reducePow]); (repeat' refine And.intro ?_ ?_); (try any_goals (first | (refine hK _ _ ?_; clear hK' hQ hK Q' Kn) | (intro hq9; refine ⟨hq9, ?_⟩; simp only [redB] at hq9; omega) | (intro hq9; refine ⟨hq9, fun hq8 => ?_⟩; rw [hq9, hq8]; rfl) | (simp; done) | omega | (simp only [redL]; omega) | (simp; omega) | (intros; (repeat' refine And.intro ?_ ?_) <;> (first | assumption | omega | (simp; done)))))) | (refine AW.cond (by simp (disch := omega) only [go_sem, redN, Nat.reduceAdd, Int.reduceToNat, Int.reducePow]; rfl) (fun hb => ?_) (fun hb => ?_) <;> (try simp only [redB] at hb))))
          rw [hqs] at h3
          refine ⟨(i + 1, v', σ'), ⟨by dsimp only; omega, h3⟩, by dsimp only; omega, ?_, rfl, rfl⟩
          (repeat (first | exact Weak.nil | refine Weak.junk _ ?_ | refine Weak.same _ ?_ | refine Weak.eqv (by (congr 1; first | omega | (simp; done) | exact w_i64 (by omega) (by omega))) ?_))
    · refine AW.settleT 6 rfl g2 (by intro e he c hc; rfl) ?_
      have hj : (paramW x).length = 2 + x.name.length + (Lib.join (x.values.map quoteV) [44]).length := by simp [paramW]; omega
      rw [List.length_append] at hw1
      rw [List.take_of_length_le (by omega)]
      refine AW.drawn (List.range 10) (by decide +kernel) fun Q' Kn hQ hK hK' => ?_
      refine FxC_ok _ _ _ ?_; (repeat simp (disch := omega) only [go_sem, redN, Nat.reduceAdd, Int.reduceToNat, Int.reducePow]); (repeat' refine And.intro ?_ ?_); (try any_goals (first | (refine hK _ _ ?_; clear hK' hQ hK Q' Kn) | (intro hq9; refine ⟨hq9, ?_⟩; simp only [redB] at hq9; omega) | (intro hq9; refine ⟨hq9, fun hq8 => ?_⟩; rw [hq9, hq8]; rfl) | (simp; done) | omega | (simp only [redL]; omega) | (simp; omega) | (intros; (repeat' refine And.intro ?_ ?_) <;> (first | assumption | omega | (simp; done)))))
      refine ⟨_, Fixed.call (f := 67) (v := .str (Lib.join (x.values.map quoteV) [44])) rfl rfl rfl (by simp only [go_sem] <;> rfl) (by simp [go_sem]) rfl (by simp only [go_sem]; exact b_Join G (x.values.map quoteV) [44] (by simp; omega) (by omega) _), ?_⟩
      refine FxC_ok _ _ _ ?_; (repeat simp (disch := omega) only [go_sem, redN, Nat.reduceAdd, Int.reduceToNat, Int.reducePow]); (repeat' refine And.intro ?_ ?_); (try any_goals (first | (refine hK _ _ ?_; clear hK' hQ hK Q' Kn) | (intro hq9; refine ⟨hq9, ?_⟩; simp only [redB] at hq9; omega) | (intro hq9; refine ⟨hq9, fun hq8 => ?_⟩; rw [hq9, hq8]; rfl) | (simp; done) | omega | (simp only [redL]; omega) | (simp; omega) | (intros; (repeat' refine And.intro ?_ ?_) <;> (first | assumption | omega | (simp; done)))))
      (repeat' (first | refine AW.seq ?_ | refine AW.scope ?_ | refine AW.label ?_ | refine AW.block ?_ | refine AW.skip ?_ | refine AW.exit ?_ | refine AW.ret ?_ | (refine AW.regionC fun Q' Kn hQ hK hK' => ?_; (repeat simp (disch := omega) only [go_sem, redN, Nat.reduceAdd, Int.reduceToNat, Int.reducePow]); (repeat' refine And.intro ?_ ?_); (try any_goals (first | (refine hK _ _ ?_; clear hK' hQ hK Q' Kn) | (intro hq9; refine ⟨hq9, ?_⟩; simp only [redB] at hq9; omega) | (intro hq9; refine ⟨hq9, fun hq8 => ?_⟩; rw [hq9, hq8]; rfl) | (simp; done) | omega | (simp only [redL]; omega) | (simp; omega) | (intros; (repeat' refine And.intro ?_ ?_) <;> (first | assumption | omega | (simp; done)))))) | (refine AW.cond (by simp (disch := omega) only [go_sem, redN, Nat.reduceAdd, Int.reduceToNat, Int.reducePow]; rfl) (fun hb => ?_) (fun hb => ?_) <;> (try simp only [redB] at hb))))
      refine ⟨k + 1, by omega, by omega, ?_, rfl, rfl⟩
      rw [hsucc, paramW]
      (repeat (first | exact Weak.nil | refine Weak.junk _ ?_ | refine Weak.same _ ?_ | refine Weak.eqv (by (congr 1; first | omega | (simp; done) | exact w_i64 (by omega) (by omega))) ?_))
  · (refine ⟨_, _, rfl, by simp, ?_⟩; simp only [aTup, AA.get, List.getD_cons_zero, List.getD_cons_succ, true_and])
    rw [← writtenL_eq, show k = p.params.length from by omega, List.append_assoc]
    rfl
end Go.Almanac

/- Lines: a property fits, and is printed. -/
namespace Go.Almanac
open Go.RowKit Go.Proofs Go.Abs

set_option linter.unusedSimpArgs false
set_option linter.unusedVariables false
set_option linter.unusedSectionVars false
set_option maxRecDepth 10000

/-- Bounds that the machine keeps. -/
structure PropB (p : PropD) : Prop where
  name : p.name.length ≤ 1048576
  value : p.value.length ≤ 1048576
  count : p.params.length ≤ 1048576
  params : ∀ x ∈ p.params, ParamOk x
  all : (writtenL p).length ≤ 1073741824
def fitL (p : PropD) : Bool := isNameL p.name && decide (p.params.length ≤ 16) && plainL p.value [] && !(p.params.any badP) && decide ((writtenL p).length ≤ 1024)
def printL (p : PropD) : List UInt8 := if fitL p = true then writtenL p else []
theorem vals_good {p : PropD} (h : p.params.any badP = false) : ∀ x ∈ p.params, ∀ v ∈ x.values, valP v = true := by
  intro x hx v hv
  rw [List.any_eq_false] at h
  have h1 := h x hx
  simp only [badP, Bool.or_eq_true, not_or] at h1
  have h2 := h1.2.2
  simp only [Bool.not_eq_true, List.any_eq_false, Bool.not_eq_true', Bool.not_eq_false] at h2
  exact h2 v hv
/-- ContainsAny answers as it should at the values that may be written. -/
def CAs (G : Nat → AV) (p : PropD) : Prop := ∀ x ∈ p.params, ∀ v ∈ x.values, valP v = true → CA G v [44, 59, 58]

theorem t_Fit (m : Int) (p : PropD) (hp : PropB p) (hCA : CAs (Gt m) p) (st : St) :
    ACalls (Ev (Gt m)) 12 [.agg (encProp p)] st (fun e st' => st' = st ∧ e = .ret (.bool (fitL p))) := by
  have b1 := hp.name
  have b2 := hp.value
  have b3 := hp.count
  refine ACalls.of_body Tryd.func12 rfl ?_
  rw [Tryd.ntmps12]
  simp only [List.length_cons, List.length_nil, Nat.reduceAdd, Nat.reduceSub, List.replicate_succ, List.replicate_zero, List.cons_append, List.nil_append]
  (repeat' (first | refine AW.seq ?_ | refine AW.scope ?_ | refine AW.label ?_ | refine AW.block ?_ | refine AW.skip ?_ | refine AW.exit ?_ | refine AW.ret ?_))
  refine AW.regionC fun Q' Kn hQ hK hK' => ?_
  simp (disch := omega) only [go_sem, redN, Nat.reduceAdd, Int.reduceToNat, Int.reducePow]
  refine AOp.box rfl (by simp [go_sem]) (by simp only [go_sem]; rfl) fun b hb0 => ?_
  (refine AOpsC_ok hK' _ _ _ ?_; (repeat simp (disch := omega) only [go_sem, redN, Nat.reduceAdd, Int.reduceToNat, Int.reducePow]); (repeat' refine And.intro ?_ ?_); (try any_goals (first | (refine hK _ _ ?_; clear hK' hQ hK Q' Kn) | (intro hq9; refine ⟨hq9, ?_⟩; simp only [redB] at hq9; omega) | (intro hq9; refine ⟨hq9, fun hq8 => ?_⟩; rw [hq9, hq8]; rfl) | (simp; done) | omega | (simp only [redL]; omega) | (simp; omega) | (intros; (repeat' refine And.intro ?_ ?_) <;> (first | assumption | omega | (simp; done))))))
  refine AW.freeze 1 rfl (St.set_same _ _ _) ?_
  rw [St.del_set _ _ hb0]
  simp only [encProp]
  (repeat' (first | refine AW.seq ?_ | refine AW.scope ?_ | refine AW.label ?_ | refine AW.block ?_ | refine AW.skip ?_ | refine AW.exit ?_ | refine AW.ret ?_ | (refine AW.regionC fun Q' Kn hQ hK hK' => ?_; (repeat simp (disch := omega) only [go_sem, redN, Nat.reduceAdd, Int.reduceToNat, Int.reducePow]); (repeat' refine And.intro ?_ ?_); (try any_goals (first | (refine hK _ _ ?_; clear hK' hQ hK Q' Kn) | (intro hq9; refine ⟨hq9, ?_⟩; simp only [redB] at hq9; omega) | (intro hq9; refine ⟨hq9, fun hq8 => ?_⟩; rw [hq9, hq8]; rfl) | (simp; done) | omega | (simp only [redL]; omega) | (simp; omega) | (intros; (repeat' refine And.intro ?_ ?_) <;> (first | assumption | omega | (simp; done)))))) | (refine AW.cond (by simp (disch := omega) only [go_sem, redN, Nat.reduceAdd, Int.reduceToNat, Int.reducePow]; rfl) (fun hb => ?_) (fun hb => ?_) <;> (try simp only [redB] at hb))))
  refine AOp.call rfl (by simp only [go_sem]; rfl) (by simp [go_sem]) rfl (ACalls.mono (by simp only [go_sem]; exact t_isName (Gt m) p.name (by omega) _) ?_)
  rintro e st' ⟨rfl, rfl⟩
  (refine AOpsC_ok hK' _ _ _ ?_; (repeat simp (disch := omega) only [go_sem, redN, Nat.reduceAdd, Int.reduceToNat, Int.reducePow]); (repeat' refine And.intro ?_ ?_); (try any_goals (first | (refine hK _ _ ?_; clear hK' hQ hK Q' Kn) | (intro hq9; refine ⟨hq9, ?_⟩; simp only [redB] at hq9; omega) | (intro hq9; refine ⟨hq9, fun hq8 => ?_⟩; rw [hq9, hq8]; rfl) | (simp; done) | omega | (simp only [redL]; omega) | (simp; omega) | (intros; (repeat' refine And.intro ?_ ?_) <;> (first | assumption | omega | (simp; done))))))
  (repeat' (first | refine AW.seq ?_ | refine AW.scope ?_ | refine AW.label ?_ | refine AW.block ?_ | refine AW.skip ?_ | refine AW.exit ?_ | refine AW.ret ?_ | (refine AW.regionC fun Q' Kn hQ hK hK' => ?_; (repeat simp (disch := omega) only [go_sem, redN, Nat.reduceAdd, Int.reduceToNat, Int.reducePow]); (repeat' refine And.intro ?_ ?_); (try any_goals (first | (refine hK _ _ ?_; clear hK' hQ hK Q' Kn) | (intro hq9; refine ⟨hq9, ?_⟩; simp only [redB] at hq9; omega) | (intro hq9; refine ⟨hq9, fun hq8 => ?_⟩; rw [hq9, hq8]; rfl) | (simp; done) | omega | (simp only [redL]; omega) | (simp; omega) | (intros; (repeat' refine And.intro ?_ ?_) <;> (first | assumption | omega | (simp; done)))))) | (refine AW.cond (by simp (disch := omega) only [go_sem, redN, Nat.reduceAdd, Int.reduceToNat, Int.reducePow]; rfl) (fun hb => ?_) (fun hb => ?_) <;> (try simp only [redB] at hb))))
  refine AOps.guard_call (f := 28) (v := .bool (plainL p.value [])) rfl rfl rfl rfl rfl (fun _ => (by simp only [go_sem] <;> rfl)) (fun h => by first | (simp [go_sem]; done) | simpa [go_sem] using h) rfl (fun hg => by simp only [go_sem]; exact t_plain2 m p.value [] (by omega) _) ?_
  (refine AOpsC_ok hK' _ _ _ ?_; (repeat simp (disch := omega) only [go_sem, redN, Nat.reduceAdd, Int.reduceToNat, Int.reducePow]); (repeat' refine And.intro ?_ ?_); (try any_goals (first | (refine hK _ _ ?_; clear hK' hQ hK Q' Kn) | (intro hq9; refine ⟨hq9, ?_⟩; simp only [redB] at hq9; omega) | (intro hq9; refine ⟨hq9, fun hq8 => ?_⟩; rw [hq9, hq8]; rfl) | (simp; done) | omega | (simp only [redL]; omega) | (simp; omega) | (intros; (repeat' refine And.intro ?_ ?_) <;> (first | assumption | omega | (simp; done))))))
  refine AOps.guard_call (f := 42) (v := .bool (p.params.any badP)) rfl rfl rfl rfl rfl (fun _ => (by simp only [go_sem] <;> rfl)) (fun h => by first | (simp [go_sem]; done) | simpa [go_sem] using h) rfl (fun hg => by simp only [go_sem]; exact b_ContainsFuncP (Gt m) _ _ p.params _ rfl (c_bad m _ hp.params) (by omega) _) ?_
  (refine AOpsC_ok hK' _ _ _ ?_; (repeat simp (disch := omega) only [go_sem, redN, Nat.reduceAdd, Int.reduceToNat, Int.reducePow]); (repeat' refine And.intro ?_ ?_); (try any_goals (first | (refine hK _ _ ?_; clear hK' hQ hK Q' Kn) | (intro hq9; refine ⟨hq9, ?_⟩; simp only [redB] at hq9; omega) | (intro hq9; refine ⟨hq9, fun hq8 => ?_⟩; rw [hq9, hq8]; rfl) | (simp; done) | omega | (simp only [redL]; omega) | (simp; omega) | (intros; (repeat' refine And.intro ?_ ?_) <;> (first | assumption | omega | (simp; done))))))
  refine AOps.guard_call (f := 43) (v := .str (writtenL p)) rfl rfl rfl rfl rfl (fun _ => (by simp only [go_sem] <;> rfl)) (fun h => by first | (simp [go_sem]; done) | simpa [go_sem] using h) rfl (fun hg => ?_) ?_
  · have hg2 : p.params.any badP = false := by simp at hg; simpa using hg.2
    have := t_written (Gt m) p b3 hp.params (fun x hx v hv => hCA x hx v hv (vals_good hg2 x hx v hv)) hp.all
    simp only [go_sem]; exact this _
  (refine AOpsC_ok hK' _ _ _ ?_; (repeat simp (disch := omega) only [go_sem, redN, Nat.reduceAdd, Int.reduceToNat, Int.reducePow]); (repeat' refine And.intro ?_ ?_); (try any_goals (first | (refine hK _ _ ?_; clear hK' hQ hK Q' Kn) | (intro hq9; refine ⟨hq9, ?_⟩; simp only [redB] at hq9; omega) | (intro hq9; refine ⟨hq9, fun hq8 => ?_⟩; rw [hq9, hq8]; rfl) | (simp; done) | omega | (simp only [redL]; omega) | (simp; omega) | (intros; (repeat' refine And.intro ?_ ?_) <;> (first | assumption | omega | (simp; done))))))
  (repeat' (first | refine AW.seq ?_ | refine AW.scope ?_ | refine AW.label ?_ | refine AW.block ?_ | refine AW.skip ?_ | refine AW.exit ?_ | refine AW.ret ?_ | (refine AW.regionC fun Q' Kn hQ hK hK' => ?_; (repeat simp (disch := omega) only [go_sem, redN, Nat.reduceAdd, Int.reduceToNat, Int.reducePow]); (repeat' refine And.intro ?_ ?_); (try any_goals (first | (refine hK _ _ ?_; clear hK' hQ hK Q' Kn) | (intro hq9; refine ⟨hq9, ?_⟩; simp only [redB] at hq9; omega) | (intro hq9; refine ⟨hq9, fun hq8 => ?_⟩; rw [hq9, hq8]; rfl) | (simp; done) | omega | (simp only [redL]; omega) | (simp; omega) | (intros; (repeat' refine And.intro ?_ ?_) <;> (first | assumption | omega | (simp; done)))))) | (refine AW.cond (by simp (disch := omega) only [go_sem, redN, Nat.reduceAdd, Int.reduceToNat, Int.reducePow]; rfl) (fun hb => ?_) (fun hb => ?_) <;> (try simp only [redB] at hb))))
  (refine ⟨_, _, rfl, by simp, ?_⟩; simp only [aTup, AA.get, List.getD_cons_zero, List.getD_cons_succ, true_and])
  rw [fitL, show decide (p.params.length ≤ 16) = decide ((p.params.length : Int) ≤ 16) from decide_eq_decide.2 (by omega), show decide ((writtenL p).length ≤ 1024) = decide (((writtenL p).length : Int) ≤ 1024) from decide_eq_decide.2 (by omega)]
theorem t_Print (m : Int) (p : PropD) (hp : PropB p) (hCA : CAs (Gt m) p) (st : St) :
    ACalls (Ev (Gt m)) 14 [.agg (encProp p)] st (fun e st' => st' = st ∧ e = .ret (.str (printL p))) := by
  refine ACalls.of_body Tryd.func14 rfl ?_
  rw [Tryd.ntmps14]
  simp only [List.length_cons, List.length_nil, Nat.reduceAdd, Nat.reduceSub, List.replicate_succ, List.replicate_zero, List.cons_append, List.nil_append]
  (repeat' (first | refine AW.seq ?_ | refine AW.scope ?_ | refine AW.label ?_ | refine AW.block ?_ | refine AW.skip ?_ | refine AW.exit ?_ | refine AW.ret ?_))
  refine AW.regionC fun Q' Kn hQ hK hK' => ?_
  simp (disch := omega) only [go_sem, redN, Nat.reduceAdd, Int.reduceToNat, Int.reducePow]
  refine AOp.box rfl (by simp [go_sem]) (by simp only [go_sem]; rfl) fun b hb0 => ?_
  (refine AOpsC_ok hK' _ _ _ ?_; (repeat simp (disch := omega) only [go_sem, redN, Nat.reduceAdd, Int.reduceToNat, Int.reducePow]); (repeat' refine And.intro ?_ ?_); (try any_goals (first | (refine hK _ _ ?_; clear hK' hQ hK Q' Kn) | (intro hq9; refine ⟨hq9, ?_⟩; simp only [redB] at hq9; omega) | (intro hq9; refine ⟨hq9, fun hq8 => ?_⟩; rw [hq9, hq8]; rfl) | (simp; done) | omega | (simp only [redL]; omega) | (simp; omega) | (intros; (repeat' refine And.intro ?_ ?_) <;> (first | assumption | omega | (simp; done))))))
  refine AW.freeze 1 rfl (St.set_same _ _ _) ?_
  rw [St.del_set _ _ hb0]
  simp only [encProp]
  (repeat' (first | refine AW.seq ?_ | refine AW.scope ?_ | refine AW.label ?_ | refine AW.block ?_ | refine AW.skip ?_ | refine AW.exit ?_ | refine AW.ret ?_ | (refine AW.regionC fun Q' Kn hQ hK hK' => ?_; (repeat simp (disch := omega) only [go_sem, redN, Nat.reduceAdd, Int.reduceToNat, Int.reducePow]); (repeat' refine And.intro ?_ ?_); (try any_goals (first | (refine hK _ _ ?_; clear hK' hQ hK Q' Kn) | (intro hq9; refine ⟨hq9, ?_⟩; simp only [redB] at hq9; omega) | (intro hq9; refine ⟨hq9, fun hq8 => ?_⟩; rw [hq9, hq8]; rfl) | (simp; done) | omega | (simp only [redL]; omega) | (simp; omega) | (intros; (repeat' refine And.intro ?_ ?_) <;> (first | assumption | omega | (simp; done)))))) | (refine AW.cond (by simp (disch := omega) only [go_sem, redN, Nat.reduceAdd, Int.reduceToNat, Int.reducePow]; rfl) (fun hb => ?_) (fun hb => ?_) <;> (try simp only [redB] at hb))))
  refine AOp.call rfl (by simp only [go_sem]; rfl) (by simp [go_sem]) rfl (ACalls.mono (by simp only [go_sem]; exact t_Fit m p hp hCA _) ?_)
  rintro e st' ⟨rfl, rfl⟩
  (refine AOpsC_ok hK' _ _ _ ?_; (repeat simp (disch := omega) only [go_sem, redN, Nat.reduceAdd, Int.reduceToNat, Int.reducePow]); (repeat' refine And.intro ?_ ?_); (try any_goals (first | (refine hK _ _ ?_; clear hK' hQ hK Q' Kn) | (intro hq9; refine ⟨hq9, ?_⟩; simp only [redB] at hq9; omega) | (intro hq9; refine ⟨hq9, fun hq8 => ?_⟩; rw [hq9, hq8]; rfl) | (simp; done) | omega | (simp only [redL]; omega) | (simp; omega) | (intros; (repeat' refine And.intro ?_ ?_) <;> (first | assumption | omega | (simp; done))))))
  (repeat' (first | refine AW.seq ?_ | refine AW.scope ?_ | refine AW.label ?_ | refine AW.block ?_ | refine AW.skip ?_ | refine AW.exit ?_ | refine AW.ret ?_ | (refine AW.regionC fun Q' Kn hQ hK hK' => ?_; (repeat simp (disch := omega) only [go_sem, redN, Nat.reduceAdd, Int.reduceToNat, Int.reducePow]); (repeat' refine And.intro ?_ ?_); (try any_goals (first | (refine hK _ _ ?_; clear hK' hQ hK Q' Kn) | (intro hq9; refine ⟨hq9, ?_⟩; simp only [redB] at hq9; omega) | (intro hq9; refine ⟨hq9, fun hq8 => ?_⟩; rw [hq9, hq8]; rfl) | (simp; done) | omega | (simp only [redL]; omega) | (simp; omega) | (intros; (repeat' refine And.intro ?_ ?_) <;> (first | assumption | omega | (simp; done)))))) | (refine AW.cond (by simp (disch := omega) only [go_sem, redN, Nat.reduceAdd, Int.reduceToNat, Int.reducePow]; rfl) (fun hb => ?_) (fun hb => ?_) <;> (try simp only [redB] at hb))))
  · (refine ⟨_, _, rfl, by simp, ?_⟩; simp only [aTup, AA.get, List.getD_cons_zero, List.getD_cons_succ, true_and])
    rw [printL, if_neg (by simpa using hb)]
  · have hf : fitL p = true := by simpa using hb
    have hg2 : p.params.any badP = false := by simp [fitL] at hf; simpa using hf.1.2
    refine AOp.call rfl (by simp only [go_sem]; rfl) (by simp [go_sem]) rfl (ACalls.mono (by simp only [go_sem]; exact t_written (Gt m) p hp.count hp.params (fun x hx v hv => hCA x hx v hv (vals_good hg2 x hx v hv)) hp.all _) ?_)
    rintro e st' ⟨rfl, rfl⟩
    (refine AOpsC_ok hK' _ _ _ ?_; (repeat simp (disch := omega) only [go_sem, redN, Nat.reduceAdd, Int.reduceToNat, Int.reducePow]); (repeat' refine And.intro ?_ ?_); (try any_goals (first | (refine hK _ _ ?_; clear hK' hQ hK Q' Kn) | (intro hq9; refine ⟨hq9, ?_⟩; simp only [redB] at hq9; omega) | (intro hq9; refine ⟨hq9, fun hq8 => ?_⟩; rw [hq9, hq8]; rfl) | (simp; done) | omega | (simp only [redL]; omega) | (simp; omega) | (intros; (repeat' refine And.intro ?_ ?_) <;> (first | assumption | omega | (simp; done))))))
    (repeat' (first | refine AW.seq ?_ | refine AW.scope ?_ | refine AW.label ?_ | refine AW.block ?_ | refine AW.skip ?_ | refine AW.exit ?_ | refine AW.ret ?_ | (refine AW.regionC fun Q' Kn hQ hK hK' => ?_; (repeat simp (disch := omega) only [go_sem, redN, Nat.reduceAdd, Int.reduceToNat, Int.reducePow]); (repeat' refine And.intro ?_ ?_); (try any_goals (first | (refine hK _ _ ?_; clear hK' hQ hK Q' Kn) | (intro hq9; refine ⟨hq9, ?_⟩; simp only [redB] at hq9; omega) | (intro hq9; refine ⟨hq9, fun hq8 => ?_⟩; rw [hq9, hq8]; rfl) | (simp; done) | omega | (simp only [redL]; omega) | (simp; omega) | (intros; (repeat' refine And.intro ?_ ?_) <;> (first | assumption | omega | (simp; done)))))) | (refine AW.cond (by simp (disch := omega) only [go_sem, redN, Nat.reduceAdd, Int.reduceToNat, Int.reducePow]; rfl) (fun hb => ?_) (fun hb => ?_) <;> (try simp only [redB] at hb))))
    (refine ⟨_, _, rfl, by simp, ?_⟩; simp only [aTup, AA.get, List.getD_cons_zero, List.getD_cons_succ, true_and])
    rw [printL, if_pos hf]
end Go.Almanac

/- Lines: raw lines, handed to any consumer. -/
namespace Go.Almanac
open Go.RowKit Go.Proofs Go.Abs

set_option linter.unusedSimpArgs false
set_option linter.unusedVariables false
set_option linter.unusedSectionVars false
set_option maxRecDepth 10000

theorem t_raw (G : Nat → AV) (s : List UInt8) (st : St) : ACalls (Ev G) 53 [.str s] st (fun e st' => ∃ id, st id = none ∧ st' = st.set id (.cells 9 0 1 [[.str s]]) ∧ e = .ret (.clo (.func 70) [] [.ptr id 0 0 0])) := by
  refine ACalls.of_body Tryd.func53 rfl ?_
  rw [Tryd.ntmps53]
  simp only [List.length_cons, List.length_nil, Nat.reduceAdd, Nat.reduceSub, List.replicate_succ, List.replicate_zero, List.cons_append, List.nil_append]
  (repeat' (first | refine AW.seq ?_ | refine AW.scope ?_ | refine AW.label ?_ | refine AW.block ?_ | refine AW.skip ?_ | refine AW.exit ?_ | refine AW.ret ?_ | (refine AW.regionC fun Q' Kn hQ hK hK' => ?_; (repeat simp (disch := omega) only [go_sem, redN, Nat.reduceAdd, Int.reduceToNat, Int.reducePow]); (repeat' refine And.intro ?_ ?_); (try any_goals (first | (refine hK _ _ ?_; clear hK' hQ hK Q' Kn) | (intro hq9; refine ⟨hq9, ?_⟩; simp only [redB] at hq9; omega) | (intro hq9; refine ⟨hq9, fun hq8 => ?_⟩; rw [hq9, hq8]; rfl) | (simp; done) | omega | (simp only [redL]; omega) | (simp; omega) | (intros; (repeat' refine And.intro ?_ ?_) <;> (first | assumption | omega | (simp; done)))))) | (refine AW.cond (by simp (disch := omega) only [go_sem, redN, Nat.reduceAdd, Int.reduceToNat, Int.reducePow]; rfl) (fun hb => ?_) (fun hb => ?_) <;> (try simp only [redB] at hb))))
  refine AOp.box rfl (by simp [go_sem]) (by simp only [go_sem]; rfl) fun id hid => ?_
  (refine AOpsC_ok hK' _ _ _ ?_; (repeat simp (disch := omega) only [go_sem, redN, Nat.reduceAdd, Int.reduceToNat, Int.reducePow]); (repeat' refine And.intro ?_ ?_); (try any_goals (first | (refine hK _ _ ?_; clear hK' hQ hK Q' Kn) | (intro hq9; refine ⟨hq9, ?_⟩; simp only [redB] at hq9; omega) | (intro hq9; refine ⟨hq9, fun hq8 => ?_⟩; rw [hq9, hq8]; rfl) | (simp; done) | omega | (simp only [redL]; omega) | (simp; omega) | (intros; (repeat' refine And.intro ?_ ?_) <;> (first | assumption | omega | (simp; done))))))
  (repeat' (first | refine AW.seq ?_ | refine AW.scope ?_ | refine AW.label ?_ | refine AW.block ?_ | refine AW.skip ?_ | refine AW.exit ?_ | refine AW.ret ?_ | (refine AW.regionC fun Q' Kn hQ hK hK' => ?_; (repeat simp (disch := omega) only [go_sem, redN, Nat.reduceAdd, Int.reduceToNat, Int.reducePow]); (repeat' refine And.intro ?_ ?_); (try any_goals (first | (refine hK _ _ ?_; clear hK' hQ hK Q' Kn) | (intro hq9; refine ⟨hq9, ?_⟩; simp only [redB] at hq9; omega) | (intro hq9; refine ⟨hq9, fun hq8 => ?_⟩; rw [hq9, hq8]; rfl) | (simp; done) | omega | (simp only [redL]; omega) | (simp; omega) | (intros; (repeat' refine And.intro ?_ ?_) <;> (first | assumption | omega | (simp; done)))))) | (refine AW.cond (by simp (disch := omega) only [go_sem, redN, Nat.reduceAdd, Int.reduceToNat, Int.reducePow]; rfl) (fun hb => ?_) (fun hb => ?_) <;> (try simp only [redB] at hb))))
  (refine ⟨_, _, rfl, by simp, ?_⟩; simp only [aTup, AA.get, List.getD_cons_zero, List.getD_cons_succ, true_and])
  exact ⟨id, hid, rfl, rfl⟩

/-- The next raw line; what is behind it. -/
def rawLine (s : List UInt8) : List UInt8 := if (Lib.cut s [10]).2.2 = true then Lib.trimSuffix (Lib.cut s [10]).1 [13] else (Lib.cut s [10]).1
def rawRest (s : List UInt8) : List UInt8 := (Lib.cut s [10]).2.1
theorem cut_le (s sep : List UInt8) : (Lib.cut s sep).1.length ≤ s.length := by
  unfold Lib.cut
  split <;> simp
  omega
theorem rawRest_lt {s : List UInt8} (h : s ≠ []) : (rawRest s).length < s.length := by
  have hp : 0 < s.length := List.length_pos_iff.2 h
  unfold rawRest Lib.cut
  split
  · simp; omega
  · simpa using hp
theorem rawLine_le (s : List UInt8) : (rawLine s).length ≤ s.length := by
  have := cut_le s [10]
  unfold rawLine Lib.trimSuffix
  split
  · split
    · simp; omega
    · exact this
  · exact this

theorem t_raw1 (m : Int) (bx l : Nat) (J : List UInt8 → St → Prop) (S : St → Prop) (s : List UInt8) (hs : s.length ≤ 1048576) (σ : St) (hJ : J s σ) (hbx : ∀ s σ, J s σ → σ bx = some (.cells 9 0 1 [[.str s]]))
    (take : ∀ s σ, s ≠ [] → J s σ → YieldsTo (Ev (Gt m)) l [.str (rawLine s)] σ fun v σ' => (v = .bool true ∧ σ' bx = some (.cells 9 0 1 [[.str s]]) ∧ J (rawRest s) (σ'.set bx (.cells 9 0 1 [[.str (rawRest s)]]))) ∨ (v = .bool false ∧ S σ')) :
    ACalls (Ev (Gt m)) 70 [.yld l, .ptr bx 0 0 0] σ (fun e st' => e = .ret (.tup []) ∧ (J [] st' ∨ S st')) := by
  refine ACalls.of_body Tryd.func70 rfl ?_
  rw [Tryd.ntmps70]
  simp only [List.length_cons, List.length_nil, Nat.reduceAdd, Nat.reduceSub, List.replicate_succ, List.replicate_zero, List.cons_append, List.nil_append]
  (repeat' (first | refine AW.seq ?_ | refine AW.scope ?_ | refine AW.label ?_ | refine AW.block ?_ | refine AW.skip ?_ | refine AW.exit ?_ | refine AW.ret ?_))
  refine AW.loopF (fun x : List UInt8 × St => [.yld l, .ptr bx 0 0 0, .junk, .junk, .junk, .junk, .junk, .junk, .junk, .junk, .junk, .junk, .junk, .junk, .junk, .junk, .junk, .junk, .junk, .junk, .junk, .junk, .junk]) (fun x => x.2)
    (fun x => x.1.length ≤ 1048576 ∧ J x.1 x.2) (fun x => x.1.length) (s, σ) ?_ rfl ?_ ?_
  · (repeat (first | exact Weak.nil | refine Weak.junk _ ?_ | refine Weak.same _ ?_ | refine Weak.eqv (by (congr 1; first | omega | (simp; done) | exact w_i64 (by omega) (by omega))) ?_))
  · exact ⟨hs, hJ⟩
  rintro ⟨s, σ⟩ ⟨k1, k2⟩
  dsimp only at k1 k2 ⊢
  have hb1 := hbx _ _ k2
  (repeat' (first | refine AW.seq ?_ | refine AW.scope ?_ | refine AW.label ?_ | refine AW.block ?_ | refine AW.skip ?_ | refine AW.exit ?_ | refine AW.ret ?_ | (refine AW.regionC fun Q' Kn hQ hK hK' => ?_; (repeat simp (disch := omega) only [go_sem, redN, Nat.reduceAdd, Int.reduceToNat, Int.reducePow]); (repeat' refine And.intro ?_ ?_); (try any_goals (first | (refine hK _ _ ?_; clear hK' hQ hK Q' Kn) | (intro hq9; refine ⟨hq9, ?_⟩; simp only [redB] at hq9; omega) | (intro hq9; refine ⟨hq9, fun hq8 => ?_⟩; rw [hq9, hq8]; rfl) | (simp; done) | omega | (simp only [redL]; omega) | (simp; omega) | (intros; (repeat' refine And.intro ?_ ?_) <;> (first | assumption | omega | (simp; done)))))) | (refine AW.cond (by simp (disch := omega) only [go_sem, redN, Nat.reduceAdd, Int.reduceToNat, Int.reducePow]; rfl) (fun hb => ?_) (fun hb => ?_) <;> (try simp only [redB] at hb))))
  refine AOp.loadCell rfl (by simp only [go_sem] <;> rfl) (by simp [go_sem]) (hb1) rfl (by simp) (by simp) ?_
  (refine AOpsC_ok hK' _ _ _ ?_; (repeat simp (disch := omega) only [go_sem, redN, Nat.reduceAdd, Int.reduceToNat, Int.reducePow]); (repeat' refine And.intro ?_ ?_); (try any_goals (first | (refine hK _ _ ?_; clear hK' hQ hK Q' Kn) | (intro hq9; refine ⟨hq9, ?_⟩; simp only [redB] at hq9; omega) | (intro hq9; refine ⟨hq9, fun hq8 => ?_⟩; rw [hq9, hq8]; rfl) | (simp; done) | omega | (simp only [redL]; omega) | (simp; omega) | (intros; (repeat' refine And.intro ?_ ?_) <;> (first | assumption | omega | (simp; done))))))
  (repeat' (first | refine AW.seq ?_ | refine AW.scope ?_ | refine AW.label ?_ | refine AW.block ?_ | refine AW.skip ?_ | refine AW.exit ?_ | refine AW.ret ?_ | (refine AW.regionC fun Q' Kn hQ hK hK' => ?_; (repeat simp (disch := omega) only [go_sem, redN, Nat.reduceAdd, Int.reduceToNat, Int.reducePow]); (repeat' refine And.intro ?_ ?_); (try any_goals (first | (refine hK _ _ ?_; clear hK' hQ hK Q' Kn) | (intro hq9; refine ⟨hq9, ?_⟩; simp only [redB] at hq9; omega) | (intro hq9; refine ⟨hq9, fun hq8 => ?_⟩; rw [hq9, hq8]; rfl) | (simp; done) | omega | (simp only [redL]; omega) | (simp; omega) | (intros; (repeat' refine And.intro ?_ ?_) <;> (first | assumption | omega | (simp; done)))))) | (refine AW.cond (by simp (disch := omega) only [go_sem, redN, Nat.reduceAdd, Int.reduceToNat, Int.reducePow]; rfl) (fun hb => ?_) (fun hb => ?_) <;> (try simp only [redB] at hb))))
  · have hne : s ≠ [] := fun e => by subst e; simp at hb
    refine AOp.loadCell rfl (by simp only [go_sem] <;> rfl) (by simp [go_sem]) (hb1) rfl (by simp) (by simp) ?_
    (refine AOpsC_ok hK' _ _ _ ?_; (repeat simp (disch := omega) only [go_sem, redN, Nat.reduceAdd, Int.reduceToNat, Int.reducePow]); (repeat' refine And.intro ?_ ?_); (try any_goals (first | (refine hK _ _ ?_; clear hK' hQ hK Q' Kn) | (intro hq9; refine ⟨hq9, ?_⟩; simp only [redB] at hq9; omega) | (intro hq9; refine ⟨hq9, fun hq8 => ?_⟩; rw [hq9, hq8]; rfl) | (simp; done) | omega | (simp only [redL]; omega) | (simp; omega) | (intros; (repeat' refine And.intro ?_ ?_) <;> (first | assumption | omega | (simp; done))))))
    refine AOp.call rfl (by simp only [go_sem]; rfl) (by simp [go_sem]) rfl (ACalls.mono (by simp only [go_sem]; exact b_Cut m s [10] k1 _) ?_)
    rintro e st' ⟨rfl, rfl⟩
    (refine AOpsC_ok hK' _ _ _ ?_; (repeat simp (disch := omega) only [go_sem, redN, Nat.reduceAdd, Int.reduceToNat, Int.reducePow]); (repeat' refine And.intro ?_ ?_); (try any_goals (first | (refine hK _ _ ?_; clear hK' hQ hK Q' Kn) | (intro hq9; refine ⟨hq9, ?_⟩; simp only [redB] at hq9; omega) | (intro hq9; refine ⟨hq9, fun hq8 => ?_⟩; rw [hq9, hq8]; rfl) | (simp; done) | omega | (simp only [redL]; omega) | (simp; omega) | (intros; (repeat' refine And.intro ?_ ?_) <;> (first | assumption | omega | (simp; done))))))
    (repeat' (first | refine AW.seq ?_ | refine AW.scope ?_ | refine AW.label ?_ | refine AW.block ?_ | refine AW.skip ?_ | refine AW.exit ?_ | refine AW.ret ?_))
    (refine AW.regionC fun Q' Kn hQ hK hK' => ?_; (repeat simp (disch := omega) only [go_sem, redN, Nat.reduceAdd, Int.reduceToNat, Int.reducePow]); (repeat' refine And.intro ?_ ?_); (try any_goals (first | (refine hK _ _ ?_; clear hK' hQ hK Q' Kn) | (intro hq9; refine ⟨hq9, ?_⟩; simp only [redB] at hq9; omega) | (intro hq9; refine ⟨hq9, fun hq8 => ?_⟩; rw [hq9, hq8]; rfl) | (simp; done) | omega | (simp only [redL]; omega) | (simp; omega) | (intros; (repeat' refine And.intro ?_ ?_) <;> (first | assumption | omega | (simp; done))))))
    (repeat' (first | refine AW.seq ?_ | refine AW.scope ?_ | refine AW.label ?_ | refine AW.block ?_ | refine AW.skip ?_ | refine AW.exit ?_ | refine AW.ret ?_))
    have hcl := cut_le s [10]
    have hlt := rawRest_lt hne
    refine AW.cut [.yld l, .ptr bx 0 0 0, .junk, .str (rawLine s), .str (rawRest s), .junk, .junk, .junk, .junk, .junk, .junk, .junk, .junk, .junk, .junk, .junk, .junk, .junk, .junk, .junk, .junk, .junk, .junk] ?_ ?_
    · (refine AW.cond (by simp (disch := omega) only [go_sem, redN, Nat.reduceAdd, Int.reduceToNat, Int.reducePow]; rfl) (fun hb => ?_) (fun hb => ?_) <;> (try simp only [redB] at hb))
      · (repeat' (first | refine AW.seq ?_ | refine AW.scope ?_ | refine AW.label ?_ | refine AW.block ?_ | refine AW.skip ?_ | refine AW.exit ?_ | refine AW.ret ?_))
        (refine AW.regionC fun Q' Kn hQ hK hK' => ?_; (repeat simp (disch := omega) only [go_sem, redN, Nat.reduceAdd, Int.reduceToNat, Int.reducePow]); (repeat' refine And.intro ?_ ?_); (try any_goals (first | (refine hK _ _ ?_; clear hK' hQ hK Q' Kn) | (intro hq9; refine ⟨hq9, ?_⟩; simp only [redB] at hq9; omega) | (intro hq9; refine ⟨hq9, fun hq8 => ?_⟩; rw [hq9, hq8]; rfl) | (simp; done) | omega | (simp only [redL]; omega) | (simp; omega) | (intros; (repeat' refine And.intro ?_ ?_) <;> (first | assumption | omega | (simp; done))))))
        refine AOp.call rfl (by simp only [go_sem]; rfl) (by simp [go_sem]) rfl (ACalls.mono (by simp only [go_sem]; exact b_TrimSuffix (Gt m) _ [13] (by omega) _) ?_)
        rintro e st' ⟨rfl, rfl⟩
        (refine AOpsC_ok hK' _ _ _ ?_; (repeat simp (disch := omega) only [go_sem, redN, Nat.reduceAdd, Int.reduceToNat, Int.reducePow]); (repeat' refine And.intro ?_ ?_); (try any_goals (first | (refine hK _ _ ?_; clear hK' hQ hK Q' Kn) | (intro hq9; refine ⟨hq9, ?_⟩; simp only [redB] at hq9; omega) | (intro hq9; refine ⟨hq9, fun hq8 => ?_⟩; rw [hq9, hq8]; rfl) | (simp; done) | omega | (simp only [redL]; omega) | (simp; omega) | (intros; (repeat' refine And.intro ?_ ?_) <;> (first | assumption | omega | (simp; done))))))
        (repeat' (first | refine AW.seq ?_ | refine AW.scope ?_ | refine AW.label ?_ | refine AW.block ?_ | refine AW.skip ?_ | refine AW.exit ?_ | refine AW.ret ?_ | (refine AW.regionC fun Q' Kn hQ hK hK' => ?_; (repeat simp (disch := omega) only [go_sem, redN, Nat.reduceAdd, Int.reduceToNat, Int.reducePow]); (repeat' refine And.intro ?_ ?_); (try any_goals (first | (refine hK _ _ ?_; clear hK' hQ hK Q' Kn) | (intro hq9; refine ⟨hq9, ?_⟩; simp only [redB] at hq9; omega) | (intro hq9; refine ⟨hq9, fun hq8 => ?_⟩; rw [hq9, hq8]; rfl) | (simp; done) | omega | (simp only [redL]; omega) | (simp; omega) | (intros; (repeat' refine And.intro ?_ ?_) <;> (first | assumption | omega | (simp; done)))))) | (refine AW.cond (by simp (disch := omega) only [go_sem, redN, Nat.reduceAdd, Int.reduceToNat, Int.reducePow]; rfl) (fun hb => ?_) (fun hb => ?_) <;> (try simp only [redB] at hb))))
        refine ⟨rfl, ?_, rfl, rfl⟩
        rw [rawLine, if_pos hb]
        (repeat (first | exact Weak.nil | refine Weak.junk _ ?_ | refine Weak.same _ ?_ | refine Weak.eqv (by (congr 1; first | omega | (simp; done) | exact w_i64 (by omega) (by omega))) ?_))
      · (repeat' (first | refine AW.seq ?_ | refine AW.scope ?_ | refine AW.label ?_ | refine AW.block ?_ | refine AW.skip ?_ | refine AW.exit ?_ | refine AW.ret ?_))
        refine ⟨rfl, ?_, rfl, rfl⟩
        rw [rawLine, if_neg (by simpa using hb)]
        (repeat (first | exact Weak.nil | refine Weak.junk _ ?_ | refine Weak.same _ ?_ | refine Weak.eqv (by (congr 1; first | omega | (simp; done) | exact w_i64 (by omega) (by omega))) ?_))
    (repeat' (first | refine AW.seq ?_ | refine AW.scope ?_ | refine AW.label ?_ | refine AW.block ?_ | refine AW.skip ?_ | refine AW.exit ?_ | refine AW.ret ?_ | (refine AW.regionC fun Q' Kn hQ hK hK' => ?_; (repeat simp (disch := omega) only [go_sem, redN, Nat.reduceAdd, Int.reduceToNat, Int.reducePow]); (repeat' refine And.intro ?_ ?_); (try any_goals (first | (refine hK _ _ ?_; clear hK' hQ hK Q' Kn) | (intro hq9; refine ⟨hq9, ?_⟩; simp only [redB] at hq9; omega) | (intro hq9; refine ⟨hq9, fun hq8 => ?_⟩; rw [hq9, hq8]; rfl) | (simp; done) | omega | (simp only [redL]; omega) | (simp; omega) | (intros; (repeat' refine And.intro ?_ ?_) <;> (first | assumption | omega | (simp; done)))))) | (refine AW.cond (by simp (disch := omega) only [go_sem, redN, Nat.reduceAdd, Int.reduceToNat, Int.reducePow]; rfl) (fun hb => ?_) (fun hb => ?_) <;> (try simp only [redB] at hb))))
    refine AOp.yields (vs := [.str (rawLine s)]) rfl (by simp only [go_sem] <;> rfl) (by simp [go_sem]) (by simp only [go_sem]) (take s _ hne k2) ?_
    rintro v σ' (⟨rfl, k3, k4⟩ | ⟨rfl, k3⟩)
    · (refine AOpsC_ok hK' _ _ _ ?_; (repeat simp (disch := omega) only [go_sem, redN, Nat.reduceAdd, Int.reduceToNat, Int.reducePow]); (repeat' refine And.intro ?_ ?_); (try any_goals (first | (refine hK _ _ ?_; clear hK' hQ hK Q' Kn) | (intro hq9; refine ⟨hq9, ?_⟩; simp only [redB] at hq9; omega) | (intro hq9; refine ⟨hq9, fun hq8 => ?_⟩; rw [hq9, hq8]; rfl) | (simp; done) | omega | (simp only [redL]; omega) | (simp; omega) | (intros; (repeat' refine And.intro ?_ ?_) <;> (first | assumption | omega | (simp; done))))))
      (repeat' (first | refine AW.seq ?_ | refine AW.scope ?_ | refine AW.label ?_ | refine AW.block ?_ | refine AW.skip ?_ | refine AW.exit ?_ | refine AW.ret ?_ | (refine AW.regionC fun Q' Kn hQ hK hK' => ?_; (repeat simp (disch := omega) only [go_sem, redN, Nat.reduceAdd, Int.reduceToNat, Int.reducePow]); (repeat' refine And.intro ?_ ?_); (try any_goals (first | (refine hK _ _ ?_; clear hK' hQ hK Q' Kn) | (intro hq9; refine ⟨hq9, ?_⟩; simp only [redB] at hq9; omega) | (intro hq9; refine ⟨hq9, fun hq8 => ?_⟩; rw [hq9, hq8]; rfl) | (simp; done) | omega | (simp only [redL]; omega) | (simp; omega) | (intros; (repeat' refine And.intro ?_ ?_) <;> (first | assumption | omega | (simp; done)))))) | (refine AW.cond (by simp (disch := omega) only [go_sem, redN, Nat.reduceAdd, Int.reduceToNat, Int.reducePow]; rfl) (fun hb => ?_) (fun hb => ?_) <;> (try simp only [redB] at hb))))
      refine AOp.store (cs := [.str (rawRest s)]) rfl (by simp only [go_sem] <;> rfl) (by simp [go_sem]) (k3) (by first | (simp only [go_sem]; done) | (simp [go_sem]; done) | (simp [go_sem]; omega)) rfl rfl (by simp) (by simp) ?_
      (refine AOpsC_ok hK' _ _ _ ?_; (repeat simp (disch := omega) only [go_sem, redN, Nat.reduceAdd, Int.reduceToNat, Int.reducePow]); (repeat' refine And.intro ?_ ?_); (try any_goals (first | (refine hK _ _ ?_; clear hK' hQ hK Q' Kn) | (intro hq9; refine ⟨hq9, ?_⟩; simp only [redB] at hq9; omega) | (intro hq9; refine ⟨hq9, fun hq8 => ?_⟩; rw [hq9, hq8]; rfl) | (simp; done) | omega | (simp only [redL]; omega) | (simp; omega) | (intros; (repeat' refine And.intro ?_ ?_) <;> (first | assumption | omega | (simp; done))))))
      (repeat' (first | refine AW.seq ?_ | refine AW.scope ?_ | refine AW.label ?_ | refine AW.block ?_ | refine AW.skip ?_ | refine AW.exit ?_ | refine AW.ret ?_ | (refine AW.regionC fun Q' Kn hQ hK hK' => ?_; (repeat simp (disch := omega) only [go_sem, redN, Nat.reduceAdd, Int.reduceToNat, Int.reducePow]); (repeat' refine And.intro ?_ ?_); (try any_goals (first | (refine hK _ _ ?_; clear hK' hQ hK Q' Kn) | (intro hq9; refine ⟨hq9, ?_⟩; simp only [redB] at hq9; omega) | (intro hq9; refine ⟨hq9, fun hq8 => ?_⟩; rw [hq9, hq8]; rfl) | (simp; done) | omega | (simp only [redL]; omega) | (simp; omega) | (intros; (repeat' refine And.intro ?_ ?_) <;> (first | assumption | omega | (simp; done)))))) | (refine AW.cond (by simp (disch := omega) only [go_sem, redN, Nat.reduceAdd, Int.reduceToNat, Int.reducePow]; rfl) (fun hb => ?_) (fun hb => ?_) <;> (try simp only [redB] at hb))))
      refine ⟨(rawRest s, σ'.set bx (.cells 9 0 1 [[.str (rawRest s)]])), ⟨by dsimp only; omega, k4⟩, by dsimp only; omega, ?_, rfl, rfl⟩
      (repeat (first | exact Weak.nil | refine Weak.junk _ ?_ | refine Weak.same _ ?_ | refine Weak.eqv (by (congr 1; first | omega | (simp; done) | exact w_i64 (by omega) (by omega))) ?_))
    · (refine AOpsC_ok hK' _ _ _ ?_; (repeat simp (disch := omega) only [go_sem, redN, Nat.reduceAdd, Int.reduceToNat, Int.reducePow]); (repeat' refine And.intro ?_ ?_); (try any_goals (first | (refine hK _ _ ?_; clear hK' hQ hK Q' Kn) | (intro hq9; refine ⟨hq9, ?_⟩; simp only [redB] at hq9; omega) | (intro hq9; refine ⟨hq9, fun hq8 => ?_⟩; rw [hq9, hq8]; rfl) | (simp; done) | omega | (simp only [redL]; omega) | (simp; omega) | (intros; (repeat' refine And.intro ?_ ?_) <;> (first | assumption | omega | (simp; done))))))
      (repeat' (first | refine AW.seq ?_ | refine AW.scope ?_ | refine AW.label ?_ | refine AW.block ?_ | refine AW.skip ?_ | refine AW.exit ?_ | refine AW.ret ?_ | (refine AW.regionC fun Q' Kn hQ hK hK' => ?_; (repeat simp (disch := omega) only [go_sem, redN, Nat.reduceAdd, Int.reduceToNat, Int.reducePow]); (repeat' refine And.intro ?_ ?_); (try any_goals (first | (refine hK _ _ ?_; clear hK' hQ hK Q' Kn) | (intro hq9; refine ⟨hq9, ?_⟩; simp only [redB] at hq9; omega) | (intro hq9; refine ⟨hq9, fun hq8 => ?_⟩; rw [hq9, hq8]; rfl) | (simp; done) | omega | (simp only [redL]; omega) | (simp; omega) | (intros; (repeat' refine And.intro ?_ ?_) <;> (first | assumption | omega | (simp; done)))))) | (refine AW.cond (by simp (disch := omega) only [go_sem, redN, Nat.reduceAdd, Int.reduceToNat, Int.reducePow]; rfl) (fun hb => ?_) (fun hb => ?_) <;> (try simp only [redB] at hb))))
      (refine ⟨_, _, rfl, by simp, ?_⟩; simp only [aTup, AA.get, List.getD_cons_zero, List.getD_cons_succ, true_and])
      exact .inr k3
  · (refine ⟨_, _, rfl, by simp, ?_⟩; simp only [aTup, AA.get, List.getD_cons_zero, List.getD_cons_succ, true_and])
    have : s = [] := List.length_eq_zero_iff.1 (by omega)
    subst this
    exact .inl k2
end Go.Almanac

/- Lines: unfolding, as plain functions; the memory that it keeps. -/
namespace Go.Almanac
open Go.RowKit Go.Proofs Go.Abs

set_option linter.unusedSimpArgs false
set_option linter.unusedVariables false
set_option linter.unusedSectionVars false
set_option maxRecDepth 10000

def lastL (out : List (List UInt8)) : List UInt8 := out.getD (out.length - 1) []
def goesL (l : List UInt8) : Bool := Lib.hasPrefix l [32] || Lib.hasPrefix l [9]
def uChk (out : List (List UInt8)) : Except Int (List (List UInt8)) := if 1024 < (lastL out).length then .error 12 else .ok out
/-- What a raw line does to the lines so far. -/
def uStep (out : List (List UInt8)) (l : List UInt8) : Except Int (List (List UInt8)) :=
  if l = [] ∨ (goesL l = true ∧ out = []) then .error 10
  else if goesL l = true then uChk (out.set (out.length - 1) (lastL out ++ l.drop 1))
  else if out.length = 400 then .error 27
  else uChk (out ++ [l])
def uLines : Nat → List UInt8 → List (List UInt8) → Except Int (List (List UInt8))
  | 0, _, _ => .error 1
  | n + 1, s, out => if s = [] then .ok out else match uStep out (rawLine s) with
    | .error k => .error k
    | .ok o => uLines n (rawRest s) o
def unfoldT (s : List UInt8) : Except Int (List (List UInt8)) := if 8192 < s.length then .error 12 else uLines (s.length + 1) s []
def unfoldR : Except Int (List (List UInt8)) → AV
  | .ok out => .tup [.tree 1 (strsE out), .int .i64 0]
  | .error k => .tup [.tree 1 (strsE []), .int .i64 k]

/-- The lines are as long as they may be. -/
def LinesB (out : List (List UInt8)) : Prop := out.length ≤ 400 ∧ ∀ l ∈ out, l.length ≤ 1024
theorem LinesB.last {out : List (List UInt8)} (h : LinesB out) : (lastL out).length ≤ 1024 := by
  by_cases h0 : out = []
  · subst h0; simp [lastL]
  · exact h.2 _ (getD_mem (by have := List.length_pos_iff.2 h0; omega))
theorem uStep_B {out o : List (List UInt8)} {l : List UInt8} (hB : LinesB out) (h : uStep out l = .ok o) : LinesB o := by
  unfold uStep at h
  split at h
  · cases h
  split at h
  · unfold uChk at h
    split at h
    · cases h
    · rename_i h2
      cases h
      refine ⟨by simpa using hB.1, fun x hx => ?_⟩
      rcases List.mem_or_eq_of_mem_set hx with q | q
      · exact hB.2 x q
      · subst q
        by_cases h0 : out = []
        · subst h0; simp at hx
        · have hp : 0 < out.length := List.length_pos_iff.2 h0
          have : lastL (out.set (out.length - 1) (lastL out ++ l.drop 1)) = lastL out ++ l.drop 1 := by
            simp [lastL, List.getD, List.getElem?_set, hp]
            rw [if_pos (by omega)]
            rfl
          rw [this] at h2; omega
  · split at h
    · cases h
    · unfold uChk at h
      split at h
      · cases h
      · rename_i h1 h2
        cases h
        refine ⟨by have := hB.1; simp; omega, fun x hx => ?_⟩
        rcases List.mem_append.1 hx with q | q
        · exact hB.2 x q
        · have : x = l := by simpa using q
          subst this
          have : lastL (out ++ [x]) = x := by simp [lastL, List.getD]
          rw [this] at h2; omega

/-- The places are new, and apart. -/
structure UD (st : St) (b4 b5 bx d l : Nat) : Prop where
  s4 : st b4 = none
  s5 : st b5 = none
  sx : st bx = none
  sd : st d = none
  sl : st l = none
  n45 : b4 ≠ b5
  n4x : b4 ≠ bx
  n4d : b4 ≠ d
  n4l : b4 ≠ l
  n5x : b5 ≠ bx
  n5d : b5 ≠ d
  n5l : b5 ≠ l
  nxd : bx ≠ d
  nxl : bx ≠ l
  ndl : d ≠ l
/-- What the unfolding keeps. -/
structure UM (st : St) (b4 b5 bx d l : Nat) (v : AV) (s : List UInt8) (k : Int) (B : Blk) (β : St) : Prop where
  c4 : β b4 = some (.cells 38 0 1 [[v]])
  c5 : β b5 = some (.cells 25 0 1 [[.int .i64 k]])
  cx : β bx = some (.cells 9 0 1 [[.str s]])
  cd : β d = some (.dfr true)
  cl : β l = some B
  base : ∀ i A, st i = some A → β i = some A
section
variable {st : St} {b4 b5 bx d l : Nat} {v : AV} {s : List UInt8} {k : Int} {B : Blk} {β : St}
theorem UM.set4 (D : UD st b4 b5 bx d l) (h : UM st b4 b5 bx d l v s k B β) (v' : AV) : UM st b4 b5 bx d l v' s k B (β.set b4 (.cells 38 0 1 [[v']])) :=
  ⟨St.set_same _ _ _, by rw [St.set_ne _ _ (Ne.symm D.n45), h.c5], by rw [St.set_ne _ _ (Ne.symm D.n4x), h.cx], by rw [St.set_ne _ _ (Ne.symm D.n4d), h.cd], by rw [St.set_ne _ _ (Ne.symm D.n4l), h.cl],
    fun i A hi => by rw [St.set_ne _ _ (fun e => by rw [e, D.s4] at hi; cases hi)]; exact h.base i A hi⟩
theorem UM.set5 (D : UD st b4 b5 bx d l) (h : UM st b4 b5 bx d l v s k B β) (k' : Int) : UM st b4 b5 bx d l v s k' B (β.set b5 (.cells 25 0 1 [[.int .i64 k']])) :=
  ⟨by rw [St.set_ne _ _ D.n45, h.c4], St.set_same _ _ _, by rw [St.set_ne _ _ (Ne.symm D.n5x), h.cx], by rw [St.set_ne _ _ (Ne.symm D.n5d), h.cd], by rw [St.set_ne _ _ (Ne.symm D.n5l), h.cl],
    fun i A hi => by rw [St.set_ne _ _ (fun e => by rw [e, D.s5] at hi; cases hi)]; exact h.base i A hi⟩
theorem UM.setx (D : UD st b4 b5 bx d l) (h : UM st b4 b5 bx d l v s k B β) (s' : List UInt8) : UM st b4 b5 bx d l v s' k B (β.set bx (.cells 9 0 1 [[.str s']])) :=
  ⟨by rw [St.set_ne _ _ D.n4x, h.c4], by rw [St.set_ne _ _ D.n5x, h.c5], St.set_same _ _ _, by rw [St.set_ne _ _ (Ne.symm D.nxd), h.cd], by rw [St.set_ne _ _ (Ne.symm D.nxl), h.cl],
    fun i A hi => by rw [St.set_ne _ _ (fun e => by rw [e, D.sx] at hi; cases hi)]; exact h.base i A hi⟩
theorem UM.setl (D : UD st b4 b5 bx d l) (h : UM st b4 b5 bx d l v s k B β) (B' : Blk) : UM st b4 b5 bx d l v s k B' (β.set l B') :=
  ⟨by rw [St.set_ne _ _ D.n4l, h.c4], by rw [St.set_ne _ _ D.n5l, h.c5], by rw [St.set_ne _ _ D.nxl, h.cx], by rw [St.set_ne _ _ D.ndl, h.cd], St.set_same _ _ _,
    fun i A hi => by rw [St.set_ne _ _ (fun e => by rw [e, D.sl] at hi; cases hi)]; exact h.base i A hi⟩
/-- What stands in the base stands while the slice is owned. -/
theorem _root_.Go.Abs.SW.at {β σ : St} {t : TypeId} {sz : Nat} {v : AV} {es : List (List AV)} (h : SW β t sz v σ es) {i : Nat} {B : Blk} (hi : β i = some B) : σ i = some B := by
  rw [h.keep i (by simp [hi]), hi]
/-- An element is stored anew. -/
theorem _root_.Go.Abs.SW.setE {β σ : St} {t : TypeId} {sz : Nat} {es es' : List (List AV)} {ia g n : Nat} (h : SW β t sz (.arr ia g sz 0 n) σ es) (hl : es'.length = es.length) (hia : β ia = none) :
    SW β t sz (.arr ia g sz 0 n) (σ.set ia (.cells t g sz es')) es' := by
  refine ⟨?_, fun i hi => ?_⟩
  · rcases h.own with ⟨q, _⟩ | ⟨ia', g', q, e2, e3⟩
    · cases q
    · cases q
      exact .inr ⟨ia, g, by rw [hl], St.set_same _ _ _, e3⟩
  · rw [St.set_ne _ _ (fun e => hi (by rw [e]; exact hia))]
    exact h.keep i hi
end
end Go.Almanac

/- Lines: folding, as a plain function; unfolded it is what was folded; no piece is too long. -/
namespace Go.Almanac
open Go.RowKit Go.Proofs Go.Abs

/-- How long the first number of a text is. -/
def rl (s : List UInt8) : Nat := (rune1 s).2
theorem rl_range {s : List UInt8} (h : s ≠ []) : 1 ≤ rl s ∧ rl s ≤ s.length ∧ rl s ≤ 4 := by
  have := rune1_range s h
  exact ⟨this.1, this.2.1, this.2.2.1⟩
/-- What one number adds, and how many bytes stand in the piece then. -/
def fAdd (n : Nat) (x : List UInt8) : List UInt8 := if 75 < n + x.length then 13 :: 10 :: 32 :: x else x
def fCnt (n : Nat) (x : List UInt8) : Nat := if 75 < n + x.length then 1 + x.length else n + x.length
def foldN : Nat → List UInt8 → Nat → List UInt8
  | 0, _, _ => []
  | k + 1, s, n => if s = [] then [] else fAdd n (s.take (rl s)) ++ foldN k (s.drop (rl s)) (fCnt n (s.take (rl s)))
def foldE (s : List UInt8) : List UInt8 := foldN s.length s 0 ++ [13, 10]
def foldL (l : List (List UInt8)) : List UInt8 := (l.map foldE).flatten
theorem foldN_nil (k n : Nat) : foldN k [] n = [] := by cases k <;> simp [foldN]
theorem foldN_len : ∀ (k : Nat) (s : List UInt8) (n : Nat), (foldN k s n).length ≤ 4 * s.length
  | 0, _, _ => by simp [foldN]
  | k + 1, s, n => by
    by_cases h : s = []
    · subst h; simp [foldN]
    · have hr := rl_range h
      have ih := foldN_len k (s.drop (rl s)) (fCnt n (s.take (rl s)))
      simp only [foldN, if_neg h, List.length_append, List.length_drop] at ih ⊢
      have : (fAdd n (s.take (rl s))).length ≤ 3 + rl s := by
        unfold fAdd
        split <;> simp <;> omega
      omega

/-- The count of a line's bytes, where none is longer than 77. -/
def cntL : List UInt8 → Nat → Option Nat
  | [], n => some n
  | c :: s, n => if c = 10 then (if 77 < n + 1 then none else cntL s 0) else cntL s (n + 1)
theorem cntL_append : ∀ (a b : List UInt8) (n : Nat), cntL (a ++ b) n = (cntL a n).bind (cntL b)
  | [], b, n => by simp [cntL]
  | c :: a, b, n => by
    simp only [List.cons_append, cntL]
    split
    · split
      · simp
      · exact cntL_append a b 0
    · exact cntL_append a b (n + 1)
theorem cntL_short : ∀ (a : List UInt8) (n : Nat), n + a.length ≤ 77 → ∃ k, cntL a n = some k ∧ k ≤ n + a.length
  | [], n, _ => ⟨n, rfl, by simp⟩
  | c :: a, n, h => by
    simp only [List.length_cons] at h ⊢
    simp only [cntL]
    split
    · rw [if_neg (by omega)]
      obtain ⟨k, h1, h2⟩ := cntL_short a 0 (by omega)
      exact ⟨k, h1, by omega⟩
    · obtain ⟨k, h1, h2⟩ := cntL_short a (n + 1) (by omega)
      exact ⟨k, h1, by omega⟩
theorem cntL_add {n c : Nat} {x : List UInt8} (hc : c ≤ n) (hn : n ≤ 75) (hx : x.length ≤ 4) : fCnt n x ≤ 75 ∧ ∃ k, cntL (fAdd n x) c = some k ∧ k ≤ fCnt n x := by
  unfold fAdd fCnt
  split
  · rename_i h
    refine ⟨by omega, ?_⟩
    simp only [cntL, if_neg (show ¬ (13 : UInt8) = 10 by decide), if_neg (show ¬ (32 : UInt8) = 10 by decide), if_true]
    rw [if_neg (by omega)]
    exact cntL_short x 1 (by omega)
  · rename_i h
    refine ⟨by omega, ?_⟩
    obtain ⟨k, h1, h2⟩ := cntL_short x c (by omega)
    exact ⟨k, h1, by omega⟩
theorem cntL_foldN : ∀ (k : Nat) (s : List UInt8) (n c : Nat), c ≤ n → n ≤ 75 → ∃ c', cntL (foldN k s n) c = some c' ∧ c' ≤ 75
  | 0, _, n, c, h1, h2 => ⟨c, rfl, by omega⟩
  | k + 1, s, n, c, h1, h2 => by
    simp only [foldN]
    split
    · exact ⟨c, rfl, by omega⟩
    · rename_i h
      have hr := rl_range h
      obtain ⟨h3, j, h4, h5⟩ := cntL_add (x := s.take (rl s)) h1 h2 (by simp; omega)
      rw [cntL_append, h4]
      exact cntL_foldN k _ _ j h5 h3
theorem cntL_foldL : ∀ l : List (List UInt8), cntL (foldL l) 0 = some 0
  | [] => rfl
  | s :: l => by
    obtain ⟨c, h1, h2⟩ := cntL_foldN s.length s 0 0 (Nat.le_refl _) (by omega)
    have ih := cntL_foldL l
    simp only [foldL, List.map_cons, List.flatten_cons] at ih ⊢
    rw [cntL_append, foldE, cntL_append, h1]
    simp only [Option.bind_some, cntL, if_neg (show ¬ (13 : UInt8) = 10 by decide), if_true]
    rw [if_neg (by omega)]
    exact ih

/-- Unfolding, with all the fuel that it needs. -/
def unf (s : List UInt8) (out : List (List UInt8)) : Except Int (List (List UInt8)) := uLines (s.length + 1) s out
theorem uLines_enough : ∀ (j k : Nat) (s : List UInt8) (out : List (List UInt8)), s.length < j → s.length < k → uLines j s out = uLines k s out
  | 0, _, _, _, h, _ => by omega
  | j + 1, 0, _, _, _, h => by omega
  | j + 1, k + 1, s, out, h1, h2 => by
    simp only [uLines]
    split
    · rfl
    · rename_i h
      have := rawRest_lt h
      split
      · rfl
      · exact uLines_enough j k _ _ (by omega) (by omega)
theorem unf_nil (out : List (List UInt8)) : unf [] out = .ok out := by simp [unf, uLines]
theorem unf_ok {s : List UInt8} {out o : List (List UInt8)} (h : s ≠ []) (hs : uStep out (rawLine s) = .ok o) : unf s out = unf (rawRest s) o := by
  have := rawRest_lt h
  rw [unf, uLines, if_neg h, hs]
  exact uLines_enough _ _ _ _ (by omega) (by omega)

theorem index_line : ∀ (a r : List UInt8), 10 ∉ a → Lib.index (a ++ 10 :: r) [10] = a.length
  | [], r, _ => by simp [Lib.index, List.isPrefixOf]
  | c :: a, r, h => by
    have h1 : ¬ c = 10 := fun e => h (by simp [e])
    have ih := index_line a r (fun q => h (by simp [q]))
    have hd : Lib.index (c :: (a ++ 10 :: r)) [10] = if [10].isPrefixOf (c :: (a ++ 10 :: r)) then 0 else if Lib.index (a ++ 10 :: r) [10] == -1 then -1 else Lib.index (a ++ 10 :: r) [10] + 1 := rfl
    rw [List.cons_append, hd, ih]
    have h2 : ((10 : UInt8) == c) = false := by simpa using fun e => h1 e.symm
    simp only [List.isPrefixOf, h2, Bool.false_and, Bool.false_eq_true, if_false]
    rw [if_neg (by simp)]
    simp
theorem cut_line (a r : List UInt8) (h : 10 ∉ a) : Lib.cut (a ++ 10 :: r) [10] = (a, r, true) := by
  rw [Lib.cut, index_line a r h, if_pos (by omega)]
  simp
theorem raw_line (a r : List UInt8) (h : 10 ∉ a) : rawLine (a ++ 13 :: 10 :: r) = a ∧ rawRest (a ++ 13 :: 10 :: r) = r := by
  have e : a ++ 13 :: 10 :: r = (a ++ [13]) ++ 10 :: r := by simp
  have h2 := cut_line (a ++ [13]) r (by simp; exact h)
  rw [e]
  refine ⟨?_, by rw [rawRest, h2]⟩
  rw [rawLine, h2, if_pos rfl]
  have : Lib.hasSuffix (a ++ [13]) [13] = true := by
    rw [Lib.hasSuffix, List.isSuffixOf_iff_suffix]
    exact List.suffix_append _ _
  rw [Lib.trimSuffix, if_pos this]
  simp

theorem goesL_append {a : List UInt8} (s : List UInt8) (h : a ≠ []) : goesL (a ++ s) = goesL a := by
  obtain ⟨x, t, rfl⟩ := List.exists_cons_of_ne_nil h
  simp [goesL, Lib.hasPrefix, List.isPrefixOf]
theorem goesL_32 (s : List UInt8) : goesL (32 :: s) = true := by simp [goesL, Lib.hasPrefix, List.isPrefixOf]
theorem lastL_snoc (out : List (List UInt8)) (x : List UInt8) : lastL (out ++ [x]) = x := by simp [lastL, List.getD]
theorem lastL_set {out : List (List UInt8)} (x : List UInt8) (h : out ≠ []) : lastL (out.set (out.length - 1) x) = x := by
  have := List.length_pos_iff.2 h
  simp [lastL, List.getD, List.getElem?_set]
  rw [if_pos (by omega)]; rfl
theorem uChk_ok {out o : List (List UInt8)} (h : uChk out = .ok o) : (lastL out).length ≤ 1024 ∧ o = out := by
  unfold uChk at h
  split at h
  · cases h
  · cases h; exact ⟨by omega, rfl⟩
/-- A line in two pieces is the line. -/
theorem uStep_split {out o : List (List UInt8)} {a s : List UInt8} (ha : a ≠ []) (h : uStep out (a ++ s) = .ok o) : ∃ o1, uStep out a = .ok o1 ∧ uStep o1 (32 :: s) = .ok o := by
  unfold uStep at h
  rw [goesL_append s ha] at h
  split at h
  · cases h
  rename_i h1
  have h1' : ¬ (a = [] ∨ (goesL a = true ∧ out = [])) := by
    intro q
    rcases q with q | q
    · exact ha q
    · exact h1 (.inr q)
  split at h
  · rename_i hg
    have ho : out ≠ [] := fun e => h1 (.inr ⟨hg, e⟩)
    have hp := List.length_pos_iff.2 ho
    obtain ⟨h2, rfl⟩ := uChk_ok h
    rw [lastL_set _ ho] at h2
    have hd : (a ++ s).drop 1 = a.drop 1 ++ s := by
      obtain ⟨x, t, rfl⟩ := List.exists_cons_of_ne_nil ha
      simp
    rw [hd] at h2 ⊢
    simp only [List.length_append] at h2
    have ho1 : out.set (out.length - 1) (lastL out ++ a.drop 1) ≠ [] := by
      intro e
      have := congrArg List.length e
      rw [List.length_set, List.length_nil] at this
      omega
    refine ⟨out.set (out.length - 1) (lastL out ++ a.drop 1), ?_, ?_⟩
    · rw [uStep, if_neg h1', if_pos hg, uChk, lastL_set _ ho, if_neg (by simp only [List.length_append]; omega)]
    · rw [uStep, if_neg (by intro q; rcases q with q | q; cases q; exact ho1 q.2), if_pos (goesL_32 s), lastL_set _ ho, uChk]
      have e2 : (out.set (out.length - 1) (lastL out ++ a.drop 1)).set ((out.set (out.length - 1) (lastL out ++ a.drop 1)).length - 1) (lastL out ++ a.drop 1 ++ (32 :: s).drop 1) = out.set (out.length - 1) (lastL out ++ (a.drop 1 ++ s)) := by
        rw [List.length_set, List.set_set]
        simp
      rw [e2, lastL_set _ ho, if_neg (by simp only [List.length_append]; omega)]
  · rename_i hg
    split at h
    · cases h
    rename_i hc
    obtain ⟨h2, rfl⟩ := uChk_ok h
    rw [lastL_snoc, List.length_append] at h2
    refine ⟨out ++ [a], ?_, ?_⟩
    · rw [uStep, if_neg h1', if_neg hg, if_neg hc, uChk, lastL_snoc, if_neg (by omega)]
    · rw [uStep, if_neg (by intro q; rcases q with q | q; cases q; simp at q), if_pos (goesL_32 s), lastL_snoc, uChk]
      have e2 : (out ++ [a]).set ((out ++ [a]).length - 1) (a ++ (32 :: s).drop 1) = out ++ [a ++ s] := by
        simp
      rw [e2, lastL_snoc, if_neg (by rw [List.length_append]; omega)]
theorem unf_fold : ∀ (k : Nat) (s a : List UInt8) (n : Nat) (out o : List (List UInt8)) (rest : List UInt8), s.length ≤ k → a ≠ [] → 10 ∉ a → 10 ∉ s → uStep out (a ++ s) = .ok o →
    unf (a ++ (foldN k s n ++ 13 :: 10 :: rest)) out = unf rest o := by
  have base : ∀ (a : List UInt8) (out o : List (List UInt8)) (rest : List UInt8), 10 ∉ a → uStep out a = .ok o → unf (a ++ 13 :: 10 :: rest) out = unf rest o := by
    intro a out o rest h1 h2
    obtain ⟨e1, e2⟩ := raw_line a rest h1
    rw [unf_ok (by simp) (by rw [e1]; exact h2), e2]
  intro k
  induction k with
  | zero =>
    intro s a n out o rest hk h1 h2 h3 h4
    have : s = [] := List.length_eq_zero_iff.1 (by omega)
    subst this
    rw [List.append_nil] at h4
    simpa [foldN] using base a out o rest h2 h4
  | succ k ih =>
    intro s a n out o rest hk h1 h2 h3 h4
    by_cases h : s = []
    · subst h
      rw [List.append_nil] at h4
      simpa [foldN] using base a out o rest h2 h4
    · have hr := rl_range h
      have hs : s.take (rl s) ++ s.drop (rl s) = s := List.take_append_drop _ _
      have m1 : 10 ∉ s.take (rl s) := fun q => h3 (List.mem_of_mem_take q)
      have m2 : 10 ∉ s.drop (rl s) := fun q => h3 (List.mem_of_mem_drop q)
      have hl : (s.drop (rl s)).length ≤ k := by simp; omega
      simp only [foldN, if_neg h]
      generalize s.take (rl s) = x at *
      generalize s.drop (rl s) = y at *
      unfold fAdd
      split
      · obtain ⟨o1, g1, g2⟩ := uStep_split (s := x ++ y) h1 (by rw [hs]; exact h4)
        have e : a ++ ((13 :: 10 :: 32 :: x) ++ foldN k y (fCnt n x) ++ 13 :: 10 :: rest) = a ++ 13 :: 10 :: ((32 :: x) ++ (foldN k y (fCnt n x) ++ 13 :: 10 :: rest)) := by simp
        rw [e, base a out o1 _ h2 g1]
        exact ih y (32 :: x) _ o1 o rest hl (by simp) (by simp; exact m1) m2 (by simpa using g2)
      · have e : a ++ (x ++ foldN k y (fCnt n x) ++ 13 :: 10 :: rest) = (a ++ x) ++ (foldN k y (fCnt n x) ++ 13 :: 10 :: rest) := by simp
        rw [e]
        exact ih y (a ++ x) _ out o rest hl (by simp [h1]) (by simp; exact ⟨h2, m1⟩) m2 (by rw [List.append_assoc, hs]; exact h4)
/-- A line that is found again where it is folded. -/
structure GoodL (s : List UInt8) : Prop where
  ne : s ≠ []
  le : s.length ≤ 1024
  goes : goesL s = false
  nl : 10 ∉ s
theorem unf_line {s rest : List UInt8} {out : List (List UInt8)} (h : GoodL s) (hc : out.length < 400) : unf (foldE s ++ rest) out = unf rest (out ++ [s]) := by
  have hr := rl_range h.ne
  have hs : s.take (rl s) ++ s.drop (rl s) = s := List.take_append_drop _ _
  have hst : uStep out s = .ok (out ++ [s]) := by
    rw [uStep, if_neg (by intro q; rcases q with q | q; exact h.ne q; rw [h.goes] at q; cases q.1), if_neg (by rw [h.goes]; decide), if_neg (by omega), uChk, lastL_snoc, if_neg (by have := h.le; omega)]
  obtain ⟨k, hk⟩ : ∃ k, s.length = k + 1 := ⟨s.length - 1, by omega⟩
  have hl : (s.drop (rl s)).length ≤ k := by simp; omega
  rw [foldE, hk]
  simp only [foldN, if_neg h.ne]
  have hx : (s.take (rl s)).length ≤ 4 := by simp; omega
  have hx0 : s.take (rl s) ≠ [] := by intro e; have := congrArg List.length e; rw [List.length_take, List.length_nil] at this; omega
  have m1 : 10 ∉ s.take (rl s) := fun q => h.nl (List.mem_of_mem_take q)
  have m2 : 10 ∉ s.drop (rl s) := fun q => h.nl (List.mem_of_mem_drop q)
  generalize s.take (rl s) = x at *
  generalize s.drop (rl s) = y at *
  have e : fAdd 0 x = x := by rw [fAdd, if_neg (by omega)]
  rw [e]
  have e2 : x ++ foldN k y (fCnt 0 x) ++ [13, 10] ++ rest = x ++ (foldN k y (fCnt 0 x) ++ 13 :: 10 :: rest) := by simp
  rw [e2]
  exact unf_fold k y x _ out _ rest hl hx0 m1 m2 (by rw [hs]; exact hst)
theorem unf_foldL : ∀ (l out : List (List UInt8)), out.length + l.length ≤ 400 → (∀ s ∈ l, GoodL s) → unf (foldL l) out = .ok (out ++ l)
  | [], out, _, _ => by rw [List.append_nil]; exact unf_nil out
  | s :: l, out, hc, h => by
    simp only [List.length_cons] at hc
    have ih := unf_foldL l (out ++ [s]) (by simp; omega) (fun x hx => h x (by simp [hx]))
    simp only [foldL, List.map_cons, List.flatten_cons] at ih ⊢
    rw [unf_line (h s (by simp)) (by omega), ih]
    simp
/-- LINES FOLDED AND UNFOLDED ARE THE LINES. -/
theorem unfold_fold {l : List (List UInt8)} (hc : l.length ≤ 400) (h : ∀ s ∈ l, GoodL s) (hs : (foldL l).length ≤ 8192) : unfoldT (foldL l) = .ok l := by
  rw [unfoldT, if_neg (by omega)]
  exact unf_foldL l [] (by simpa using hc) h
end Go.Almanac

/- Lines: what is printed of a property is read as the property (plain law). -/
namespace Go.Almanac
open Go.RowKit Go.Proofs Go.Abs

theorem twn_app (p : UInt8 → Bool) : ∀ (a r : List UInt8), a.all p = true → (∀ c t, r = c :: t → p c = false) → twn p (a ++ r) = a.length
  | [], r, _, h => by
    cases r with
    | nil => rfl
    | cons c t => simp [twn, h c t rfl]
  | x :: a, r, ha, h => by
    simp only [List.all_cons, Bool.and_eq_true] at ha
    have := twn_app p a r ha.2 h
    simp only [twn, List.cons_append, List.takeWhile_cons, ha.1, if_true, List.length_cons] at this ⊢
    rw [this]
theorem pName_app {n r : List UInt8} (h : isNameL n = true) (hr : ∀ c t, r = c :: t → nameB c = false) : pName (n ++ r) = .ok (n, r) := by
  simp only [isNameL, Bool.and_eq_true, decide_eq_true_eq] at h
  obtain ⟨h1, ⟨h2, h3⟩, h4⟩ := h
  have hp := List.length_pos_iff.2 h2
  rw [pName, twn_app nameB n r h1 hr, if_neg (by omega), if_neg (by omega), List.take_left, List.drop_left, h4]
theorem pMust_cons (c : UInt8) (r : List UInt8) : pMust c (c :: r) = .ok r := by simp [pMust]
theorem hasPre (c x : UInt8) (r : List UInt8) : Lib.hasPrefix (x :: r) [c] = (c == x) := by simp [Lib.hasPrefix, List.isPrefixOf]

theorem idx4 : ∀ n, n < 256 → (decide (idx [34, 44, 59, 58] (UInt8.ofNat n) < 0)) = !(UInt8.ofNat n == 34 || UInt8.ofNat n == 44 || UInt8.ofNat n == 59 || UInt8.ofNat n == 58) := by decide +kernel
theorem vn_eq (c : UInt8) : vn c = (!ctl c && !(c == 34 || c == 44 || c == 59 || c == 58)) := by
  have := idx4 c.toNat (UInt8.toNat_lt _)
  rw [UInt8.ofNat_toNat] at this
  rw [vn, this]
theorem idx34q : ∀ n, n < 256 → decide (idx [34] (UInt8.ofNat n) ≥ 0) = (UInt8.ofNat n == 34) := by decide +kernel
theorem vq34 : ∀ n, n < 256 → (((UInt8.ofNat n).toNat : Int) != 34) = !(UInt8.ofNat n == 34) := by decide +kernel
theorem vq_eq (c : UInt8) : vq c = (!(ctl c || decide (idx [34] c ≥ 0))) := by
  have h1 := idx34q c.toNat (UInt8.toNat_lt _)
  have h2 := vq34 c.toNat (UInt8.toNat_lt _)
  rw [UInt8.ofNat_toNat] at h1 h2
  rw [vq, h1, h2]
  cases ctl c <;> simp
theorem valP_all {v : List UInt8} (h : valP v = true) : v.all vq = true ∧ valid v = true := by
  simp only [valP, plainL, Bool.and_eq_true] at h
  refine ⟨?_, h.2⟩
  rw [List.all_eq_true] at *
  intro c hc
  rw [vq_eq]; exact h.1 c hc
theorem pValue_app {v r : List UInt8} {c : UInt8} (h : valP v = true) (hc : c = 44 ∨ c = 59 ∨ c = 58) : pValue (quoteV v ++ c :: r) = .ok (v, c :: r) := by
  obtain ⟨h1, _⟩ := valP_all h
  unfold quoteV
  split
  · have e : twn vq (v ++ 34 :: (c :: r)) = v.length := twn_app vq v _ h1 (fun x t q => by cases q; decide)
    rw [pValue]
    simp only [List.cons_append, List.append_assoc, List.nil_append, hasPre, BEq.rfl, if_true, List.drop_succ_cons, List.drop_zero, e, List.drop_left, List.take_left, pMust_cons]
  · rename_i hq
    have hq' : needsQ v = false := by simpa using hq
    rw [needsQ, anyOf, List.any_eq_false] at hq'
    have h2 : v.all vn = true := by
      rw [List.all_eq_true] at h1 ⊢
      intro x hx
      have a1 := h1 x hx
      have a2 := hq' x hx
      simp only [List.contains_iff_mem, List.mem_cons, List.not_mem_nil, or_false, not_or] at a2
      rw [vn_eq]
      have a3 : ctl x = false ∧ (x == 34) = false := by
        have := vq34 x.toNat (UInt8.toNat_lt _)
        rw [UInt8.ofNat_toNat] at this
        rw [vq, this] at a1
        simp only [Bool.and_eq_true, Bool.not_eq_true'] at a1
        exact a1
      rw [a3.1, a3.2, beq_eq_false_iff_ne.2 a2.1, beq_eq_false_iff_ne.2 a2.2.1, beq_eq_false_iff_ne.2 a2.2.2]
      rfl
    have h3 : vn c = false := by rcases hc with rfl | rfl | rfl <;> decide
    have e : twn vn (v ++ c :: r) = v.length := twn_app vn v _ h2 (fun x t q => by cases q; exact h3)
    have h4 : Lib.hasPrefix (v ++ c :: r) [34] = false := by
      cases v with
      | nil => rw [List.nil_append, hasPre]; rcases hc with rfl | rfl | rfl <;> decide
      | cons x v =>
        rw [List.cons_append, hasPre]
        simp only [List.all_cons, Bool.and_eq_true] at h1
        have a1 := h1.1
        rw [vq_eq] at a1
        have := idx34q x.toNat (UInt8.toNat_lt _)
        rw [UInt8.ofNat_toNat] at this
        rw [this] at a1
        cases hx : x == 34
        · rw [beq_eq_false_iff_ne] at hx ⊢; exact fun e => hx e.symm
        · rw [hx] at a1; simp at a1
    rw [pValue, h4, if_neg (by decide), e, List.take_left, List.drop_left]
theorem pVals_app (c : UInt8) (r : List UInt8) (hc : c = 59 ∨ c = 58) : ∀ (vs acc : List (List UInt8)) (n : Nat), vs ≠ [] → (∀ v ∈ vs, valP v = true) → vs.length ≤ n → pVals n (Lib.join (vs.map quoteV) [44] ++ c :: r) acc = .ok (acc ++ vs, c :: r)
  | [], _, _, h, _, _ => absurd rfl h
  | [v], acc, 0, _, _, h => by simp at h
  | [v], acc, n + 1, _, h, _ => by
    have h1 : pValue (Lib.join ([v].map quoteV) [44] ++ c :: r) = .ok (v, c :: r) := by
      have : Lib.join ([v].map quoteV) [44] = quoteV v := by simp [Lib.join, List.intercalate]
      rw [this]; exact pValue_app (h v (by simp)) (.inr hc)
    simp only [pVals, h1, hasPre]
    rw [if_neg (by rcases hc with rfl | rfl <;> decide)]
  | v :: w :: vs, acc, 0, _, _, h => by simp at h
  | v :: w :: vs, acc, n + 1, _, h, hn => by
    have h1 : pValue (Lib.join ((v :: w :: vs).map quoteV) [44] ++ c :: r) = .ok (v, 44 :: (Lib.join ((w :: vs).map quoteV) [44] ++ c :: r)) := by
      have : Lib.join ((v :: w :: vs).map quoteV) [44] = quoteV v ++ 44 :: Lib.join ((w :: vs).map quoteV) [44] := by simp [Lib.join, List.intercalate]
      rw [this, List.append_assoc, List.cons_append]; exact pValue_app (h v (by simp)) (.inl rfl)
    simp only [pVals, h1, hasPre, BEq.rfl, if_true, List.drop_succ_cons, List.drop_zero]
    rw [pVals_app c r hc (w :: vs) (acc ++ [v]) n (by simp) (fun x hx => h x (by simp only [List.mem_cons] at hx ⊢; exact .inr hx)) (by simp only [List.length_cons] at hn ⊢; omega)]
    simp
theorem join_count (l : List (List UInt8)) : l.length ≤ (Lib.join l [44]).length + 1 := by
  induction l with
  | nil => simp
  | cons a l ih =>
    cases l with
    | nil => simp
    | cons b l =>
      have : Lib.join (a :: b :: l) [44] = a ++ 44 :: Lib.join (b :: l) [44] := by simp [Lib.join, List.intercalate]
      rw [this]
      simp only [List.length_cons, List.length_append] at ih ⊢
      omega
theorem pParam_app {x : ParamD} {c : UInt8} {r : List UInt8} (hx : badP x = false) (hc : c = 59 ∨ c = 58) : pParam ((paramW x).drop 1 ++ c :: r) = .ok (x, c :: r) := by
  simp only [badP, Bool.or_eq_false_iff, Bool.not_eq_false', decide_eq_false_iff_not, List.any_eq_false, Bool.not_eq_true', Bool.not_eq_false] at hx
  obtain ⟨h1, h2, h3⟩ := hx
  have e : (paramW x).drop 1 ++ c :: r = x.name ++ 61 :: (Lib.join (x.values.map quoteV) [44] ++ c :: r) := by simp [paramW]
  have hj := join_count (x.values.map quoteV)
  rw [List.length_map] at hj
  rw [e, pParam, pName_app h1 (fun y t q => by cases q; decide)]
  simp only [pMust_cons]
  rw [pVals_app c r hc x.values [] _ (fun q => h2 (by rw [q]; rfl)) h3 (by simp only [List.length_append]; omega)]
  rfl
theorem pParams_app (v : List UInt8) : ∀ (ps acc : List ParamD) (n : Nat), acc.length + ps.length ≤ 16 → (∀ x ∈ ps, badP x = false) → ps.length < n → pParams n ((ps.map paramW).flatten ++ 58 :: v) acc = .ok (acc ++ ps, 58 :: v)
  | _, _, 0, _, _, h => by omega
  | [], acc, n + 1, _, _, _ => by
    simp only [List.map_nil, List.flatten_nil, List.nil_append, pParams, hasPre]
    rw [if_neg (by decide), List.append_nil]
  | x :: ps, acc, n + 1, hc, h, hn => by
    simp only [List.length_cons] at hc hn
    have e : ((x :: ps).map paramW).flatten ++ 58 :: v = 59 :: ((paramW x).drop 1 ++ ((ps.map paramW).flatten ++ 58 :: v)) := by simp [paramW]
    have hp : pParam ((paramW x).drop 1 ++ ((ps.map paramW).flatten ++ 58 :: v)) = .ok (x, (ps.map paramW).flatten ++ 58 :: v) := by
      cases ps with
      | nil => exact pParam_app (h x (by simp)) (.inr rfl)
      | cons y ps =>
        have e2 : ((y :: ps).map paramW).flatten ++ 58 :: v = 59 :: ((paramW y).drop 1 ++ ((ps.map paramW).flatten ++ 58 :: v)) := by simp [paramW]
        rw [e2]
        exact pParam_app (h x (by simp)) (.inl rfl)
    rw [e]
    simp only [pParams, hasPre, BEq.rfl, if_true, List.drop_succ_cons, List.drop_zero, hp]
    rw [if_neg (by omega), pParams_app v ps (acc ++ [x]) n (by simp; omega) (fun y hy => h y (by simp [hy])) (by omega)]
    simp

theorem valid_nil : valid [] = true := rfl
theorem valid_asc {c : UInt8} {s : List UInt8} (hc : c.toNat < 128) : valid (c :: s) = valid s := by
  have h0 : (c :: s) ≠ [] := by simp
  have : rune1 (c :: s) = (c.toNat, 1) := by
    rw [rune1_eq _ h0, Lib.decodeN, if_pos (by simpa using hc)]
    simp
  rw [valid_step h0, this, if_neg (by omega)]
  rfl
theorem valid_ascii : ∀ {s : List UInt8}, (∀ c ∈ s, c.toNat < 128) → valid s = true
  | [], _ => rfl
  | c :: s, h => by rw [valid_asc (h c (by simp))]; exact valid_ascii (fun x hx => h x (by simp [hx]))
theorem valid_app {a b : List UInt8} (ha : valid a = true) (hb : valid b = true) : valid (a ++ b) = true := valid_append a.length a b (Nat.le_refl _) ha hb
theorem nameB_ascii (c : UInt8) (h : nameB c = true) : c.toNat < 128 := by
  simp [nameB] at h; omega
theorem isNameL_valid {n : List UInt8} (h : isNameL n = true) : valid n = true := by
  simp only [isNameL, Bool.and_eq_true, List.all_eq_true] at h
  exact valid_ascii fun c hc => nameB_ascii c (h.1 c hc)
theorem quoteV_valid {v : List UInt8} (h : valid v = true) : valid (quoteV v) = true := by
  unfold quoteV
  split
  · rw [valid_asc (by decide)]; exact valid_app h (valid_ascii (by simp))
  · exact h
theorem join_valid : ∀ l : List (List UInt8), (∀ v ∈ l, valid v = true) → valid (Lib.join l [44]) = true
  | [], _ => rfl
  | [a], h => by
    have : Lib.join [a] [44] = a := by simp [Lib.join, List.intercalate]
    rw [this]; exact h a (by simp)
  | a :: b :: l, h => by
    have : Lib.join (a :: b :: l) [44] = a ++ 44 :: Lib.join (b :: l) [44] := by simp [Lib.join, List.intercalate]
    rw [this]
    refine valid_app (h a (by simp)) ?_
    rw [valid_asc (by decide)]
    exact join_valid (b :: l) fun v hv => h v (by simp only [List.mem_cons] at hv ⊢; exact .inr hv)
theorem paramW_valid {x : ParamD} (hx : badP x = false) : valid (paramW x) = true := by
  simp only [badP, Bool.or_eq_false_iff, Bool.not_eq_false', decide_eq_false_iff_not, List.any_eq_false, Bool.not_eq_true', Bool.not_eq_false] at hx
  obtain ⟨h1, h2, h3⟩ := hx
  rw [paramW, valid_asc (by decide)]
  refine valid_app (isNameL_valid h1) ?_
  rw [valid_asc (by decide)]
  refine join_valid _ fun v hv => ?_
  obtain ⟨u, hu, rfl⟩ := List.mem_map.1 hv
  exact quoteV_valid (valP_all (h3 u hu)).2
theorem flat_valid : ∀ l : List ParamD, (∀ x ∈ l, badP x = false) → valid (l.map paramW).flatten = true
  | [], _ => rfl
  | x :: l, h => by
    simp only [List.map_cons, List.flatten_cons]
    exact valid_app (paramW_valid (h x (by simp))) (flat_valid l fun y hy => h y (by simp [hy]))
theorem params_count (l : List ParamD) : l.length ≤ ((l.map paramW).flatten).length := by
  induction l with
  | nil => simp
  | cons x l ih =>
    simp only [List.map_cons, List.flatten_cons, List.length_append, List.length_cons]
    have : 1 ≤ (paramW x).length := by simp [paramW]
    omega
/-- WHAT IS WRITTEN OF A PROPERTY THAT CAN BE IS READ AS IT. -/
theorem parse_written {p : PropD} (h : fitL p = true) : parseL (writtenL p) = .ok p := by
  simp only [fitL, Bool.and_eq_true, decide_eq_true_eq, Bool.not_eq_true', List.any_eq_false, Bool.not_eq_true] at h
  obtain ⟨⟨⟨⟨h1, h2⟩, h3⟩, h4⟩, h5⟩ := h
  have hv : valid p.value = true := by
    simp only [plainL, Bool.and_eq_true] at h3; exact h3.2
  have hval : valid (writtenL p) = true := by
    refine valid_app (isNameL_valid h1) (valid_app (flat_valid _ h4) ?_)
    rw [valid_asc (by decide)]; exact hv
  have hn : pName (writtenL p) = .ok (p.name, (p.params.map paramW).flatten ++ 58 :: p.value) := by
    refine pName_app h1 fun c t q => ?_
    cases hp : p.params with
    | nil => rw [hp] at q; simp at q; rw [← q.1]; decide
    | cons x l => rw [hp] at q; simp [paramW] at q; rw [← q.1]; decide
  have hc := params_count p.params
  have hps : pParams (((p.params.map paramW).flatten ++ 58 :: p.value).length + 1) ((p.params.map paramW).flatten ++ 58 :: p.value) [] = .ok (p.params, 58 :: p.value) := by
    have := pParams_app p.value p.params [] (((p.params.map paramW).flatten ++ 58 :: p.value).length + 1) (by simpa using h2) h4 (by simp only [List.length_append]; omega)
    simpa using this
  rw [parseL, if_neg (by omega), if_neg (by rw [hval]; decide), hn]
  simp only [hps, pMust_cons, h3, if_true]
theorem parse_print {p : PropD} (h : printL p ≠ []) : parseL (printL p) = .ok p := by
  unfold printL at h ⊢
  split at h
  · rename_i hf; rw [if_pos hf]; exact parse_written hf
  · exact absurd rfl h
end Go.Almanac
