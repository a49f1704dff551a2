/- Lines: a property is read. -/
import Derived.Test.YtkkckfnkejijdaaDoorM8
/- Lines: a property is read. -/
namespace Go.Almanac
open Go.RowKit Go.Proofs Go.Abs

set_option linter.unusedSimpArgs false
set_option linter.unusedVariables false
set_option linter.unusedSectionVars false
set_option maxRecDepth 10000

structure PropD where
  name : List UInt8
  params : List ParamD
  value : List UInt8
def paramsE (l : List ParamD) : List (List AV) := l.map encParam
@[simp] theorem paramsE_length (l : List ParamD) : (paramsE l).length = l.length := by simp [paramsE]
theorem paramsE_nil {l : List ParamD} : paramsE l = [] ↔ l = [] := by simp [paramsE]
def encProp (p : PropD) : List AV := [.str p.name, .tree 2 (paramsE p.params), .str p.value]

def pParams : Nat → List UInt8 → List ParamD → Except Int (List ParamD × List UInt8)
  | 0, _, _ => .error 1
  | n + 1, s, acc =>
    if Lib.hasPrefix s [59] = true then
      if acc.length = 16 then .error 27
      else match pParam (s.drop 1) with
        | .error k => .error k
        | .ok (x, r) => pParams n r (acc ++ [x])
    else .ok (acc, s)
def parseL (s : List UInt8) : Except Int PropD :=
  if 1024 < s.length then .error 12
  else if valid s = false then .error 10
  else match pName s with
    | .error k => .error k
    | .ok (n, r) =>
      match pParams (r.length + 1) r [] with
      | .error k => .error k
      | .ok (ps, r) =>
        match pMust 58 r with
        | .error k => .error k
        | .ok v => if plainL v [] = true then .ok ⟨n, ps, v⟩ else .error 10
def parseR : Except Int PropD → AV
  | .ok p => .tup [.agg (encProp p), .int .i64 0]
  | .error k => .tup [.agg (encProp ⟨[], [], []⟩), .int .i64 k]

theorem pVals_len : ∀ (n : Nat) (s : List UInt8) (acc vs : List (List UInt8)) (r : List UInt8), pVals n s acc = .ok (vs, r) → r.length ≤ s.length
  | 0, _, _, _, _, h => by simp [pVals] at h
  | n + 1, s, acc, vs, r, h => by
    simp only [pVals] at h
    split at h
    · cases h
    · rename_i v r' hv
      have h1 := pValue_len hv
      split at h
      · have := pVals_len n _ _ _ _ h
        simp at this; omega
      · cases h; exact h1
theorem pParam_len {s r : List UInt8} {x : ParamD} (h : pParam s = .ok (x, r)) : r.length ≤ s.length := by
  unfold pParam at h
  split at h
  · cases h
  · rename_i n r1 h1
    have q1 := pName_len h1
    split at h
    · cases h
    · rename_i r2 h2
      have q2 := pMust_len h2
      split at h
      · cases h
      · rename_i vs r3 h3
        have q3 := pVals_len _ _ _ _ _ h3
        cases h; omega

/-- What the loop over parameters owes. -/
def paramsTo (Q : Except Int PropD) (n : List UInt8) : Except Int (List ParamD × List UInt8) → Prop
  | .error k => Q = .error k
  | .ok (ps, r) => Q = match pMust 58 r with
        | .error k => .error k
        | .ok v => if plainL v [] = true then .ok ⟨n, ps, v⟩ else .error 10

theorem encParam_cells (x : ParamD) : (encParam x).length = 2 ∧ (∀ c ∈ encParam x, isCell c = true) ∧ (encParam x).all isCell = true := by
  refine ⟨rfl, fun c hc => ?_, rfl⟩
  simp only [encParam, List.mem_cons, List.not_mem_nil, or_false] at hc
  rcases hc with rfl | rfl <;> rfl

theorem t_Parse (m : Int) (s : List UInt8) (hs0 : s.length ≤ 9223372036854775807) (st : St) :
    ACalls (Ev (Gt m)) 6 [.str s] st (fun e st' => st' = st ∧ e = .ret (parseR (parseL s))) := by
  refine ACalls.thawL (R' := fun x st1 => (∃ k, x = .ret (.tup [.agg [.str [], .nils, .str []], .int .i64 k]) ∧ st.sub st1 ∧ parseL s = .error k) ∨
      (∃ β v n ps val, SW β 51 2 v st1 (paramsE ps) ∧ st.sub β ∧ x = .ret (.tup [.agg [.str n, v, .str val], .int .i64 0]) ∧ parseL s = .ok ⟨n, ps, val⟩)) ?_ ?_
  · refine ACalls.of_body Tryd.func6 rfl ?_
    rw [Tryd.ntmps6]
    simp only [List.length_cons, List.length_nil, Nat.reduceAdd, Nat.reduceSub, List.replicate_succ, List.replicate_zero, List.cons_append, List.nil_append]
    (repeat' (first | refine AW.seq ?_ | refine AW.scope ?_ | refine AW.label ?_ | refine AW.block ?_ | refine AW.skip ?_ | refine AW.exit ?_ | refine AW.ret ?_))
    (refine AW.regionC fun Q' Kn hQ hK hK' => ?_; (repeat simp (disch := omega) only [go_sem, redN, Nat.reduceAdd, Int.reduceToNat, Int.reducePow]); (repeat' refine And.intro ?_ ?_); (try any_goals (first | (refine hK _ _ ?_; clear hK' hQ hK Q' Kn) | (intro hq9; refine ⟨hq9, ?_⟩; simp only [redB] at hq9; omega) | (intro hq9; refine ⟨hq9, fun hq8 => ?_⟩; rw [hq9, hq8]; rfl) | (simp; done) | omega | (simp only [redL]; omega) | (simp; omega) | (intros; (repeat' refine And.intro ?_ ?_) <;> (first | assumption | omega | (simp; done))))))
    refine AOp.alloc rfl (by simp only [go_sem]; rfl) fun bc hbc => ?_
    (refine AOpsC_ok hK' _ _ _ ?_; (repeat simp (disch := omega) only [go_sem, redN, Nat.reduceAdd, Int.reduceToNat, Int.reducePow]); (repeat' refine And.intro ?_ ?_); (try any_goals (first | (refine hK _ _ ?_; clear hK' hQ hK Q' Kn) | (intro hq9; refine ⟨hq9, ?_⟩; simp only [redB] at hq9; omega) | (intro hq9; refine ⟨hq9, fun hq8 => ?_⟩; rw [hq9, hq8]; rfl) | (simp; done) | omega | (simp only [redL]; omega) | (simp; omega) | (intros; (repeat' refine And.intro ?_ ?_) <;> (first | assumption | omega | (simp; done))))))
    (repeat' (first | refine AW.seq ?_ | refine AW.scope ?_ | refine AW.label ?_ | refine AW.block ?_ | refine AW.skip ?_ | refine AW.exit ?_ | refine AW.ret ?_ | (refine AW.regionC fun Q' Kn hQ hK hK' => ?_; (repeat simp (disch := omega) only [go_sem, redN, Nat.reduceAdd, Int.reduceToNat, Int.reducePow]); (repeat' refine And.intro ?_ ?_); (try any_goals (first | (refine hK _ _ ?_; clear hK' hQ hK Q' Kn) | (intro hq9; refine ⟨hq9, ?_⟩; simp only [redB] at hq9; omega) | (intro hq9; refine ⟨hq9, fun hq8 => ?_⟩; rw [hq9, hq8]; rfl) | (simp; done) | omega | (simp only [redL]; omega) | (simp; omega) | (intros; (repeat' refine And.intro ?_ ?_) <;> (first | assumption | omega | (simp; done)))))) | (refine AW.cond (by simp (disch := omega) only [go_sem, redN, Nat.reduceAdd, Int.reduceToNat, Int.reducePow]; rfl) (fun hb => ?_) (fun hb => ?_) <;> (try simp only [redB] at hb))))
    · refine AOp.storeAll (cs := [.str [], .nils, .str []]) rfl (by simp only [go_sem] <;> rfl) (by simp [go_sem]) (St.set_same _ _ _) (by first | (simp only [go_sem]; done) | (simp [go_sem]; done) | (simp [go_sem]; omega)) (by simp [go_sem, isCell]) rfl rfl rfl ?_
      (refine AOpsC_ok hK' _ _ _ ?_; (repeat simp (disch := omega) only [go_sem, redN, Nat.reduceAdd, Int.reduceToNat, Int.reducePow]); (repeat' refine And.intro ?_ ?_); (try any_goals (first | (refine hK _ _ ?_; clear hK' hQ hK Q' Kn) | (intro hq9; refine ⟨hq9, ?_⟩; simp only [redB] at hq9; omega) | (intro hq9; refine ⟨hq9, fun hq8 => ?_⟩; rw [hq9, hq8]; rfl) | (simp; done) | omega | (simp only [redL]; omega) | (simp; omega) | (intros; (repeat' refine And.intro ?_ ?_) <;> (first | assumption | omega | (simp; done))))))
      (repeat' (first | refine AW.seq ?_ | refine AW.scope ?_ | refine AW.label ?_ | refine AW.block ?_ | refine AW.skip ?_ | refine AW.exit ?_ | refine AW.ret ?_ | (refine AW.regionC fun Q' Kn hQ hK hK' => ?_; (repeat simp (disch := omega) only [go_sem, redN, Nat.reduceAdd, Int.reduceToNat, Int.reducePow]); (repeat' refine And.intro ?_ ?_); (try any_goals (first | (refine hK _ _ ?_; clear hK' hQ hK Q' Kn) | (intro hq9; refine ⟨hq9, ?_⟩; simp only [redB] at hq9; omega) | (intro hq9; refine ⟨hq9, fun hq8 => ?_⟩; rw [hq9, hq8]; rfl) | (simp; done) | omega | (simp only [redL]; omega) | (simp; omega) | (intros; (repeat' refine And.intro ?_ ?_) <;> (first | assumption | omega | (simp; done)))))) | (refine AW.cond (by simp (disch := omega) only [go_sem, redN, Nat.reduceAdd, Int.reduceToNat, Int.reducePow]; rfl) (fun hb => ?_) (fun hb => ?_) <;> (try simp only [redB] at hb))))
      simp only [AInBlock, AThen, ANoGoto]
      refine ABody.ofRess (vs := [.agg [.str [], .nils, .str []], .int .i64 12]) rfl (aRess_cell (aLoad_all (St.set_same _ _ _) rfl rfl rfl) (aRess_tmp aRess_nil)) ?_
      exact .inl ⟨12, rfl, by rw [St.set_set]; exact St.sub_set (St.sub_refl st) hbc _, by rw [parseL, if_pos (by omega)]⟩
    have h24 : ¬ 1024 < s.length := by omega
    have hs : s.length ≤ 4611686018427387904 := by omega
    refine AOp.call rfl (by simp only [go_sem]; rfl) (by simp [go_sem]) rfl (ACalls.mono (by simp only [go_sem]; exact t_Valid m s hs _) ?_)
    rintro e st' ⟨rfl, rfl⟩
    (refine AOpsC_ok hK' _ _ _ ?_; (repeat simp (disch := omega) only [go_sem, redN, Nat.reduceAdd, Int.reduceToNat, Int.reducePow]); (repeat' refine And.intro ?_ ?_); (try any_goals (first | (refine hK _ _ ?_; clear hK' hQ hK Q' Kn) | (intro hq9; refine ⟨hq9, ?_⟩; simp only [redB] at hq9; omega) | (intro hq9; refine ⟨hq9, fun hq8 => ?_⟩; rw [hq9, hq8]; rfl) | (simp; done) | omega | (simp only [redL]; omega) | (simp; omega) | (intros; (repeat' refine And.intro ?_ ?_) <;> (first | assumption | omega | (simp; done))))))
    (repeat' (first | refine AW.seq ?_ | refine AW.scope ?_ | refine AW.label ?_ | refine AW.block ?_ | refine AW.skip ?_ | refine AW.exit ?_ | refine AW.ret ?_ | (refine AW.regionC fun Q' Kn hQ hK hK' => ?_; (repeat simp (disch := omega) only [go_sem, redN, Nat.reduceAdd, Int.reduceToNat, Int.reducePow]); (repeat' refine And.intro ?_ ?_); (try any_goals (first | (refine hK _ _ ?_; clear hK' hQ hK Q' Kn) | (intro hq9; refine ⟨hq9, ?_⟩; simp only [redB] at hq9; omega) | (intro hq9; refine ⟨hq9, fun hq8 => ?_⟩; rw [hq9, hq8]; rfl) | (simp; done) | omega | (simp only [redL]; omega) | (simp; omega) | (intros; (repeat' refine And.intro ?_ ?_) <;> (first | assumption | omega | (simp; done)))))) | (refine AW.cond (by simp (disch := omega) only [go_sem, redN, Nat.reduceAdd, Int.reduceToNat, Int.reducePow]; rfl) (fun hb => ?_) (fun hb => ?_) <;> (try simp only [redB] at hb))))
    · refine AOp.storeAll (cs := [.str [], .nils, .str []]) rfl (by simp only [go_sem] <;> rfl) (by simp [go_sem]) (St.set_same _ _ _) (by first | (simp only [go_sem]; done) | (simp [go_sem]; done) | (simp [go_sem]; omega)) (by simp [go_sem, isCell]) rfl rfl rfl ?_
      (refine AOpsC_ok hK' _ _ _ ?_; (repeat simp (disch := omega) only [go_sem, redN, Nat.reduceAdd, Int.reduceToNat, Int.reducePow]); (repeat' refine And.intro ?_ ?_); (try any_goals (first | (refine hK _ _ ?_; clear hK' hQ hK Q' Kn) | (intro hq9; refine ⟨hq9, ?_⟩; simp only [redB] at hq9; omega) | (intro hq9; refine ⟨hq9, fun hq8 => ?_⟩; rw [hq9, hq8]; rfl) | (simp; done) | omega | (simp only [redL]; omega) | (simp; omega) | (intros; (repeat' refine And.intro ?_ ?_) <;> (first | assumption | omega | (simp; done))))))
      (repeat' (first | refine AW.seq ?_ | refine AW.scope ?_ | refine AW.label ?_ | refine AW.block ?_ | refine AW.skip ?_ | refine AW.exit ?_ | refine AW.ret ?_ | (refine AW.regionC fun Q' Kn hQ hK hK' => ?_; (repeat simp (disch := omega) only [go_sem, redN, Nat.reduceAdd, Int.reduceToNat, Int.reducePow]); (repeat' refine And.intro ?_ ?_); (try any_goals (first | (refine hK _ _ ?_; clear hK' hQ hK Q' Kn) | (intro hq9; refine ⟨hq9, ?_⟩; simp only [redB] at hq9; omega) | (intro hq9; refine ⟨hq9, fun hq8 => ?_⟩; rw [hq9, hq8]; rfl) | (simp; done) | omega | (simp only [redL]; omega) | (simp; omega) | (intros; (repeat' refine And.intro ?_ ?_) <;> (first | assumption | omega | (simp; done)))))) | (refine AW.cond (by simp (disch := omega) only [go_sem, redN, Nat.reduceAdd, Int.reduceToNat, Int.reducePow]; rfl) (fun hb => ?_) (fun hb => ?_) <;> (try simp only [redB] at hb))))
      simp only [AInBlock, AThen, ANoGoto]
      refine ABody.ofRess (vs := [.agg [.str [], .nils, .str []], .int .i64 10]) rfl (aRess_cell (aLoad_all (St.set_same _ _ _) rfl rfl rfl) (aRess_tmp aRess_nil)) ?_
      exact .inl ⟨10, rfl, by rw [St.set_set]; exact St.sub_set (St.sub_refl st) hbc _, by rw [parseL, if_neg h24, if_pos hb]⟩
    have hv : ¬ valid s = false := by rw [hb]; decide
    refine AOp.box rfl (by simp [go_sem]) (by simp only [go_sem]; rfl) fun br hbr => ?_
    (refine AOpsC_ok hK' _ _ _ ?_; (repeat simp (disch := omega) only [go_sem, redN, Nat.reduceAdd, Int.reduceToNat, Int.reducePow]); (repeat' refine And.intro ?_ ?_); (try any_goals (first | (refine hK _ _ ?_; clear hK' hQ hK Q' Kn) | (intro hq9; refine ⟨hq9, ?_⟩; simp only [redB] at hq9; omega) | (intro hq9; refine ⟨hq9, fun hq8 => ?_⟩; rw [hq9, hq8]; rfl) | (simp; done) | omega | (simp only [redL]; omega) | (simp; omega) | (intros; (repeat' refine And.intro ?_ ?_) <;> (first | assumption | omega | (simp; done))))))
    (repeat' (first | refine AW.seq ?_ | refine AW.scope ?_ | refine AW.label ?_ | refine AW.block ?_ | refine AW.skip ?_ | refine AW.exit ?_ | refine AW.ret ?_ | (refine AW.regionC fun Q' Kn hQ hK hK' => ?_; (repeat simp (disch := omega) only [go_sem, redN, Nat.reduceAdd, Int.reduceToNat, Int.reducePow]); (repeat' refine And.intro ?_ ?_); (try any_goals (first | (refine hK _ _ ?_; clear hK' hQ hK Q' Kn) | (intro hq9; refine ⟨hq9, ?_⟩; simp only [redB] at hq9; omega) | (intro hq9; refine ⟨hq9, fun hq8 => ?_⟩; rw [hq9, hq8]; rfl) | (simp; done) | omega | (simp only [redL]; omega) | (simp; omega) | (intros; (repeat' refine And.intro ?_ ?_) <;> (first | assumption | omega | (simp; done)))))) | (refine AW.cond (by simp (disch := omega) only [go_sem, redN, Nat.reduceAdd, Int.reduceToNat, Int.reducePow]; rfl) (fun hb => ?_) (fun hb => ?_) <;> (try simp only [redB] at hb))))
    have hrc : br ≠ bc := fun e => by subst e; simp at hbr
    have hbr0 : st br = none := by rw [St.set_ne _ _ hrc] at hbr; exact hbr
    have f0 : ((st.set bc (.cells 24 0 3 [[.str [], .nils, .str []]])).set br (.cells 47 0 2 [[.str s, .int .i64 0]])) br = some (rd s 0) := St.set_same _ _ _
    have f1 : ((st.set bc (.cells 24 0 3 [[.str [], .nils, .str []]])).set br (.cells 47 0 2 [[.str s, .int .i64 0]])) bc = some (.cells 24 0 3 [[.str [], .nils, .str []]]) := by rw [St.set_ne _ _ (Ne.symm hrc), St.set_same]
    have f2 : ∀ i, st i ≠ none → ((st.set bc (.cells 24 0 3 [[.str [], .nils, .str []]])).set br (.cells 47 0 2 [[.str s, .int .i64 0]])) i = st i := fun i hi => by
      rw [St.set_ne _ _ (fun e => hi (by rw [e]; exact hbr0)), St.set_ne _ _ (fun e => hi (by rw [e]; exact hbc))]
    generalize St.set (St.set st _ _) _ _ = σa at f0 f1 f2 hbr ⊢
    refine AOp.call rfl (by simp only [go_sem]; rfl) (by simp [go_sem]) rfl (ACalls.mono (by simp only [go_sem]; exact t_nameP (Gt m) br s (by omega) _ f0) ?_)
    intro x σ1 hq
    obtain ⟨s1, k1, n, rfl, rfl, q0, q1⟩ := hq.both
    (refine AOpsC_ok hK' _ _ _ ?_; (repeat simp (disch := omega) only [go_sem, redN, Nat.reduceAdd, Int.reduceToNat, Int.reducePow]); (repeat' refine And.intro ?_ ?_); (try any_goals (first | (refine hK _ _ ?_; clear hK' hQ hK Q' Kn) | (intro hq9; refine ⟨hq9, ?_⟩; simp only [redB] at hq9; omega) | (intro hq9; refine ⟨hq9, fun hq8 => ?_⟩; rw [hq9, hq8]; rfl) | (simp; done) | omega | (simp only [redL]; omega) | (simp; omega) | (intros; (repeat' refine And.intro ?_ ?_) <;> (first | assumption | omega | (simp; done))))))
    refine AOp.alloc rfl (by simp only [go_sem]; rfl) fun bp hbp => ?_
    (refine AOpsC_ok hK' _ _ _ ?_; (repeat simp (disch := omega) only [go_sem, redN, Nat.reduceAdd, Int.reduceToNat, Int.reducePow]); (repeat' refine And.intro ?_ ?_); (try any_goals (first | (refine hK _ _ ?_; clear hK' hQ hK Q' Kn) | (intro hq9; refine ⟨hq9, ?_⟩; simp only [redB] at hq9; omega) | (intro hq9; refine ⟨hq9, fun hq8 => ?_⟩; rw [hq9, hq8]; rfl) | (simp; done) | omega | (simp only [redL]; omega) | (simp; omega) | (intros; (repeat' refine And.intro ?_ ?_) <;> (first | assumption | omega | (simp; done))))))
    have hpr : bp ≠ br := fun e => by subst e; simp at hbp
    rw [St.set_ne _ _ hpr] at hbp
    have hpc : bp ≠ bc := fun e => by subst e; rw [f1] at hbp; cases hbp
    have hbp0 : st bp = none := by cases hx : st bp with | none => rfl | some B => rw [f2 bp (by simp [hx]), hx] at hbp; cases hbp
    refine AOp.storeAll (cs := [.str n, .nils, .str []]) rfl (by simp only [go_sem] <;> rfl) (by simp [go_sem]) (St.set_same _ _ _) (by first | (simp only [go_sem]; done) | (simp [go_sem]; done) | (simp [go_sem]; omega)) (by simp [go_sem, isCell]) rfl rfl rfl ?_
    (refine AOpsC_ok hK' _ _ _ ?_; (repeat simp (disch := omega) only [go_sem, redN, Nat.reduceAdd, Int.reduceToNat, Int.reducePow]); (repeat' refine And.intro ?_ ?_); (try any_goals (first | (refine hK _ _ ?_; clear hK' hQ hK Q' Kn) | (intro hq9; refine ⟨hq9, ?_⟩; simp only [redB] at hq9; omega) | (intro hq9; refine ⟨hq9, fun hq8 => ?_⟩; rw [hq9, hq8]; rfl) | (simp; done) | omega | (simp only [redL]; omega) | (simp; omega) | (intros; (repeat' refine And.intro ?_ ?_) <;> (first | assumption | omega | (simp; done))))))
    rw [St.set_set]
    (repeat' (first | refine AW.seq ?_ | refine AW.scope ?_ | refine AW.label ?_ | refine AW.block ?_ | refine AW.skip ?_ | refine AW.exit ?_ | refine AW.ret ?_))
    have g1 : ((σa.set br (rd s1 k1)).set bp (.cells 24 0 3 [[.str n, .nils, .str []]])) br = some (rd s1 k1) := by rw [St.set_ne _ _ (Ne.symm hpr), St.set_same]
    have g2 : ((σa.set br (rd s1 k1)).set bp (.cells 24 0 3 [[.str n, .nils, .str []]])) bp = some (.cells 24 0 3 [[.str n, .nils, .str []]]) := St.set_same _ _ _
    have g3 : ((σa.set br (rd s1 k1)).set bp (.cells 24 0 3 [[.str n, .nils, .str []]])) bc = some (.cells 24 0 3 [[.str [], .nils, .str []]]) := by rw [St.set_ne _ _ (Ne.symm hpc), St.set_ne _ _ (Ne.symm hrc), f1]
    have g4 : ∀ i, st i ≠ none → ((σa.set br (rd s1 k1)).set bp (.cells 24 0 3 [[.str n, .nils, .str []]])) i = st i := fun i hi => by
      rw [St.set_ne _ _ (fun e => hi (by rw [e]; exact hbp0)), St.set_ne _ _ (fun e => hi (by rw [e]; exact hbr0)), f2 i hi]
    generalize St.set (St.set σa _ _) _ _ = σ0 at g1 g2 g3 g4 ⊢
    have z0 : k1 = 0 → s1.length ≤ s.length ∧ paramsTo (parseL s) n (pParams (s1.length + 1) s1 []) := fun h0 => by
      refine ⟨pName_len (q0 h0), ?_⟩
      rw [parseL, if_neg h24, if_neg hv, q0 h0]
      dsimp only
      cases pParams (s1.length + 1) s1 [] with
      | error k => rfl
      | ok p => rfl
    have z1 : k1 ≠ 0 → parseL s = .error k1 := fun h0 => by rw [parseL, if_neg h24, if_neg hv, q1 h0]
    refine AW.cutB (fun x : St × St × List UInt8 × Int × List ParamD × AV => [.str s, .junk, .ptr bc 0 0 0, .junk, .ptr br 0 0 0, .ptr bp 0 0 0, .junk, .junk, .junk, .junk, .junk, .junk, .junk, .junk, .junk, .junk, .junk, .junk, .junk, .junk, .junk, .junk, .junk, .junk, .junk, .junk, .junk, .junk, .junk, .junk, .junk, .junk, .junk, .junk, .junk, .junk, .junk, .junk, .junk, .junk, .junk, .junk, .junk, .junk, .junk, .junk, .junk, .junk, .junk, .junk, .junk, .junk, .junk, .junk, .junk, .junk, .junk, .junk, .junk, .junk, .junk, .junk, .junk, .junk, .junk, .junk, .junk, .junk, .junk, .junk, .junk]) (fun x => x.2.1)
      (fun x => SW x.1 51 2 x.2.2.2.2.2 x.2.1 (paramsE x.2.2.2.2.1) ∧ x.1 br = some (rd x.2.2.1 x.2.2.2.1) ∧ x.1 bp = some (.cells 24 0 3 [[.str n, x.2.2.2.2.2, .str []]]) ∧ x.1 bc = some (.cells 24 0 3 [[.str [], .nils, .str []]]) ∧ (∀ i, st i ≠ none → x.1 i = st i) ∧
        (x.2.2.2.1 = 0 → x.2.2.1.length ≤ 1024 ∧ paramsTo (parseL s) n (.ok (x.2.2.2.2.1, x.2.2.1))) ∧ (x.2.2.2.1 ≠ 0 → parseL s = .error x.2.2.2.1)) ?_ ?_
    · refine AW.loopF (fun x : St × St × List UInt8 × Int × List ParamD × AV × Nat => [.str s, .junk, .ptr bc 0 0 0, .junk, .ptr br 0 0 0, .ptr bp 0 0 0, .junk, .junk, .junk, .junk, .junk, .junk, .junk, .junk, .junk, .junk, .junk, .junk, .junk, .junk, .junk, .junk, .junk, .junk, .junk, .junk, .junk, .junk, .junk, .junk, .junk, .junk, .junk, .junk, .junk, .junk, .junk, .junk, .junk, .junk, .junk, .junk, .junk, .junk, .junk, .junk, .junk, .junk, .junk, .junk, .junk, .junk, .junk, .junk, .junk, .junk, .junk, .junk, .junk, .junk, .junk, .junk, .junk, .junk, .junk, .junk, .junk, .junk, .junk, .junk, .junk]) (fun x => x.2.1)
        (fun x => SW x.1 51 2 x.2.2.2.2.2.1 x.2.1 (paramsE x.2.2.2.2.1) ∧ x.1 br = some (rd x.2.2.1 x.2.2.2.1) ∧ x.1 bp = some (.cells 24 0 3 [[.str n, x.2.2.2.2.2.1, .str []]]) ∧ x.1 bc = some (.cells 24 0 3 [[.str [], .nils, .str []]]) ∧ (∀ i, st i ≠ none → x.1 i = st i) ∧ x.2.2.2.2.1.length ≤ 16 ∧
          (x.2.2.2.1 = 0 → x.2.2.1.length < x.2.2.2.2.2.2 ∧ x.2.2.2.2.2.2 ≤ 1025 ∧ paramsTo (parseL s) n (pParams x.2.2.2.2.2.2 x.2.2.1 x.2.2.2.2.1)) ∧ (x.2.2.2.1 ≠ 0 → parseL s = .error x.2.2.2.1))
        (fun x => x.2.2.2.2.2.2) (σ0, σ0, s1, k1, [], .nils, s1.length + 1) ?_ rfl ?_ ?_
      · (repeat (first | exact Weak.nil | refine Weak.junk _ ?_ | refine Weak.same _ ?_ | refine Weak.eqv (by (congr 1; first | omega | (simp; done) | exact w_i64 (by omega) (by omega))) ?_))
      · exact ⟨SW.new _ _ _, g1, g2, g3, g4, by simp, fun h => ⟨by dsimp only; omega, by have := (z0 h).1; dsimp only; omega, (z0 h).2⟩, z1⟩
      rintro ⟨β, σ, s', e, ps, v, fu⟩ ⟨w1, w2, w3, w4, w5, w7, w8, w9⟩
      dsimp only at w1 w2 w3 w4 w5 w7 w8 w9 ⊢
      have e2 : σ br = some (rd s' e) := by rw [w1.keep br (by simp [w2]), w2]
      have e3 : σ bp = some (.cells 24 0 3 [[.str n, v, .str []]]) := by rw [w1.keep bp (by simp [w3]), w3]
      have e4 : σ bc = some (.cells 24 0 3 [[.str [], .nils, .str []]]) := by rw [w1.keep bc (by simp [w4]), w4]
      (repeat' (first | refine AW.seq ?_ | refine AW.scope ?_ | refine AW.label ?_ | refine AW.block ?_ | refine AW.skip ?_ | refine AW.exit ?_ | refine AW.ret ?_ | (refine AW.regionC fun Q' Kn hQ hK hK' => ?_; (repeat simp (disch := omega) only [go_sem, redN, Nat.reduceAdd, Int.reduceToNat, Int.reducePow]); (repeat' refine And.intro ?_ ?_); (try any_goals (first | (refine hK _ _ ?_; clear hK' hQ hK Q' Kn) | (intro hq9; refine ⟨hq9, ?_⟩; simp only [redB] at hq9; omega) | (intro hq9; refine ⟨hq9, fun hq8 => ?_⟩; rw [hq9, hq8]; rfl) | (simp; done) | omega | (simp only [redL]; omega) | (simp; omega) | (intros; (repeat' refine And.intro ?_ ?_) <;> (first | assumption | omega | (simp; done)))))) | (refine AW.cond (by simp (disch := omega) only [go_sem, redN, Nat.reduceAdd, Int.reduceToNat, Int.reducePow]; rfl) (fun hb => ?_) (fun hb => ?_) <;> (try simp only [redB] at hb))))
      refine AOp.call rfl (by simp only [go_sem]; rfl) (by simp [go_sem]) rfl (ACalls.mono (by simp only [go_sem]; exact t_goes (Gt m) br s' [59] e _ e2) ?_)
      rintro x σ ⟨rfl, rfl⟩
      (refine AOpsC_ok hK' _ _ _ ?_; (repeat simp (disch := omega) only [go_sem, redN, Nat.reduceAdd, Int.reduceToNat, Int.reducePow]); (repeat' refine And.intro ?_ ?_); (try any_goals (first | (refine hK _ _ ?_; clear hK' hQ hK Q' Kn) | (intro hq9; refine ⟨hq9, ?_⟩; simp only [redB] at hq9; omega) | (intro hq9; refine ⟨hq9, fun hq8 => ?_⟩; rw [hq9, hq8]; rfl) | (simp; done) | omega | (simp only [redL]; omega) | (simp; omega) | (intros; (repeat' refine And.intro ?_ ?_) <;> (first | assumption | omega | (simp; done))))))
      (repeat' (first | refine AW.seq ?_ | refine AW.scope ?_ | refine AW.label ?_ | refine AW.block ?_ | refine AW.skip ?_ | refine AW.exit ?_ | refine AW.ret ?_))
      (refine AW.cond (by simp (disch := omega) only [go_sem, redN, Nat.reduceAdd, Int.reduceToNat, Int.reducePow]; rfl) (fun hb => ?_) (fun hb => ?_) <;> (try simp only [redB] at hb))
      · obtain ⟨rfl, hp⟩ := hb
        obtain ⟨m1, m2, m3⟩ := w8 rfl
        obtain ⟨fu', rfl⟩ : ∃ m', fu = m' + 1 := ⟨fu - 1, by omega⟩
        (repeat' (first | refine AW.seq ?_ | refine AW.scope ?_ | refine AW.label ?_ | refine AW.block ?_ | refine AW.skip ?_ | refine AW.exit ?_ | refine AW.ret ?_))
        refine AW.cut [.str s, .junk, .ptr bc 0 0 0, .junk, .ptr br 0 0 0, .ptr bp 0 0 0, .junk, .junk, .junk, .junk, .junk, .junk, .junk, .junk, .junk, .junk, .junk, .junk, .junk, .junk, .junk, .junk, .junk, .junk, .junk, .junk, .junk, .bool ((ps.length : Int) == 16), .junk, .junk, .junk, .junk, .junk, .junk, .junk, .junk, .junk, .junk, .junk, .junk, .junk, .junk, .junk, .junk, .junk, .junk, .junk, .junk, .junk, .junk, .junk, .junk, .junk, .junk, .junk, .junk, .junk, .junk, .junk, .junk, .junk, .junk, .junk, .junk, .junk, .junk, .junk, .junk, .junk, .junk, .junk] ?_ ?_
        · rcases w1.own with ⟨rfl, h0⟩ | ⟨ia, g, rfl, _, _⟩
          · obtain rfl := (paramsE_nil).1 h0
            (refine AW.regionC fun Q' Kn hQ hK hK' => ?_; (repeat simp (disch := omega) only [go_sem, redN, Nat.reduceAdd, Int.reduceToNat, Int.reducePow]); (repeat' refine And.intro ?_ ?_); (try any_goals (first | (refine hK _ _ ?_; clear hK' hQ hK Q' Kn) | (intro hq9; refine ⟨hq9, ?_⟩; simp only [redB] at hq9; omega) | (intro hq9; refine ⟨hq9, fun hq8 => ?_⟩; rw [hq9, hq8]; rfl) | (simp; done) | omega | (simp only [redL]; omega) | (simp; omega) | (intros; (repeat' refine And.intro ?_ ?_) <;> (first | assumption | omega | (simp; done))))))
            refine AOp.loadCell rfl (by simp only [go_sem] <;> rfl) (by simp [go_sem]) (e3) rfl (by simp) (by simp) ?_
            (refine AOpsC_ok hK' _ _ _ ?_; (repeat simp (disch := omega) only [go_sem, redN, Nat.reduceAdd, Int.reduceToNat, Int.reducePow]); (repeat' refine And.intro ?_ ?_); (try any_goals (first | (refine hK _ _ ?_; clear hK' hQ hK Q' Kn) | (intro hq9; refine ⟨hq9, ?_⟩; simp only [redB] at hq9; omega) | (intro hq9; refine ⟨hq9, fun hq8 => ?_⟩; rw [hq9, hq8]; rfl) | (simp; done) | omega | (simp only [redL]; omega) | (simp; omega) | (intros; (repeat' refine And.intro ?_ ?_) <;> (first | assumption | omega | (simp; done))))))
            refine ⟨rfl, ?_, rfl, rfl⟩
            (repeat (first | exact Weak.nil | refine Weak.junk _ ?_ | refine Weak.same _ ?_ | refine Weak.eqv (by (congr 1; first | omega | (simp; done) | exact w_i64 (by omega) (by omega))) ?_))
          · (refine AW.regionC fun Q' Kn hQ hK hK' => ?_; (repeat simp (disch := omega) only [go_sem, redN, Nat.reduceAdd, Int.reduceToNat, Int.reducePow]); (repeat' refine And.intro ?_ ?_); (try any_goals (first | (refine hK _ _ ?_; clear hK' hQ hK Q' Kn) | (intro hq9; refine ⟨hq9, ?_⟩; simp only [redB] at hq9; omega) | (intro hq9; refine ⟨hq9, fun hq8 => ?_⟩; rw [hq9, hq8]; rfl) | (simp; done) | omega | (simp only [redL]; omega) | (simp; omega) | (intros; (repeat' refine And.intro ?_ ?_) <;> (first | assumption | omega | (simp; done))))))
            refine AOp.loadCell rfl (by simp only [go_sem] <;> rfl) (by simp [go_sem]) (e3) rfl (by simp) (by simp) ?_
            (refine AOpsC_ok hK' _ _ _ ?_; (repeat simp (disch := omega) only [go_sem, redN, Nat.reduceAdd, Int.reduceToNat, Int.reducePow]); (repeat' refine And.intro ?_ ?_); (try any_goals (first | (refine hK _ _ ?_; clear hK' hQ hK Q' Kn) | (intro hq9; refine ⟨hq9, ?_⟩; simp only [redB] at hq9; omega) | (intro hq9; refine ⟨hq9, fun hq8 => ?_⟩; rw [hq9, hq8]; rfl) | (simp; done) | omega | (simp only [redL]; omega) | (simp; omega) | (intros; (repeat' refine And.intro ?_ ?_) <;> (first | assumption | omega | (simp; done))))))
            refine ⟨rfl, ?_, rfl, rfl⟩
            simp only [paramsE_length]
            (repeat (first | exact Weak.nil | refine Weak.junk _ ?_ | refine Weak.same _ ?_ | refine Weak.eqv (by (congr 1; first | omega | (simp; done) | exact w_i64 (by omega) (by omega))) ?_))
        · simp only []
          (repeat' (first | refine AW.seq ?_ | refine AW.scope ?_ | refine AW.label ?_ | refine AW.block ?_ | refine AW.skip ?_ | refine AW.exit ?_ | refine AW.ret ?_ | (refine AW.regionC fun Q' Kn hQ hK hK' => ?_; (repeat simp (disch := omega) only [go_sem, redN, Nat.reduceAdd, Int.reduceToNat, Int.reducePow]); (repeat' refine And.intro ?_ ?_); (try any_goals (first | (refine hK _ _ ?_; clear hK' hQ hK Q' Kn) | (intro hq9; refine ⟨hq9, ?_⟩; simp only [redB] at hq9; omega) | (intro hq9; refine ⟨hq9, fun hq8 => ?_⟩; rw [hq9, hq8]; rfl) | (simp; done) | omega | (simp only [redL]; omega) | (simp; omega) | (intros; (repeat' refine And.intro ?_ ?_) <;> (first | assumption | omega | (simp; done)))))) | (refine AW.cond (by simp (disch := omega) only [go_sem, redN, Nat.reduceAdd, Int.reduceToNat, Int.reducePow]; rfl) (fun hb => ?_) (fun hb => ?_) <;> (try simp only [redB] at hb))))
          · refine AOp.call rfl (by simp only [go_sem]; rfl) (by simp [go_sem]) rfl (ACalls.mono (by simp only [go_sem]; exact t_fail (Gt m) br s' 0 27 _ e2) ?_)
            rintro e st' ⟨rfl, rfl⟩
            (refine AOpsC_ok hK' _ _ _ ?_; (repeat simp (disch := omega) only [go_sem, redN, Nat.reduceAdd, Int.reduceToNat, Int.reducePow]); (repeat' refine And.intro ?_ ?_); (try any_goals (first | (refine hK _ _ ?_; clear hK' hQ hK Q' Kn) | (intro hq9; refine ⟨hq9, ?_⟩; simp only [redB] at hq9; omega) | (intro hq9; refine ⟨hq9, fun hq8 => ?_⟩; rw [hq9, hq8]; rfl) | (simp; done) | omega | (simp only [redL]; omega) | (simp; omega) | (intros; (repeat' refine And.intro ?_ ?_) <;> (first | assumption | omega | (simp; done))))))
            (repeat' (first | refine AW.seq ?_ | refine AW.scope ?_ | refine AW.label ?_ | refine AW.block ?_ | refine AW.skip ?_ | refine AW.exit ?_ | refine AW.ret ?_ | (refine AW.regionC fun Q' Kn hQ hK hK' => ?_; (repeat simp (disch := omega) only [go_sem, redN, Nat.reduceAdd, Int.reduceToNat, Int.reducePow]); (repeat' refine And.intro ?_ ?_); (try any_goals (first | (refine hK _ _ ?_; clear hK' hQ hK Q' Kn) | (intro hq9; refine ⟨hq9, ?_⟩; simp only [redB] at hq9; omega) | (intro hq9; refine ⟨hq9, fun hq8 => ?_⟩; rw [hq9, hq8]; rfl) | (simp; done) | omega | (simp only [redL]; omega) | (simp; omega) | (intros; (repeat' refine And.intro ?_ ?_) <;> (first | assumption | omega | (simp; done)))))) | (refine AW.cond (by simp (disch := omega) only [go_sem, redN, Nat.reduceAdd, Int.reduceToNat, Int.reducePow]; rfl) (fun hb => ?_) (fun hb => ?_) <;> (try simp only [redB] at hb))))
            refine ⟨(β.set br (rd s' 27), σ.set br (rd s' 27), s', 27, ps, v), ?_, ?_, rfl, rfl⟩
            · dsimp only
              refine ⟨w1.put (l := br) (by simp [w2]) _, St.set_same _ _ _, by rw [St.set_ne _ _ hpr, w3], by rw [St.set_ne _ _ (Ne.symm hrc), w4], fun i hi => by rw [St.set_ne _ _ (fun e => hi (by rw [e]; exact hbr0))]; exact w5 i hi, fun h => by simp at h, fun _ => ?_⟩
              simp only [pParams, if_pos hp, if_pos (show ps.length = 16 by omega)] at m3
              exact m3
            · (repeat (first | exact Weak.nil | refine Weak.junk _ ?_ | refine Weak.same _ ?_ | refine Weak.eqv (by (congr 1; first | omega | (simp; done) | exact w_i64 (by omega) (by omega))) ?_))
          · have h16 : ¬ ps.length = 16 := by omega
            have hl := hasP_len hp
            simp only [pParams, if_pos hp, if_neg h16] at m3
            refine AOp.loadCell rfl (by simp only [go_sem] <;> rfl) (by simp [go_sem]) (e2) rfl (by simp) (by simp) ?_
            (refine AOpsC_ok hK' _ _ _ ?_; (repeat simp (disch := omega) only [go_sem, redN, Nat.reduceAdd, Int.reduceToNat, Int.reducePow]); (repeat' refine And.intro ?_ ?_); (try any_goals (first | (refine hK _ _ ?_; clear hK' hQ hK Q' Kn) | (intro hq9; refine ⟨hq9, ?_⟩; simp only [redB] at hq9; omega) | (intro hq9; refine ⟨hq9, fun hq8 => ?_⟩; rw [hq9, hq8]; rfl) | (simp; done) | omega | (simp only [redL]; omega) | (simp; omega) | (intros; (repeat' refine And.intro ?_ ?_) <;> (first | assumption | omega | (simp; done))))))
            refine AOp.store (cs := [.str (s'.drop 1)]) rfl (by simp only [go_sem] <;> rfl) (by simp [go_sem]) (e2) (by first | (simp only [go_sem]; done) | (simp [go_sem]; done) | (simp [go_sem]; omega)) rfl rfl (by simp) (by simp) ?_
            (refine AOpsC_ok hK' _ _ _ ?_; (repeat simp (disch := omega) only [go_sem, redN, Nat.reduceAdd, Int.reduceToNat, Int.reducePow]); (repeat' refine And.intro ?_ ?_); (try any_goals (first | (refine hK _ _ ?_; clear hK' hQ hK Q' Kn) | (intro hq9; refine ⟨hq9, ?_⟩; simp only [redB] at hq9; omega) | (intro hq9; refine ⟨hq9, fun hq8 => ?_⟩; rw [hq9, hq8]; rfl) | (simp; done) | omega | (simp only [redL]; omega) | (simp; omega) | (intros; (repeat' refine And.intro ?_ ?_) <;> (first | assumption | omega | (simp; done))))))
            (repeat' (first | refine AW.seq ?_ | refine AW.scope ?_ | refine AW.label ?_ | refine AW.block ?_ | refine AW.skip ?_ | refine AW.exit ?_ | refine AW.ret ?_))
            have y1 := w1.put (l := br) (by simp [w2]) (rd (s'.drop 1) 0)
            have y2 : (σ.set br (rd (s'.drop 1) 0)) br = some (rd (s'.drop 1) 0) := St.set_same _ _ _
            have y3 : (σ.set br (rd (s'.drop 1) 0)) bp = some (.cells 24 0 3 [[.str n, v, .str []]]) := by rw [St.set_ne _ _ hpr, e3]
            have yb : (β.set br (rd (s'.drop 1) 0)) bp = some (.cells 24 0 3 [[.str n, v, .str []]]) := by rw [St.set_ne _ _ hpr, w3]
            have yr : (β.set br (rd (s'.drop 1) 0)) br = some (rd (s'.drop 1) 0) := St.set_same _ _ _
            have yc : (β.set br (rd (s'.drop 1) 0)) bc = some (.cells 24 0 3 [[.str [], .nils, .str []]]) := by rw [St.set_ne _ _ (Ne.symm hrc), w4]
            have yf : ∀ i, st i ≠ none → (β.set br (rd (s'.drop 1) 0)) i = st i := fun i hi => by rw [St.set_ne _ _ (fun e => hi (by rw [e]; exact hbr0))]; exact w5 i hi
            rw [show (Blk.cells 47 0 2 [[.str (s'.drop 1), .int .i64 0]]) = rd (s'.drop 1) 0 from rfl]
            generalize St.set σ _ _ = σ1 at y1 y2 y3 ⊢
            generalize St.set β _ _ = β1 at y1 yb yr yc yf
            refine AW.drawnN 10 [3, 4, 5, 7] (List.range 8) (fun σ' => σ' bp = some (.cells 24 0 3 [[.str n, v, .str []]])) (by decide +kernel) fun Q' Kn hQ hK hK' => ?_
            refine FxNC_ok (by intro i hi a o ho; simp only [List.mem_cons, List.not_mem_nil, or_false] at hi; rcases hi with rfl | rfl | rfl | rfl <;> (cases ho; rfl)) _ _ _ ?_
            simp (disch := omega) only [go_sem, redN, Nat.reduceAdd, Int.reduceToNat, Int.reducePow]
            refine FxN.wait rfl y3 (fun st' hI => Fixed.loadCell rfl rfl rfl (by simp only [go_sem] <;> rfl) (by simp [go_sem]) hI rfl (by simp) (by simp)) ?_
            refine FxNC_ok (by intro i hi a o ho; simp only [List.mem_cons, List.not_mem_nil, or_false] at hi; rcases hi with rfl | rfl | rfl | rfl <;> (cases ho; rfl)) _ _ _ ?_
            simp (disch := omega) only [go_sem, redN, Nat.reduceAdd, Int.reduceToNat, Int.reducePow]
            refine FxN.moves rfl (Moves.call (R := fun v' st' => ∃ r k x, v' = .agg (encParam x) ∧ st' = σ1.set br (rd r k) ∧ (k = 0 → pParam (s'.drop 1) = .ok (x, r)) ∧ (k ≠ 0 → pParam (s'.drop 1) = .error k)) rfl rfl rfl (by simp only [go_sem] <;> rfl) (by simp [go_sem]) rfl (by
              simp only [go_sem]
              refine ACalls.mono (t_param (Gt m) br (s'.drop 1) (by simp; omega) _ y2) fun x st' hq => ?_
              obtain ⟨r, k, x, q1, q2, q3, q4⟩ := hq.both
              exact ⟨_, q2, r, k, x, rfl, q1, q3, q4⟩)) ?_
            rintro _ _ ⟨r, k, x, rfl, rfl, q3, q4⟩
            refine ⟨by rw [St.set_ne _ _ hpr]; exact y3, ?_⟩
            refine FxNC_ok (by intro i hi a o ho; simp only [List.mem_cons, List.not_mem_nil, or_false] at hi; rcases hi with rfl | rfl | rfl | rfl <;> (cases ho; rfl)) _ _ _ ?_
            simp (disch := omega) only [go_sem, redN, Nat.reduceAdd, Int.reduceToNat, Int.reducePow]
            obtain ⟨c1, c2, c3⟩ := encParam_cells x
            refine FxN.moves rfl (Moves.buildSlice (e := 51) (sz := 2) (es := [encParam x]) rfl rfl rfl rfl rfl rfl (by simp [partsC, go_sem]) (by simp [aParts, go_sem]) (by simp [c1]) rfl (by decide) (by decide)) ?_
            rintro _ _ ⟨it, hit, rfl, rfl⟩
            have nit : it ≠ bp := fun e => by subst e; rw [St.set_ne _ _ hpr, y3] at hit; cases hit
            refine ⟨by rw [St.set_ne _ _ (Ne.symm nit), St.set_ne _ _ hpr]; exact y3, ?_⟩
            refine FxNC_ok (by intro i hi a o ho; simp only [List.mem_cons, List.not_mem_nil, or_false] at hi; rcases hi with rfl | rfl | rfl | rfl <;> (cases ho; rfl)) _ _ _ ?_
            simp (disch := omega) only [go_sem, redN, Nat.reduceAdd, Int.reduceToNat, Int.reducePow]
            have y1' := y1.put (l := br) (by simp [yr]) (rd r k)
            refine FxN.moves rfl (Moves.appendE (e := 51) (sz := 2) (by_ := 40) rfl rfl rfl rfl rfl rfl rfl rfl rfl (by decide) y1' hit rfl (by simp only [List.mem_singleton, forall_eq]; exact c2) (by simp; omega) (by simp [maxLen]; omega) (by simp)) ?_
            intro v' σ' h3
            have e3' : σ' bp = some (.cells 24 0 3 [[.str n, v, .str []]]) := by rw [h3.keep bp (by rw [St.set_ne _ _ hpr]; simp [yb]), St.set_ne _ _ hpr]; exact yb
            refine ⟨e3', ?_⟩
            refine FxNC_ok (by intro i hi a o ho; simp only [List.mem_cons, List.not_mem_nil, or_false] at hi; rcases hi with rfl | rfl | rfl | rfl <;> (cases ho; rfl)) _ _ _ ?_
            simp (disch := omega) only [go_sem, redN, Nat.reduceAdd, Int.reduceToNat, Int.reducePow]
            obtain ⟨u1, u2, u3, u4⟩ := h3.cell
            refine FxN.last rfl (Moves.store (cs := [v']) rfl rfl rfl (by simp only [go_sem] <;> rfl) (by rcases h3.own with ⟨rfl, _⟩ | ⟨_, _, rfl, _⟩ <;> simp [go_sem]) e3' (by rcases h3.own with ⟨rfl, _⟩ | ⟨_, _, rfl, _⟩ <;> rfl) (by simp [u4]) rfl (by simp) (by simp)) ?_
            rintro _ _ ⟨rfl, rfl⟩
            refine hK _ _ ?_
            clear hK' hQ hK Q' Kn
            simp only [List.getD_cons_zero, List.set_cons_zero, splice, List.take_succ_cons, List.take_zero, List.cons_append, List.nil_append, List.length_cons, List.length_nil, Nat.reduceAdd, List.drop_succ_cons, List.drop_zero]
            have h4 := h3.put (l := bp) (by rw [St.set_ne _ _ hpr]; simp [yb]) (.cells 24 0 3 [[.str n, v', .str []]])
            rw [show paramsE ps ++ [encParam x] = paramsE (ps ++ [x]) from by simp [paramsE]] at h4
            refine ⟨((β1.set br (rd r k)).set bp (.cells 24 0 3 [[.str n, v', .str []]]), σ'.set bp (.cells 24 0 3 [[.str n, v', .str []]]), r, k, ps ++ [x], v', fu'), ?_, by dsimp only; omega, ?_, rfl, rfl⟩
            · dsimp only
              refine ⟨h4, by rw [St.set_ne _ _ (Ne.symm hpr), St.set_same], St.set_same _ _ _, by rw [St.set_ne _ _ (Ne.symm hpc), St.set_ne _ _ (Ne.symm hrc), yc], fun i hi => by rw [St.set_ne _ _ (fun e => hi (by rw [e]; exact hbp0)), St.set_ne _ _ (fun e => hi (by rw [e]; exact hbr0)), yf i hi], by simp; omega, fun h => ?_, fun h => ?_⟩
              · rw [q3 h] at m3
                have := pParam_len (q3 h)
                exact ⟨by simp at this; omega, by omega, m3⟩
              · rw [q4 h] at m3; exact m3
            · (repeat (first | exact Weak.nil | refine Weak.junk _ ?_ | refine Weak.same _ ?_ | refine Weak.eqv (by (congr 1; first | omega | (simp; done) | exact w_i64 (by omega) (by omega))) ?_))
      · (repeat' (first | refine AW.seq ?_ | refine AW.scope ?_ | refine AW.label ?_ | refine AW.block ?_ | refine AW.skip ?_ | refine AW.exit ?_ | refine AW.ret ?_))
        refine ⟨(β, σ, s', e, ps, v), ?_, ?_, rfl, rfl⟩
        · dsimp only
          refine ⟨w1, w2, w3, w4, w5, fun h => ?_, w9⟩
          subst h
          obtain ⟨m1, m2, m3⟩ := w8 rfl
          obtain ⟨fu', rfl⟩ : ∃ m', fu = m' + 1 := ⟨fu - 1, by omega⟩
          have hnp : ¬ Lib.hasPrefix s' [59] = true := by simpa using hb
          simp only [pParams, if_neg hnp] at m3
          exact ⟨by omega, m3⟩
        · (repeat (first | exact Weak.nil | refine Weak.junk _ ?_ | refine Weak.same _ ?_ | refine Weak.eqv (by (congr 1; first | omega | (simp; done) | exact w_i64 (by omega) (by omega))) ?_))
    · rintro ⟨β, σ, s', e, ps, v⟩ ⟨w1, w2, w3, w4, w5, w8, w9⟩
      dsimp only at w1 w2 w3 w4 w5 w8 w9 ⊢
      have e2 : σ br = some (rd s' e) := by rw [w1.keep br (by simp [w2]), w2]
      (repeat' (first | refine AW.seq ?_ | refine AW.scope ?_ | refine AW.label ?_ | refine AW.block ?_ | refine AW.skip ?_ | refine AW.exit ?_ | refine AW.ret ?_ | (refine AW.regionC fun Q' Kn hQ hK hK' => ?_; (repeat simp (disch := omega) only [go_sem, redN, Nat.reduceAdd, Int.reduceToNat, Int.reducePow]); (repeat' refine And.intro ?_ ?_); (try any_goals (first | (refine hK _ _ ?_; clear hK' hQ hK Q' Kn) | (intro hq9; refine ⟨hq9, ?_⟩; simp only [redB] at hq9; omega) | (intro hq9; refine ⟨hq9, fun hq8 => ?_⟩; rw [hq9, hq8]; rfl) | (simp; done) | omega | (simp only [redL]; omega) | (simp; omega) | (intros; (repeat' refine And.intro ?_ ?_) <;> (first | assumption | omega | (simp; done)))))) | (refine AW.cond (by simp (disch := omega) only [go_sem, redN, Nat.reduceAdd, Int.reduceToNat, Int.reducePow]; rfl) (fun hb => ?_) (fun hb => ?_) <;> (try simp only [redB] at hb))))
      refine AOp.call rfl (by simp only [go_sem]; rfl) (by simp [go_sem]) rfl (ACalls.mono (by simp only [go_sem]; exact t_must (Gt m) br s' 58 e _ e2) ?_)
      rintro e st' ⟨rfl, rfl⟩
      (refine AOpsC_ok hK' _ _ _ ?_; (repeat simp (disch := omega) only [go_sem, redN, Nat.reduceAdd, Int.reduceToNat, Int.reducePow]); (repeat' refine And.intro ?_ ?_); (try any_goals (first | (refine hK _ _ ?_; clear hK' hQ hK Q' Kn) | (intro hq9; refine ⟨hq9, ?_⟩; simp only [redB] at hq9; omega) | (intro hq9; refine ⟨hq9, fun hq8 => ?_⟩; rw [hq9, hq8]; rfl) | (simp; done) | omega | (simp only [redL]; omega) | (simp; omega) | (intros; (repeat' refine And.intro ?_ ?_) <;> (first | assumption | omega | (simp; done))))))
      (repeat' (first | refine AW.seq ?_ | refine AW.scope ?_ | refine AW.label ?_ | refine AW.block ?_ | refine AW.skip ?_ | refine AW.exit ?_ | refine AW.ret ?_ | (refine AW.regionC fun Q' Kn hQ hK hK' => ?_; (repeat simp (disch := omega) only [go_sem, redN, Nat.reduceAdd, Int.reduceToNat, Int.reducePow]); (repeat' refine And.intro ?_ ?_); (try any_goals (first | (refine hK _ _ ?_; clear hK' hQ hK Q' Kn) | (intro hq9; refine ⟨hq9, ?_⟩; simp only [redB] at hq9; omega) | (intro hq9; refine ⟨hq9, fun hq8 => ?_⟩; rw [hq9, hq8]; rfl) | (simp; done) | omega | (simp only [redL]; omega) | (simp; omega) | (intros; (repeat' refine And.intro ?_ ?_) <;> (first | assumption | omega | (simp; done)))))) | (refine AW.cond (by simp (disch := omega) only [go_sem, redN, Nat.reduceAdd, Int.reduceToNat, Int.reducePow]; rfl) (fun hb => ?_) (fun hb => ?_) <;> (try simp only [redB] at hb))))
      obtain ⟨s2, k2, hk2, v0, v1⟩ : ∃ s2 k2, (if e = 0 then stp s' (pMust 58 s') else rd s' e) = rd s2 k2 ∧ (k2 = 0 → s2.length ≤ 1024 ∧ parseL s = if plainL s2 [] = true then .ok ⟨n, ps, s2⟩ else .error 10) ∧ (k2 ≠ 0 → parseL s = .error k2) := by
        by_cases h0 : e = 0
        · rw [if_pos h0]
          obtain ⟨q1, q2⟩ := w8 h0
          simp only [paramsTo] at q2
          cases hm : pMust 58 s' with
          | ok r =>
            rw [hm] at q2
            have := pMust_len hm
            exact ⟨r, 0, rfl, fun _ => ⟨by omega, q2⟩, fun h => absurd rfl h⟩
          | error k => rw [hm] at q2; exact ⟨s', k, rfl, fun h => absurd h (pMust_err hm), fun _ => q2⟩
        · rw [if_neg h0]
          exact ⟨s', e, rfl, fun h => absurd h h0, fun _ => w9 h0⟩
      rw [hk2]
      have x1 := w1.put (l := br) (by simp [w2]) (rd s2 k2)
      have x2 : (β.set br (rd s2 k2)) br = some (rd s2 k2) := St.set_same _ _ _
      have x3 : (β.set br (rd s2 k2)) bp = some (.cells 24 0 3 [[.str n, v, .str []]]) := by rw [St.set_ne _ _ hpr, w3]
      have x4 : (β.set br (rd s2 k2)) bc = some (.cells 24 0 3 [[.str [], .nils, .str []]]) := by rw [St.set_ne _ _ (Ne.symm hrc), w4]
      have x5 : st.sub (β.set br (rd s2 k2)) := fun i B hi => by
        rw [St.set_ne _ _ (fun e => by subst e; rw [hbr0] at hi; cases hi), w5 i (by simp [hi]), hi]
      generalize St.set σ _ _ = σ1 at x1 ⊢
      generalize St.set β _ _ = β1 at x1 x2 x3 x4 x5
      have y2 : σ1 br = some (rd s2 k2) := by rw [x1.keep br (by simp [x2]), x2]
      have y3 : σ1 bp = some (.cells 24 0 3 [[.str n, v, .str []]]) := by rw [x1.keep bp (by simp [x3]), x3]
      have y4 : σ1 bc = some (.cells 24 0 3 [[.str [], .nils, .str []]]) := by rw [x1.keep bc (by simp [x4]), x4]
      refine AOp.loadCell rfl (by simp only [go_sem] <;> rfl) (by simp [go_sem]) (y2) rfl (by simp) (by simp) ?_
      (refine AOpsC_ok hK' _ _ _ ?_; (repeat simp (disch := omega) only [go_sem, redN, Nat.reduceAdd, Int.reduceToNat, Int.reducePow]); (repeat' refine And.intro ?_ ?_); (try any_goals (first | (refine hK _ _ ?_; clear hK' hQ hK Q' Kn) | (intro hq9; refine ⟨hq9, ?_⟩; simp only [redB] at hq9; omega) | (intro hq9; refine ⟨hq9, fun hq8 => ?_⟩; rw [hq9, hq8]; rfl) | (simp; done) | omega | (simp only [redL]; omega) | (simp; omega) | (intros; (repeat' refine And.intro ?_ ?_) <;> (first | assumption | omega | (simp; done))))))
      refine AOp.store (cs := [.str s2]) rfl (by simp only [go_sem] <;> rfl) (by simp [go_sem]) (y3) (by first | (simp only [go_sem]; done) | (simp [go_sem]; done) | (simp [go_sem]; omega)) rfl rfl (by simp) (by simp) ?_
      (refine AOpsC_ok hK' _ _ _ ?_; (repeat simp (disch := omega) only [go_sem, redN, Nat.reduceAdd, Int.reduceToNat, Int.reducePow]); (repeat' refine And.intro ?_ ?_); (try any_goals (first | (refine hK _ _ ?_; clear hK' hQ hK Q' Kn) | (intro hq9; refine ⟨hq9, ?_⟩; simp only [redB] at hq9; omega) | (intro hq9; refine ⟨hq9, fun hq8 => ?_⟩; rw [hq9, hq8]; rfl) | (simp; done) | omega | (simp only [redL]; omega) | (simp; omega) | (intros; (repeat' refine And.intro ?_ ?_) <;> (first | assumption | omega | (simp; done))))))
      have a1 := x1.put (l := bp) (by simp [x3]) (.cells 24 0 3 [[.str n, v, .str s2]])
      have a2 : (β1.set bp (.cells 24 0 3 [[.str n, v, .str s2]])) br = some (rd s2 k2) := by rw [St.set_ne _ _ (Ne.symm hpr), x2]
      have a3 : (β1.set bp (.cells 24 0 3 [[.str n, v, .str s2]])) bp = some (.cells 24 0 3 [[.str n, v, .str s2]]) := St.set_same _ _ _
      have a4 : (β1.set bp (.cells 24 0 3 [[.str n, v, .str s2]])) bc = some (.cells 24 0 3 [[.str [], .nils, .str []]]) := by rw [St.set_ne _ _ (Ne.symm hpc), x4]
      have a5 : st.sub (β1.set bp (.cells 24 0 3 [[.str n, v, .str s2]])) := fun i B hi => by
        rw [St.set_ne _ _ (fun e => by subst e; rw [hbp0] at hi; cases hi), x5 i B hi]
      generalize St.set σ1 _ _ = σ2 at a1 ⊢
      generalize St.set β1 _ _ = β2 at a1 a2 a3 a4 a5
      have d2 : σ2 br = some (rd s2 k2) := by rw [a1.keep br (by simp [a2]), a2]
      have d3 : σ2 bp = some (.cells 24 0 3 [[.str n, v, .str s2]]) := by rw [a1.keep bp (by simp [a3]), a3]
      (repeat' (first | refine AW.seq ?_ | refine AW.scope ?_ | refine AW.label ?_ | refine AW.block ?_ | refine AW.skip ?_ | refine AW.exit ?_ | refine AW.ret ?_ | (refine AW.regionC fun Q' Kn hQ hK hK' => ?_; (repeat simp (disch := omega) only [go_sem, redN, Nat.reduceAdd, Int.reduceToNat, Int.reducePow]); (repeat' refine And.intro ?_ ?_); (try any_goals (first | (refine hK _ _ ?_; clear hK' hQ hK Q' Kn) | (intro hq9; refine ⟨hq9, ?_⟩; simp only [redB] at hq9; omega) | (intro hq9; refine ⟨hq9, fun hq8 => ?_⟩; rw [hq9, hq8]; rfl) | (simp; done) | omega | (simp only [redL]; omega) | (simp; omega) | (intros; (repeat' refine And.intro ?_ ?_) <;> (first | assumption | omega | (simp; done)))))) | (refine AW.cond (by simp (disch := omega) only [go_sem, redN, Nat.reduceAdd, Int.reduceToNat, Int.reducePow]; rfl) (fun hb => ?_) (fun hb => ?_) <;> (try simp only [redB] at hb))))
      refine AOp.call rfl (by simp only [go_sem]; rfl) (by simp [go_sem]) rfl (ACalls.mono (by simp only [go_sem]; exact t_ok (Gt m) br s2 k2 _ d2) ?_)
      rintro x σ2 ⟨rfl, rfl⟩
      (refine AOpsC_ok hK' _ _ _ ?_; (repeat simp (disch := omega) only [go_sem, redN, Nat.reduceAdd, Int.reduceToNat, Int.reducePow]); (repeat' refine And.intro ?_ ?_); (try any_goals (first | (refine hK _ _ ?_; clear hK' hQ hK Q' Kn) | (intro hq9; refine ⟨hq9, ?_⟩; simp only [redB] at hq9; omega) | (intro hq9; refine ⟨hq9, fun hq8 => ?_⟩; rw [hq9, hq8]; rfl) | (simp; done) | omega | (simp only [redL]; omega) | (simp; omega) | (intros; (repeat' refine And.intro ?_ ?_) <;> (first | assumption | omega | (simp; done))))))
      refine AOps.guard_loadCell rfl rfl rfl rfl rfl (fun _ => (by simp only [go_sem] <;> rfl)) (fun h => by first | (simp [go_sem]; done) | simpa [go_sem] using h) (d3) rfl (fun _ => by simp) (by simp) ?_
      (refine AOpsC_ok hK' _ _ _ ?_; (repeat simp (disch := omega) only [go_sem, redN, Nat.reduceAdd, Int.reduceToNat, Int.reducePow]); (repeat' refine And.intro ?_ ?_); (try any_goals (first | (refine hK _ _ ?_; clear hK' hQ hK Q' Kn) | (intro hq9; refine ⟨hq9, ?_⟩; simp only [redB] at hq9; omega) | (intro hq9; refine ⟨hq9, fun hq8 => ?_⟩; rw [hq9, hq8]; rfl) | (simp; done) | omega | (simp only [redL]; omega) | (simp; omega) | (intros; (repeat' refine And.intro ?_ ?_) <;> (first | assumption | omega | (simp; done))))))
      refine AOps.guard_call (f := 28) (v := .bool (plainL s2 [])) rfl rfl rfl rfl rfl (fun _ => (by simp only [go_sem] <;> rfl)) (fun h => by first | (simp [go_sem]; done) | simpa [go_sem] using h) rfl (fun hg => by
        simp only [go_sem]
        exact t_plain2 m s2 [] (by have := (v0 (by simpa using hg)).1; omega) _) ?_
      (refine AOpsC_ok hK' _ _ _ ?_; (repeat simp (disch := omega) only [go_sem, redN, Nat.reduceAdd, Int.reduceToNat, Int.reducePow]); (repeat' refine And.intro ?_ ?_); (try any_goals (first | (refine hK _ _ ?_; clear hK' hQ hK Q' Kn) | (intro hq9; refine ⟨hq9, ?_⟩; simp only [redB] at hq9; omega) | (intro hq9; refine ⟨hq9, fun hq8 => ?_⟩; rw [hq9, hq8]; rfl) | (simp; done) | omega | (simp only [redL]; omega) | (simp; omega) | (intros; (repeat' refine And.intro ?_ ?_) <;> (first | assumption | omega | (simp; done))))))
      (repeat' (first | refine AW.seq ?_ | refine AW.scope ?_ | refine AW.label ?_ | refine AW.block ?_ | refine AW.skip ?_ | refine AW.exit ?_ | refine AW.ret ?_))
      refine AW.cutE (fun x : St × St × Int => [.str s, .junk, .ptr bc 0 0 0, .junk, .ptr br 0 0 0, .ptr bp 0 0 0, .junk, .junk, .junk, .junk, .junk, .junk, .junk, .junk, .junk, .junk, .junk, .junk, .junk, .junk, .junk, .junk, .junk, .junk, .junk, .junk, .junk, .junk, .junk, .junk, .junk, .junk, .junk, .junk, .junk, .junk, .junk, .junk, .junk, .junk, .junk, .junk, .junk, .junk, .junk, .junk, .junk, .junk, .junk, .junk, .junk, .junk, .junk, .junk, .junk, .junk, .junk, .junk, .junk, .junk, .junk, .junk, .junk, .junk, .junk, .junk, .junk, .junk, .junk, .junk, .junk]) (fun x => x.2.1)
        (fun x => SW x.1 51 2 v x.2.1 (paramsE ps) ∧ x.1 br = some (rd s2 x.2.2) ∧ x.1 bp = some (.cells 24 0 3 [[.str n, v, .str s2]]) ∧ x.1 bc = some (.cells 24 0 3 [[.str [], .nils, .str []]]) ∧ st.sub x.1 ∧ parseL s = if x.2.2 = 0 then .ok ⟨n, ps, s2⟩ else .error x.2.2) ?_ ?_
      · (refine AW.cond (by simp (disch := omega) only [go_sem, redN, Nat.reduceAdd, Int.reduceToNat, Int.reducePow]; rfl) (fun hb => ?_) (fun hb => ?_) <;> (try simp only [redB] at hb))
        · (repeat' (first | refine AW.seq ?_ | refine AW.scope ?_ | refine AW.label ?_ | refine AW.block ?_ | refine AW.skip ?_ | refine AW.exit ?_ | refine AW.ret ?_ | (refine AW.regionC fun Q' Kn hQ hK hK' => ?_; (repeat simp (disch := omega) only [go_sem, redN, Nat.reduceAdd, Int.reduceToNat, Int.reducePow]); (repeat' refine And.intro ?_ ?_); (try any_goals (first | (refine hK _ _ ?_; clear hK' hQ hK Q' Kn) | (intro hq9; refine ⟨hq9, ?_⟩; simp only [redB] at hq9; omega) | (intro hq9; refine ⟨hq9, fun hq8 => ?_⟩; rw [hq9, hq8]; rfl) | (simp; done) | omega | (simp only [redL]; omega) | (simp; omega) | (intros; (repeat' refine And.intro ?_ ?_) <;> (first | assumption | omega | (simp; done)))))) | (refine AW.cond (by simp (disch := omega) only [go_sem, redN, Nat.reduceAdd, Int.reduceToNat, Int.reducePow]; rfl) (fun hb => ?_) (fun hb => ?_) <;> (try simp only [redB] at hb))))
          refine AOp.call rfl (by simp only [go_sem]; rfl) (by simp [go_sem]) rfl (ACalls.mono (by simp only [go_sem]; exact t_fail (Gt m) br s2 k2 10 _ d2) ?_)
          rintro e st' ⟨rfl, rfl⟩
          (refine AOpsC_ok hK' _ _ _ ?_; (repeat simp (disch := omega) only [go_sem, redN, Nat.reduceAdd, Int.reduceToNat, Int.reducePow]); (repeat' refine And.intro ?_ ?_); (try any_goals (first | (refine hK _ _ ?_; clear hK' hQ hK Q' Kn) | (intro hq9; refine ⟨hq9, ?_⟩; simp only [redB] at hq9; omega) | (intro hq9; refine ⟨hq9, fun hq8 => ?_⟩; rw [hq9, hq8]; rfl) | (simp; done) | omega | (simp only [redL]; omega) | (simp; omega) | (intros; (repeat' refine And.intro ?_ ?_) <;> (first | assumption | omega | (simp; done))))))
          (repeat' (first | refine AW.seq ?_ | refine AW.scope ?_ | refine AW.label ?_ | refine AW.block ?_ | refine AW.skip ?_ | refine AW.exit ?_ | refine AW.ret ?_ | (refine AW.regionC fun Q' Kn hQ hK hK' => ?_; (repeat simp (disch := omega) only [go_sem, redN, Nat.reduceAdd, Int.reduceToNat, Int.reducePow]); (repeat' refine And.intro ?_ ?_); (try any_goals (first | (refine hK _ _ ?_; clear hK' hQ hK Q' Kn) | (intro hq9; refine ⟨hq9, ?_⟩; simp only [redB] at hq9; omega) | (intro hq9; refine ⟨hq9, fun hq8 => ?_⟩; rw [hq9, hq8]; rfl) | (simp; done) | omega | (simp only [redL]; omega) | (simp; omega) | (intros; (repeat' refine And.intro ?_ ?_) <;> (first | assumption | omega | (simp; done)))))) | (refine AW.cond (by simp (disch := omega) only [go_sem, redN, Nat.reduceAdd, Int.reduceToNat, Int.reducePow]; rfl) (fun hb => ?_) (fun hb => ?_) <;> (try simp only [redB] at hb))))
          obtain ⟨hk0, hpl⟩ := hb
          subst hk0
          refine ⟨(β2.set br (rd s2 10), σ2.set br (rd s2 10), 10), ?_, ?_, rfl, rfl⟩
          · dsimp only
            refine ⟨a1.put (l := br) (by simp [a2]) _, St.set_same _ _ _, by rw [St.set_ne _ _ hpr, a3], by rw [St.set_ne _ _ (Ne.symm hrc), a4], fun i B hi => by rw [St.set_ne _ _ (fun e => by subst e; rw [hbr0] at hi; cases hi), a5 i B hi], ?_⟩
            rw [(v0 rfl).2, if_neg (by simp [hpl])]; rfl
          · (repeat (first | exact Weak.nil | refine Weak.junk _ ?_ | refine Weak.same _ ?_ | refine Weak.eqv (by (congr 1; first | omega | (simp; done) | exact w_i64 (by omega) (by omega))) ?_))
        · (repeat' (first | refine AW.seq ?_ | refine AW.scope ?_ | refine AW.label ?_ | refine AW.block ?_ | refine AW.skip ?_ | refine AW.exit ?_ | refine AW.ret ?_ | (refine AW.regionC fun Q' Kn hQ hK hK' => ?_; (repeat simp (disch := omega) only [go_sem, redN, Nat.reduceAdd, Int.reduceToNat, Int.reducePow]); (repeat' refine And.intro ?_ ?_); (try any_goals (first | (refine hK _ _ ?_; clear hK' hQ hK Q' Kn) | (intro hq9; refine ⟨hq9, ?_⟩; simp only [redB] at hq9; omega) | (intro hq9; refine ⟨hq9, fun hq8 => ?_⟩; rw [hq9, hq8]; rfl) | (simp; done) | omega | (simp only [redL]; omega) | (simp; omega) | (intros; (repeat' refine And.intro ?_ ?_) <;> (first | assumption | omega | (simp; done)))))) | (refine AW.cond (by simp (disch := omega) only [go_sem, redN, Nat.reduceAdd, Int.reduceToNat, Int.reducePow]; rfl) (fun hb => ?_) (fun hb => ?_) <;> (try simp only [redB] at hb))))
          refine ⟨(β2, σ2, k2), ?_, ?_, rfl, rfl⟩
          · dsimp only
            refine ⟨a1, a2, a3, a4, a5, ?_⟩
            by_cases h0 : k2 = 0
            · rw [if_pos h0, (v0 h0).2]
              rcases hb with hb | hb
              · exact absurd h0 hb
              · rw [if_pos hb]
            · rw [if_neg h0]; exact v1 h0
          · (repeat (first | exact Weak.nil | refine Weak.junk _ ?_ | refine Weak.same _ ?_ | refine Weak.eqv (by (congr 1; first | omega | (simp; done) | exact w_i64 (by omega) (by omega))) ?_))
      rintro ⟨β3, σ3, k3⟩ ⟨b1, b2, b3, b4, b5, b6⟩
      dsimp only at b1 b2 b3 b4 b5 b6 ⊢
      have e2 : σ3 br = some (rd s2 k3) := by rw [b1.keep br (by simp [b2]), b2]
      have e3 : σ3 bp = some (.cells 24 0 3 [[.str n, v, .str s2]]) := by rw [b1.keep bp (by simp [b3]), b3]
      have e4 : σ3 bc = some (.cells 24 0 3 [[.str [], .nils, .str []]]) := by rw [b1.keep bc (by simp [b4]), b4]
      (repeat' (first | refine AW.seq ?_ | refine AW.scope ?_ | refine AW.label ?_ | refine AW.block ?_ | refine AW.skip ?_ | refine AW.exit ?_ | refine AW.ret ?_ | (refine AW.regionC fun Q' Kn hQ hK hK' => ?_; (repeat simp (disch := omega) only [go_sem, redN, Nat.reduceAdd, Int.reduceToNat, Int.reducePow]); (repeat' refine And.intro ?_ ?_); (try any_goals (first | (refine hK _ _ ?_; clear hK' hQ hK Q' Kn) | (intro hq9; refine ⟨hq9, ?_⟩; simp only [redB] at hq9; omega) | (intro hq9; refine ⟨hq9, fun hq8 => ?_⟩; rw [hq9, hq8]; rfl) | (simp; done) | omega | (simp only [redL]; omega) | (simp; omega) | (intros; (repeat' refine And.intro ?_ ?_) <;> (first | assumption | omega | (simp; done)))))) | (refine AW.cond (by simp (disch := omega) only [go_sem, redN, Nat.reduceAdd, Int.reduceToNat, Int.reducePow]; rfl) (fun hb => ?_) (fun hb => ?_) <;> (try simp only [redB] at hb))))
      refine AOp.call rfl (by simp only [go_sem]; rfl) (by simp [go_sem]) rfl (ACalls.mono (by simp only [go_sem]; exact t_ok (Gt m) br s2 k3 _ e2) ?_)
      rintro x σ3 ⟨rfl, rfl⟩
      (refine AOpsC_ok hK' _ _ _ ?_; (repeat simp (disch := omega) only [go_sem, redN, Nat.reduceAdd, Int.reduceToNat, Int.reducePow]); (repeat' refine And.intro ?_ ?_); (try any_goals (first | (refine hK _ _ ?_; clear hK' hQ hK Q' Kn) | (intro hq9; refine ⟨hq9, ?_⟩; simp only [redB] at hq9; omega) | (intro hq9; refine ⟨hq9, fun hq8 => ?_⟩; rw [hq9, hq8]; rfl) | (simp; done) | omega | (simp only [redL]; omega) | (simp; omega) | (intros; (repeat' refine And.intro ?_ ?_) <;> (first | assumption | omega | (simp; done))))))
      (repeat' (first | refine AW.seq ?_ | refine AW.scope ?_ | refine AW.label ?_ | refine AW.block ?_ | refine AW.skip ?_ | refine AW.exit ?_ | refine AW.ret ?_))
      refine AW.cond (by simp (disch := omega) only [go_sem, redN, Nat.reduceAdd, Int.reduceToNat, Int.reducePow]; rfl) (fun hb => ?_) (fun hb => ?_) <;> (try simp only [redB] at hb)
      · (repeat' (first | refine AW.seq ?_ | refine AW.scope ?_ | refine AW.label ?_ | refine AW.block ?_ | refine AW.skip ?_ | refine AW.exit ?_ | refine AW.ret ?_))
        refine AW.drawnN 8 [5] [0, 5, 1, 2, 3, 4, 6] (fun σ' => σ' br = some (rd s2 k3)) (by decide +kernel) fun Q' Kn hQ hK hK' => ?_
        refine FxNC_ok (by intro i hi a o ho; simp only [List.mem_cons, List.not_mem_nil, or_false] at hi; rcases hi with rfl; cases ho; rfl) _ _ _ ?_
        simp (disch := omega) only [go_sem, redN, Nat.reduceAdd, Int.reduceToNat, Int.reducePow]
        repeat' refine And.intro ?_ ?_
        all_goals (try (first | (simp; done) | omega))
        refine FxN.wait rfl e2 (fun st' hI => Fixed.loadCell rfl rfl rfl (by simp only [go_sem] <;> rfl) (by simp [go_sem]) hI rfl (by simp) (by simp)) ?_
        refine FxNC_ok (by intro i hi a o ho; simp only [List.mem_cons, List.not_mem_nil, or_false] at hi; rcases hi with rfl; cases ho; rfl) _ _ _ ?_
        simp (disch := omega) only [go_sem, redN, Nat.reduceAdd, Int.reduceToNat, Int.reducePow]
        refine FxN.moves rfl (Moves.storeAll (cs := [.str [], .nils, .str []]) rfl rfl rfl (by simp only [go_sem] <;> rfl) (by simp [go_sem]) e4 (by simp only [go_sem]) (by simp [isCell]) rfl rfl rfl) ?_
        rintro _ _ ⟨rfl, rfl⟩
        refine ⟨by rw [St.set_ne _ _ hrc]; exact e2, ?_⟩
        refine FxNC_ok (by intro i hi a o ho; simp only [List.mem_cons, List.not_mem_nil, or_false] at hi; rcases hi with rfl; cases ho; rfl) _ _ _ ?_
        simp (disch := omega) only [go_sem, redN, Nat.reduceAdd, Int.reduceToNat, Int.reducePow]
        repeat' refine And.intro ?_ ?_
        all_goals (try (first | (simp; done) | omega))
        refine hK _ _ ?_
        clear hK' hQ hK Q' Kn
        (repeat' (first | refine AW.seq ?_ | refine AW.scope ?_ | refine AW.label ?_ | refine AW.block ?_ | refine AW.skip ?_ | refine AW.exit ?_ | refine AW.ret ?_ | (refine AW.regionC fun Q' Kn hQ hK hK' => ?_; (repeat simp (disch := omega) only [go_sem, redN, Nat.reduceAdd, Int.reduceToNat, Int.reducePow]); (repeat' refine And.intro ?_ ?_); (try any_goals (first | (refine hK _ _ ?_; clear hK' hQ hK Q' Kn) | (intro hq9; refine ⟨hq9, ?_⟩; simp only [redB] at hq9; omega) | (intro hq9; refine ⟨hq9, fun hq8 => ?_⟩; rw [hq9, hq8]; rfl) | (simp; done) | omega | (simp only [redL]; omega) | (simp; omega) | (intros; (repeat' refine And.intro ?_ ?_) <;> (first | assumption | omega | (simp; done)))))) | (refine AW.cond (by simp (disch := omega) only [go_sem, redN, Nat.reduceAdd, Int.reduceToNat, Int.reducePow]; rfl) (fun hb => ?_) (fun hb => ?_) <;> (try simp only [redB] at hb))))
        try simp only [AInBlock, AThen, ANoGoto]
        refine ABody.ofRess (vs := [.agg [.str [], .nils, .str []], .int .i64 k3]) rfl (aRess_cell (aLoad_all (St.set_same _ _ _) rfl rfl rfl) (aRess_tmp aRess_nil)) ?_
        refine .inl ⟨k3, rfl, ?_, by rw [b6, if_neg hb]⟩
        exact SW.sub (fun i B hi => by rw [St.set_ne _ _ (fun e => by subst e; rw [hbc] at hi; cases hi), b5 i B hi]) (b1.put (l := bc) (by simp [b4]) _)
      · (repeat' (first | refine AW.seq ?_ | refine AW.scope ?_ | refine AW.label ?_ | refine AW.block ?_ | refine AW.skip ?_ | refine AW.exit ?_ | refine AW.ret ?_))
        (refine AW.regionC fun Q' Kn hQ hK hK' => ?_; (repeat simp (disch := omega) only [go_sem, redN, Nat.reduceAdd, Int.reduceToNat, Int.reducePow]); (repeat' refine And.intro ?_ ?_); (try any_goals (first | (refine hK _ _ ?_; clear hK' hQ hK Q' Kn) | (intro hq9; refine ⟨hq9, ?_⟩; simp only [redB] at hq9; omega) | (intro hq9; refine ⟨hq9, fun hq8 => ?_⟩; rw [hq9, hq8]; rfl) | (simp; done) | omega | (simp only [redL]; omega) | (simp; omega) | (intros; (repeat' refine And.intro ?_ ?_) <;> (first | assumption | omega | (simp; done))))))
        refine AOp.loadAll rfl (by simp only [go_sem] <;> rfl) (by simp [go_sem]) (e3) rfl rfl rfl ?_
        (refine AOpsC_ok hK' _ _ _ ?_; (repeat simp (disch := omega) only [go_sem, redN, Nat.reduceAdd, Int.reduceToNat, Int.reducePow]); (repeat' refine And.intro ?_ ?_); (try any_goals (first | (refine hK _ _ ?_; clear hK' hQ hK Q' Kn) | (intro hq9; refine ⟨hq9, ?_⟩; simp only [redB] at hq9; omega) | (intro hq9; refine ⟨hq9, fun hq8 => ?_⟩; rw [hq9, hq8]; rfl) | (simp; done) | omega | (simp only [redL]; omega) | (simp; omega) | (intros; (repeat' refine And.intro ?_ ?_) <;> (first | assumption | omega | (simp; done))))))
        refine AOp.storeAll (cs := [.str n, v, .str s2]) rfl (by simp only [go_sem] <;> rfl) (by simp [go_sem]) e4 (by simp only [go_sem]) (by rcases b1.own with ⟨rfl, _⟩ | ⟨_, _, rfl, _⟩ <;> rfl) rfl rfl rfl ?_
        (refine AOpsC_ok hK' _ _ _ ?_; (repeat simp (disch := omega) only [go_sem, redN, Nat.reduceAdd, Int.reduceToNat, Int.reducePow]); (repeat' refine And.intro ?_ ?_); (try any_goals (first | (refine hK _ _ ?_; clear hK' hQ hK Q' Kn) | (intro hq9; refine ⟨hq9, ?_⟩; simp only [redB] at hq9; omega) | (intro hq9; refine ⟨hq9, fun hq8 => ?_⟩; rw [hq9, hq8]; rfl) | (simp; done) | omega | (simp only [redL]; omega) | (simp; omega) | (intros; (repeat' refine And.intro ?_ ?_) <;> (first | assumption | omega | (simp; done))))))
        (repeat' (first | refine AW.seq ?_ | refine AW.scope ?_ | refine AW.label ?_ | refine AW.block ?_ | refine AW.skip ?_ | refine AW.exit ?_ | refine AW.ret ?_ | (refine AW.regionC fun Q' Kn hQ hK hK' => ?_; (repeat simp (disch := omega) only [go_sem, redN, Nat.reduceAdd, Int.reduceToNat, Int.reducePow]); (repeat' refine And.intro ?_ ?_); (try any_goals (first | (refine hK _ _ ?_; clear hK' hQ hK Q' Kn) | (intro hq9; refine ⟨hq9, ?_⟩; simp only [redB] at hq9; omega) | (intro hq9; refine ⟨hq9, fun hq8 => ?_⟩; rw [hq9, hq8]; rfl) | (simp; done) | omega | (simp only [redL]; omega) | (simp; omega) | (intros; (repeat' refine And.intro ?_ ?_) <;> (first | assumption | omega | (simp; done)))))) | (refine AW.cond (by simp (disch := omega) only [go_sem, redN, Nat.reduceAdd, Int.reduceToNat, Int.reducePow]; rfl) (fun hb => ?_) (fun hb => ?_) <;> (try simp only [redB] at hb))))
        try simp only [AInBlock, AThen, ANoGoto]
        refine ABody.ofRess (vs := [.agg [.str n, v, .str s2], .int .i64 0]) rfl (aRess_cell (aLoad_all (St.set_same _ _ _) rfl rfl rfl) (aRess_tmp aRess_nil)) ?_
        exact .inr ⟨_, v, n, ps, s2, b1.put (l := bc) (by simp [b4]) _, fun i B hi => by rw [St.set_ne _ _ (fun e => by subst e; rw [hbc] at hi; cases hi), b5 i B hi], rfl, by rw [b6, if_pos hb]⟩
  · rintro x st1 (⟨k, rfl, h1, h2⟩ | ⟨β, v, n, ps, val, h1, h2, rfl, h3⟩)
    · refine ⟨2, st, _, parseR (parseL s), rfl, h1, ?_, rfl, rfl⟩
      rw [h2]
      simp only [th_tup, th_agg, List.map_cons, List.map_nil, th_str, th_nils, th_int, parseR, encProp, paramsE]
      exact VLe.tup (.cons (VLe.agg (.cons (VLe.refl _) (.cons (VLe.nil 2) (.cons (VLe.refl _) .nil)))) (.cons (VLe.refl _) .nil))
    · refine ⟨3, st, _, parseR (parseL s), rfl, h1.sub h2, ?_, rfl, rfl⟩
      rw [h3]
      simp only [th_tup, th_agg, List.map_cons, List.map_nil, th_str, th_int, parseR, encProp]
      refine VLe.tup (.cons (VLe.agg (.cons (VLe.refl _) (.cons (h1.thL h2 0 ?_) (.cons (VLe.refl _) .nil)))) (.cons (VLe.refl _) .nil))
      intro e he c hc
      rfl
end Go.Almanac
