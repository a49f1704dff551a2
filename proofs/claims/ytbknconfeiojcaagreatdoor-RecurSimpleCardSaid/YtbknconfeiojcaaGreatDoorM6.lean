/- Dates: days and times as texts, both ways of writing them. -/
import Derived.Test.YtbknconfeiojcaaGreatDoorM5
import Derived.Test.YtbknconfeiojcaaGreatDoorM4
import Derived.Test.YtbknconfeiojcaaGreatDoorMS
import Derived.Lib.ItoaNum
set_option linter.unusedSimpArgs false
set_option linter.unusedVariables false
set_option linter.unusedSectionVars false
set_option maxRecDepth 10000
set_option maxHeartbeats 1000000
/- Dates: the day of a number. -/
namespace Go.Almanac
open Go.RowKit Go.Proofs Go.Abs
theorem first_next {y : Int} (h : 1 ≤ y) : first (y + 1) = first y + psum y 12 := by
  have hp : psum y 12 = 337 + (if leap y then 29 else 28) := by
    simp only [psum, lens, List.getD_cons_zero, List.getD_cons_succ]
    split <;> omega
  rw [hp, first, first, leap]
  by_cases h4 : y % 4 = 0
  · by_cases h100 : y % 100 = 0
    · by_cases h400 : y % 400 = 0
      · rw [if_pos (by simp [h4, h400])]; omega
      · rw [if_neg (by simp [h100, h400])]; omega
    · rw [if_pos (by simp [h4, h100])]; omega
  · rw [if_neg (by simp [h4])]; omega
theorem first_mono {x y : Int} (h1 : 1 ≤ x) (h : x ≤ y) : first x ≤ first y := by unfold first; omega
def IsCivil (n y m d : Int) : Prop := 1 ≤ y ∧ y ≤ 9999 ∧ 1 ≤ m ∧ m ≤ 12 ∧ 1 ≤ d ∧ d ≤ mlen y m ∧ first y + psum y (m - 1).toNat + d - 1 = n
def CivilR (n y m d : Int) (b : Bool) : Prop := (b = false ∧ y = 0 ∧ m = 0 ∧ d = 0 ∧ (n < -719162 ∨ n > 2932896)) ∨ (b = true ∧ -719162 ≤ n ∧ n ≤ 2932896 ∧ IsCivil n y m d)
def cint (n : Int) : Blk := .cells 3 0 1 [[.int .i64 n]]
theorem set_over (σ : St) (l b2 b3 b4 b5 : Nat) (P P1 A B C D : Blk) : (((((σ.set l P).set b2 A).set b3 B).set b4 C).set b5 D).set l P1 = ((((σ.set b2 A).set b3 B).set b4 C).set b5 D).set l P1 := by
  funext i
  simp only [St.set]
  by_cases e : i = l <;> simp [e]
theorem t_Civil (G : Nat → AV) (n : Int) (h0 : -9223372036854775808 ≤ n) (h1 : n ≤ 9223372036854775807) (st : St) : ACalls (Ev G) 30 [.int .i64 n] st (fun e st' => st' = st ∧ ∃ y m d b, CivilR n y m d b ∧ e = .ret (.tup [.int .i64 y, .int .i64 m, .int .i64 d, .bool b])) := by
  refine ACalls.thaw (R' := fun e st' => st.sub st' ∧ ∃ y m d b, CivilR n y m d b ∧ e = .ret (.tup [.int .i64 y, .int .i64 m, .int .i64 d, .bool b])) ?_ (fun x st1 h => ⟨2, st, h.1, rfl, by obtain ⟨_, y, m, d, b, q, e⟩ := h; exact ⟨y, m, d, b, q, by rw [e]; rfl⟩⟩)
  refine ACalls.of_body Tryz.func30 rfl ?_
  rw [Tryz.ntmps30]
  simp only [List.length_cons, List.length_nil, Nat.reduceAdd, Nat.reduceSub, List.replicate_succ, List.replicate_zero, List.cons_append, List.nil_append]
  (repeat' (first | refine AW.seq ?_ | refine AW.scope ?_ | refine AW.label ?_ | refine AW.block ?_ | refine AW.skip ?_ | refine AW.exit ?_ | refine AW.ret ?_ | (refine AW.regionC fun Q' Kn hQ hK hK' => ?_; (repeat simp (disch := omega) only [go_sem, redN, Nat.reduceAdd, Int.reduceToNat, Int.reducePow]); (repeat' apply And.intro); (try any_goals (first | (refine hK _ _ ?_; clear hK' hQ hK Q' Kn) | (simp; done) | omega | (simp only [redL]; omega) | (simp; omega)))) | (refine AW.cond (by simp (disch := omega) only [go_sem, redN, Nat.reduceAdd, Int.reduceToNat, Int.reducePow]; rfl) (fun hb => ?_) (fun hb => ?_) <;> (try simp only [redB] at hb))))
  refine AOp.alloc (cs := [.int .i64 0]) rfl rfl fun b2 hb2 => ?_
  (refine AOpsC_ok hK' _ _ _ ?_; (repeat simp (disch := omega) only [go_sem, redN, Nat.reduceAdd, Int.reduceToNat, Int.reducePow]); (repeat' apply And.intro); (try any_goals (first | (refine hK _ _ ?_; clear hK' hQ hK Q' Kn) | (simp; done) | omega | (simp only [redL]; omega) | (simp; omega))))
  refine AOp.alloc (cs := [.int .i64 0]) rfl rfl fun b3 hb3 => ?_
  (refine AOpsC_ok hK' _ _ _ ?_; (repeat simp (disch := omega) only [go_sem, redN, Nat.reduceAdd, Int.reduceToNat, Int.reducePow]); (repeat' apply And.intro); (try any_goals (first | (refine hK _ _ ?_; clear hK' hQ hK Q' Kn) | (simp; done) | omega | (simp only [redL]; omega) | (simp; omega))))
  refine AOp.alloc (cs := [.int .i64 0]) rfl rfl fun b4 hb4 => ?_
  (refine AOpsC_ok hK' _ _ _ ?_; (repeat simp (disch := omega) only [go_sem, redN, Nat.reduceAdd, Int.reduceToNat, Int.reducePow]); (repeat' apply And.intro); (try any_goals (first | (refine hK _ _ ?_; clear hK' hQ hK Q' Kn) | (simp; done) | omega | (simp only [redL]; omega) | (simp; omega))))
  refine AOp.alloc (cs := [.bool false]) rfl rfl fun b5 hb5 => ?_
  (refine AOpsC_ok hK' _ _ _ ?_; (repeat simp (disch := omega) only [go_sem, redN, Nat.reduceAdd, Int.reduceToNat, Int.reducePow]); (repeat' apply And.intro); (try any_goals (first | (refine hK _ _ ?_; clear hK' hQ hK Q' Kn) | (simp; done) | omega | (simp only [redL]; omega) | (simp; omega))))
  have n32 : b3 ≠ b2 := fun e => by subst e; simp at hb3
  rw [St.set_ne _ _ n32] at hb3
  have n43 : b4 ≠ b3 := fun e => by subst e; simp at hb4
  rw [St.set_ne _ _ n43] at hb4
  have n42 : b4 ≠ b2 := fun e => by subst e; simp at hb4
  rw [St.set_ne _ _ n42] at hb4
  have n54 : b5 ≠ b4 := fun e => by subst e; simp at hb5
  rw [St.set_ne _ _ n54] at hb5
  have n53 : b5 ≠ b3 := fun e => by subst e; simp at hb5
  rw [St.set_ne _ _ n53] at hb5
  have n52 : b5 ≠ b2 := fun e => by subst e; simp at hb5
  rw [St.set_ne _ _ n52] at hb5
  generalize hβ0 : St.set (St.set (St.set (St.set st b2 _) b3 _) b4 _) b5 _ = β0
  have x2 : β0 b2 = some (cint 0) := by rw [← hβ0, St.set_ne _ _ (Ne.symm n52), St.set_ne _ _ (Ne.symm n42), St.set_ne _ _ (Ne.symm n32), St.set_same]; rfl
  have x3 : β0 b3 = some (cint 0) := by rw [← hβ0, St.set_ne _ _ (Ne.symm n53), St.set_ne _ _ (Ne.symm n43), St.set_same]; rfl
  have x4 : β0 b4 = some (cint 0) := by rw [← hβ0, St.set_ne _ _ (Ne.symm n54), St.set_same]; rfl
  have x5 : β0 b5 = some (.cells 4 0 1 [[.bool false]]) := by rw [← hβ0]; exact St.set_same _ _ _
  have hs0 : ∀ i A, st i = some A → i ≠ b2 ∧ i ≠ b3 ∧ i ≠ b4 ∧ i ≠ b5 ∧ β0 i = some A := fun i A hi => by
    have e1 : i ≠ b2 := fun e => by subst e; rw [hb2] at hi; cases hi
    have e2 : i ≠ b3 := fun e => by subst e; rw [hb3] at hi; cases hi
    have e3 : i ≠ b4 := fun e => by subst e; rw [hb4] at hi; cases hi
    have e4 : i ≠ b5 := fun e => by subst e; rw [hb5] at hi; cases hi
    exact ⟨e1, e2, e3, e4, by rw [← hβ0, St.set_ne _ _ e4, St.set_ne _ _ e3, St.set_ne _ _ e2, St.set_ne _ _ e1, hi]⟩
  clear hβ0
  (repeat' (first | refine AW.seq ?_ | refine AW.scope ?_ | refine AW.label ?_ | refine AW.block ?_ | refine AW.skip ?_ | refine AW.exit ?_ | refine AW.ret ?_ | (refine AW.regionC fun Q' Kn hQ hK hK' => ?_; (repeat simp (disch := omega) only [go_sem, redN, Nat.reduceAdd, Int.reduceToNat, Int.reducePow]); (repeat' apply And.intro); (try any_goals (first | (refine hK _ _ ?_; clear hK' hQ hK Q' Kn) | (simp; done) | omega | (simp only [redL]; omega) | (simp; omega)))) | (refine AW.cond (by simp (disch := omega) only [go_sem, redN, Nat.reduceAdd, Int.reduceToNat, Int.reducePow]; rfl) (fun hb => ?_) (fun hb => ?_) <;> (try simp only [redB] at hb))))
  · refine AOp.storeAll (id := b2) (t0 := 3) (sz := 1) (cs := [.int .i64 0]) rfl (by simp only [go_sem] <;> rfl) (by simp [go_sem]) x2 (by simp [go_sem, aCells]) rfl rfl rfl rfl ?_
    (refine AOpsC_ok hK' _ _ _ ?_; (repeat simp (disch := omega) only [go_sem, redN, Nat.reduceAdd, Int.reduceToNat, Int.reducePow]); (repeat' apply And.intro); (try any_goals (first | (refine hK _ _ ?_; clear hK' hQ hK Q' Kn) | (simp; done) | omega | (simp only [redL]; omega) | (simp; omega))))
    refine AOp.storeAll (id := b3) (t0 := 3) (sz := 1) (cs := [.int .i64 0]) rfl (by simp only [go_sem] <;> rfl) (by simp [go_sem]) ((St.set_ne _ _ n32).trans x3) (by simp [go_sem, aCells]) rfl rfl rfl rfl ?_
    (refine AOpsC_ok hK' _ _ _ ?_; (repeat simp (disch := omega) only [go_sem, redN, Nat.reduceAdd, Int.reduceToNat, Int.reducePow]); (repeat' apply And.intro); (try any_goals (first | (refine hK _ _ ?_; clear hK' hQ hK Q' Kn) | (simp; done) | omega | (simp only [redL]; omega) | (simp; omega))))
    refine AOp.storeAll (id := b4) (t0 := 3) (sz := 1) (cs := [.int .i64 0]) rfl (by simp only [go_sem] <;> rfl) (by simp [go_sem]) ((St.set_ne _ _ n43).trans ((St.set_ne _ _ n42).trans x4)) (by simp [go_sem, aCells]) rfl rfl rfl rfl ?_
    (refine AOpsC_ok hK' _ _ _ ?_; (repeat simp (disch := omega) only [go_sem, redN, Nat.reduceAdd, Int.reduceToNat, Int.reducePow]); (repeat' apply And.intro); (try any_goals (first | (refine hK _ _ ?_; clear hK' hQ hK Q' Kn) | (simp; done) | omega | (simp only [redL]; omega) | (simp; omega))))
    refine AOp.storeAll (id := b5) (t0 := 4) (sz := 1) (cs := [.bool false]) rfl (by simp only [go_sem] <;> rfl) (by simp [go_sem]) ((St.set_ne _ _ n54).trans ((St.set_ne _ _ n53).trans ((St.set_ne _ _ n52).trans x5))) (by simp [go_sem, aCells]) rfl rfl rfl rfl ?_
    (refine AOpsC_ok hK' _ _ _ ?_; (repeat simp (disch := omega) only [go_sem, redN, Nat.reduceAdd, Int.reduceToNat, Int.reducePow]); (repeat' apply And.intro); (try any_goals (first | (refine hK _ _ ?_; clear hK' hQ hK Q' Kn) | (simp; done) | omega | (simp only [redL]; omega) | (simp; omega))))
    (repeat' (first | refine AW.seq ?_ | refine AW.scope ?_ | refine AW.label ?_ | refine AW.block ?_ | refine AW.skip ?_ | refine AW.exit ?_ | refine AW.ret ?_))
    simp only [AThen]
    refine ABody.ofRess (fn := Tryz.f30) (vs := [.int .i64 0, .int .i64 0, .int .i64 0, .bool false]) rfl ?_ ?_
    · exact (aRess_cell (aLoad_one ((St.set_ne _ _ (Ne.symm n52)).trans ((St.set_ne _ _ (Ne.symm n42)).trans ((St.set_ne _ _ (Ne.symm n32)).trans (St.set_same _ _ _)))) rfl)
        (aRess_cell (aLoad_one ((St.set_ne _ _ (Ne.symm n53)).trans ((St.set_ne _ _ (Ne.symm n43)).trans (St.set_same _ _ _))) rfl)
        (aRess_cell (aLoad_one ((St.set_ne _ _ (Ne.symm n54)).trans (St.set_same _ _ _)) rfl)
        (aRess_cell (aLoad_one (St.set_same _ _ _) rfl) aRess_nil))))
    · refine ⟨fun i A hi => ?_, 0, 0, 0, false, .inl ⟨rfl, rfl, rfl, rfl, by omega⟩, rfl⟩
      obtain ⟨e1, e2, e3, e4, e5⟩ := hs0 i A hi
      rw [St.set_ne _ _ e4, St.set_ne _ _ e3, St.set_ne _ _ e2, St.set_ne _ _ e1, e5]
  have htd : (n - -719162) * 400 = (n + 719162) * 400 := by omega
  refine AOp.alloc (cs := [.int .i64 0]) rfl rfl fun b6 hb6 => ?_
  (refine AOpsC_ok hK' _ _ _ ?_; (repeat simp (disch := omega) only [go_sem, redN, Nat.reduceAdd, Int.reduceToNat, Int.reducePow]); (repeat' apply And.intro); (try any_goals (first | (refine hK _ _ ?_; clear hK' hQ hK Q' Kn) | (simp; done) | omega | (simp only [redL]; omega) | (simp; omega))))
  have n62 : b6 ≠ b2 := fun e => by subst e; rw [x2] at hb6; cases hb6
  have n63 : b6 ≠ b3 := fun e => by subst e; rw [x3] at hb6; cases hb6
  have n64 : b6 ≠ b4 := fun e => by subst e; rw [x4] at hb6; cases hb6
  have n65 : b6 ≠ b5 := fun e => by subst e; rw [x5] at hb6; cases hb6
  refine AOp.storeAll (id := b6) (t0 := 3) (sz := 1) (cs := [.int .i64 ((n + 719162) * 400 / 146097 + 1)]) rfl (by simp only [go_sem] <;> rfl) (by simp [go_sem]) (St.set_same _ _ _) (by simp [go_sem, aCells, htd]) rfl rfl rfl rfl ?_
  rw [St.set_set]
  (refine AOpsC_ok hK' _ _ _ ?_; (repeat simp (disch := omega) only [go_sem, redN, Nat.reduceAdd, Int.reduceToNat, Int.reducePow]); (repeat' apply And.intro); (try any_goals (first | (refine hK _ _ ?_; clear hK' hQ hK Q' Kn) | (simp; done) | omega | (simp only [redL]; omega) | (simp; omega))))
  (repeat' (first | refine AW.seq ?_ | refine AW.scope ?_ | refine AW.label ?_ | refine AW.block ?_ | refine AW.skip ?_ | refine AW.exit ?_ | refine AW.ret ?_))
  refine AW.loopF (fun y : Int => [.int .i64 n, .junk, .ptr b2 0 0 0, .ptr b3 0 0 0, .ptr b4 0 0 0, .ptr b5 0 0 0, .ptr b6 0 0 0, .junk, .junk, .junk, .junk, .junk, .junk, .junk, .junk, .junk, .junk, .junk, .junk, .junk, .junk, .junk, .junk, .junk, .junk, .junk, .junk, .junk, .junk, .junk, .junk, .junk, .junk, .junk, .junk, .junk, .junk, .junk, .junk, .junk, .junk, .junk, .junk, .junk, .junk, .junk, .junk, .junk, .junk, .junk, .junk, .junk]) (fun y => β0.set b6 (cint y))
    (fun y => 1 ≤ y ∧ y ≤ 10000) (fun y => y.toNat) ((n + 719162) * 400 / 146097 + 1) ?_ rfl ?_ ?_
  · (repeat (first | exact Weak.nil | refine Weak.junk _ ?_ | refine Weak.same _ ?_ | refine Weak.eqv (by (congr 1; first | omega | (simp; done) | exact w_i64 (by omega) (by omega))) ?_))
  · omega
  rintro y ⟨y0, y1⟩
  dsimp only
  (repeat' (first | refine AW.seq ?_ | refine AW.scope ?_ | refine AW.label ?_ | refine AW.block ?_ | refine AW.skip ?_ | refine AW.exit ?_ | refine AW.ret ?_ | (refine AW.regionC fun Q' Kn hQ hK hK' => ?_; (repeat simp (disch := omega) only [go_sem, redN, Nat.reduceAdd, Int.reduceToNat, Int.reducePow]); (repeat' apply And.intro); (try any_goals (first | (refine hK _ _ ?_; clear hK' hQ hK Q' Kn) | (simp; done) | omega | (simp only [redL]; omega) | (simp; omega)))) | (refine AW.cond (by simp (disch := omega) only [go_sem, redN, Nat.reduceAdd, Int.reduceToNat, Int.reducePow]; rfl) (fun hb => ?_) (fun hb => ?_) <;> (try simp only [redB] at hb))))
  refine AOp.loadCell (id := b6) (t0 := 3) (sz := 1) (g := 0) (es := [[.int .i64 y]]) rfl (by simp only [go_sem] <;> rfl) (by simp [go_sem]) (St.set_same _ _ _) rfl (by simp) (by simp) ?_
  (refine AOpsC_ok hK' _ _ _ ?_; (repeat simp (disch := omega) only [go_sem, redN, Nat.reduceAdd, Int.reduceToNat, Int.reducePow]); (repeat' apply And.intro); (try any_goals (first | (refine hK _ _ ?_; clear hK' hQ hK Q' Kn) | (simp; done) | omega | (simp only [redL]; omega) | (simp; omega))))
  refine AOp.call rfl (by simp only [go_sem]; rfl) (by simp [go_sem]) rfl (ACalls.mono (by simp only [go_sem]; exact t_begins G y (by omega) (by omega) _) ?_)
  rintro e st' ⟨rfl, rfl⟩
  (refine AOpsC_ok hK' _ _ _ ?_; (repeat simp (disch := omega) only [go_sem, redN, Nat.reduceAdd, Int.reduceToNat, Int.reducePow]); (repeat' apply And.intro); (try any_goals (first | (refine hK _ _ ?_; clear hK' hQ hK Q' Kn) | (simp; done) | omega | (simp only [redL]; omega) | (simp; omega))))
  (repeat' (first | refine AW.seq ?_ | refine AW.scope ?_ | refine AW.label ?_ | refine AW.block ?_ | refine AW.skip ?_ | refine AW.exit ?_ | refine AW.ret ?_ | (refine AW.regionC fun Q' Kn hQ hK hK' => ?_; (repeat simp (disch := omega) only [go_sem, redN, Nat.reduceAdd, Int.reduceToNat, Int.reducePow]); (repeat' apply And.intro); (try any_goals (first | (refine hK _ _ ?_; clear hK' hQ hK Q' Kn) | (simp; done) | omega | (simp only [redL]; omega) | (simp; omega)))) | (refine AW.cond (by simp (disch := omega) only [go_sem, redN, Nat.reduceAdd, Int.reduceToNat, Int.reducePow]; rfl) (fun hb => ?_) (fun hb => ?_) <;> (try simp only [redB] at hb))))
  · refine AOp.loadCell (id := b6) (t0 := 3) (sz := 1) (g := 0) (es := [[.int .i64 y]]) rfl (by simp only [go_sem] <;> rfl) (by simp [go_sem]) (St.set_same _ _ _) rfl (by simp) (by simp) ?_
    (refine AOpsC_ok hK' _ _ _ ?_; (repeat simp (disch := omega) only [go_sem, redN, Nat.reduceAdd, Int.reduceToNat, Int.reducePow]); (repeat' apply And.intro); (try any_goals (first | (refine hK _ _ ?_; clear hK' hQ hK Q' Kn) | (simp; done) | omega | (simp only [redL]; omega) | (simp; omega))))
    refine AOp.storeAll (id := b6) (t0 := 3) (sz := 1) (cs := [.int .i64 (y - 1)]) rfl (by simp only [go_sem] <;> rfl) (by simp [go_sem]) (St.set_same _ _ _) (by simp [go_sem, aCells]) rfl rfl rfl rfl ?_
    rw [St.set_set]
    (refine AOpsC_ok hK' _ _ _ ?_; (repeat simp (disch := omega) only [go_sem, redN, Nat.reduceAdd, Int.reduceToNat, Int.reducePow]); (repeat' apply And.intro); (try any_goals (first | (refine hK _ _ ?_; clear hK' hQ hK Q' Kn) | (simp; done) | omega | (simp only [redL]; omega) | (simp; omega))))
    (repeat' (first | refine AW.seq ?_ | refine AW.scope ?_ | refine AW.label ?_ | refine AW.block ?_ | refine AW.skip ?_ | refine AW.exit ?_ | refine AW.ret ?_ | (refine AW.regionC fun Q' Kn hQ hK hK' => ?_; (repeat simp (disch := omega) only [go_sem, redN, Nat.reduceAdd, Int.reduceToNat, Int.reducePow]); (repeat' apply And.intro); (try any_goals (first | (refine hK _ _ ?_; clear hK' hQ hK Q' Kn) | (simp; done) | omega | (simp only [redL]; omega) | (simp; omega)))) | (refine AW.cond (by simp (disch := omega) only [go_sem, redN, Nat.reduceAdd, Int.reduceToNat, Int.reducePow]; rfl) (fun hb => ?_) (fun hb => ?_) <;> (try simp only [redB] at hb))))
    refine ⟨y - 1, ?_, by omega, ?_, rfl, rfl⟩
    · have : first 1 = -719162 := rfl
      rcases (show y = 1 ∨ 1 < y by omega) with rfl | h
      · omega
      · omega
    · (repeat (first | exact Weak.nil | refine Weak.junk _ ?_ | refine Weak.same _ ?_ | refine Weak.eqv (by (congr 1; first | omega | (simp; done) | exact w_i64 (by omega) (by omega))) ?_))
  have hy9 : y ≤ 9999 := by
    rcases (show y ≤ 9999 ∨ y = 10000 by omega) with h | rfl
    · exact h
    · have : first 10000 = 2932897 := rfl
      omega
  (repeat' (first | refine AW.seq ?_ | refine AW.scope ?_ | refine AW.label ?_ | refine AW.block ?_ | refine AW.skip ?_ | refine AW.exit ?_ | refine AW.ret ?_))
  refine AW.loopF (fun y : Int => [.int .i64 n, .junk, .ptr b2 0 0 0, .ptr b3 0 0 0, .ptr b4 0 0 0, .ptr b5 0 0 0, .ptr b6 0 0 0, .junk, .junk, .junk, .junk, .junk, .junk, .junk, .junk, .junk, .junk, .junk, .junk, .junk, .junk, .junk, .junk, .junk, .junk, .junk, .junk, .junk, .junk, .junk, .junk, .junk, .junk, .junk, .junk, .junk, .junk, .junk, .junk, .junk, .junk, .junk, .junk, .junk, .junk, .junk, .junk, .junk, .junk, .junk, .junk, .junk]) (fun y => β0.set b6 (cint y))
    (fun y => 1 ≤ y ∧ y ≤ 9999 ∧ first y ≤ n) (fun y => (10000 - y).toNat) y ?_ rfl ?_ ?_
  · (repeat (first | exact Weak.nil | refine Weak.junk _ ?_ | refine Weak.same _ ?_ | refine Weak.eqv (by (congr 1; first | omega | (simp; done) | exact w_i64 (by omega) (by omega))) ?_))
  · omega
  clear hy9 hb y0 y1
  rintro y ⟨y0, y1, y2⟩
  (repeat' (first | refine AW.seq ?_ | refine AW.scope ?_ | refine AW.label ?_ | refine AW.block ?_ | refine AW.skip ?_ | refine AW.exit ?_ | refine AW.ret ?_ | (refine AW.regionC fun Q' Kn hQ hK hK' => ?_; (repeat simp (disch := omega) only [go_sem, redN, Nat.reduceAdd, Int.reduceToNat, Int.reducePow]); (repeat' apply And.intro); (try any_goals (first | (refine hK _ _ ?_; clear hK' hQ hK Q' Kn) | (simp; done) | omega | (simp only [redL]; omega) | (simp; omega)))) | (refine AW.cond (by simp (disch := omega) only [go_sem, redN, Nat.reduceAdd, Int.reduceToNat, Int.reducePow]; rfl) (fun hb => ?_) (fun hb => ?_) <;> (try simp only [redB] at hb))))
  refine AOp.loadCell (id := b6) (t0 := 3) (sz := 1) (g := 0) (es := [[.int .i64 y]]) rfl (by simp only [go_sem] <;> rfl) (by simp [go_sem]) (St.set_same _ _ _) rfl (by simp) (by simp) ?_
  (refine AOpsC_ok hK' _ _ _ ?_; (repeat simp (disch := omega) only [go_sem, redN, Nat.reduceAdd, Int.reduceToNat, Int.reducePow]); (repeat' apply And.intro); (try any_goals (first | (refine hK _ _ ?_; clear hK' hQ hK Q' Kn) | (simp; done) | omega | (simp only [redL]; omega) | (simp; omega))))
  refine AOp.call rfl (by simp only [go_sem]; rfl) (by simp [go_sem]) rfl (ACalls.mono (by simp only [go_sem]; exact t_begins G (y + 1) (by omega) (by omega) _) ?_)
  rintro e st' ⟨rfl, rfl⟩
  (refine AOpsC_ok hK' _ _ _ ?_; (repeat simp (disch := omega) only [go_sem, redN, Nat.reduceAdd, Int.reduceToNat, Int.reducePow]); (repeat' apply And.intro); (try any_goals (first | (refine hK _ _ ?_; clear hK' hQ hK Q' Kn) | (simp; done) | omega | (simp only [redL]; omega) | (simp; omega))))
  (repeat' (first | refine AW.seq ?_ | refine AW.scope ?_ | refine AW.label ?_ | refine AW.block ?_ | refine AW.skip ?_ | refine AW.exit ?_ | refine AW.ret ?_ | (refine AW.regionC fun Q' Kn hQ hK hK' => ?_; (repeat simp (disch := omega) only [go_sem, redN, Nat.reduceAdd, Int.reduceToNat, Int.reducePow]); (repeat' apply And.intro); (try any_goals (first | (refine hK _ _ ?_; clear hK' hQ hK Q' Kn) | (simp; done) | omega | (simp only [redL]; omega) | (simp; omega)))) | (refine AW.cond (by simp (disch := omega) only [go_sem, redN, Nat.reduceAdd, Int.reduceToNat, Int.reducePow]; rfl) (fun hb => ?_) (fun hb => ?_) <;> (try simp only [redB] at hb))))
  · refine AOp.loadCell (id := b6) (t0 := 3) (sz := 1) (g := 0) (es := [[.int .i64 y]]) rfl (by simp only [go_sem] <;> rfl) (by simp [go_sem]) (St.set_same _ _ _) rfl (by simp) (by simp) ?_
    (refine AOpsC_ok hK' _ _ _ ?_; (repeat simp (disch := omega) only [go_sem, redN, Nat.reduceAdd, Int.reduceToNat, Int.reducePow]); (repeat' apply And.intro); (try any_goals (first | (refine hK _ _ ?_; clear hK' hQ hK Q' Kn) | (simp; done) | omega | (simp only [redL]; omega) | (simp; omega))))
    refine AOp.storeAll (id := b6) (t0 := 3) (sz := 1) (cs := [.int .i64 (y + 1)]) rfl (by simp only [go_sem] <;> rfl) (by simp [go_sem]) (St.set_same _ _ _) (by simp [go_sem, aCells]) rfl rfl rfl rfl ?_
    rw [St.set_set]
    (refine AOpsC_ok hK' _ _ _ ?_; (repeat simp (disch := omega) only [go_sem, redN, Nat.reduceAdd, Int.reduceToNat, Int.reducePow]); (repeat' apply And.intro); (try any_goals (first | (refine hK _ _ ?_; clear hK' hQ hK Q' Kn) | (simp; done) | omega | (simp only [redL]; omega) | (simp; omega))))
    (repeat' (first | refine AW.seq ?_ | refine AW.scope ?_ | refine AW.label ?_ | refine AW.block ?_ | refine AW.skip ?_ | refine AW.exit ?_ | refine AW.ret ?_ | (refine AW.regionC fun Q' Kn hQ hK hK' => ?_; (repeat simp (disch := omega) only [go_sem, redN, Nat.reduceAdd, Int.reduceToNat, Int.reducePow]); (repeat' apply And.intro); (try any_goals (first | (refine hK _ _ ?_; clear hK' hQ hK Q' Kn) | (simp; done) | omega | (simp only [redL]; omega) | (simp; omega)))) | (refine AW.cond (by simp (disch := omega) only [go_sem, redN, Nat.reduceAdd, Int.reduceToNat, Int.reducePow]; rfl) (fun hb => ?_) (fun hb => ?_) <;> (try simp only [redB] at hb))))
    refine ⟨y + 1, ?_, by omega, ?_, rfl, rfl⟩
    · rcases (show y ≤ 9998 ∨ y = 9999 by omega) with h | rfl
      · omega
      · have : first (9999 + 1) = 2932897 := rfl
        omega
    · (repeat (first | exact Weak.nil | refine Weak.junk _ ?_ | refine Weak.same _ ?_ | refine Weak.eqv (by (congr 1; first | omega | (simp; done) | exact w_i64 (by omega) (by omega))) ?_))
  refine AOp.loadCell (id := b6) (t0 := 3) (sz := 1) (g := 0) (es := [[.int .i64 y]]) rfl (by simp only [go_sem] <;> rfl) (by simp [go_sem]) (St.set_same _ _ _) rfl (by simp) (by simp) ?_
  (refine AOpsC_ok hK' _ _ _ ?_; (repeat simp (disch := omega) only [go_sem, redN, Nat.reduceAdd, Int.reduceToNat, Int.reducePow]); (repeat' apply And.intro); (try any_goals (first | (refine hK _ _ ?_; clear hK' hQ hK Q' Kn) | (simp; done) | omega | (simp only [redL]; omega) | (simp; omega))))
  refine AOp.call rfl (by simp only [go_sem]; rfl) (by simp [go_sem]) rfl (ACalls.mono (by simp only [go_sem]; exact t_begins G y (by omega) (by omega) _) ?_)
  rintro e st' ⟨rfl, rfl⟩
  have hn1 := first_next y0
  have hfb := first_bounds y0 (by omega)
  (refine AOpsC_ok hK' _ _ _ ?_; (repeat simp (disch := omega) only [go_sem, redN, Nat.reduceAdd, Int.reduceToNat, Int.reducePow]); (repeat' apply And.intro); (try any_goals (first | (refine hK _ _ ?_; clear hK' hQ hK Q' Kn) | (simp; done) | omega | (simp only [redL]; omega) | (simp; omega))))
  refine AOp.alloc (cs := [.int .i64 0]) rfl rfl fun b7 hb7 => ?_
  (refine AOpsC_ok hK' _ _ _ ?_; (repeat simp (disch := omega) only [go_sem, redN, Nat.reduceAdd, Int.reduceToNat, Int.reducePow]); (repeat' apply And.intro); (try any_goals (first | (refine hK _ _ ?_; clear hK' hQ hK Q' Kn) | (simp; done) | omega | (simp only [redL]; omega) | (simp; omega))))
  have n76 : b7 ≠ b6 := fun e => by subst e; simp at hb7
  rw [St.set_ne _ _ n76] at hb7
  have n72 : b7 ≠ b2 := fun e => by subst e; rw [x2] at hb7; cases hb7
  have n73 : b7 ≠ b3 := fun e => by subst e; rw [x3] at hb7; cases hb7
  have n74 : b7 ≠ b4 := fun e => by subst e; rw [x4] at hb7; cases hb7
  have n75 : b7 ≠ b5 := fun e => by subst e; rw [x5] at hb7; cases hb7
  refine AOp.storeAll (id := b7) (t0 := 3) (sz := 1) (cs := [.int .i64 (n - first y)]) rfl (by simp only [go_sem] <;> rfl) (by simp [go_sem]) (St.set_same _ _ _) (by simp [go_sem, aCells]) rfl rfl rfl rfl ?_
  rw [St.set_set]
  (refine AOpsC_ok hK' _ _ _ ?_; (repeat simp (disch := omega) only [go_sem, redN, Nat.reduceAdd, Int.reduceToNat, Int.reducePow]); (repeat' apply And.intro); (try any_goals (first | (refine hK _ _ ?_; clear hK' hQ hK Q' Kn) | (simp; done) | omega | (simp only [redL]; omega) | (simp; omega))))
  (repeat' (first | refine AW.seq ?_ | refine AW.scope ?_ | refine AW.label ?_ | refine AW.block ?_ | refine AW.skip ?_ | refine AW.exit ?_ | refine AW.ret ?_ | (refine AW.regionC fun Q' Kn hQ hK hK' => ?_; (repeat simp (disch := omega) only [go_sem, redN, Nat.reduceAdd, Int.reduceToNat, Int.reducePow]); (repeat' apply And.intro); (try any_goals (first | (refine hK _ _ ?_; clear hK' hQ hK Q' Kn) | (simp; done) | omega | (simp only [redL]; omega) | (simp; omega)))) | (refine AW.cond (by simp (disch := omega) only [go_sem, redN, Nat.reduceAdd, Int.reduceToNat, Int.reducePow]; rfl) (fun hb => ?_) (fun hb => ?_) <;> (try simp only [redB] at hb))))
  refine AOp.loadCell (id := b6) (t0 := 3) (sz := 1) (g := 0) (es := [[.int .i64 y]]) rfl (by simp only [go_sem] <;> rfl) (by simp [go_sem]) ((St.set_ne _ _ (Ne.symm n76)).trans (St.set_same _ _ _)) rfl (by simp) (by simp) ?_
  (refine AOpsC_ok hK' _ _ _ ?_; (repeat simp (disch := omega) only [go_sem, redN, Nat.reduceAdd, Int.reduceToNat, Int.reducePow]); (repeat' apply And.intro); (try any_goals (first | (refine hK _ _ ?_; clear hK' hQ hK Q' Kn) | (simp; done) | omega | (simp only [redL]; omega) | (simp; omega))))
  refine AOp.call rfl (by simp only [go_sem]; rfl) (by simp [go_sem]) rfl (ACalls.mono (by simp only [go_sem]; exact t_months G y _) ?_)
  rintro e st2 ⟨by_, hby, rfl, rfl⟩
  (refine AOpsC_ok hK' _ _ _ ?_; (repeat simp (disch := omega) only [go_sem, redN, Nat.reduceAdd, Int.reduceToNat, Int.reducePow]); (repeat' apply And.intro); (try any_goals (first | (refine hK _ _ ?_; clear hK' hQ hK Q' Kn) | (simp; done) | omega | (simp only [redL]; omega) | (simp; omega))))
  (repeat' (first | refine AW.seq ?_ | refine AW.scope ?_ | refine AW.label ?_ | refine AW.block ?_ | refine AW.skip ?_ | refine AW.exit ?_ | refine AW.ret ?_ | (refine AW.regionC fun Q' Kn hQ hK hK' => ?_; (repeat simp (disch := omega) only [go_sem, redN, Nat.reduceAdd, Int.reduceToNat, Int.reducePow]); (repeat' apply And.intro); (try any_goals (first | (refine hK _ _ ?_; clear hK' hQ hK Q' Kn) | (simp; done) | omega | (simp only [redL]; omega) | (simp; omega)))) | (refine AW.cond (by simp (disch := omega) only [go_sem, redN, Nat.reduceAdd, Int.reduceToNat, Int.reducePow]; rfl) (fun hb => ?_) (fun hb => ?_) <;> (try simp only [redB] at hb))))
  refine AW.rangeFunc (f := 76) (by simp only [go_sem] <;> rfl) (by simp [go_sem]) rfl fun dd l fn hd hl hld => ?_
  have nyn : by_ ≠ b7 := fun e => by subst e; simp at hby
  rw [St.set_ne _ _ nyn] at hby
  have ny6 : by_ ≠ b6 := fun e => by subst e; simp at hby
  rw [St.set_ne _ _ ny6] at hby
  have ndy : dd ≠ by_ := fun e => by subst e; simp at hd
  rw [St.set_ne _ _ ndy] at hd
  have nd7 : dd ≠ b7 := fun e => by subst e; simp at hd
  rw [St.set_ne _ _ nd7] at hd
  have nd6 : dd ≠ b6 := fun e => by subst e; simp at hd
  rw [St.set_ne _ _ nd6] at hd
  have nly : l ≠ by_ := fun e => by subst e; simp at hl
  rw [St.set_ne _ _ nly] at hl
  have nl7 : l ≠ b7 := fun e => by subst e; simp at hl
  rw [St.set_ne _ _ nl7] at hl
  have nl6 : l ≠ b6 := fun e => by subst e; simp at hl
  rw [St.set_ne _ _ nl6] at hl
  have nd2 : dd ≠ b2 := fun e => by subst e; rw [x2] at hd; cases hd
  have nd3 : dd ≠ b3 := fun e => by subst e; rw [x3] at hd; cases hd
  have nd4 : dd ≠ b4 := fun e => by subst e; rw [x4] at hd; cases hd
  have nd5 : dd ≠ b5 := fun e => by subst e; rw [x5] at hd; cases hd
  have nl2 : l ≠ b2 := fun e => by subst e; rw [x2] at hl; cases hl
  have nl3 : l ≠ b3 := fun e => by subst e; rw [x3] at hl; cases hl
  have nl4 : l ≠ b4 := fun e => by subst e; rw [x4] at hl; cases hl
  have nl5 : l ≠ b5 := fun e => by subst e; rw [x5] at hl; cases hl
  have ny2 : by_ ≠ b2 := fun e => by subst e; rw [x2] at hby; cases hby
  have ny3 : by_ ≠ b3 := fun e => by subst e; rw [x3] at hby; cases hby
  have ny4 : by_ ≠ b4 := fun e => by subst e; rw [x4] at hby; cases hby
  have ny5 : by_ ≠ b5 := fun e => by subst e; rw [x5] at hby; cases hby
  generalize hB : Blk.loop _ _ _ _ _ _ _ _ = B
  generalize hβ : St.set (St.set (St.set (St.set (St.set β0 b6 _) b7 _) by_ _) dd _) l B = β
  have e7 : β b7 = some (cint (n - first y)) := by rw [← hβ, St.set_ne _ _ (Ne.symm nl7), St.set_ne _ _ (Ne.symm nd7), St.set_ne _ _ (Ne.symm nyn), St.set_same]; rfl
  have e6 : β b6 = some (cint y) := by rw [← hβ, St.set_ne _ _ (Ne.symm nl6), St.set_ne _ _ (Ne.symm nd6), St.set_ne _ _ (Ne.symm ny6), St.set_ne _ _ (Ne.symm n76), St.set_same]
  have ey : β by_ = some (cint y) := by rw [← hβ, St.set_ne _ _ (Ne.symm nly), St.set_ne _ _ (Ne.symm ndy), St.set_same]; rfl
  have ed : β dd = some (.dfr true) := by rw [← hβ, St.set_ne _ _ (Ne.symm hld), St.set_same]
  have el : β l = some B := by rw [← hβ, St.set_same]
  have eo : ∀ i, i ≠ l → i ≠ dd → i ≠ by_ → i ≠ b7 → i ≠ b6 → β i = β0 i := fun i q1 q2 q3 q4 q5 => by
    rw [← hβ, St.set_ne _ _ q1, St.set_ne _ _ q2, St.set_ne _ _ q3, St.set_ne _ _ q4, St.set_ne _ _ q5]
  have e2 : β b2 = some (cint 0) := by rw [eo b2 (Ne.symm nl2) (Ne.symm nd2) (Ne.symm ny2) (Ne.symm n72) (Ne.symm n62), x2]
  have e3 : β b3 = some (cint 0) := by rw [eo b3 (Ne.symm nl3) (Ne.symm nd3) (Ne.symm ny3) (Ne.symm n73) (Ne.symm n63), x3]
  have e4 : β b4 = some (cint 0) := by rw [eo b4 (Ne.symm nl4) (Ne.symm nd4) (Ne.symm ny4) (Ne.symm n74) (Ne.symm n64), x4]
  have e5 : β b5 = some (.cells 4 0 1 [[.bool false]]) := by rw [eo b5 (Ne.symm nl5) (Ne.symm nd5) (Ne.symm ny5) (Ne.symm n75) (Ne.symm n65), x5]
  have hs2 : ∀ i A, st i = some A → i ≠ b2 ∧ i ≠ b3 ∧ i ≠ b4 ∧ i ≠ b5 ∧ i ≠ b7 ∧ i ≠ l ∧ i ≠ dd ∧ β i = some A := fun i A hi => by
    obtain ⟨q2, q3, q4, q5, q0⟩ := hs0 i A hi
    have z6 : i ≠ b6 := fun e => by subst e; rw [hb6] at q0; cases q0
    have z7 : i ≠ b7 := fun e => by subst e; rw [hb7] at q0; cases q0
    have zy : i ≠ by_ := fun e => by subst e; rw [hby] at q0; cases q0
    have zd : i ≠ dd := fun e => by subst e; rw [hd] at q0; cases q0
    have zl : i ≠ l := fun e => by subst e; rw [hl] at q0; cases q0
    exact ⟨q2, q3, q4, q5, z7, zl, zd, by rw [eo i zl zd zy z7 z6, q0]⟩
  clear hβ hby hd hl hb7 hb6 hs0 x2 x3 x4 x5 hb2 hb3 hb4 hb5 eo
  refine ACalls.mono (t_months1 G y (by omega) (by omega) by_ l (fun k σ => 0 ≤ n - first y - psum y k ∧ σ = β.set b7 (cint (n - first y - psum y k)))
    (fun k σ => ∃ L, 0 ≤ L ∧ L < (lens y).getD k 0 ∧ L = n - first y - psum y k ∧ ∃ fn' tm' ps' asg' body' d', σ = (((((β.set b7 (cint L)).set b2 (cint y)).set b3 (cint (k + 1))).set b4 (cint (L + 1))).set b5 (.cells 4 0 1 [[.bool true]])).set l (.loop .done (some .ret) fn' tm' ps' asg' body' d')) β ⟨by simp only [psum]; omega, by rw [psum, Int.sub_zero]; exact (St.set_self β e7).symm⟩ ey ?_) ?_
  · rintro k σ hk ⟨hk0, rfl⟩
    have hpb := psum_bounds y k
    have hlb := lens_bounds y k
    have hpk : psum y (k + 1) = psum y k + (lens y).getD k 0 := rfl
    have hll : (β.set b7 (cint (n - first y - psum y k))) l = some B := by rw [St.set_ne _ _ nl7, el]
    generalize hL : n - first y - psum y k = L at hll hk0 ⊢
    subst hB
    refine ⟨_, _, _, _, _, _, _, _, hll, rfl, ?_⟩
    simp only [go_sem, bindTm]
    (repeat' (first | refine AW.seq ?_ | refine AW.scope ?_ | refine AW.label ?_ | refine AW.block ?_ | refine AW.skip ?_ | refine AW.exit ?_ | refine AW.ret ?_ | (refine AW.regionC fun Q' Kn hQ hK hK' => ?_; (repeat simp (disch := omega) only [go_sem, redN, Nat.reduceAdd, Int.reduceToNat, Int.reducePow]); (repeat' apply And.intro); (try any_goals (first | (refine hK _ _ ?_; clear hK' hQ hK Q' Kn) | (simp; done) | omega | (simp only [redL]; omega) | (simp; omega)))) | (refine AW.cond (by simp (disch := omega) only [go_sem, redN, Nat.reduceAdd, Int.reduceToNat, Int.reducePow]; rfl) (fun hb => ?_) (fun hb => ?_) <;> (try simp only [redB] at hb))))
    refine ⟨_, _, _, _, _, _, _, hll, ?_⟩
    generalize hP0 : Blk.loop _ _ _ _ _ _ _ _ = P0
    (repeat' (first | refine AW.seq ?_ | refine AW.scope ?_ | refine AW.label ?_ | refine AW.block ?_ | refine AW.skip ?_ | refine AW.exit ?_ | refine AW.ret ?_ | (refine AW.regionC fun Q' Kn hQ hK hK' => ?_; (repeat simp (disch := omega) only [go_sem, redN, Nat.reduceAdd, Int.reduceToNat, Int.reducePow]); (repeat' apply And.intro); (try any_goals (first | (refine hK _ _ ?_; clear hK' hQ hK Q' Kn) | (simp; done) | omega | (simp only [redL]; omega) | (simp; omega)))) | (refine AW.cond (by simp (disch := omega) only [go_sem, redN, Nat.reduceAdd, Int.reduceToNat, Int.reducePow]; rfl) (fun hb => ?_) (fun hb => ?_) <;> (try simp only [redB] at hb))))
    refine AOp.loadCell (id := b7) (t0 := 3) (sz := 1) (g := 0) (es := [[.int .i64 L]]) rfl (by simp only [go_sem] <;> rfl) (by simp [go_sem]) (by rw [St.set_ne _ _ (Ne.symm nl7), St.set_same]; rfl) rfl (by simp) (by simp) ?_
    (refine AOpsC_ok hK' _ _ _ ?_; (repeat simp (disch := omega) only [go_sem, redN, Nat.reduceAdd, Int.reduceToNat, Int.reducePow]); (repeat' apply And.intro); (try any_goals (first | (refine hK _ _ ?_; clear hK' hQ hK Q' Kn) | (simp; done) | omega | (simp only [redL]; omega) | (simp; omega))))
    (repeat' (first | refine AW.seq ?_ | refine AW.scope ?_ | refine AW.label ?_ | refine AW.block ?_ | refine AW.skip ?_ | refine AW.exit ?_ | refine AW.ret ?_ | (refine AW.regionC fun Q' Kn hQ hK hK' => ?_; (repeat simp (disch := omega) only [go_sem, redN, Nat.reduceAdd, Int.reduceToNat, Int.reducePow]); (repeat' apply And.intro); (try any_goals (first | (refine hK _ _ ?_; clear hK' hQ hK Q' Kn) | (simp; done) | omega | (simp only [redL]; omega) | (simp; omega)))) | (refine AW.cond (by simp (disch := omega) only [go_sem, redN, Nat.reduceAdd, Int.reduceToNat, Int.reducePow]; rfl) (fun hb => ?_) (fun hb => ?_) <;> (try simp only [redB] at hb))))
    · have s6 : ((β.set b7 (cint L)).set l P0) b6 = some (cint y) := by rw [St.set_ne _ _ (Ne.symm nl6), St.set_ne _ _ (Ne.symm n76), e6]
      have s7 : ((β.set b7 (cint L)).set l P0) b7 = some (cint L) := by rw [St.set_ne _ _ (Ne.symm nl7), St.set_same]
      have s2 : ((β.set b7 (cint L)).set l P0) b2 = some (cint 0) := by rw [St.set_ne _ _ (Ne.symm nl2), St.set_ne _ _ (Ne.symm n72), e2]
      have s3 : ((β.set b7 (cint L)).set l P0) b3 = some (cint 0) := by rw [St.set_ne _ _ (Ne.symm nl3), St.set_ne _ _ (Ne.symm n73), e3]
      have s4 : ((β.set b7 (cint L)).set l P0) b4 = some (cint 0) := by rw [St.set_ne _ _ (Ne.symm nl4), St.set_ne _ _ (Ne.symm n74), e4]
      have s5 : ((β.set b7 (cint L)).set l P0) b5 = some (.cells 4 0 1 [[.bool false]]) := by rw [St.set_ne _ _ (Ne.symm nl5), St.set_ne _ _ (Ne.symm n75), e5]
      refine AW.drawnN 8 [4, 5, 6, 7] [0, 2, 3, 4, 1, 5, 6, 7] (fun σ' => σ' b7 = some (cint L)) (by decide +kernel) fun Q' Kn hQ hK hK' => ?_
      show FxN _ _ _ _ _ _ _ _ [0, 1, 2, 3, 4, 5, 6, 7] _ _
      refine FxN.fixed rfl (Fixed.loadCell (id := b6) (t0 := 3) (sz := 1) (g := 0) (es := [[.int .i64 y]]) rfl rfl rfl (by simp only [go_sem] <;> rfl) (by simp [go_sem]) s6 rfl (by simp) (by simp)) ?_
      refine FxNC_ok (by intro i hi a o ho; simp only [List.mem_cons, List.not_mem_nil, or_false] at hi; rcases hi with rfl | rfl | rfl | rfl <;> (cases ho; rfl)) _ _ _ ?_
      simp (disch := omega) only [go_sem, redN, Nat.reduceAdd, Int.reduceToNat, Int.reducePow]
      refine FxN.wait rfl s7 (fun st' hI => Fixed.loadCell (id := b7) (t0 := 3) (sz := 1) (g := 0) (es := [[.int .i64 L]]) rfl rfl rfl (by simp only [go_sem] <;> rfl) (by simp [go_sem]) hI rfl (by simp) (by simp)) ?_
      refine FxNC_ok (by intro i hi a o ho; simp only [List.mem_cons, List.not_mem_nil, or_false] at hi; rcases hi with rfl | rfl | rfl | rfl <;> (cases ho; rfl)) _ _ _ ?_
      simp (disch := omega) only [go_sem, redN, Nat.reduceAdd, Int.reduceToNat, Int.reducePow]
      refine FxN.moves rfl (Moves.storeAll (id := b2) (t0 := 3) (sz := 1) (cs := [.int .i64 y]) rfl rfl rfl (by simp only [go_sem] <;> rfl) (by simp [go_sem]) s2 (by simp [go_sem, aCells]) rfl rfl rfl rfl) ?_
      rintro _ _ ⟨rfl, rfl⟩
      refine ⟨(St.set_ne _ _ n72).trans s7, ?_⟩
      refine FxN.moves rfl (Moves.storeAll (id := b3) (t0 := 3) (sz := 1) (cs := [.int .i64 (k + 1)]) rfl rfl rfl (by simp only [go_sem] <;> rfl) (by simp [go_sem]) ((St.set_ne _ _ n32).trans s3) (by simp [go_sem, aCells]) rfl rfl rfl rfl) ?_
      rintro _ _ ⟨rfl, rfl⟩
      refine ⟨(St.set_ne _ _ n73).trans ((St.set_ne _ _ n72).trans s7), ?_⟩
      refine FxN.moves rfl (Moves.storeAll (id := b4) (t0 := 3) (sz := 1) (cs := [.int .i64 (L + 1)]) rfl rfl rfl (by simp only [go_sem] <;> rfl) (by simp [go_sem]) ((St.set_ne _ _ n43).trans ((St.set_ne _ _ n42).trans s4)) (by simp [go_sem, aCells]) rfl rfl rfl rfl) ?_
      rintro _ _ ⟨rfl, rfl⟩
      refine ⟨(St.set_ne _ _ n74).trans ((St.set_ne _ _ n73).trans ((St.set_ne _ _ n72).trans s7)), ?_⟩
      refine FxN.moves rfl (Moves.storeAll (id := b5) (t0 := 4) (sz := 1) (cs := [.bool true]) rfl rfl rfl (by simp only [go_sem] <;> rfl) (by simp [go_sem]) ((St.set_ne _ _ n54).trans ((St.set_ne _ _ n53).trans ((St.set_ne _ _ n52).trans s5))) (by simp [go_sem, aCells]) rfl rfl rfl rfl) ?_
      rintro _ _ ⟨rfl, rfl⟩
      refine ⟨(St.set_ne _ _ n75).trans ((St.set_ne _ _ n74).trans ((St.set_ne _ _ n73).trans ((St.set_ne _ _ n72).trans s7))), ?_⟩
      refine hK _ _ ?_
      clear hK' hQ hK Q' Kn
      (repeat' (first | refine AW.seq ?_ | refine AW.scope ?_ | refine AW.label ?_ | refine AW.block ?_ | refine AW.skip ?_ | refine AW.exit ?_ | refine AW.ret ?_))
      simp only [AThen, AInBlock]
      subst hP0
      refine ARound.ret (l := l) ((St.set_ne _ _ nl5).trans ((St.set_ne _ _ nl4).trans ((St.set_ne _ _ nl3).trans ((St.set_ne _ _ nl2).trans (St.set_same _ _ _))))) ?_
      exact .inr ⟨rfl, L, hk0, hb, rfl, _, _, _, _, _, _, set_over _ _ _ _ _ _ _ _ _ _ _ _⟩
    · refine AOp.loadCell (id := b7) (t0 := 3) (sz := 1) (g := 0) (es := [[.int .i64 L]]) rfl (by simp only [go_sem] <;> rfl) (by simp [go_sem]) (by rw [St.set_ne _ _ (Ne.symm nl7), St.set_same]; rfl) rfl (by simp) (by simp) ?_
      (refine AOpsC_ok hK' _ _ _ ?_; (repeat simp (disch := omega) only [go_sem, redN, Nat.reduceAdd, Int.reduceToNat, Int.reducePow]); (repeat' apply And.intro); (try any_goals (first | (refine hK _ _ ?_; clear hK' hQ hK Q' Kn) | (simp; done) | omega | (simp only [redL]; omega) | (simp; omega))))
      refine AOp.storeAll (id := b7) (t0 := 3) (sz := 1) (cs := [.int .i64 (L - (lens y).getD k 0)]) rfl (by simp only [go_sem] <;> rfl) (by simp [go_sem]) (by rw [St.set_ne _ _ (Ne.symm nl7), St.set_same]; rfl) (by simp [go_sem, aCells]) rfl rfl rfl rfl ?_
      (refine AOpsC_ok hK' _ _ _ ?_; (repeat simp (disch := omega) only [go_sem, redN, Nat.reduceAdd, Int.reduceToNat, Int.reducePow]); (repeat' apply And.intro); (try any_goals (first | (refine hK _ _ ?_; clear hK' hQ hK Q' Kn) | (simp; done) | omega | (simp only [redL]; omega) | (simp; omega))))
      simp only [AInBlock]
      subst hP0
      refine ARound.normal (l := l) ((St.set_ne _ _ nl7).trans (St.set_same _ _ _)) ?_
      refine .inl ⟨rfl, by rw [hpk]; omega, ?_⟩
      rw [loop_back nl7 el, hpk, ← hL, Int.sub_sub (n - first y)]
      rfl
  · rintro e σ ⟨rfl, ⟨h12, _⟩ | ⟨k, hk, L, l0, l1, hL, fn', tm', ps', asg', body', d', rfl⟩⟩
    · exfalso; omega
    · simp only [ARange, St.set_same]
      refine ⟨by simp, ?_⟩
      have hx : ∀ i, i ≠ l → ((((((β.set b7 (cint L)).set b2 (cint y)).set b3 (cint (k + 1))).set b4 (cint (L + 1))).set b5 (.cells 4 0 1 [[.bool true]])).set l (.loop .done (some .ret) fn' tm' ps' asg' body' d')).del l i = (((((β.set b7 (cint L)).set b2 (cint y)).set b3 (cint (k + 1))).set b4 (cint (L + 1))).set b5 (.cells 4 0 1 [[.bool true]])) i := fun i hi => by
        rw [St.del_ne _ hi, St.set_ne _ _ hi]
      generalize St.del _ l = σ at *
      (repeat' (first | refine AW.seq ?_ | refine AW.scope ?_ | refine AW.label ?_ | refine AW.block ?_ | refine AW.skip ?_ | refine AW.exit ?_ | refine AW.ret ?_))
      simp only [AInBlock, AThen]
      refine ABody.ofRess1 (d := dd) (fn := Tryz.f30) (vs := [.int .i64 y, .int .i64 (k + 1), .int .i64 (L + 1), .bool true]) rfl ?_ ?_ ?_
      · rw [hx _ (Ne.symm hld), St.set_ne _ _ nd5, St.set_ne _ _ nd4, St.set_ne _ _ nd3, St.set_ne _ _ nd2, St.set_ne _ _ nd7, ed]
      · exact (aRess_cell (aLoad_one (by rw [St.set_ne _ _ (Ne.symm nd2), hx _ (Ne.symm nl2), St.set_ne _ _ (Ne.symm n52), St.set_ne _ _ (Ne.symm n42), St.set_ne _ _ (Ne.symm n32), St.set_same]; rfl) rfl)
          (aRess_cell (aLoad_one (by rw [St.set_ne _ _ (Ne.symm nd3), hx _ (Ne.symm nl3), St.set_ne _ _ (Ne.symm n53), St.set_ne _ _ (Ne.symm n43), St.set_same]; rfl) rfl)
          (aRess_cell (aLoad_one (by rw [St.set_ne _ _ (Ne.symm nd4), hx _ (Ne.symm nl4), St.set_ne _ _ (Ne.symm n54), St.set_same]; rfl) rfl)
          (aRess_cell (aLoad_one (by rw [St.set_ne _ _ (Ne.symm nd5), hx _ (Ne.symm nl5), St.set_same]) rfl) aRess_nil))))
      · refine ⟨fun i A hi => ?_, y, k + 1, L + 1, true, .inr ⟨rfl, by omega, by omega, y0, y1, by omega, by omega, by omega, ?_, ?_⟩, rfl⟩
        · obtain ⟨q2, q3, q4, q5, q7, ql, qd, q0⟩ := hs2 i A hi
          rw [St.set_ne _ _ qd, hx _ ql, St.set_ne _ _ q5, St.set_ne _ _ q4, St.set_ne _ _ q3, St.set_ne _ _ q2, St.set_ne _ _ q7, q0]
        · rw [mlen, if_neg (by omega), show ((k : Int) + 1 - 1).toNat = k from by omega]; omega
        · rw [show ((k : Int) + 1 - 1).toNat = k from by omega]; omega
end Go.Almanac

/- Dates: the document's day of a number, and its number of a day; there is one day at most. -/
namespace Go.Almanac
open Go.RowKit Go.Proofs Go.Abs
theorem psum_mono (y : Int) {j k : Nat} (h : j ≤ k) : psum y j ≤ psum y k := by
  induction h with
  | refl => exact Int.le_refl _
  | step h ih => exact Int.le_trans ih (by rw [psum]; have := lens_bounds y ‹_›; omega)
theorem mlen_get {y m : Int} (hy : ¬ (y < 1 ∨ y > 9999)) (hm : 1 ≤ m ∧ m ≤ 12) : mlen y m = (lens y).getD (m - 1).toNat 0 := by rw [mlen, if_neg (by omega)]
theorem isCivil_year {n y m d : Int} (h : IsCivil n y m d) : first y ≤ n ∧ n < first (y + 1) := by
  obtain ⟨h1, h2, h3, h4, h5, h6, h7⟩ := h
  have hp := psum_bounds y (m - 1).toNat
  have hq : psum y ((m - 1).toNat + 1) ≤ psum y 12 := psum_mono y (by omega)
  have hn := first_next h1
  rw [psum, ← mlen_get (by omega) ⟨h3, h4⟩] at hq
  omega
theorem isCivil_unique {n y m d y' m' d' : Int} (h : IsCivil n y m d) (h' : IsCivil n y' m' d') : y = y' ∧ m = m' ∧ d = d' := by
  have q := isCivil_year h
  have q' := isCivil_year h'
  have ey : y = y' := by
    rcases (show y = y' ∨ y + 1 ≤ y' ∨ y' + 1 ≤ y by omega) with e | e | e
    · exact e
    · have := first_mono (by have := h.1; omega) e; omega
    · have := first_mono (by have := h'.1; omega) e; omega
  subst ey
  obtain ⟨h1, h2, h3, h4, h5, h6, h7⟩ := h
  obtain ⟨_, _, h3', h4', h5', h6', h7'⟩ := h'
  rw [mlen_get (by omega) ⟨h3, h4⟩] at h6
  rw [mlen_get (by omega) ⟨h3', h4'⟩] at h6'
  have em : m = m' := by
    rcases (show m = m' ∨ (m - 1).toNat + 1 ≤ (m' - 1).toNat ∨ (m' - 1).toNat + 1 ≤ (m - 1).toNat by omega) with e | e | e
    · exact e
    · have := psum_mono y e; rw [psum] at this; omega
    · have := psum_mono y e; rw [psum] at this; omega
  subst em
  exact ⟨rfl, rfl, by omega⟩
theorem civilR_unique {n y m d y' m' d' : Int} {b b' : Bool} (h : CivilR n y m d b) (h' : CivilR n y' m' d' b') : y = y' ∧ m = m' ∧ d = d' ∧ b = b' := by
  rcases h with ⟨rfl, rfl, rfl, rfl, q⟩ | ⟨rfl, q1, q2, q⟩
  · rcases h' with ⟨rfl, rfl, rfl, rfl, _⟩ | ⟨rfl, q1', q2', _⟩
    · simp
    · omega
  · rcases h' with ⟨rfl, rfl, rfl, rfl, _⟩ | ⟨rfl, q1', q2', q'⟩
    · omega
    · obtain ⟨e1, e2, e3⟩ := isCivil_unique q q'
      exact ⟨e1, e2, e3, rfl⟩
theorem r_Civil (G : Nat → AV) (n : Int) (h0 : -9223372036854775808 ≤ n) (h1 : n ≤ 9223372036854775807) (st : St) : ACalls (Ev G) 60 [.int .i64 n] st (fun e st' => st' = st ∧ ∃ y m d b, CivilR n y m d b ∧ e = .ret (.tup [.int .i64 y, .int .i64 m, .int .i64 d, .bool b])) := by
  refine ACalls.of_body Tryz.func60 rfl ?_
  rw [Tryz.ntmps60]
  simp only [List.length_cons, List.length_nil, Nat.reduceAdd, Nat.reduceSub, List.replicate_succ, List.replicate_zero, List.cons_append, List.nil_append]
  (repeat' (first | refine AW.seq ?_ | refine AW.scope ?_ | refine AW.label ?_ | refine AW.block ?_ | refine AW.skip ?_ | refine AW.exit ?_ | refine AW.ret ?_ | (refine AW.regionC fun Q' Kn hQ hK hK' => ?_; (repeat simp (disch := omega) only [go_sem, redN, Nat.reduceAdd, Int.reduceToNat, Int.reducePow]); (repeat' apply And.intro); (try any_goals (first | (refine hK _ _ ?_; clear hK' hQ hK Q' Kn) | (simp; done) | omega | (simp only [redL]; omega) | (simp; omega)))) | (refine AW.cond (by simp (disch := omega) only [go_sem, redN, Nat.reduceAdd, Int.reduceToNat, Int.reducePow]; rfl) (fun hb => ?_) (fun hb => ?_) <;> (try simp only [redB] at hb))))
  refine AOps.guard_call (f := 83) (v := .int .i64 (first 10000 + 719162)) rfl rfl rfl rfl rfl (fun _ => (by simp only [go_sem] <;> rfl)) (fun h => by simp [go_sem]) rfl (fun _ => by simp only [go_sem]; exact r_ahead G 10000 (by omega) (by omega) _) ?_
  have e10 : first 10000 = 2932897 := rfl
  rw [e10]
  (refine AOpsC_ok hK' _ _ _ ?_; (repeat simp (disch := omega) only [go_sem, redN, Nat.reduceAdd, Int.reduceToNat, Int.reducePow]); (repeat' apply And.intro); (try any_goals (first | (refine hK _ _ ?_; clear hK' hQ hK Q' Kn) | (simp; done) | omega | (simp only [redL]; omega) | (simp; omega))))
  (repeat' (first | refine AW.seq ?_ | refine AW.scope ?_ | refine AW.label ?_ | refine AW.block ?_ | refine AW.skip ?_ | refine AW.exit ?_ | refine AW.ret ?_ | (refine AW.regionC fun Q' Kn hQ hK hK' => ?_; (repeat simp (disch := omega) only [go_sem, redN, Nat.reduceAdd, Int.reduceToNat, Int.reducePow]); (repeat' apply And.intro); (try any_goals (first | (refine hK _ _ ?_; clear hK' hQ hK Q' Kn) | (simp; done) | omega | (simp only [redL]; omega) | (simp; omega)))) | (refine AW.cond (by simp (disch := omega) only [go_sem, redN, Nat.reduceAdd, Int.reduceToNat, Int.reducePow]; rfl) (fun hb => ?_) (fun hb => ?_) <;> (try simp only [redB] at hb))))
  · (refine ⟨_, _, rfl, by simp, ?_⟩; simp only [aTup, AA.get, List.getD_cons_zero, List.getD_cons_succ, true_and])
    exact ⟨0, 0, 0, false, .inl ⟨rfl, rfl, rfl, rfl, by omega⟩, rfl⟩
  have e1 : first 1 = -719162 := rfl
  refine AW.loopF (fun x : Int × Int => [.int .i64 n, .junk, .int .i64 0, .int .i64 0, .int .i64 0, .bool false, .int .i64 x.1, .int .i64 x.2, .junk, .junk, .junk, .junk, .junk, .junk, .junk, .junk, .junk, .junk, .junk, .junk, .junk, .junk, .junk, .junk, .junk, .junk, .junk, .junk, .junk, .junk, .junk, .junk, .junk, .junk, .junk, .junk, .junk, .junk, .junk, .junk, .junk, .junk, .junk, .junk, .junk, .junk, .junk, .junk, .junk, .junk, .junk, .junk, .junk, .junk, .junk, .junk, .junk]) (fun _ => st)
    (fun x => 1 ≤ x.1 ∧ x.1 ≤ x.2 ∧ x.2 ≤ 9999 ∧ first x.1 ≤ n ∧ n < first (x.2 + 1)) (fun x => (x.2 - x.1).toNat) (1, 9999) ?_ rfl ?_ ?_
  · (repeat (first | exact Weak.nil | refine Weak.junk _ ?_ | refine Weak.same _ ?_ | refine Weak.eqv (by (congr 1; first | omega | (simp; done) | exact w_i64 (by omega) (by omega))) ?_))
  · refine ⟨by simp, by simp, by simp, ?_, ?_⟩
    · dsimp only; omega
    · show n < first 10000
      omega
  rintro ⟨lo, hi⟩ ⟨a1, a2, a3, a4, a5⟩
  dsimp only at a1 a2 a3 a4 a5 ⊢
  (repeat' (first | refine AW.seq ?_ | refine AW.scope ?_ | refine AW.label ?_ | refine AW.block ?_ | refine AW.skip ?_ | refine AW.exit ?_ | refine AW.ret ?_ | (refine AW.regionC fun Q' Kn hQ hK hK' => ?_; (repeat simp (disch := omega) only [go_sem, redN, Nat.reduceAdd, Int.reduceToNat, Int.reducePow]); (repeat' apply And.intro); (try any_goals (first | (refine hK _ _ ?_; clear hK' hQ hK Q' Kn) | (simp; done) | omega | (simp only [redL]; omega) | (simp; omega)))) | (refine AW.cond (by simp (disch := omega) only [go_sem, redN, Nat.reduceAdd, Int.reduceToNat, Int.reducePow]; rfl) (fun hb => ?_) (fun hb => ?_) <;> (try simp only [redB] at hb))))
  · refine AOp.call rfl (by simp only [go_sem]; rfl) (by simp [go_sem]) rfl (ACalls.mono (by simp only [go_sem]; exact r_ahead G ((lo + hi + 1) / 2) (by omega) (by omega) _) ?_)
    rintro e st' ⟨rfl, rfl⟩
    have hfb := first_bounds (y := (lo + hi + 1) / 2) (by omega) (by omega)
    (refine AOpsC_ok hK' _ _ _ ?_; (repeat simp (disch := omega) only [go_sem, redN, Nat.reduceAdd, Int.reduceToNat, Int.reducePow]); (repeat' apply And.intro); (try any_goals (first | (refine hK _ _ ?_; clear hK' hQ hK Q' Kn) | (simp; done) | omega | (simp only [redL]; omega) | (simp; omega))))
    (repeat' (first | refine AW.seq ?_ | refine AW.scope ?_ | refine AW.label ?_ | refine AW.block ?_ | refine AW.skip ?_ | refine AW.exit ?_ | refine AW.ret ?_ | (refine AW.regionC fun Q' Kn hQ hK hK' => ?_; (repeat simp (disch := omega) only [go_sem, redN, Nat.reduceAdd, Int.reduceToNat, Int.reducePow]); (repeat' apply And.intro); (try any_goals (first | (refine hK _ _ ?_; clear hK' hQ hK Q' Kn) | (simp; done) | omega | (simp only [redL]; omega) | (simp; omega)))) | (refine AW.cond (by simp (disch := omega) only [go_sem, redN, Nat.reduceAdd, Int.reduceToNat, Int.reducePow]; rfl) (fun hb => ?_) (fun hb => ?_) <;> (try simp only [redB] at hb))))
    · refine ⟨((lo + hi + 1) / 2, hi), ?_, by dsimp only; omega, ?_, rfl, rfl⟩
      · dsimp only; omega
      · dsimp only
        (repeat (first | exact Weak.nil | refine Weak.junk _ ?_ | refine Weak.same _ ?_ | refine Weak.eqv (by (congr 1; first | omega | (simp; done) | exact w_i64 (by omega) (by omega))) ?_))
    · refine ⟨(lo, (lo + hi + 1) / 2 - 1), ?_, by dsimp only; omega, ?_, rfl, rfl⟩
      · dsimp only
        rw [show (lo + hi + 1) / 2 - 1 + 1 = (lo + hi + 1) / 2 from by omega]
        omega
      · dsimp only
        (repeat (first | exact Weak.nil | refine Weak.junk _ ?_ | refine Weak.same _ ?_ | refine Weak.eqv (by (congr 1; first | omega | (simp; done) | exact w_i64 (by omega) (by omega))) ?_))
  have ey : lo = hi := by omega
  subst ey
  have hfb := first_bounds (y := lo) (by omega) (by omega)
  have hn1 := first_next a1
  refine AOp.call rfl (by simp only [go_sem]; rfl) (by simp [go_sem]) rfl (ACalls.mono (by simp only [go_sem]; exact r_ahead G lo (by omega) (by omega) _) ?_)
  rintro e st' ⟨rfl, rfl⟩
  (refine AOpsC_ok hK' _ _ _ ?_; (repeat simp (disch := omega) only [go_sem, redN, Nat.reduceAdd, Int.reduceToNat, Int.reducePow]); (repeat' apply And.intro); (try any_goals (first | (refine hK _ _ ?_; clear hK' hQ hK Q' Kn) | (simp; done) | omega | (simp only [redL]; omega) | (simp; omega))))
  (repeat' (first | refine AW.seq ?_ | refine AW.scope ?_ | refine AW.label ?_ | refine AW.block ?_ | refine AW.skip ?_ | refine AW.exit ?_ | refine AW.ret ?_ | (refine AW.regionC fun Q' Kn hQ hK hK' => ?_; (repeat simp (disch := omega) only [go_sem, redN, Nat.reduceAdd, Int.reduceToNat, Int.reducePow]); (repeat' apply And.intro); (try any_goals (first | (refine hK _ _ ?_; clear hK' hQ hK Q' Kn) | (simp; done) | omega | (simp only [redL]; omega) | (simp; omega)))) | (refine AW.cond (by simp (disch := omega) only [go_sem, redN, Nat.reduceAdd, Int.reduceToNat, Int.reducePow]; rfl) (fun hb => ?_) (fun hb => ?_) <;> (try simp only [redB] at hb))))
  refine AW.loopF (fun k : Nat => [.int .i64 n, .junk, .int .i64 0, .int .i64 0, .int .i64 0, .bool false, .int .i64 lo, .junk, .junk, .int .i64 (n - first lo - psum lo k), .int .i64 (k + 1), .junk, .junk, .junk, .junk, .junk, .junk, .junk, .junk, .junk, .junk, .junk, .junk, .junk, .junk, .junk, .junk, .junk, .junk, .junk, .junk, .junk, .junk, .junk, .junk, .junk, .junk, .junk, .junk, .junk, .junk, .junk, .junk, .junk, .junk, .junk, .junk, .junk, .junk, .junk, .junk, .junk, .junk, .junk, .junk, .junk, .junk]) (fun _ => st')
    (fun k => k < 12 ∧ 0 ≤ n - first lo - psum lo k) (fun k => 12 - k) 0 ?_ rfl ?_ ?_
  · simp only [psum]
    (repeat (first | exact Weak.nil | refine Weak.junk _ ?_ | refine Weak.same _ ?_ | refine Weak.eqv (by (congr 1; first | omega | (simp; done) | exact w_i64 (by omega) (by omega))) ?_))
  · simp only [psum]; omega
  rintro k ⟨hk, hk0⟩
  have hpb := psum_bounds lo k
  have hlb := lens_bounds lo k
  have hpk : psum lo (k + 1) = psum lo k + (lens lo).getD k 0 := rfl
  have hlk : mlen lo (k + 1) = (lens lo).getD k 0 := by rw [mlen_get (by omega) (by omega), show ((k : Int) + 1 - 1).toNat = k from by omega]
  (repeat' (first | refine AW.seq ?_ | refine AW.scope ?_ | refine AW.label ?_ | refine AW.block ?_ | refine AW.skip ?_ | refine AW.exit ?_ | refine AW.ret ?_ | (refine AW.regionC fun Q' Kn hQ hK hK' => ?_; (repeat simp (disch := omega) only [go_sem, redN, Nat.reduceAdd, Int.reduceToNat, Int.reducePow]); (repeat' apply And.intro); (try any_goals (first | (refine hK _ _ ?_; clear hK' hQ hK Q' Kn) | (simp; done) | omega | (simp only [redL]; omega) | (simp; omega)))) | (refine AW.cond (by simp (disch := omega) only [go_sem, redN, Nat.reduceAdd, Int.reduceToNat, Int.reducePow]; rfl) (fun hb => ?_) (fun hb => ?_) <;> (try simp only [redB] at hb))))
  refine AOp.call rfl (by simp only [go_sem]; rfl) (by simp [go_sem]) rfl (ACalls.mono (by simp only [go_sem]; exact r_Length G lo (k + 1) _) ?_)
  rintro e st' ⟨rfl, rfl⟩
  rw [hlk]
  (refine AOpsC_ok hK' _ _ _ ?_; (repeat simp (disch := omega) only [go_sem, redN, Nat.reduceAdd, Int.reduceToNat, Int.reducePow]); (repeat' apply And.intro); (try any_goals (first | (refine hK _ _ ?_; clear hK' hQ hK Q' Kn) | (simp; done) | omega | (simp only [redL]; omega) | (simp; omega))))
  (repeat' (first | refine AW.seq ?_ | refine AW.scope ?_ | refine AW.label ?_ | refine AW.block ?_ | refine AW.skip ?_ | refine AW.exit ?_ | refine AW.ret ?_ | (refine AW.regionC fun Q' Kn hQ hK hK' => ?_; (repeat simp (disch := omega) only [go_sem, redN, Nat.reduceAdd, Int.reduceToNat, Int.reducePow]); (repeat' apply And.intro); (try any_goals (first | (refine hK _ _ ?_; clear hK' hQ hK Q' Kn) | (simp; done) | omega | (simp only [redL]; omega) | (simp; omega)))) | (refine AW.cond (by simp (disch := omega) only [go_sem, redN, Nat.reduceAdd, Int.reduceToNat, Int.reducePow]; rfl) (fun hb => ?_) (fun hb => ?_) <;> (try simp only [redB] at hb))))
  · refine AOp.call rfl (by simp only [go_sem]; rfl) (by simp [go_sem]) rfl (ACalls.mono (by simp only [go_sem]; exact r_Length G lo (k + 1) _) ?_)
    rintro e st' ⟨rfl, rfl⟩
    rw [hlk]
    (refine AOpsC_ok hK' _ _ _ ?_; (repeat simp (disch := omega) only [go_sem, redN, Nat.reduceAdd, Int.reduceToNat, Int.reducePow]); (repeat' apply And.intro); (try any_goals (first | (refine hK _ _ ?_; clear hK' hQ hK Q' Kn) | (simp; done) | omega | (simp only [redL]; omega) | (simp; omega))))
    (repeat' (first | refine AW.seq ?_ | refine AW.scope ?_ | refine AW.label ?_ | refine AW.block ?_ | refine AW.skip ?_ | refine AW.exit ?_ | refine AW.ret ?_ | (refine AW.regionC fun Q' Kn hQ hK hK' => ?_; (repeat simp (disch := omega) only [go_sem, redN, Nat.reduceAdd, Int.reduceToNat, Int.reducePow]); (repeat' apply And.intro); (try any_goals (first | (refine hK _ _ ?_; clear hK' hQ hK Q' Kn) | (simp; done) | omega | (simp only [redL]; omega) | (simp; omega)))) | (refine AW.cond (by simp (disch := omega) only [go_sem, redN, Nat.reduceAdd, Int.reduceToNat, Int.reducePow]; rfl) (fun hb => ?_) (fun hb => ?_) <;> (try simp only [redB] at hb))))
    refine ⟨k + 1, ⟨?_, by omega⟩, by omega, ?_, rfl, rfl⟩
    · rcases (show k + 1 < 12 ∨ k + 1 = 12 by omega) with e | e
      · exact e
      · rw [e] at hpk; omega
    · (repeat (first | exact Weak.nil | refine Weak.junk _ ?_ | refine Weak.same _ ?_ | refine Weak.eqv (by (congr 1; first | omega | (simp; done) | exact w_i64 (by omega) (by omega))) ?_))
  · (refine ⟨_, _, rfl, by simp, ?_⟩; simp only [aTup, AA.get, List.getD_cons_zero, List.getD_cons_succ, true_and])
    refine ⟨lo, k + 1, n - first lo - psum lo k + 1, true, .inr ⟨rfl, by omega, by omega, by omega, by omega, by omega, by omega, by omega, by omega, ?_⟩, rfl⟩
    rw [show ((k : Int) + 1 - 1).toNat = k from by omega]; omega
noncomputable def civ (n : Int) : Int × Int × Int × Bool :=
  open Classical in if h : ∃ p : Int × Int × Int × Bool, CivilR n p.1 p.2.1 p.2.2.1 p.2.2.2 then h.choose else (0, 0, 0, false)
def CivOk (n : Int) : Prop := CivilR n (civ n).1 (civ n).2.1 (civ n).2.2.1 (civ n).2.2.2
theorem civ_eq {n y m d : Int} {b : Bool} (h : CivilR n y m d b) : civ n = (y, m, d, b) := by
  have hx : ∃ p : Int × Int × Int × Bool, CivilR n p.1 p.2.1 p.2.2.1 p.2.2.2 := ⟨(y, m, d, b), h⟩
  have e : civ n = hx.choose := by rw [civ, dif_pos hx]
  obtain ⟨e1, e2, e3, e4⟩ := civilR_unique hx.choose_spec h
  rw [e]
  exact Prod.ext e1 (Prod.ext e2 (Prod.ext e3 e4))
theorem t_CivilF (G : Nat → AV) (n : Int) (h0 : -9223372036854775808 ≤ n) (h1 : n ≤ 9223372036854775807) (st : St) : ACalls (Ev G) 30 [.int .i64 n] st (fun e st' => st' = st ∧ CivOk n ∧ e = .ret (.tup [.int .i64 (civ n).1, .int .i64 (civ n).2.1, .int .i64 (civ n).2.2.1, .bool (civ n).2.2.2])) := by
  refine ACalls.mono (t_Civil G n h0 h1 st) ?_
  rintro e st' ⟨rfl, y, m, d, b, h, rfl⟩
  have := civ_eq h
  exact ⟨rfl, by rw [CivOk, this]; exact h, by rw [this]⟩
theorem r_CivilF (G : Nat → AV) (n : Int) (h0 : -9223372036854775808 ≤ n) (h1 : n ≤ 9223372036854775807) (st : St) : ACalls (Ev G) 60 [.int .i64 n] st (fun e st' => st' = st ∧ CivOk n ∧ e = .ret (.tup [.int .i64 (civ n).1, .int .i64 (civ n).2.1, .int .i64 (civ n).2.2.1, .bool (civ n).2.2.2])) := by
  refine ACalls.mono (r_Civil G n h0 h1 st) ?_
  rintro e st' ⟨rfl, y, m, d, b, h, rfl⟩
  have := civ_eq h
  exact ⟨rfl, by rw [CivOk, this]; exact h, by rw [this]⟩
theorem civ_in {n : Int} (h : CivOk n) (hb : (civ n).2.2.2 = true) : -719162 ≤ n ∧ n ≤ 2932896 ∧ IsCivil n (civ n).1 (civ n).2.1 (civ n).2.2.1 := by
  rcases h with ⟨h, _⟩ | ⟨_, h1, h2, h3⟩
  · rw [h] at hb; cases hb
  · exact ⟨h1, h2, h3⟩
theorem civ_true {n : Int} (h : CivOk n) (h0 : -719162 ≤ n) (h1 : n ≤ 2932896) : (civ n).2.2.2 = true := by
  rcases h with ⟨_, _, _, _, h⟩ | ⟨h, _⟩
  · omega
  · exact h
theorem civ_bounds {n : Int} (h : CivOk n) (hb : (civ n).2.2.2 = true) : 1 ≤ (civ n).1 ∧ (civ n).1 ≤ 9999 ∧ 1 ≤ (civ n).2.1 ∧ (civ n).2.1 ≤ 12 ∧ 1 ≤ (civ n).2.2.1 ∧ (civ n).2.2.1 ≤ 31 := by
  obtain ⟨_, _, h1, h2, h3, h4, h5, h6, _⟩ := civ_in h hb
  have := mlen_le (civ n).1 (civ n).2.1
  omega
end Go.Almanac

/- Dates: numbers with leading zeros. -/
namespace Go.Almanac
open Go.RowKit Go.Proofs Go.Abs
def padN : Nat → Nat → List UInt8
  | 0, _ => []
  | w + 1, n => padN w (n / 10) ++ [UInt8.ofNat (48 + n % 10)]
def pad (w : Nat) (n : Int) : List UInt8 := padN w n.toNat
@[simp] theorem padN_length : ∀ (w n : Nat), (padN w n).length = w
  | 0, _ => rfl
  | w + 1, n => by rw [padN, List.length_append, padN_length w]; rfl
@[simp] theorem pad_length (w : Nat) (n : Int) : (pad w n).length = w := padN_length _ _
theorem padN_zero : ∀ w, padN w 0 = List.replicate w 48
  | 0 => rfl
  | w + 1 => by rw [padN, padN_zero w, List.replicate_succ']; rfl
theorem repeatL_one (c : UInt8) : ∀ n, Lib.repeatL [c] n = List.replicate n c
  | 0 => rfl
  | n + 1 => by rw [Lib.repeatL, repeatL_one c n]; rfl
theorem pad_dec : ∀ (w n : Nat), 1 ≤ w → n < 10 ^ w → (Lib.decDigits n).length ≤ w ∧ List.replicate (w - (Lib.decDigits n).length) 48 ++ Lib.decDigits n = padN w n
  | 0, n, h, _ => by omega
  | w + 1, n, _, h => by
    by_cases hn : n < 10
    · rw [Lib.decDigits_one hn, padN, show n / 10 = 0 from by omega, padN_zero, show n % 10 = n from by omega]
      simp
    · have hw : 1 ≤ w := by
        rcases Nat.eq_zero_or_pos w with rfl | h'
        · simp at h; omega
        · exact h'
      obtain ⟨i1, i2⟩ := pad_dec w (n / 10) hw (by rw [Nat.pow_succ] at h; omega)
      rw [Lib.decDigits, dif_neg hn, padN, ← i2, List.length_append, ← List.append_assoc]
      simp only [List.length_cons, List.length_nil]
      exact ⟨by omega, by rw [show w + 1 - ((Lib.decDigits (n / 10)).length + (0 + 1)) = w - (Lib.decDigits (n / 10)).length from by omega]⟩
theorem below_grw (w : World) (k : Nat) (os : Array Obj) : Below w.heap.size w (Sort.grow (w.drewN k) os) :=
  ⟨rfl, rfl, rfl, by show w.heap.size ≤ (w.heap ++ os).size; simp, fun j hj => by show (w.heap ++ os)[j]? = _; rw [Array.getElem?_append_left hj]⟩
theorem b_FormatInt0 (G : Nat → AV) (n : Int) (h0 : -9223372036854775808 ≤ n) (h1 : n ≤ 9223372036854775807) (st : St) : ACalls (Ev G) 93 [.int .i64 n, .int .i64 10] st (fun e st' => st' = st ∧ e = .ret (.str (Lib.itoa n))) := by
  refine ACalls.of_callsR (cargs := #[.int .i64 n, .int .i64 10]) (cv := .string ⟨(Lib.itoa n).toArray⟩) (fun κ c h => ?_) (fun κ => ?_) fun κ w hR => ?_
  · simp only [VRs, VR] at h
    obtain ⟨v1, vs1, h1, rfl, v2, vs2, rfl, rfl, rfl⟩ := h
    rw [h1]
  · simp [VR]
  · obtain ⟨hw1, hw2⟩ := hR.wf
    have ht : Lib.TabIs Tryz.prog w "internal/strconv.uint64pow10" .u64 Lib.pow10Tab := by
      have hg : Tryz.prog.globalNamed "internal/strconv.uint64pow10" = some 0 := by kernel_rfl
      unfold Lib.TabIs World.var? at hw2 ⊢
      rw [hg] at hw2 ⊢
      simp only [Option.bind_some] at hw2 ⊢
      rw [hR.bel.block _ hw1]; exact hw2
    refine Calls.mono (Tryz.internal_strconv_FormatInt_10 n h0 h1 w ht) ?_
    rintro e w' ⟨rfl, k, os, rfl⟩
    exact ⟨rfl, below_grw _ _ _⟩
theorem b_FormatInt (G : Nat → AV) (n : Int) (h0 : -9223372036854775808 ≤ n) (h1 : n ≤ 9223372036854775807) (st : St) : ACalls (Ev G) 88 [.int .i64 n, .int .i64 10] st (fun e st' => st' = st ∧ e = .ret (.str (Lib.itoa n))) := by
  refine ACalls.of_body Tryz.func88 rfl ?_
  rw [Tryz.ntmps88]
  simp only [List.length_cons, List.length_nil, Nat.reduceAdd, Nat.reduceSub, List.replicate_succ, List.replicate_zero, List.cons_append, List.nil_append]
  (repeat' (first | refine AW.seq ?_ | refine AW.scope ?_ | refine AW.label ?_ | refine AW.block ?_ | refine AW.skip ?_ | refine AW.exit ?_ | refine AW.ret ?_ | (refine AW.regionC fun Q' Kn hQ hK hK' => ?_; (repeat simp (disch := omega) only [go_sem, redN, Nat.reduceAdd, Int.reduceToNat, Int.reducePow]); (repeat' apply And.intro); (try any_goals (first | (refine hK _ _ ?_; clear hK' hQ hK Q' Kn) | (simp; done) | omega | (simp only [redL]; omega) | (simp; omega)))) | (refine AW.cond (by simp (disch := omega) only [go_sem, redN, Nat.reduceAdd, Int.reduceToNat, Int.reducePow]; rfl) (fun hb => ?_) (fun hb => ?_) <;> (try simp only [redB] at hb))))
  refine AOp.call rfl (by simp only [go_sem]; rfl) (by simp [go_sem]) rfl (ACalls.mono (by simp only [go_sem]; exact b_FormatInt0 G n h0 h1 _) ?_)
  rintro e st' ⟨rfl, rfl⟩
  (refine AOpsC_ok hK' _ _ _ ?_; (repeat simp (disch := omega) only [go_sem, redN, Nat.reduceAdd, Int.reduceToNat, Int.reducePow]); (repeat' apply And.intro); (try any_goals (first | (refine hK _ _ ?_; clear hK' hQ hK Q' Kn) | (simp; done) | omega | (simp only [redL]; omega) | (simp; omega))))
  (repeat' (first | refine AW.seq ?_ | refine AW.scope ?_ | refine AW.label ?_ | refine AW.block ?_ | refine AW.skip ?_ | refine AW.exit ?_ | refine AW.ret ?_ | (refine AW.regionC fun Q' Kn hQ hK hK' => ?_; (repeat simp (disch := omega) only [go_sem, redN, Nat.reduceAdd, Int.reduceToNat, Int.reducePow]); (repeat' apply And.intro); (try any_goals (first | (refine hK _ _ ?_; clear hK' hQ hK Q' Kn) | (simp; done) | omega | (simp only [redL]; omega) | (simp; omega)))) | (refine AW.cond (by simp (disch := omega) only [go_sem, redN, Nat.reduceAdd, Int.reduceToNat, Int.reducePow]; rfl) (fun hb => ?_) (fun hb => ?_) <;> (try simp only [redB] at hb))))
  (refine ⟨_, _, rfl, by simp, ?_⟩; simp only [aTup, AA.get, List.getD_cons_zero, List.getD_cons_succ, true_and])
theorem b_Repeat (G : Nat → AV) (s : List UInt8) (c : Nat) (hc : s.length * c ≤ 140737488355328) (hc2 : c ≤ 9223372036854775807) (st : St) : ACalls (Ev G) 89 [.str s, .int .i64 c] st (fun e st' => st' = st ∧ e = .ret (.str (Lib.repeatL s c))) := by
  refine ACalls.of_calls (cargs := #[.string ⟨s.toArray⟩, .int .i64 c]) (cv := .string ⟨(Lib.repeatL s c).toArray⟩) (fun κ c h => ?_) (fun κ => ?_) fun w => ?_
  · simp only [VRs, VR] at h
    obtain ⟨v1, vs1, h1, rfl, v2, vs2, rfl, rfl, rfl⟩ := h
    rw [h1]
  · simp [VR]
  · exact Tryz.strings_Repeat ⟨s.toArray⟩ c w hc2 (by show s.toArray.size * c ≤ _; simpa using hc)
theorem t_padded (G : Nat → AV) (n : Int) (w : Nat) (hw : 1 ≤ w) (hw2 : w ≤ 16) (h0 : 0 ≤ n) (h1 : n < 10 ^ w) (st : St) : ACalls (Ev G) 74 [.int .i64 n, .int .i64 w] st (fun e st' => st' = st ∧ e = .ret (.str (pad w n))) := by
  have hp : (10 : Int) ^ w ≤ 10000000000000000 := by
    have : (10 : Nat) ^ w ≤ 10 ^ 16 := Nat.pow_le_pow_right (by omega) hw2
    have h2 : ((10 ^ w : Nat) : Int) ≤ ((10 ^ 16 : Nat) : Int) := by exact_mod_cast this
    simpa using h2
  have hit : Lib.itoa n = Lib.decDigits n.toNat := by rw [Lib.itoa, if_neg (by omega)]
  obtain ⟨q1, q2⟩ := pad_dec w n.toNat hw (by
    have : (n.toNat : Int) < ((10 ^ w : Nat) : Int) := by rw [Int.toNat_of_nonneg h0]; simpa using h1
    exact_mod_cast this)
  refine ACalls.of_body Tryz.func74 rfl ?_
  rw [Tryz.ntmps74]
  simp only [List.length_cons, List.length_nil, Nat.reduceAdd, Nat.reduceSub, List.replicate_succ, List.replicate_zero, List.cons_append, List.nil_append]
  (repeat' (first | refine AW.seq ?_ | refine AW.scope ?_ | refine AW.label ?_ | refine AW.block ?_ | refine AW.skip ?_ | refine AW.exit ?_ | refine AW.ret ?_ | (refine AW.regionC fun Q' Kn hQ hK hK' => ?_; (repeat simp (disch := omega) only [go_sem, redN, Nat.reduceAdd, Int.reduceToNat, Int.reducePow]); (repeat' apply And.intro); (try any_goals (first | (refine hK _ _ ?_; clear hK' hQ hK Q' Kn) | (simp; done) | omega | (simp only [redL]; omega) | (simp; omega)))) | (refine AW.cond (by simp (disch := omega) only [go_sem, redN, Nat.reduceAdd, Int.reduceToNat, Int.reducePow]; rfl) (fun hb => ?_) (fun hb => ?_) <;> (try simp only [redB] at hb))))
  refine AOp.call rfl (by simp only [go_sem]; rfl) (by simp [go_sem]) rfl (ACalls.mono (by simp only [go_sem]; exact b_FormatInt G n (by omega) (by omega) _) ?_)
  rintro e st' ⟨rfl, rfl⟩
  rw [hit]
  (refine AOpsC_ok hK' _ _ _ ?_; (repeat simp (disch := omega) only [go_sem, redN, Nat.reduceAdd, Int.reduceToNat, Int.reducePow]); (repeat' apply And.intro); (try any_goals (first | (refine hK _ _ ?_; clear hK' hQ hK Q' Kn) | (simp; done) | omega | (simp only [redL]; omega) | (simp; omega))))
  (repeat' (first | refine AW.seq ?_ | refine AW.scope ?_ | refine AW.label ?_ | refine AW.block ?_ | refine AW.skip ?_ | refine AW.exit ?_ | refine AW.ret ?_ | (refine AW.regionC fun Q' Kn hQ hK hK' => ?_; (repeat simp (disch := omega) only [go_sem, redN, Nat.reduceAdd, Int.reduceToNat, Int.reducePow]); (repeat' apply And.intro); (try any_goals (first | (refine hK _ _ ?_; clear hK' hQ hK Q' Kn) | (simp; done) | omega | (simp only [redL]; omega) | (simp; omega)))) | (refine AW.cond (by simp (disch := omega) only [go_sem, redN, Nat.reduceAdd, Int.reduceToNat, Int.reducePow]; rfl) (fun hb => ?_) (fun hb => ?_) <;> (try simp only [redB] at hb))))
  have hmx : (if (w : Int) - ((Lib.decDigits n.toNat).length : Int) > 0 then (w : Int) - (Lib.decDigits n.toNat).length else 0) = ((w - (Lib.decDigits n.toNat).length : Nat) : Int) := by split <;> omega
  rw [hmx]
  refine AOp.call rfl (by simp only [go_sem]; rfl) (by simp [go_sem]) rfl (ACalls.mono (by simp only [go_sem]; exact b_Repeat G [48] (w - (Lib.decDigits n.toNat).length) (by simp only [List.length_cons, List.length_nil]; omega) (by omega) _) ?_)
  rintro e st' ⟨rfl, rfl⟩
  rw [repeatL_one]
  (refine AOpsC_ok hK' _ _ _ ?_; (repeat simp (disch := omega) only [go_sem, redN, Nat.reduceAdd, Int.reduceToNat, Int.reducePow]); (repeat' apply And.intro); (try any_goals (first | (refine hK _ _ ?_; clear hK' hQ hK Q' Kn) | (simp; done) | omega | (simp only [redL]; omega) | (simp; omega))))
  (repeat' (first | refine AW.seq ?_ | refine AW.scope ?_ | refine AW.label ?_ | refine AW.block ?_ | refine AW.skip ?_ | refine AW.exit ?_ | refine AW.ret ?_ | (refine AW.regionC fun Q' Kn hQ hK hK' => ?_; (repeat simp (disch := omega) only [go_sem, redN, Nat.reduceAdd, Int.reduceToNat, Int.reducePow]); (repeat' apply And.intro); (try any_goals (first | (refine hK _ _ ?_; clear hK' hQ hK Q' Kn) | (simp; done) | omega | (simp only [redL]; omega) | (simp; omega)))) | (refine AW.cond (by simp (disch := omega) only [go_sem, redN, Nat.reduceAdd, Int.reduceToNat, Int.reducePow]; rfl) (fun hb => ?_) (fun hb => ?_) <;> (try simp only [redB] at hb))))
  (refine ⟨_, _, rfl, by simp, ?_⟩; simp only [aTup, AA.get, List.getD_cons_zero, List.getD_cons_succ, true_and])
  rw [q2]; rfl
end Go.Almanac

/- Dates: days and times as texts, both ways of writing them. -/
namespace Go.Almanac
open Go.RowKit Go.Proofs Go.Abs
theorem padN_front : ∀ (w n : Nat), padN (w + 1) n = [UInt8.ofNat (48 + n / 10 ^ w % 10)] ++ padN w n
  | 0, n => by simp [padN]
  | w + 1, n => by rw [padN, padN_front w (n / 10), padN, List.append_assoc, Nat.div_div_eq_div_mul, Nat.pow_succ, Nat.mul_comm (10 ^ w)]
theorem sub_fresh {st σ : St} {b : Nat} (h : st.sub σ) (hb : σ b = none) (B : Blk) : st.sub (σ.set b B) := fun i A hi => by
  have h1 := h i A hi
  rw [St.set_ne _ _ (fun e => by subst e; rw [hb] at h1; cases h1)]; exact h1
theorem r_Pad (G : Nat → AV) (n w : Nat) (hn : n ≤ 9223372036854775807) (hw : w ≤ 1000) (st : St) : ACalls (Ev G) 73 [.int .i64 n, .int .i64 w] st (fun e st' => st' = st ∧ e = .ret (.str (padN w n))) := by
  refine ACalls.thaw (R' := fun e st' => st.sub st' ∧ e = .ret (.str (padN w n))) ?_ (fun x st1 h => ⟨2, st, h.1, rfl, by rw [h.2]; rfl⟩)
  refine ACalls.of_body Tryz.func73 rfl ?_
  rw [Tryz.ntmps73]
  simp only [List.length_cons, List.length_nil, Nat.reduceAdd, Nat.reduceSub, List.replicate_succ, List.replicate_zero, List.cons_append, List.nil_append]
  (repeat' (first | refine AW.seq ?_ | refine AW.scope ?_ | refine AW.label ?_ | refine AW.block ?_ | refine AW.skip ?_ | refine AW.exit ?_ | refine AW.ret ?_ | (refine AW.regionC fun Q' Kn hQ hK hK' => ?_; (repeat simp (disch := omega) only [go_sem, redN, Nat.reduceAdd, Int.reduceToNat, Int.reducePow]); (repeat' apply And.intro); (try any_goals (first | (refine hK _ _ ?_; clear hK' hQ hK Q' Kn) | (simp; done) | omega | (simp only [redL]; omega) | (simp; omega)))) | (refine AW.cond (by simp (disch := omega) only [go_sem, redN, Nat.reduceAdd, Int.reduceToNat, Int.reducePow]; rfl) (fun hb => ?_) (fun hb => ?_) <;> (try simp only [redB] at hb))))
  refine AW.loopF (fun x : Nat × St => [.int .i64 ((n / 10 ^ x.1 : Nat) : Int), .int .i64 w, .junk, .junk, .str [], .str (padN x.1 n), .int .i64 x.1, .junk, .junk, .junk, .junk, .junk, .junk, .junk, .junk, .junk, .junk, .junk, .junk, .junk, .junk, .junk, .junk]) (fun x => x.2)
    (fun x => x.1 ≤ w ∧ st.sub x.2) (fun x => w - x.1) (0, st) ?_ rfl ?_ ?_
  · simp only [Nat.pow_zero, Nat.div_one, padN]
    (repeat (first | exact Weak.nil | refine Weak.junk _ ?_ | refine Weak.same _ ?_ | refine Weak.eqv (by (congr 1; first | omega | (simp; done) | exact w_i64 (by omega) (by omega))) ?_))
  · exact ⟨by simp, St.sub_refl st⟩
  rintro ⟨i, σ⟩ ⟨i1, i2⟩
  dsimp only at i1 i2 ⊢
  have hm : n / 10 ^ i ≤ n := Nat.div_le_self _ _
  have hm2 : n / 10 ^ (i + 1) = n / 10 ^ i / 10 := by rw [Nat.pow_succ, Nat.div_div_eq_div_mul]
  have hpf := padN_front i n
  generalize n / 10 ^ i = m at hm hm2 hpf ⊢
  have hdg : ((UInt8.ofNat (48 + m % 10)).toNat : Int) = 48 + (m : Int) % 10 := by
    simp only [UInt8.toNat_ofNat']
    omega
  (repeat' (first | refine AW.seq ?_ | refine AW.scope ?_ | refine AW.label ?_ | refine AW.block ?_ | refine AW.skip ?_ | refine AW.exit ?_ | refine AW.ret ?_ | (refine AW.regionC fun Q' Kn hQ hK hK' => ?_; (repeat simp (disch := omega) only [go_sem, redN, Nat.reduceAdd, Int.reduceToNat, Int.reducePow]); (repeat' apply And.intro); (try any_goals (first | (refine hK _ _ ?_; clear hK' hQ hK Q' Kn) | (simp; done) | omega | (simp only [redL]; omega) | (simp; omega)))) | (refine AW.cond (by simp (disch := omega) only [go_sem, redN, Nat.reduceAdd, Int.reduceToNat, Int.reducePow]; rfl) (fun hb => ?_) (fun hb => ?_) <;> (try simp only [redB] at hb))))
  · refine AOp.buildSlice (e := 5) (sz := 1) (es := bytesE [UInt8.ofNat (48 + m % 10)]) rfl rfl rfl rfl (by simp [partsC, go_sem]) (by simp only [aParts, go_sem, bytesE, List.map]; rw [hdg]; try rfl) (by simp [bytesE]) rfl (by decide) (by decide) fun it hit => ?_
    (refine AOpsC_ok hK' _ _ _ ?_; (repeat simp (disch := omega) only [go_sem, redN, Nat.reduceAdd, Int.reduceToNat, Int.reducePow]); (repeat' apply And.intro); (try any_goals (first | (refine hK _ _ ?_; clear hK' hQ hK Q' Kn) | (simp; done) | omega | (simp only [redL]; omega) | (simp; omega))))
    refine AOp.toStr (e := 5) (s := [UInt8.ofNat (48 + m % 10)]) (by rfl) (by simp [go_sem]) (by rfl) (by rfl) (by rfl) (.inr ⟨?_, by simp [go_sem, aSz]⟩) ?_
    · simp [go_sem, aElems, St.set, bytesE]
    (refine AOpsC_ok hK' _ _ _ ?_; (repeat simp (disch := omega) only [go_sem, redN, Nat.reduceAdd, Int.reduceToNat, Int.reducePow]); (repeat' apply And.intro); (try any_goals (first | (refine hK _ _ ?_; clear hK' hQ hK Q' Kn) | (simp; done) | omega | (simp only [redL]; omega) | (simp; omega))))
    (repeat' (first | refine AW.seq ?_ | refine AW.scope ?_ | refine AW.label ?_ | refine AW.block ?_ | refine AW.skip ?_ | refine AW.exit ?_ | refine AW.ret ?_ | (refine AW.regionC fun Q' Kn hQ hK hK' => ?_; (repeat simp (disch := omega) only [go_sem, redN, Nat.reduceAdd, Int.reduceToNat, Int.reducePow]); (repeat' apply And.intro); (try any_goals (first | (refine hK _ _ ?_; clear hK' hQ hK Q' Kn) | (simp; done) | omega | (simp only [redL]; omega) | (simp; omega)))) | (refine AW.cond (by simp (disch := omega) only [go_sem, redN, Nat.reduceAdd, Int.reduceToNat, Int.reducePow]; rfl) (fun hb => ?_) (fun hb => ?_) <;> (try simp only [redB] at hb))))
    refine ⟨(i + 1, _), ⟨by dsimp only; omega, sub_fresh i2 hit _⟩, by dsimp only; omega, ?_, rfl, rfl⟩
    dsimp only
    rw [hpf, hm2]
    (repeat (first | exact Weak.nil | refine Weak.junk _ ?_ | refine Weak.same _ ?_ | refine Weak.eqv (by (congr 1; first | omega | (simp; done) | exact w_i64 (by omega) (by omega))) ?_))
  · (refine ⟨_, _, rfl, by simp, ?_⟩; simp only [aTup, AA.get, List.getD_cons_zero, List.getD_cons_succ, true_and])
    exact ⟨i2, by rw [show i = w from by omega]⟩
noncomputable def dayF (n : Int) : List UInt8 := if (civ n).2.2.2 then pad 4 (civ n).1 ++ pad 2 (civ n).2.1 ++ pad 2 (civ n).2.2.1 else []
theorem t_Day (G : Nat → AV) (n : Int) (h0 : -9223372036854775808 ≤ n) (h1 : n ≤ 9223372036854775807) (st : St) : ACalls (Ev G) 48 [.int .i64 n] st (fun e st' => st' = st ∧ CivOk n ∧ e = .ret (.str (dayF n))) := by
  refine ACalls.of_body Tryz.func48 rfl ?_
  rw [Tryz.ntmps48]
  simp only [List.length_cons, List.length_nil, Nat.reduceAdd, Nat.reduceSub, List.replicate_succ, List.replicate_zero, List.cons_append, List.nil_append]
  (repeat' (first | refine AW.seq ?_ | refine AW.scope ?_ | refine AW.label ?_ | refine AW.block ?_ | refine AW.skip ?_ | refine AW.exit ?_ | refine AW.ret ?_ | (refine AW.regionC fun Q' Kn hQ hK hK' => ?_; (repeat simp (disch := omega) only [go_sem, redN, Nat.reduceAdd, Int.reduceToNat, Int.reducePow]); (repeat' apply And.intro); (try any_goals (first | (refine hK _ _ ?_; clear hK' hQ hK Q' Kn) | (simp; done) | omega | (simp only [redL]; omega) | (simp; omega)))) | (refine AW.cond (by simp (disch := omega) only [go_sem, redN, Nat.reduceAdd, Int.reduceToNat, Int.reducePow]; rfl) (fun hb => ?_) (fun hb => ?_) <;> (try simp only [redB] at hb))))
  refine AOp.call rfl (by simp only [go_sem]; rfl) (by simp [go_sem]) rfl (ACalls.mono (by simp only [go_sem]; exact t_CivilF G n h0 h1 _) ?_)
  rintro e st' ⟨rfl, hc, rfl⟩
  (refine AOpsC_ok hK' _ _ _ ?_; (repeat simp (disch := omega) only [go_sem, redN, Nat.reduceAdd, Int.reduceToNat, Int.reducePow]); (repeat' apply And.intro); (try any_goals (first | (refine hK _ _ ?_; clear hK' hQ hK Q' Kn) | (simp; done) | omega | (simp only [redL]; omega) | (simp; omega))))
  (repeat' (first | refine AW.seq ?_ | refine AW.scope ?_ | refine AW.label ?_ | refine AW.block ?_ | refine AW.skip ?_ | refine AW.exit ?_ | refine AW.ret ?_ | (refine AW.regionC fun Q' Kn hQ hK hK' => ?_; (repeat simp (disch := omega) only [go_sem, redN, Nat.reduceAdd, Int.reduceToNat, Int.reducePow]); (repeat' apply And.intro); (try any_goals (first | (refine hK _ _ ?_; clear hK' hQ hK Q' Kn) | (simp; done) | omega | (simp only [redL]; omega) | (simp; omega)))) | (refine AW.cond (by simp (disch := omega) only [go_sem, redN, Nat.reduceAdd, Int.reduceToNat, Int.reducePow]; rfl) (fun hb => ?_) (fun hb => ?_) <;> (try simp only [redB] at hb))))
  · (refine ⟨_, _, rfl, by simp, ?_⟩; simp only [aTup, AA.get, List.getD_cons_zero, List.getD_cons_succ, true_and])
    exact ⟨hc, by simp [dayF, hb]⟩
  have hbt : (civ n).2.2.2 = true := by simpa using hb
  have hbd := civ_bounds hc hbt
  refine AOp.call rfl (by simp only [go_sem]; rfl) (by simp [go_sem]) rfl (ACalls.mono (by simp only [go_sem]; exact t_padded G (civ n).1 4 (by omega) (by omega) (by omega) (by omega) _) ?_)
  rintro e st' ⟨rfl, rfl⟩
  (refine AOpsC_ok hK' _ _ _ ?_; (repeat simp (disch := omega) only [go_sem, redN, Nat.reduceAdd, Int.reduceToNat, Int.reducePow]); (repeat' apply And.intro); (try any_goals (first | (refine hK _ _ ?_; clear hK' hQ hK Q' Kn) | (simp; done) | omega | (simp only [redL]; omega) | (simp; omega))))
  refine AOp.call rfl (by simp only [go_sem]; rfl) (by simp [go_sem]) rfl (ACalls.mono (by simp only [go_sem]; exact t_padded G (civ n).2.1 2 (by omega) (by omega) (by omega) (by omega) _) ?_)
  rintro e st' ⟨rfl, rfl⟩
  (refine AOpsC_ok hK' _ _ _ ?_; (repeat simp (disch := omega) only [go_sem, redN, Nat.reduceAdd, Int.reduceToNat, Int.reducePow]); (repeat' apply And.intro); (try any_goals (first | (refine hK _ _ ?_; clear hK' hQ hK Q' Kn) | (simp; done) | omega | (simp only [redL]; omega) | (simp; omega))))
  refine AOp.call rfl (by simp only [go_sem]; rfl) (by simp [go_sem]) rfl (ACalls.mono (by simp only [go_sem]; exact t_padded G (civ n).2.2.1 2 (by omega) (by omega) (by omega) (by omega) _) ?_)
  rintro e st' ⟨rfl, rfl⟩
  (refine AOpsC_ok hK' _ _ _ ?_; (repeat simp (disch := omega) only [go_sem, redN, Nat.reduceAdd, Int.reduceToNat, Int.reducePow]); (repeat' apply And.intro); (try any_goals (first | (refine hK _ _ ?_; clear hK' hQ hK Q' Kn) | (simp; done) | omega | (simp only [redL]; omega) | (simp; omega))))
  (repeat' (first | refine AW.seq ?_ | refine AW.scope ?_ | refine AW.label ?_ | refine AW.block ?_ | refine AW.skip ?_ | refine AW.exit ?_ | refine AW.ret ?_ | (refine AW.regionC fun Q' Kn hQ hK hK' => ?_; (repeat simp (disch := omega) only [go_sem, redN, Nat.reduceAdd, Int.reduceToNat, Int.reducePow]); (repeat' apply And.intro); (try any_goals (first | (refine hK _ _ ?_; clear hK' hQ hK Q' Kn) | (simp; done) | omega | (simp only [redL]; omega) | (simp; omega)))) | (refine AW.cond (by simp (disch := omega) only [go_sem, redN, Nat.reduceAdd, Int.reduceToNat, Int.reducePow]; rfl) (fun hb => ?_) (fun hb => ?_) <;> (try simp only [redB] at hb))))
  (refine ⟨_, _, rfl, by simp, ?_⟩; simp only [aTup, AA.get, List.getD_cons_zero, List.getD_cons_succ, true_and])
  exact ⟨hc, by simp [dayF, hbt]⟩
theorem r_PadI (G : Nat → AV) (n : Int) (w : Nat) (h0 : 0 ≤ n) (hn : n ≤ 9223372036854775807) (hw : w ≤ 1000) (st : St) : ACalls (Ev G) 73 [.int .i64 n, .int .i64 w] st (fun e st' => st' = st ∧ e = .ret (.str (pad w n))) := by
  have h := r_Pad G n.toNat w (by omega) hw st
  rw [show ((n.toNat : Nat) : Int) = n from Int.toNat_of_nonneg h0] at h
  exact h
theorem r_Day (G : Nat → AV) (n : Int) (h0 : -9223372036854775808 ≤ n) (h1 : n ≤ 9223372036854775807) (st : St) : ACalls (Ev G) 46 [.int .i64 n] st (fun e st' => st' = st ∧ CivOk n ∧ e = .ret (.str (dayF n))) := by
  refine ACalls.of_body Tryz.func46 rfl ?_
  rw [Tryz.ntmps46]
  simp only [List.length_cons, List.length_nil, Nat.reduceAdd, Nat.reduceSub, List.replicate_succ, List.replicate_zero, List.cons_append, List.nil_append]
  (repeat' (first | refine AW.seq ?_ | refine AW.scope ?_ | refine AW.label ?_ | refine AW.block ?_ | refine AW.skip ?_ | refine AW.exit ?_ | refine AW.ret ?_ | (refine AW.regionC fun Q' Kn hQ hK hK' => ?_; (repeat simp (disch := omega) only [go_sem, redN, Nat.reduceAdd, Int.reduceToNat, Int.reducePow]); (repeat' apply And.intro); (try any_goals (first | (refine hK _ _ ?_; clear hK' hQ hK Q' Kn) | (simp; done) | omega | (simp only [redL]; omega) | (simp; omega)))) | (refine AW.cond (by simp (disch := omega) only [go_sem, redN, Nat.reduceAdd, Int.reduceToNat, Int.reducePow]; rfl) (fun hb => ?_) (fun hb => ?_) <;> (try simp only [redB] at hb))))
  refine AOp.call rfl (by simp only [go_sem]; rfl) (by simp [go_sem]) rfl (ACalls.mono (by simp only [go_sem]; exact r_CivilF G n h0 h1 _) ?_)
  rintro e st' ⟨rfl, hc, rfl⟩
  (refine AOpsC_ok hK' _ _ _ ?_; (repeat simp (disch := omega) only [go_sem, redN, Nat.reduceAdd, Int.reduceToNat, Int.reducePow]); (repeat' apply And.intro); (try any_goals (first | (refine hK _ _ ?_; clear hK' hQ hK Q' Kn) | (simp; done) | omega | (simp only [redL]; omega) | (simp; omega))))
  (repeat' (first | refine AW.seq ?_ | refine AW.scope ?_ | refine AW.label ?_ | refine AW.block ?_ | refine AW.skip ?_ | refine AW.exit ?_ | refine AW.ret ?_ | (refine AW.regionC fun Q' Kn hQ hK hK' => ?_; (repeat simp (disch := omega) only [go_sem, redN, Nat.reduceAdd, Int.reduceToNat, Int.reducePow]); (repeat' apply And.intro); (try any_goals (first | (refine hK _ _ ?_; clear hK' hQ hK Q' Kn) | (simp; done) | omega | (simp only [redL]; omega) | (simp; omega)))) | (refine AW.cond (by simp (disch := omega) only [go_sem, redN, Nat.reduceAdd, Int.reduceToNat, Int.reducePow]; rfl) (fun hb => ?_) (fun hb => ?_) <;> (try simp only [redB] at hb))))
  · (refine ⟨_, _, rfl, by simp, ?_⟩; simp only [aTup, AA.get, List.getD_cons_zero, List.getD_cons_succ, true_and])
    exact ⟨hc, by simp [dayF, hb]⟩
  have hbt : (civ n).2.2.2 = true := by simpa using hb
  have hbd := civ_bounds hc hbt
  refine AOp.call rfl (by simp only [go_sem]; rfl) (by simp [go_sem]) rfl (ACalls.mono (by simp only [go_sem]; exact r_PadI G (civ n).1 4 (by omega) (by omega) (by omega) _) ?_)
  rintro e st' ⟨rfl, rfl⟩
  (refine AOpsC_ok hK' _ _ _ ?_; (repeat simp (disch := omega) only [go_sem, redN, Nat.reduceAdd, Int.reduceToNat, Int.reducePow]); (repeat' apply And.intro); (try any_goals (first | (refine hK _ _ ?_; clear hK' hQ hK Q' Kn) | (simp; done) | omega | (simp only [redL]; omega) | (simp; omega))))
  refine AOp.call rfl (by simp only [go_sem]; rfl) (by simp [go_sem]) rfl (ACalls.mono (by simp only [go_sem]; exact r_PadI G (civ n).2.1 2 (by omega) (by omega) (by omega) _) ?_)
  rintro e st' ⟨rfl, rfl⟩
  (refine AOpsC_ok hK' _ _ _ ?_; (repeat simp (disch := omega) only [go_sem, redN, Nat.reduceAdd, Int.reduceToNat, Int.reducePow]); (repeat' apply And.intro); (try any_goals (first | (refine hK _ _ ?_; clear hK' hQ hK Q' Kn) | (simp; done) | omega | (simp only [redL]; omega) | (simp; omega))))
  refine AOp.call rfl (by simp only [go_sem]; rfl) (by simp [go_sem]) rfl (ACalls.mono (by simp only [go_sem]; exact r_PadI G (civ n).2.2.1 2 (by omega) (by omega) (by omega) _) ?_)
  rintro e st' ⟨rfl, rfl⟩
  (refine AOpsC_ok hK' _ _ _ ?_; (repeat simp (disch := omega) only [go_sem, redN, Nat.reduceAdd, Int.reduceToNat, Int.reducePow]); (repeat' apply And.intro); (try any_goals (first | (refine hK _ _ ?_; clear hK' hQ hK Q' Kn) | (simp; done) | omega | (simp only [redL]; omega) | (simp; omega))))
  (repeat' (first | refine AW.seq ?_ | refine AW.scope ?_ | refine AW.label ?_ | refine AW.block ?_ | refine AW.skip ?_ | refine AW.exit ?_ | refine AW.ret ?_ | (refine AW.regionC fun Q' Kn hQ hK hK' => ?_; (repeat simp (disch := omega) only [go_sem, redN, Nat.reduceAdd, Int.reduceToNat, Int.reducePow]); (repeat' apply And.intro); (try any_goals (first | (refine hK _ _ ?_; clear hK' hQ hK Q' Kn) | (simp; done) | omega | (simp only [redL]; omega) | (simp; omega)))) | (refine AW.cond (by simp (disch := omega) only [go_sem, redN, Nat.reduceAdd, Int.reduceToNat, Int.reducePow]; rfl) (fun hb => ?_) (fun hb => ?_) <;> (try simp only [redB] at hb))))
  (refine ⟨_, _, rfl, by simp, ?_⟩; simp only [aTup, AA.get, List.getD_cons_zero, List.getD_cons_succ, true_and])
  exact ⟨hc, by simp [dayF, hbt]⟩
def clockT (t : Int) (sep : List UInt8) : List UInt8 := pad 2 (t / 3600) ++ sep ++ pad 2 (t / 60 % 60) ++ sep ++ pad 2 (t % 60)
theorem t_clock (G : Nat → AV) (t : Int) (sep : List UInt8) (hs : sep.length ≤ 10) (h0 : 0 ≤ t) (h1 : t < 86400) (st : St) : ACalls (Ev G) 68 [.int .i64 t, .str sep] st (fun e st' => st' = st ∧ e = .ret (.str (clockT t sep))) := by
  refine ACalls.of_body Tryz.func68 rfl ?_
  rw [Tryz.ntmps68]
  simp only [List.length_cons, List.length_nil, Nat.reduceAdd, Nat.reduceSub, List.replicate_succ, List.replicate_zero, List.cons_append, List.nil_append]
  (repeat' (first | refine AW.seq ?_ | refine AW.scope ?_ | refine AW.label ?_ | refine AW.block ?_ | refine AW.skip ?_ | refine AW.exit ?_ | refine AW.ret ?_ | (refine AW.regionC fun Q' Kn hQ hK hK' => ?_; (repeat simp (disch := omega) only [go_sem, redN, Nat.reduceAdd, Int.reduceToNat, Int.reducePow]); (repeat' apply And.intro); (try any_goals (first | (refine hK _ _ ?_; clear hK' hQ hK Q' Kn) | (simp; done) | omega | (simp only [redL]; omega) | (simp; omega)))) | (refine AW.cond (by simp (disch := omega) only [go_sem, redN, Nat.reduceAdd, Int.reduceToNat, Int.reducePow]; rfl) (fun hb => ?_) (fun hb => ?_) <;> (try simp only [redB] at hb))))
  refine AOp.call rfl (by simp only [go_sem]; rfl) (by simp [go_sem]) rfl (ACalls.mono (by simp only [go_sem]; exact t_padded G (t / 3600) 2 (by omega) (by omega) (by omega) (by omega) _) ?_)
  rintro e st' ⟨rfl, rfl⟩
  (refine AOpsC_ok hK' _ _ _ ?_; (repeat simp (disch := omega) only [go_sem, redN, Nat.reduceAdd, Int.reduceToNat, Int.reducePow]); (repeat' apply And.intro); (try any_goals (first | (refine hK _ _ ?_; clear hK' hQ hK Q' Kn) | (simp; done) | omega | (simp only [redL]; omega) | (simp; omega))))
  refine AOp.call rfl (by simp only [go_sem]; rfl) (by simp [go_sem]) rfl (ACalls.mono (by simp only [go_sem]; exact t_padded G (t / 60 % 60) 2 (by omega) (by omega) (by omega) (by omega) _) ?_)
  rintro e st' ⟨rfl, rfl⟩
  (refine AOpsC_ok hK' _ _ _ ?_; (repeat simp (disch := omega) only [go_sem, redN, Nat.reduceAdd, Int.reduceToNat, Int.reducePow]); (repeat' apply And.intro); (try any_goals (first | (refine hK _ _ ?_; clear hK' hQ hK Q' Kn) | (simp; done) | omega | (simp only [redL]; omega) | (simp; omega))))
  refine AOp.call rfl (by simp only [go_sem]; rfl) (by simp [go_sem]) rfl (ACalls.mono (by simp only [go_sem]; exact t_padded G (t % 60) 2 (by omega) (by omega) (by omega) (by omega) _) ?_)
  rintro e st' ⟨rfl, rfl⟩
  (refine AOpsC_ok hK' _ _ _ ?_; (repeat simp (disch := omega) only [go_sem, redN, Nat.reduceAdd, Int.reduceToNat, Int.reducePow]); (repeat' apply And.intro); (try any_goals (first | (refine hK _ _ ?_; clear hK' hQ hK Q' Kn) | (simp; done) | omega | (simp only [redL]; omega) | (simp; omega))))
  (repeat' (first | refine AW.seq ?_ | refine AW.scope ?_ | refine AW.label ?_ | refine AW.block ?_ | refine AW.skip ?_ | refine AW.exit ?_ | refine AW.ret ?_ | (refine AW.regionC fun Q' Kn hQ hK hK' => ?_; (repeat simp (disch := omega) only [go_sem, redN, Nat.reduceAdd, Int.reduceToNat, Int.reducePow]); (repeat' apply And.intro); (try any_goals (first | (refine hK _ _ ?_; clear hK' hQ hK Q' Kn) | (simp; done) | omega | (simp only [redL]; omega) | (simp; omega)))) | (refine AW.cond (by simp (disch := omega) only [go_sem, redN, Nat.reduceAdd, Int.reduceToNat, Int.reducePow]; rfl) (fun hb => ?_) (fun hb => ?_) <;> (try simp only [redB] at hb))))
  (refine ⟨_, _, rfl, by simp, ?_⟩; simp only [aTup, AA.get, List.getD_cons_zero, List.getD_cons_succ, true_and])
  simp [clockT]
end Go.Almanac
