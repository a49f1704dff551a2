/- Lines: plain texts; the reader reads a property. -/
import Derived.Test.YtkkckfnkejijdaaDoorM7
import Derived.Test.YtkkckfnkejijdaaDoorM4
import Derived.Test.YtkkckfnkejijdaaDoorM5
/- Lines: bytes, the small functions of the reader. -/
namespace Go.Almanac
open Go.RowKit Go.Proofs Go.Abs

set_option linter.unusedSimpArgs false
set_option linter.unusedVariables false
set_option linter.unusedSectionVars false
set_option maxRecDepth 10000

@[simp] theorem take_rest {α : Type} (s : List α) (n : Nat) : (s.drop n).take (s.length - n) = s.drop n := List.take_of_length_le (by simp)
attribute [go_sem] List.drop_nil List.drop_zero Nat.sub_zero take_rest Nat.add_sub_cancel List.take_length

def ctl (c : UInt8) : Bool := (decide ((c.toNat : Int) < 32) && ((c.toNat : Int) != 9)) || ((c.toNat : Int) == 127)
def nameB (c : UInt8) : Bool := (decide ((c.toNat : Int) ≥ 97) && decide ((c.toNat : Int) ≤ 122)) || (decide ((c.toNat : Int) ≥ 65) && decide ((c.toNat : Int) ≤ 90)) || (decide ((c.toNat : Int) ≥ 48) && decide ((c.toNat : Int) ≤ 57)) || ((c.toNat : Int) == 45)

theorem t_control (G : Nat → AV) (c : UInt8) (st : St) : ACalls (Ev G) 60 [.int .u8 c.toNat] st (fun e st' => st' = st ∧ e = .ret (.bool (ctl c))) := by
  refine ACalls.of_body Tryd.func60 rfl ?_
  rw [Tryd.ntmps60]
  simp only [List.length_cons, List.length_nil, Nat.reduceAdd, Nat.reduceSub, List.replicate_succ, List.replicate_zero, List.cons_append, List.nil_append]
  (repeat' (first | refine AW.seq ?_ | refine AW.scope ?_ | refine AW.label ?_ | refine AW.block ?_ | refine AW.skip ?_ | refine AW.exit ?_ | refine AW.ret ?_ | (refine AW.regionC fun Q' Kn hQ hK hK' => ?_; (repeat simp (disch := omega) only [go_sem, redN, Nat.reduceAdd, Int.reduceToNat, Int.reducePow]); (repeat' refine And.intro ?_ ?_); (try any_goals (first | (refine hK _ _ ?_; clear hK' hQ hK Q' Kn) | (simp; done) | omega | (simp only [redL]; omega) | (simp; omega)))) | (refine AW.cond (by simp (disch := omega) only [go_sem, redN, Nat.reduceAdd, Int.reduceToNat, Int.reducePow]; rfl) (fun hb => ?_) (fun hb => ?_) <;> (try simp only [redB] at hb))))
  (refine ⟨_, _, rfl, by simp, ?_⟩; simp only [aTup, AA.get, List.getD_cons_zero, List.getD_cons_succ, true_and])
  simp [ctl]
theorem t_nameByte (G : Nat → AV) (c : UInt8) (st : St) : ACalls (Ev G) 57 [.int .u8 c.toNat] st (fun e st' => st' = st ∧ e = .ret (.bool (nameB c))) := by
  refine ACalls.of_body Tryd.func57 rfl ?_
  rw [Tryd.ntmps57]
  simp only [List.length_cons, List.length_nil, Nat.reduceAdd, Nat.reduceSub, List.replicate_succ, List.replicate_zero, List.cons_append, List.nil_append]
  (repeat' (first | refine AW.seq ?_ | refine AW.scope ?_ | refine AW.label ?_ | refine AW.block ?_ | refine AW.skip ?_ | refine AW.exit ?_ | refine AW.ret ?_ | (refine AW.regionC fun Q' Kn hQ hK hK' => ?_; (repeat simp (disch := omega) only [go_sem, redN, Nat.reduceAdd, Int.reduceToNat, Int.reducePow]); (repeat' refine And.intro ?_ ?_); (try any_goals (first | (refine hK _ _ ?_; clear hK' hQ hK Q' Kn) | (simp; done) | omega | (simp only [redL]; omega) | (simp; omega)))) | (refine AW.cond (by simp (disch := omega) only [go_sem, redN, Nat.reduceAdd, Int.reduceToNat, Int.reducePow]; rfl) (fun hb => ?_) (fun hb => ?_) <;> (try simp only [redB] at hb))))
  (refine ⟨_, _, rfl, by simp, ?_⟩; simp only [aTup, AA.get, List.getD_cons_zero, List.getD_cons_succ, true_and])
  simp [nameB]

theorem b_HasPrefix (G : Nat → AV) (s p : List UInt8) (st : St) : ACalls (Ev G) 54 [.str s, .str p] st (fun e st' => st' = st ∧ e = .ret (.bool (Lib.hasPrefix s p))) := by
  refine ACalls.of_callsR (cargs := #[.string ⟨s.toArray⟩, .string ⟨p.toArray⟩]) (cv := .bool (Lib.hasPrefix s p)) (fun κ c h => ?_) (fun κ => ?_) fun κ w hR => ?_
  · simp only [VRs, VR] at h
    obtain ⟨v1, vs1, h1, rfl, v2, vs2, rfl, rfl, rfl⟩ := h
    rw [h1]
  · simp [VR]
  · refine Calls.mono (Tryd.strings_HasPrefix ⟨s.toArray⟩ ⟨p.toArray⟩ w) ?_
    rintro e w' ⟨rfl, rfl⟩
    exact ⟨rfl, Below.refl _ _⟩

/-- The reader in block b: what is left, and the error. -/
def rd (s : List UInt8) (e : Int) : Blk := .cells 47 0 2 [[.str s, .int .i64 e]]

theorem t_ok (G : Nat → AV) (b : Nat) (s : List UInt8) (e : Int) (st : St) (hst : st b = some (rd s e)) : ACalls (Ev G) 27 [.ptr b 0 0 0] st (fun x st' => st' = st ∧ x = .ret (.bool (e == 0))) := by
  refine ACalls.of_body Tryd.func27 rfl ?_
  rw [Tryd.ntmps27]
  simp only [List.length_cons, List.length_nil, Nat.reduceAdd, Nat.reduceSub, List.replicate_succ, List.replicate_zero, List.cons_append, List.nil_append]
  (repeat' (first | refine AW.seq ?_ | refine AW.scope ?_ | refine AW.label ?_ | refine AW.block ?_ | refine AW.skip ?_ | refine AW.exit ?_ | refine AW.ret ?_ | (refine AW.regionC fun Q' Kn hQ hK hK' => ?_; (repeat simp (disch := omega) only [go_sem, redN, Nat.reduceAdd, Int.reduceToNat, Int.reducePow]); (repeat' refine And.intro ?_ ?_); (try any_goals (first | (refine hK _ _ ?_; clear hK' hQ hK Q' Kn) | (simp; done) | omega | (simp only [redL]; omega) | (simp; omega)))) | (refine AW.cond (by simp (disch := omega) only [go_sem, redN, Nat.reduceAdd, Int.reduceToNat, Int.reducePow]; rfl) (fun hb => ?_) (fun hb => ?_) <;> (try simp only [redB] at hb))))
  refine AOp.loadCell rfl (by simp only [go_sem] <;> rfl) (by simp [go_sem]) (hst) rfl (by simp) (by simp) ?_
  (refine AOpsC_ok hK' _ _ _ ?_; (repeat simp (disch := omega) only [go_sem, redN, Nat.reduceAdd, Int.reduceToNat, Int.reducePow]); (repeat' refine And.intro ?_ ?_); (try any_goals (first | (refine hK _ _ ?_; clear hK' hQ hK Q' Kn) | (simp; done) | omega | (simp only [redL]; omega) | (simp; omega))))
  (repeat' (first | refine AW.seq ?_ | refine AW.scope ?_ | refine AW.label ?_ | refine AW.block ?_ | refine AW.skip ?_ | refine AW.exit ?_ | refine AW.ret ?_ | (refine AW.regionC fun Q' Kn hQ hK hK' => ?_; (repeat simp (disch := omega) only [go_sem, redN, Nat.reduceAdd, Int.reduceToNat, Int.reducePow]); (repeat' refine And.intro ?_ ?_); (try any_goals (first | (refine hK _ _ ?_; clear hK' hQ hK Q' Kn) | (simp; done) | omega | (simp only [redL]; omega) | (simp; omega)))) | (refine AW.cond (by simp (disch := omega) only [go_sem, redN, Nat.reduceAdd, Int.reduceToNat, Int.reducePow]; rfl) (fun hb => ?_) (fun hb => ?_) <;> (try simp only [redB] at hb))))
  (refine ⟨_, _, rfl, by simp, ?_⟩; simp only [aTup, AA.get, List.getD_cons_zero, List.getD_cons_succ, true_and])

theorem t_fail (G : Nat → AV) (b : Nat) (s : List UInt8) (e k : Int) (st : St) (hst : st b = some (rd s e)) : ACalls (Ev G) 24 [.ptr b 0 0 0, .int .i64 k] st (fun x st' => st' = st.set b (rd s (if e = 0 then k else e)) ∧ x = .ret (.tup [])) := by
  refine ACalls.of_body Tryd.func24 rfl ?_
  rw [Tryd.ntmps24]
  simp only [List.length_cons, List.length_nil, Nat.reduceAdd, Nat.reduceSub, List.replicate_succ, List.replicate_zero, List.cons_append, List.nil_append]
  (repeat' (first | refine AW.seq ?_ | refine AW.scope ?_ | refine AW.label ?_ | refine AW.block ?_ | refine AW.skip ?_ | refine AW.exit ?_ | refine AW.ret ?_ | (refine AW.regionC fun Q' Kn hQ hK hK' => ?_; (repeat simp (disch := omega) only [go_sem, redN, Nat.reduceAdd, Int.reduceToNat, Int.reducePow]); (repeat' refine And.intro ?_ ?_); (try any_goals (first | (refine hK _ _ ?_; clear hK' hQ hK Q' Kn) | (simp; done) | omega | (simp only [redL]; omega) | (simp; omega)))) | (refine AW.cond (by simp (disch := omega) only [go_sem, redN, Nat.reduceAdd, Int.reduceToNat, Int.reducePow]; rfl) (fun hb => ?_) (fun hb => ?_) <;> (try simp only [redB] at hb))))
  refine AOp.call rfl (by simp only [go_sem]; rfl) (by simp [go_sem]) rfl (ACalls.mono (by simp only [go_sem]; exact t_ok G b s e _ hst) ?_)
  rintro e st' ⟨rfl, rfl⟩
  (refine AOpsC_ok hK' _ _ _ ?_; (repeat simp (disch := omega) only [go_sem, redN, Nat.reduceAdd, Int.reduceToNat, Int.reducePow]); (repeat' refine And.intro ?_ ?_); (try any_goals (first | (refine hK _ _ ?_; clear hK' hQ hK Q' Kn) | (simp; done) | omega | (simp only [redL]; omega) | (simp; omega))))
  (repeat' (first | refine AW.seq ?_ | refine AW.scope ?_ | refine AW.label ?_ | refine AW.block ?_ | refine AW.skip ?_ | refine AW.exit ?_ | refine AW.ret ?_ | (refine AW.regionC fun Q' Kn hQ hK hK' => ?_; (repeat simp (disch := omega) only [go_sem, redN, Nat.reduceAdd, Int.reduceToNat, Int.reducePow]); (repeat' refine And.intro ?_ ?_); (try any_goals (first | (refine hK _ _ ?_; clear hK' hQ hK Q' Kn) | (simp; done) | omega | (simp only [redL]; omega) | (simp; omega)))) | (refine AW.cond (by simp (disch := omega) only [go_sem, redN, Nat.reduceAdd, Int.reduceToNat, Int.reducePow]; rfl) (fun hb => ?_) (fun hb => ?_) <;> (try simp only [redB] at hb))))
  · refine AOp.store (cs := [.int .i64 k]) rfl (by simp only [go_sem] <;> rfl) (by simp [go_sem]) (hst) (by first | (simp only [go_sem]; done) | (simp [go_sem]; done) | (simp [go_sem]; omega)) rfl rfl (by simp) (by simp) ?_
    (refine AOpsC_ok hK' _ _ _ ?_; (repeat simp (disch := omega) only [go_sem, redN, Nat.reduceAdd, Int.reduceToNat, Int.reducePow]); (repeat' refine And.intro ?_ ?_); (try any_goals (first | (refine hK _ _ ?_; clear hK' hQ hK Q' Kn) | (simp; done) | omega | (simp only [redL]; omega) | (simp; omega))))
    (repeat' (first | refine AW.seq ?_ | refine AW.scope ?_ | refine AW.label ?_ | refine AW.block ?_ | refine AW.skip ?_ | refine AW.exit ?_ | refine AW.ret ?_ | (refine AW.regionC fun Q' Kn hQ hK hK' => ?_; (repeat simp (disch := omega) only [go_sem, redN, Nat.reduceAdd, Int.reduceToNat, Int.reducePow]); (repeat' refine And.intro ?_ ?_); (try any_goals (first | (refine hK _ _ ?_; clear hK' hQ hK Q' Kn) | (simp; done) | omega | (simp only [redL]; omega) | (simp; omega)))) | (refine AW.cond (by simp (disch := omega) only [go_sem, redN, Nat.reduceAdd, Int.reduceToNat, Int.reducePow]; rfl) (fun hb => ?_) (fun hb => ?_) <;> (try simp only [redB] at hb))))
    (refine ⟨_, _, rfl, by simp, ?_⟩; simp only [aTup, AA.get, List.getD_cons_zero, List.getD_cons_succ, true_and])
    rw [if_pos hb]; simp [rd]
  · (refine ⟨_, _, rfl, by simp, ?_⟩; simp only [aTup, AA.get, List.getD_cons_zero, List.getD_cons_succ, true_and])
    rw [if_neg hb]; simp [St.set_self _ hst]

theorem t_goes (G : Nat → AV) (b : Nat) (s c : List UInt8) (e : Int) (st : St) (hst : st b = some (rd s e)) : ACalls (Ev G) 23 [.ptr b 0 0 0, .str c] st (fun x st' => st' = st ∧ x = .ret (.bool (e == 0 && Lib.hasPrefix s c))) := by
  refine ACalls.of_body Tryd.func23 rfl ?_
  rw [Tryd.ntmps23]
  simp only [List.length_cons, List.length_nil, Nat.reduceAdd, Nat.reduceSub, List.replicate_succ, List.replicate_zero, List.cons_append, List.nil_append]
  (repeat' (first | refine AW.seq ?_ | refine AW.scope ?_ | refine AW.label ?_ | refine AW.block ?_ | refine AW.skip ?_ | refine AW.exit ?_ | refine AW.ret ?_ | (refine AW.regionC fun Q' Kn hQ hK hK' => ?_; (repeat simp (disch := omega) only [go_sem, redN, Nat.reduceAdd, Int.reduceToNat, Int.reducePow]); (repeat' refine And.intro ?_ ?_); (try any_goals (first | (refine hK _ _ ?_; clear hK' hQ hK Q' Kn) | (simp; done) | omega | (simp only [redL]; omega) | (simp; omega)))) | (refine AW.cond (by simp (disch := omega) only [go_sem, redN, Nat.reduceAdd, Int.reduceToNat, Int.reducePow]; rfl) (fun hb => ?_) (fun hb => ?_) <;> (try simp only [redB] at hb))))
  refine AOp.call rfl (by simp only [go_sem]; rfl) (by simp [go_sem]) rfl (ACalls.mono (by simp only [go_sem]; exact t_ok G b s e _ hst) ?_)
  rintro e st' ⟨rfl, rfl⟩
  (refine AOpsC_ok hK' _ _ _ ?_; (repeat simp (disch := omega) only [go_sem, redN, Nat.reduceAdd, Int.reduceToNat, Int.reducePow]); (repeat' refine And.intro ?_ ?_); (try any_goals (first | (refine hK _ _ ?_; clear hK' hQ hK Q' Kn) | (simp; done) | omega | (simp only [redL]; omega) | (simp; omega))))
  (repeat' (first | refine AW.seq ?_ | refine AW.scope ?_ | refine AW.label ?_ | refine AW.block ?_ | refine AW.skip ?_ | refine AW.exit ?_ | refine AW.ret ?_ | (refine AW.regionC fun Q' Kn hQ hK hK' => ?_; (repeat simp (disch := omega) only [go_sem, redN, Nat.reduceAdd, Int.reduceToNat, Int.reducePow]); (repeat' refine And.intro ?_ ?_); (try any_goals (first | (refine hK _ _ ?_; clear hK' hQ hK Q' Kn) | (simp; done) | omega | (simp only [redL]; omega) | (simp; omega)))) | (refine AW.cond (by simp (disch := omega) only [go_sem, redN, Nat.reduceAdd, Int.reduceToNat, Int.reducePow]; rfl) (fun hb => ?_) (fun hb => ?_) <;> (try simp only [redB] at hb))))
  refine AOps.guard_loadCell rfl rfl rfl rfl rfl (fun _ => (by simp only [go_sem] <;> rfl)) (fun h => by first | (simp [go_sem]; done) | simpa [go_sem] using h) (hst) rfl (fun _ => by simp) (by simp) ?_
  (refine AOpsC_ok hK' _ _ _ ?_; (repeat simp (disch := omega) only [go_sem, redN, Nat.reduceAdd, Int.reduceToNat, Int.reducePow]); (repeat' refine And.intro ?_ ?_); (try any_goals (first | (refine hK _ _ ?_; clear hK' hQ hK Q' Kn) | (simp; done) | omega | (simp only [redL]; omega) | (simp; omega))))
  refine AOps.guard_call (f := 54) (v := .bool (Lib.hasPrefix s c)) rfl rfl rfl rfl rfl (fun _ => (by simp only [go_sem] <;> rfl)) (fun h => by first | (simp [go_sem]; done) | simpa [go_sem] using h) rfl (fun hg => by simp only [go_sem]; exact b_HasPrefix G s c _) ?_
  (refine AOpsC_ok hK' _ _ _ ?_; (repeat simp (disch := omega) only [go_sem, redN, Nat.reduceAdd, Int.reduceToNat, Int.reducePow]); (repeat' refine And.intro ?_ ?_); (try any_goals (first | (refine hK _ _ ?_; clear hK' hQ hK Q' Kn) | (simp; done) | omega | (simp only [redL]; omega) | (simp; omega))))
  (repeat' (first | refine AW.seq ?_ | refine AW.scope ?_ | refine AW.label ?_ | refine AW.block ?_ | refine AW.skip ?_ | refine AW.exit ?_ | refine AW.ret ?_ | (refine AW.regionC fun Q' Kn hQ hK hK' => ?_; (repeat simp (disch := omega) only [go_sem, redN, Nat.reduceAdd, Int.reduceToNat, Int.reducePow]); (repeat' refine And.intro ?_ ?_); (try any_goals (first | (refine hK _ _ ?_; clear hK' hQ hK Q' Kn) | (simp; done) | omega | (simp only [redL]; omega) | (simp; omega)))) | (refine AW.cond (by simp (disch := omega) only [go_sem, redN, Nat.reduceAdd, Int.reduceToNat, Int.reducePow]; rfl) (fun hb => ?_) (fun hb => ?_) <;> (try simp only [redB] at hb))))
  (refine ⟨_, _, rfl, by simp, ?_⟩; simp only [aTup, AA.get, List.getD_cons_zero, List.getD_cons_succ, true_and])

/-- One byte that must stand there. -/
def pMust (c : UInt8) : List UInt8 → Except Int (List UInt8)
  | [] => .error 11
  | x :: t => if x = c then .ok t else .error 10
/-- What a step leaves: what is left, and the error. -/
def stp (s : List UInt8) : Except Int (List UInt8) → Blk
  | .ok r => rd r 0
  | .error k => rd s k

theorem t_must (G : Nat → AV) (b : Nat) (s : List UInt8) (c : UInt8) (e : Int) (st : St) (hst : st b = some (rd s e)) : ACalls (Ev G) 26 [.ptr b 0 0 0, .str [c]] st (fun x st' => st' = st.set b (if e = 0 then stp s (pMust c s) else rd s e) ∧ x = .ret (.tup [])) := by
  refine ACalls.of_body Tryd.func26 rfl ?_
  rw [Tryd.ntmps26]
  simp only [List.length_cons, List.length_nil, Nat.reduceAdd, Nat.reduceSub, List.replicate_succ, List.replicate_zero, List.cons_append, List.nil_append]
  (repeat' (first | refine AW.seq ?_ | refine AW.scope ?_ | refine AW.label ?_ | refine AW.block ?_ | refine AW.skip ?_ | refine AW.exit ?_ | refine AW.ret ?_ | (refine AW.regionC fun Q' Kn hQ hK hK' => ?_; (repeat simp (disch := omega) only [go_sem, redN, Nat.reduceAdd, Int.reduceToNat, Int.reducePow]); (repeat' refine And.intro ?_ ?_); (try any_goals (first | (refine hK _ _ ?_; clear hK' hQ hK Q' Kn) | (simp; done) | omega | (simp only [redL]; omega) | (simp; omega)))) | (refine AW.cond (by simp (disch := omega) only [go_sem, redN, Nat.reduceAdd, Int.reduceToNat, Int.reducePow]; rfl) (fun hb => ?_) (fun hb => ?_) <;> (try simp only [redB] at hb))))
  refine AOp.call rfl (by simp only [go_sem]; rfl) (by simp [go_sem]) rfl (ACalls.mono (by simp only [go_sem]; exact t_ok G b s e _ hst) ?_)
  rintro e st' ⟨rfl, rfl⟩
  (refine AOpsC_ok hK' _ _ _ ?_; (repeat simp (disch := omega) only [go_sem, redN, Nat.reduceAdd, Int.reduceToNat, Int.reducePow]); (repeat' refine And.intro ?_ ?_); (try any_goals (first | (refine hK _ _ ?_; clear hK' hQ hK Q' Kn) | (simp; done) | omega | (simp only [redL]; omega) | (simp; omega))))
  (repeat' (first | refine AW.seq ?_ | refine AW.scope ?_ | refine AW.label ?_ | refine AW.block ?_ | refine AW.skip ?_ | refine AW.exit ?_ | refine AW.ret ?_ | (refine AW.regionC fun Q' Kn hQ hK hK' => ?_; (repeat simp (disch := omega) only [go_sem, redN, Nat.reduceAdd, Int.reduceToNat, Int.reducePow]); (repeat' refine And.intro ?_ ?_); (try any_goals (first | (refine hK _ _ ?_; clear hK' hQ hK Q' Kn) | (simp; done) | omega | (simp only [redL]; omega) | (simp; omega)))) | (refine AW.cond (by simp (disch := omega) only [go_sem, redN, Nat.reduceAdd, Int.reduceToNat, Int.reducePow]; rfl) (fun hb => ?_) (fun hb => ?_) <;> (try simp only [redB] at hb))))
  · (refine ⟨_, _, rfl, by simp, ?_⟩; simp only [aTup, AA.get, List.getD_cons_zero, List.getD_cons_succ, true_and])
    rw [if_neg (by simpa using hb)]; simp [St.set_self _ hst]
  have he : e = 0 := by simpa using hb
  subst he
  refine AOp.loadCell rfl (by simp only [go_sem] <;> rfl) (by simp [go_sem]) (hst) rfl (by simp) (by simp) ?_
  (refine AOpsC_ok hK' _ _ _ ?_; (repeat simp (disch := omega) only [go_sem, redN, Nat.reduceAdd, Int.reduceToNat, Int.reducePow]); (repeat' refine And.intro ?_ ?_); (try any_goals (first | (refine hK _ _ ?_; clear hK' hQ hK Q' Kn) | (simp; done) | omega | (simp only [redL]; omega) | (simp; omega))))
  (repeat' (first | refine AW.seq ?_ | refine AW.scope ?_ | refine AW.label ?_ | refine AW.block ?_ | refine AW.skip ?_ | refine AW.exit ?_ | refine AW.ret ?_ | (refine AW.regionC fun Q' Kn hQ hK hK' => ?_; (repeat simp (disch := omega) only [go_sem, redN, Nat.reduceAdd, Int.reduceToNat, Int.reducePow]); (repeat' refine And.intro ?_ ?_); (try any_goals (first | (refine hK _ _ ?_; clear hK' hQ hK Q' Kn) | (simp; done) | omega | (simp only [redL]; omega) | (simp; omega)))) | (refine AW.cond (by simp (disch := omega) only [go_sem, redN, Nat.reduceAdd, Int.reduceToNat, Int.reducePow]; rfl) (fun hb => ?_) (fun hb => ?_) <;> (try simp only [redB] at hb))))
  · subst hb
    refine AOp.call rfl (by simp only [go_sem]; rfl) (by simp [go_sem]) rfl (ACalls.mono (by simp only [go_sem]; exact t_fail G b [] 0 11 _ hst) ?_)
    rintro e st' ⟨rfl, rfl⟩
    (refine AOpsC_ok hK' _ _ _ ?_; (repeat simp (disch := omega) only [go_sem, redN, Nat.reduceAdd, Int.reduceToNat, Int.reducePow]); (repeat' refine And.intro ?_ ?_); (try any_goals (first | (refine hK _ _ ?_; clear hK' hQ hK Q' Kn) | (simp; done) | omega | (simp only [redL]; omega) | (simp; omega))))
    (repeat' (first | refine AW.seq ?_ | refine AW.scope ?_ | refine AW.label ?_ | refine AW.block ?_ | refine AW.skip ?_ | refine AW.exit ?_ | refine AW.ret ?_ | (refine AW.regionC fun Q' Kn hQ hK hK' => ?_; (repeat simp (disch := omega) only [go_sem, redN, Nat.reduceAdd, Int.reduceToNat, Int.reducePow]); (repeat' refine And.intro ?_ ?_); (try any_goals (first | (refine hK _ _ ?_; clear hK' hQ hK Q' Kn) | (simp; done) | omega | (simp only [redL]; omega) | (simp; omega)))) | (refine AW.cond (by simp (disch := omega) only [go_sem, redN, Nat.reduceAdd, Int.reduceToNat, Int.reducePow]; rfl) (fun hb => ?_) (fun hb => ?_) <;> (try simp only [redB] at hb))))
    (refine ⟨_, _, rfl, by simp, ?_⟩; simp only [aTup, AA.get, List.getD_cons_zero, List.getD_cons_succ, true_and])
    simp [pMust, stp]
  refine AOp.loadCell rfl (by simp only [go_sem] <;> rfl) (by simp [go_sem]) (hst) rfl (by simp) (by simp) ?_
  (refine AOpsC_ok hK' _ _ _ ?_; (repeat simp (disch := omega) only [go_sem, redN, Nat.reduceAdd, Int.reduceToNat, Int.reducePow]); (repeat' refine And.intro ?_ ?_); (try any_goals (first | (refine hK _ _ ?_; clear hK' hQ hK Q' Kn) | (simp; done) | omega | (simp only [redL]; omega) | (simp; omega))))
  (repeat' (first | refine AW.seq ?_ | refine AW.scope ?_ | refine AW.label ?_ | refine AW.block ?_ | refine AW.skip ?_ | refine AW.exit ?_ | refine AW.ret ?_ | (refine AW.regionC fun Q' Kn hQ hK hK' => ?_; (repeat simp (disch := omega) only [go_sem, redN, Nat.reduceAdd, Int.reduceToNat, Int.reducePow]); (repeat' refine And.intro ?_ ?_); (try any_goals (first | (refine hK _ _ ?_; clear hK' hQ hK Q' Kn) | (simp; done) | omega | (simp only [redL]; omega) | (simp; omega)))) | (refine AW.cond (by simp (disch := omega) only [go_sem, redN, Nat.reduceAdd, Int.reduceToNat, Int.reducePow]; rfl) (fun hb => ?_) (fun hb => ?_) <;> (try simp only [redB] at hb))))
  · have := List.length_pos_iff.2 hb; omega
  · obtain ⟨x, t, rfl⟩ := List.exists_cons_of_ne_nil ‹¬s = []›
    simp at hb
    refine AOp.call rfl (by simp only [go_sem]; rfl) (by simp [go_sem]) rfl (ACalls.mono (by simp only [go_sem]; exact t_fail G b (x :: t) 0 10 _ hst) ?_)
    rintro e st' ⟨rfl, rfl⟩
    (refine AOpsC_ok hK' _ _ _ ?_; (repeat simp (disch := omega) only [go_sem, redN, Nat.reduceAdd, Int.reduceToNat, Int.reducePow]); (repeat' refine And.intro ?_ ?_); (try any_goals (first | (refine hK _ _ ?_; clear hK' hQ hK Q' Kn) | (simp; done) | omega | (simp only [redL]; omega) | (simp; omega))))
    (repeat' (first | refine AW.seq ?_ | refine AW.scope ?_ | refine AW.label ?_ | refine AW.block ?_ | refine AW.skip ?_ | refine AW.exit ?_ | refine AW.ret ?_ | (refine AW.regionC fun Q' Kn hQ hK hK' => ?_; (repeat simp (disch := omega) only [go_sem, redN, Nat.reduceAdd, Int.reduceToNat, Int.reducePow]); (repeat' refine And.intro ?_ ?_); (try any_goals (first | (refine hK _ _ ?_; clear hK' hQ hK Q' Kn) | (simp; done) | omega | (simp only [redL]; omega) | (simp; omega)))) | (refine AW.cond (by simp (disch := omega) only [go_sem, redN, Nat.reduceAdd, Int.reduceToNat, Int.reducePow]; rfl) (fun hb => ?_) (fun hb => ?_) <;> (try simp only [redB] at hb))))
    (refine ⟨_, _, rfl, by simp, ?_⟩; simp only [aTup, AA.get, List.getD_cons_zero, List.getD_cons_succ, true_and])
    simp [pMust, stp, hb]
  · obtain ⟨x, t, rfl⟩ := List.exists_cons_of_ne_nil ‹¬s = []›
    simp at hb
    refine AOp.loadCell rfl (by simp only [go_sem] <;> rfl) (by simp [go_sem]) (hst) rfl (by simp) (by simp) ?_
    (refine AOpsC_ok hK' _ _ _ ?_; (repeat simp (disch := omega) only [go_sem, redN, Nat.reduceAdd, Int.reduceToNat, Int.reducePow]); (repeat' refine And.intro ?_ ?_); (try any_goals (first | (refine hK _ _ ?_; clear hK' hQ hK Q' Kn) | (simp; done) | omega | (simp only [redL]; omega) | (simp; omega))))
    refine AOp.store (cs := [.str t]) rfl (by simp only [go_sem] <;> rfl) (by simp [go_sem]) (hst) (by first | (simp only [go_sem]; done) | (simp [go_sem]; done) | (simp [go_sem]; omega)) rfl rfl (by simp) (by simp) ?_
    (refine AOpsC_ok hK' _ _ _ ?_; (repeat simp (disch := omega) only [go_sem, redN, Nat.reduceAdd, Int.reduceToNat, Int.reducePow]); (repeat' refine And.intro ?_ ?_); (try any_goals (first | (refine hK _ _ ?_; clear hK' hQ hK Q' Kn) | (simp; done) | omega | (simp only [redL]; omega) | (simp; omega))))
    (repeat' (first | refine AW.seq ?_ | refine AW.scope ?_ | refine AW.label ?_ | refine AW.block ?_ | refine AW.skip ?_ | refine AW.exit ?_ | refine AW.ret ?_ | (refine AW.regionC fun Q' Kn hQ hK hK' => ?_; (repeat simp (disch := omega) only [go_sem, redN, Nat.reduceAdd, Int.reduceToNat, Int.reducePow]); (repeat' refine And.intro ?_ ?_); (try any_goals (first | (refine hK _ _ ?_; clear hK' hQ hK Q' Kn) | (simp; done) | omega | (simp only [redL]; omega) | (simp; omega)))) | (refine AW.cond (by simp (disch := omega) only [go_sem, redN, Nat.reduceAdd, Int.reduceToNat, Int.reducePow]; rfl) (fun hb => ?_) (fun hb => ?_) <;> (try simp only [redB] at hb))))
    (refine ⟨_, _, rfl, by simp, ?_⟩; simp only [aTup, AA.get, List.getD_cons_zero, List.getD_cons_succ, true_and])
    simp [pMust, stp, hb, rd]
end Go.Almanac

/- Lines: the reader takes bytes, names, values. -/
namespace Go.Almanac
open Go.RowKit Go.Proofs Go.Abs

set_option linter.unusedSimpArgs false
set_option linter.unusedVariables false
set_option linter.unusedSectionVars false
set_option maxRecDepth 10000

/-- How many bytes in front are such. -/
def twn (p : UInt8 → Bool) (s : List UInt8) : Nat := (s.takeWhile p).length
theorem twn_le (p : UInt8 → Bool) : ∀ s : List UInt8, twn p s ≤ s.length
  | [] => by simp [twn]
  | x :: s => by
    have := twn_le p s
    simp only [twn, List.takeWhile_cons] at this ⊢
    split <;> simp <;> omega
theorem twn_at (p : UInt8 → Bool) : ∀ (s : List UInt8) (i : Nat), i ≤ twn p s → i < s.length → p (s.getD i 0) = decide (i < twn p s)
  | [], i, _, h => by simp at h
  | x :: s, 0, _, _ => by
    simp only [twn, List.takeWhile_cons, List.getD_cons_zero]
    split <;> simp_all
  | x :: s, i + 1, h, h1 => by
    simp only [twn, List.takeWhile_cons, List.getD_cons_succ] at h ⊢
    split at h
    · rename_i hp
      have := twn_at p s i (by simpa [twn] using h) (by simpa using h1)
      simp only [twn] at this
      rw [this]; simp only [hp, if_true, List.length_cons]; exact decide_eq_decide.2 (by omega)
    · simp at h
theorem take_twn (p : UInt8 → Bool) (s : List UInt8) : s.take (twn p s) = s.takeWhile p := by
  induction s with
  | nil => rfl
  | cons x s ih =>
    simp only [twn, List.takeWhile_cons]
    split
    · simp only [List.length_cons, List.take_succ_cons]; rw [← ih]; simp [twn]
    · rfl

/-- A function value that tells bytes. -/
def TellsB (G : Nat → AV) (f : FuncId) (p : UInt8 → Bool) : Prop := ∀ (c : UInt8) (st : St), ACalls (Ev G) f [.int .u8 c.toNat] st (fun e st' => st' = st ∧ e = .ret (.bool (p c)))

theorem t_take (G : Nat → AV) (b : Nat) (s : List UInt8) (hs : s.length ≤ 4611686018427387904) (e : Int) (f : FuncId) (p : UInt8 → Bool) (hb : hasBody Tryd.prog f = true) (hf : TellsB G f p) (st : St) (hst : st b = some (rd s e)) :
    ACalls (Ev G) 56 [.ptr b 0 0 0, .clo (.func f) [] []] st (fun x st' => st' = st.set b (rd (s.drop (twn p s)) e) ∧ x = .ret (.str (s.take (twn p s)))) := by
  refine ACalls.of_body Tryd.func56 rfl ?_
  rw [Tryd.ntmps56]
  simp only [List.length_cons, List.length_nil, Nat.reduceAdd, Nat.reduceSub, List.replicate_succ, List.replicate_zero, List.cons_append, List.nil_append]
  (repeat' (first | refine AW.seq ?_ | refine AW.scope ?_ | refine AW.label ?_ | refine AW.block ?_ | refine AW.skip ?_ | refine AW.exit ?_ | refine AW.ret ?_ | (refine AW.regionC fun Q' Kn hQ hK hK' => ?_; (repeat simp (disch := omega) only [go_sem, redN, Nat.reduceAdd, Int.reduceToNat, Int.reducePow]); (repeat' refine And.intro ?_ ?_); (try any_goals (first | (refine hK _ _ ?_; clear hK' hQ hK Q' Kn) | (simp; done) | omega | (simp only [redL]; omega) | (simp; omega)))) | (refine AW.cond (by simp (disch := omega) only [go_sem, redN, Nat.reduceAdd, Int.reduceToNat, Int.reducePow]; rfl) (fun hb => ?_) (fun hb => ?_) <;> (try simp only [redB] at hb))))
  refine AW.loopF (fun k : Nat => [.ptr b 0 0 0, .clo (.func f) [] [], .junk, .junk, .junk, .int .i64 k, .junk, .junk, .junk, .junk, .junk, .junk, .junk, .junk, .junk, .junk, .junk, .junk, .junk, .junk, .junk, .junk, .junk, .junk, .junk, .junk, .junk, .junk, .junk, .junk, .junk, .junk, .junk, .junk, .junk, .junk, .junk, .junk, .junk, .junk, .junk, .junk]) (fun _ => st) (fun k => k ≤ twn p s) (fun k => s.length - k) 0 ?_ rfl ?_ ?_
  · (repeat (first | exact Weak.nil | refine Weak.junk _ ?_ | refine Weak.same _ ?_ | refine Weak.eqv (by (congr 1; first | omega | (simp; done) | exact w_i64 (by omega) (by omega))) ?_))
  · simp
  intro k hk
  have hle := twn_le p s
  (repeat' (first | refine AW.seq ?_ | refine AW.scope ?_ | refine AW.label ?_ | refine AW.block ?_ | refine AW.skip ?_ | refine AW.exit ?_ | refine AW.ret ?_ | (refine AW.regionC fun Q' Kn hQ hK hK' => ?_; (repeat simp (disch := omega) only [go_sem, redN, Nat.reduceAdd, Int.reduceToNat, Int.reducePow]); (repeat' refine And.intro ?_ ?_); (try any_goals (first | (refine hK _ _ ?_; clear hK' hQ hK Q' Kn) | (simp; done) | omega | (simp only [redL]; omega) | (simp; omega)))) | (refine AW.cond (by simp (disch := omega) only [go_sem, redN, Nat.reduceAdd, Int.reduceToNat, Int.reducePow]; rfl) (fun hb => ?_) (fun hb => ?_) <;> (try simp only [redB] at hb))))
  refine AOp.loadCell rfl (by simp only [go_sem] <;> rfl) (by simp [go_sem]) (hst) rfl (by simp) (by simp) ?_
  (refine AOpsC_ok hK' _ _ _ ?_; (repeat simp (disch := omega) only [go_sem, redN, Nat.reduceAdd, Int.reduceToNat, Int.reducePow]); (repeat' refine And.intro ?_ ?_); (try any_goals (first | (refine hK _ _ ?_; clear hK' hQ hK Q' Kn) | (simp; done) | omega | (simp only [redL]; omega) | (simp; omega))))
  refine AOps.guard_loadCell rfl rfl rfl rfl rfl (fun _ => (by simp only [go_sem] <;> rfl)) (fun h => by first | (simp [go_sem]; done) | simpa [go_sem] using h) (hst) rfl (fun _ => by simp) (by simp) ?_
  (refine AOpsC_ok hK' _ _ _ ?_; (repeat simp (disch := omega) only [go_sem, redN, Nat.reduceAdd, Int.reduceToNat, Int.reducePow]); (repeat' refine And.intro ?_ ?_); (try any_goals (first | (refine hK _ _ ?_; clear hK' hQ hK Q' Kn) | (simp; done) | omega | (simp only [redL]; omega) | (simp; omega))))
  refine AOps.guard_call (f := f) (v := .bool (p (s.getD k 0))) rfl rfl rfl rfl rfl (fun _ => (by simp only [go_sem] <;> rfl)) (fun h => by first | (simp [go_sem]; done) | simpa [go_sem] using h) hb (fun hg => by simp only [go_sem]; exact hf _ _) ?_
  (refine AOpsC_ok hK' _ _ _ ?_; (repeat simp (disch := omega) only [go_sem, redN, Nat.reduceAdd, Int.reduceToNat, Int.reducePow]); (repeat' refine And.intro ?_ ?_); (try any_goals (first | (refine hK _ _ ?_; clear hK' hQ hK Q' Kn) | (simp; done) | omega | (simp only [redL]; omega) | (simp; omega))))
  (repeat' (first | refine AW.seq ?_ | refine AW.scope ?_ | refine AW.label ?_ | refine AW.block ?_ | refine AW.skip ?_ | refine AW.exit ?_ | refine AW.ret ?_ | (refine AW.regionC fun Q' Kn hQ hK hK' => ?_; (repeat simp (disch := omega) only [go_sem, redN, Nat.reduceAdd, Int.reduceToNat, Int.reducePow]); (repeat' refine And.intro ?_ ?_); (try any_goals (first | (refine hK _ _ ?_; clear hK' hQ hK Q' Kn) | (simp; done) | omega | (simp only [redL]; omega) | (simp; omega)))) | (refine AW.cond (by simp (disch := omega) only [go_sem, redN, Nat.reduceAdd, Int.reduceToNat, Int.reducePow]; rfl) (fun hb => ?_) (fun hb => ?_) <;> (try simp only [redB] at hb))))
  · have hp := twn_at p s k hk (by omega)
    rw [hb.2] at hp
    have : k < twn p s := by simpa using hp.symm
    refine ⟨k + 1, by omega, by omega, ?_, rfl, rfl⟩
    (repeat (first | exact Weak.nil | refine Weak.junk _ ?_ | refine Weak.same _ ?_ | refine Weak.eqv (by (congr 1; first | omega | (simp; done) | exact w_i64 (by omega) (by omega))) ?_))
  · have hk2 : k = twn p s := by
      rcases Nat.lt_or_ge k s.length with q | q
      · have hp := twn_at p s k hk q
        rcases hb with h | h
        · omega
        · rw [h] at hp
          have : ¬ k < twn p s := by simpa using hp.symm
          omega
      · omega
    subst hk2
    refine AOp.loadCell rfl (by simp only [go_sem] <;> rfl) (by simp [go_sem]) (hst) rfl (by simp) (by simp) ?_
    (refine AOpsC_ok hK' _ _ _ ?_; (repeat simp (disch := omega) only [go_sem, redN, Nat.reduceAdd, Int.reduceToNat, Int.reducePow]); (repeat' refine And.intro ?_ ?_); (try any_goals (first | (refine hK _ _ ?_; clear hK' hQ hK Q' Kn) | (simp; done) | omega | (simp only [redL]; omega) | (simp; omega))))
    (repeat' (first | refine AW.seq ?_ | refine AW.scope ?_ | refine AW.label ?_ | refine AW.block ?_ | refine AW.skip ?_ | refine AW.exit ?_ | refine AW.ret ?_ | (refine AW.regionC fun Q' Kn hQ hK hK' => ?_; (repeat simp (disch := omega) only [go_sem, redN, Nat.reduceAdd, Int.reduceToNat, Int.reducePow]); (repeat' refine And.intro ?_ ?_); (try any_goals (first | (refine hK _ _ ?_; clear hK' hQ hK Q' Kn) | (simp; done) | omega | (simp only [redL]; omega) | (simp; omega)))) | (refine AW.cond (by simp (disch := omega) only [go_sem, redN, Nat.reduceAdd, Int.reduceToNat, Int.reducePow]; rfl) (fun hb => ?_) (fun hb => ?_) <;> (try simp only [redB] at hb))))
    refine AOp.loadCell rfl (by simp only [go_sem] <;> rfl) (by simp [go_sem]) (hst) rfl (by simp) (by simp) ?_
    (refine AOpsC_ok hK' _ _ _ ?_; (repeat simp (disch := omega) only [go_sem, redN, Nat.reduceAdd, Int.reduceToNat, Int.reducePow]); (repeat' refine And.intro ?_ ?_); (try any_goals (first | (refine hK _ _ ?_; clear hK' hQ hK Q' Kn) | (simp; done) | omega | (simp only [redL]; omega) | (simp; omega))))
    refine AOp.store (cs := [.str (s.drop (twn p s))]) rfl (by simp only [go_sem] <;> rfl) (by simp [go_sem]) (hst) (by first | (simp only [go_sem]; done) | (simp [go_sem]; done) | (simp [go_sem]; omega)) rfl rfl (by simp) (by simp) ?_
    (refine AOpsC_ok hK' _ _ _ ?_; (repeat simp (disch := omega) only [go_sem, redN, Nat.reduceAdd, Int.reduceToNat, Int.reducePow]); (repeat' refine And.intro ?_ ?_); (try any_goals (first | (refine hK _ _ ?_; clear hK' hQ hK Q' Kn) | (simp; done) | omega | (simp only [redL]; omega) | (simp; omega))))
    (repeat' (first | refine AW.seq ?_ | refine AW.scope ?_ | refine AW.label ?_ | refine AW.block ?_ | refine AW.skip ?_ | refine AW.exit ?_ | refine AW.ret ?_ | (refine AW.regionC fun Q' Kn hQ hK hK' => ?_; (repeat simp (disch := omega) only [go_sem, redN, Nat.reduceAdd, Int.reduceToNat, Int.reducePow]); (repeat' refine And.intro ?_ ?_); (try any_goals (first | (refine hK _ _ ?_; clear hK' hQ hK Q' Kn) | (simp; done) | omega | (simp only [redL]; omega) | (simp; omega)))) | (refine AW.cond (by simp (disch := omega) only [go_sem, redN, Nat.reduceAdd, Int.reduceToNat, Int.reducePow]; rfl) (fun hb => ?_) (fun hb => ?_) <;> (try simp only [redB] at hb))))
    (refine ⟨_, _, rfl, by simp, ?_⟩; simp only [aTup, AA.get, List.getD_cons_zero, List.getD_cons_succ, true_and])
    simp [rd]

theorem c_nameByte (G : Nat → AV) : TellsB G 57 nameB := t_nameByte G
/-- What stands outside quotes, and inside. -/
def vn (c : UInt8) : Bool := !ctl c && decide (idx [34, 44, 59, 58] c < 0)
def vq (c : UInt8) : Bool := !ctl c && ((c.toNat : Int) != 34)
theorem c_vn (G : Nat → AV) : TellsB G 75 vn := by
  intro c st
  refine ACalls.of_body Tryd.func75 rfl ?_
  rw [Tryd.ntmps75]
  simp only [List.length_cons, List.length_nil, Nat.reduceAdd, Nat.reduceSub, List.replicate_succ, List.replicate_zero, List.cons_append, List.nil_append]
  (repeat' (first | refine AW.seq ?_ | refine AW.scope ?_ | refine AW.label ?_ | refine AW.block ?_ | refine AW.skip ?_ | refine AW.exit ?_ | refine AW.ret ?_ | (refine AW.regionC fun Q' Kn hQ hK hK' => ?_; (repeat simp (disch := omega) only [go_sem, redN, Nat.reduceAdd, Int.reduceToNat, Int.reducePow]); (repeat' refine And.intro ?_ ?_); (try any_goals (first | (refine hK _ _ ?_; clear hK' hQ hK Q' Kn) | (simp; done) | omega | (simp only [redL]; omega) | (simp; omega)))) | (refine AW.cond (by simp (disch := omega) only [go_sem, redN, Nat.reduceAdd, Int.reduceToNat, Int.reducePow]; rfl) (fun hb => ?_) (fun hb => ?_) <;> (try simp only [redB] at hb))))
  refine AOp.call rfl (by simp only [go_sem]; rfl) (by simp [go_sem]) rfl (ACalls.mono (by simp only [go_sem]; exact t_control G c _) ?_)
  rintro e st' ⟨rfl, rfl⟩
  (refine AOpsC_ok hK' _ _ _ ?_; (repeat simp (disch := omega) only [go_sem, redN, Nat.reduceAdd, Int.reduceToNat, Int.reducePow]); (repeat' refine And.intro ?_ ?_); (try any_goals (first | (refine hK _ _ ?_; clear hK' hQ hK Q' Kn) | (simp; done) | omega | (simp only [redL]; omega) | (simp; omega))))
  (repeat' (first | refine AW.seq ?_ | refine AW.scope ?_ | refine AW.label ?_ | refine AW.block ?_ | refine AW.skip ?_ | refine AW.exit ?_ | refine AW.ret ?_ | (refine AW.regionC fun Q' Kn hQ hK hK' => ?_; (repeat simp (disch := omega) only [go_sem, redN, Nat.reduceAdd, Int.reduceToNat, Int.reducePow]); (repeat' refine And.intro ?_ ?_); (try any_goals (first | (refine hK _ _ ?_; clear hK' hQ hK Q' Kn) | (simp; done) | omega | (simp only [redL]; omega) | (simp; omega)))) | (refine AW.cond (by simp (disch := omega) only [go_sem, redN, Nat.reduceAdd, Int.reduceToNat, Int.reducePow]; rfl) (fun hb => ?_) (fun hb => ?_) <;> (try simp only [redB] at hb))))
  refine AOps.guard_call (f := 61) (v := .int .i64 (idx [34, 44, 59, 58] c)) rfl rfl rfl rfl rfl (fun _ => (by simp only [go_sem] <;> rfl)) (fun h => by first | (simp [go_sem]; done) | simpa [go_sem] using h) rfl (fun hg => by simp only [go_sem]; exact b_IndexByte G _ c _) ?_
  (refine AOpsC_ok hK' _ _ _ ?_; (repeat simp (disch := omega) only [go_sem, redN, Nat.reduceAdd, Int.reduceToNat, Int.reducePow]); (repeat' refine And.intro ?_ ?_); (try any_goals (first | (refine hK _ _ ?_; clear hK' hQ hK Q' Kn) | (simp; done) | omega | (simp only [redL]; omega) | (simp; omega))))
  (repeat' (first | refine AW.seq ?_ | refine AW.scope ?_ | refine AW.label ?_ | refine AW.block ?_ | refine AW.skip ?_ | refine AW.exit ?_ | refine AW.ret ?_ | (refine AW.regionC fun Q' Kn hQ hK hK' => ?_; (repeat simp (disch := omega) only [go_sem, redN, Nat.reduceAdd, Int.reduceToNat, Int.reducePow]); (repeat' refine And.intro ?_ ?_); (try any_goals (first | (refine hK _ _ ?_; clear hK' hQ hK Q' Kn) | (simp; done) | omega | (simp only [redL]; omega) | (simp; omega)))) | (refine AW.cond (by simp (disch := omega) only [go_sem, redN, Nat.reduceAdd, Int.reduceToNat, Int.reducePow]; rfl) (fun hb => ?_) (fun hb => ?_) <;> (try simp only [redB] at hb))))
  (refine ⟨_, _, rfl, by simp, ?_⟩; simp only [aTup, AA.get, List.getD_cons_zero, List.getD_cons_succ, true_and])
  simp [vn]
theorem c_vq (G : Nat → AV) : TellsB G 76 vq := by
  intro c st
  refine ACalls.of_body Tryd.func76 rfl ?_
  rw [Tryd.ntmps76]
  simp only [List.length_cons, List.length_nil, Nat.reduceAdd, Nat.reduceSub, List.replicate_succ, List.replicate_zero, List.cons_append, List.nil_append]
  (repeat' (first | refine AW.seq ?_ | refine AW.scope ?_ | refine AW.label ?_ | refine AW.block ?_ | refine AW.skip ?_ | refine AW.exit ?_ | refine AW.ret ?_ | (refine AW.regionC fun Q' Kn hQ hK hK' => ?_; (repeat simp (disch := omega) only [go_sem, redN, Nat.reduceAdd, Int.reduceToNat, Int.reducePow]); (repeat' refine And.intro ?_ ?_); (try any_goals (first | (refine hK _ _ ?_; clear hK' hQ hK Q' Kn) | (simp; done) | omega | (simp only [redL]; omega) | (simp; omega)))) | (refine AW.cond (by simp (disch := omega) only [go_sem, redN, Nat.reduceAdd, Int.reduceToNat, Int.reducePow]; rfl) (fun hb => ?_) (fun hb => ?_) <;> (try simp only [redB] at hb))))
  refine AOp.call rfl (by simp only [go_sem]; rfl) (by simp [go_sem]) rfl (ACalls.mono (by simp only [go_sem]; exact t_control G c _) ?_)
  rintro e st' ⟨rfl, rfl⟩
  (refine AOpsC_ok hK' _ _ _ ?_; (repeat simp (disch := omega) only [go_sem, redN, Nat.reduceAdd, Int.reduceToNat, Int.reducePow]); (repeat' refine And.intro ?_ ?_); (try any_goals (first | (refine hK _ _ ?_; clear hK' hQ hK Q' Kn) | (simp; done) | omega | (simp only [redL]; omega) | (simp; omega))))
  (repeat' (first | refine AW.seq ?_ | refine AW.scope ?_ | refine AW.label ?_ | refine AW.block ?_ | refine AW.skip ?_ | refine AW.exit ?_ | refine AW.ret ?_ | (refine AW.regionC fun Q' Kn hQ hK hK' => ?_; (repeat simp (disch := omega) only [go_sem, redN, Nat.reduceAdd, Int.reduceToNat, Int.reducePow]); (repeat' refine And.intro ?_ ?_); (try any_goals (first | (refine hK _ _ ?_; clear hK' hQ hK Q' Kn) | (simp; done) | omega | (simp only [redL]; omega) | (simp; omega)))) | (refine AW.cond (by simp (disch := omega) only [go_sem, redN, Nat.reduceAdd, Int.reduceToNat, Int.reducePow]; rfl) (fun hb => ?_) (fun hb => ?_) <;> (try simp only [redB] at hb))))
  (refine ⟨_, _, rfl, by simp, ?_⟩; simp only [aTup, AA.get, List.getD_cons_zero, List.getD_cons_succ, true_and])
  simp [vq]

def up (c : UInt8) : UInt8 := if 97 ≤ c.toNat ∧ c.toNat ≤ 122 then UInt8.ofNat (c.toNat - 32) else c
def upAt (s : List UInt8) (i : Nat) : List UInt8 := (s.take i).map up ++ s.drop i
theorem upAt_length (s : List UInt8) (i : Nat) : (upAt s i).length = s.length := by simp [upAt]; omega
theorem upAt_get {s : List UInt8} {i : Nat} (h : i < s.length) : (upAt s i).getD i 0 = s.getD i 0 := by
  simp only [upAt, List.getD]
  rw [List.getElem?_append_right (by simp; omega)]
  simp only [List.length_map, List.length_take, List.getElem?_drop]
  congr 2; omega
theorem upAt_step {s : List UInt8} {i : Nat} (h : i < s.length) : (upAt s i).set i (up (s.getD i 0)) = upAt s (i + 1) := by
  have hd := drop_cons h
  have ht : s.take (i + 1) = s.take i ++ [s.getD i 0] := by
    rw [List.take_add_one]; simp [List.getD, List.getElem?_eq_getElem h]
  simp only [upAt, hd, ht, List.map_append, List.map_cons, List.map_nil]
  rw [List.set_append_right _ _ (by simp; omega)]
  simp only [List.length_map, List.length_take, show i - min i s.length = 0 from by omega, List.set_cons_zero, List.append_assoc, List.cons_append, List.nil_append]
end Go.Almanac

/- Lines: great letters. -/
namespace Go.Almanac
open Go.RowKit Go.Proofs Go.Abs

set_option linter.unusedSimpArgs false
set_option linter.unusedVariables false
set_option linter.unusedSectionVars false
set_option maxRecDepth 10000

theorem t_great (G : Nat → AV) (s : List UInt8) (hs : s.length ≤ 4611686018427387904) (st : St) : ACalls (Ev G) 58 [.str s] st (fun e st' => st' = st ∧ e = .ret (.str (s.map up))) := by
  refine ACalls.thaw (R' := fun e st' => st.sub st' ∧ e = .ret (.str (s.map up))) ?_ (fun x st1 h => ⟨1, st, h.1, rfl, by rw [h.2]; rfl⟩)
  refine ACalls.of_body Tryd.func58 rfl ?_
  rw [Tryd.ntmps58]
  simp only [List.length_cons, List.length_nil, Nat.reduceAdd, Nat.reduceSub, List.replicate_succ, List.replicate_zero, List.cons_append, List.nil_append]
  (repeat' (first | refine AW.seq ?_ | refine AW.scope ?_ | refine AW.label ?_ | refine AW.block ?_ | refine AW.skip ?_ | refine AW.exit ?_ | refine AW.ret ?_ | (refine AW.regionC fun Q' Kn hQ hK hK' => ?_; (repeat simp (disch := omega) only [go_sem, redN, Nat.reduceAdd, Int.reduceToNat, Int.reducePow]); (repeat' refine And.intro ?_ ?_); (try any_goals (first | (refine hK _ _ ?_; clear hK' hQ hK Q' Kn) | (simp; done) | omega | (simp only [redL]; omega) | (simp; omega)))) | (refine AW.cond (by simp (disch := omega) only [go_sem, redN, Nat.reduceAdd, Int.reduceToNat, Int.reducePow]; rfl) (fun hb => ?_) (fun hb => ?_) <;> (try simp only [redB] at hb))))
  refine AOp.toBytes (s := s) (e := 5) (by rfl) (by simp [go_sem]) (by rfl) (by rfl) (by rfl) (by simp only [go_sem]) (by simp only [maxLen]; omega) fun ib hib => ?_
  (refine AOpsC_ok hK' _ _ _ ?_; (repeat simp (disch := omega) only [go_sem, redN, Nat.reduceAdd, Int.reduceToNat, Int.reducePow]); (repeat' refine And.intro ?_ ?_); (try any_goals (first | (refine hK _ _ ?_; clear hK' hQ hK Q' Kn) | (simp; done) | omega | (simp only [redL]; omega) | (simp; omega))))
  (repeat' (first | refine AW.seq ?_ | refine AW.scope ?_ | refine AW.label ?_ | refine AW.block ?_ | refine AW.skip ?_ | refine AW.exit ?_ | refine AW.ret ?_ | (refine AW.regionC fun Q' Kn hQ hK hK' => ?_; (repeat simp (disch := omega) only [go_sem, redN, Nat.reduceAdd, Int.reduceToNat, Int.reducePow]); (repeat' refine And.intro ?_ ?_); (try any_goals (first | (refine hK _ _ ?_; clear hK' hQ hK Q' Kn) | (simp; done) | omega | (simp only [redL]; omega) | (simp; omega)))) | (refine AW.cond (by simp (disch := omega) only [go_sem, redN, Nat.reduceAdd, Int.reduceToNat, Int.reducePow]; rfl) (fun hb => ?_) (fun hb => ?_) <;> (try simp only [redB] at hb))))
  refine AW.loopF (fun x : Nat => [.junk, .junk, .junk, .arr ib 0 1 0 s.length, .junk, .junk, .junk, .junk, .arr ib 0 1 0 s.length, .int .i64 s.length, .int .i64 x, .junk, .junk, .junk, .junk, .junk, .junk, .junk, .junk, .junk, .junk, .junk, .junk, .junk, .junk, .junk, .junk, .junk, .junk, .junk]) (fun x => st.set ib (.cells 5 0 1 (bytesE (upAt s x))))
    (fun x => x ≤ s.length) (fun x => s.length - x) 0 ?_ (by simp [upAt]) ?_ ?_
  · (repeat (first | exact Weak.nil | refine Weak.junk _ ?_ | refine Weak.same _ ?_ | refine Weak.eqv (by (congr 1; first | omega | (simp; done) | exact w_i64 (by omega) (by omega))) ?_))
  · simp
  intro i h1
  dsimp only at h1 ⊢
  (repeat' (first | refine AW.seq ?_ | refine AW.scope ?_ | refine AW.label ?_ | refine AW.block ?_ | refine AW.skip ?_ | refine AW.exit ?_ | refine AW.ret ?_ | (refine AW.regionC fun Q' Kn hQ hK hK' => ?_; (repeat simp (disch := omega) only [go_sem, redN, Nat.reduceAdd, Int.reduceToNat, Int.reducePow]); (repeat' refine And.intro ?_ ?_); (try any_goals (first | (refine hK _ _ ?_; clear hK' hQ hK Q' Kn) | (simp; done) | omega | (simp only [redL]; omega) | (simp; omega)))) | (refine AW.cond (by simp (disch := omega) only [go_sem, redN, Nat.reduceAdd, Int.reduceToNat, Int.reducePow]; rfl) (fun hb => ?_) (fun hb => ?_) <;> (try simp only [redB] at hb))))
  · refine AOp.loadCell rfl (by simp only [go_sem] <;> rfl) (by simp [go_sem]) (St.set_same _ _ _) rfl (by simp [upAt_length]; omega) (by decide) ?_
    have hb8 : (s.getD i 0).toNat < 256 := UInt8.toNat_lt _
    have hi : i < s.length := by omega
    have hg : ((bytesE (upAt s i)).getD (0 + i) []).getD 0 AV.junk = .int .u8 ((s.getD i 0).toNat : Int) := by
      rw [Nat.zero_add, ← upAt_get hi]
      have : i < (upAt s i).length := by rw [upAt_length]; omega
      simp [bytesE, List.getD, List.getElem?_eq_getElem this]
    rw [hg]
    (refine AOpsC_ok hK' _ _ _ ?_; (repeat simp (disch := omega) only [go_sem, redN, Nat.reduceAdd, Int.reduceToNat, Int.reducePow]); (repeat' refine And.intro ?_ ?_); (try any_goals (first | (refine hK _ _ ?_; clear hK' hQ hK Q' Kn) | (simp; done) | omega | (simp only [redL]; omega) | (simp; omega))))
    (repeat' (first | refine AW.seq ?_ | refine AW.scope ?_ | refine AW.label ?_ | refine AW.block ?_ | refine AW.skip ?_ | refine AW.exit ?_ | refine AW.ret ?_ | (refine AW.regionC fun Q' Kn hQ hK hK' => ?_; (repeat simp (disch := omega) only [go_sem, redN, Nat.reduceAdd, Int.reduceToNat, Int.reducePow]); (repeat' refine And.intro ?_ ?_); (try any_goals (first | (refine hK _ _ ?_; clear hK' hQ hK Q' Kn) | (simp; done) | omega | (simp only [redL]; omega) | (simp; omega)))) | (refine AW.cond (by simp (disch := omega) only [go_sem, redN, Nat.reduceAdd, Int.reduceToNat, Int.reducePow]; rfl) (fun hb => ?_) (fun hb => ?_) <;> (try simp only [redB] at hb))))
    · have hl : (bytesE (upAt s i)).getD (0 + i) [] = [.int .u8 ((s.getD i 0).toNat : Int)] := by
        rw [Nat.zero_add, ← upAt_get hi]
        have : i < (upAt s i).length := by rw [upAt_length]; omega
        simp [bytesE, List.getD, List.getElem?_eq_getElem this]
      have hlow : ((s.getD i 0).toNat : Int) - 97 + 65 = (((up (s.getD i 0)).toNat : Nat) : Int) := by rw [up, if_pos (by omega), UInt8.toNat_ofNat']; omega
      refine AOp.store (t0 := 5) (cs := [.int .u8 ((up (s.getD i 0)).toNat : Int)]) (es := bytesE (upAt s i)) (sz := 1) rfl (by simp only [go_sem] <;> rfl) (by simp [go_sem]) (St.set_same _ _ _) ?_ rfl rfl (by simp [upAt_length]; omega) (by simp) ?_
      · simp only [go_sem, aCells]; rw [hlow]
      (refine AOpsC_ok hK' _ _ _ ?_; (repeat simp (disch := omega) only [go_sem, redN, Nat.reduceAdd, Int.reduceToNat, Int.reducePow]); (repeat' refine And.intro ?_ ?_); (try any_goals (first | (refine hK _ _ ?_; clear hK' hQ hK Q' Kn) | (simp; done) | omega | (simp only [redL]; omega) | (simp; omega))))
      (repeat' (first | refine AW.seq ?_ | refine AW.scope ?_ | refine AW.label ?_ | refine AW.block ?_ | refine AW.skip ?_ | refine AW.exit ?_ | refine AW.ret ?_ | (refine AW.regionC fun Q' Kn hQ hK hK' => ?_; (repeat simp (disch := omega) only [go_sem, redN, Nat.reduceAdd, Int.reduceToNat, Int.reducePow]); (repeat' refine And.intro ?_ ?_); (try any_goals (first | (refine hK _ _ ?_; clear hK' hQ hK Q' Kn) | (simp; done) | omega | (simp only [redL]; omega) | (simp; omega)))) | (refine AW.cond (by simp (disch := omega) only [go_sem, redN, Nat.reduceAdd, Int.reduceToNat, Int.reducePow]; rfl) (fun hb => ?_) (fun hb => ?_) <;> (try simp only [redB] at hb))))
      refine ⟨i + 1, by omega, by omega, ?_, rfl, ?_⟩
      · (repeat (first | exact Weak.nil | refine Weak.junk _ ?_ | refine Weak.same _ ?_ | refine Weak.eqv (by (congr 1; first | omega | (simp; done) | exact w_i64 (by omega) (by omega))) ?_))
      · rw [Nat.zero_add] at hl
        simp only [St.set_set, hl, splice, List.take_zero, List.nil_append, List.cons_append, List.length_cons, List.length_nil, Nat.zero_add, List.drop_succ_cons, List.drop_nil, bytesE_set, upAt_step hi]
    · have hlow : up (s.getD i 0) = s.getD i 0 := by rw [up, if_neg (by omega)]
      refine ⟨i + 1, by omega, by omega, ?_, rfl, ?_⟩
      · (repeat (first | exact Weak.nil | refine Weak.junk _ ?_ | refine Weak.same _ ?_ | refine Weak.eqv (by (congr 1; first | omega | (simp; done) | exact w_i64 (by omega) (by omega))) ?_))
      · have h2 : (upAt s i).set i (s.getD i 0) = upAt s (i + 1) := by rw [← upAt_step hi, hlow]
        have h3 : (upAt s i).set i (s.getD i 0) = upAt s i := by
          have : i < (upAt s i).length := by rw [upAt_length]; omega
          rw [← upAt_get hi]
          simp [List.getD, List.getElem?_eq_getElem this]
        rw [← h2, h3]
  · have hi : i = s.length := by omega
    subst hi
    have hl : upAt s s.length = s.map up := by simp [upAt]
    rw [hl]
    refine AOp.toStr (e := 5) (s := s.map up) (by rfl) (by simp [go_sem]) (by rfl) (by rfl) (by rfl) (.inr ⟨?_, by simp [go_sem, aSz]⟩) ?_
    · simp [go_sem, aElems, St.set]
      exact List.take_of_length_le (by simp)
    (refine AOpsC_ok hK' _ _ _ ?_; (repeat simp (disch := omega) only [go_sem, redN, Nat.reduceAdd, Int.reduceToNat, Int.reducePow]); (repeat' refine And.intro ?_ ?_); (try any_goals (first | (refine hK _ _ ?_; clear hK' hQ hK Q' Kn) | (simp; done) | omega | (simp only [redL]; omega) | (simp; omega))))
    (repeat' (first | refine AW.seq ?_ | refine AW.scope ?_ | refine AW.label ?_ | refine AW.block ?_ | refine AW.skip ?_ | refine AW.exit ?_ | refine AW.ret ?_ | (refine AW.regionC fun Q' Kn hQ hK hK' => ?_; (repeat simp (disch := omega) only [go_sem, redN, Nat.reduceAdd, Int.reduceToNat, Int.reducePow]); (repeat' refine And.intro ?_ ?_); (try any_goals (first | (refine hK _ _ ?_; clear hK' hQ hK Q' Kn) | (simp; done) | omega | (simp only [redL]; omega) | (simp; omega)))) | (refine AW.cond (by simp (disch := omega) only [go_sem, redN, Nat.reduceAdd, Int.reduceToNat, Int.reducePow]; rfl) (fun hb => ?_) (fun hb => ?_) <;> (try simp only [redB] at hb))))
    (refine ⟨_, _, rfl, by simp, ?_⟩; simp only [aTup, AA.get, List.getD_cons_zero, List.getD_cons_succ, true_and])
    exact ⟨St.sub_set (St.sub_refl st) hib _, trivial⟩

/-- A name in front. -/
def pName (s : List UInt8) : Except Int (List UInt8 × List UInt8) :=
  if 64 < twn nameB s then .error 12
  else if twn nameB s = 0 then .error (if s = [] then 11 else 10)
  else .ok ((s.take (twn nameB s)).map up, s.drop (twn nameB s))
def nmR : Except Int (List UInt8 × List UInt8) → List UInt8
  | .ok (n, _) => n
  | .error _ => []
theorem t_name (G : Nat → AV) (b : Nat) (s : List UInt8) (hs : s.length ≤ 4611686018427387904) (st : St) (hst : st b = some (rd s 0)) :
    ACalls (Ev G) 22 [.ptr b 0 0 0] st (fun x st' => match pName s with
      | .ok (n, r) => st' = st.set b (rd r 0) ∧ x = .ret (.str n)
      | .error k => k ≠ 0 ∧ ∃ s' n, st' = st.set b (rd s' k) ∧ x = .ret (.str n)) := by
  have hle := twn_le nameB s
  have htl : (s.take (twn nameB s)).length = twn nameB s := by simp; omega
  refine ACalls.of_body Tryd.func22 rfl ?_
  rw [Tryd.ntmps22]
  simp only [List.length_cons, List.length_nil, Nat.reduceAdd, Nat.reduceSub, List.replicate_succ, List.replicate_zero, List.cons_append, List.nil_append]
  (repeat' (first | refine AW.seq ?_ | refine AW.scope ?_ | refine AW.label ?_ | refine AW.block ?_ | refine AW.skip ?_ | refine AW.exit ?_ | refine AW.ret ?_ | (refine AW.regionC fun Q' Kn hQ hK hK' => ?_; (repeat simp (disch := omega) only [go_sem, redN, Nat.reduceAdd, Int.reduceToNat, Int.reducePow]); (repeat' refine And.intro ?_ ?_); (try any_goals (first | (refine hK _ _ ?_; clear hK' hQ hK Q' Kn) | (simp; done) | omega | (simp only [redL]; omega) | (simp; omega)))) | (refine AW.cond (by simp (disch := omega) only [go_sem, redN, Nat.reduceAdd, Int.reduceToNat, Int.reducePow]; rfl) (fun hb => ?_) (fun hb => ?_) <;> (try simp only [redB] at hb))))
  refine AOp.call rfl (by simp only [go_sem]; rfl) (by simp [go_sem]) rfl (ACalls.mono (by simp only [go_sem]; exact t_ok G b s 0 _ hst) ?_)
  rintro e st' ⟨rfl, rfl⟩
  (refine AOpsC_ok hK' _ _ _ ?_; (repeat simp (disch := omega) only [go_sem, redN, Nat.reduceAdd, Int.reduceToNat, Int.reducePow]); (repeat' refine And.intro ?_ ?_); (try any_goals (first | (refine hK _ _ ?_; clear hK' hQ hK Q' Kn) | (simp; done) | omega | (simp only [redL]; omega) | (simp; omega))))
  (repeat' (first | refine AW.seq ?_ | refine AW.scope ?_ | refine AW.label ?_ | refine AW.block ?_ | refine AW.skip ?_ | refine AW.exit ?_ | refine AW.ret ?_ | (refine AW.regionC fun Q' Kn hQ hK hK' => ?_; (repeat simp (disch := omega) only [go_sem, redN, Nat.reduceAdd, Int.reduceToNat, Int.reducePow]); (repeat' refine And.intro ?_ ?_); (try any_goals (first | (refine hK _ _ ?_; clear hK' hQ hK Q' Kn) | (simp; done) | omega | (simp only [redL]; omega) | (simp; omega)))) | (refine AW.cond (by simp (disch := omega) only [go_sem, redN, Nat.reduceAdd, Int.reduceToNat, Int.reducePow]; rfl) (fun hb => ?_) (fun hb => ?_) <;> (try simp only [redB] at hb))))
  · simp at hb
  refine AOp.call rfl (by simp only [go_sem]; rfl) (by simp [go_sem]) rfl (ACalls.mono (by simp only [go_sem]; exact t_take G b s hs 0 _ nameB rfl (c_nameByte G) _ hst) ?_)
  rintro e st' ⟨rfl, rfl⟩
  (refine AOpsC_ok hK' _ _ _ ?_; (repeat simp (disch := omega) only [go_sem, redN, Nat.reduceAdd, Int.reduceToNat, Int.reducePow]); (repeat' refine And.intro ?_ ?_); (try any_goals (first | (refine hK _ _ ?_; clear hK' hQ hK Q' Kn) | (simp; done) | omega | (simp only [redL]; omega) | (simp; omega))))
  (repeat' (first | refine AW.seq ?_ | refine AW.scope ?_ | refine AW.label ?_ | refine AW.block ?_ | refine AW.skip ?_ | refine AW.exit ?_ | refine AW.ret ?_ | (refine AW.regionC fun Q' Kn hQ hK hK' => ?_; (repeat simp (disch := omega) only [go_sem, redN, Nat.reduceAdd, Int.reduceToNat, Int.reducePow]); (repeat' refine And.intro ?_ ?_); (try any_goals (first | (refine hK _ _ ?_; clear hK' hQ hK Q' Kn) | (simp; done) | omega | (simp only [redL]; omega) | (simp; omega)))) | (refine AW.cond (by simp (disch := omega) only [go_sem, redN, Nat.reduceAdd, Int.reduceToNat, Int.reducePow]; rfl) (fun hb => ?_) (fun hb => ?_) <;> (try simp only [redB] at hb))))
  all_goals rw [htl] at hb
  all_goals
    have hs1 := St.set_same st' b (rd (s.drop (twn nameB s)) 0)
  · refine AOp.call rfl (by simp only [go_sem]; rfl) (by simp [go_sem]) rfl (ACalls.mono (by simp only [go_sem]; exact t_fail G b (s.drop (twn nameB s)) 0 12 _ hs1) ?_)
    rintro e st' ⟨rfl, rfl⟩
    (refine AOpsC_ok hK' _ _ _ ?_; (repeat simp (disch := omega) only [go_sem, redN, Nat.reduceAdd, Int.reduceToNat, Int.reducePow]); (repeat' refine And.intro ?_ ?_); (try any_goals (first | (refine hK _ _ ?_; clear hK' hQ hK Q' Kn) | (simp; done) | omega | (simp only [redL]; omega) | (simp; omega))))
    (repeat' (first | refine AW.seq ?_ | refine AW.scope ?_ | refine AW.label ?_ | refine AW.block ?_ | refine AW.skip ?_ | refine AW.exit ?_ | refine AW.ret ?_ | (refine AW.regionC fun Q' Kn hQ hK hK' => ?_; (repeat simp (disch := omega) only [go_sem, redN, Nat.reduceAdd, Int.reduceToNat, Int.reducePow]); (repeat' refine And.intro ?_ ?_); (try any_goals (first | (refine hK _ _ ?_; clear hK' hQ hK Q' Kn) | (simp; done) | omega | (simp only [redL]; omega) | (simp; omega)))) | (refine AW.cond (by simp (disch := omega) only [go_sem, redN, Nat.reduceAdd, Int.reduceToNat, Int.reducePow]; rfl) (fun hb => ?_) (fun hb => ?_) <;> (try simp only [redB] at hb))))
    refine AOp.call rfl (by simp only [go_sem]; rfl) (by simp [go_sem]) rfl (ACalls.mono (by simp only [go_sem]; exact t_great G _ (by omega) _) ?_)
    rintro e st' ⟨rfl, rfl⟩
    (refine AOpsC_ok hK' _ _ _ ?_; (repeat simp (disch := omega) only [go_sem, redN, Nat.reduceAdd, Int.reduceToNat, Int.reducePow]); (repeat' refine And.intro ?_ ?_); (try any_goals (first | (refine hK _ _ ?_; clear hK' hQ hK Q' Kn) | (simp; done) | omega | (simp only [redL]; omega) | (simp; omega))))
    (repeat' (first | refine AW.seq ?_ | refine AW.scope ?_ | refine AW.label ?_ | refine AW.block ?_ | refine AW.skip ?_ | refine AW.exit ?_ | refine AW.ret ?_ | (refine AW.regionC fun Q' Kn hQ hK hK' => ?_; (repeat simp (disch := omega) only [go_sem, redN, Nat.reduceAdd, Int.reduceToNat, Int.reducePow]); (repeat' refine And.intro ?_ ?_); (try any_goals (first | (refine hK _ _ ?_; clear hK' hQ hK Q' Kn) | (simp; done) | omega | (simp only [redL]; omega) | (simp; omega)))) | (refine AW.cond (by simp (disch := omega) only [go_sem, redN, Nat.reduceAdd, Int.reduceToNat, Int.reducePow]; rfl) (fun hb => ?_) (fun hb => ?_) <;> (try simp only [redB] at hb))))
    (refine ⟨_, _, rfl, by simp, ?_⟩; simp only [aTup, AA.get, List.getD_cons_zero, List.getD_cons_succ, true_and])
    rw [pName, if_pos (by omega)]
    exact ⟨by decide, s.drop (twn nameB s), _, by simp, rfl⟩
  refine AOps.guard_loadCell rfl rfl rfl rfl rfl (fun _ => (by simp only [go_sem] <;> rfl)) (fun h => by first | (simp [go_sem]; done) | simpa [go_sem] using h) (hs1) rfl (fun _ => by simp) (by simp) ?_
  (refine AOpsC_ok hK' _ _ _ ?_; (repeat simp (disch := omega) only [go_sem, redN, Nat.reduceAdd, Int.reduceToNat, Int.reducePow]); (repeat' refine And.intro ?_ ?_); (try any_goals (first | (refine hK _ _ ?_; clear hK' hQ hK Q' Kn) | (simp; done) | omega | (simp only [redL]; omega) | (simp; omega))))
  (repeat' (first | refine AW.seq ?_ | refine AW.scope ?_ | refine AW.label ?_ | refine AW.block ?_ | refine AW.skip ?_ | refine AW.exit ?_ | refine AW.ret ?_ | (refine AW.regionC fun Q' Kn hQ hK hK' => ?_; (repeat simp (disch := omega) only [go_sem, redN, Nat.reduceAdd, Int.reduceToNat, Int.reducePow]); (repeat' refine And.intro ?_ ?_); (try any_goals (first | (refine hK _ _ ?_; clear hK' hQ hK Q' Kn) | (simp; done) | omega | (simp only [redL]; omega) | (simp; omega)))) | (refine AW.cond (by simp (disch := omega) only [go_sem, redN, Nat.reduceAdd, Int.reduceToNat, Int.reducePow]; rfl) (fun hb => ?_) (fun hb => ?_) <;> (try simp only [redB] at hb))))
  · obtain ⟨h1, h2⟩ := hb
    refine AOp.call rfl (by simp only [go_sem]; rfl) (by simp [go_sem]) rfl (ACalls.mono (by simp only [go_sem]; exact t_fail G b (s.drop (twn nameB s)) 0 11 _ hs1) ?_)
    rintro e st' ⟨rfl, rfl⟩
    (refine AOpsC_ok hK' _ _ _ ?_; (repeat simp (disch := omega) only [go_sem, redN, Nat.reduceAdd, Int.reduceToNat, Int.reducePow]); (repeat' refine And.intro ?_ ?_); (try any_goals (first | (refine hK _ _ ?_; clear hK' hQ hK Q' Kn) | (simp; done) | omega | (simp only [redL]; omega) | (simp; omega))))
    (repeat' (first | refine AW.seq ?_ | refine AW.scope ?_ | refine AW.label ?_ | refine AW.block ?_ | refine AW.skip ?_ | refine AW.exit ?_ | refine AW.ret ?_ | (refine AW.regionC fun Q' Kn hQ hK hK' => ?_; (repeat simp (disch := omega) only [go_sem, redN, Nat.reduceAdd, Int.reduceToNat, Int.reducePow]); (repeat' refine And.intro ?_ ?_); (try any_goals (first | (refine hK _ _ ?_; clear hK' hQ hK Q' Kn) | (simp; done) | omega | (simp only [redL]; omega) | (simp; omega)))) | (refine AW.cond (by simp (disch := omega) only [go_sem, redN, Nat.reduceAdd, Int.reduceToNat, Int.reducePow]; rfl) (fun hb => ?_) (fun hb => ?_) <;> (try simp only [redB] at hb))))
    refine AOp.call rfl (by simp only [go_sem]; rfl) (by simp [go_sem]) rfl (ACalls.mono (by simp only [go_sem]; exact t_great G _ (by omega) _) ?_)
    rintro e st' ⟨rfl, rfl⟩
    (refine AOpsC_ok hK' _ _ _ ?_; (repeat simp (disch := omega) only [go_sem, redN, Nat.reduceAdd, Int.reduceToNat, Int.reducePow]); (repeat' refine And.intro ?_ ?_); (try any_goals (first | (refine hK _ _ ?_; clear hK' hQ hK Q' Kn) | (simp; done) | omega | (simp only [redL]; omega) | (simp; omega))))
    (repeat' (first | refine AW.seq ?_ | refine AW.scope ?_ | refine AW.label ?_ | refine AW.block ?_ | refine AW.skip ?_ | refine AW.exit ?_ | refine AW.ret ?_ | (refine AW.regionC fun Q' Kn hQ hK hK' => ?_; (repeat simp (disch := omega) only [go_sem, redN, Nat.reduceAdd, Int.reduceToNat, Int.reducePow]); (repeat' refine And.intro ?_ ?_); (try any_goals (first | (refine hK _ _ ?_; clear hK' hQ hK Q' Kn) | (simp; done) | omega | (simp only [redL]; omega) | (simp; omega)))) | (refine AW.cond (by simp (disch := omega) only [go_sem, redN, Nat.reduceAdd, Int.reduceToNat, Int.reducePow]; rfl) (fun hb => ?_) (fun hb => ?_) <;> (try simp only [redB] at hb))))
    (refine ⟨_, _, rfl, by simp, ?_⟩; simp only [aTup, AA.get, List.getD_cons_zero, List.getD_cons_succ, true_and])
    have h0 : twn nameB s = 0 := by rw [← htl, h1]; rfl
    rw [h0] at h2
    rw [pName, if_neg (by omega), if_pos h0, if_pos (by simpa using h2)]
    exact ⟨by decide, s.drop (twn nameB s), _, by simp, rfl⟩
  · refine AOp.call rfl (by simp only [go_sem]; rfl) (by simp [go_sem]) rfl (ACalls.mono (by simp only [go_sem]; exact t_fail G b (s.drop (twn nameB s)) 0 10 _ hs1) ?_)
    rintro e st' ⟨rfl, rfl⟩
    (refine AOpsC_ok hK' _ _ _ ?_; (repeat simp (disch := omega) only [go_sem, redN, Nat.reduceAdd, Int.reduceToNat, Int.reducePow]); (repeat' refine And.intro ?_ ?_); (try any_goals (first | (refine hK _ _ ?_; clear hK' hQ hK Q' Kn) | (simp; done) | omega | (simp only [redL]; omega) | (simp; omega))))
    (repeat' (first | refine AW.seq ?_ | refine AW.scope ?_ | refine AW.label ?_ | refine AW.block ?_ | refine AW.skip ?_ | refine AW.exit ?_ | refine AW.ret ?_ | (refine AW.regionC fun Q' Kn hQ hK hK' => ?_; (repeat simp (disch := omega) only [go_sem, redN, Nat.reduceAdd, Int.reduceToNat, Int.reducePow]); (repeat' refine And.intro ?_ ?_); (try any_goals (first | (refine hK _ _ ?_; clear hK' hQ hK Q' Kn) | (simp; done) | omega | (simp only [redL]; omega) | (simp; omega)))) | (refine AW.cond (by simp (disch := omega) only [go_sem, redN, Nat.reduceAdd, Int.reduceToNat, Int.reducePow]; rfl) (fun hb => ?_) (fun hb => ?_) <;> (try simp only [redB] at hb))))
    refine AOp.call rfl (by simp only [go_sem]; rfl) (by simp [go_sem]) rfl (ACalls.mono (by simp only [go_sem]; exact t_great G _ (by omega) _) ?_)
    rintro e st' ⟨rfl, rfl⟩
    (refine AOpsC_ok hK' _ _ _ ?_; (repeat simp (disch := omega) only [go_sem, redN, Nat.reduceAdd, Int.reduceToNat, Int.reducePow]); (repeat' refine And.intro ?_ ?_); (try any_goals (first | (refine hK _ _ ?_; clear hK' hQ hK Q' Kn) | (simp; done) | omega | (simp only [redL]; omega) | (simp; omega))))
    (repeat' (first | refine AW.seq ?_ | refine AW.scope ?_ | refine AW.label ?_ | refine AW.block ?_ | refine AW.skip ?_ | refine AW.exit ?_ | refine AW.ret ?_ | (refine AW.regionC fun Q' Kn hQ hK hK' => ?_; (repeat simp (disch := omega) only [go_sem, redN, Nat.reduceAdd, Int.reduceToNat, Int.reducePow]); (repeat' refine And.intro ?_ ?_); (try any_goals (first | (refine hK _ _ ?_; clear hK' hQ hK Q' Kn) | (simp; done) | omega | (simp only [redL]; omega) | (simp; omega)))) | (refine AW.cond (by simp (disch := omega) only [go_sem, redN, Nat.reduceAdd, Int.reduceToNat, Int.reducePow]; rfl) (fun hb => ?_) (fun hb => ?_) <;> (try simp only [redB] at hb))))
    (refine ⟨_, _, rfl, by simp, ?_⟩; simp only [aTup, AA.get, List.getD_cons_zero, List.getD_cons_succ, true_and])
    have h0 : twn nameB s = 0 := by rw [← htl, ‹List.take (twn nameB s) s = []›]; rfl
    have h3 : s ≠ [] := by
      rcases ‹_ ∨ _› with q | q
      · exact absurd ‹List.take (twn nameB s) s = []› q
      · rw [h0] at q; simpa using q
    rw [pName, if_neg (by omega), if_pos h0, if_neg h3]
    exact ⟨by decide, s.drop (twn nameB s), _, by simp, rfl⟩
  · refine AOp.call rfl (by simp only [go_sem]; rfl) (by simp [go_sem]) rfl (ACalls.mono (by simp only [go_sem]; exact t_great G _ (by omega) _) ?_)
    rintro e st' ⟨rfl, rfl⟩
    (refine AOpsC_ok hK' _ _ _ ?_; (repeat simp (disch := omega) only [go_sem, redN, Nat.reduceAdd, Int.reduceToNat, Int.reducePow]); (repeat' refine And.intro ?_ ?_); (try any_goals (first | (refine hK _ _ ?_; clear hK' hQ hK Q' Kn) | (simp; done) | omega | (simp only [redL]; omega) | (simp; omega))))
    (repeat' (first | refine AW.seq ?_ | refine AW.scope ?_ | refine AW.label ?_ | refine AW.block ?_ | refine AW.skip ?_ | refine AW.exit ?_ | refine AW.ret ?_ | (refine AW.regionC fun Q' Kn hQ hK hK' => ?_; (repeat simp (disch := omega) only [go_sem, redN, Nat.reduceAdd, Int.reduceToNat, Int.reducePow]); (repeat' refine And.intro ?_ ?_); (try any_goals (first | (refine hK _ _ ?_; clear hK' hQ hK Q' Kn) | (simp; done) | omega | (simp only [redL]; omega) | (simp; omega)))) | (refine AW.cond (by simp (disch := omega) only [go_sem, redN, Nat.reduceAdd, Int.reduceToNat, Int.reducePow]; rfl) (fun hb => ?_) (fun hb => ?_) <;> (try simp only [redB] at hb))))
    (refine ⟨_, _, rfl, by simp, ?_⟩; simp only [aTup, AA.get, List.getD_cons_zero, List.getD_cons_succ, true_and])
    have h0 : twn nameB s ≠ 0 := fun q => by rw [q] at hb; simp at hb
    rw [pName, if_neg (by omega), if_neg h0]
    exact ⟨rfl, rfl⟩
end Go.Almanac

/- Lines: the reader takes values. -/
namespace Go.Almanac
open Go.RowKit Go.Proofs Go.Abs

set_option linter.unusedSimpArgs false
set_option linter.unusedVariables false
set_option linter.unusedSectionVars false
set_option maxRecDepth 10000

/-- What a step of the reader tells, and what it leaves. -/
def pOut {α : Type} (b : Nat) (st st' : St) (enc : α → AV) (x : AEnd) : Except Int (α × List UInt8) → Prop
  | .ok (v, r) => st' = st.set b (rd r 0) ∧ x = .ret (enc v)
  | .error k => k ≠ 0 ∧ ∃ s' v, st' = st.set b (rd s' k) ∧ x = .ret (enc v)
theorem pOut.both {α : Type} {b : Nat} {st st' : St} {enc : α → AV} {x : AEnd} {q : Except Int (α × List UInt8)} (h : pOut b st st' enc x q) : ∃ s' k v, st' = st.set b (rd s' k) ∧ x = .ret (enc v) ∧ (k = 0 → q = .ok (v, s')) ∧ (k ≠ 0 → q = .error k) := by
  cases q with
  | ok p => exact ⟨p.2, 0, p.1, h.1, h.2, fun _ => rfl, fun h => absurd rfl h⟩
  | error k => obtain ⟨h0, s', v, h1, h2⟩ := h; exact ⟨s', k, v, h1, h2, fun e => absurd e h0, fun _ => rfl⟩

theorem t_nameP (G : Nat → AV) (b : Nat) (s : List UInt8) (hs : s.length ≤ 4611686018427387904) (st : St) (hst : st b = some (rd s 0)) :
    ACalls (Ev G) 22 [.ptr b 0 0 0] st (fun x st' => pOut b st st' .str x (pName s)) :=
  ACalls.mono (t_name G b s hs st hst) fun x st' h => by
    cases hp : pName s with
    | ok p => rw [hp] at h; exact h
    | error k => rw [hp] at h; exact h

/-- A value in front. -/
def pValue (s : List UInt8) : Except Int (List UInt8 × List UInt8) :=
  if Lib.hasPrefix s [34] = true then
    match pMust 34 ((s.drop 1).drop (twn vq (s.drop 1))) with
    | .ok r => .ok ((s.drop 1).take (twn vq (s.drop 1)), r)
    | .error k => .error k
  else .ok (s.take (twn vn s), s.drop (twn vn s))

theorem hasP_len {s : List UInt8} {c : UInt8} (h : Lib.hasPrefix s [c] = true) : 1 ≤ s.length := by
  cases s with
  | nil => simp [Lib.hasPrefix] at h
  | cons x t => simp
theorem pMust_err {c : UInt8} {s : List UInt8} {k : Int} (h : pMust c s = .error k) : k ≠ 0 := by
  cases s with
  | nil => simp [pMust] at h; omega
  | cons x t => simp only [pMust] at h; split at h <;> simp_all; omega

theorem t_value (G : Nat → AV) (b : Nat) (s : List UInt8) (hs : s.length ≤ 4611686018427387904) (st : St) (hst : st b = some (rd s 0)) :
    ACalls (Ev G) 59 [.ptr b 0 0 0] st (fun x st' => pOut b st st' .str x (pValue s)) := by
  refine ACalls.of_body Tryd.func59 rfl ?_
  rw [Tryd.ntmps59]
  simp only [List.length_cons, List.length_nil, Nat.reduceAdd, Nat.reduceSub, List.replicate_succ, List.replicate_zero, List.cons_append, List.nil_append]
  (repeat' (first | refine AW.seq ?_ | refine AW.scope ?_ | refine AW.label ?_ | refine AW.block ?_ | refine AW.skip ?_ | refine AW.exit ?_ | refine AW.ret ?_ | (refine AW.regionC fun Q' Kn hQ hK hK' => ?_; (repeat simp (disch := omega) only [go_sem, redN, Nat.reduceAdd, Int.reduceToNat, Int.reducePow]); (repeat' refine And.intro ?_ ?_); (try any_goals (first | (refine hK _ _ ?_; clear hK' hQ hK Q' Kn) | (simp; done) | omega | (simp only [redL]; omega) | (simp; omega)))) | (refine AW.cond (by simp (disch := omega) only [go_sem, redN, Nat.reduceAdd, Int.reduceToNat, Int.reducePow]; rfl) (fun hb => ?_) (fun hb => ?_) <;> (try simp only [redB] at hb))))
  refine AOp.call rfl (by simp only [go_sem]; rfl) (by simp [go_sem]) rfl (ACalls.mono (by simp only [go_sem]; exact t_goes G b s [34] 0 _ hst) ?_)
  rintro e st' ⟨rfl, rfl⟩
  (refine AOpsC_ok hK' _ _ _ ?_; (repeat simp (disch := omega) only [go_sem, redN, Nat.reduceAdd, Int.reduceToNat, Int.reducePow]); (repeat' refine And.intro ?_ ?_); (try any_goals (first | (refine hK _ _ ?_; clear hK' hQ hK Q' Kn) | (simp; done) | omega | (simp only [redL]; omega) | (simp; omega))))
  (repeat' (first | refine AW.seq ?_ | refine AW.scope ?_ | refine AW.label ?_ | refine AW.block ?_ | refine AW.skip ?_ | refine AW.exit ?_ | refine AW.ret ?_ | (refine AW.regionC fun Q' Kn hQ hK hK' => ?_; (repeat simp (disch := omega) only [go_sem, redN, Nat.reduceAdd, Int.reduceToNat, Int.reducePow]); (repeat' refine And.intro ?_ ?_); (try any_goals (first | (refine hK _ _ ?_; clear hK' hQ hK Q' Kn) | (simp; done) | omega | (simp only [redL]; omega) | (simp; omega)))) | (refine AW.cond (by simp (disch := omega) only [go_sem, redN, Nat.reduceAdd, Int.reduceToNat, Int.reducePow]; rfl) (fun hb => ?_) (fun hb => ?_) <;> (try simp only [redB] at hb))))
  · refine AOp.call rfl (by simp only [go_sem]; rfl) (by simp [go_sem]) rfl (ACalls.mono (by simp only [go_sem]; exact t_take G b s hs 0 _ vn rfl (c_vn G) _ hst) ?_)
    rintro e st' ⟨rfl, rfl⟩
    (refine AOpsC_ok hK' _ _ _ ?_; (repeat simp (disch := omega) only [go_sem, redN, Nat.reduceAdd, Int.reduceToNat, Int.reducePow]); (repeat' refine And.intro ?_ ?_); (try any_goals (first | (refine hK _ _ ?_; clear hK' hQ hK Q' Kn) | (simp; done) | omega | (simp only [redL]; omega) | (simp; omega))))
    (repeat' (first | refine AW.seq ?_ | refine AW.scope ?_ | refine AW.label ?_ | refine AW.block ?_ | refine AW.skip ?_ | refine AW.exit ?_ | refine AW.ret ?_ | (refine AW.regionC fun Q' Kn hQ hK hK' => ?_; (repeat simp (disch := omega) only [go_sem, redN, Nat.reduceAdd, Int.reduceToNat, Int.reducePow]); (repeat' refine And.intro ?_ ?_); (try any_goals (first | (refine hK _ _ ?_; clear hK' hQ hK Q' Kn) | (simp; done) | omega | (simp only [redL]; omega) | (simp; omega)))) | (refine AW.cond (by simp (disch := omega) only [go_sem, redN, Nat.reduceAdd, Int.reduceToNat, Int.reducePow]; rfl) (fun hb => ?_) (fun hb => ?_) <;> (try simp only [redB] at hb))))
    (refine ⟨_, _, rfl, by simp, ?_⟩; simp only [aTup, AA.get, List.getD_cons_zero, List.getD_cons_succ, true_and])
    rw [pValue, if_neg (by simpa using hb)]
    exact ⟨rfl, rfl⟩
  have hp : Lib.hasPrefix s [34] = true := by simpa using hb
  have h1 := hasP_len hp
  refine AOp.loadCell rfl (by simp only [go_sem] <;> rfl) (by simp [go_sem]) (hst) rfl (by simp) (by simp) ?_
  (refine AOpsC_ok hK' _ _ _ ?_; (repeat simp (disch := omega) only [go_sem, redN, Nat.reduceAdd, Int.reduceToNat, Int.reducePow]); (repeat' refine And.intro ?_ ?_); (try any_goals (first | (refine hK _ _ ?_; clear hK' hQ hK Q' Kn) | (simp; done) | omega | (simp only [redL]; omega) | (simp; omega))))
  refine AOp.store (cs := [.str (s.drop 1)]) rfl (by simp only [go_sem] <;> rfl) (by simp [go_sem]) (hst) (by first | (simp only [go_sem]; done) | (simp [go_sem]; done) | (simp [go_sem]; omega)) rfl rfl (by simp) (by simp) ?_
  (refine AOpsC_ok hK' _ _ _ ?_; (repeat simp (disch := omega) only [go_sem, redN, Nat.reduceAdd, Int.reduceToNat, Int.reducePow]); (repeat' refine And.intro ?_ ?_); (try any_goals (first | (refine hK _ _ ?_; clear hK' hQ hK Q' Kn) | (simp; done) | omega | (simp only [redL]; omega) | (simp; omega))))
  (repeat' (first | refine AW.seq ?_ | refine AW.scope ?_ | refine AW.label ?_ | refine AW.block ?_ | refine AW.skip ?_ | refine AW.exit ?_ | refine AW.ret ?_ | (refine AW.regionC fun Q' Kn hQ hK hK' => ?_; (repeat simp (disch := omega) only [go_sem, redN, Nat.reduceAdd, Int.reduceToNat, Int.reducePow]); (repeat' refine And.intro ?_ ?_); (try any_goals (first | (refine hK _ _ ?_; clear hK' hQ hK Q' Kn) | (simp; done) | omega | (simp only [redL]; omega) | (simp; omega)))) | (refine AW.cond (by simp (disch := omega) only [go_sem, redN, Nat.reduceAdd, Int.reduceToNat, Int.reducePow]; rfl) (fun hb => ?_) (fun hb => ?_) <;> (try simp only [redB] at hb))))
  have hs1 := St.set_same st' b (rd (s.drop 1) 0)
  refine AOp.call rfl (by simp only [go_sem]; rfl) (by simp [go_sem]) rfl (ACalls.mono (by simp only [go_sem]; exact t_take G b (s.drop 1) (by simp; omega) 0 _ vq rfl (c_vq G) _ hs1) ?_)
  rintro e st' ⟨rfl, rfl⟩
  (refine AOpsC_ok hK' _ _ _ ?_; (repeat simp (disch := omega) only [go_sem, redN, Nat.reduceAdd, Int.reduceToNat, Int.reducePow]); (repeat' refine And.intro ?_ ?_); (try any_goals (first | (refine hK _ _ ?_; clear hK' hQ hK Q' Kn) | (simp; done) | omega | (simp only [redL]; omega) | (simp; omega))))
  (repeat' (first | refine AW.seq ?_ | refine AW.scope ?_ | refine AW.label ?_ | refine AW.block ?_ | refine AW.skip ?_ | refine AW.exit ?_ | refine AW.ret ?_ | (refine AW.regionC fun Q' Kn hQ hK hK' => ?_; (repeat simp (disch := omega) only [go_sem, redN, Nat.reduceAdd, Int.reduceToNat, Int.reducePow]); (repeat' refine And.intro ?_ ?_); (try any_goals (first | (refine hK _ _ ?_; clear hK' hQ hK Q' Kn) | (simp; done) | omega | (simp only [redL]; omega) | (simp; omega)))) | (refine AW.cond (by simp (disch := omega) only [go_sem, redN, Nat.reduceAdd, Int.reduceToNat, Int.reducePow]; rfl) (fun hb => ?_) (fun hb => ?_) <;> (try simp only [redB] at hb))))
  have hs2 := St.set_same (st'.set b (rd (s.drop 1) 0)) b (rd ((s.drop 1).drop (twn vq (s.drop 1))) 0)
  refine AOp.call rfl (by simp only [go_sem]; rfl) (by simp [go_sem]) rfl (ACalls.mono (by simp only [go_sem]; exact t_must G b _ 34 0 _ hs2) ?_)
  rintro e st' ⟨rfl, rfl⟩
  (refine AOpsC_ok hK' _ _ _ ?_; (repeat simp (disch := omega) only [go_sem, redN, Nat.reduceAdd, Int.reduceToNat, Int.reducePow]); (repeat' refine And.intro ?_ ?_); (try any_goals (first | (refine hK _ _ ?_; clear hK' hQ hK Q' Kn) | (simp; done) | omega | (simp only [redL]; omega) | (simp; omega))))
  (repeat' (first | refine AW.seq ?_ | refine AW.scope ?_ | refine AW.label ?_ | refine AW.block ?_ | refine AW.skip ?_ | refine AW.exit ?_ | refine AW.ret ?_ | (refine AW.regionC fun Q' Kn hQ hK hK' => ?_; (repeat simp (disch := omega) only [go_sem, redN, Nat.reduceAdd, Int.reduceToNat, Int.reducePow]); (repeat' refine And.intro ?_ ?_); (try any_goals (first | (refine hK _ _ ?_; clear hK' hQ hK Q' Kn) | (simp; done) | omega | (simp only [redL]; omega) | (simp; omega)))) | (refine AW.cond (by simp (disch := omega) only [go_sem, redN, Nat.reduceAdd, Int.reduceToNat, Int.reducePow]; rfl) (fun hb => ?_) (fun hb => ?_) <;> (try simp only [redB] at hb))))
  (refine ⟨_, _, rfl, by simp, ?_⟩; simp only [aTup, AA.get, List.getD_cons_zero, List.getD_cons_succ, true_and])
  rw [pValue, if_pos hp]
  simp only [St.set_set, if_true]
  cases hm : pMust 34 ((s.drop 1).drop (twn vq (s.drop 1))) with
  | ok r => exact ⟨rfl, rfl⟩
  | error k => exact ⟨pMust_err hm, _, _, rfl, rfl⟩
end Go.Almanac

/- Lines: the reader takes parameters. -/
namespace Go.Almanac
open Go.RowKit Go.Proofs Go.Abs

set_option linter.unusedSimpArgs false
set_option linter.unusedVariables false
set_option linter.unusedSectionVars false
set_option maxRecDepth 10000

structure ParamD where
  name : List UInt8
  values : List (List UInt8)
def strsE (l : List (List UInt8)) : List (List AV) := l.map fun s => [.str s]
@[simp] theorem strsE_length (l : List (List UInt8)) : (strsE l).length = l.length := by simp [strsE]
theorem strsE_append (a b : List (List UInt8)) : strsE (a ++ b) = strsE a ++ strsE b := by simp [strsE]
theorem strsE_nil {l : List (List UInt8)} : strsE l = [] ↔ l = [] := by simp [strsE]
def encParam (p : ParamD) : List AV := [.str p.name, .tree 1 (strsE p.values)]

/-- Values with commas between. -/
def pVals : Nat → List UInt8 → List (List UInt8) → Except Int (List (List UInt8) × List UInt8)
  | 0, _, _ => .error 1
  | n + 1, s, acc =>
    match pValue s with
    | .error k => .error k
    | .ok (v, r) => if Lib.hasPrefix r [44] = true then pVals n (r.drop 1) (acc ++ [v]) else .ok (acc ++ [v], r)
def pParam (s : List UInt8) : Except Int (ParamD × List UInt8) :=
  match pName s with
  | .error k => .error k
  | .ok (n, r) =>
    match pMust 61 r with
    | .error k => .error k
    | .ok r =>
      match pVals (r.length + 1) r [] with
      | .error k => .error k
      | .ok (vs, r) => .ok (⟨n, vs⟩, r)

theorem pName_len {s n r : List UInt8} (h : pName s = .ok (n, r)) : r.length ≤ s.length := by
  unfold pName at h
  split at h
  · cases h
  split at h
  · cases h
  cases h; simp
theorem pMust_len {c : UInt8} {s r : List UInt8} (h : pMust c s = .ok r) : r.length < s.length := by
  cases s with
  | nil => cases h
  | cons x t => simp only [pMust] at h; split at h <;> cases h; simp
theorem pValue_len {s v r : List UInt8} (h : pValue s = .ok (v, r)) : r.length ≤ s.length := by
  unfold pValue at h
  split at h
  · split at h
    · rename_i hm
      have := pMust_len hm
      cases h
      simp at this; omega
    · cases h
  · cases h; simp

/-- What the loop over values owes. -/
def valsTo (Q : Except Int (ParamD × List UInt8)) (n : List UInt8) : Except Int (List (List UInt8) × List UInt8) → Prop
  | .error k => Q = .error k
  | .ok (vs, r) => Q = .ok (⟨n, vs⟩, r)

theorem t_param (G : Nat → AV) (b : Nat) (s : List UInt8) (hs : s.length ≤ 1048576) (st : St) (hst : st b = some (rd s 0)) :
    ACalls (Ev G) 25 [.ptr b 0 0 0] st (fun x st' => pOut b st st' (fun p => .agg (encParam p)) x (pParam s)) := by
  refine ACalls.thawL (R' := fun x st1 => ∃ β v n vs s' e, SW β 9 1 v st1 (strsE vs) ∧ x = .ret (.agg [.str n, v]) ∧ β b = some (rd s' e) ∧ (∀ i, st i ≠ none → i ≠ b → β i = st i) ∧
      (e = 0 → pParam s = .ok (⟨n, vs⟩, s')) ∧ (e ≠ 0 → pParam s = .error e)) ?_ ?_
  · refine ACalls.of_body Tryd.func25 rfl ?_
    rw [Tryd.ntmps25]
    simp only [List.length_cons, List.length_nil, Nat.reduceAdd, Nat.reduceSub, List.replicate_succ, List.replicate_zero, List.cons_append, List.nil_append]
    (repeat' (first | refine AW.seq ?_ | refine AW.scope ?_ | refine AW.label ?_ | refine AW.block ?_ | refine AW.skip ?_ | refine AW.exit ?_ | refine AW.ret ?_ | (refine AW.regionC fun Q' Kn hQ hK hK' => ?_; (repeat simp (disch := omega) only [go_sem, redN, Nat.reduceAdd, Int.reduceToNat, Int.reducePow]); (repeat' refine And.intro ?_ ?_); (try any_goals (first | (refine hK _ _ ?_; clear hK' hQ hK Q' Kn) | (simp; done) | omega | (simp only [redL]; omega) | (simp; omega)))) | (refine AW.cond (by simp (disch := omega) only [go_sem, redN, Nat.reduceAdd, Int.reduceToNat, Int.reducePow]; rfl) (fun hb => ?_) (fun hb => ?_) <;> (try simp only [redB] at hb))))
    refine AOp.alloc rfl (by simp only [go_sem]; rfl) fun bc hbc => ?_
    (refine AOpsC_ok hK' _ _ _ ?_; (repeat simp (disch := omega) only [go_sem, redN, Nat.reduceAdd, Int.reduceToNat, Int.reducePow]); (repeat' refine And.intro ?_ ?_); (try any_goals (first | (refine hK _ _ ?_; clear hK' hQ hK Q' Kn) | (simp; done) | omega | (simp only [redL]; omega) | (simp; omega))))
    (repeat' (first | refine AW.seq ?_ | refine AW.scope ?_ | refine AW.label ?_ | refine AW.block ?_ | refine AW.skip ?_ | refine AW.exit ?_ | refine AW.ret ?_ | (refine AW.regionC fun Q' Kn hQ hK hK' => ?_; (repeat simp (disch := omega) only [go_sem, redN, Nat.reduceAdd, Int.reduceToNat, Int.reducePow]); (repeat' refine And.intro ?_ ?_); (try any_goals (first | (refine hK _ _ ?_; clear hK' hQ hK Q' Kn) | (simp; done) | omega | (simp only [redL]; omega) | (simp; omega)))) | (refine AW.cond (by simp (disch := omega) only [go_sem, redN, Nat.reduceAdd, Int.reduceToNat, Int.reducePow]; rfl) (fun hb => ?_) (fun hb => ?_) <;> (try simp only [redB] at hb))))
    have hbb : b ≠ bc := fun e => by subst e; rw [hst] at hbc; cases hbc
    have hst1 : (st.set bc (.cells 51 0 2 [[.str [], .nils]])) b = some (rd s 0) := by rw [St.set_ne _ _ hbb, hst]
    refine AOp.call rfl (by simp only [go_sem]; rfl) (by simp [go_sem]) rfl (ACalls.mono (by simp only [go_sem]; exact t_nameP G b s (by omega) _ hst1) ?_)
    intro x σ1 hq
    obtain ⟨s1, k1, n, rfl, rfl, q0, q1⟩ := hq.both
    (refine AOpsC_ok hK' _ _ _ ?_; (repeat simp (disch := omega) only [go_sem, redN, Nat.reduceAdd, Int.reduceToNat, Int.reducePow]); (repeat' refine And.intro ?_ ?_); (try any_goals (first | (refine hK _ _ ?_; clear hK' hQ hK Q' Kn) | (simp; done) | omega | (simp only [redL]; omega) | (simp; omega))))
    refine AOp.alloc rfl (by simp only [go_sem]; rfl) fun bx hbx => ?_
    (refine AOpsC_ok hK' _ _ _ ?_; (repeat simp (disch := omega) only [go_sem, redN, Nat.reduceAdd, Int.reduceToNat, Int.reducePow]); (repeat' refine And.intro ?_ ?_); (try any_goals (first | (refine hK _ _ ?_; clear hK' hQ hK Q' Kn) | (simp; done) | omega | (simp only [redL]; omega) | (simp; omega))))
    have hxb : bx ≠ b := fun e => by subst e; simp at hbx
    have hxc : bx ≠ bc := fun e => by subst e; rw [St.set_ne _ _ (Ne.symm hbb)] at hbx; simp at hbx
    have hbx0 : st bx = none := by rw [St.set_ne _ _ hxb, St.set_ne _ _ hxc] at hbx; exact hbx
    refine AOp.storeAll (cs := [.str n, .nils]) rfl (by simp only [go_sem] <;> rfl) (by simp [go_sem]) (St.set_same _ _ _) (by first | (simp only [go_sem]; done) | (simp [go_sem]; done) | (simp [go_sem]; omega)) (by simp [go_sem, isCell]) rfl rfl rfl ?_
    (refine AOpsC_ok hK' _ _ _ ?_; (repeat simp (disch := omega) only [go_sem, redN, Nat.reduceAdd, Int.reduceToNat, Int.reducePow]); (repeat' refine And.intro ?_ ?_); (try any_goals (first | (refine hK _ _ ?_; clear hK' hQ hK Q' Kn) | (simp; done) | omega | (simp only [redL]; omega) | (simp; omega))))
    rw [St.set_set]
    (repeat' (first | refine AW.seq ?_ | refine AW.scope ?_ | refine AW.label ?_ | refine AW.block ?_ | refine AW.skip ?_ | refine AW.exit ?_ | refine AW.ret ?_ | (refine AW.regionC fun Q' Kn hQ hK hK' => ?_; (repeat simp (disch := omega) only [go_sem, redN, Nat.reduceAdd, Int.reduceToNat, Int.reducePow]); (repeat' refine And.intro ?_ ?_); (try any_goals (first | (refine hK _ _ ?_; clear hK' hQ hK Q' Kn) | (simp; done) | omega | (simp only [redL]; omega) | (simp; omega)))) | (refine AW.cond (by simp (disch := omega) only [go_sem, redN, Nat.reduceAdd, Int.reduceToNat, Int.reducePow]; rfl) (fun hb => ?_) (fun hb => ?_) <;> (try simp only [redB] at hb))))
    have hs2 : (((st.set bc (.cells 51 0 2 [[.str [], .nils]])).set b (rd s1 k1)).set bx (.cells 51 0 2 [[.str n, .nils]])) b = some (rd s1 k1) := by rw [St.set_ne _ _ (Ne.symm hxb), St.set_same]
    refine AOp.call rfl (by simp only [go_sem]; rfl) (by simp [go_sem]) rfl (ACalls.mono (by simp only [go_sem]; exact t_must G b s1 61 k1 _ hs2) ?_)
    rintro e σ2 ⟨rfl, rfl⟩
    (refine AOpsC_ok hK' _ _ _ ?_; (repeat simp (disch := omega) only [go_sem, redN, Nat.reduceAdd, Int.reduceToNat, Int.reducePow]); (repeat' refine And.intro ?_ ?_); (try any_goals (first | (refine hK _ _ ?_; clear hK' hQ hK Q' Kn) | (simp; done) | omega | (simp only [redL]; omega) | (simp; omega))))
    (repeat' (first | refine AW.seq ?_ | refine AW.scope ?_ | refine AW.label ?_ | refine AW.block ?_ | refine AW.skip ?_ | refine AW.exit ?_ | refine AW.ret ?_ | (refine AW.regionC fun Q' Kn hQ hK hK' => ?_; (repeat simp (disch := omega) only [go_sem, redN, Nat.reduceAdd, Int.reduceToNat, Int.reducePow]); (repeat' refine And.intro ?_ ?_); (try any_goals (first | (refine hK _ _ ?_; clear hK' hQ hK Q' Kn) | (simp; done) | omega | (simp only [redL]; omega) | (simp; omega)))) | (refine AW.cond (by simp (disch := omega) only [go_sem, redN, Nat.reduceAdd, Int.reduceToNat, Int.reducePow]; rfl) (fun hb => ?_) (fun hb => ?_) <;> (try simp only [redB] at hb))))
    obtain ⟨s2, k2, hk2, z0, z1⟩ : ∃ s2 k2, (if k1 = 0 then stp s1 (pMust 61 s1) else rd s1 k1) = rd s2 k2 ∧ (k2 = 0 → s2.length ≤ s.length ∧ valsTo (pParam s) n (pVals (s2.length + 1) s2 [])) ∧ (k2 ≠ 0 → pParam s = .error k2) := by
      by_cases h0 : k1 = 0
      · rw [if_pos h0]
        have hn := q0 h0
        cases hm : pMust 61 s1 with
        | ok r =>
          refine ⟨r, 0, rfl, fun _ => ⟨?_, ?_⟩, fun h => absurd rfl h⟩
          · have := pName_len hn; have := pMust_len hm; omega
          · simp only [pParam, hn, hm]
            cases pVals (r.length + 1) r [] with
            | error k => rfl
            | ok p => rfl
        | error k => exact ⟨s1, k, rfl, fun h => absurd h (pMust_err hm), fun _ => by simp only [pParam, hn, hm]⟩
      · rw [if_neg h0]
        exact ⟨s1, k1, rfl, fun h => absurd h h0, fun _ => by simp only [pParam, q1 h0]⟩
    rw [hk2]
    have f1 : ((((st.set bc (.cells 51 0 2 [[.str [], .nils]])).set b (rd s1 k1)).set bx (.cells 51 0 2 [[.str n, .nils]])).set b (rd s2 k2)) b = some (rd s2 k2) := St.set_same _ _ _
    have f2 : ((((st.set bc (.cells 51 0 2 [[.str [], .nils]])).set b (rd s1 k1)).set bx (.cells 51 0 2 [[.str n, .nils]])).set b (rd s2 k2)) bx = some (.cells 51 0 2 [[.str n, .nils]]) := by rw [St.set_ne _ _ hxb, St.set_same]
    have f3 : ((((st.set bc (.cells 51 0 2 [[.str [], .nils]])).set b (rd s1 k1)).set bx (.cells 51 0 2 [[.str n, .nils]])).set b (rd s2 k2)) bc = some (.cells 51 0 2 [[.str [], .nils]]) := by rw [St.set_ne _ _ (Ne.symm hbb), St.set_ne _ _ (Ne.symm hxc), St.set_ne _ _ (Ne.symm hbb), St.set_same]
    have f4 : ∀ i, st i ≠ none → i ≠ b → ((((st.set bc (.cells 51 0 2 [[.str [], .nils]])).set b (rd s1 k1)).set bx (.cells 51 0 2 [[.str n, .nils]])).set b (rd s2 k2)) i = st i := fun i hi hib => by
      rw [St.set_ne _ _ hib, St.set_ne _ _ (fun e => hi (by rw [e]; exact hbx0)), St.set_ne _ _ hib, St.set_ne _ _ (fun e => hi (by rw [e]; exact hbc))]
    generalize St.set (St.set (St.set (St.set st _ _) _ _) _ _) _ _ = σ0 at f1 f2 f3 f4 ⊢
    refine AW.loopF (fun x : St × St × List UInt8 × Int × List (List UInt8) × AV × Nat => [.ptr b 0 0 0, .junk, .ptr bc 0 0 0, .ptr bx 0 0 0, .junk, .junk, .junk, .junk, .junk, .junk, .junk, .junk, .junk, .junk, .junk, .junk, .junk, .junk, .junk, .junk, .junk, .junk, .junk, .junk, .junk, .junk, .junk, .junk, .junk, .junk]) (fun x => x.2.1)
      (fun x => SW x.1 9 1 x.2.2.2.2.2.1 x.2.1 (strsE x.2.2.2.2.1) ∧ x.1 b = some (rd x.2.2.1 x.2.2.2.1) ∧ x.1 bx = some (.cells 51 0 2 [[.str n, x.2.2.2.2.2.1]]) ∧ x.1 bc = some (.cells 51 0 2 [[.str [], .nils]]) ∧ (∀ i, st i ≠ none → i ≠ b → x.1 i = st i) ∧
        (x.2.2.2.1 = 0 → x.2.2.1.length < x.2.2.2.2.2.2 ∧ x.2.2.2.2.1.length + x.2.2.2.2.2.2 ≤ 1048577 ∧ valsTo (pParam s) n (pVals x.2.2.2.2.2.2 x.2.2.1 x.2.2.2.2.1)) ∧ (x.2.2.2.1 ≠ 0 → pParam s = .error x.2.2.2.1))
      (fun x => x.2.2.2.2.2.2) (σ0, σ0, s2, k2, [], .nils, s2.length + 1) ?_ rfl ?_ ?_
    · (repeat (first | exact Weak.nil | refine Weak.junk _ ?_ | refine Weak.same _ ?_ | refine Weak.eqv (by (congr 1; first | omega | (simp; done) | exact w_i64 (by omega) (by omega))) ?_))
    · exact ⟨SW.new _ _ _, f1, f2, f3, f4, fun h => ⟨by dsimp only; omega, by have := (z0 h).1; dsimp only [List.length_nil]; omega, (z0 h).2⟩, z1⟩
    rintro ⟨β, σ, s', e, vs, v, m⟩ ⟨g1, g2, g3, g4, g5, g7, g8⟩
    dsimp only at g1 g2 g3 g4 g5 g7 g8 ⊢
    have e2 : σ b = some (rd s' e) := by rw [g1.keep b (by simp [g2]), g2]
    have e3 : σ bx = some (.cells 51 0 2 [[.str n, v]]) := by rw [g1.keep bx (by simp [g3]), g3]
    have e4 : σ bc = some (.cells 51 0 2 [[.str [], .nils]]) := by rw [g1.keep bc (by simp [g4]), g4]
    (repeat' (first | refine AW.seq ?_ | refine AW.scope ?_ | refine AW.label ?_ | refine AW.block ?_ | refine AW.skip ?_ | refine AW.exit ?_ | refine AW.ret ?_ | (refine AW.regionC fun Q' Kn hQ hK hK' => ?_; (repeat simp (disch := omega) only [go_sem, redN, Nat.reduceAdd, Int.reduceToNat, Int.reducePow]); (repeat' refine And.intro ?_ ?_); (try any_goals (first | (refine hK _ _ ?_; clear hK' hQ hK Q' Kn) | (simp; done) | omega | (simp only [redL]; omega) | (simp; omega)))) | (refine AW.cond (by simp (disch := omega) only [go_sem, redN, Nat.reduceAdd, Int.reduceToNat, Int.reducePow]; rfl) (fun hb => ?_) (fun hb => ?_) <;> (try simp only [redB] at hb))))
    refine AOp.call rfl (by simp only [go_sem]; rfl) (by simp [go_sem]) rfl (ACalls.mono (by simp only [go_sem]; exact t_ok G b s' e _ e2) ?_)
    rintro x σ ⟨rfl, rfl⟩
    (refine AOpsC_ok hK' _ _ _ ?_; (repeat simp (disch := omega) only [go_sem, redN, Nat.reduceAdd, Int.reduceToNat, Int.reducePow]); (repeat' refine And.intro ?_ ?_); (try any_goals (first | (refine hK _ _ ?_; clear hK' hQ hK Q' Kn) | (simp; done) | omega | (simp only [redL]; omega) | (simp; omega))))
    (repeat' (first | refine AW.seq ?_ | refine AW.scope ?_ | refine AW.label ?_ | refine AW.block ?_ | refine AW.skip ?_ | refine AW.exit ?_ | refine AW.ret ?_ | (refine AW.regionC fun Q' Kn hQ hK hK' => ?_; (repeat simp (disch := omega) only [go_sem, redN, Nat.reduceAdd, Int.reduceToNat, Int.reducePow]); (repeat' refine And.intro ?_ ?_); (try any_goals (first | (refine hK _ _ ?_; clear hK' hQ hK Q' Kn) | (simp; done) | omega | (simp only [redL]; omega) | (simp; omega)))) | (refine AW.cond (by simp (disch := omega) only [go_sem, redN, Nat.reduceAdd, Int.reduceToNat, Int.reducePow]; rfl) (fun hb => ?_) (fun hb => ?_) <;> (try simp only [redB] at hb))))
    · obtain rfl : e = 0 := by simpa using hb
      obtain ⟨m1, m2, m3⟩ := g7 rfl
      refine AW.drawnN 10 [3, 4, 5, 7] (List.range 8) (fun σ' => σ' bx = some (.cells 51 0 2 [[.str n, v]])) (by decide +kernel) fun Q' Kn hQ hK hK' => ?_
      refine FxNC_ok (by intro i hi a o ho; simp only [List.mem_cons, List.not_mem_nil, or_false] at hi; rcases hi with rfl | rfl | rfl | rfl <;> (cases ho; rfl)) _ _ _ ?_
      simp (disch := omega) only [go_sem, redN, Nat.reduceAdd, Int.reduceToNat, Int.reducePow]
      refine FxN.wait rfl e3 (fun st' hI => Fixed.loadCell rfl rfl rfl (by simp only [go_sem] <;> rfl) (by simp [go_sem]) hI rfl (by simp) (by simp)) ?_
      refine FxNC_ok (by intro i hi a o ho; simp only [List.mem_cons, List.not_mem_nil, or_false] at hi; rcases hi with rfl | rfl | rfl | rfl <;> (cases ho; rfl)) _ _ _ ?_
      simp (disch := omega) only [go_sem, redN, Nat.reduceAdd, Int.reduceToNat, Int.reducePow]
      refine FxN.moves rfl (Moves.call (R := fun v' st' => ∃ r k w, v' = .str w ∧ st' = σ.set b (rd r k) ∧ (k = 0 → pValue s' = .ok (w, r)) ∧ (k ≠ 0 → pValue s' = .error k)) rfl rfl rfl (by simp only [go_sem] <;> rfl) (by simp [go_sem]) rfl (by
        simp only [go_sem]
        refine ACalls.mono (t_value G b s' (by omega) _ e2) fun x st' hq => ?_
        obtain ⟨r, k, w, q1, q2, q3, q4⟩ := hq.both
        exact ⟨_, q2, r, k, w, rfl, q1, q3, q4⟩)) ?_
      rintro _ _ ⟨r, k, w, rfl, rfl, q3, q4⟩
      refine ⟨by rw [St.set_ne _ _ hxb]; exact e3, ?_⟩
      refine FxNC_ok (by intro i hi a o ho; simp only [List.mem_cons, List.not_mem_nil, or_false] at hi; rcases hi with rfl | rfl | rfl | rfl <;> (cases ho; rfl)) _ _ _ ?_
      simp (disch := omega) only [go_sem, redN, Nat.reduceAdd, Int.reduceToNat, Int.reducePow]
      refine FxN.moves rfl (Moves.buildSlice (e := 9) (sz := 1) (es := [[.str w]]) rfl rfl rfl rfl rfl rfl (by simp [partsC, go_sem]) (by simp [aParts, go_sem]) (by simp) rfl (by decide) (by decide)) ?_
      rintro _ _ ⟨it, hit, rfl, rfl⟩
      have nit : it ≠ bx := fun e => by subst e; rw [St.set_ne _ _ hxb, e3] at hit; cases hit
      refine ⟨by rw [St.set_ne _ _ (Ne.symm nit), St.set_ne _ _ hxb]; exact e3, ?_⟩
      refine FxNC_ok (by intro i hi a o ho; simp only [List.mem_cons, List.not_mem_nil, or_false] at hi; rcases hi with rfl | rfl | rfl | rfl <;> (cases ho; rfl)) _ _ _ ?_
      simp (disch := omega) only [go_sem, redN, Nat.reduceAdd, Int.reduceToNat, Int.reducePow]
      have g1' := g1.put (l := b) (by simp [g2]) (rd r k)
      refine FxN.moves rfl (Moves.appendE (e := 9) (sz := 1) (by_ := 16) rfl rfl rfl rfl rfl rfl rfl rfl rfl (by decide) g1' hit rfl (by simp [isCell]) (by simp; omega) (by simp [maxLen]; omega) (by simp)) ?_
      intro v' σ' h3
      have e3' : σ' bx = some (.cells 51 0 2 [[.str n, v]]) := by rw [h3.keep bx (by rw [St.set_ne _ _ hxb]; simp [g3]), St.set_ne _ _ hxb]; exact g3
      refine ⟨e3', ?_⟩
      refine FxNC_ok (by intro i hi a o ho; simp only [List.mem_cons, List.not_mem_nil, or_false] at hi; rcases hi with rfl | rfl | rfl | rfl <;> (cases ho; rfl)) _ _ _ ?_
      simp (disch := omega) only [go_sem, redN, Nat.reduceAdd, Int.reduceToNat, Int.reducePow]
      refine FxN.last rfl (Moves.store (cs := [v']) rfl rfl rfl (by simp only [go_sem] <;> rfl) (by rcases h3.own with ⟨rfl, _⟩ | ⟨_, _, rfl, _⟩ <;> simp [go_sem]) e3' (by rcases h3.own with ⟨rfl, _⟩ | ⟨_, _, rfl, _⟩ <;> rfl) (by rcases h3.own with ⟨rfl, _⟩ | ⟨_, _, rfl, _⟩ <;> rfl) rfl (by simp) (by simp)) ?_
      rintro _ _ ⟨rfl, rfl⟩
      refine hK _ _ ?_
      clear hK' hQ hK Q' Kn
      simp only [List.getD_cons_zero, List.set_cons_zero, splice, List.take_succ_cons, List.take_zero, List.cons_append, List.nil_append, List.length_cons, List.length_nil, Nat.reduceAdd, List.drop_succ_cons, List.drop_nil]
      have h4 := h3.put (l := bx) (by rw [St.set_ne _ _ hxb]; simp [g3]) (.cells 51 0 2 [[.str n, v']])
      have k2 : ((β.set b (rd r k)).set bx (.cells 51 0 2 [[.str n, v']])) b = some (rd r k) := by rw [St.set_ne _ _ (Ne.symm hxb), St.set_same]
      have k3 : ((β.set b (rd r k)).set bx (.cells 51 0 2 [[.str n, v']])) bx = some (.cells 51 0 2 [[.str n, v']]) := St.set_same _ _ _
      have k4 : ((β.set b (rd r k)).set bx (.cells 51 0 2 [[.str n, v']])) bc = some (.cells 51 0 2 [[.str [], .nils]]) := by rw [St.set_ne _ _ (Ne.symm hxc), St.set_ne _ _ (Ne.symm hbb), g4]
      have k5 : ∀ i, st i ≠ none → i ≠ b → ((β.set b (rd r k)).set bx (.cells 51 0 2 [[.str n, v']])) i = st i := fun i hi hib => by
        rw [St.set_ne _ _ (fun e => hi (by rw [e]; exact hbx0)), St.set_ne _ _ hib, g5 i hi hib]
      rw [show strsE vs ++ [[AV.str w]] = strsE (vs ++ [w]) from by simp [strsE]] at h4
      generalize St.set (St.set β _ _) _ _ = β2 at h4 k2 k3 k4 k5
      generalize St.set σ' _ _ = σ2 at h4 ⊢
      have l2 : σ2 b = some (rd r k) := by rw [h4.keep b (by simp [k2]), k2]
      (repeat' (first | refine AW.seq ?_ | refine AW.scope ?_ | refine AW.label ?_ | refine AW.block ?_ | refine AW.skip ?_ | refine AW.exit ?_ | refine AW.ret ?_ | (refine AW.regionC fun Q' Kn hQ hK hK' => ?_; (repeat simp (disch := omega) only [go_sem, redN, Nat.reduceAdd, Int.reduceToNat, Int.reducePow]); (repeat' refine And.intro ?_ ?_); (try any_goals (first | (refine hK _ _ ?_; clear hK' hQ hK Q' Kn) | (simp; done) | omega | (simp only [redL]; omega) | (simp; omega)))) | (refine AW.cond (by simp (disch := omega) only [go_sem, redN, Nat.reduceAdd, Int.reduceToNat, Int.reducePow]; rfl) (fun hb => ?_) (fun hb => ?_) <;> (try simp only [redB] at hb))))
      refine AOp.call rfl (by simp only [go_sem]; rfl) (by simp [go_sem]) rfl (ACalls.mono (by simp only [go_sem]; exact t_goes G b r [44] k _ l2) ?_)
      rintro x σ2 ⟨rfl, rfl⟩
      (refine AOpsC_ok hK' _ _ _ ?_; (repeat simp (disch := omega) only [go_sem, redN, Nat.reduceAdd, Int.reduceToNat, Int.reducePow]); (repeat' refine And.intro ?_ ?_); (try any_goals (first | (refine hK _ _ ?_; clear hK' hQ hK Q' Kn) | (simp; done) | omega | (simp only [redL]; omega) | (simp; omega))))
      (repeat' (first | refine AW.seq ?_ | refine AW.scope ?_ | refine AW.label ?_ | refine AW.block ?_ | refine AW.skip ?_ | refine AW.exit ?_ | refine AW.ret ?_ | (refine AW.regionC fun Q' Kn hQ hK hK' => ?_; (repeat simp (disch := omega) only [go_sem, redN, Nat.reduceAdd, Int.reduceToNat, Int.reducePow]); (repeat' refine And.intro ?_ ?_); (try any_goals (first | (refine hK _ _ ?_; clear hK' hQ hK Q' Kn) | (simp; done) | omega | (simp only [redL]; omega) | (simp; omega)))) | (refine AW.cond (by simp (disch := omega) only [go_sem, redN, Nat.reduceAdd, Int.reduceToNat, Int.reducePow]; rfl) (fun hb => ?_) (fun hb => ?_) <;> (try simp only [redB] at hb))))
      · have l3 : σ2 bx = some (.cells 51 0 2 [[.str n, v']]) := by rw [h4.keep bx (by simp [k3]), k3]
        have l4 : σ2 bc = some (.cells 51 0 2 [[.str [], .nils]]) := by rw [h4.keep bc (by simp [k4]), k4]
        refine AOp.loadAll rfl (by simp only [go_sem] <;> rfl) (by simp [go_sem]) (l3) rfl rfl rfl ?_
        (refine AOpsC_ok hK' _ _ _ ?_; (repeat simp (disch := omega) only [go_sem, redN, Nat.reduceAdd, Int.reduceToNat, Int.reducePow]); (repeat' refine And.intro ?_ ?_); (try any_goals (first | (refine hK _ _ ?_; clear hK' hQ hK Q' Kn) | (simp; done) | omega | (simp only [redL]; omega) | (simp; omega))))
        refine AOp.storeAll (cs := [.str n, v']) rfl (by simp only [go_sem] <;> rfl) (by simp [go_sem]) l4 (by simp only [go_sem]) (by rcases h3.own with ⟨rfl, _⟩ | ⟨_, _, rfl, _⟩ <;> rfl) rfl rfl rfl ?_
        (refine AOpsC_ok hK' _ _ _ ?_; (repeat simp (disch := omega) only [go_sem, redN, Nat.reduceAdd, Int.reduceToNat, Int.reducePow]); (repeat' refine And.intro ?_ ?_); (try any_goals (first | (refine hK _ _ ?_; clear hK' hQ hK Q' Kn) | (simp; done) | omega | (simp only [redL]; omega) | (simp; omega))))
        (repeat' (first | refine AW.seq ?_ | refine AW.scope ?_ | refine AW.label ?_ | refine AW.block ?_ | refine AW.skip ?_ | refine AW.exit ?_ | refine AW.ret ?_ | (refine AW.regionC fun Q' Kn hQ hK hK' => ?_; (repeat simp (disch := omega) only [go_sem, redN, Nat.reduceAdd, Int.reduceToNat, Int.reducePow]); (repeat' refine And.intro ?_ ?_); (try any_goals (first | (refine hK _ _ ?_; clear hK' hQ hK Q' Kn) | (simp; done) | omega | (simp only [redL]; omega) | (simp; omega)))) | (refine AW.cond (by simp (disch := omega) only [go_sem, redN, Nat.reduceAdd, Int.reduceToNat, Int.reducePow]; rfl) (fun hb => ?_) (fun hb => ?_) <;> (try simp only [redB] at hb))))
        refine ABody.ofRess (vs := [.agg [.str n, v']]) rfl (aRess_cell (aLoad_all (St.set_same _ _ _) rfl rfl rfl) aRess_nil) ?_
        refine ⟨_, v', n, vs ++ [w], r, k, h4.put (l := bc) (by simp [k4]) _, rfl, by rw [St.set_ne _ _ hbb, k2], fun i hi hib => by rw [St.set_ne _ _ (fun e => hi (by rw [e]; exact hbc))]; exact k5 i hi hib, fun h => ?_, fun h => ?_⟩
        · subst h
          have hnp : ¬ Lib.hasPrefix r [44] = true := by simpa using hb
          obtain ⟨m', rfl⟩ : ∃ m', m = m' + 1 := ⟨m - 1, by omega⟩
          simp only [pVals, q3 rfl, if_neg hnp] at m3
          exact m3
        · obtain ⟨m', rfl⟩ : ∃ m', m = m' + 1 := ⟨m - 1, by omega⟩
          simp only [pVals, q4 h] at m3
          exact m3
      · obtain ⟨hk0, hp⟩ := hb
        subst hk0
        have hl := hasP_len hp
        have hlen := pValue_len (q3 rfl)
        refine AOp.loadCell rfl (by simp only [go_sem] <;> rfl) (by simp [go_sem]) (l2) rfl (by simp) (by simp) ?_
        (refine AOpsC_ok hK' _ _ _ ?_; (repeat simp (disch := omega) only [go_sem, redN, Nat.reduceAdd, Int.reduceToNat, Int.reducePow]); (repeat' refine And.intro ?_ ?_); (try any_goals (first | (refine hK _ _ ?_; clear hK' hQ hK Q' Kn) | (simp; done) | omega | (simp only [redL]; omega) | (simp; omega))))
        refine AOp.store (cs := [.str (r.drop 1)]) rfl (by simp only [go_sem] <;> rfl) (by simp [go_sem]) (l2) (by first | (simp only [go_sem]; done) | (simp [go_sem]; done) | (simp [go_sem]; omega)) rfl rfl (by simp) (by simp) ?_
        (refine AOpsC_ok hK' _ _ _ ?_; (repeat simp (disch := omega) only [go_sem, redN, Nat.reduceAdd, Int.reduceToNat, Int.reducePow]); (repeat' refine And.intro ?_ ?_); (try any_goals (first | (refine hK _ _ ?_; clear hK' hQ hK Q' Kn) | (simp; done) | omega | (simp only [redL]; omega) | (simp; omega))))
        (repeat' (first | refine AW.seq ?_ | refine AW.scope ?_ | refine AW.label ?_ | refine AW.block ?_ | refine AW.skip ?_ | refine AW.exit ?_ | refine AW.ret ?_ | (refine AW.regionC fun Q' Kn hQ hK hK' => ?_; (repeat simp (disch := omega) only [go_sem, redN, Nat.reduceAdd, Int.reduceToNat, Int.reducePow]); (repeat' refine And.intro ?_ ?_); (try any_goals (first | (refine hK _ _ ?_; clear hK' hQ hK Q' Kn) | (simp; done) | omega | (simp only [redL]; omega) | (simp; omega)))) | (refine AW.cond (by simp (disch := omega) only [go_sem, redN, Nat.reduceAdd, Int.reduceToNat, Int.reducePow]; rfl) (fun hb => ?_) (fun hb => ?_) <;> (try simp only [redB] at hb))))
        obtain ⟨m', rfl⟩ : ∃ m', m = m' + 1 := ⟨m - 1, by omega⟩
        simp only [pVals, q3 rfl, if_pos hp] at m3
        refine ⟨(β2.set b (rd (r.drop 1) 0), σ2.set b (rd (r.drop 1) 0), r.drop 1, 0, vs ++ [w], v', m'), ?_, by dsimp only; omega, ?_, rfl, ?_⟩
        · dsimp only
          exact ⟨h4.put (l := b) (by simp [k2]) _, St.set_same _ _ _, by rw [St.set_ne _ _ hxb, k3], by rw [St.set_ne _ _ (Ne.symm hbb), k4], fun i hi hib => by rw [St.set_ne _ _ hib]; exact k5 i hi hib, fun _ => ⟨by simp; omega, by simp; omega, m3⟩, fun h => absurd rfl h⟩
        · (repeat (first | exact Weak.nil | refine Weak.junk _ ?_ | refine Weak.same _ ?_ | refine Weak.eqv (by (congr 1; first | omega | (simp; done) | exact w_i64 (by omega) (by omega))) ?_))
        · simp [rd]
    · refine AOp.loadAll rfl (by simp only [go_sem] <;> rfl) (by simp [go_sem]) (e3) rfl rfl rfl ?_
      (refine AOpsC_ok hK' _ _ _ ?_; (repeat simp (disch := omega) only [go_sem, redN, Nat.reduceAdd, Int.reduceToNat, Int.reducePow]); (repeat' refine And.intro ?_ ?_); (try any_goals (first | (refine hK _ _ ?_; clear hK' hQ hK Q' Kn) | (simp; done) | omega | (simp only [redL]; omega) | (simp; omega))))
      refine AOp.storeAll (cs := [.str n, v]) rfl (by simp only [go_sem] <;> rfl) (by simp [go_sem]) e4 (by simp only [go_sem]) (by rcases g1.own with ⟨rfl, _⟩ | ⟨_, _, rfl, _⟩ <;> rfl) rfl rfl rfl ?_
      (refine AOpsC_ok hK' _ _ _ ?_; (repeat simp (disch := omega) only [go_sem, redN, Nat.reduceAdd, Int.reduceToNat, Int.reducePow]); (repeat' refine And.intro ?_ ?_); (try any_goals (first | (refine hK _ _ ?_; clear hK' hQ hK Q' Kn) | (simp; done) | omega | (simp only [redL]; omega) | (simp; omega))))
      (repeat' (first | refine AW.seq ?_ | refine AW.scope ?_ | refine AW.label ?_ | refine AW.block ?_ | refine AW.skip ?_ | refine AW.exit ?_ | refine AW.ret ?_ | (refine AW.regionC fun Q' Kn hQ hK hK' => ?_; (repeat simp (disch := omega) only [go_sem, redN, Nat.reduceAdd, Int.reduceToNat, Int.reducePow]); (repeat' refine And.intro ?_ ?_); (try any_goals (first | (refine hK _ _ ?_; clear hK' hQ hK Q' Kn) | (simp; done) | omega | (simp only [redL]; omega) | (simp; omega)))) | (refine AW.cond (by simp (disch := omega) only [go_sem, redN, Nat.reduceAdd, Int.reduceToNat, Int.reducePow]; rfl) (fun hb => ?_) (fun hb => ?_) <;> (try simp only [redB] at hb))))
      refine ABody.ofRess (vs := [.agg [.str n, v]]) rfl (aRess_cell (aLoad_all (St.set_same _ _ _) rfl rfl rfl) aRess_nil) ?_
      exact ⟨_, v, n, vs, s', e, g1.put (l := bc) (by simp [g4]) _, rfl, by rw [St.set_ne _ _ hbb, g2], fun i hi hib => by rw [St.set_ne _ _ (fun e => hi (by rw [e]; exact hbc))]; exact g5 i hi hib, fun h => absurd h hb, g8⟩
  · rintro x st1 ⟨β, v, n, vs, s', e, h1, rfl, h2, h3, h5, h6⟩
    have hsub : (st.set b (rd s' e)).sub β := fun i B hi => by
      by_cases hib : i = b
      · subst hib; rw [St.set_same] at hi; rw [h2, hi]
      · rw [St.set_ne _ _ hib] at hi; rw [h3 i (by simp [hi]) hib, hi]
    refine ⟨2, st.set b (rd s' e), _, .agg (encParam ⟨n, vs⟩), rfl, h1.sub hsub, ?_, ?_⟩
    · simp only [th_agg, List.map_cons, List.map_nil, th_str, encParam]
      exact VLe.agg (.cons (VLe.refl _) (.cons (h1.thL hsub 0 (by intro e he c hc; rfl)) .nil))
    · by_cases h0 : e = 0
      · subst h0; rw [h5 rfl]; exact ⟨rfl, rfl⟩
      · rw [h6 h0]; exact ⟨h0, _, _, rfl, rfl⟩
end Go.Almanac

/- Lines: plain texts; the reader reads a property. -/
namespace Go.Almanac
open Go.RowKit Go.Proofs Go.Abs

set_option linter.unusedSimpArgs false
set_option linter.unusedVariables false
set_option linter.unusedSectionVars false
set_option maxRecDepth 10000

/-- UTF-8 without controls and some bytes. -/
def plainL (s but : List UInt8) : Bool := s.all (fun c => !(ctl c || decide (idx but c ≥ 0))) && valid s
theorem all_take_succ {p : UInt8 → Bool} {s : List UInt8} {i : Nat} (h : i < s.length) : (s.take (i + 1)).all p = ((s.take i).all p && p (s.getD i 0)) := by
  rw [take_succ_getD h]; simp
theorem all_false_of {p : UInt8 → Bool} {s : List UInt8} {i : Nat} (h : i < s.length) (hp : p (s.getD i 0) = false) : s.all p = false := by
  rw [List.all_eq_false]
  refine ⟨s.getD i 0, ?_, by rw [hp]; decide⟩
  rw [List.getD, List.getElem?_eq_getElem h]; simp

theorem t_plain2 (m : Int) (s but : List UInt8) (hs : s.length ≤ 4611686018427387904) (st : St) : ACalls (Ev (Gt m)) 28 [.str s, .str but] st (fun e st' => st' = st ∧ e = .ret (.bool (plainL s but))) := by
  refine ACalls.of_body Tryd.func28 rfl ?_
  rw [Tryd.ntmps28]
  simp only [List.length_cons, List.length_nil, Nat.reduceAdd, Nat.reduceSub, List.replicate_succ, List.replicate_zero, List.cons_append, List.nil_append]
  (repeat' (first | refine AW.seq ?_ | refine AW.scope ?_ | refine AW.label ?_ | refine AW.block ?_ | refine AW.skip ?_ | refine AW.exit ?_ | refine AW.ret ?_ | (refine AW.regionC fun Q' Kn hQ hK hK' => ?_; (repeat simp (disch := omega) only [go_sem, redN, Nat.reduceAdd, Int.reduceToNat, Int.reducePow]); (repeat' refine And.intro ?_ ?_); (try any_goals (first | (refine hK _ _ ?_; clear hK' hQ hK Q' Kn) | (intro hq9; refine ⟨hq9, ?_⟩; simp only [redB] at hq9; omega) | (intro hq9; refine ⟨hq9, fun hq8 => ?_⟩; rw [hq9, hq8]; rfl) | (simp; done) | omega | (simp only [redL]; omega) | (simp; omega) | (intros; (repeat' refine And.intro ?_ ?_) <;> (first | assumption | omega | (simp; done)))))) | (refine AW.cond (by simp (disch := omega) only [go_sem, redN, Nat.reduceAdd, Int.reduceToNat, Int.reducePow]; rfl) (fun hb => ?_) (fun hb => ?_) <;> (try simp only [redB] at hb))))
  refine AW.loopF (fun k : Nat => [.str s, .str but, .junk, .junk, .junk, .junk, .junk, .int .i64 s.length, .int .i64 k, .junk, .junk, .junk, .junk, .junk, .junk, .junk, .junk, .junk, .junk, .junk, .junk, .junk, .junk, .junk, .junk, .junk]) (fun _ => st)
    (fun k => k ≤ s.length ∧ (s.take k).all (fun c => !(ctl c || decide (idx but c ≥ 0))) = true) (fun k => s.length - k) 0 ?_ rfl ?_ ?_
  · (repeat (first | exact Weak.nil | refine Weak.junk _ ?_ | refine Weak.same _ ?_ | refine Weak.eqv (by (congr 1; first | omega | (simp; done) | exact w_i64 (by omega) (by omega))) ?_))
  · simp
  rintro k ⟨k1, k2⟩
  (repeat' (first | refine AW.seq ?_ | refine AW.scope ?_ | refine AW.label ?_ | refine AW.block ?_ | refine AW.skip ?_ | refine AW.exit ?_ | refine AW.ret ?_ | (refine AW.regionC fun Q' Kn hQ hK hK' => ?_; (repeat simp (disch := omega) only [go_sem, redN, Nat.reduceAdd, Int.reduceToNat, Int.reducePow]); (repeat' refine And.intro ?_ ?_); (try any_goals (first | (refine hK _ _ ?_; clear hK' hQ hK Q' Kn) | (intro hq9; refine ⟨hq9, ?_⟩; simp only [redB] at hq9; omega) | (intro hq9; refine ⟨hq9, fun hq8 => ?_⟩; rw [hq9, hq8]; rfl) | (simp; done) | omega | (simp only [redL]; omega) | (simp; omega) | (intros; (repeat' refine And.intro ?_ ?_) <;> (first | assumption | omega | (simp; done)))))) | (refine AW.cond (by simp (disch := omega) only [go_sem, redN, Nat.reduceAdd, Int.reduceToNat, Int.reducePow]; rfl) (fun hb => ?_) (fun hb => ?_) <;> (try simp only [redB] at hb))))
  · refine AOp.call rfl (by simp only [go_sem]; rfl) (by simp [go_sem]) rfl (ACalls.mono (by simp only [go_sem]; exact t_control (Gt m) _ _) ?_)
    rintro e st' ⟨rfl, rfl⟩
    (refine AOpsC_ok hK' _ _ _ ?_; (repeat simp (disch := omega) only [go_sem, redN, Nat.reduceAdd, Int.reduceToNat, Int.reducePow]); (repeat' refine And.intro ?_ ?_); (try any_goals (first | (refine hK _ _ ?_; clear hK' hQ hK Q' Kn) | (intro hq9; refine ⟨hq9, ?_⟩; simp only [redB] at hq9; omega) | (intro hq9; refine ⟨hq9, fun hq8 => ?_⟩; rw [hq9, hq8]; rfl) | (simp; done) | omega | (simp only [redL]; omega) | (simp; omega) | (intros; (repeat' refine And.intro ?_ ?_) <;> (first | assumption | omega | (simp; done))))))
    refine AOps.guard_call (f := 61) (v := .int .i64 (idx but (s.getD k 0))) rfl rfl rfl rfl rfl (fun _ => (by simp only [go_sem] <;> rfl)) (fun h => by first | (simp [go_sem]; done) | simpa [go_sem] using h) rfl (fun hg => by simp only [go_sem]; exact b_IndexByte (Gt m) _ _ _) ?_
    (refine AOpsC_ok hK' _ _ _ ?_; (repeat simp (disch := omega) only [go_sem, redN, Nat.reduceAdd, Int.reduceToNat, Int.reducePow]); (repeat' refine And.intro ?_ ?_); (try any_goals (first | (refine hK _ _ ?_; clear hK' hQ hK Q' Kn) | (intro hq9; refine ⟨hq9, ?_⟩; simp only [redB] at hq9; omega) | (intro hq9; refine ⟨hq9, fun hq8 => ?_⟩; rw [hq9, hq8]; rfl) | (simp; done) | omega | (simp only [redL]; omega) | (simp; omega) | (intros; (repeat' refine And.intro ?_ ?_) <;> (first | assumption | omega | (simp; done))))))
    (repeat' (first | refine AW.seq ?_ | refine AW.scope ?_ | refine AW.label ?_ | refine AW.block ?_ | refine AW.skip ?_ | refine AW.exit ?_ | refine AW.ret ?_ | (refine AW.regionC fun Q' Kn hQ hK hK' => ?_; (repeat simp (disch := omega) only [go_sem, redN, Nat.reduceAdd, Int.reduceToNat, Int.reducePow]); (repeat' refine And.intro ?_ ?_); (try any_goals (first | (refine hK _ _ ?_; clear hK' hQ hK Q' Kn) | (intro hq9; refine ⟨hq9, ?_⟩; simp only [redB] at hq9; omega) | (intro hq9; refine ⟨hq9, fun hq8 => ?_⟩; rw [hq9, hq8]; rfl) | (simp; done) | omega | (simp only [redL]; omega) | (simp; omega) | (intros; (repeat' refine And.intro ?_ ?_) <;> (first | assumption | omega | (simp; done)))))) | (refine AW.cond (by simp (disch := omega) only [go_sem, redN, Nat.reduceAdd, Int.reduceToNat, Int.reducePow]; rfl) (fun hb => ?_) (fun hb => ?_) <;> (try simp only [redB] at hb))))
    · (refine ⟨_, _, rfl, by simp, ?_⟩; simp only [aTup, AA.get, List.getD_cons_zero, List.getD_cons_succ, true_and])
      have hf : (!(ctl (s.getD k 0) || decide (idx but (s.getD k 0) ≥ 0))) = false := by
        rcases hb with h | h
        · rw [h]; rfl
        · rw [decide_eq_true h, Bool.or_true]; rfl
      rw [plainL, all_false_of (i := k) (p := fun c => !(ctl c || decide (idx but c ≥ 0))) (by omega) hf]; rfl
    · refine ⟨k + 1, ⟨by omega, ?_⟩, by omega, ?_, rfl, rfl⟩
      · have hf : (!(ctl (s.getD k 0) || decide (idx but (s.getD k 0) ≥ 0))) = true := by
          rw [hb.1, decide_eq_false hb.2]; rfl
        rw [all_take_succ (by omega), k2, Bool.true_and]; exact hf
      · (repeat (first | exact Weak.nil | refine Weak.junk _ ?_ | refine Weak.same _ ?_ | refine Weak.eqv (by (congr 1; first | omega | (simp; done) | exact w_i64 (by omega) (by omega))) ?_))
  · refine AOp.call rfl (by simp only [go_sem]; rfl) (by simp [go_sem]) rfl (ACalls.mono (by simp only [go_sem]; exact t_Valid m s hs _) ?_)
    rintro e st' ⟨rfl, rfl⟩
    (refine AOpsC_ok hK' _ _ _ ?_; (repeat simp (disch := omega) only [go_sem, redN, Nat.reduceAdd, Int.reduceToNat, Int.reducePow]); (repeat' refine And.intro ?_ ?_); (try any_goals (first | (refine hK _ _ ?_; clear hK' hQ hK Q' Kn) | (intro hq9; refine ⟨hq9, ?_⟩; simp only [redB] at hq9; omega) | (intro hq9; refine ⟨hq9, fun hq8 => ?_⟩; rw [hq9, hq8]; rfl) | (simp; done) | omega | (simp only [redL]; omega) | (simp; omega) | (intros; (repeat' refine And.intro ?_ ?_) <;> (first | assumption | omega | (simp; done))))))
    (repeat' (first | refine AW.seq ?_ | refine AW.scope ?_ | refine AW.label ?_ | refine AW.block ?_ | refine AW.skip ?_ | refine AW.exit ?_ | refine AW.ret ?_ | (refine AW.regionC fun Q' Kn hQ hK hK' => ?_; (repeat simp (disch := omega) only [go_sem, redN, Nat.reduceAdd, Int.reduceToNat, Int.reducePow]); (repeat' refine And.intro ?_ ?_); (try any_goals (first | (refine hK _ _ ?_; clear hK' hQ hK Q' Kn) | (intro hq9; refine ⟨hq9, ?_⟩; simp only [redB] at hq9; omega) | (intro hq9; refine ⟨hq9, fun hq8 => ?_⟩; rw [hq9, hq8]; rfl) | (simp; done) | omega | (simp only [redL]; omega) | (simp; omega) | (intros; (repeat' refine And.intro ?_ ?_) <;> (first | assumption | omega | (simp; done)))))) | (refine AW.cond (by simp (disch := omega) only [go_sem, redN, Nat.reduceAdd, Int.reduceToNat, Int.reducePow]; rfl) (fun hb => ?_) (fun hb => ?_) <;> (try simp only [redB] at hb))))
    (refine ⟨_, _, rfl, by simp, ?_⟩; simp only [aTup, AA.get, List.getD_cons_zero, List.getD_cons_succ, true_and])
    have : k = s.length := by omega
    subst this
    rw [List.take_length] at k2
    rw [plainL, k2]; rfl
end Go.Almanac
