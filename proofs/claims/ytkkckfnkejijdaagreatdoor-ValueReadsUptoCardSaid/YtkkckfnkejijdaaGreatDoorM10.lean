/- Values: offsets are read, the document's. -/
import Derived.Test.YtkkckfnkejijdaaGreatDoorM9
/- Values: durations are read, the program's and the document's. -/
namespace Go.Almanac
open Go.RowKit Go.Proofs Go.Abs

set_option linter.unusedSimpArgs false
set_option linter.unusedVariables false
set_option linter.unusedSectionVars false
set_option maxRecDepth 10000
set_option maxHeartbeats 1000000

theorem longF_bound (s : List UInt8) : 0 ≤ (longF s).1 ∧ (longF s).1 ≤ 7000000000000 := by
  have h1 := numF_bound s 87
  have h2 := numF_bound s 68
  have h3 := clockF_bound ((numF s 68).2.1.drop 1)
  unfold longF
  (repeat' split) <;> (dsimp only; omega)
theorem sizeF_bound (s : List UInt8) : 0 ≤ (sizeF s).1 ∧ (sizeF s).1 ≤ 50000000000000 := by
  have h1 := sumF_bound sumW s
  have h2 := sumF_bound sumD (Lib.cut s [84]).1
  have h3 := sumF_bound sumT (Lib.cut s [84]).2.1
  unfold sizeF sizeC
  (repeat' split) <;> (try dsimp only) <;> omega
/-- The sign, and what is behind it. -/
def signS (s : List UInt8) : Int × List UInt8 := if Lib.hasPrefix s [45] = true then (-1, s.drop 1) else if Lib.hasPrefix s [43] = true then (1, s.drop 1) else (1, s)
def durC (c : Int × List UInt8) : Int × Int :=
  if Lib.hasPrefix c.2 [80] = false ∨ (sizeF (Lib.trimPrefix c.2 [80])).2 = false then (0, 10) else (c.1 * (sizeF (Lib.trimPrefix c.2 [80])).1, 0)
def durF (s : List UInt8) : Int × Int := durC (signS s)
theorem signS_le (s : List UInt8) : (signS s).2.length ≤ s.length := by
  unfold signS; (repeat' split) <;> simp
theorem signS_sign (s : List UInt8) : (signS s).1 = 1 ∨ (signS s).1 = -1 := by
  unfold signS; (repeat' split) <;> simp
theorem hasPre_len {s : List UInt8} {c : UInt8} (h : Lib.hasPrefix s [c] = true) : (1 : Int) ≤ s.length := by
  cases s with
  | nil => simp [Lib.hasPrefix] at h
  | cons x t => simp; omega
theorem trimP_le (s p : List UInt8) : (Lib.trimPrefix s p).length ≤ s.length := by
  unfold Lib.trimPrefix; split <;> simp

theorem t_Duration (m : Int) (s : List UInt8) (hs : s.length ≤ 1048576) (st : St) : ACalls (Ev (Gt m)) 26 [.str s] st (fun e st' => st' = st ∧ e = .ret (.tup [.int .i64 (durF s).1, .int .i64 (durF s).2])) := by
  refine ACalls.of_body Tryz.func26 rfl ?_
  rw [Tryz.ntmps26]
  simp only [List.length_cons, List.length_nil, Nat.reduceAdd, Nat.reduceSub, List.replicate_succ, List.replicate_zero, List.cons_append, List.nil_append]
  refine AW.seq ?_
  (refine AW.regionC fun Q' Kn hQ hK hK' => ?_; (repeat simp (disch := omega) only [go_sem, redN, Nat.reduceAdd, Int.reduceToNat, Int.reducePow]); (repeat' refine And.intro ?_ ?_); (try any_goals (first | (refine hK _ _ ?_; clear hK' hQ hK Q' Kn) | (intro hq9; refine ⟨hq9, ?_⟩; simp only [redB] at hq9; omega) | (intro hq9; refine ⟨hq9, fun hq8 => ?_⟩; rw [hq9, hq8]; rfl) | (simp; done) | omega | (simp only [redL]; omega) | (simp; omega) | (intros; (repeat' refine And.intro ?_ ?_) <;> (first | assumption | omega | (simp; done))))))
  simp only [AThen]
  refine AW.seq ?_
  (refine AW.regionC fun Q' Kn hQ hK hK' => ?_; (repeat simp (disch := omega) only [go_sem, redN, Nat.reduceAdd, Int.reduceToNat, Int.reducePow]); (repeat' refine And.intro ?_ ?_); (try any_goals (first | (refine hK _ _ ?_; clear hK' hQ hK Q' Kn) | (intro hq9; refine ⟨hq9, ?_⟩; simp only [redB] at hq9; omega) | (intro hq9; refine ⟨hq9, fun hq8 => ?_⟩; rw [hq9, hq8]; rfl) | (simp; done) | omega | (simp only [redL]; omega) | (simp; omega) | (intros; (repeat' refine And.intro ?_ ?_) <;> (first | assumption | omega | (simp; done))))))
  simp only [AThen]
  refine AW.seq ?_
  refine AW.block ?_
  refine AW.cutB (fun i : Int × List UInt8 => [.str i.2, .junk, .int .i64 0, .int .i64 0, .int .i64 i.1, .junk, .junk, .junk, .junk, .junk, .junk, .junk, .junk, .junk, .junk, .junk, .junk, .junk, .junk, .junk, .junk, .junk, .junk, .junk, .junk, .junk, .junk, .junk, .junk, .junk, .junk, .junk, .junk, .junk, .junk, .junk, .junk, .junk]) (fun _ => st) (fun i => i = signS s) ?_ ?_
  · (repeat' (first | refine AW.seq ?_ | refine AW.scope ?_ | refine AW.label ?_ | refine AW.block ?_ | refine AW.skip ?_ | refine AW.exit ?_ | refine AW.ret ?_))
    (refine AW.regionC fun Q' Kn hQ hK hK' => ?_; (repeat simp (disch := omega) only [go_sem, redN, Nat.reduceAdd, Int.reduceToNat, Int.reducePow]); (repeat' refine And.intro ?_ ?_); (try any_goals (first | (refine hK _ _ ?_; clear hK' hQ hK Q' Kn) | (intro hq9; refine ⟨hq9, ?_⟩; simp only [redB] at hq9; omega) | (intro hq9; refine ⟨hq9, fun hq8 => ?_⟩; rw [hq9, hq8]; rfl) | (simp; done) | omega | (simp only [redL]; omega) | (simp; omega) | (intros; (repeat' refine And.intro ?_ ?_) <;> (first | assumption | omega | (simp; done))))))
    refine AOp.call rfl (by simp only [go_sem]; rfl) (by simp [go_sem]) rfl (ACalls.mono (by simp only [go_sem]; exact b_HasPrefix (Gt m) s [45] _) ?_)
    rintro e st' ⟨rfl, rfl⟩
    (refine AOpsC_ok hK' _ _ _ ?_; (repeat simp (disch := omega) only [go_sem, redN, Nat.reduceAdd, Int.reduceToNat, Int.reducePow]); (repeat' refine And.intro ?_ ?_); (try any_goals (first | (refine hK _ _ ?_; clear hK' hQ hK Q' Kn) | (intro hq9; refine ⟨hq9, ?_⟩; simp only [redB] at hq9; omega) | (intro hq9; refine ⟨hq9, fun hq8 => ?_⟩; rw [hq9, hq8]; rfl) | (simp; done) | omega | (simp only [redL]; omega) | (simp; omega) | (intros; (repeat' refine And.intro ?_ ?_) <;> (first | assumption | omega | (simp; done))))))
    (repeat' (first | refine AW.seq ?_ | refine AW.scope ?_ | refine AW.label ?_ | refine AW.block ?_ | refine AW.skip ?_ | refine AW.exit ?_ | refine AW.ret ?_))
    (refine AW.cond (by simp (disch := omega) only [go_sem, redN, Nat.reduceAdd, Int.reduceToNat, Int.reducePow]; rfl) (fun hb => ?_) (fun hb => ?_) <;> (try simp only [redB] at hb))
    · have hl := hasPre_len hb
      have e : signS s = (-1, s.drop 1) := by rw [signS, if_pos hb]
      (repeat' (first | refine AW.seq ?_ | refine AW.scope ?_ | refine AW.label ?_ | refine AW.block ?_ | refine AW.skip ?_ | refine AW.exit ?_ | refine AW.ret ?_))
      refine AW.drawn (List.range 4) (by decide +kernel) fun Q' Kn hQ hK hK' => ?_
      refine FxC_ok _ _ _ ?_; (repeat simp (disch := omega) only [go_sem, redN, Nat.reduceAdd, Int.reduceToNat, Int.reducePow]); (repeat' refine And.intro ?_ ?_); (try any_goals (first | (refine hK _ _ ?_; clear hK' hQ hK Q' Kn) | (intro hq9; refine ⟨hq9, ?_⟩; simp only [redB] at hq9; omega) | (intro hq9; refine ⟨hq9, fun hq8 => ?_⟩; rw [hq9, hq8]; rfl) | (simp; done) | omega | (simp only [redL]; omega) | (simp; omega) | (intros; (repeat' refine And.intro ?_ ?_) <;> (first | assumption | omega | (simp; done)))))
      simp only [AInBlock, AThen]
      refine ⟨_, rfl, ?_, trivial, trivial⟩
      rw [e]
      (repeat (first | exact Weak.nil | refine Weak.junk _ ?_ | refine Weak.same _ ?_ | refine Weak.eqv (by (congr 1; first | omega | (simp; done) | exact w_i64 (by omega) (by omega))) ?_))
    · have h0 := hb
      (repeat' (first | refine AW.seq ?_ | refine AW.scope ?_ | refine AW.label ?_ | refine AW.block ?_ | refine AW.skip ?_ | refine AW.exit ?_ | refine AW.ret ?_))
      (refine AW.regionC fun Q' Kn hQ hK hK' => ?_; (repeat simp (disch := omega) only [go_sem, redN, Nat.reduceAdd, Int.reduceToNat, Int.reducePow]); (repeat' refine And.intro ?_ ?_); (try any_goals (first | (refine hK _ _ ?_; clear hK' hQ hK Q' Kn) | (intro hq9; refine ⟨hq9, ?_⟩; simp only [redB] at hq9; omega) | (intro hq9; refine ⟨hq9, fun hq8 => ?_⟩; rw [hq9, hq8]; rfl) | (simp; done) | omega | (simp only [redL]; omega) | (simp; omega) | (intros; (repeat' refine And.intro ?_ ?_) <;> (first | assumption | omega | (simp; done))))))
      refine AOp.call rfl (by simp only [go_sem]; rfl) (by simp [go_sem]) rfl (ACalls.mono (by simp only [go_sem]; exact b_HasPrefix (Gt m) s [43] _) ?_)
      rintro e st' ⟨rfl, rfl⟩
      (refine AOpsC_ok hK' _ _ _ ?_; (repeat simp (disch := omega) only [go_sem, redN, Nat.reduceAdd, Int.reduceToNat, Int.reducePow]); (repeat' refine And.intro ?_ ?_); (try any_goals (first | (refine hK _ _ ?_; clear hK' hQ hK Q' Kn) | (intro hq9; refine ⟨hq9, ?_⟩; simp only [redB] at hq9; omega) | (intro hq9; refine ⟨hq9, fun hq8 => ?_⟩; rw [hq9, hq8]; rfl) | (simp; done) | omega | (simp only [redL]; omega) | (simp; omega) | (intros; (repeat' refine And.intro ?_ ?_) <;> (first | assumption | omega | (simp; done))))))
      (repeat' (first | refine AW.seq ?_ | refine AW.scope ?_ | refine AW.label ?_ | refine AW.block ?_ | refine AW.skip ?_ | refine AW.exit ?_ | refine AW.ret ?_))
      (refine AW.cond (by simp (disch := omega) only [go_sem, redN, Nat.reduceAdd, Int.reduceToNat, Int.reducePow]; rfl) (fun hb => ?_) (fun hb => ?_) <;> (try simp only [redB] at hb))
      · have hl := hasPre_len hb
        have e : signS s = (1, s.drop 1) := by rw [signS, if_neg (by simpa using h0), if_pos hb]
        (repeat' (first | refine AW.seq ?_ | refine AW.scope ?_ | refine AW.label ?_ | refine AW.block ?_ | refine AW.skip ?_ | refine AW.exit ?_ | refine AW.ret ?_))
        (refine AW.regionC fun Q' Kn hQ hK hK' => ?_; (repeat simp (disch := omega) only [go_sem, redN, Nat.reduceAdd, Int.reduceToNat, Int.reducePow]); (repeat' refine And.intro ?_ ?_); (try any_goals (first | (refine hK _ _ ?_; clear hK' hQ hK Q' Kn) | (intro hq9; refine ⟨hq9, ?_⟩; simp only [redB] at hq9; omega) | (intro hq9; refine ⟨hq9, fun hq8 => ?_⟩; rw [hq9, hq8]; rfl) | (simp; done) | omega | (simp only [redL]; omega) | (simp; omega) | (intros; (repeat' refine And.intro ?_ ?_) <;> (first | assumption | omega | (simp; done))))))
        simp only [AInBlock, AThen]
        refine ⟨_, rfl, ?_, trivial, trivial⟩
        rw [e]
        (repeat (first | exact Weak.nil | refine Weak.junk _ ?_ | refine Weak.same _ ?_ | refine Weak.eqv (by (congr 1; first | omega | (simp; done) | exact w_i64 (by omega) (by omega))) ?_))
      · have e : signS s = (1, s) := by rw [signS, if_neg (by simpa using h0), if_neg (by simpa using hb)]
        (repeat' (first | refine AW.seq ?_ | refine AW.scope ?_ | refine AW.label ?_ | refine AW.block ?_ | refine AW.skip ?_ | refine AW.exit ?_ | refine AW.ret ?_))
        simp only [AInBlock, AThen]
        refine ⟨_, rfl, ?_, trivial, trivial⟩
        rw [e]
        (repeat (first | exact Weak.nil | refine Weak.junk _ ?_ | refine Weak.same _ ?_ | refine Weak.eqv (by (congr 1; first | omega | (simp; done) | exact w_i64 (by omega) (by omega))) ?_))
  rintro _ rfl
  have g1 := signS_le s
  have g2 := signS_sign s
  rw [durF]
  generalize signS s = c at *
  obtain ⟨sg, x⟩ := c
  dsimp only at g1 g2 ⊢
  have g4 := trimP_le x [80]
  have g5 := sizeF_bound (Lib.trimPrefix x [80])
  (repeat' (first | refine AW.seq ?_ | refine AW.scope ?_ | refine AW.label ?_ | refine AW.block ?_ | refine AW.skip ?_ | refine AW.exit ?_ | refine AW.ret ?_))
  (refine AW.regionC fun Q' Kn hQ hK hK' => ?_; (repeat simp (disch := omega) only [go_sem, redN, Nat.reduceAdd, Int.reduceToNat, Int.reducePow]); (repeat' refine And.intro ?_ ?_); (try any_goals (first | (refine hK _ _ ?_; clear hK' hQ hK Q' Kn) | (intro hq9; refine ⟨hq9, ?_⟩; simp only [redB] at hq9; omega) | (intro hq9; refine ⟨hq9, fun hq8 => ?_⟩; rw [hq9, hq8]; rfl) | (simp; done) | omega | (simp only [redL]; omega) | (simp; omega) | (intros; (repeat' refine And.intro ?_ ?_) <;> (first | assumption | omega | (simp; done))))))
  refine AOp.call rfl (by simp only [go_sem]; rfl) (by simp [go_sem]) rfl (ACalls.mono (by simp only [go_sem]; exact b_CutPrefix (Gt m) x [80] _) ?_)
  rintro e st' ⟨rfl, rfl⟩
  (refine AOpsC_ok hK' _ _ _ ?_; (repeat simp (disch := omega) only [go_sem, redN, Nat.reduceAdd, Int.reduceToNat, Int.reducePow]); (repeat' refine And.intro ?_ ?_); (try any_goals (first | (refine hK _ _ ?_; clear hK' hQ hK Q' Kn) | (intro hq9; refine ⟨hq9, ?_⟩; simp only [redB] at hq9; omega) | (intro hq9; refine ⟨hq9, fun hq8 => ?_⟩; rw [hq9, hq8]; rfl) | (simp; done) | omega | (simp only [redL]; omega) | (simp; omega) | (intros; (repeat' refine And.intro ?_ ?_) <;> (first | assumption | omega | (simp; done))))))
  generalize hy : Lib.trimPrefix x [80] = y at *
  (repeat' (first | refine AW.seq ?_ | refine AW.scope ?_ | refine AW.label ?_ | refine AW.block ?_ | refine AW.skip ?_ | refine AW.exit ?_ | refine AW.ret ?_))
  (refine AW.regionC fun Q' Kn hQ hK hK' => ?_; (repeat simp (disch := omega) only [go_sem, redN, Nat.reduceAdd, Int.reduceToNat, Int.reducePow]); (repeat' refine And.intro ?_ ?_); (try any_goals (first | (refine hK _ _ ?_; clear hK' hQ hK Q' Kn) | (intro hq9; refine ⟨hq9, ?_⟩; simp only [redB] at hq9; omega) | (intro hq9; refine ⟨hq9, fun hq8 => ?_⟩; rw [hq9, hq8]; rfl) | (simp; done) | omega | (simp only [redL]; omega) | (simp; omega) | (intros; (repeat' refine And.intro ?_ ?_) <;> (first | assumption | omega | (simp; done))))))
  refine AOp.call rfl (by simp only [go_sem]; rfl) (by simp [go_sem]) rfl (ACalls.mono (by simp only [go_sem]; exact t_size m y (by omega) _) ?_)
  rintro e st' ⟨rfl, rfl⟩
  (refine AOpsC_ok hK' _ _ _ ?_; (repeat simp (disch := omega) only [go_sem, redN, Nat.reduceAdd, Int.reduceToNat, Int.reducePow]); (repeat' refine And.intro ?_ ?_); (try any_goals (first | (refine hK _ _ ?_; clear hK' hQ hK Q' Kn) | (intro hq9; refine ⟨hq9, ?_⟩; simp only [redB] at hq9; omega) | (intro hq9; refine ⟨hq9, fun hq8 => ?_⟩; rw [hq9, hq8]; rfl) | (simp; done) | omega | (simp only [redL]; omega) | (simp; omega) | (intros; (repeat' refine And.intro ?_ ?_) <;> (first | assumption | omega | (simp; done))))))
  generalize hz : sizeF y = z at *
  obtain ⟨zv, zo⟩ := z
  dsimp only at g5 ⊢
  have hm : -50000000000000 ≤ sg * zv ∧ sg * zv ≤ 50000000000000 := by rcases g2 with rfl | rfl <;> omega
  (repeat' (first | refine AW.seq ?_ | refine AW.scope ?_ | refine AW.label ?_ | refine AW.block ?_ | refine AW.skip ?_ | refine AW.exit ?_ | refine AW.ret ?_ | (refine AW.regionC fun Q' Kn hQ hK hK' => ?_; (repeat simp (disch := omega) only [go_sem, redN, Nat.reduceAdd, Int.reduceToNat, Int.reducePow]); (repeat' refine And.intro ?_ ?_); (try any_goals (first | (refine hK _ _ ?_; clear hK' hQ hK Q' Kn) | (intro hq9; refine ⟨hq9, ?_⟩; simp only [redB] at hq9; omega) | (intro hq9; refine ⟨hq9, fun hq8 => ?_⟩; rw [hq9, hq8]; rfl) | (simp; done) | omega | (simp only [redL]; omega) | (simp; omega) | (intros; (repeat' refine And.intro ?_ ?_) <;> (first | assumption | omega | (simp; done)))))) | (refine AW.cond (by simp (disch := omega) only [go_sem, redN, Nat.reduceAdd, Int.reduceToNat, Int.reducePow]; rfl) (fun hb => ?_) (fun hb => ?_) <;> (try simp only [redB] at hb))))
  · (refine ⟨_, _, rfl, by simp, ?_⟩; simp only [aTup, AA.get, List.getD_cons_zero, List.getD_cons_succ, true_and])
    rw [durC, hy, hz, if_pos (by simpa using hb)]
  · (refine ⟨_, _, rfl, by simp, ?_⟩; simp only [aTup, AA.get, List.getD_cons_zero, List.getD_cons_succ, true_and])
    rw [durC, hy, hz, if_neg (by simpa using hb)]
end Go.Almanac

/- Values: durations are read, the document's. -/
namespace Go.Almanac
open Go.RowKit Go.Proofs Go.Abs

set_option linter.unusedSimpArgs false
set_option linter.unusedVariables false
set_option linter.unusedSectionVars false
set_option maxRecDepth 10000
set_option maxHeartbeats 1000000

def durD (c : Int × List UInt8) : Int × Int :=
  if c.2 = [] ∨ c.2.getD 0 0 ≠ 80 then (0, 10) else if (longF (c.2.drop 1)).2 = false then (0, 10) else (c.1 * (longF (c.2.drop 1)).1, 0)
theorem hasPre1 (c x : UInt8) (r : List UInt8) : Lib.hasPrefix (x :: r) [c] = (c == x) := by simp [Lib.hasPrefix, List.isPrefixOf]
theorem byte_is (c : UInt8) (n : Nat) (hn : n < 256) : (c.toNat : Int) = n ↔ c = UInt8.ofNat n := by
  have : (UInt8.ofNat n).toNat = n := by rw [UInt8.toNat_ofNat']; omega
  exact ⟨fun h => UInt8.toNat_inj.1 (by rw [this]; omega), fun e => by rw [e, this]⟩

theorem r_Duration (G : Nat → AV) (s : List UInt8) (hs : s.length ≤ 1048576) (st : St) : ACalls (Ev G) 27 [.str s] st (fun e st' => st' = st ∧ e = .ret (.tup [.int .i64 (durD (signS s)).1, .int .i64 (durD (signS s)).2])) := by
  refine ACalls.of_body Tryz.func27 rfl ?_
  rw [Tryz.ntmps27]
  simp only [List.length_cons, List.length_nil, Nat.reduceAdd, Nat.reduceSub, List.replicate_succ, List.replicate_zero, List.cons_append, List.nil_append]
  refine AW.seq ?_
  (refine AW.regionC fun Q' Kn hQ hK hK' => ?_; (repeat simp (disch := omega) only [go_sem, redN, Nat.reduceAdd, Int.reduceToNat, Int.reducePow]); (repeat' refine And.intro ?_ ?_); (try any_goals (first | (refine hK _ _ ?_; clear hK' hQ hK Q' Kn) | (intro hq9; refine ⟨hq9, ?_⟩; simp only [redB] at hq9; omega) | (intro hq9; refine ⟨hq9, fun hq8 => ?_⟩; rw [hq9, hq8]; rfl) | (simp; done) | omega | (simp only [redL]; omega) | (simp; omega) | (intros; (repeat' refine And.intro ?_ ?_) <;> (first | assumption | omega | (simp; done))))))
  simp only [AThen]
  refine AW.seq ?_
  (refine AW.regionC fun Q' Kn hQ hK hK' => ?_; (repeat simp (disch := omega) only [go_sem, redN, Nat.reduceAdd, Int.reduceToNat, Int.reducePow]); (repeat' refine And.intro ?_ ?_); (try any_goals (first | (refine hK _ _ ?_; clear hK' hQ hK Q' Kn) | (intro hq9; refine ⟨hq9, ?_⟩; simp only [redB] at hq9; omega) | (intro hq9; refine ⟨hq9, fun hq8 => ?_⟩; rw [hq9, hq8]; rfl) | (simp; done) | omega | (simp only [redL]; omega) | (simp; omega) | (intros; (repeat' refine And.intro ?_ ?_) <;> (first | assumption | omega | (simp; done))))))
  simp only [AThen]
  refine AW.seq ?_
  refine AW.cutE (fun i : Int × List UInt8 => [.str i.2, .junk, .int .i64 0, .int .i64 0, .int .i64 i.1, .junk, .junk, .junk, .junk, .junk, .junk, .junk, .junk, .junk, .junk, .junk, .junk, .junk, .junk, .junk, .junk, .junk, .junk, .junk, .junk, .junk, .junk, .junk, .junk, .junk, .junk, .junk, .junk, .junk, .junk, .junk, .junk, .junk, .junk, .junk, .junk, .junk]) (fun _ => st) (fun i => i = signS s) ?_ ?_
  · rcases s with _ | ⟨c, t⟩
    · (repeat' (first | refine AW.seq ?_ | refine AW.scope ?_ | refine AW.label ?_ | refine AW.block ?_ | refine AW.skip ?_ | refine AW.exit ?_ | refine AW.ret ?_))
      (refine AW.regionC fun Q' Kn hQ hK hK' => ?_; (repeat simp (disch := omega) only [go_sem, redN, Nat.reduceAdd, Int.reduceToNat, Int.reducePow]); (repeat' refine And.intro ?_ ?_); (try any_goals (first | (refine hK _ _ ?_; clear hK' hQ hK Q' Kn) | (intro hq9; refine ⟨hq9, ?_⟩; simp only [redB] at hq9; omega) | (intro hq9; refine ⟨hq9, fun hq8 => ?_⟩; rw [hq9, hq8]; rfl) | (simp; done) | omega | (simp only [redL]; omega) | (simp; omega) | (intros; (repeat' refine And.intro ?_ ?_) <;> (first | assumption | omega | (simp; done))))))
      (repeat' (first | refine AW.seq ?_ | refine AW.scope ?_ | refine AW.label ?_ | refine AW.block ?_ | refine AW.skip ?_ | refine AW.exit ?_ | refine AW.ret ?_))
      (refine AW.cond (by simp (disch := omega) only [go_sem, redN, Nat.reduceAdd, Int.reduceToNat, Int.reducePow]; rfl) (fun hb => ?_) (fun hb => ?_) <;> (try simp only [redB] at hb))
      · simp at hb
      · (repeat' (first | refine AW.seq ?_ | refine AW.scope ?_ | refine AW.label ?_ | refine AW.block ?_ | refine AW.skip ?_ | refine AW.exit ?_ | refine AW.ret ?_))
        refine ⟨_, rfl, ?_, rfl, rfl⟩
        rw [show signS [] = (1, []) from rfl]
        (repeat (first | exact Weak.nil | refine Weak.junk _ ?_ | refine Weak.same _ ?_ | refine Weak.eqv (by (congr 1; first | omega | (simp; done) | exact w_i64 (by omega) (by omega))) ?_))
    · have hl : ((c :: t).length : Int) = t.length + 1 := by simp
      (repeat' (first | refine AW.seq ?_ | refine AW.scope ?_ | refine AW.label ?_ | refine AW.block ?_ | refine AW.skip ?_ | refine AW.exit ?_ | refine AW.ret ?_))
      (refine AW.regionC fun Q' Kn hQ hK hK' => ?_; (repeat simp (disch := omega) only [go_sem, redN, Nat.reduceAdd, Int.reduceToNat, Int.reducePow]); (repeat' refine And.intro ?_ ?_); (try any_goals (first | (refine hK _ _ ?_; clear hK' hQ hK Q' Kn) | (intro hq9; refine ⟨hq9, ?_⟩; simp only [redB] at hq9; omega) | (intro hq9; refine ⟨hq9, fun hq8 => ?_⟩; rw [hq9, hq8]; rfl) | (simp; done) | omega | (simp only [redL]; omega) | (simp; omega) | (intros; (repeat' refine And.intro ?_ ?_) <;> (first | assumption | omega | (simp; done))))))
      (repeat' (first | refine AW.seq ?_ | refine AW.scope ?_ | refine AW.label ?_ | refine AW.block ?_ | refine AW.skip ?_ | refine AW.exit ?_ | refine AW.ret ?_))
      (refine AW.cond (by simp (disch := omega) only [go_sem, redN, Nat.reduceAdd, Int.reduceToNat, Int.reducePow]; rfl) (fun hb => ?_) (fun hb => ?_) <;> (try simp only [redB] at hb))
      · skip
        (repeat' (first | refine AW.seq ?_ | refine AW.scope ?_ | refine AW.label ?_ | refine AW.block ?_ | refine AW.skip ?_ | refine AW.exit ?_ | refine AW.ret ?_))
        (refine AW.regionC fun Q' Kn hQ hK hK' => ?_; (repeat simp (disch := omega) only [go_sem, redN, Nat.reduceAdd, Int.reduceToNat, Int.reducePow]); (repeat' refine And.intro ?_ ?_); (try any_goals (first | (refine hK _ _ ?_; clear hK' hQ hK Q' Kn) | (intro hq9; refine ⟨hq9, ?_⟩; simp only [redB] at hq9; omega) | (intro hq9; refine ⟨hq9, fun hq8 => ?_⟩; rw [hq9, hq8]; rfl) | (simp; done) | omega | (simp only [redL]; omega) | (simp; omega) | (intros; (repeat' refine And.intro ?_ ?_) <;> (first | assumption | omega | (simp; done))))))
        simp only [AThen]
        refine AW.cutE (fun i : Int => [.str (c :: t), .junk, .int .i64 0, .int .i64 0, .int .i64 i, .junk, .junk, .junk, .junk, .junk, .junk, .junk, .junk, .junk, .junk, .junk, .junk, .junk, .junk, .junk, .junk, .junk, .junk, .junk, .junk, .junk, .junk, .junk, .junk, .junk, .junk, .junk, .junk, .junk, .junk, .junk, .junk, .junk, .junk, .junk, .junk, .junk]) (fun _ => st) (fun i => signS (c :: t) = (i, t)) ?_ ?_
        · (refine AW.cond (by simp (disch := omega) only [go_sem, redN, Nat.reduceAdd, Int.reduceToNat, Int.reducePow]; rfl) (fun hb => ?_) (fun hb => ?_) <;> (try simp only [redB] at hb))
          · have e : c = 45 := (byte_is _ 45 (by decide)).1 hb
            subst e
            (repeat' (first | refine AW.seq ?_ | refine AW.scope ?_ | refine AW.label ?_ | refine AW.block ?_ | refine AW.skip ?_ | refine AW.exit ?_ | refine AW.ret ?_))
            (refine AW.regionC fun Q' Kn hQ hK hK' => ?_; (repeat simp (disch := omega) only [go_sem, redN, Nat.reduceAdd, Int.reduceToNat, Int.reducePow]); (repeat' refine And.intro ?_ ?_); (try any_goals (first | (refine hK _ _ ?_; clear hK' hQ hK Q' Kn) | (intro hq9; refine ⟨hq9, ?_⟩; simp only [redB] at hq9; omega) | (intro hq9; refine ⟨hq9, fun hq8 => ?_⟩; rw [hq9, hq8]; rfl) | (simp; done) | omega | (simp only [redL]; omega) | (simp; omega) | (intros; (repeat' refine And.intro ?_ ?_) <;> (first | assumption | omega | (simp; done))))))
            simp only [AThen]
            refine ⟨-1, rfl, ?_, trivial, trivial⟩
            (repeat (first | exact Weak.nil | refine Weak.junk _ ?_ | refine Weak.same _ ?_ | refine Weak.eqv (by (congr 1; first | omega | (simp; done) | exact w_i64 (by omega) (by omega))) ?_))
          · (repeat' (first | refine AW.seq ?_ | refine AW.scope ?_ | refine AW.label ?_ | refine AW.block ?_ | refine AW.skip ?_ | refine AW.exit ?_ | refine AW.ret ?_))
            rename_i h0
            have e : c = 43 := (byte_is _ 43 (by decide)).1 (by rcases h0.2 with h | h; exact h; exact absurd h hb)
            subst e
            refine ⟨1, rfl, ?_, rfl, rfl⟩
            (repeat (first | exact Weak.nil | refine Weak.junk _ ?_ | refine Weak.same _ ?_ | refine Weak.eqv (by (congr 1; first | omega | (simp; done) | exact w_i64 (by omega) (by omega))) ?_))
        intro i hi
        (repeat' (first | refine AW.seq ?_ | refine AW.scope ?_ | refine AW.label ?_ | refine AW.block ?_ | refine AW.skip ?_ | refine AW.exit ?_ | refine AW.ret ?_))
        (refine AW.regionC fun Q' Kn hQ hK hK' => ?_; (repeat simp (disch := omega) only [go_sem, redN, Nat.reduceAdd, Int.reduceToNat, Int.reducePow]); (repeat' refine And.intro ?_ ?_); (try any_goals (first | (refine hK _ _ ?_; clear hK' hQ hK Q' Kn) | (intro hq9; refine ⟨hq9, ?_⟩; simp only [redB] at hq9; omega) | (intro hq9; refine ⟨hq9, fun hq8 => ?_⟩; rw [hq9, hq8]; rfl) | (simp; done) | omega | (simp only [redL]; omega) | (simp; omega) | (intros; (repeat' refine And.intro ?_ ?_) <;> (first | assumption | omega | (simp; done))))))
        refine ⟨_, rfl, ?_, rfl, rfl⟩
        rw [hi]
        (repeat (first | exact Weak.nil | refine Weak.junk _ ?_ | refine Weak.same _ ?_ | refine Weak.eqv (by (congr 1; first | omega | (simp; done) | exact w_i64 (by omega) (by omega))) ?_))
      · have e : signS (c :: t) = (1, c :: t) := by
          have h := hb.resolve_left (by simp)
          have h1 : c ≠ 43 := fun e => h.1 (by rw [e]; rfl)
          have h2 : c ≠ 45 := fun e => h.2 (by rw [e]; rfl)
          rw [signS, hasPre1, hasPre1, if_neg (by simpa using fun e => h2 e.symm), if_neg (by simpa using fun e => h1 e.symm)]
        (repeat' (first | refine AW.seq ?_ | refine AW.scope ?_ | refine AW.label ?_ | refine AW.block ?_ | refine AW.skip ?_ | refine AW.exit ?_ | refine AW.ret ?_))
        refine ⟨_, rfl, ?_, rfl, rfl⟩
        rw [e]
        (repeat (first | exact Weak.nil | refine Weak.junk _ ?_ | refine Weak.same _ ?_ | refine Weak.eqv (by (congr 1; first | omega | (simp; done) | exact w_i64 (by omega) (by omega))) ?_))
  rintro _ rfl
  have g1 := signS_le s
  have g2 := signS_sign s
  generalize signS s = c at *
  obtain ⟨sg, x⟩ := c
  dsimp only at g1 g2 ⊢
  (repeat' (first | refine AW.seq ?_ | refine AW.scope ?_ | refine AW.label ?_ | refine AW.block ?_ | refine AW.skip ?_ | refine AW.exit ?_ | refine AW.ret ?_))
  (refine AW.regionC fun Q' Kn hQ hK hK' => ?_; (repeat simp (disch := omega) only [go_sem, redN, Nat.reduceAdd, Int.reduceToNat, Int.reducePow]); (repeat' refine And.intro ?_ ?_); (try any_goals (first | (refine hK _ _ ?_; clear hK' hQ hK Q' Kn) | (intro hq9; refine ⟨hq9, ?_⟩; simp only [redB] at hq9; omega) | (intro hq9; refine ⟨hq9, fun hq8 => ?_⟩; rw [hq9, hq8]; rfl) | (simp; done) | omega | (simp only [redL]; omega) | (simp; omega) | (intros; (repeat' refine And.intro ?_ ?_) <;> (first | assumption | omega | (simp; done))))))
  · exact ne_idx
  (repeat' (first | refine AW.seq ?_ | refine AW.scope ?_ | refine AW.label ?_ | refine AW.block ?_ | refine AW.skip ?_ | refine AW.exit ?_ | refine AW.ret ?_))
  (refine AW.cond (by simp (disch := omega) only [go_sem, redN, Nat.reduceAdd, Int.reduceToNat, Int.reducePow]; rfl) (fun hb => ?_) (fun hb => ?_) <;> (try simp only [redB] at hb))
  · (repeat' (first | refine AW.seq ?_ | refine AW.scope ?_ | refine AW.label ?_ | refine AW.block ?_ | refine AW.skip ?_ | refine AW.exit ?_ | refine AW.ret ?_))
    (refine AW.regionC fun Q' Kn hQ hK hK' => ?_; (repeat simp (disch := omega) only [go_sem, redN, Nat.reduceAdd, Int.reduceToNat, Int.reducePow]); (repeat' refine And.intro ?_ ?_); (try any_goals (first | (refine hK _ _ ?_; clear hK' hQ hK Q' Kn) | (intro hq9; refine ⟨hq9, ?_⟩; simp only [redB] at hq9; omega) | (intro hq9; refine ⟨hq9, fun hq8 => ?_⟩; rw [hq9, hq8]; rfl) | (simp; done) | omega | (simp only [redL]; omega) | (simp; omega) | (intros; (repeat' refine And.intro ?_ ?_) <;> (first | assumption | omega | (simp; done))))))
    (repeat' (first | refine AW.seq ?_ | refine AW.scope ?_ | refine AW.label ?_ | refine AW.block ?_ | refine AW.skip ?_ | refine AW.exit ?_ | refine AW.ret ?_))
    (refine ⟨_, _, rfl, by simp, ?_⟩; simp only [aTup, AA.get, List.getD_cons_zero, List.getD_cons_succ, true_and])
    have hb' : x = [] ∨ x.getD 0 0 ≠ 80 := hb.imp id fun h => (byte_ne _ 80 (by decide)).1 h
    rw [durD, if_pos hb']
  · skip
    (repeat' (first | refine AW.seq ?_ | refine AW.scope ?_ | refine AW.label ?_ | refine AW.block ?_ | refine AW.skip ?_ | refine AW.exit ?_ | refine AW.ret ?_))
    (refine AW.regionC fun Q' Kn hQ hK hK' => ?_; (repeat simp (disch := omega) only [go_sem, redN, Nat.reduceAdd, Int.reduceToNat, Int.reducePow]); (repeat' refine And.intro ?_ ?_); (try any_goals (first | (refine hK _ _ ?_; clear hK' hQ hK Q' Kn) | (intro hq9; refine ⟨hq9, ?_⟩; simp only [redB] at hq9; omega) | (intro hq9; refine ⟨hq9, fun hq8 => ?_⟩; rw [hq9, hq8]; rfl) | (simp; done) | omega | (simp only [redL]; omega) | (simp; omega) | (intros; (repeat' refine And.intro ?_ ?_) <;> (first | assumption | omega | (simp; done))))))
    · exact ne_len hb.1
    have e80 : x.getD 0 0 = 80 := (byte_is _ 80 (by decide)).1 hb.2
    have hb' : ¬ (x = [] ∨ x.getD 0 0 ≠ 80) := fun h => h.elim hb.1 fun h => h e80
    have g5 := longF_bound (x.drop 1)
    refine AOp.call rfl (by simp only [go_sem]; rfl) (by simp [go_sem]) rfl (ACalls.mono (by simp only [go_sem]; exact r_long G (x.drop 1) (by simp; omega) _) ?_)
    rintro e st' ⟨rfl, rfl⟩
    (refine AOpsC_ok hK' _ _ _ ?_; (repeat simp (disch := omega) only [go_sem, redN, Nat.reduceAdd, Int.reduceToNat, Int.reducePow]); (repeat' refine And.intro ?_ ?_); (try any_goals (first | (refine hK _ _ ?_; clear hK' hQ hK Q' Kn) | (intro hq9; refine ⟨hq9, ?_⟩; simp only [redB] at hq9; omega) | (intro hq9; refine ⟨hq9, fun hq8 => ?_⟩; rw [hq9, hq8]; rfl) | (simp; done) | omega | (simp only [redL]; omega) | (simp; omega) | (intros; (repeat' refine And.intro ?_ ?_) <;> (first | assumption | omega | (simp; done))))))
    have hd : durD (sg, x) = if (longF (x.drop 1)).2 = false then (0, 10) else (sg * (longF (x.drop 1)).1, 0) := by rw [durD, if_neg hb']
    generalize longF (x.drop 1) = z at *
    obtain ⟨zv, zo⟩ := z
    dsimp only at g5 hd ⊢
    have hm : -50000000000000 ≤ sg * zv ∧ sg * zv ≤ 50000000000000 := by rcases g2 with rfl | rfl <;> omega
    (repeat' (first | refine AW.seq ?_ | refine AW.scope ?_ | refine AW.label ?_ | refine AW.block ?_ | refine AW.skip ?_ | refine AW.exit ?_ | refine AW.ret ?_ | (refine AW.regionC fun Q' Kn hQ hK hK' => ?_; (repeat simp (disch := omega) only [go_sem, redN, Nat.reduceAdd, Int.reduceToNat, Int.reducePow]); (repeat' refine And.intro ?_ ?_); (try any_goals (first | (refine hK _ _ ?_; clear hK' hQ hK Q' Kn) | (intro hq9; refine ⟨hq9, ?_⟩; simp only [redB] at hq9; omega) | (intro hq9; refine ⟨hq9, fun hq8 => ?_⟩; rw [hq9, hq8]; rfl) | (simp; done) | omega | (simp only [redL]; omega) | (simp; omega) | (intros; (repeat' refine And.intro ?_ ?_) <;> (first | assumption | omega | (simp; done)))))) | (refine AW.cond (by simp (disch := omega) only [go_sem, redN, Nat.reduceAdd, Int.reduceToNat, Int.reducePow]; rfl) (fun hb => ?_) (fun hb => ?_) <;> (try simp only [redB] at hb))))
    · (refine ⟨_, _, rfl, by simp, ?_⟩; simp only [aTup, AA.get, List.getD_cons_zero, List.getD_cons_succ, true_and])
      rw [hd, if_pos (by simpa using hb)]
    · (refine ⟨_, _, rfl, by simp, ?_⟩; simp only [aTup, AA.get, List.getD_cons_zero, List.getD_cons_succ, true_and])
      rw [hd, if_neg (by simpa using hb)]
end Go.Almanac

/- Values: the program's durations are the document's (plain law). -/
namespace Go.Almanac
open Go.RowKit Go.Proofs Go.Abs

/-- A number and the letter behind it. -/
def pt (s : List UInt8) : Option (UInt8 × Int × List UInt8) := if dgN s = 0 ∨ 7 < dgN s ∨ dgN s = s.length then none else some (s.getD (dgN s) 0, (number (s.take (dgN s)) 9999999).1, s.drop (dgN s + 1))
theorem numL_dg : ∀ (s : List UInt8) (a : Nat), ∃ v, numL (s.take (dgN s)) a = some v
  | [], a => ⟨a, rfl⟩
  | c :: s, a => by
    simp only [dgN]
    split
    · rename_i h
      simp only [dig, Bool.and_eq_true, decide_eq_true_eq] at h
      obtain ⟨v, hv⟩ := numL_dg s (a * 10 + (c.toNat - 48))
      refine ⟨v, ?_⟩
      rw [List.take_succ_cons, numL, if_neg (by omega)]
      exact hv
    · exact ⟨a, rfl⟩
theorem digits_num {s : List UInt8} (h1 : 1 ≤ dgN s) (h7 : dgN s ≤ 7) : number (s.take (dgN s)) 1000000000 = ((number (s.take (dgN s)) 9999999).1, true) := by
  obtain ⟨v, hv⟩ := numL_dg s 0
  have hl := dgN_le s
  have hlen : (s.take (dgN s)).length = dgN s := by simp; omega
  have hb := numL_bound _ _ _ hv
  rw [hlen] at hb
  have hp : 10 ^ dgN s ≤ 10 ^ 7 := Nat.pow_le_pow_right (by decide) h7
  have hne : s.take (dgN s) ≠ [] := fun e => by rw [e] at hlen; simp at hlen; omega
  have e1 : ¬ 18 < (s.take (dgN s)).length := by omega
  have e2 : ¬ (s.take (dgN s) = [] ∨ (v : Int) > 1000000000) := fun h => by rcases h with h | h; exact hne h; omega
  have e3 : ¬ (s.take (dgN s) = [] ∨ (v : Int) > 9999999) := fun h => by rcases h with h | h; exact hne h; omega
  simp only [number, hv, if_neg e1, if_neg e2, if_neg e3]
theorem noPart_pt (s : List UInt8) : noPart s = (pt s).isNone := by
  unfold noPart pt
  by_cases h0 : dgN s = 0
  · rw [h0]; simp [number, numL]
  by_cases h : 7 < dgN s ∨ dgN s = s.length
  · rw [if_pos (.inr h)]
    rcases h with h | h
    · simp [h]
    · simp [h]
  · rw [if_neg (by omega), digits_num (by omega) (by omega)]
    simp
    omega
theorem part_some {s r : List UInt8} {c : UInt8} {v : Int} (h : pt s = some (c, v, r)) : partC s = c ∧ partV s = v ∧ partR s = r ∧ 1 ≤ dgN s ∧ dgN s < s.length ∧ c = s.getD (dgN s) 0 ∧ r = s.drop (dgN s + 1) := by
  have hn : noPart s = false := by rw [noPart_pt, h]; rfl
  unfold pt at h
  split at h
  · cases h
  · rename_i h0
    have hl := dgN_le s
    have hd := digits_num (s := s) (by omega) (by omega)
    simp only [Option.some.injEq, Prod.mk.injEq] at h
    obtain ⟨h1, h2, h3⟩ := h
    refine ⟨by rw [partC, if_neg (by rw [hn]; decide)]; exact h1, by rw [partV, if_neg (by rw [hn]; decide), hd]; exact h2, by rw [partR]; exact h3, by omega, by omega, h1.symm, h3.symm⟩
theorem numF_pt (s : List UInt8) (L : UInt8) : numF s L = match pt s with
    | some (c, v, r) => if c = L then (v, r, true) else (0, s, false)
    | none => (0, s, false) := by
  unfold numF pt
  by_cases h : dgN s = 0 ∨ 7 < dgN s ∨ dgN s = s.length
  · rw [if_pos h, if_pos (by omega)]
  · rw [if_neg h]
    by_cases h2 : s.getD (dgN s) 0 = L
    · rw [if_neg (by intro q; rcases q with q | q | q | q; omega; omega; omega; exact q h2)]
      simp only
      rw [if_pos h2]
    · rw [if_pos (.inr (.inr (.inr h2)))]
      simp only
      rw [if_neg h2]

theorem sumN_enough (letters : List UInt8) (secs : List Int) : ∀ (j k : Nat) (s : List UInt8) (tot at_ : Int), s.length < j → s.length < k → sumN letters secs j s tot at_ = sumN letters secs k s tot at_
  | 0, _, _, _, _, h, _ => by omega
  | j + 1, 0, _, _, _, _, h => by omega
  | j + 1, k + 1, s, tot, at_, h1, h2 => by
    simp only [sumN]
    split
    · rfl
    · rename_i h
      have := partR_lt h
      split
      · exact sumN_enough letters secs j k _ _ _ (by omega) (by omega)
      · rfl
def sumU (letters : List UInt8) (secs : List Int) (s : List UInt8) (tot at_ : Int) : Int × Bool := sumN letters secs (s.length + 1) s tot at_
theorem sumU_nil (letters : List UInt8) (secs : List Int) (tot at_ : Int) : sumU letters secs [] tot at_ = (tot, true) := by simp [sumU, sumN]
theorem pt_nil : pt [] = none := by simp [pt, dgN]
theorem sumU_none {letters : List UInt8} {secs : List Int} (hok : SumOk letters secs) {s : List UInt8} (hs : s ≠ []) (h : pt s = none) (tot at_ : Int) : sumU letters secs s tot at_ = (tot, false) := by
  have hn : noPart s = true := by rw [noPart_pt, h]; rfl
  have h0 := hok.zero
  rw [sumU, sumN, if_neg hs, partC, if_pos hn, if_neg (by omega)]
theorem sumU_some {letters : List UInt8} {secs : List Int} {s r : List UInt8} {c : UInt8} {v : Int} (h : pt s = some (c, v, r)) (tot at_ : Int) :
    sumU letters secs s tot at_ = if idx letters c ≥ 0 ∧ (at_ < 0 ∨ idx letters c = at_ + 1) then sumU letters secs r (tot + v * secs.getD (idx letters c).toNat 0) (idx letters c) else (tot, false) := by
  obtain ⟨h1, h2, h3, h4, h5, h6, h7⟩ := part_some h
  have hs : s ≠ [] := by intro e; subst e; simp at h5
  have hlt := partR_lt hs
  rw [h3] at hlt
  rw [sumU, sumN, if_neg hs, h1, h2, h3]
  split
  · exact sumN_enough _ _ _ _ _ _ _ (by omega) (by omega)
  · rfl
theorem sumF_sumU (letters : List UInt8) (secs : List Int) (s : List UInt8) : sumF letters secs s = if s = [] then (0, false) else sumU letters secs s 0 (-1) := rfl

/-- What is added is well read: the last byte is a letter. -/
theorem sumU_last {letters : List UInt8} {secs : List Int} (hok : SumOk letters secs) : ∀ (n : Nat) (s : List UInt8) (tot at_ : Int), s.length ≤ n → s ≠ [] → (sumU letters secs s tot at_).2 = true → 0 ≤ idx letters (s.getD (s.length - 1) 0)
  | 0, s, _, _, h, hs, _ => absurd (List.length_eq_zero_iff.1 (by omega)) hs
  | n + 1, s, tot, at_, h, hs, ho => by
    cases hp : pt s with
    | none => rw [sumU_none hok hs hp] at ho; cases ho
    | some q =>
      obtain ⟨c, v, r⟩ := q
      obtain ⟨h1, h2, h3, h4, h5, h6, h7⟩ := part_some hp
      rw [sumU_some hp] at ho
      split at ho
      · rename_i hk
        by_cases hr : r = []
        · have : s.length = dgN s + 1 := by have := congrArg List.length h7; rw [hr] at this; simp at this; omega
          rw [this, Nat.add_sub_cancel, ← h6]; exact hk.1
        · have hl : r.length = s.length - (dgN s + 1) := by rw [h7]; simp
          have hrp := List.length_pos_iff.2 hr
          have := sumU_last hok n r _ _ (by omega) hr ho
          have e : r.getD (r.length - 1) 0 = s.getD (s.length - 1) 0 := by
            rw [h7, getD_drop]
            congr 1
            rw [← h7]; omega
          rw [← e]; exact this
      · cases ho

theorem idx1_W : ∀ n, n < 256 → idx [87] (UInt8.ofNat n) = if UInt8.ofNat n = 87 then 0 else -1 := by decide +kernel
theorem idx1_D : ∀ n, n < 256 → idx [68] (UInt8.ofNat n) = if UInt8.ofNat n = 68 then 0 else -1 := by decide +kernel
theorem idx1_T : ∀ n, n < 256 → idx [72, 77, 83] (UInt8.ofNat n) = if UInt8.ofNat n = 72 then 0 else if UInt8.ofNat n = 77 then 1 else if UInt8.ofNat n = 83 then 2 else -1 := by decide +kernel
theorem idxW (c : UInt8) : idx [87] c = if c = 87 then 0 else -1 := by have := idx1_W c.toNat (UInt8.toNat_lt _); rwa [UInt8.ofNat_toNat] at this
theorem idxD (c : UInt8) : idx [68] c = if c = 68 then 0 else -1 := by have := idx1_D c.toNat (UInt8.toNat_lt _); rwa [UInt8.ofNat_toNat] at this
theorem idxT (c : UInt8) : idx [72, 77, 83] c = if c = 72 then 0 else if c = 77 then 1 else if c = 83 then 2 else -1 := by have := idx1_T c.toNat (UInt8.toNat_lt _); rwa [UInt8.ofNat_toNat] at this

/-- One letter. -/
theorem sum_one {L : UInt8} {w : Int} (hok : SumOk [L] [w]) (hi : ∀ c, idx [L] c = if c = L then 0 else -1) (s : List UInt8) : sumF [L] [w] s = match pt s with
    | some (c, v, r) => if c = L then (v * w, r == []) else (0, false)
    | none => (0, false) := by
  rw [sumF_sumU]
  split
  · rename_i h; subst h; rw [pt_nil]
  rename_i hs
  cases hp : pt s with
  | none => rw [sumU_none hok hs hp]
  | some q =>
    obtain ⟨c, v, r⟩ := q
    simp only
    rw [sumU_some hp, hi]
    by_cases hc : c = L
    · rw [if_pos hc, if_pos (by omega), if_pos hc]
      have e : (0 : Int) + v * ([w] : List Int).getD (0 : Int).toNat 0 = v * w := by simp
      rw [e]
      by_cases hr : r = []
      · subst hr; rw [sumU_nil]; rfl
      · have hr' : (r == []) = false := by simpa using hr
        rw [hr']
        cases hp2 : pt r with
        | none => rw [sumU_none hok hr hp2]
        | some q2 =>
          obtain ⟨c2, v2, r2⟩ := q2
          rw [sumU_some hp2, hi, if_neg (by split <;> omega)]
    · rw [if_neg hc, if_neg (by omega), if_neg hc]

/-- The same where it is good. -/
def Eq2 (a b : Int × Bool) : Prop := a.2 = b.2 ∧ (a.2 = true → a.1 = b.1)
theorem sum2 {r : List UInt8} (tot : Int) : sumU [72, 77, 83] [3600, 60, 1] r tot 2 = (tot, r == []) := by
  by_cases hr : r = []
  · subst hr; rw [sumU_nil]; rfl
  · have hr' : (r == []) = false := by simpa using hr
    rw [hr']
    cases hp : pt r with
    | none => rw [sumU_none sumT hr hp]
    | some q =>
      obtain ⟨c, v, r2⟩ := q
      rw [sumU_some hp, idxT, if_neg (by (repeat' split) <;> omega)]
theorem sum1 {r : List UInt8} (tot : Int) (hr : r ≠ []) : sumU [72, 77, 83] [3600, 60, 1] r tot 1 = match pt r with
    | some (c, v, r2) => if c = 83 then (tot + v, r2 == []) else (tot, false)
    | none => (tot, false) := by
  cases hp : pt r with
  | none => rw [sumU_none sumT hr hp]
  | some q =>
    obtain ⟨c, v, r2⟩ := q
    simp only
    rw [sumU_some hp, idxT]
    by_cases h3 : c = 83
    · subst h3
      simp only [if_neg (show ¬ (83 : UInt8) = 72 by decide), if_neg (show ¬ (83 : UInt8) = 77 by decide), if_true]
      rw [if_pos (by omega), sum2]
      simp
    · rw [if_neg (by (repeat' split) <;> omega), if_neg h3]
theorem sum0 {r : List UInt8} (tot : Int) (hr : r ≠ []) : sumU [72, 77, 83] [3600, 60, 1] r tot 0 = match pt r with
    | some (c, v, r2) => if c = 77 then sumU [72, 77, 83] [3600, 60, 1] r2 (tot + v * 60) 1 else (tot, false)
    | none => (tot, false) := by
  cases hp : pt r with
  | none => rw [sumU_none sumT hr hp]
  | some q =>
    obtain ⟨c, v, r2⟩ := q
    simp only
    rw [sumU_some hp, idxT]
    by_cases h3 : c = 77
    · subst h3
      simp only [if_neg (show ¬ (77 : UInt8) = 72 by decide), if_true]
      rw [if_pos (by omega)]
      rfl
    · rw [if_neg (by (repeat' split) <;> omega), if_neg h3]
theorem clock_sum (t : List UInt8) : Eq2 (sumF [72, 77, 83] [3600, 60, 1] t) (clockF t) := by
  rw [sumF_sumU]
  have hnn : ∀ L, pt t = none → numF t L = (0, t, false) := fun L h => by rw [numF_pt, h]
  split
  · rename_i h
    subst h
    have h0 := fun L => hnn L pt_nil
    rw [clockF, h0, h0, h0]
    exact ⟨rfl, fun h => by cases h⟩
  rename_i ht
  cases hp : pt t with
  | none =>
    have h0 := fun L => hnn L hp
    rw [sumU_none sumT ht hp, clockF, h0, h0, h0]
    exact ⟨rfl, fun h => by cases h⟩
  | some q =>
    obtain ⟨c, v, r⟩ := q
    have hn : ∀ L, numF t L = if c = L then (v, r, true) else (0, t, false) := fun L => by rw [numF_pt, hp]
    rw [sumU_some hp, idxT]
    by_cases h1 : c = 72
    · subst h1
      simp only [if_true]
      rw [if_pos (by omega)]
      have n1 : numF t 72 = (v, r, true) := by rw [hn]; rfl
      have e0 : (0 : Int) + v * ([3600, 60, 1] : List Int).getD (0 : Int).toNat 0 = v * 3600 := by simp
      rw [e0, clockF, n1]
      by_cases hr : r = []
      · subst hr
        rw [sumU_nil]
        exact ⟨rfl, fun _ => rfl⟩
      · simp only [hr, and_false, if_false, if_true]
        rw [sum0 _ hr]
        cases hp2 : pt r with
        | none =>
          have n2 : numF r 77 = (0, r, false) := by rw [numF_pt, hp2]
          rw [n2]
          simp only [Bool.false_eq_true, false_and, if_false, Bool.false_and]
          exact ⟨rfl, fun h => by cases h⟩
        | some q2 =>
          obtain ⟨c2, v2, r2⟩ := q2
          have n2 : ∀ L, numF r L = if c2 = L then (v2, r2, true) else (0, r, false) := fun L => by rw [numF_pt, hp2]
          simp only
          by_cases h2 : c2 = 77
          · subst h2
            have n3 : numF r 77 = (v2, r2, true) := by rw [n2]; rfl
            rw [n3, if_pos rfl]
            by_cases hr2 : r2 = []
            · subst hr2
              rw [sumU_nil]
              exact ⟨rfl, fun _ => rfl⟩
            · simp only [hr2, and_false, if_false]
              rw [sum1 _ hr2, numF_pt]
              cases hp3 : pt r2 with
              | none => simp only [Bool.true_and, Bool.false_and]; exact ⟨rfl, fun h => by cases h⟩
              | some q3 =>
                obtain ⟨c3, v3, r3⟩ := q3
                simp only
                by_cases h3 : c3 = 83
                · rw [if_pos h3, if_pos h3]; simp only [Bool.true_and]; exact ⟨rfl, fun _ => rfl⟩
                · rw [if_neg h3, if_neg h3]; simp only [Bool.true_and, Bool.false_and]; exact ⟨rfl, fun h => by cases h⟩
          · rw [if_neg h2, n2, if_neg h2]
            simp only [Bool.false_eq_true, false_and, if_false, Bool.false_and]
            exact ⟨rfl, fun h => by cases h⟩
    · have n1 : numF t 72 = (0, t, false) := by rw [hn, if_neg h1]
      rw [clockF, n1, if_neg h1]
      simp only [Bool.false_eq_true, false_and, if_false]
      by_cases h2 : c = 77
      · subst h2
        have n2 : numF t 77 = (v, r, true) := by rw [hn]; rfl
        rw [n2]
        simp only [if_true]
        rw [if_pos (by omega)]
        have e0 : (0 : Int) + v * ([3600, 60, 1] : List Int).getD (1 : Int).toNat 0 = v * 60 := by simp
        rw [e0]
        by_cases hr : r = []
        · subst hr
          rw [sumU_nil]
          exact ⟨rfl, fun _ => rfl⟩
        · simp only [hr, and_false, if_false]
          rw [sum1 _ hr, numF_pt]
          cases hp3 : pt r with
          | none => simp only [Bool.false_and]; exact ⟨rfl, fun h => by cases h⟩
          | some q3 =>
            obtain ⟨c3, v3, r3⟩ := q3
            simp only
            by_cases h3 : c3 = 83
            · rw [if_pos h3, if_pos h3]; simp only [Bool.true_and]; exact ⟨rfl, fun _ => rfl⟩
            · rw [if_neg h3, if_neg h3]; simp only [Bool.false_and]; exact ⟨rfl, fun h => by cases h⟩
      · have n2 : numF t 77 = (0, t, false) := by rw [hn, if_neg h2]
        rw [n2, if_neg h2]
        simp only [Bool.false_eq_true, false_and, if_false]
        by_cases h3 : c = 83
        · subst h3
          have n3 : numF t 83 = (v, r, true) := by rw [hn]; rfl
          rw [n3]
          simp only [if_true]
          rw [if_pos (by omega), sum2]
          simp only [Bool.true_and]
          exact ⟨rfl, fun _ => by simp⟩
        · have n3 : numF t 83 = (0, t, false) := by rw [hn, if_neg h3]
          rw [n3, if_neg h3, if_neg (by omega)]
          simp only [Bool.false_and]
          exact ⟨rfl, fun h => by cases h⟩
end Go.Almanac

/- Values: the program's durations are the document's (plain law, the whole). -/
namespace Go.Almanac
open Go.RowKit Go.Proofs Go.Abs

theorem index_first1 (c : UInt8) : ∀ (a r : List UInt8), c ∉ a → Lib.index (a ++ c :: r) [c] = a.length
  | [], r, _ => by simp [Lib.index, List.isPrefixOf]
  | b :: a, r, h => by
    have h1 : ¬ b = c := fun e => h (by simp [e])
    have ih := index_first1 c a r (fun q => h (by simp [q]))
    have hd : Lib.index (b :: (a ++ c :: r)) [c] = if [c].isPrefixOf (b :: (a ++ c :: r)) then 0 else if Lib.index (a ++ c :: r) [c] == -1 then -1 else Lib.index (a ++ c :: r) [c] + 1 := rfl
    rw [List.cons_append, hd, ih]
    have h2 : (c == b) = false := by simpa using fun e => h1 e.symm
    simp only [List.isPrefixOf, h2, Bool.false_and, Bool.false_eq_true, if_false]
    rw [if_neg (by simp)]
    simp
theorem index_none1 (c : UInt8) : ∀ s : List UInt8, c ∉ s → Lib.index s [c] = -1
  | [], _ => by simp [Lib.index]
  | b :: s, h => by
    have h1 : (c == b) = false := by simpa using fun e => h (by simp [e])
    have ih := index_none1 c s (fun q => h (by simp [q]))
    have hd : Lib.index (b :: s) [c] = if [c].isPrefixOf (b :: s) then 0 else if Lib.index s [c] == -1 then -1 else Lib.index s [c] + 1 := rfl
    rw [hd, ih]
    simp [List.isPrefixOf, h1]
theorem split1 (c : UInt8) : ∀ s : List UInt8, c ∉ s ∨ ∃ d t, s = d ++ c :: t ∧ c ∉ d
  | [] => .inl (by simp)
  | b :: s => by
    by_cases h : b = c
    · subst h; exact .inr ⟨[], s, rfl, by simp⟩
    · rcases split1 c s with q | ⟨d, t, q1, q2⟩
      · exact .inl (by simp only [List.mem_cons, not_or]; exact ⟨fun e => h e.symm, q⟩)
      · exact .inr ⟨b :: d, t, by rw [q1]; rfl, by simp only [List.mem_cons, not_or]; exact ⟨fun e => h e.symm, q2⟩⟩
theorem cut_none {c : UInt8} {s : List UInt8} (h : c ∉ s) : Lib.cut s [c] = (s, [], false) := by rw [Lib.cut, index_none1 c s h, if_neg (by omega)]
theorem cut_some {c : UInt8} {d : List UInt8} (t : List UInt8) (h : c ∉ d) : Lib.cut (d ++ c :: t) [c] = (d, t, true) := by
  rw [Lib.cut, index_first1 c d t h, if_pos (by omega)]
  simp
theorem suf_last {s : List UInt8} {c : UInt8} (h : Lib.hasSuffix s [c] = true) : s ≠ [] ∧ s.getD (s.length - 1) 0 = c := by
  rw [Lib.hasSuffix, List.isSuffixOf_iff_suffix] at h
  obtain ⟨t, rfl⟩ := h
  exact ⟨by simp, by simp [List.getD]⟩
theorem last_suf {s : List UInt8} {c : UInt8} (h : s ≠ []) (hc : s.getD (s.length - 1) 0 = c) : Lib.hasSuffix s [c] = true := by
  rw [Lib.hasSuffix, List.isSuffixOf_iff_suffix]
  have hp := List.length_pos_iff.2 h
  refine ⟨s.take (s.length - 1), ?_⟩
  have := take_succ_getD (s := s) (i := s.length - 1) (by omega)
  rw [show s.length - 1 + 1 = s.length from by omega, List.take_length, hc] at this
  exact this.symm
theorem dgN_app (t : List UInt8) : ∀ d : List UInt8, dgN (d ++ 84 :: t) = dgN d
  | [] => by simp [dgN, dig]
  | c :: d => by simp only [List.cons_append, dgN, dgN_app t d]
theorem dgN_pos {s : List UInt8} (h : 1 ≤ dgN s) : s.getD 0 0 ≠ 84 := by
  cases s with
  | nil => simp [dgN] at h
  | cons c s =>
    simp only [dgN] at h
    split at h
    · rename_i hd
      intro e
      simp only [List.getD_cons_zero] at e
      rw [e] at hd; revert hd; decide
    · omega
theorem pt_app_some {d t r : List UInt8} {c : UInt8} {v : Int} (h : pt d = some (c, v, r)) : pt (d ++ 84 :: t) = some (c, v, r ++ 84 :: t) := by
  obtain ⟨h1, h2, h3, h4, h5, h6, h7⟩ := part_some h
  unfold pt at h ⊢
  rw [dgN_app]
  split at h
  · cases h
  · rename_i h0
    rw [if_neg (by simp only [List.length_append, List.length_cons]; omega)]
    simp only [Option.some.injEq, Prod.mk.injEq] at h ⊢
    obtain ⟨g1, g2, g3⟩ := h
    refine ⟨?_, ?_, ?_⟩
    · rw [← g1]; simp [List.getD, List.getElem?_append_left h5]
    · rw [← g2, List.take_append_of_le_length (by omega)]
    · rw [← g3, List.drop_append_of_le_length (by omega)]
theorem pt_app_none {d t : List UInt8} (h : pt d = none) : pt (d ++ 84 :: t) = none ∨ ∃ v, pt (d ++ 84 :: t) = some (84, v, t) := by
  unfold pt at h ⊢
  rw [dgN_app]
  split at h
  · rename_i h0
    by_cases h1 : dgN d = 0 ∨ 7 < dgN d
    · exact .inl (by rw [if_pos (by omega)])
    · have h2 : dgN d = d.length := by omega
      rw [if_neg (by simp only [List.length_append, List.length_cons]; omega)]
      refine .inr ⟨(number ((d ++ 84 :: t).take (dgN d)) 9999999).1, ?_⟩
      simp only [Option.some.injEq, Prod.mk.injEq]
      refine ⟨by rw [h2]; simp [List.getD], trivial, by rw [h2]; simp⟩
  · cases h

theorem clock_last {t : List UInt8} (h : (clockF t).2 = true) : t ≠ [] ∧ 0 ≤ idx [72, 77, 83] (t.getD (t.length - 1) 0) := by
  have hc := clock_sum t
  rw [← hc.1] at h
  rw [sumF_sumU] at h
  split at h
  · cases h
  · rename_i ht
    exact ⟨ht, sumU_last sumT t.length t _ _ (Nat.le_refl _) ht h⟩
theorem long_none {s : List UInt8} (h : ∀ L, L = 87 ∨ L = 68 → numF s L = (0, s, false)) : longF s = if s = [] ∨ s.getD 0 0 ≠ 84 then (0, false) else (0 * 86400 + (clockF (s.drop 1)).1, (clockF (s.drop 1)).2) := by
  rw [longF, h 87 (.inl rfl), h 68 (.inr rfl)]
  simp only [Bool.false_eq_true, false_and, if_false]
theorem last_drop {s : List UInt8} {k : Nat} (h : k < s.length) : (s.drop k).getD ((s.drop k).length - 1) 0 = s.getD (s.length - 1) 0 := by
  rw [getD_drop, List.length_drop]
  congr 1; omega

theorem size_long (s : List UInt8) : Eq2 (sizeF s) (longF s) := by
  have no : ∀ {a b : Int}, Eq2 (a, false) (b, false) := fun {a b} => ⟨rfl, fun h => by cases h⟩
  have hnum : ∀ {c : UInt8} {v : Int} {r : List UInt8}, pt s = some (c, v, r) → ∀ L, numF s L = if c = L then (v, r, true) else (0, s, false) := fun {c v r} h L => by rw [numF_pt, h]
  have hnone : pt s = none → ∀ L, numF s L = (0, s, false) := fun h L => by rw [numF_pt, h]
  unfold sizeF
  split
  · rename_i hw
    obtain ⟨hs, hl⟩ := suf_last hw
    have hbad : ∀ t : List UInt8, (t ≠ [] → t.getD (t.length - 1) 0 = 87) → (clockF t).2 = false := fun t ht => by
      cases hq : (clockF t).2 with
      | false => rfl
      | true =>
        obtain ⟨q1, q2⟩ := clock_last hq
        rw [ht q1] at q2
        revert q2; decide +kernel
    rw [sum_one sumW idxW]
    cases hp : pt s with
    | none =>
      rw [long_none (fun L _ => hnone hp L)]
      show Eq2 (0, false) _
      split
      · exact no
      · have := hbad (s.drop 1) (fun h => by
          rw [last_drop (by have : (s.drop 1).length ≠ 0 := fun e => h (List.length_eq_zero_iff.1 e); simp at this; omega)]; exact hl)
        rw [this]; exact no
    | some q =>
      obtain ⟨c, v, r⟩ := q
      obtain ⟨p1, p2, p3, p4, p5, p6, p7⟩ := part_some hp
      simp only
      by_cases h1 : c = 87
      · rw [if_pos h1, longF, hnum hp, if_pos h1]
        simp only [if_true]
        exact ⟨rfl, fun _ => rfl⟩
      · rw [if_neg h1]
        by_cases h2 : c = 68
        · have n1 : numF s 87 = (0, s, false) := by rw [hnum hp, if_neg h1]
          have n2 : numF s 68 = (v, r, true) := by rw [hnum hp, if_pos h2]
          rw [longF, n1, n2]
          have hr : r ≠ [] := fun e => by
            have : s.length = dgN s + 1 := by have := congrArg List.length p7; rw [e] at this; simp at this; omega
            rw [this, Nat.add_sub_cancel, ← p6] at hl
            exact h1 hl
          simp only [Bool.false_eq_true, if_false, hr, and_false, false_or]
          split
          · exact no
          · have := hbad (r.drop 1) (fun h => by
              rw [p7, List.drop_drop] at h ⊢
              rw [last_drop (by have : (s.drop (dgN s + 1 + 1)).length ≠ 0 := fun e => h (List.length_eq_zero_iff.1 e); simp at this; omega)]; exact hl)
            rw [this]; exact no
        · rw [long_none (fun L hL => by rw [hnum hp, if_neg (by rcases hL with rfl | rfl; exact h1; exact h2)]), if_pos (.inr (dgN_pos p4))]
          exact no
  · rename_i hw
    rcases split1 84 s with hT | ⟨d, t, hst, hT⟩
    · rw [cut_none hT, sizeC]
      simp only [if_true]
      rw [sum_one sumD idxD]
      have hne84 : s = [] ∨ s.getD 0 0 ≠ 84 := by
        by_cases h : s = []
        · exact .inl h
        · refine .inr fun e => hT ?_
          have hp := List.length_pos_iff.2 h
          rw [← e]; simp [List.getD, List.getElem?_eq_getElem hp]
      cases hp : pt s with
      | none =>
        rw [long_none (fun L _ => hnone hp L), if_pos hne84]
        exact no
      | some q =>
        obtain ⟨c, v, r⟩ := q
        obtain ⟨p1, p2, p3, p4, p5, p6, p7⟩ := part_some hp
        simp only
        by_cases h1 : c = 87
        · rw [if_neg (by rw [h1]; decide), longF, hnum hp, if_pos h1]
          simp only [if_true]
          have hr : r ≠ [] := fun e => hw (last_suf (by intro e2; subst e2; simp at p5) (by
            have : s.length = dgN s + 1 := by have := congrArg List.length p7; rw [e] at this; simp at this; omega
            rw [this, Nat.add_sub_cancel, ← p6]; exact h1))
          have hr' : (r == []) = false := by simpa using hr
          rw [hr']; exact no
        · by_cases h2 : c = 68
          · have n1 : numF s 87 = (0, s, false) := by rw [hnum hp, if_neg h1]
            have n2 : numF s 68 = (v, r, true) := by rw [hnum hp, if_pos h2]
            rw [if_pos h2, longF, n1, n2]
            by_cases hr : r = []
            · subst hr
              exact ⟨rfl, fun _ => rfl⟩
            · have hr' : (r == []) = false := by simpa using hr
              have h84 : r.getD 0 0 ≠ 84 := fun e => hT (by
                have hp := List.length_pos_iff.2 hr
                have : r.getD 0 0 ∈ r := by simp [List.getD, List.getElem?_eq_getElem hp]
                rw [e, p7] at this
                exact List.mem_of_mem_drop this)
              simp only [Bool.false_eq_true, if_false, hr, and_false, false_or]
              rw [if_pos h84, hr']; exact no
          · rw [if_neg h2, long_none (fun L hL => by rw [hnum hp, if_neg (by rcases hL with rfl | rfl; exact h1; exact h2)]), if_pos hne84]
            exact no
    · subst hst
      rw [cut_some t hT, sizeC]
      simp only [Bool.true_eq_false, if_false]
      have hc := clock_sum t
      by_cases hd : d = []
      · subst hd
        have hp : pt ([] ++ 84 :: t) = none := by simp [pt, dgN, dig]
        rw [long_none (fun L _ => hnone hp L), if_neg (by simp)]
        have e0 : sumF [68] [86400] [] = (0, false) := rfl
        rw [e0]
        refine ⟨by simpa using hc.1, fun h => ?_⟩
        have h' : (sumF [72, 77, 83] [3600, 60, 1] t).2 = true := by simpa using h
        have := hc.2 h'
        simp only [List.nil_append, List.drop_succ_cons, List.drop_zero]
        omega
      · have hd' : (d == []) = false := by simpa using hd
        have h84 : (d ++ 84 :: t).getD 0 0 ≠ 84 := fun e => hT (by
          have hp := List.length_pos_iff.2 hd
          have : d.getD 0 0 ∈ d := by simp [List.getD, List.getElem?_eq_getElem hp]
          have e2 : (d ++ 84 :: t).getD 0 0 = d.getD 0 0 := by simp [List.getD, List.getElem?_append_left hp]
          rw [← e2, e] at this; exact this)
        rw [sum_one sumD idxD, hd']
        cases hp : pt d with
        | none =>
          have hL : ∀ L, L = 87 ∨ L = 68 → numF (d ++ 84 :: t) L = (0, d ++ 84 :: t, false) := fun L hL => by
            rcases pt_app_none (t := t) hp with q | ⟨v, q⟩
            · exact hnone q L
            · rw [hnum q, if_neg (by rcases hL with rfl | rfl <;> decide)]
          rw [long_none hL, if_pos (.inr h84)]
          simp only [Bool.or_self, Bool.and_false]
          exact no
        | some q =>
          obtain ⟨c, v, r⟩ := q
          obtain ⟨p1, p2, p3, p4, p5, p6, p7⟩ := part_some hp
          have hq := pt_app_some (t := t) hp
          simp only
          by_cases h1 : c = 87
          · rw [if_neg (by rw [h1]; decide), longF, hnum hq, if_pos h1]
            simp only [if_true, Bool.or_self, Bool.and_false]
            have hr' : (r ++ 84 :: t == []) = false := by simp
            rw [hr']; exact no
          · by_cases h2 : c = 68
            · have n1 : numF (d ++ 84 :: t) 87 = (0, d ++ 84 :: t, false) := by rw [hnum hq, if_neg h1]
              have n2 : numF (d ++ 84 :: t) 68 = (v, r ++ 84 :: t, true) := by rw [hnum hq, if_pos h2]
              rw [if_pos h2, longF, n1, n2]
              have hne : r ++ 84 :: t ≠ [] := by simp
              simp only [Bool.false_eq_true, if_false, hne, and_false, false_or, Bool.or_false]
              by_cases hr : r = []
              · subst hr
                rw [if_neg (by simp)]
                refine ⟨by simpa using hc.1, fun h => ?_⟩
                have h' : (sumF [72, 77, 83] [3600, 60, 1] t).2 = true := by simpa using h
                have := hc.2 h'
                simp only [List.nil_append, List.drop_succ_cons, List.drop_zero]
                omega
              · have hr' : (r == []) = false := by simpa using hr
                have h85 : (r ++ 84 :: t).getD 0 0 ≠ 84 := fun e => hT (by
                  have hp := List.length_pos_iff.2 hr
                  have : r.getD 0 0 ∈ r := by simp [List.getD, List.getElem?_eq_getElem hp]
                  have e2 : (r ++ 84 :: t).getD 0 0 = r.getD 0 0 := by simp [List.getD, List.getElem?_append_left hp]
                  rw [← e2, e, p7] at this
                  exact List.mem_of_mem_drop this)
                rw [if_pos h85, hr']
                simp only [Bool.and_false]
                exact no
            · rw [if_neg h2, long_none (fun L hL => by rw [hnum hq, if_neg (by rcases hL with rfl | rfl; exact h1; exact h2)]), if_pos (.inr h84)]
              simp only [Bool.or_self, Bool.and_false]
              exact no
/-- THE PROGRAM's DURATIONS ARE THE DOCUMENT's. -/
theorem dur_eq (s : List UInt8) : durD (signS s) = durF s := by
  rw [durF]
  generalize signS s = c
  obtain ⟨sg, x⟩ := c
  have hx := fun y => size_long y
  unfold durD durC
  cases x with
  | nil => simp [Lib.hasPrefix]
  | cons a t =>
    simp only [hasPre1, List.getD_cons_zero, List.drop_succ_cons, List.drop_zero]
    by_cases h : a = 80
    · subst h
      have e : Lib.trimPrefix (80 :: t) [80] = t := by simp [Lib.trimPrefix, Lib.hasPrefix, List.isPrefixOf]
      rw [if_neg (by simp), e]
      have := hx t
      cases hq : (sizeF t).2 with
      | false => rw [if_pos (by rw [← this.1]; exact hq), if_pos (.inr rfl)]
      | true => rw [if_neg (by rw [← this.1, hq]; decide), if_neg (by simp), this.2 hq]
    · rw [if_pos (.inr h), if_pos (.inl (by simpa using fun e => h e.symm))]
end Go.Almanac

/- Values: offsets are read, the program's and the document's. -/
namespace Go.Almanac
open Go.RowKit Go.Proofs Go.Abs

set_option linter.unusedSimpArgs false
set_option linter.unusedVariables false
set_option linter.unusedSectionVars false
set_option maxRecDepth 10000
set_option maxHeartbeats 1000000

theorem is43 (c : UInt8) : (c.toNat : Int) = 43 ↔ c = 43 := byte_is c 43 (by decide)
theorem is45 (c : UInt8) : (c.toNat : Int) = 45 ↔ c = 45 := byte_is c 45 (by decide)
/-- Two digits at a place. -/
def two (s : List UInt8) (k : Nat) (m : Int) : Int × Bool := number ((s.drop k).take 2) m
def offU : Nat → Int
  | 0 => 3600
  | 1 => 60
  | 2 => 1
  | _ => 0
/-- What the first places tell. -/
def offN (s : List UInt8) : Nat → Int
  | 0 => 0
  | j + 1 => offN s j + (two s (1 + 2 * j) 59).1 * offU j
def offG (s : List UInt8) : Nat → Bool
  | 0 => true
  | j + 1 => offG s j && (two s (1 + 2 * j) 59).2 && (decide (((1 + 2 * j : Nat) : Int) > 1) || decide ((two s (1 + 2 * j) 59).1 < 24))
def offC (s : List UInt8) (j : Nat) : Int × Int :=
  if offG s j = false ∨ (s.getD 0 0 ≠ 43 ∧ (s.getD 0 0 ≠ 45 ∨ offN s j = 0)) then (0, 10) else (if s.getD 0 0 = 45 then - offN s j else offN s j, 0)
def offF (s : List UInt8) : Int × Int := if s.length ≠ 5 ∧ s.length ≠ 7 then (0, 10) else offC s ((s.length - 1) / 2)
theorem two_bound (s : List UInt8) (k : Nat) (m : Int) : 0 ≤ (two s k m).1 ∧ (two s k m).1 ≤ 99 := by
  have h1 := number_nonneg ((s.drop k).take 2) m
  have h2 := number_lt ((s.drop k).take 2) m
  have h3 : ((s.drop k).take 2).length ≤ 2 := by simp; omega
  have h4 : (10 : Int) ^ ((s.drop k).take 2).length ≤ 10 ^ 2 := by
    have := Nat.pow_le_pow_right (show 0 < 10 by decide) h3
    have e : (10 : Int) ^ ((s.drop k).take 2).length = ((10 ^ ((s.drop k).take 2).length : Nat) : Int) := by simp
    rw [e]; exact_mod_cast this
  unfold two
  omega
theorem offU_bound : ∀ j, 0 ≤ offU j ∧ offU j ≤ 3600
  | 0 => by simp [offU]
  | 1 => by simp [offU]
  | 2 => by simp [offU]
  | _ + 3 => by simp [offU]
theorem offN_bound (s : List UInt8) : ∀ j, 0 ≤ offN s j ∧ offN s j ≤ 360000 * j
  | 0 => by simp [offN]
  | j + 1 => by
    have h1 := offN_bound s j
    have h2 := two_bound s (1 + 2 * j) 59
    have h3 := offU_bound j
    have h4 := Int.mul_nonneg h2.1 h3.1
    have h5 := Int.mul_le_mul h2.2 h3.2 h3.1 (by omega)
    simp only [offN]
    omega

theorem t_Offset (G : Nat → AV) (s : List UInt8) (hs : s.length ≤ 1048576) (st : St) : ACalls (Ev G) 28 [.str s] st (fun e st' => st' = st ∧ e = .ret (.tup [.int .i64 (offF s).1, .int .i64 (offF s).2])) := by
  refine ACalls.of_body Tryz.func28 rfl ?_
  rw [Tryz.ntmps28]
  simp only [List.length_cons, List.length_nil, Nat.reduceAdd, Nat.reduceSub, List.replicate_succ, List.replicate_zero, List.cons_append, List.nil_append]
  (repeat' (first | refine AW.seq ?_ | refine AW.scope ?_ | refine AW.label ?_ | refine AW.block ?_ | refine AW.skip ?_ | refine AW.exit ?_ | refine AW.ret ?_ | (refine AW.regionC fun Q' Kn hQ hK hK' => ?_; (repeat simp (disch := omega) only [go_sem, redN, Nat.reduceAdd, Int.reduceToNat, Int.reducePow]); (repeat' refine And.intro ?_ ?_); (try any_goals (first | (refine hK _ _ ?_; clear hK' hQ hK Q' Kn) | (intro hq9; refine ⟨hq9, ?_⟩; simp only [redB] at hq9; omega) | (intro hq9; refine ⟨hq9, fun hq8 => ?_⟩; rw [hq9, hq8]; rfl) | (simp; done) | omega | (simp only [redL]; omega) | (simp; omega) | (intros; (repeat' refine And.intro ?_ ?_) <;> (first | assumption | omega | (simp; done)))))) | (refine AW.cond (by simp (disch := omega) only [go_sem, redN, Nat.reduceAdd, Int.reduceToNat, Int.reducePow]; rfl) (fun hb => ?_) (fun hb => ?_) <;> (try simp only [redB] at hb))))
  · (refine ⟨_, _, rfl, by simp, ?_⟩; simp only [aTup, AA.get, List.getD_cons_zero, List.getD_cons_succ, true_and])
    rw [offF, if_pos (by omega)]
  have hl : s.length = 5 ∨ s.length = 7 := by omega
  have ho : offF s = offC s ((s.length - 1) / 2) := by rw [offF, if_neg (by omega)]
  refine AW.loopF (fun j : Nat => [.str s, .junk, .int .i64 0, .int .i64 0, .int .i64 (offN s j), .int .i64 (offU j), .bool (offG s j), .int .i64 ((1 + 2 * j : Nat) : Int), .junk, .junk, .junk, .junk, .junk, .junk, .junk, .junk, .junk, .junk, .junk, .junk, .junk, .junk, .junk, .junk, .junk, .junk, .junk, .junk, .junk, .junk, .junk, .junk, .junk, .junk, .junk, .junk, .junk, .junk, .junk, .junk, .junk, .junk, .junk, .junk, .junk, .junk, .junk, .junk, .junk, .junk, .junk, .junk, .junk, .junk, .junk, .junk, .junk, .junk, .junk, .junk, .junk, .junk, .junk, .junk, .junk, .junk, .junk, .junk, .junk, .junk, .junk, .junk, .junk, .junk]) (fun _ => st) (fun j => j ≤ 3 ∧ 1 + 2 * j ≤ s.length) (fun j => 3 - j) 0 ?_ rfl ?_ ?_
  · (repeat (first | exact Weak.nil | refine Weak.junk _ ?_ | refine Weak.same _ ?_ | refine Weak.eqv (by (congr 1; first | omega | (simp; done) | exact w_i64 (by omega) (by omega))) ?_))
  · omega
  rintro j ⟨k1, k2⟩
  have u1 := offU_bound j
  have u2 := two_bound s (1 + 2 * j) 59
  have u3 := offN_bound s j
  (repeat' (first | refine AW.seq ?_ | refine AW.scope ?_ | refine AW.label ?_ | refine AW.block ?_ | refine AW.skip ?_ | refine AW.exit ?_ | refine AW.ret ?_ | (refine AW.regionC fun Q' Kn hQ hK hK' => ?_; (repeat simp (disch := omega) only [go_sem, redN, Nat.reduceAdd, Int.reduceToNat, Int.reducePow]); (repeat' refine And.intro ?_ ?_); (try any_goals (first | (refine hK _ _ ?_; clear hK' hQ hK Q' Kn) | (intro hq9; refine ⟨hq9, ?_⟩; simp only [redB] at hq9; omega) | (intro hq9; refine ⟨hq9, fun hq8 => ?_⟩; rw [hq9, hq8]; rfl) | (simp; done) | omega | (simp only [redL]; omega) | (simp; omega) | (intros; (repeat' refine And.intro ?_ ?_) <;> (first | assumption | omega | (simp; done)))))) | (refine AW.cond (by simp (disch := omega) only [go_sem, redN, Nat.reduceAdd, Int.reduceToNat, Int.reducePow]; rfl) (fun hb => ?_) (fun hb => ?_) <;> (try simp only [redB] at hb))))
  · have e2 : (((1 + 2 * j : Nat) : Int) + 2).toNat - (1 + 2 * j) = 2 := by omega
    simp only [e2]
    refine AOp.call rfl (by simp only [go_sem]; rfl) (by simp [go_sem]) rfl (ACalls.mono (by simp only [go_sem]; exact t_Number G ((s.drop (1 + 2 * j)).take 2) 59 (by simp; omega) _) ?_)
    rintro e st' ⟨rfl, rfl⟩
    (refine AOpsC_ok hK' _ _ _ ?_; (repeat simp (disch := omega) only [go_sem, redN, Nat.reduceAdd, Int.reduceToNat, Int.reducePow]); (repeat' refine And.intro ?_ ?_); (try any_goals (first | (refine hK _ _ ?_; clear hK' hQ hK Q' Kn) | (intro hq9; refine ⟨hq9, ?_⟩; simp only [redB] at hq9; omega) | (intro hq9; refine ⟨hq9, fun hq8 => ?_⟩; rw [hq9, hq8]; rfl) | (simp; done) | omega | (simp only [redL]; omega) | (simp; omega) | (intros; (repeat' refine And.intro ?_ ?_) <;> (first | assumption | omega | (simp; done))))))
    rw [show number ((s.drop (1 + 2 * j)).take 2) 59 = two s (1 + 2 * j) 59 from rfl]
    have en : offN s (j + 1) = offN s j + (two s (1 + 2 * j) 59).1 * offU j := rfl
    have hm : 0 ≤ (two s (1 + 2 * j) 59).1 * offU j ∧ (two s (1 + 2 * j) 59).1 * offU j ≤ 360000 := by
      have h4 := Int.mul_nonneg u2.1 u1.1
      have h5 := Int.mul_le_mul u2.2 u1.2 u1.1 (by omega)
      omega
    have eu : offU (j + 1) = offU j / 60 := by
      have : j = 0 ∨ j = 1 ∨ j = 2 := by omega
      rcases this with rfl | rfl | rfl <;> rfl
    (repeat' (first | refine AW.seq ?_ | refine AW.scope ?_ | refine AW.label ?_ | refine AW.block ?_ | refine AW.skip ?_ | refine AW.exit ?_ | refine AW.ret ?_ | (refine AW.regionC fun Q' Kn hQ hK hK' => ?_; (repeat simp (disch := omega) only [go_sem, redN, Nat.reduceAdd, Int.reduceToNat, Int.reducePow]); (repeat' refine And.intro ?_ ?_); (try any_goals (first | (refine hK _ _ ?_; clear hK' hQ hK Q' Kn) | (intro hq9; refine ⟨hq9, ?_⟩; simp only [redB] at hq9; omega) | (intro hq9; refine ⟨hq9, fun hq8 => ?_⟩; rw [hq9, hq8]; rfl) | (simp; done) | omega | (simp only [redL]; omega) | (simp; omega) | (intros; (repeat' refine And.intro ?_ ?_) <;> (first | assumption | omega | (simp; done)))))) | (refine AW.cond (by simp (disch := omega) only [go_sem, redN, Nat.reduceAdd, Int.reduceToNat, Int.reducePow]; rfl) (fun hb => ?_) (fun hb => ?_) <;> (try simp only [redB] at hb))))
    refine ⟨j + 1, ⟨by omega, by omega⟩, by omega, ?_, rfl, rfl⟩
    rw [← eu]
    (repeat (first | exact Weak.nil | refine Weak.junk _ ?_ | refine Weak.same _ ?_ | refine Weak.eqv (by (congr 1; first | omega | (simp; done) | exact w_i64 (by omega) (by omega))) ?_))
  · rename_i q1 q2
    have hj : (s.length - 1) / 2 = j := by omega
    rw [is45] at q2 hb
    rw [is43] at hb
    (refine ⟨_, _, rfl, by simp, ?_⟩; simp only [aTup, AA.get, List.getD_cons_zero, List.getD_cons_succ, true_and])
    rw [ho, hj, offC, if_pos (by simpa using hb)]
  · rename_i q1 q2
    have hj : (s.length - 1) / 2 = j := by omega
    rw [is45] at q2 hb
    rw [is43] at hb
    (refine ⟨_, _, rfl, by simp, ?_⟩; simp only [aTup, AA.get, List.getD_cons_zero, List.getD_cons_succ, true_and])
    rw [ho, hj, offC, if_neg (by rintro (h | ⟨h1, h2⟩); rw [hb.1] at h; cases h; rcases hb.2 with q | q; exact h1 q; rcases h2 with h2 | h2; exact h2 q.1; exact q.2 (by omega)), if_pos q2, Int.zero_sub]
  · rename_i q1 q2
    have hj : (s.length - 1) / 2 = j := by omega
    rw [is45] at q2 hb
    rw [is43] at hb
    (refine ⟨_, _, rfl, by simp, ?_⟩; simp only [aTup, AA.get, List.getD_cons_zero, List.getD_cons_succ, true_and])
    rw [ho, hj, offC, if_pos (by simpa using hb)]
  · rename_i q1 q2
    have hj : (s.length - 1) / 2 = j := by omega
    rw [is45] at q2 hb
    rw [is43] at hb
    (refine ⟨_, _, rfl, by simp, ?_⟩; simp only [aTup, AA.get, List.getD_cons_zero, List.getD_cons_succ, true_and])
    rw [ho, hj, offC, if_neg (by rintro (h | ⟨h1, h2⟩); rw [hb.1] at h; cases h; rcases hb.2 with q | q; exact h1 q; rcases h2 with h2 | h2; exact h2 q.1; exact q.2 (by omega)), if_neg q2]
end Go.Almanac

/- Values: offsets are read, the document's. -/
namespace Go.Almanac
open Go.RowKit Go.Proofs Go.Abs

set_option linter.unusedSimpArgs false
set_option linter.unusedVariables false
set_option linter.unusedSectionVars false
set_option maxRecDepth 10000
set_option maxHeartbeats 1000000

theorem two23 (s : List UInt8) : (two s 1 23).2 = ((two s 1 59).2 && decide ((two s 1 59).1 < 24)) ∧ ((two s 1 23).2 = true → (two s 1 23).1 = (two s 1 59).1) := by
  unfold two number
  generalize (s.drop 1).take 2 = x
  by_cases h : 18 < x.length
  · simp [h]
  simp only [h, if_false]
  cases numL x 0 with
  | none => simp
  | some n =>
    by_cases h1 : x = []
    · simp [h1]
    · by_cases h2 : (n : Int) > 59
      · have h3 : (n : Int) > 23 := by omega
        simp [h1, h2, h3]
      · by_cases h3 : (n : Int) > 23
        · have h4 : ¬ (n : Int) < 24 := by omega
          simp [h1, h2, h3, h4]
        · have h4 : (n : Int) < 24 := by omega
          simp [h1, h2, h3, h4]

theorem r_two (G : Nat → AV) (s : List UInt8) (k : Nat) (m : Int) (st : St) : ACalls (Ev G) 79 [.str ((s.drop k).take 2), .int .i64 m] st (fun e st' => st' = st ∧ e = .ret (.tup [.int .i64 (two s k m).1, .bool (two s k m).2])) :=
  r_Number G _ m (by simp; omega) st

/-- The third place, if there is one. -/
def two5 (s : List UInt8) : Int × Bool := if s.length = 7 then two s 5 59 else (0, true)
theorem offF_eq {s : List UInt8} (hl : s.length = 5 ∨ s.length = 7) : offF s =
    if ((two s 1 23).2 && (two s 3 59).2 && (two5 s).2) = false ∨ (s.getD 0 0 ≠ 43 ∧ (s.getD 0 0 ≠ 45 ∨ (two s 1 23).1 * 3600 + (two s 3 59).1 * 60 + (two5 s).1 = 0)) then (0, 10)
    else (if s.getD 0 0 = 45 then - ((two s 1 23).1 * 3600 + (two s 3 59).1 * 60 + (two5 s).1) else (two s 1 23).1 * 3600 + (two s 3 59).1 * 60 + (two5 s).1, 0) := by
  obtain ⟨z1, z2⟩ := two23 s
  have key : ∀ j, offG s j = ((two s 1 23).2 && (two s 3 59).2 && (two5 s).2) → ((two s 1 23).2 = true → offN s j = (two s 1 23).1 * 3600 + (two s 3 59).1 * 60 + (two5 s).1) → offC s j =
      if ((two s 1 23).2 && (two s 3 59).2 && (two5 s).2) = false ∨ (s.getD 0 0 ≠ 43 ∧ (s.getD 0 0 ≠ 45 ∨ (two s 1 23).1 * 3600 + (two s 3 59).1 * 60 + (two5 s).1 = 0)) then (0, 10)
      else (if s.getD 0 0 = 45 then - ((two s 1 23).1 * 3600 + (two s 3 59).1 * 60 + (two5 s).1) else (two s 1 23).1 * 3600 + (two s 3 59).1 * 60 + (two5 s).1, 0) := by
    intro j h1 h2
    rw [offC, h1]
    cases hg : (two s 1 23).2 with
    | false => rw [if_pos (.inl (by simp)), if_pos (.inl (by simp))]
    | true => rw [h2 hg]
  rcases hl with h | h
  · rw [offF, if_neg (by omega), show (s.length - 1) / 2 = 2 from by omega]
    have e5 : two5 s = (0, true) := by rw [two5, if_neg (by omega)]
    refine key 2 ?_ fun hg => ?_
    · simp [offG, z1, e5]
    · simp only [offN, offU, e5, z2 hg]; simp
  · rw [offF, if_neg (by omega), show (s.length - 1) / 2 = 3 from by omega]
    have e5 : two5 s = two s 5 59 := by rw [two5, if_pos h]
    refine key 3 ?_ fun hg => ?_
    · simp [offG, z1, e5]
    · simp only [offN, offU, e5, z2 hg]; simp

theorem r_Offset (G : Nat → AV) (s : List UInt8) (hs : s.length ≤ 1048576) (st : St) : ACalls (Ev G) 29 [.str s] st (fun e st' => st' = st ∧ e = .ret (.tup [.int .i64 (offF s).1, .int .i64 (offF s).2])) := by
  refine ACalls.of_body Tryz.func29 rfl ?_
  rw [Tryz.ntmps29]
  simp only [List.length_cons, List.length_nil, Nat.reduceAdd, Nat.reduceSub, List.replicate_succ, List.replicate_zero, List.cons_append, List.nil_append]
  (repeat' (first | refine AW.seq ?_ | refine AW.scope ?_ | refine AW.label ?_ | refine AW.block ?_ | refine AW.skip ?_ | refine AW.exit ?_ | refine AW.ret ?_))
  (refine AW.regionC fun Q' Kn hQ hK hK' => ?_; (repeat simp (disch := omega) only [go_sem, redN, Nat.reduceAdd, Int.reduceToNat, Int.reducePow]); (repeat' refine And.intro ?_ ?_); (try any_goals (first | (refine hK _ _ ?_; clear hK' hQ hK Q' Kn) | (intro hq9; refine ⟨hq9, ?_⟩; simp only [redB] at hq9; omega) | (intro hq9; refine ⟨hq9, fun hq8 => ?_⟩; rw [hq9, hq8]; rfl) | (simp; done) | omega | (simp only [redL]; omega) | (simp; omega) | (intros; (repeat' refine And.intro ?_ ?_) <;> (first | assumption | omega | (simp; done))))))
  (repeat' (first | refine AW.seq ?_ | refine AW.scope ?_ | refine AW.label ?_ | refine AW.block ?_ | refine AW.skip ?_ | refine AW.exit ?_ | refine AW.ret ?_))
  (refine AW.regionC fun Q' Kn hQ hK hK' => ?_; (repeat simp (disch := omega) only [go_sem, redN, Nat.reduceAdd, Int.reduceToNat, Int.reducePow]); (repeat' refine And.intro ?_ ?_); (try any_goals (first | (refine hK _ _ ?_; clear hK' hQ hK Q' Kn) | (intro hq9; refine ⟨hq9, ?_⟩; simp only [redB] at hq9; omega) | (intro hq9; refine ⟨hq9, fun hq8 => ?_⟩; rw [hq9, hq8]; rfl) | (simp; done) | omega | (simp only [redL]; omega) | (simp; omega) | (intros; (repeat' refine And.intro ?_ ?_) <;> (first | assumption | omega | (simp; done))))))
  have q1 := two_bound s 1 23
  have q2 := two_bound s 3 59
  have q3 := two_bound s 5 59
  obtain ⟨z1, z2⟩ := two23 s
  (repeat' (first | refine AW.seq ?_ | refine AW.scope ?_ | refine AW.label ?_ | refine AW.block ?_ | refine AW.skip ?_ | refine AW.exit ?_ | refine AW.ret ?_))
  (refine AW.cond (by simp (disch := omega) only [go_sem, redN, Nat.reduceAdd, Int.reduceToNat, Int.reducePow]; rfl) (fun hb => ?_) (fun hb => ?_) <;> (try simp only [redB] at hb))
  · (repeat' (first | refine AW.seq ?_ | refine AW.scope ?_ | refine AW.label ?_ | refine AW.block ?_ | refine AW.skip ?_ | refine AW.exit ?_ | refine AW.ret ?_ | (refine AW.regionC fun Q' Kn hQ hK hK' => ?_; (repeat simp (disch := omega) only [go_sem, redN, Nat.reduceAdd, Int.reduceToNat, Int.reducePow]); (repeat' refine And.intro ?_ ?_); (try any_goals (first | (refine hK _ _ ?_; clear hK' hQ hK Q' Kn) | (intro hq9; refine ⟨hq9, ?_⟩; simp only [redB] at hq9; omega) | (intro hq9; refine ⟨hq9, fun hq8 => ?_⟩; rw [hq9, hq8]; rfl) | (simp; done) | omega | (simp only [redL]; omega) | (simp; omega) | (intros; (repeat' refine And.intro ?_ ?_) <;> (first | assumption | omega | (simp; done)))))) | (refine AW.cond (by simp (disch := omega) only [go_sem, redN, Nat.reduceAdd, Int.reduceToNat, Int.reducePow]; rfl) (fun hb => ?_) (fun hb => ?_) <;> (try simp only [redB] at hb))))
    (refine ⟨_, _, rfl, by simp, ?_⟩; simp only [aTup, AA.get, List.getD_cons_zero, List.getD_cons_succ, true_and])
    by_cases hl : s.length ≠ 5 ∧ s.length ≠ 7
    · rw [offF, if_pos hl]
    · rw [is43, is45] at hb
      have := hb.resolve_left (by omega)
      rw [offF, if_neg hl, offC, if_pos (.inr ⟨this.1, .inl this.2⟩)]
  rw [is43, is45] at hb
  have hl : s.length = 5 ∨ s.length = 7 := by omega
  skip
  (repeat' (first | refine AW.seq ?_ | refine AW.scope ?_ | refine AW.label ?_ | refine AW.block ?_ | refine AW.skip ?_ | refine AW.exit ?_ | refine AW.ret ?_))
  (refine AW.regionC fun Q' Kn hQ hK hK' => ?_; (repeat simp (disch := omega) only [go_sem, redN, Nat.reduceAdd, Int.reduceToNat, Int.reducePow]); (repeat' refine And.intro ?_ ?_); (try any_goals (first | (refine hK _ _ ?_; clear hK' hQ hK Q' Kn) | (intro hq9; refine ⟨hq9, ?_⟩; simp only [redB] at hq9; omega) | (intro hq9; refine ⟨hq9, fun hq8 => ?_⟩; rw [hq9, hq8]; rfl) | (simp; done) | omega | (simp only [redL]; omega) | (simp; omega) | (intros; (repeat' refine And.intro ?_ ?_) <;> (first | assumption | omega | (simp; done))))))
  refine AOp.call rfl (by simp only [go_sem]; rfl) (by simp [go_sem]) rfl (ACalls.mono (by simp only [go_sem]; exact r_two G s 1 23 _) ?_)
  rintro e st' ⟨rfl, rfl⟩
  (refine AOpsC_ok hK' _ _ _ ?_; (repeat simp (disch := omega) only [go_sem, redN, Nat.reduceAdd, Int.reduceToNat, Int.reducePow]); (repeat' refine And.intro ?_ ?_); (try any_goals (first | (refine hK _ _ ?_; clear hK' hQ hK Q' Kn) | (intro hq9; refine ⟨hq9, ?_⟩; simp only [redB] at hq9; omega) | (intro hq9; refine ⟨hq9, fun hq8 => ?_⟩; rw [hq9, hq8]; rfl) | (simp; done) | omega | (simp only [redL]; omega) | (simp; omega) | (intros; (repeat' refine And.intro ?_ ?_) <;> (first | assumption | omega | (simp; done))))))
  (repeat' (first | refine AW.seq ?_ | refine AW.scope ?_ | refine AW.label ?_ | refine AW.block ?_ | refine AW.skip ?_ | refine AW.exit ?_ | refine AW.ret ?_))
  (refine AW.regionC fun Q' Kn hQ hK hK' => ?_; (repeat simp (disch := omega) only [go_sem, redN, Nat.reduceAdd, Int.reduceToNat, Int.reducePow]); (repeat' refine And.intro ?_ ?_); (try any_goals (first | (refine hK _ _ ?_; clear hK' hQ hK Q' Kn) | (intro hq9; refine ⟨hq9, ?_⟩; simp only [redB] at hq9; omega) | (intro hq9; refine ⟨hq9, fun hq8 => ?_⟩; rw [hq9, hq8]; rfl) | (simp; done) | omega | (simp only [redL]; omega) | (simp; omega) | (intros; (repeat' refine And.intro ?_ ?_) <;> (first | assumption | omega | (simp; done))))))
  refine AOp.call rfl (by simp only [go_sem]; rfl) (by simp [go_sem]) rfl (ACalls.mono (by simp only [go_sem]; exact r_two G s 3 59 _) ?_)
  rintro e st' ⟨rfl, rfl⟩
  (refine AOpsC_ok hK' _ _ _ ?_; (repeat simp (disch := omega) only [go_sem, redN, Nat.reduceAdd, Int.reduceToNat, Int.reducePow]); (repeat' refine And.intro ?_ ?_); (try any_goals (first | (refine hK _ _ ?_; clear hK' hQ hK Q' Kn) | (intro hq9; refine ⟨hq9, ?_⟩; simp only [redB] at hq9; omega) | (intro hq9; refine ⟨hq9, fun hq8 => ?_⟩; rw [hq9, hq8]; rfl) | (simp; done) | omega | (simp only [redL]; omega) | (simp; omega) | (intros; (repeat' refine And.intro ?_ ?_) <;> (first | assumption | omega | (simp; done))))))
  simp only [AThen]
  refine AW.seq ?_
  (refine AW.regionC fun Q' Kn hQ hK hK' => ?_; (repeat simp (disch := omega) only [go_sem, redN, Nat.reduceAdd, Int.reduceToNat, Int.reducePow]); (repeat' refine And.intro ?_ ?_); (try any_goals (first | (refine hK _ _ ?_; clear hK' hQ hK Q' Kn) | (intro hq9; refine ⟨hq9, ?_⟩; simp only [redB] at hq9; omega) | (intro hq9; refine ⟨hq9, fun hq8 => ?_⟩; rw [hq9, hq8]; rfl) | (simp; done) | omega | (simp only [redL]; omega) | (simp; omega) | (intros; (repeat' refine And.intro ?_ ?_) <;> (first | assumption | omega | (simp; done))))))
  simp only [AThen]
  refine AW.seq ?_
  (refine AW.regionC fun Q' Kn hQ hK hK' => ?_; (repeat simp (disch := omega) only [go_sem, redN, Nat.reduceAdd, Int.reduceToNat, Int.reducePow]); (repeat' refine And.intro ?_ ?_); (try any_goals (first | (refine hK _ _ ?_; clear hK' hQ hK Q' Kn) | (intro hq9; refine ⟨hq9, ?_⟩; simp only [redB] at hq9; omega) | (intro hq9; refine ⟨hq9, fun hq8 => ?_⟩; rw [hq9, hq8]; rfl) | (simp; done) | omega | (simp only [redL]; omega) | (simp; omega) | (intros; (repeat' refine And.intro ?_ ?_) <;> (first | assumption | omega | (simp; done))))))
  simp only [AThen]
  refine AW.seq ?_
  refine AW.cutE (fun x : Int × Bool => [.str s, .junk, .int .i64 0, .int .i64 0, .int .i64 (two s 1 23).1, .bool (two s 1 23).2, .int .i64 (two s 3 59).1, .bool (two s 3 59).2, .int .i64 x.1, .bool x.2, .junk, .junk, .junk, .junk, .junk, .junk, .junk, .junk, .junk, .junk, .junk, .junk, .junk, .junk, .junk, .junk, .junk, .junk, .junk, .junk, .junk, .junk, .junk, .junk, .junk, .junk, .junk, .junk, .junk, .junk, .junk, .junk, .junk, .junk, .junk, .junk, .junk, .junk, .junk, .junk, .junk, .junk, .junk, .junk, .junk, .junk, .junk, .junk, .junk, .junk, .junk, .junk, .junk, .junk, .junk, .junk, .junk, .junk, .junk, .junk, .junk, .junk, .junk, .junk, .junk]) (fun _ => st') (fun x => x = two5 s) ?_ ?_
  · (repeat' (first | refine AW.seq ?_ | refine AW.scope ?_ | refine AW.label ?_ | refine AW.block ?_ | refine AW.skip ?_ | refine AW.exit ?_ | refine AW.ret ?_))
    (refine AW.regionC fun Q' Kn hQ hK hK' => ?_; (repeat simp (disch := omega) only [go_sem, redN, Nat.reduceAdd, Int.reduceToNat, Int.reducePow]); (repeat' refine And.intro ?_ ?_); (try any_goals (first | (refine hK _ _ ?_; clear hK' hQ hK Q' Kn) | (intro hq9; refine ⟨hq9, ?_⟩; simp only [redB] at hq9; omega) | (intro hq9; refine ⟨hq9, fun hq8 => ?_⟩; rw [hq9, hq8]; rfl) | (simp; done) | omega | (simp only [redL]; omega) | (simp; omega) | (intros; (repeat' refine And.intro ?_ ?_) <;> (first | assumption | omega | (simp; done))))))
    (repeat' (first | refine AW.seq ?_ | refine AW.scope ?_ | refine AW.label ?_ | refine AW.block ?_ | refine AW.skip ?_ | refine AW.exit ?_ | refine AW.ret ?_))
    (refine AW.cond (by simp (disch := omega) only [go_sem, redN, Nat.reduceAdd, Int.reduceToNat, Int.reducePow]; rfl) (fun hb => ?_) (fun hb => ?_) <;> (try simp only [redB] at hb))
    · skip
      (repeat' (first | refine AW.seq ?_ | refine AW.scope ?_ | refine AW.label ?_ | refine AW.block ?_ | refine AW.skip ?_ | refine AW.exit ?_ | refine AW.ret ?_))
      (refine AW.regionC fun Q' Kn hQ hK hK' => ?_; (repeat simp (disch := omega) only [go_sem, redN, Nat.reduceAdd, Int.reduceToNat, Int.reducePow]); (repeat' refine And.intro ?_ ?_); (try any_goals (first | (refine hK _ _ ?_; clear hK' hQ hK Q' Kn) | (intro hq9; refine ⟨hq9, ?_⟩; simp only [redB] at hq9; omega) | (intro hq9; refine ⟨hq9, fun hq8 => ?_⟩; rw [hq9, hq8]; rfl) | (simp; done) | omega | (simp only [redL]; omega) | (simp; omega) | (intros; (repeat' refine And.intro ?_ ?_) <;> (first | assumption | omega | (simp; done))))))
      refine AOp.call rfl (by simp only [go_sem]; rfl) (by simp [go_sem]) rfl (ACalls.mono (by simp only [go_sem]; exact r_two G s 5 59 _) ?_)
      rintro e st' ⟨rfl, rfl⟩
      (refine AOpsC_ok hK' _ _ _ ?_; (repeat simp (disch := omega) only [go_sem, redN, Nat.reduceAdd, Int.reduceToNat, Int.reducePow]); (repeat' refine And.intro ?_ ?_); (try any_goals (first | (refine hK _ _ ?_; clear hK' hQ hK Q' Kn) | (intro hq9; refine ⟨hq9, ?_⟩; simp only [redB] at hq9; omega) | (intro hq9; refine ⟨hq9, fun hq8 => ?_⟩; rw [hq9, hq8]; rfl) | (simp; done) | omega | (simp only [redL]; omega) | (simp; omega) | (intros; (repeat' refine And.intro ?_ ?_) <;> (first | assumption | omega | (simp; done))))))
      simp only [AThen]
      refine ⟨_, rfl, ?_, trivial, trivial⟩
      rw [two5, if_pos (by omega)]
      (repeat (first | exact Weak.nil | refine Weak.junk _ ?_ | refine Weak.same _ ?_ | refine Weak.eqv (by (congr 1; first | omega | (simp; done) | exact w_i64 (by omega) (by omega))) ?_))
    · (repeat' (first | refine AW.seq ?_ | refine AW.scope ?_ | refine AW.label ?_ | refine AW.block ?_ | refine AW.skip ?_ | refine AW.exit ?_ | refine AW.ret ?_))
      refine ⟨_, rfl, ?_, rfl, rfl⟩
      rw [two5, if_neg (by omega)]
      (repeat (first | exact Weak.nil | refine Weak.junk _ ?_ | refine Weak.same _ ?_ | refine Weak.eqv (by (congr 1; first | omega | (simp; done) | exact w_i64 (by omega) (by omega))) ?_))
  rintro _ rfl
  have q4 : 0 ≤ (two5 s).1 ∧ (two5 s).1 ≤ 99 := by unfold two5; split; exact q3; simp
  rw [offF_eq hl]
  generalize two s 1 23 = h at *
  generalize two s 3 59 = mm at *
  generalize two5 s = x at *
  obtain ⟨hv, ho⟩ := h
  obtain ⟨mv, mo⟩ := mm
  obtain ⟨xv, xo⟩ := x
  dsimp only at q1 q2 q4 ⊢
  have h43 := hb.2
  clear hb z1 z2 q3
  (repeat' (first | refine AW.seq ?_ | refine AW.scope ?_ | refine AW.label ?_ | refine AW.block ?_ | refine AW.skip ?_ | refine AW.exit ?_ | refine AW.ret ?_ | (refine AW.regionC fun Q' Kn hQ hK hK' => ?_; (repeat simp (disch := omega) only [go_sem, redN, Nat.reduceAdd, Int.reduceToNat, Int.reducePow]); (repeat' refine And.intro ?_ ?_); (try any_goals (first | (refine hK _ _ ?_; clear hK' hQ hK Q' Kn) | (intro hq9; refine ⟨hq9, ?_⟩; simp only [redB] at hq9; omega) | (intro hq9; refine ⟨hq9, fun hq8 => ?_⟩; rw [hq9, hq8]; rfl) | (simp; done) | omega | (simp only [redL]; omega) | (simp; omega) | (intros; (repeat' refine And.intro ?_ ?_) <;> (first | assumption | omega | (simp; done)))))) | (refine AW.cond (by simp (disch := omega) only [go_sem, redN, Nat.reduceAdd, Int.reduceToNat, Int.reducePow]; rfl) (fun hb => ?_) (fun hb => ?_) <;> (try simp only [redB] at hb))))
  · (refine ⟨_, _, rfl, by simp, ?_⟩; simp only [aTup, AA.get, List.getD_cons_zero, List.getD_cons_succ, true_and])
    rw [if_pos (.inl (by rcases hb with (h | h) | h <;> simp [h]))]
  · rename_i p1 p2
    rw [is45] at p2
    have n43 : s.getD 0 0 ≠ 43 := by rw [p2]; decide
    (refine ⟨_, _, rfl, by simp, ?_⟩; simp only [aTup, AA.get, List.getD_cons_zero, List.getD_cons_succ, true_and])
    rw [if_pos (.inr ⟨n43, .inr hb⟩)]
  · rename_i p1 p2
    rw [is45] at p2
    (refine ⟨_, _, rfl, by simp, ?_⟩; simp only [aTup, AA.get, List.getD_cons_zero, List.getD_cons_succ, true_and])
    rw [if_neg (by rintro (h | ⟨h1, h2⟩); simp [p1.1.1, p1.1.2, p1.2] at h; rcases h2 with h2 | h2; exact h2 p2; exact hb h2), if_pos p2, Int.zero_sub]
  · rename_i p1
    rw [is45] at hb
    have e43 : s.getD 0 0 = 43 := h43.resolve_right hb
    (refine ⟨_, _, rfl, by simp, ?_⟩; simp only [aTup, AA.get, List.getD_cons_zero, List.getD_cons_succ, true_and])
    rw [if_neg (by rintro (h | ⟨h1, h2⟩); simp [p1.1.1, p1.1.2, p1.2] at h; exact h1 e43), if_neg hb]
end Go.Almanac
